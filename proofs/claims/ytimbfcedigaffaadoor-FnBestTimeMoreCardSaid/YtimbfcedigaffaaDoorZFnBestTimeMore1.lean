/- The law FnBestTimeMore holds of the given program: the proof's own part, with its row and its card, part 1 of 2. -/
import Derived.Test.YtimbfcedigaffaaDoorZCH27
section
namespace Go.Proofs.YtimbfcedigaffaaDoor.P
open Go.RowKit Go.Proofs.YtimbfcedigaffaaDoorW.PrintWords Go.Proofs.YtimbfcedigaffaaDoorW.PrintLast Go.Proofs.YtimbfcedigaffaaDoorW.PrintMore
attribute [local go_sem] max2_int min2_int max_two min_two max_three min_three max_four min_four   -- for this text's walks alone
set_option linter.unusedVariables false
set_option linter.unusedSimpArgs false
def spec_BestTime.f (k : Nat) (l0 : List (S39)) (l1 : List Int) (a2 : Int) : Option (Int) := (spec_validSearch.f k l0 l1 a2).bind fun t226 => (if t226 = true then ((spec_BestOrder.f k l0 l1 a2).bind fun t227 => ((spec_order.f k l0 l1 a2 t227).bind fun t230 => ((spec_endOf.f k l0 t230).bind fun t233 => (some t233)))) else (some (-1)))
theorem spec_BestTime.mono : ∀ a0 a1 a2 k, LeO (spec_BestTime.f k a0 a1 a2) (spec_BestTime.f (k + 1) a0 a1 a2) := by
 intro a0 a1 a2 k
 unfold spec_BestTime.f
 repeat' first
   | (with_reducible exact spec_BestOrder.mono _ _ _ _)
   | (with_reducible exact spec_endOf.mono _ _ _)
   | (with_reducible exact spec_order.mono _ _ _ _ _)
   | (with_reducible exact spec_validSearch.mono _ _ _ _)
   | (with_reducible exact LeO.refl _)
   | (with_reducible exact LeO.none _)
   | (with_reducible refine LeO.ite ?_ ?_)
   | (with_reducible refine LeO.bind ?_ (fun _ => ?_))
   | exact spec_BestOrder.mono _ _ _ _
   | exact spec_endOf.mono _ _ _
   | exact spec_order.mono _ _ _ _ _
   | exact spec_validSearch.mono _ _ _ _
   | exact LeO.none _
   | refine LeO.ite ?_ ?_
   | refine LeO.bind ?_ (fun _ => ?_)
set_option maxHeartbeats 8000000 in
set_option maxRecDepth 100000 in
theorem spec_BestTime.calls (k : Nat) (A0 : Option Addr) (c0 : Nat) (l0 : List (S39)) (A1 : Option Addr) (c1 : Nat) (l1 : List Int) (a2 : Int) (r : Int) (w : World) (hr0 : Kd.C k39 w A0 l0.length l0) (hc0 : l0.length ≤ c0) (hr1 : Kd.C (Kd.int .i64) w A1 l1.length l1) (hc1 : l1.length ≤ c1) (h : spec_BestTime.f k l0 l1 a2 = some r) :
  Calls Tryd.prog 9 #[.slice A0 l0.length c0, .slice A1 l1.length c1, .int .i64 a2] w fun e w' => e = .returned (.int .i64 r) ∧ Below w.heap.size w w' := by
 have HR0 := Aside0.mk hr0
 have HC0 := Aside0.mk hc0
 clear hr0 hc0
 have HR1 := Aside0.mk hr1
 have HC1 := Aside0.mk hc1
 clear hr1 hc1
 have HB := Aside0.mk (Below.refl w.heap.size w)
 have H : ((spec_validSearch.f k l0 l1 a2).bind fun t226 => (if t226 = true then ((spec_BestOrder.f k l0 l1 a2).bind fun t227 => ((spec_order.f k l0 l1 a2 t227).bind fun t230 => ((spec_endOf.f k l0 t230).bind fun t233 => (some t233)))) else (some (-1)))) = some r := h
 clear h
 replace H := Option.bind_eq_some_iff.mp H
 obtain ⟨t226, A40, H⟩ := H
 replace H : (if t226 = true then ((spec_BestOrder.f k l0 l1 a2).bind fun t227 => ((spec_order.f k l0 l1 a2 t227).bind fun t230 => ((spec_endOf.f k l0 t230).bind fun t233 => (some t233)))) else (some (-1))) = some r := H
 have A4 := Aside0.mk A40
 clear A40
 by_cases c5 : t226 = true
 ·subst c5
  have H1 : ((spec_BestOrder.f k l0 l1 a2).bind fun t227 => ((spec_order.f k l0 l1 a2 t227).bind fun t230 => ((spec_endOf.f k l0 t230).bind fun t233 => (some t233)))) = some r := by rw [if_pos rfl] at H; exact H
  clear H
  have H := H1
  clear H1
  replace H := Option.bind_eq_some_iff.mp H
  obtain ⟨t227, A60, H⟩ := H
  replace H : ((spec_order.f k l0 l1 a2 t227).bind fun t230 => ((spec_endOf.f k l0 t230).bind fun t233 => (some t233))) = some r := H
  have A6 := Aside0.mk A60
  clear A60
  replace H := Option.bind_eq_some_iff.mp H
  obtain ⟨t230, A70, H⟩ := H
  replace H : ((spec_endOf.f k l0 t230).bind fun t233 => (some t233)) = some r := H
  have A7 := Aside0.mk A70
  clear A70
  replace H := Option.bind_eq_some_iff.mp H
  obtain ⟨t233, A80, H⟩ := H
  replace H : (some t233) = some r := H
  have A8 := Aside0.mk A80
  clear A80
  obtain rfl := Option.some.inj H
  go_enter Tryd.func9, Tryd.ntmps9
  go_wp2_with (first | ((with_reducible refine gate_callee (f := 26) rfl ?_); refine goesL_ (some 10) rfl rfl Tryd.func26 (by kernel_rfl) rfl #[.slice A0 l0.length c0, .slice A1 l1.length c1, .int .i64 a2] rfl (by (try simp only [List.map_toArray, List.map_cons, List.map_nil]); first | done | rfl | (simp only [List.length_drop, List.length_take]; rfl)) ?_; (with_reducible refine (spec_validSearch.calls k _ _ l0 _ _ l1 a2 true _ ?side1 ?side2 ?side3 ?side4 A4.out).mono ?_); (case side1 => repeat (first | exact HR0.out | (with_reducible refine Kd.C_alloc ?_ _) | (with_reducible refine Kd.C_drewN ?_ _) | (with_reducible refine Kd.C_drew ?_))); (case side2 => exact HC0.out); (case side3 => repeat (first | exact HR1.out | (with_reducible refine Kd.C_alloc ?_ _) | (with_reducible refine Kd.C_drewN ?_ _) | (with_reducible refine Kd.C_drew ?_))); (case side4 => exact HC1.out); rintro e w9 ⟨rfl, hb⟩; refine ⟨_, rfl, ?_⟩; have n0_ := Aside0.mk (below_step (by repeat (first | (with_reducible first | exact HB.out | apply below_alloc | apply pw_below_drewN | apply below_drew1) | exact HB.out)) hb); clear HB; have HB := n0_; clear n0_; (try clear hb); (try clear hb2); (try clear hk); (try clear hi)) | ((with_reducible refine gate_callee (f := 15) rfl ?_); refine goesL_ (some 19) rfl rfl Tryd.func15 (by kernel_rfl) rfl #[.slice A0 l0.length c0, .slice A1 l1.length c1, .int .i64 a2] rfl (by (try simp only [List.map_toArray, List.map_cons, List.map_nil]); first | done | rfl | (simp only [List.length_drop, List.length_take]; rfl)) ?_; (with_reducible refine (spec_BestOrder.calls k _ _ l0 _ _ l1 a2 t227 _ ?side1 ?side2 ?side3 ?side4 A6.out).mono ?_); (case side1 => repeat (first | exact (Kd.C_below HR0.out HB.out) | (with_reducible refine Kd.C_alloc ?_ _) | (with_reducible refine Kd.C_drewN ?_ _) | (with_reducible refine Kd.C_drew ?_))); (case side2 => exact HC0.out); (case side3 => repeat (first | exact (Kd.C_below HR1.out HB.out) | (with_reducible refine Kd.C_alloc ?_ _) | (with_reducible refine Kd.C_drewN ?_ _) | (with_reducible refine Kd.C_drew ?_))); (case side4 => exact HC1.out); rintro e w10 ⟨v228, rfl, ho0, hb⟩; refine ⟨_, rfl, ?_⟩; have n0_ := Aside0.mk (Kd.R_lower ho0 (below_size (by repeat (first | (with_reducible first | exact HB.out | apply below_alloc | apply pw_below_drewN | apply below_drew1) | exact HB.out)))); have n1_ := Aside0.mk (below_step (by repeat (first | (with_reducible first | exact HB.out | apply below_alloc | apply pw_below_drewN | apply below_drew1) | exact HB.out)) hb); clear HB; have HO229 := n0_; have HB := n1_; clear n0_ n1_; (try clear hb); (try clear hb2); (try clear hk); (try clear hi); (try clear ho0); obtain ⟨Ao11, co11, eo11⟩ := Kd.R_slice HO229.out; subst eo11) | ((with_reducible refine gate_callee (f := 28) rfl ?_); refine goesL_ (some 20) rfl rfl Tryd.func28 (by kernel_rfl) rfl #[.slice A0 l0.length c0, .slice A1 l1.length c1, .int .i64 a2, .slice Ao11 t227.length co11] rfl (by (try simp only [List.map_toArray, List.map_cons, List.map_nil]); first | done | rfl | (simp only [List.length_drop, List.length_take]; rfl)) ?_; (with_reducible refine (spec_order.calls k _ _ l0 _ _ l1 a2 _ _ t227 t230 _ ?side1 ?side2 ?side3 ?side4 ?side5 ?side6 A7.out).mono ?_); (case side1 => repeat (first | exact (Kd.C_below HR0.out HB.out) | (with_reducible refine Kd.C_alloc ?_ _) | (with_reducible refine Kd.C_drewN ?_ _) | (with_reducible refine Kd.C_drew ?_))); (case side2 => exact HC0.out); (case side3 => repeat (first | exact (Kd.C_below HR1.out HB.out) | (with_reducible refine Kd.C_alloc ?_ _) | (with_reducible refine Kd.C_drewN ?_ _) | (with_reducible refine Kd.C_drew ?_))); (case side4 => exact HC1.out); (case side5 => repeat (first | exact (Kd.R_reads' HO229.out).2.2 | (with_reducible refine Kd.C_alloc ?_ _) | (with_reducible refine Kd.C_drewN ?_ _) | (with_reducible refine Kd.C_drew ?_))); (case side6 => exact (Kd.R_reads' HO229.out).2.1); rintro e w12 ⟨v231, rfl, ho0, hb⟩; refine ⟨_, rfl, ?_⟩; have n0_ := Aside0.mk (Kd.R_elder' (by (with_reducible repeat (first | apply Kd.R_alloc | apply Kd.R_drewN | apply Kd.R_drew)); exact HO229.out) (Kd.R_base ho0) hb); have n1_ := Aside0.mk (Kd.R_lower (Kd.R_new' ho0 (Kd.R_lt (by (with_reducible repeat (first | apply Kd.R_alloc | apply Kd.R_drewN | apply Kd.R_drew)); exact HO229.out))) (below_size (by repeat (first | (with_reducible first | exact HB.out | apply below_alloc | apply pw_below_drewN | apply below_drew1) | exact HB.out)))); have n2_ := Aside0.mk (below_step (by repeat (first | (with_reducible first | exact HB.out | apply below_alloc | apply pw_below_drewN | apply below_drew1) | exact HB.out)) hb); clear HO229; clear HB; have HO229 := n0_; have HO232 := n1_; have HB := n2_; clear n0_ n1_ n2_; (try clear hb); (try clear hb2); (try clear hk); (try clear hi); (try clear ho0); obtain ⟨Ao13, co13, eo13⟩ := Kd.R_slice HO232.out; subst eo13) | ((with_reducible refine gate_callee (f := 27) rfl ?_); refine goesL_ (some 21) rfl rfl Tryd.func27 (by kernel_rfl) rfl #[.slice A0 l0.length c0, .slice Ao13 t230.length co13] rfl (by (try simp only [List.map_toArray, List.map_cons, List.map_nil]); first | done | rfl | (simp only [List.length_drop, List.length_take]; rfl)) ?_; (with_reducible refine (spec_endOf.calls k _ _ l0 _ _ t230 t233 _ ?side1 ?side2 ?side3 ?side4 A8.out).mono ?_); (case side1 => repeat (first | exact (Kd.C_below HR0.out HB.out) | (with_reducible refine Kd.C_alloc ?_ _) | (with_reducible refine Kd.C_drewN ?_ _) | (with_reducible refine Kd.C_drew ?_))); (case side2 => exact HC0.out); (case side3 => repeat (first | exact (Kd.R_reads' HO232.out).2.2 | (with_reducible refine Kd.C_alloc ?_ _) | (with_reducible refine Kd.C_drewN ?_ _) | (with_reducible refine Kd.C_drew ?_))); (case side4 => exact (Kd.R_reads' HO232.out).2.1); rintro e w14 ⟨rfl, hb⟩; refine ⟨_, rfl, ?_⟩; have n0_ := Aside0.mk (Kd.R_below (by (with_reducible repeat (first | apply Kd.R_alloc | apply Kd.R_drewN | apply Kd.R_drew)); exact HO229.out) hb); have n1_ := Aside0.mk (Kd.R_below (by (with_reducible repeat (first | apply Kd.R_alloc | apply Kd.R_drewN | apply Kd.R_drew)); exact HO232.out) hb); have n2_ := Aside0.mk (below_step (by repeat (first | (with_reducible first | exact HB.out | apply below_alloc | apply pw_below_drewN | apply below_drew1) | exact HB.out)) hb); clear HO229; clear HO232; clear HB; have HO229 := n0_; have HO232 := n1_; have HB := n2_; clear n0_ n1_ n2_; (try clear hb); (try clear hb2); (try clear hk); (try clear hi)))
  go_ret
  exact ⟨by first | rfl | (simp [errW_none, errW_some] <;> rfl) | (simp [*, errW_none, errW_some] <;> rfl), by repeat (first | (with_reducible first | exact HB.out | apply below_alloc | apply pw_below_drewN | apply below_drew1) | exact HB.out)⟩
 ·replace c5 := Bool.eq_false_iff.mpr c5
  subst c5
  have H1 : (some (-1)) = some r := by rw [if_neg (show ¬ (false = true) by decide)] at H; exact H
  clear H
  have H := H1
  clear H1
  obtain rfl := Option.some.inj H
  go_enter Tryd.func9, Tryd.ntmps9
  go_wp2_with (first | ((with_reducible refine gate_callee (f := 26) rfl ?_); refine goesL_ (some 10) rfl rfl Tryd.func26 (by kernel_rfl) rfl #[.slice A0 l0.length c0, .slice A1 l1.length c1, .int .i64 a2] rfl (by (try simp only [List.map_toArray, List.map_cons, List.map_nil]); first | done | rfl | (simp only [List.length_drop, List.length_take]; rfl)) ?_; (with_reducible refine (spec_validSearch.calls k _ _ l0 _ _ l1 a2 false _ ?side1 ?side2 ?side3 ?side4 A4.out).mono ?_); (case side1 => repeat (first | exact HR0.out | (with_reducible refine Kd.C_alloc ?_ _) | (with_reducible refine Kd.C_drewN ?_ _) | (with_reducible refine Kd.C_drew ?_))); (case side2 => exact HC0.out); (case side3 => repeat (first | exact HR1.out | (with_reducible refine Kd.C_alloc ?_ _) | (with_reducible refine Kd.C_drewN ?_ _) | (with_reducible refine Kd.C_drew ?_))); (case side4 => exact HC1.out); rintro e w15 ⟨rfl, hb⟩; refine ⟨_, rfl, ?_⟩; have n0_ := Aside0.mk (below_step (by repeat (first | (with_reducible first | exact HB.out | apply below_alloc | apply pw_below_drewN | apply below_drew1) | exact HB.out)) hb); clear HB; have HB := n0_; clear n0_; (try clear hb); (try clear hb2); (try clear hk); (try clear hi)))
  go_ret
  exact ⟨by first | rfl | (simp [errW_none, errW_some] <;> rfl) | (simp [*, errW_none, errW_some] <;> rfl), by repeat (first | (with_reducible first | exact HB.out | apply below_alloc | apply pw_below_drewN | apply below_drew1) | exact HB.out)⟩
end Go.Proofs.YtimbfcedigaffaaDoor.P
end
section
namespace Go.Proofs.YtimbfcedigaffaaDoor.P
open Go.RowKit Go.Proofs.YtimbfcedigaffaaDoorW.PrintWords Go.Proofs.YtimbfcedigaffaaDoorW.PrintLast Go.Proofs.YtimbfcedigaffaaDoorW.PrintMore
attribute [local go_sem] max2_int min2_int max_two min_two max_three min_three max_four min_four   -- for this text's walks alone
set_option linter.unusedVariables false
set_option linter.unusedSimpArgs false
def laws_allTime.l0 : Nat → List (S39) → Int → Int → Option (Int)
 | 0, _, _, _ => none
 | k + 1, x0, x3, x4 => if x4 < (x0.length : Int) then (if 0 ≤ x4 then (laws_allTime.l0 k x0 (wrap64 (x3 + ((rd_T39 x0 x4).f0))) (wrap64 (x4 + 1))) else (none)) else (some x3)
def laws_allTime.f (k : Nat) (l0 : List (S39)) : Option (Int) := laws_allTime.l0 k l0 0 0
theorem laws_allTime.mono_l : ∀ k, (∀ y0 y1 y2, LeO (laws_allTime.l0 k y0 y1 y2) (laws_allTime.l0 (k + 1) y0 y1 y2))
 | 0 => fun _ _ _ r h => by simp [laws_allTime.l0] at h
 | k + 1 => by
  have ih0 := laws_allTime.mono_l k
  ·intro y0 y1 y2
   unfold laws_allTime.l0
   repeat' first
   | (with_reducible exact ih0 _ _ _)
   | (with_reducible exact LeO.refl _)
   | (with_reducible exact LeO.none _)
   | (with_reducible refine LeO.ite ?_ ?_)
   | (with_reducible refine LeO.bind ?_ (fun _ => ?_))
   | exact ih0 _ _ _
   | exact LeO.none _
   | refine LeO.ite ?_ ?_
   | refine LeO.bind ?_ (fun _ => ?_)
theorem laws_allTime.mono : ∀ a0 k, LeO (laws_allTime.f k a0) (laws_allTime.f (k + 1) a0) := by
 intro a0 k
 have ih0 := laws_allTime.mono_l k
 unfold laws_allTime.f
 repeat' first
   | (with_reducible exact ih0 _ _ _)
   | (with_reducible exact LeO.refl _)
   | (with_reducible exact LeO.none _)
   | (with_reducible refine LeO.ite ?_ ?_)
   | (with_reducible refine LeO.bind ?_ (fun _ => ?_))
   | exact ih0 _ _ _
   | exact LeO.none _
   | refine LeO.ite ?_ ?_
   | refine LeO.bind ?_ (fun _ => ?_)
set_option maxHeartbeats 8000000 in
set_option maxRecDepth 100000 in
theorem laws_allTime.calls (k : Nat) (A0 : Option Addr) (c0 : Nat) (l0 : List (S39)) (r : Int) (w : World) (hr0 : Kd.C k39 w A0 l0.length l0) (hc0 : l0.length ≤ c0) (h : laws_allTime.f k l0 = some r) :
  Calls Tryd.prog 23 #[.slice A0 l0.length c0] w fun e w' => e = .returned (.int .i64 r) ∧ Drawn0 w w' := by
 have HR0 := Aside0.mk hr0
 have HC0 := Aside0.mk hc0
 clear hr0 hc0
 have H : (laws_allTime.l0 k l0 0 0) = some r := h
 clear h
 have H' := Aside0.mk H
 clear H
 go_enter Tryd.func23, Tryd.ntmps23
 go_wp2
 go_loopg [3, 4] k (fun kq v3 v4 w' => ∃ (x3_1 : Int) (x4_1 : Int), v3 = .int .i64 x3_1 ∧ v4 = .int .i64 x4_1 ∧ Aside0 (laws_allTime.l0 kq l0 x3_1 x4_1 = some r) ∧ Aside0 (kq ≤ k) ∧ Drawn0 w w')
 case atStart => exact ⟨(0), (0), (by first | rfl | (simp; done) | (simp [*]; done)), (by first | rfl | (simp; done) | (simp [*]; done)), H', ⟨Nat.le_refl _⟩, by repeat (first | exact Drawn0.refl _ | apply Drawn0.step)⟩
 case round =>
  clear H'
  obtain ⟨x3_1, x4_1, rfl, rfl, HA, HK1, ⟨m1, rfl⟩⟩ := hrel
  cases gk with
  | zero => exact absurd HA.out (by simp [laws_allTime.l0])
  | succ k1 =>
   have H := HA.out
   clear HA
   simp only [laws_allTime.l0] at H
   by_cases c2 : x4_1 < (l0.length : Int)
   ·rw [if_pos c2] at H
    have c2b0 : decide (x4_1 < (l0.length : Int)) = true := decide_eq_true c2
    clear c2
    by_cases c3 : 0 ≤ x4_1
    ·rw [if_pos c3] at H
     have c3b0 : decide (0 ≤ x4_1) = true := decide_eq_true c3
     clear c3
     have H' := Aside0.mk H
     clear H
     have p527 : 0 ≤ (x4_1 : Int) := of_decide_eq_true (by first | (with_reducible assumption) | assumption)
     have q527 : x4_1 < (l0.length : Int) := of_decide_eq_true (by first | (with_reducible assumption) | assumption)
     obtain ⟨ad527, A527_1, c527_1, e527, hx527_0, hx527_1, hx527_2, hx527_3, hl527_1, hi527_1⟩ := at_T39 HR0.out x4_1 p527 q527
     cases e527
     have HR527_1 := Aside0.mk hi527_1
     have HC527_1 := Aside0.mk hl527_1
     clear hi527_1 hl527_1
     replace p527 := eq_true p527
     replace q527 := eq_true q527
     go_wp2
     go_roundg k1
     case measure => have := HK1.out; omega
     case rel => exact ⟨(wrap64 (x3_1 + ((rd_T39 l0 x4_1).f0))), (wrap64 (x4_1 + 1)), (by first | rfl | (simp; done) | (simp [*]; done)), (by first | rfl | (simp; done) | (simp [*]; done)), H', ⟨by have := HK1.out; omega⟩, by repeat (first | exact Drawn0.refl _ | apply Drawn0.step)⟩
    ·rw [if_neg c3] at H
     exact absurd H (by simp)
   ·rw [if_neg c2] at H
    have c2b0 : decide (x4_1 < (l0.length : Int)) = false := decide_eq_false c2
    clear c2
    obtain rfl := Option.some.inj H
    go_wp2
    go_ret
    exact ⟨by first | rfl | (simp; done) | (simp [*]; done), by repeat (first | exact Drawn0.refl _ | apply Drawn0.step)⟩
end Go.Proofs.YtimbfcedigaffaaDoor.P
end
section
set_option linter.unusedVariables false
set_option linter.unusedSimpArgs false
namespace Go.Proofs.YtimbfcedigaffaaDoor.Core
open Go Go.RowKit Go.Proofs.YtimbfcedigaffaaDoorW.PrintWords Go.Proofs.YtimbfcedigaffaaDoorW.PrintMore Go.Proofs.YtimbfcedigaffaaDoor.P
def bestTD (g : List Tk) (room : List Int) (wk : Int) : Int := match bestD g room wk with | none => -1 | some b => (b.2 : Int)
end Go.Proofs.YtimbfcedigaffaaDoor.Core
end
section
set_option linter.unusedVariables false
set_option linter.unusedSimpArgs false
namespace Go.Proofs.YtimbfcedigaffaaDoor.Core
open Go Go.RowKit Go.Proofs.YtimbfcedigaffaaDoorW.PrintWords Go.Proofs.YtimbfcedigaffaaDoorW.PrintMore Go.Proofs.YtimbfcedigaffaaDoor.P
theorem ev_BestTime' {g : List Tk} (hg : Fits g) {room : List Int} {wk : Int} (hr : room.length < big) : Ev (fun k => spec_BestTime.f k g room wk) (bestTD g room wk) := by
 have hvs := ev_validSearch hg hr wk
 obtain ⟨hbo, hb⟩ := ev_BestOrder' hg (room := room) (wk := wk) hr
 unfold spec_BestTime.f
 refine Ev.bind hvs ?_
 cases hfew : fewD g room wk with
 | none =>
  have e : bestTD g room wk = -1 := by unfold bestTD bestD; rw [hfew]
  rw [e]
  exact Ev.neg (by simp) (Ev.const _)
 | some G =>
  obtain ⟨b, h1, h2, h3⟩ := hb G hfew
  have e1 : bestTD g room wk = (b.2 : Int) := by unfold bestTD; rw [h1]
  have e2 : bestOD g room wk = b.1 := by unfold bestOD; rw [h1]
  obtain ⟨-, h4, h5⟩ := ord_ev hfew b.1 h2
  rw [e2] at hbo
  rw [e1, h3]
  exact Ev.pos rfl (Ev.bind hbo (Ev.bind h4 (Ev.bind h5 (Ev.const _))))
end Go.Proofs.YtimbfcedigaffaaDoor.Core
end
section
set_option linter.unusedVariables false
set_option linter.unusedSimpArgs false
namespace Go.Proofs.YtimbfcedigaffaaDoor.Core
open Go Go.RowKit Go.Proofs.YtimbfcedigaffaaDoorW.PrintWords Go.Proofs.YtimbfcedigaffaaDoorW.PrintMore Go.Proofs.YtimbfcedigaffaaDoor.P
theorem usedN_sub {g : List Tk} {p : Int} : ∀ {L M : List Nat}, List.Sublist M L → UOk g L → usedN g p M ≤ usedN g p L
 | _, _, .slnil, _ => Int.le_refl _
 | _, _, .cons (l₂ := L) i h, hu => by
  have ih := usedN_sub (p := p) h (fun j hj => hu j (List.mem_cons_of_mem _ hj))
  have := hu i List.mem_cons_self
  simp only [usedN]
  split <;> omega
 | _, _, .cons_cons i h, hu => by
  have ih := usedN_sub (p := p) h (fun j hj => hu j (List.mem_cons_of_mem _ hj))
  simp only [usedN]
  omega
theorem filter_sub {a b : Nat → Bool} (h : ∀ k, a k = true → b k = true) : ∀ R : List Nat, List.Sublist (R.filter a) (R.filter b)
 | [] => .slnil
 | k :: R => by
  cases ha : a k with
  | true =>
   rw [List.filter_cons_of_pos ha, List.filter_cons_of_pos (h k ha)]
   exact .cons_cons _ (filter_sub h R)
  | false =>
   rw [List.filter_cons_of_neg (by rw [ha]; exact Bool.false_ne_true)]
   cases hb : b k with
   | true => rw [List.filter_cons_of_pos hb]; exact .cons _ (filter_sub h R)
   | false => rw [List.filter_cons_of_neg (by rw [hb]; exact Bool.false_ne_true)]; exact filter_sub h R
end Go.Proofs.YtimbfcedigaffaaDoor.Core
end
section
set_option linter.unusedVariables false
set_option linter.unusedSimpArgs false
namespace Go.Proofs.YtimbfcedigaffaaDoor.Core
open Go Go.RowKit Go.Proofs.YtimbfcedigaffaaDoorW.PrintWords Go.Proofs.YtimbfcedigaffaaDoorW.PrintMore Go.Proofs.YtimbfcedigaffaaDoor.P
/-- The best time for one worker. -/
theorem bestTD_one {g : List Tk} (hg : Fits g) {room : List Int} (hr : room.length < big) {G : GD} (hfew : fewD g room 1 = some G) : bestTD g room 1 = ((tsum g (List.range g.length) : Nat) : Int) := by
 obtain ⟨-, hb⟩ := ev_BestOrder' hg (room := room) (wk := 1) hr
 obtain ⟨b, h1, h2, h3⟩ := hb G hfew
 unfold bestTD
 rw [h1]
 show ((b.2 : Nat) : Int) = _
 rw [h3, ordEnd_one hfew b.1 h2]
end Go.Proofs.YtimbfcedigaffaaDoor.Core
end
section
namespace Go.Proofs.YtimbfcedigaffaaDoor.P
open Go.RowKit Go.Proofs.YtimbfcedigaffaaDoorW.PrintWords Go.Proofs.YtimbfcedigaffaaDoorW.PrintLast Go.Proofs.YtimbfcedigaffaaDoorW.PrintMore
attribute [local go_sem] max2_int min2_int max_two min_two max_three min_three max_four min_four   -- for this text's walks alone
set_option linter.unusedVariables false
set_option linter.unusedSimpArgs false
noncomputable def spec_DrawBestTime.f (k : Nat) (l0 : List Int) : Option ((List (S39)) × List Int × Int) := (spec_DrawBestOrder.f k l0).bind fun bt520 => (some (bt520.1, bt520.2.1, bt520.2.2))
theorem spec_DrawBestTime.mono : ∀ a0 k, LeO (spec_DrawBestTime.f k a0) (spec_DrawBestTime.f (k + 1) a0) := by
 intro a0 k
 unfold spec_DrawBestTime.f
 repeat' first
   | (with_reducible exact spec_DrawBestOrder.mono _ _)
   | (with_reducible exact LeO.refl _)
   | (with_reducible exact LeO.none _)
   | (with_reducible refine LeO.ite ?_ ?_)
   | (with_reducible refine LeO.bind ?_ (fun _ => ?_))
   | exact spec_DrawBestOrder.mono _ _
   | exact LeO.none _
   | refine LeO.ite ?_ ?_
   | refine LeO.bind ?_ (fun _ => ?_)
set_option maxHeartbeats 8000000 in
set_option maxRecDepth 100000 in
theorem spec_DrawBestTime.calls (k : Nat) (A0 : Option Addr) (c0 : Nat) (l0 : List Int) (r1 : List (S39)) (r2 : List Int) (r3 : Int) (w : World) (hr0 : Kd.C (Kd.int .u8) w A0 l0.length l0) (hc0 : l0.length ≤ c0) (h : spec_DrawBestTime.f k l0 = some (r1, r2, r3)) :
  Calls Tryd.prog 22 #[.slice A0 l0.length c0] w fun e w' => ∃ v0_ v1_ : Value, e = .returned (.tuple #[v0_, v1_, .int .i64 r3]) ∧ Kd.S k39 39 w' w.heap.size (fun k_ => some k_ ≠ (v1_ : Value).ownBlock) v0_ r1 ∧ Kd.Q (Kd.int .i64) 3 w' w.heap.size (fun _ => True) v1_ r2 ∧ Below w.heap.size w w' := by
 have HR0 := Aside0.mk hr0
 have HC0 := Aside0.mk hc0
 clear hr0 hc0
 have HB := Aside0.mk (Below.refl w.heap.size w)
 have H : ((spec_DrawBestOrder.f k l0).bind fun bt520 => (some (bt520.1, bt520.2.1, bt520.2.2))) = some (r1, r2, r3) := h
 clear h
 replace H := Option.bind_eq_some_iff.mp H
 obtain ⟨⟨t520, t521, t522⟩, A20, H⟩ := H
 replace H : (some (t520, t521, t522)) = some (r1, r2, r3) := H
 have A2 := Aside0.mk A20
 clear A20
 simp only [Option.some.injEq, Prod.mk.injEq] at H
 obtain ⟨rfl, rfl, rfl⟩ := H
 go_enter Tryd.func22, Tryd.ntmps22
 go_wp2_with (first | ((with_reducible refine gate_callee (f := 20) rfl ?_); refine goesL_ (some 6) rfl rfl Tryd.func20 (by kernel_rfl) rfl #[.slice A0 l0.length c0] rfl (by (try simp only [List.map_toArray, List.map_cons, List.map_nil]); first | done | rfl | (simp only [List.length_drop, List.length_take]; rfl)) ?_; (with_reducible refine (spec_DrawBestOrder.calls k _ _ l0 t520 t521 t522 _ ?side1 ?side2 A2.out).mono ?_); (case side1 => repeat (first | exact HR0.out | (with_reducible refine Kd.C_alloc ?_ _) | (with_reducible refine Kd.C_drewN ?_ _) | (with_reducible refine Kd.C_drew ?_))); (case side2 => exact HC0.out); rintro e w3 ⟨v523, v525, rfl, ho0, ho1, hb⟩; refine ⟨_, rfl, ?_⟩; have n0_ := Aside0.mk (Kd.S_lower ho0 (below_size (by repeat (first | (with_reducible first | exact HB.out | apply below_alloc | apply pw_below_drewN | apply below_drew1) | exact HB.out)))); have n1_ := Aside0.mk (Kd.Q_lower ho1 (below_size (by repeat (first | (with_reducible first | exact HB.out | apply below_alloc | apply pw_below_drewN | apply below_drew1) | exact HB.out)))); have n2_ := Aside0.mk (below_step (by repeat (first | (with_reducible first | exact HB.out | apply below_alloc | apply pw_below_drewN | apply below_drew1) | exact HB.out)) hb); clear HB; have HO524 := n0_; have HO526 := n1_; have HB := n2_; clear n0_ n1_ n2_; (try clear hb); (try clear hb2); (try clear hk); (try clear hi); (try clear ho0); (try clear ho1)))
 go_ret3
 exact ⟨_, _, by first | rfl | (simp [errW_none, errW_some] <;> rfl) | (simp [*, errW_none, errW_some] <;> rfl), by (with_reducible repeat (first | apply Kd.S_alloc | apply Kd.S_drewN | apply Kd.S_drew)); exact HO524.out, by (with_reducible repeat (first | apply Kd.Q_alloc | apply Kd.Q_drewN | apply Kd.Q_drew)); exact HO526.out, by repeat (first | (with_reducible first | exact HB.out | apply below_alloc | apply pw_below_drewN | apply below_drew1) | exact HB.out)⟩
end Go.Proofs.YtimbfcedigaffaaDoor.P
end
section
set_option linter.unusedVariables false
set_option linter.unusedSimpArgs false
namespace Go.Proofs.YtimbfcedigaffaaDoor.Core
open Go Go.RowKit Go.Proofs.YtimbfcedigaffaaDoorW.PrintWords Go.Proofs.YtimbfcedigaffaaDoorW.PrintMore Go.Proofs.YtimbfcedigaffaaDoor.P
theorem ev_DrawBestTime {l : List Int} (h : Bytes l) : EvP (fun k => spec_DrawBestTime.f k l) (fun r => GSmall 16 10 r.1 ∧ r.2.1.length ≤ 4 ∧ 0 ≤ r.2.2 ∧ r.2.2 ≤ 5) := by
 unfold spec_DrawBestTime.f
 exact (ev_DrawBestOrder h).bind fun b hb => EvP.ret hb
theorem tsum_snoc (g : List Tk) (i : Nat) : ∀ R : List Nat, tsum g (R ++ [i]) = tsum g R + tmN g i
 | [] => by simp [tsum]
 | j :: R => by rw [List.cons_append, tsum, tsum_snoc g i R, tsum]; omega
theorem tsum_le {g : List Tk} (ht : tm20 g) : ∀ R : List Nat, tsum g R ≤ 20 * R.length
 | [] => Nat.zero_le _
 | j :: R => by
  have h1 := tsum_le ht R
  have h2 := ht j
  rw [tsum, List.length_cons]
  omega
theorem ev_allTime {g : List Tk} (htok : ∀ t ∈ g, taskOk t) (h8 : g.length ≤ 8) : Ev (fun k => laws_allTime.f k g) ((tsum g (List.range g.length) : Nat) : Int) := by
 unfold laws_allTime.f
 have htm := tm20_of htok
 have key : ∀ (d i : Nat), i + d = g.length → Ev (fun k => laws_allTime.l0 k g ((tsum g (List.range i) : Nat) : Int) (i : Int)) ((tsum g (List.range g.length) : Nat) : Int) := by
  intro d
  induction d with
  | zero =>
   intro i h
   have hi : i = g.length := h
   refine Ev.succ ?_
   simp only [laws_allTime.l0]
   rw [hi]
   exact Ev.neg (Int.lt_irrefl _) (Ev.const _)
  | succ d ih =>
   intro i h
   have hig : i < g.length := by rw [← h]; exact Nat.lt_add_of_pos_right (Nat.succ_pos d)
   have hw : wrap64 ((i : Int) + 1) = ((i + 1 : Nat) : Int) := w64s (by unfold big; omega)
   have hti := tm_int htok hig
   have hle := tsum_le htm (List.range i)
   rw [List.length_range] at hle
   have hadd := (wadd (a := tsum g (List.range i)) (b := tmN g i) (by omega) (by omega)).1
   have hn := ih (i + 1) (by rw [← h, Nat.add_assoc, Nat.add_comm 1 d])
   rw [List.range_succ, tsum_snoc] at hn
   refine Ev.succ ?_
   simp only [laws_allTime.l0, hw, rdT_nat, hti.1, hadd]
   exact Ev.pos (Int.ofNat_lt.2 hig) (Ev.pos (Int.natCast_nonneg i) hn)
 exact key g.length 0 (Nat.zero_add _)
end Go.Proofs.YtimbfcedigaffaaDoor.Core
end
section
set_option linter.unusedVariables false
set_option linter.unusedSimpArgs false
namespace Go.Proofs.YtimbfcedigaffaaDoor.Core
open Go Go.RowKit Go.Proofs.YtimbfcedigaffaaDoorW.PrintWords Go.Proofs.YtimbfcedigaffaaDoorW.PrintMore Go.Proofs.YtimbfcedigaffaaDoor.P
theorem usedN_add (g : List Tk) (p : Int) (a b : Nat → Bool) (i : Nat) (ha : a i = false) (hb : ∀ j, b j = (a j || decide (i = j))) : ∀ R : List Nat, R.Nodup →
  usedN g p (R.filter b) = usedN g p (R.filter a) + (if i ∈ R then (if (g.getD i z39).f2 = p then (g.getD i z39).f3 else 0) else 0) ∧ (R.filter b).length = (R.filter a).length + (if i ∈ R then 1 else 0)
 | [], _ => by simp [usedN]
 | j :: R, hn => by
  obtain ⟨hj, hR⟩ := List.nodup_cons.1 hn
  obtain ⟨h1, h2⟩ := usedN_add g p a b i ha hb R hR
  by_cases e : i = j
  ·subst e
   have hbi : b i = true := by rw [hb]; simp
   rw [if_neg hj, Int.add_zero] at h1
   rw [if_neg hj, Nat.add_zero] at h2
   rw [List.filter_cons_of_pos hbi, List.filter_cons_of_neg (by rw [ha]; simp), if_pos List.mem_cons_self, if_pos List.mem_cons_self]
   refine ⟨?_, ?_⟩
   ·rw [usedN, h1]; omega
   ·rw [List.length_cons, h2]
  ·have hm : (i ∈ j :: R) ↔ i ∈ R := by simp [e]
   have hbj : b j = a j := by rw [hb, decide_eq_false e, Bool.or_false]
   simp only [hm]
   cases haj : a j with
   | true =>
    rw [List.filter_cons_of_pos (by rw [hbj]; exact haj), List.filter_cons_of_pos haj]
    refine ⟨?_, ?_⟩
    ·rw [usedN, usedN, h1]; omega
    ·rw [List.length_cons, List.length_cons, h2]; omega
   | false =>
    rw [List.filter_cons_of_neg (by rw [hbj, haj]; simp), List.filter_cons_of_neg (by rw [haj]; simp)]
    exact ⟨h1, h2⟩
theorem freeN_at {g : List Tk} {L : List Nat} {pl i : Nat} {room : List Int} {wk : Int} : ∀ (d now : Nat), freeN g L pl i room wk d now = true → ∀ t, now ≤ t → t < now + d → freeB g L pl i room wk t = true
 | 0, now, _, t, h1, h2 => by omega
 | d + 1, now, h, t, h1, h2 => by
  have h' : (freeB g L pl i room wk now && freeN g L pl i room wk d (now + 1)) = true := h
  obtain ⟨h3, h4⟩ := (Bool.and_eq_true _ _).mp h'
  by_cases e : now = t
  ·rw [← e]; exact h3
  ·exact freeN_at d (now + 1) h4 t (by omega) (by omega)
theorem freeN_of {g : List Tk} {L : List Nat} {pl i : Nat} {room : List Int} {wk : Int} : ∀ (d now : Nat), (∀ t, now ≤ t → t < now + d → freeB g L pl i room wk t = true) → freeN g L pl i room wk d now = true
 | 0, _, _ => rfl
 | d + 1, now, h => by
  show (freeB g L pl i room wk now && freeN g L pl i room wk d (now + 1)) = true
  rw [h now (Nat.le_refl _) (by omega), freeN_of d (now + 1) (fun t h1 h2 => h t (by omega) (by omega))]
  rfl
/-- At each time no more tasks run than there are workers, and they fit. -/
def Feas (g : List Tk) (L : List Nat) (pl : Nat) (room : List Int) (wk : Int) : Prop := ∀ t, ((runL g L pl g.length t).length : Int) ≤ wk ∧ ∀ p : Int, 0 ≤ p → p ≤ 2 → usedN g p (runL g L pl g.length t) ≤ rd room p
/-- Needs are over when tasks begin. -/
def NeedsOk (g : List Tk) (N L : List Nat) (pl : Nat) : Prop := ∀ x, pl.testBit x = true → ∀ k, (N.getD x 0).testBit k = true → pl.testBit k = true ∧ endN g L k ≤ L.getD x 0
theorem needEnd_ge {g : List Tk} {L : List Nat} {s k : Nat} (hk8 : k < 8) (hk : s.testBit k = true) : endN g L k ≤ needEnd g L s := by
 have key : ∀ (ks : List Nat) (a : Nat), a ≤ ks.foldl (eStep g L) a ∧ ∀ j ∈ ks, endN g L j ≤ ks.foldl (eStep g L) a := by
  intro ks
  induction ks with
  | nil => intro a; exact ⟨Nat.le_refl _, by simp⟩
  | cons i ks ih =>
   intro a
   obtain ⟨h1, h2⟩ := ih (eStep g L a i)
   rw [List.foldl_cons]
   have h3 : a ≤ eStep g L a i := Nat.le_max_left _ _
   have h4 : endN g L i ≤ eStep g L a i := Nat.le_max_right _ _
   refine ⟨Nat.le_trans h3 h1, fun j hj => ?_⟩
   rcases List.mem_cons.1 hj with rfl | hj
   ·exact Nat.le_trans h4 h1
   ·exact h2 j hj
 exact (key (elemsN s) 0).2 k (mem_elemsN.2 ⟨hk8, hk⟩)
theorem feas_step {g : List Tk} {room : List Int} {wk : Int} (hf : Fine g room wk) (h8 : g.length ≤ 8) {L : List Nat} {pl x e : Nat} (hl : L.length = g.length) (hx : x < g.length) (hpl : pl < 2 ^ g.length) (hb : pl.testBit x = false) (hF : Feas g L pl room wk) (hfr : freeN g L pl x room wk (tmN g x) e = true) : Feas g (L.set x e) (pl ||| 2 ^ x) room wk := by
 intro t
 have hne : ∀ k, pl.testBit k = true → x ≠ k := fun k hk h => by rw [← h, hb] at hk; cases hk
 have hold : ∀ k, x ≠ k → runsAt g (L.set x e) t k = runsAt g L t k := fun k h => by
  unfold runsAt endN
  rw [List.getD_eq_getElem?_getD, List.getElem?_set_ne h, ← List.getD_eq_getElem?_getD]
 have hnew : runsAt g (L.set x e) t x = (decide (e ≤ t) && decide (t < e + tmN g x)) := by
  unfold runsAt endN
  rw [List.getD_eq_getElem?_getD, List.getElem?_set_self (by rw [hl]; exact hx), Option.getD_some]
 obtain ⟨hc, hu⟩ := hF t
 by_cases hr : e ≤ t ∧ t < e + tmN g x
 ·have hfb := freeN_at _ _ hfr t hr.1 hr.2
  rw [freeB_eq hf h8 hx hpl] at hfb
  obtain ⟨h1, h2⟩ := (Bool.and_eq_true _ _).mp hfb
  have h1 := of_decide_eq_true h1
  have h2 := of_decide_eq_true h2
  have hua : UOk g (runL g L pl g.length t) := fun k hk => hf.units k (runL_lt k hk)
  have hlen := runL_len g L pl g.length t
  have hun := hf.units x hx
  have hp := hf.pool x hx
  have bd := usedN_bd (p := (g.getD x z39).f2) hua
  rw [w64 (by omega) (by omega)] at h2
  have hbits : ∀ k, ((pl ||| 2 ^ x).testBit k && runsAt g (L.set x e) t k) = ((pl.testBit k && runsAt g L t k) || decide (x = k)) := fun k => by
   rw [or_bit]
   by_cases h : x = k
   ·subst h
    rw [hnew, decide_eq_true hr.1, decide_eq_true hr.2, decide_eq_true rfl, hb]
    rfl
   ·rw [decide_eq_false h, hold k h, Bool.or_false, Bool.or_false]
  have hadd := fun p => usedN_add g p (fun k => pl.testBit k && runsAt g L t k) (fun k => (pl ||| 2 ^ x).testBit k && runsAt g (L.set x e) t k) x (by show (pl.testBit x && runsAt g L t x) = false; rw [hb, Bool.false_and]) hbits (List.range g.length) List.nodup_range
  refine ⟨?_, fun p p0 p2 => ?_⟩
  ·have h3 := (hadd 0).2
   rw [if_pos (List.mem_range.2 hx)] at h3
   have h3 : (runL g (L.set x e) (pl ||| 2 ^ x) g.length t).length = (runL g L pl g.length t).length + 1 := h3
   omega
  ·have h3 := (hadd p).1
   rw [if_pos (List.mem_range.2 hx)] at h3
   have h3 : usedN g p (runL g (L.set x e) (pl ||| 2 ^ x) g.length t) = usedN g p (runL g L pl g.length t) + (if (g.getD x z39).f2 = p then (g.getD x z39).f3 else 0) := h3
   rw [h3]
   split
   ·rename_i he; subst he; exact h2
   ·rw [Int.add_zero]; exact hu p p0 p2
 ·have hsame : runL g (L.set x e) (pl ||| 2 ^ x) g.length t = runL g L pl g.length t := by
   unfold runL
   congr 1
   funext k
   rw [or_bit]
   by_cases h : x = k
   ·subst h
    have hd : (decide (e ≤ t) && decide (t < e + tmN g x)) = false := by
     by_cases h1 : e ≤ t
     ·rw [decide_eq_false (fun h2 => hr ⟨h1, h2⟩), Bool.and_false]
     ·rw [decide_eq_false h1, Bool.false_and]
    rw [hnew, hd, hb, Bool.and_false]
    rfl
   ·rw [decide_eq_false h, hold k h, Bool.or_false]
  rw [hsame]
  exact ⟨hc, hu⟩
theorem feas_zero {g : List Tk} {room : List Int} {wk : Int} (hf : Fine g room wk) (L : List Nat) : Feas g L 0 room wk := by
 intro t
 have e : runL g L 0 g.length t = [] := List.filter_eq_nil_iff.2 (fun k _ => by rw [Nat.zero_testBit, Bool.false_and]; exact Bool.false_ne_true)
 rw [e]
 have hw := hf.wk
 exact ⟨by rw [List.length_nil]; omega, fun p p0 p2 => by have := room_at hf.room p0 p2; show (0 : Int) ≤ _; omega⟩
/-- The beginnings of an order are feasible. -/
theorem startGo_feas {g : List Tk} {N : List Nat} (hnb : ∀ x, N.getD x 0 < 256) {room : List Int} {wk : Int} (hf : Fine g room wk) (h8 : g.length ≤ 8) : ∀ (r : List Int) (pl j : Nat) (L : List Nat), ordOk g.length N r pl = true → StOk g L pl j → j + r.length ≤ 8 → pl < 2 ^ g.length → zb g.length pl ≤ r.length → Feas g L pl room wk → NeedsOk g N L pl →
  Feas g (startGo g N room wk r pl L) (2 ^ g.length - 1) room wk ∧ NeedsOk g N (startGo g N room wk r pl L) (2 ^ g.length - 1) := by
 intro r
 induction r with
 | nil =>
  intro pl j L _ _ _ hpl hz hF hN
  rw [(full_zb hpl).1 (by simpa using hz)] at hF hN
  exact ⟨hF, hN⟩
 | cons y r ih =>
  intro pl j L hord hst hj hpl hz hF hN
  unfold ordOk at hord
  by_cases hc : (0 ≤ y ∧ y ≤ (g.length : Int) - 1) ∧ pl.testBit y.toNat = false ∧ sub (N.getD y.toNat 0) pl = 0
  ·rw [if_pos hc] at hord
   obtain ⟨hin, hsk, hsz⟩ := hc
   rw [List.length_cons] at hj hz
   have hx : y.toNat < g.length := by omega
   have h256 := pow8 h8
   have hsubs := sub_none (hnb y.toNat) (Nat.lt_of_lt_of_le hpl h256) hsz
   obtain ⟨hst2, he20⟩ := hst.step (wk := wk) hf hx (by omega) hsubs hsk
   obtain ⟨hd1, hd2, hd3, -⟩ := earlD_le (wk := wk) hf hx hst.over (by omega) hsubs
   have hzb := zb_orO hx hsk
   have hs1 : startGo g N room wk (y :: r) pl L = startGo g N room wk r (pl ||| 2 ^ y.toNat) (L.set y.toNat (earlD g L (N.getD y.toNat 0) pl y.toNat room wk)) := rfl
   rw [hs1]
   generalize earlD g L (N.getD y.toNat 0) pl y.toNat room wk = ee at hst2 hd1 hd2 hd3
   have hne : ∀ k, pl.testBit k = true → y.toNat ≠ k := fun k hk h => by rw [← h, hsk] at hk; cases hk
   have hgd : ∀ k, pl.testBit k = true → (L.set y.toNat ee).getD k 0 = L.getD k 0 := fun k hk => by
    rw [List.getD_eq_getElem?_getD, List.getElem?_set_ne (hne k hk), ← List.getD_eq_getElem?_getD]
   have hget : (L.set y.toNat ee).getD y.toNat 0 = ee := by
    rw [List.getD_eq_getElem?_getD, List.getElem?_set_self (by rw [hst.len]; exact hx), Option.getD_some]
   have hend : ∀ k, pl.testBit k = true → endN g (L.set y.toNat ee) k = endN g L k := fun k hk => by unfold endN; rw [hgd k hk]
   refine ih (pl ||| 2 ^ y.toNat) (j + 1) _ hord hst2 (by omega) (Nat.or_lt_two_pow hpl (Nat.pow_lt_pow_right (by omega) hx)) (by omega) (feas_step hf h8 hst.len hx hpl hsk hF hd3) ?_
   intro z hz' k hk
   rw [or_bit] at hz'
   by_cases hzp : pl.testBit z = true
   ·obtain ⟨h1, h2⟩ := hN z hzp k hk
    exact ⟨by rw [or_bit, h1, Bool.true_or], by rw [hend k h1, hgd z hzp]; exact h2⟩
   ·have hyz : y.toNat = z := by
     rw [Bool.eq_false_iff.2 hzp, Bool.false_or] at hz'
     exact of_decide_eq_true hz'
    subst hyz
    have h1 := hsubs k hk
    have hk8 : k < 8 := by
     have h4 : 2 ^ k < 2 ^ g.length := Nat.lt_of_le_of_lt (Nat.ge_two_pow_of_testBit h1) hpl
     have := (Nat.pow_lt_pow_iff_right (by omega)).1 h4
     omega
    refine ⟨by rw [or_bit, h1, Bool.true_or], ?_⟩
    rw [hend k h1, hget]
    exact Nat.le_trans (needEnd_ge hk8 hk) hd2
  ·rw [if_neg hc] at hord; cases hord
/-- The exchange: from a set of placed tasks whose beginnings are no later than in S, the others can follow, none later than in S. -/
theorem exchange {g : List Tk} {N : List Nat} (hnb : ∀ x, N.getD x 0 < 256) {room : List Int} {wk : Int} (hf : Fine g room wk) (h8 : g.length ≤ 8) {S : List Nat} (hF : Feas g S (2 ^ g.length - 1) room wk) (hN : NeedsOk g N S (2 ^ g.length - 1)) : ∀ (m pl j : Nat) (L : List Nat), zb g.length pl = m → StOk g L pl j → j + m ≤ 8 → pl < 2 ^ g.length → (∀ k, pl.testBit k = true → L.getD k 0 ≤ S.getD k 0) → (∀ k x, pl.testBit k = true → x < g.length → pl.testBit x = false → S.getD k 0 ≤ S.getD x 0) →
  ∃ r : List Int, ordOk g.length N r pl = true ∧ r.length = m ∧ ∀ x, x < g.length → (startGo g N room wk r pl L).getD x 0 ≤ S.getD x 0 := by
 intro m
 induction m with
 | zero =>
  intro pl j L hz hst hj hpl hle _
  have hfull := (full_zb hpl).1 hz
  exact ⟨[], rfl, rfl, fun x hx => hle x (by rw [hfull, Nat.testBit_two_pow_sub_one]; exact decide_eq_true hx)⟩
 | succ m ih =>
  intro pl j L hz hst hj hpl hle hord
  have hfullbit : ∀ k, k < g.length → (2 ^ g.length - 1).testBit k = true := fun k hk => by rw [Nat.testBit_two_pow_sub_one]; exact decide_eq_true hk
  -- the one that begins first of those that are left
  have hmin : ∃ x, x < g.length ∧ pl.testBit x = false ∧ ∀ y, y < g.length → pl.testBit y = false → S.getD x 0 ≤ S.getD y 0 := by
   have hex : ∃ x, x < g.length ∧ pl.testBit x = false := by
    apply Classical.byContradiction
    intro hno
    have : zb g.length pl = 0 := by
     rw [zb_count, List.length_eq_zero_iff, List.filter_eq_nil_iff]
     intro k hk
     have hkn := List.mem_range.1 hk
     cases hb : pl.testBit k with
     | true => simp
     | false => exact absurd ⟨k, hkn, hb⟩ hno
    omega
   have key : ∀ (b : Nat), (∃ x, x < g.length ∧ pl.testBit x = false ∧ S.getD x 0 ≤ b) → ∃ x, x < g.length ∧ pl.testBit x = false ∧ ∀ y, y < g.length → pl.testBit y = false → S.getD x 0 ≤ S.getD y 0 := by
    intro b
    induction b with
    | zero => rintro ⟨x, h1, h2, h3⟩; exact ⟨x, h1, h2, fun y _ _ => by omega⟩
    | succ b ihb =>
     rintro ⟨x, h1, h2, h3⟩
     by_cases h : ∃ x, x < g.length ∧ pl.testBit x = false ∧ S.getD x 0 ≤ b
     ·exact ihb h
     ·refine ⟨x, h1, h2, fun y hy1 hy2 => ?_⟩
      by_cases hyb : S.getD y 0 ≤ b
      ·exact absurd ⟨y, hy1, hy2, hyb⟩ h
      ·omega
   obtain ⟨x, h1, h2⟩ := hex
   exact key _ ⟨x, h1, h2, Nat.le_refl _⟩
  obtain ⟨x, hx, hxb, hxm⟩ := hmin
  have htx := hf.tm x hx
  -- its needs are placed
  have hsubs : ∀ k, (N.getD x 0).testBit k = true → pl.testBit k = true := by
   intro k hk
   obtain ⟨h1, h2⟩ := hN x (hfullbit x hx) k hk
   have hkn : k < g.length := by
    rw [Nat.testBit_two_pow_sub_one] at h1
    exact of_decide_eq_true h1
   cases hb : pl.testBit k with
   | true => rfl
   | false =>
    exfalso
    have h3 := hxm k hkn hb
    have h4 := (hf.tm k hkn).1
    unfold endN at h2
    omega
  have hends : ∀ k, pl.testBit k = true → k < g.length := fun k hk => by
   have h4 : 2 ^ k < 2 ^ g.length := Nat.lt_of_le_of_lt (Nat.ge_two_pow_of_testBit hk) hpl
   exact (Nat.pow_lt_pow_iff_right (by omega)).1 h4
  -- it fits where S has it
  have hfree : freeN g L pl x room wk (tmN g x) (S.getD x 0) = true := by
   refine freeN_of _ _ (fun t t1 t2 => ?_)
   rw [freeB_eq hf h8 hx hpl]
   obtain ⟨hc, hu⟩ := hF t
   have hxr : runsAt g S t x = true := by unfold runsAt endN; rw [decide_eq_true t1, decide_eq_true t2]; rfl
   have himp : ∀ k, ((pl.testBit k && runsAt g L t k) || decide (x = k)) = true → ((2 ^ g.length - 1).testBit k && runsAt g S t k) = true := by
    intro k hk
    rcases (Bool.or_eq_true _ _).mp hk with h | h
    ·obtain ⟨h1, h2⟩ := (Bool.and_eq_true _ _).mp h
     have hkn := hends k h1
     rw [hfullbit k hkn, Bool.true_and]
     unfold runsAt endN at h2 ⊢
     obtain ⟨h3, h4⟩ := (Bool.and_eq_true _ _).mp h2
     have h3 := of_decide_eq_true h3
     have h4 := of_decide_eq_true h4
     have h5 := hle k h1
     have h6 := hord k x h1 hx hxb
     rw [decide_eq_true (show S.getD k 0 ≤ t by omega), decide_eq_true (show t < S.getD k 0 + tmN g k by omega)]
     rfl
    ·have e := of_decide_eq_true h
     subst e
     rw [hfullbit x hx, hxr]
     rfl
   have hsub := filter_sub himp (List.range g.length)
   have hadd := fun p => usedN_add g p (fun k => pl.testBit k && runsAt g L t k) (fun k => (pl.testBit k && runsAt g L t k) || decide (x = k)) x (by show (pl.testBit x && runsAt g L t x) = false; rw [hxb, Bool.false_and]) (fun k => rfl) (List.range g.length) List.nodup_range
   have huS : UOk g (runL g S (2 ^ g.length - 1) g.length t) := fun k hk => hf.units k (runL_lt k hk)
   have huL : UOk g (runL g L pl g.length t) := fun k hk => hf.units k (runL_lt k hk)
   have hp := hf.pool x hx
   have hun := hf.units x hx
   have hlenL := runL_len g L pl g.length t
   have bd := usedN_bd (p := (g.getD x z39).f2) huL
   have c1 := (hadd (g.getD x z39).f2).2
   have c2 := (hadd (g.getD x z39).f2).1
   rw [if_pos (List.mem_range.2 hx)] at c1 c2
   rw [if_pos rfl] at c2
   have c1 : ((List.range g.length).filter (fun k => (pl.testBit k && runsAt g L t k) || decide (x = k))).length = (runL g L pl g.length t).length + 1 := c1
   have c2 : usedN g (g.getD x z39).f2 ((List.range g.length).filter (fun k => (pl.testBit k && runsAt g L t k) || decide (x = k))) = usedN g (g.getD x z39).f2 (runL g L pl g.length t) + (g.getD x z39).f3 := c2
   have d1 : ((List.range g.length).filter (fun k => (pl.testBit k && runsAt g L t k) || decide (x = k))).length ≤ (runL g S (2 ^ g.length - 1) g.length t).length := hsub.length_le
   have d2 : usedN g (g.getD x z39).f2 ((List.range g.length).filter (fun k => (pl.testBit k && runsAt g L t k) || decide (x = k))) ≤ usedN g (g.getD x z39).f2 (runL g S (2 ^ g.length - 1) g.length t) := usedN_sub hsub huS
   have d3 := hu _ hp.1 hp.2
   rw [w64 (by omega) (by omega), decide_eq_true (show ((runL g L pl g.length t).length : Int) < wk by omega), decide_eq_true (by omega)]
   rfl
  have hneS : needEnd g L (N.getD x 0) ≤ S.getD x 0 := by
   refine needEnd_le (pl := N.getD x 0) (fun k hk => ?_) (fun k h => h)
   have h1 := hsubs k hk
   obtain ⟨-, h2⟩ := hN x (hfullbit x hx) k hk
   have h3 := hle k h1
   unfold endN at h2 ⊢
   omega
  have hB := earlD_le (wk := wk) (s := N.getD x 0) hf hx hst.over (by omega) hsubs
  have heS : earlD g L (N.getD x 0) pl x room wk ≤ S.getD x 0 := by
   by_cases hbig : S.getD x 0 ≤ 300
   ·have := (earlN_le (S.getD x 0 - needEnd g L (N.getD x 0)) 400 (needEnd g L (N.getD x 0)) (by omega) (by rw [show needEnd g L (N.getD x 0) + (S.getD x 0 - needEnd g L (N.getD x 0)) = S.getD x 0 by omega]; exact hfree)).1
    unfold earlD
    omega
   ·omega
  obtain ⟨hst2, he20⟩ := hst.step (wk := wk) hf hx (by omega) hsubs hxb
  have hzb : zb g.length (pl ||| 2 ^ x) + 1 = zb g.length pl := zb_step hxb hx
  generalize hee : earlD g L (N.getD x 0) pl x room wk = ee at heS hst2
  obtain ⟨r, q1, q2, q3⟩ := ih (pl ||| 2 ^ x) (j + 1) (L.set x ee) (by omega) hst2 (by omega) (Nat.or_lt_two_pow hpl (Nat.pow_lt_pow_right (by omega) hx)) (fun k hk => by
   by_cases e : x = k
   ·subst e
    rw [List.getD_eq_getElem?_getD, List.getElem?_set_self (by rw [hst.len]; exact hx), Option.getD_some]
    exact heS
   ·rw [or_bit, decide_eq_false e, Bool.or_false] at hk
    rw [List.getD_eq_getElem?_getD, List.getElem?_set_ne e, ← List.getD_eq_getElem?_getD]
    exact hle k hk) (fun k z hk hz' hzb' => by
   rw [or_bit] at hk hzb'
   obtain ⟨hz1, hz2⟩ := (Bool.or_eq_false_iff).1 hzb'
   by_cases e : x = k
   ·subst e
    exact hxm z hz' hz1
   ·rw [decide_eq_false e, Bool.or_false] at hk
    exact hord k z hk hz' hz1)
  have hsz : sub (N.getD x 0) pl = 0 := (sub_zero (hnb x) (Nat.lt_of_lt_of_le hpl (pow8 h8))).2 hsubs
  refine ⟨(x : Int) :: r, ?_, by rw [List.length_cons, q2], ?_⟩
  ·unfold ordOk
   rw [Int.toNat_natCast, if_pos ⟨⟨by omega, by omega⟩, hxb, hsz⟩]
   exact q1
  ·intro z hz'
   show (startGo g N room wk r (pl ||| 2 ^ ((x : Nat) : Int).toNat) (L.set ((x : Nat) : Int).toNat (earlD g L (N.getD ((x : Nat) : Int).toNat 0) pl ((x : Nat) : Int).toNat room wk))).getD z 0 ≤ S.getD z 0
   rw [Int.toNat_natCast, hee]
   exact q3 z hz'
end Go.Proofs.YtimbfcedigaffaaDoor.Core
end
section
set_option linter.unusedVariables false
set_option linter.unusedSimpArgs false
namespace Go.Proofs.YtimbfcedigaffaaDoor.Core
open Go Go.RowKit Go.Proofs.YtimbfcedigaffaaDoorW.PrintWords Go.Proofs.YtimbfcedigaffaaDoorW.PrintMore Go.Proofs.YtimbfcedigaffaaDoor.P
/-- All orders are among those that are looked at. -/
theorem ordersL_mem {N : List Nat} : ∀ (k : Nat) (lst : List Nat) (d : Nat) (r : List Int), ordOk N.length N r d = true → r.length < k → lst.length + r.length = N.length → up lst ++ r ∈ ordersL N k lst d
 | 0, _, _, _, _, h, _ => absurd h (Nat.not_lt_zero _)
 | k + 1, lst, d, [], _, _, hl => by
  unfold ordersL
  rw [if_pos (by simpa using hl), List.append_nil]
  exact List.mem_singleton.2 rfl
 | k + 1, lst, d, y :: r, ho, hk, hl => by
  rw [List.length_cons] at hk hl
  unfold ordOk at ho
  by_cases hc : (0 ≤ y ∧ y ≤ (N.length : Int) - 1) ∧ d.testBit y.toNat = false ∧ sub (N.getD y.toNat 0) d = 0
  ·rw [if_pos hc] at ho
   obtain ⟨hin, hb, hs⟩ := hc
   obtain ⟨i, rfl⟩ := Int.eq_ofNat_of_zero_le hin.1
   rw [Int.toNat_natCast] at ho hb hs
   unfold ordersL
   rw [if_neg (by omega)]
   refine List.mem_flatMap.2 ⟨i, List.mem_filter.2 ⟨List.mem_range.2 (by omega), by unfold canNext; rw [hb, decide_eq_true hs]; rfl⟩, ?_⟩
   have h := ordersL_mem k (lst ++ [i]) (d ||| 2 ^ i) r ho (by omega) (by rw [List.length_append, List.length_singleton]; omega)
   rw [show up (lst ++ [i]) ++ r = up lst ++ (i : Int) :: r by simp [up]] at h
   exact h
  ·rw [if_neg hc] at ho; cases ho
theorem fold_min (f : List Int → Nat) : ∀ (os : List (List Int)) (b c : List Int × Nat), os.foldl (bstep f) (some b) = some c → c.2 ≤ b.2 ∧ ∀ o ∈ os, c.2 ≤ f o
 | [], b, c, h => by
  have : b = c := Option.some.inj h
  subst this
  exact ⟨Nat.le_refl _, by simp⟩
 | o :: os, b, c, h => by
  rw [List.foldl_cons] at h
  have hb : bstep f (some b) o = if f o < b.2 then some (o, f o) else some b := rfl
  rw [hb] at h
  by_cases hlt : f o < b.2
  ·rw [if_pos hlt] at h
   obtain ⟨h1, h2⟩ := fold_min f os _ c h
   have h1 : c.2 ≤ f o := h1
   refine ⟨by omega, fun x hx => ?_⟩
   rcases List.mem_cons.1 hx with rfl | hx
   ·exact h1
   ·exact h2 x hx
  ·rw [if_neg hlt] at h
   obtain ⟨h1, h2⟩ := fold_min f os b c h
   refine ⟨h1, fun x hx => ?_⟩
   rcases List.mem_cons.1 hx with rfl | hx
   ·omega
   ·exact h2 x hx
theorem best_min {g : List Tk} {room : List Int} {wk : Int} {G : GD} (hfew : fewD g room wk = some G) {b : List Int × Nat} (hb : bestD g room wk = some b) : ∀ o ∈ ordersL G.needs (g.length + 1) [] 0, b.2 ≤ ordEnd g G.needs room wk o := by
 unfold bestD at hb
 rw [hfew] at hb
 simp only [] at hb
 generalize ordersL G.needs (g.length + 1) [] 0 = OS at hb ⊢
 cases OS with
 | nil => intro o ho; cases ho
 | cons a os =>
  rw [List.foldl_cons] at hb
  obtain ⟨h1, h2⟩ := fold_min _ os (a, ordEnd g G.needs room wk a) b hb
  intro o ho
  rcases List.mem_cons.1 ho with rfl | ho
  ·exact h1
  ·exact h2 o ho
theorem endTo_mono {g : List Tk} {L M : List Nat} : ∀ n, (∀ k, k < n → L.getD k 0 ≤ M.getD k 0) → endTo g L n ≤ endTo g M n
 | 0, _ => Nat.le_refl _
 | n + 1, h => by
  have h1 := endTo_mono (g := g) n (fun k hk => h k (by omega))
  have h2 := h n (Nat.lt_succ_self n)
  show max (endTo g L n) (endN g L n) ≤ max (endTo g M n) (endN g M n)
  unfold endN
  omega
theorem zb_none (n : Nat) : zb n 0 = n := by
 rw [zb_count, List.filter_eq_self.2 (fun i _ => by rw [Nat.zero_testBit]; rfl), List.length_range]
theorem orders_zb {g : List Tk} {N : List Nat} : NeedsOk g N (List.replicate g.length 0) 0 := fun x hx => by rw [Nat.zero_testBit] at hx; cases hx
/-- Feasible beginnings are reached by an order that ends no later. -/
theorem best_le {g : List Tk} {room : List Int} {wk : Int} {G : GD} (hfew : fewD g room wk = some G) {S : List Nat} (hF : Feas g S (2 ^ g.length - 1) room wk) (hN : NeedsOk g G.needs S (2 ^ g.length - 1)) {b : List Int × Nat} (hb : bestD g room wk = some b) : b.2 ≤ endTo g S g.length := by
 obtain ⟨h5, hp⟩ := fewD_some hfew
 obtain ⟨hG, hroom, hw1, hw4⟩ := placeD_some hp
 have v := vg_of hG
 have h8 := v.n8
 have h256 := pow8 h8
 have hnl := v.nl
 have hf := fine_of hG hroom hw1
 have hnb : ∀ x, G.needs.getD x 0 < 256 := fun x => Nat.lt_of_lt_of_le (getD_lt v.nb x) h256
 obtain ⟨r, h1, h2, h3⟩ := exchange hnb hf h8 hF hN g.length 0 0 (List.replicate g.length 0) (zb_none _) (st_zero g) (by omega) (Nat.two_pow_pos _) (fun k hk => by rw [Nat.zero_testBit] at hk; cases hk) (fun k x hk => by rw [Nat.zero_testBit] at hk; cases hk)
 have hmem := ordersL_mem (N := G.needs) (g.length + 1) [] 0 r (by rw [hnl]; exact h1) (by omega) (by rw [hnl, List.length_nil]; omega)
 have hmin := best_min hfew hb r hmem
 have hend := (endGo_is hnb hf h8 r 0 0 (List.replicate g.length 0) 0 h1 (st_zero g) (by omega) (Nat.two_pow_pos _) (by rw [zb_none, h2]; exact Nat.le_refl _) ⟨(fun k hk => by rw [Nat.zero_testBit] at hk; cases hk), .inl rfl⟩).1
 have hmono := endTo_mono (g := g) g.length h3
 have e : ordEnd g G.needs room wk r = endTo g (startGo g G.needs room wk r 0 (List.replicate g.length 0)) g.length := hend
 omega
/-- The best order's beginnings are feasible. -/
theorem best_feas {g : List Tk} (hg : Fits g) {room : List Int} (hr : room.length < big) {wk : Int} {G : GD} (hfew : fewD g room wk = some G) : ∃ b S, bestD g room wk = some b ∧ b.2 = endTo g S g.length ∧ Feas g S (2 ^ g.length - 1) room wk ∧ NeedsOk g G.needs S (2 ^ g.length - 1) := by
 obtain ⟨h5, hp⟩ := fewD_some hfew
 obtain ⟨hG, hroom, hw1, hw4⟩ := placeD_some hp
 have v := vg_of hG
 have h8 := v.n8
 have h256 := pow8 h8
 have hf := fine_of hG hroom hw1
 have hnb : ∀ x, G.needs.getD x 0 < 256 := fun x => Nat.lt_of_lt_of_le (getD_lt v.nb x) h256
 obtain ⟨-, hb⟩ := ev_BestOrder' hg (room := room) (wk := wk) hr
 obtain ⟨b, h1, h2, h3⟩ := hb G hfew
 obtain ⟨⟨ho, hl⟩, -, -⟩ := ord_ev hfew b.1 h2
 obtain ⟨hF, hN⟩ := startGo_feas hnb hf h8 b.1 0 0 (List.replicate g.length 0) ho (st_zero g) (by omega) (Nat.two_pow_pos _) (by rw [zb_none, hl]; exact Nat.le_refl _) (feas_zero hf _) orders_zb
 have hend := (endGo_is hnb hf h8 b.1 0 0 (List.replicate g.length 0) 0 ho (st_zero g) (by omega) (Nat.two_pow_pos _) (by rw [zb_none, hl]; exact Nat.le_refl _) ⟨(fun k hk => by rw [Nat.zero_testBit] at hk; cases hk), .inl rfl⟩).1
 exact ⟨b, _, h1, by rw [h3]; exact hend, hF, hN⟩
theorem few_wk {g : List Tk} {room : List Int} {wk wk' : Int} {G : GD} (h : fewD g room wk = some G) (h1 : 1 ≤ wk') (h4 : wk' ≤ 4) : fewD g room wk' = some G := by
 obtain ⟨h5, hp⟩ := fewD_some h
 obtain ⟨hG, hroom, -, -⟩ := placeD_some hp
 unfold fewD placeD
 rw [if_neg (by omega), hG]
 simp only []
 rw [if_pos ⟨hroom, h1, h4⟩]
/-- More workers are no slower at best. -/
theorem bestTD_more {g : List Tk} (hg : Fits g) {room : List Int} (hr : room.length < big) {wk wk' : Int} {G : GD} (hfew : fewD g room wk = some G) (hle : wk ≤ wk') (h4 : wk' ≤ 4) : bestTD g room wk' ≤ bestTD g room wk := by
 obtain ⟨b, S, h1, h2, hF, hN⟩ := best_feas hg hr hfew
 have hw1 := (placeD_some (fewD_some hfew).2).2.2.1
 have hfew' := few_wk hfew (show 1 ≤ wk' by omega) h4
 obtain ⟨c, -, h3, -, -, -⟩ := best_feas hg hr hfew'
 have hc := best_le hfew' (fun t => ⟨Int.le_trans (hF t).1 hle, (hF t).2⟩) hN h3
 unfold bestTD
 rw [h1, h3]
 show ((c.2 : Nat) : Int) ≤ ((b.2 : Nat) : Int)
 omega
end Go.Proofs.YtimbfcedigaffaaDoor.Core
end
section
set_option linter.unusedVariables false
set_option linter.unusedSimpArgs false
namespace Go.Proofs.YtimbfcedigaffaaDoor.P
open Go Go.RowKit Go.Shelf Go.Proofs.YtimbfcedigaffaaDoorW.PrintWords Go.Proofs.YtimbfcedigaffaaDoorW.PrintLast Go.Proofs.YtimbfcedigaffaaDoorW.PrintMore Go.Proofs.YtimbfcedigaffaaDoor.Core
attribute [local go_sem] Oper.semAt_some wide_fn wide_depth
def impl_BestTime.f (l0 : List S39) (l1 : List Int) (a2 : Int) : Option Int := some (bestTD l0 l1 a2)
set_option maxRecDepth 100000 in
set_option maxHeartbeats 2000000 in
theorem impl_BestTime.calls (A0 : Option Addr) (c0 : Nat) (l0 : List S39) (A1 : Option Addr) (c1 : Nat) (l1 : List Int) (a2 : Int) (r : Int) (w : World) (hr0 : Kd.C k39 w A0 l0.length l0) (hc0 : l0.length ≤ c0) (hr1 : Kd.C (Kd.int .i64) w A1 l1.length l1) (hc1 : l1.length ≤ c1) (hT : Tab w) (h : impl_BestTime.f l0 l1 a2 = some r) :
  Calls Tryd.prog 12 #[.slice A0 l0.length c0, .slice A1 l1.length c1, .int .i64 a2] w fun e w' => e = .returned (.int .i64 r) ∧ Below w.heap.size w w' := by
 have hr : bestTD l0 l1 a2 = r := Option.some.inj h
 clear h
 cases hb : bestD l0 l1 a2 with
 | none =>
  obtain rfl : -1 = r := by unfold bestTD at hr; rw [hb] at hr; exact hr
  have hfew : fewD l0 l1 a2 = none := best_none hb
  have HP := Aside0.mk (bestIn_none A0 c0 l0 A1 c1 l1 a2 w hT hr0 hc0 hr1 hc1 hfew)
  clear hr hb hfew hr0 hr1 hT
  go_enter Tryd.func12, Tryd.ntmps12
  go_wp2_with (go_at_call 30; refine HP.out.mono ?_; rintro e w1 ⟨rfl, hB⟩; have HB := Aside0.mk hB; clear hB)
  go_ret
  exact ⟨rfl, HB.out⟩
 | some b =>
  obtain rfl : (b.2 : Int) = r := by unfold bestTD at hr; rw [hb] at hr; exact hr
  have HP := Aside0.mk (bestIn_some A0 c0 l0 A1 c1 l1 a2 b w hT hr0 hc0 hr1 hc1 hb)
  clear hr hb hr0 hr1 hT
  go_enter Tryd.func12, Tryd.ntmps12
  go_wp2_with (go_at_call 30; refine HP.out.mono ?_; rintro e w1 ⟨v, rfl, hR, hB⟩; have HB := Aside0.mk hB; clear hB hR)
  go_ret
  exact ⟨rfl, HB.out⟩
end Go.Proofs.YtimbfcedigaffaaDoor.P
end
section
namespace Go.Proofs.YtimbfcedigaffaaDoor.P
open Go.Proofs.YtimbfcedigaffaaDoor.Core (Tab Tab.of)
open Go.RowKit Go.Proofs.YtimbfcedigaffaaDoorW.PrintWords Go.Proofs.YtimbfcedigaffaaDoorW.PrintLast Go.Proofs.YtimbfcedigaffaaDoorW.PrintMore
attribute [local go_sem] max2_int min2_int max_two min_two max_three min_three max_four min_four   -- for this text's walks alone
set_option linter.unusedVariables false
set_option linter.unusedSimpArgs false
noncomputable def laws_FnBestTimeMore.j0 : Nat → List (S39) → List Int → Int → Int → Bool → Option (Bool)
 | 0, _, _, _, _, _ => none
 | k + 1, x3, x4, x5, x6, x29 => if x29 = true then ((spec_BestTime.f k x3 x4 x5).bind fun t537 => (some (x6 == t537))) else (if x5 = 4 then ((impl_BestTime.f x3 x4 1).bind fun t538 => ((laws_allTime.f k x3).bind fun t539 => (some (t538 == t539)))) else ((impl_BestTime.f x3 x4 (wrap64 (x5 + 1))).bind fun t540 => (if t540 ≤ x6 then ((impl_BestTime.f x3 x4 1).bind fun t541 => ((laws_allTime.f k x3).bind fun t542 => (some (t541 == t542)))) else (some false))))
noncomputable def laws_FnBestTimeMore.f (k : Nat) (l0 : List Int) : Option (Bool) := if (l0.length : Int) > 1048576 then (some true) else ((spec_DrawBestTime.f k l0).bind fun bt528 => ((impl_BestTime.f bt528.1 bt528.2.1 bt528.2.2).bind fun t535 => ((spec_BestTime.f k bt528.1 bt528.2.1 bt528.2.2).bind fun t536 => (if t535 = t536 then (laws_FnBestTimeMore.j0 k bt528.1 bt528.2.1 bt528.2.2 t535 (decide (t535 < 0))) else (laws_FnBestTimeMore.j0 k bt528.1 bt528.2.1 bt528.2.2 t535 true)))))
theorem laws_FnBestTimeMore.mono_l : ∀ k, (∀ y0 y1 y2 y3 y4, LeO (laws_FnBestTimeMore.j0 k y0 y1 y2 y3 y4) (laws_FnBestTimeMore.j0 (k + 1) y0 y1 y2 y3 y4))
 | 0 => fun _ _ _ _ _ r h => by simp [laws_FnBestTimeMore.j0] at h
 | k + 1 => by
  have ih0 := laws_FnBestTimeMore.mono_l k
  ·intro y0 y1 y2 y3 y4
   unfold laws_FnBestTimeMore.j0
   repeat' first
   | (with_reducible exact ih0 _ _ _ _ _)
   | (with_reducible exact laws_allTime.mono _ _)
   | (with_reducible exact spec_BestTime.mono _ _ _ _)
   | (with_reducible exact spec_DrawBestTime.mono _ _)
   | (with_reducible exact LeO.refl _)
   | (with_reducible exact LeO.none _)
   | (with_reducible refine LeO.ite ?_ ?_)
   | (with_reducible refine LeO.bind ?_ (fun _ => ?_))
   | exact ih0 _ _ _ _ _
   | exact laws_allTime.mono _ _
   | exact spec_BestTime.mono _ _ _ _
   | exact spec_DrawBestTime.mono _ _
   | exact LeO.none _
   | refine LeO.ite ?_ ?_
   | refine LeO.bind ?_ (fun _ => ?_)
theorem laws_FnBestTimeMore.mono : ∀ a0 k, LeO (laws_FnBestTimeMore.f k a0) (laws_FnBestTimeMore.f (k + 1) a0) := by
 intro a0 k
 have ih0 := laws_FnBestTimeMore.mono_l k
 unfold laws_FnBestTimeMore.f
 repeat' first
   | (with_reducible exact ih0 _ _ _ _ _)
   | (with_reducible exact laws_allTime.mono _ _)
   | (with_reducible exact spec_BestTime.mono _ _ _ _)
   | (with_reducible exact spec_DrawBestTime.mono _ _)
   | (with_reducible exact LeO.refl _)
   | (with_reducible exact LeO.none _)
   | (with_reducible refine LeO.ite ?_ ?_)
   | (with_reducible refine LeO.bind ?_ (fun _ => ?_))
   | exact ih0 _ _ _ _ _
   | exact laws_allTime.mono _ _
   | exact spec_BestTime.mono _ _ _ _
   | exact spec_DrawBestTime.mono _ _
   | exact LeO.none _
   | refine LeO.ite ?_ ?_
   | refine LeO.bind ?_ (fun _ => ?_)
set_option maxHeartbeats 8000000 in
set_option maxRecDepth 100000 in
theorem laws_FnBestTimeMore.calls (k : Nat) (A0 : Option Addr) (c0 : Nat) (l0 : List Int) (r : Bool) (w : World) (hr0 : Kd.C (Kd.int .u8) w A0 l0.length l0) (hc0 : l0.length ≤ c0) (hT : Tab w) (h : laws_FnBestTimeMore.f k l0 = some r) :
  Calls Tryd.prog 6 #[.slice A0 l0.length c0] w fun e w' => e = .returned (.bool r) ∧ Below w.heap.size w w' := by
 have HT := Aside0.mk hT
 clear hT
 have HR0 := Aside0.mk hr0
 have HC0 := Aside0.mk hc0
 clear hr0 hc0
 have HB := Aside0.mk (Below.refl w.heap.size w)
 have H : (if (l0.length : Int) > 1048576 then (some true) else ((spec_DrawBestTime.f k l0).bind fun bt528 => ((impl_BestTime.f bt528.1 bt528.2.1 bt528.2.2).bind fun t535 => ((spec_BestTime.f k bt528.1 bt528.2.1 bt528.2.2).bind fun t536 => (if t535 = t536 then (laws_FnBestTimeMore.j0 k bt528.1 bt528.2.1 bt528.2.2 t535 (decide (t535 < 0))) else (laws_FnBestTimeMore.j0 k bt528.1 bt528.2.1 bt528.2.2 t535 true)))))) = some r := h
 clear h
 by_cases c2 : (l0.length : Int) > 1048576
 ·rw [if_pos c2] at H
  have c2b0 : decide (1048576 < (l0.length : Int)) = true := decide_eq_true c2
  have c2b1 : decide (1048576 < l0.length) = true := decide_eq_true (by omega)
  clear c2
  obtain rfl := Option.some.inj H
  go_enter Tryd.func6, Tryd.ntmps6
  go_wp2
  go_ret
  exact ⟨by first | rfl | (simp [errW_none, errW_some] <;> rfl) | (simp [*, errW_none, errW_some] <;> rfl), HB.out⟩
 ·rw [if_neg c2] at H
  have c2b0 : decide (1048576 < (l0.length : Int)) = false := decide_eq_false c2
  have c2b1 : decide (1048576 < l0.length) = false := decide_eq_false (by omega)
  clear c2
  replace H := Option.bind_eq_some_iff.mp H
  obtain ⟨⟨t528, t529, t530⟩, A30, H⟩ := H
  replace H : ((impl_BestTime.f t528 t529 t530).bind fun t535 => ((spec_BestTime.f k t528 t529 t530).bind fun t536 => (if t535 = t536 then (laws_FnBestTimeMore.j0 k t528 t529 t530 t535 (decide (t535 < 0))) else (laws_FnBestTimeMore.j0 k t528 t529 t530 t535 true)))) = some r := H
  have A3 := Aside0.mk A30
  clear A30
  replace H := Option.bind_eq_some_iff.mp H
  obtain ⟨t535, A40, H⟩ := H
  replace H : ((spec_BestTime.f k t528 t529 t530).bind fun t536 => (if t535 = t536 then (laws_FnBestTimeMore.j0 k t528 t529 t530 t535 (decide (t535 < 0))) else (laws_FnBestTimeMore.j0 k t528 t529 t530 t535 true))) = some r := H
  have A4 := Aside0.mk A40
  clear A40
  have HC5 := Aside0.mk H
  clear H
  go_enter Tryd.func6, Tryd.ntmps6
  go_upto_region 5 with (first | ((with_reducible refine gate_callee (f := 22) rfl ?_); refine goesL_ (some 12) rfl rfl Tryd.func22 (by kernel_rfl) rfl #[.slice A0 l0.length c0] rfl (by (try simp only [List.map_toArray, List.map_cons, List.map_nil]); first | done | rfl | (simp only [List.length_drop, List.length_take]; rfl)) ?_; (with_reducible refine (spec_DrawBestTime.calls k _ _ l0 t528 t529 t530 _ ?side1 ?side2 A3.out).mono ?_); (case side1 => exact HR0.out); (case side2 => exact HC0.out); rintro e w6 ⟨v531, v533, rfl, ho0, ho1, hb⟩; refine ⟨_, rfl, ?_⟩; have n0_ := Aside0.mk (Kd.S_lower ho0 (below_size HB.out)); have n1_ := Aside0.mk (Kd.Q_lower ho1 (below_size HB.out)); have n2_ := Aside0.mk (below_step HB.out hb); clear HB; have HO532 := n0_; have HO534 := n1_; have HB := n2_; clear n0_ n1_ n2_; (try clear hb); (try clear hb2); (try clear hk); (try clear hi); (try clear ho0); (try clear ho1); obtain ⟨Ao7, co7, eo7⟩ := Kd.S_slice HO532.out; subst eo7; obtain ⟨Ao8, co8, eo8, _⟩ := Kd.Q_slice HO534.out; subst eo8) | ((with_reducible refine gate_callee (f := 12) rfl ?_); refine goesL_ (some 19) rfl rfl Tryd.func12 (by kernel_rfl) rfl #[.slice Ao7 t528.length co7, .slice Ao8 t529.length co8, .int .i64 t530] rfl (by (try simp only [List.map_toArray, List.map_cons, List.map_nil]); first | done | rfl | (simp only [List.length_drop, List.length_take]; rfl)) ?_; (with_reducible refine (impl_BestTime.calls _ _ t528 _ _ t529 t530 t535 _ ?side1 ?side2 ?side3 ?side4 ?side5 A4.out).mono ?_); (case side1 => exact (Kd.S_reads' HO532.out).2.2); (case side2 => exact (Kd.S_reads' HO532.out).2.1); (case side3 => exact (Kd.Q_reads' HO534.out).2.2); (case side4 => exact (Kd.Q_reads' HO534.out).2.1); (case side5 => exact Tab.of HT.out HB.out); rintro e w9 ⟨rfl, hb⟩; refine ⟨_, rfl, ?_⟩; have n0_ := Aside0.mk (Kd.S_below HO532.out hb); have n1_ := Aside0.mk (Kd.Q_below HO534.out hb); have n2_ := Aside0.mk (below_step HB.out hb); clear HO532; clear HO534; clear HB; have HO532 := n0_; have HO534 := n1_; have HB := n2_; clear n0_ n1_ n2_; (try clear hb); (try clear hb2); (try clear hk); (try clear hi)))
  (try simp only [Act.put, List.setIfInBounds_toArray, List.set_cons_zero, List.set_cons_succ])
  go_cut [29] (fun v29 wc => ∃ (kq : Nat) (x29_4 : Bool), v29 = .bool x29_4 ∧ Aside0 (laws_FnBestTimeMore.j0 kq t528 t529 t530 t535 x29_4 = some r) ∧ Aside0 (kq ≤ k) ∧ Aside0 (Kd.S k39 39 wc w.heap.size (fun k_ => some k_ ≠ ((.slice Ao8 t529.length co8) : Value).ownBlock) (.slice Ao7 t528.length co7) t528) ∧ Aside0 (Kd.Q (Kd.int .i64) 3 wc w.heap.size (fun _ => True) (.slice Ao8 t529.length co8) t529) ∧ Aside0 (Below w.heap.size w wc))
  case first =>
   have H := HC5.out
   clear HC5
   replace H := Option.bind_eq_some_iff.mp H
   obtain ⟨t536, A100, H⟩ := H
   replace H : (if t535 = t536 then (laws_FnBestTimeMore.j0 k t528 t529 t530 t535 (decide (t535 < 0))) else (laws_FnBestTimeMore.j0 k t528 t529 t530 t535 true)) = some r := H
   have A10 := Aside0.mk A100
   clear A100
   by_cases c11 : t535 = t536
   ·rw [if_pos c11] at H
    have c11b0 : (t535 == t536) = true := beq_iff_eq.mpr c11
    have c11b1 : (t535 != t536) = false := bne_eq_false_iff_eq.mpr c11
    clear c11
    (first | rw [c11b0] | (simp only [i64_w, i32_w]; rw [c11b0]) | skip)
    have H' := Aside0.mk H
    clear H
    go_wp2_with (first | ((with_reducible refine gate_callee (f := 9) rfl ?_); refine goesL_ (some 24) rfl rfl Tryd.func9 (by kernel_rfl) rfl #[.slice Ao7 t528.length co7, .slice Ao8 t529.length co8, .int .i64 t530] rfl (by (try simp only [List.map_toArray, List.map_cons, List.map_nil]); first | done | rfl | (simp only [List.length_drop, List.length_take]; rfl)) ?_; (with_reducible refine (spec_BestTime.calls k _ _ t528 _ _ t529 t530 t536 _ ?side1 ?side2 ?side3 ?side4 A10.out).mono ?_); (case side1 => exact (Kd.S_reads' HO532.out).2.2); (case side2 => exact (Kd.S_reads' HO532.out).2.1); (case side3 => exact (Kd.Q_reads' HO534.out).2.2); (case side4 => exact (Kd.Q_reads' HO534.out).2.1); rintro e w12 ⟨rfl, hb⟩; refine ⟨_, rfl, ?_⟩; have n0_ := Aside0.mk (Kd.S_below HO532.out hb); have n1_ := Aside0.mk (Kd.Q_below HO534.out hb); have n2_ := Aside0.mk (below_step HB.out hb); clear HO532; clear HO534; clear HB; have HO532 := n0_; have HO534 := n1_; have HB := n2_; clear n0_ n1_ n2_; (try clear hb); (try clear hb2); (try clear hk); (try clear hi)))
    go_meet
    case rel => exact ⟨_, (decide (t535 < 0)), (by first | rfl | (simp; done) | (simp [*]; done)), H', ⟨by first | omega | exact Nat.le_refl _⟩, ⟨HO532.out⟩, ⟨HO534.out⟩, ⟨HB.out⟩⟩
   ·rw [if_neg c11] at H
    have c11b0 : (t535 == t536) = false := beq_eq_false_iff_ne.mpr c11
    have c11b1 : (t535 != t536) = true := bne_iff_ne.mpr c11
    (first | rw [c11b0] | (simp only [i64_w, i32_w]; rw [c11b0]) | skip)
    have H' := Aside0.mk H
    clear H
    go_wp2_with (first | ((with_reducible refine gate_callee (f := 9) rfl ?_); refine goesL_ (some 24) rfl rfl Tryd.func9 (by kernel_rfl) rfl #[.slice Ao7 t528.length co7, .slice Ao8 t529.length co8, .int .i64 t530] rfl (by (try simp only [List.map_toArray, List.map_cons, List.map_nil]); first | done | rfl | (simp only [List.length_drop, List.length_take]; rfl)) ?_; (with_reducible refine (spec_BestTime.calls k _ _ t528 _ _ t529 t530 t536 _ ?side1 ?side2 ?side3 ?side4 A10.out).mono ?_); (case side1 => exact (Kd.S_reads' HO532.out).2.2); (case side2 => exact (Kd.S_reads' HO532.out).2.1); (case side3 => exact (Kd.Q_reads' HO534.out).2.2); (case side4 => exact (Kd.Q_reads' HO534.out).2.1); rintro e w13 ⟨rfl, hb⟩; refine ⟨_, rfl, ?_⟩; have n0_ := Aside0.mk (Kd.S_below HO532.out hb); have n1_ := Aside0.mk (Kd.Q_below HO534.out hb); have n2_ := Aside0.mk (below_step HB.out hb); clear HO532; clear HO534; clear HB; have HO532 := n0_; have HO534 := n1_; have HB := n2_; clear n0_ n1_ n2_; (try clear hb); (try clear hb2); (try clear hk); (try clear hi)))
    go_meet
    case rel => exact ⟨_, (true), (by first | rfl | (simp; done) | (simp [*]; done)), H', ⟨by first | omega | exact Nat.le_refl _⟩, ⟨HO532.out⟩, ⟨HO534.out⟩, ⟨HB.out⟩⟩
  case rest =>
   clear HC5
   try clear c1
   try clear c2
   try clear c2b0
   try clear c2b1
   try clear p2
   try clear c6
   try clear c9
   try clear c11
   try clear c11b0
   try clear c11b1
   try clear c12
   obtain ⟨kq, x29_4, rfl, HA, HJ4, HO_3, HO_4, HB⟩ := hcut
   cases kq with
   | zero => exact absurd HA.out (by simp [laws_FnBestTimeMore.j0])
   | succ kj4 =>
    have H := HA.out
    clear HA
    simp only [laws_FnBestTimeMore.j0] at H
    by_cases c14 : x29_4 = true
    ·subst c14
     have H1 : ((spec_BestTime.f kj4 t528 t529 t530).bind fun t537 => (some (t535 == t537))) = some r := by rw [if_pos rfl] at H; exact H
     clear H
     have H := H1
     clear H1
     replace H := Option.bind_eq_some_iff.mp H
     obtain ⟨t537, A150, H⟩ := H
     replace H : (some (t535 == t537)) = some r := H
     have A15 := Aside0.mk A150
     clear A150
     obtain rfl := Option.some.inj H
     go_wp2_with (first | ((with_reducible refine gate_callee (f := 9) rfl ?_); refine goesL_ (some 34) rfl rfl Tryd.func9 (by kernel_rfl) rfl #[.slice Ao7 t528.length co7, .slice Ao8 t529.length co8, .int .i64 t530] rfl (by (try simp only [List.map_toArray, List.map_cons, List.map_nil]); first | done | rfl | (simp only [List.length_drop, List.length_take]; rfl)) ?_; (with_reducible refine (spec_BestTime.calls kj4 _ _ t528 _ _ t529 t530 t537 _ ?side1 ?side2 ?side3 ?side4 A15.out).mono ?_); (case side1 => exact (Kd.S_reads' HO_3.out).2.2); (case side2 => exact (Kd.S_reads' HO_3.out).2.1); (case side3 => exact (Kd.Q_reads' HO_4.out).2.2); (case side4 => exact (Kd.Q_reads' HO_4.out).2.1); rintro e w16 ⟨rfl, hb⟩; refine ⟨_, rfl, ?_⟩; have n0_ := Aside0.mk (Kd.S_below HO_3.out hb); have n1_ := Aside0.mk (Kd.Q_below HO_4.out hb); have n2_ := Aside0.mk (below_step HB.out hb); clear HO_3; clear HO_4; clear HB; have HO_3 := n0_; have HO_4 := n1_; have HB := n2_; clear n0_ n1_ n2_; (try clear hb); (try clear hb2); (try clear hk); (try clear hi)))
     go_ret
     exact ⟨by first | rfl | (simp [errW_none, errW_some] <;> rfl) | (simp [*, errW_none, errW_some] <;> rfl), HB.out⟩
    ·replace c14 := Bool.eq_false_iff.mpr c14
     subst c14
     have H1 : (if t530 = 4 then ((impl_BestTime.f t528 t529 1).bind fun t538 => ((laws_allTime.f kj4 t528).bind fun t539 => (some (t538 == t539)))) else ((impl_BestTime.f t528 t529 (wrap64 (t530 + 1))).bind fun t540 => (if t540 ≤ t535 then ((impl_BestTime.f t528 t529 1).bind fun t541 => ((laws_allTime.f kj4 t528).bind fun t542 => (some (t541 == t542)))) else (some false)))) = some r := by rw [if_neg (show ¬ (false = true) by decide)] at H; exact H
     clear H
     have H := H1
     clear H1
     by_cases c17 : t530 = 4
     ·rw [if_pos c17] at H
      have c17b0 : (t530 == 4) = true := beq_iff_eq.mpr c17
      have c17b1 : (t530 != 4) = false := bne_eq_false_iff_eq.mpr c17
      clear c17
      replace H := Option.bind_eq_some_iff.mp H
      obtain ⟨t538, A180, H⟩ := H
      replace H : ((laws_allTime.f kj4 t528).bind fun t539 => (some (t538 == t539))) = some r := H
      have A18 := Aside0.mk A180
      clear A180
      replace H := Option.bind_eq_some_iff.mp H
      obtain ⟨t539, A190, H⟩ := H
      replace H : (some (t538 == t539)) = some r := H
      have A19 := Aside0.mk A190
      clear A190
      obtain rfl := Option.some.inj H
      go_wp2_with (first | (go_at_call 12; (with_reducible refine (impl_BestTime.calls _ _ t528 _ _ t529 1 t538 _ ?side1 ?side2 ?side3 ?side4 ?side5 A18.out).mono ?_); (case side1 => exact (Kd.S_reads' HO_3.out).2.2); (case side2 => exact (Kd.S_reads' HO_3.out).2.1); (case side3 => exact (Kd.Q_reads' HO_4.out).2.2); (case side4 => exact (Kd.Q_reads' HO_4.out).2.1); (case side5 => exact Tab.of HT.out HB.out); rintro e w20 ⟨rfl, hb⟩; have n0_ := Aside0.mk (Kd.S_below HO_3.out hb); have n1_ := Aside0.mk (Kd.Q_below HO_4.out hb); have n2_ := Aside0.mk (below_step HB.out hb); clear HO_3; clear HO_4; clear HB; have HO_3 := n0_; have HO_4 := n1_; have HB := n2_; clear n0_ n1_ n2_; (try clear hb); (try clear hb2); (try clear hk); (try clear hi)) | (go_at_call 23; (with_reducible refine (laws_allTime.calls kj4 _ _ t528 t539 _ ?side1 ?side2 A19.out).mono ?_); (case side1 => exact (Kd.S_reads' HO_3.out).2.2); (case side2 => exact (Kd.S_reads' HO_3.out).2.1); rintro e w' ⟨rfl, ⟨nd, rfl⟩⟩))
      go_ret
      exact ⟨by first | rfl | (simp [errW_none, errW_some] <;> rfl) | (simp [*, errW_none, errW_some] <;> rfl), by repeat (first | (with_reducible first | exact HB.out | apply below_alloc | apply pw_below_drewN | apply below_drew1) | exact HB.out)⟩
     ·rw [if_neg c17] at H
      have c17b0 : (t530 == 4) = false := beq_eq_false_iff_ne.mpr c17
      have c17b1 : (t530 != 4) = true := bne_iff_ne.mpr c17
      replace H := Option.bind_eq_some_iff.mp H
      obtain ⟨t540, A210, H⟩ := H
      replace H : (if t540 ≤ t535 then ((impl_BestTime.f t528 t529 1).bind fun t541 => ((laws_allTime.f kj4 t528).bind fun t542 => (some (t541 == t542)))) else (some false)) = some r := H
      have A21 := Aside0.mk A210
      clear A210
      by_cases c22 : t540 ≤ t535
      ·rw [if_pos c22] at H
       have c22b0 : decide (t540 ≤ t535) = true := decide_eq_true c22
       clear c22
       replace H := Option.bind_eq_some_iff.mp H
       obtain ⟨t541, A230, H⟩ := H
       replace H : ((laws_allTime.f kj4 t528).bind fun t542 => (some (t541 == t542))) = some r := H
       have A23 := Aside0.mk A230
       clear A230
       replace H := Option.bind_eq_some_iff.mp H
       obtain ⟨t542, A240, H⟩ := H
       replace H : (some (t541 == t542)) = some r := H
       have A24 := Aside0.mk A240
       clear A240
       obtain rfl := Option.some.inj H
       go_wp2_with (first | (go_at_call 12; (with_reducible refine (impl_BestTime.calls _ _ t528 _ _ t529 (wrap64 (t530 + 1)) t540 _ ?side1 ?side2 ?side3 ?side4 ?side5 A21.out).mono ?_); (case side1 => exact (Kd.S_reads' HO_3.out).2.2); (case side2 => exact (Kd.S_reads' HO_3.out).2.1); (case side3 => exact (Kd.Q_reads' HO_4.out).2.2); (case side4 => exact (Kd.Q_reads' HO_4.out).2.1); (case side5 => exact Tab.of HT.out HB.out); rintro e w25 ⟨rfl, hb⟩; have n0_ := Aside0.mk (Kd.S_below HO_3.out hb); have n1_ := Aside0.mk (Kd.Q_below HO_4.out hb); have n2_ := Aside0.mk (below_step HB.out hb); clear HO_3; clear HO_4; clear HB; have HO_3 := n0_; have HO_4 := n1_; have HB := n2_; clear n0_ n1_ n2_; (try clear hb); (try clear hb2); (try clear hk); (try clear hi)) | (go_at_call 12; (with_reducible refine (impl_BestTime.calls _ _ t528 _ _ t529 1 t541 _ ?side1 ?side2 ?side3 ?side4 ?side5 A23.out).mono ?_); (case side1 => exact (Kd.S_reads' HO_3.out).2.2); (case side2 => exact (Kd.S_reads' HO_3.out).2.1); (case side3 => exact (Kd.Q_reads' HO_4.out).2.2); (case side4 => exact (Kd.Q_reads' HO_4.out).2.1); (case side5 => exact Tab.of HT.out HB.out); rintro e w26 ⟨rfl, hb⟩; have n0_ := Aside0.mk (Kd.S_below HO_3.out hb); have n1_ := Aside0.mk (Kd.Q_below HO_4.out hb); have n2_ := Aside0.mk (below_step HB.out hb); clear HO_3; clear HO_4; clear HB; have HO_3 := n0_; have HO_4 := n1_; have HB := n2_; clear n0_ n1_ n2_; (try clear hb); (try clear hb2); (try clear hk); (try clear hi)) | (go_at_call 23; (with_reducible refine (laws_allTime.calls kj4 _ _ t528 t542 _ ?side1 ?side2 A24.out).mono ?_); (case side1 => exact (Kd.S_reads' HO_3.out).2.2); (case side2 => exact (Kd.S_reads' HO_3.out).2.1); rintro e w' ⟨rfl, ⟨nd, rfl⟩⟩))
       go_ret
       exact ⟨by first | rfl | (simp [errW_none, errW_some] <;> rfl) | (simp [*, errW_none, errW_some] <;> rfl), by repeat (first | (with_reducible first | exact HB.out | apply below_alloc | apply pw_below_drewN | apply below_drew1) | exact HB.out)⟩
      ·rw [if_neg c22] at H
       have c22b0 : decide (t540 ≤ t535) = false := decide_eq_false c22
       clear c22
       obtain rfl := Option.some.inj H
       go_wp2_with (first | (go_at_call 12; (with_reducible refine (impl_BestTime.calls _ _ t528 _ _ t529 (wrap64 (t530 + 1)) t540 _ ?side1 ?side2 ?side3 ?side4 ?side5 A21.out).mono ?_); (case side1 => exact (Kd.S_reads' HO_3.out).2.2); (case side2 => exact (Kd.S_reads' HO_3.out).2.1); (case side3 => exact (Kd.Q_reads' HO_4.out).2.2); (case side4 => exact (Kd.Q_reads' HO_4.out).2.1); (case side5 => exact Tab.of HT.out HB.out); rintro e w27 ⟨rfl, hb⟩; have n0_ := Aside0.mk (Kd.S_below HO_3.out hb); have n1_ := Aside0.mk (Kd.Q_below HO_4.out hb); have n2_ := Aside0.mk (below_step HB.out hb); clear HO_3; clear HO_4; clear HB; have HO_3 := n0_; have HO_4 := n1_; have HB := n2_; clear n0_ n1_ n2_; (try clear hb); (try clear hb2); (try clear hk); (try clear hi)))
       go_ret
       exact ⟨by first | rfl | (simp [errW_none, errW_some] <;> rfl) | (simp [*, errW_none, errW_some] <;> rfl), HB.out⟩
end Go.Proofs.YtimbfcedigaffaaDoor.P
end
section
set_option linter.unusedVariables false
set_option linter.unusedSimpArgs false
namespace Go.Proofs.YtimbfcedigaffaaDoor.Core
open Go Go.RowKit Go.Proofs.YtimbfcedigaffaaDoorW.PrintWords Go.Proofs.YtimbfcedigaffaaDoorW.PrintMore Go.Proofs.YtimbfcedigaffaaDoor.P
theorem bestTD_neg {g : List Tk} {room : List Int} {wk : Int} (hg : Fits g) (hr : room.length < big) (h : ¬ bestTD g room wk < 0) : ∃ G, fewD g room wk = some G := by
 cases hf : fewD g room wk with
 | none =>
  have e : bestTD g room wk = -1 := by unfold bestTD bestD; rw [hf]
  rw [e] at h
  exact absurd (by decide : (-1 : Int) < 0) h
 | some G => exact ⟨G, rfl⟩
theorem FnBestTimeMore_pure (l0 : List Int) (hW : Bytes l0) : ∃ k, laws_FnBestTimeMore.f k l0 = some true := by
 refine Ev.one (f := fun k => laws_FnBestTimeMore.f k l0) (EvP.ev ?_)
 unfold laws_FnBestTimeMore.f
 refine EvP.ite (fun _ => EvP.ret rfl) (fun hlen => ?_)
 refine (ev_DrawBestTime hW).bind fun ⟨g, room, wk⟩ hg => ?_
 obtain ⟨hg, hr, hw0, hw5⟩ := hg
 dsimp only at hg hr hw0 hw5 ⊢
 have hfit := hg.fits (by unfold big; omega) (by unfold big; omega)
 have hrb : room.length < big := by unfold big; omega
 have hs := ev_BestTime' hfit (room := room) (wk := wk) hrb
 refine Ev.bindP (Ev.const (bestTD g room wk)) (Ev.bindP hs (EvP.pos rfl ?_))
 by_cases hneg : bestTD g room wk < 0
 ·rw [decide_eq_true hneg]
  refine EvP.succ ?_
  simp only [laws_FnBestTimeMore.j0]
  exact EvP.pos (by first | rfl | trivial) (Ev.bindP hs (EvP.ret (beq_iff_eq.2 rfl)))
 rw [decide_eq_false hneg]
 obtain ⟨G, hfew⟩ := bestTD_neg hfit hrb hneg
 obtain ⟨h5, hp⟩ := fewD_some hfew
 obtain ⟨hG, hroom, hw1, hw4⟩ := placeD_some hp
 have hfew1 := few_wk hfew (show (1 : Int) ≤ 1 by decide) (by decide)
 have hone := bestTD_one hfit hrb hfew1
 have hall := ev_allTime (graphD_taskOk hG) (Nat.le_trans h5 (by decide))
 have hfin : EvP (fun k => (impl_BestTime.f g room 1).bind fun t => (laws_allTime.f k g).bind fun u => some (t == u)) (fun x => x = true) := by
  refine Ev.bindP (Ev.const (bestTD g room 1)) (Ev.bindP hall (EvP.ret ?_))
  rw [hone]
  exact beq_iff_eq.2 rfl
 refine EvP.succ ?_
 simp only [laws_FnBestTimeMore.j0]
 refine EvP.neg Bool.false_ne_true (EvP.ite (fun _ => hfin) (fun hne => ?_))
 rw [w64 (by omega) (by omega)]
 refine Ev.bindP (Ev.const (bestTD g room (wk + 1))) (EvP.pos (bestTD_more hfit hrb hfew (by omega) (by omega)) hfin)
end Go.Proofs.YtimbfcedigaffaaDoor.Core
end
