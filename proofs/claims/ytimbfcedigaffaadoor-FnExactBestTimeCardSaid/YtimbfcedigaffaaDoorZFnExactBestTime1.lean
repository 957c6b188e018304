/- The law FnExactBestTime holds of the given program: the proof's own part, with its row and its card, part 1 of 2. -/
import Derived.Test.YtimbfcedigaffaaDoorZCH16
section
namespace Go.Proofs.YtimbfcedigaffaaDoor.P
open Go.RowKit Go.Proofs.YtimbfcedigaffaaDoorW.PrintWords Go.Proofs.YtimbfcedigaffaaDoorW.PrintLast Go.Proofs.YtimbfcedigaffaaDoorW.PrintMore
attribute [local go_sem] max2_int min2_int max_two min_two max_three min_three max_four min_four   -- for this text's walks alone
set_option linter.unusedVariables false
set_option linter.unusedSimpArgs false
def spec_BestTime.f (k : Nat) (l0 : List (S39)) (l1 : List Int) (a2 : Int) : Option (Int) := (spec_validSearch.f k l0 l1 a2).bind fun t226 => (if t226 = true then ((spec_BestOrder.f k l0 l1 a2).bind fun t227 => ((spec_order.f k l0 l1 a2 t227).bind fun t230 => ((spec_endOf.f k l0 t230).bind fun t233 => (some t233)))) else (some (-1)))
theorem spec_BestTime.mono : ∀ a0 a1 a2 k, LeO (spec_BestTime.f k a0 a1 a2) (spec_BestTime.f (k + 1) a0 a1 a2) := by
 intro a0 a1 a2 k
 unfold spec_BestTime.f
 repeat' first
   | (with_reducible exact spec_BestOrder.mono _ _ _ _)
   | (with_reducible exact spec_endOf.mono _ _ _)
   | (with_reducible exact spec_order.mono _ _ _ _ _)
   | (with_reducible exact spec_validSearch.mono _ _ _ _)
   | (with_reducible exact LeO.refl _)
   | (with_reducible exact LeO.none _)
   | (with_reducible refine LeO.ite ?_ ?_)
   | (with_reducible refine LeO.bind ?_ (fun _ => ?_))
   | exact spec_BestOrder.mono _ _ _ _
   | exact spec_endOf.mono _ _ _
   | exact spec_order.mono _ _ _ _ _
   | exact spec_validSearch.mono _ _ _ _
   | exact LeO.none _
   | refine LeO.ite ?_ ?_
   | refine LeO.bind ?_ (fun _ => ?_)
set_option maxHeartbeats 8000000 in
set_option maxRecDepth 100000 in
theorem spec_BestTime.calls (k : Nat) (A0 : Option Addr) (c0 : Nat) (l0 : List (S39)) (A1 : Option Addr) (c1 : Nat) (l1 : List Int) (a2 : Int) (r : Int) (w : World) (hr0 : Kd.C k39 w A0 l0.length l0) (hc0 : l0.length ≤ c0) (hr1 : Kd.C (Kd.int .i64) w A1 l1.length l1) (hc1 : l1.length ≤ c1) (h : spec_BestTime.f k l0 l1 a2 = some r) :
  Calls Tryd.prog 9 #[.slice A0 l0.length c0, .slice A1 l1.length c1, .int .i64 a2] w fun e w' => e = .returned (.int .i64 r) ∧ Below w.heap.size w w' := by
 have HR0 := Aside0.mk hr0
 have HC0 := Aside0.mk hc0
 clear hr0 hc0
 have HR1 := Aside0.mk hr1
 have HC1 := Aside0.mk hc1
 clear hr1 hc1
 have HB := Aside0.mk (Below.refl w.heap.size w)
 have H : ((spec_validSearch.f k l0 l1 a2).bind fun t226 => (if t226 = true then ((spec_BestOrder.f k l0 l1 a2).bind fun t227 => ((spec_order.f k l0 l1 a2 t227).bind fun t230 => ((spec_endOf.f k l0 t230).bind fun t233 => (some t233)))) else (some (-1)))) = some r := h
 clear h
 replace H := Option.bind_eq_some_iff.mp H
 obtain ⟨t226, A40, H⟩ := H
 replace H : (if t226 = true then ((spec_BestOrder.f k l0 l1 a2).bind fun t227 => ((spec_order.f k l0 l1 a2 t227).bind fun t230 => ((spec_endOf.f k l0 t230).bind fun t233 => (some t233)))) else (some (-1))) = some r := H
 have A4 := Aside0.mk A40
 clear A40
 by_cases c5 : t226 = true
 ·subst c5
  have H1 : ((spec_BestOrder.f k l0 l1 a2).bind fun t227 => ((spec_order.f k l0 l1 a2 t227).bind fun t230 => ((spec_endOf.f k l0 t230).bind fun t233 => (some t233)))) = some r := by rw [if_pos rfl] at H; exact H
  clear H
  have H := H1
  clear H1
  replace H := Option.bind_eq_some_iff.mp H
  obtain ⟨t227, A60, H⟩ := H
  replace H : ((spec_order.f k l0 l1 a2 t227).bind fun t230 => ((spec_endOf.f k l0 t230).bind fun t233 => (some t233))) = some r := H
  have A6 := Aside0.mk A60
  clear A60
  replace H := Option.bind_eq_some_iff.mp H
  obtain ⟨t230, A70, H⟩ := H
  replace H : ((spec_endOf.f k l0 t230).bind fun t233 => (some t233)) = some r := H
  have A7 := Aside0.mk A70
  clear A70
  replace H := Option.bind_eq_some_iff.mp H
  obtain ⟨t233, A80, H⟩ := H
  replace H : (some t233) = some r := H
  have A8 := Aside0.mk A80
  clear A80
  obtain rfl := Option.some.inj H
  go_enter Tryd.func9, Tryd.ntmps9
  go_wp2_with (first | ((with_reducible refine gate_callee (f := 26) rfl ?_); refine goesL_ (some 10) rfl rfl Tryd.func26 (by kernel_rfl) rfl #[.slice A0 l0.length c0, .slice A1 l1.length c1, .int .i64 a2] rfl (by (try simp only [List.map_toArray, List.map_cons, List.map_nil]); first | done | rfl | (simp only [List.length_drop, List.length_take]; rfl)) ?_; (with_reducible refine (spec_validSearch.calls k _ _ l0 _ _ l1 a2 true _ ?side1 ?side2 ?side3 ?side4 A4.out).mono ?_); (case side1 => repeat (first | exact HR0.out | (with_reducible refine Kd.C_alloc ?_ _) | (with_reducible refine Kd.C_drewN ?_ _) | (with_reducible refine Kd.C_drew ?_))); (case side2 => exact HC0.out); (case side3 => repeat (first | exact HR1.out | (with_reducible refine Kd.C_alloc ?_ _) | (with_reducible refine Kd.C_drewN ?_ _) | (with_reducible refine Kd.C_drew ?_))); (case side4 => exact HC1.out); rintro e w9 ⟨rfl, hb⟩; refine ⟨_, rfl, ?_⟩; have n0_ := Aside0.mk (below_step (by repeat (first | (with_reducible first | exact HB.out | apply below_alloc | apply pw_below_drewN | apply below_drew1) | exact HB.out)) hb); clear HB; have HB := n0_; clear n0_; (try clear hb); (try clear hb2); (try clear hk); (try clear hi)) | ((with_reducible refine gate_callee (f := 15) rfl ?_); refine goesL_ (some 19) rfl rfl Tryd.func15 (by kernel_rfl) rfl #[.slice A0 l0.length c0, .slice A1 l1.length c1, .int .i64 a2] rfl (by (try simp only [List.map_toArray, List.map_cons, List.map_nil]); first | done | rfl | (simp only [List.length_drop, List.length_take]; rfl)) ?_; (with_reducible refine (spec_BestOrder.calls k _ _ l0 _ _ l1 a2 t227 _ ?side1 ?side2 ?side3 ?side4 A6.out).mono ?_); (case side1 => repeat (first | exact (Kd.C_below HR0.out HB.out) | (with_reducible refine Kd.C_alloc ?_ _) | (with_reducible refine Kd.C_drewN ?_ _) | (with_reducible refine Kd.C_drew ?_))); (case side2 => exact HC0.out); (case side3 => repeat (first | exact (Kd.C_below HR1.out HB.out) | (with_reducible refine Kd.C_alloc ?_ _) | (with_reducible refine Kd.C_drewN ?_ _) | (with_reducible refine Kd.C_drew ?_))); (case side4 => exact HC1.out); rintro e w10 ⟨v228, rfl, ho0, hb⟩; refine ⟨_, rfl, ?_⟩; have n0_ := Aside0.mk (Kd.R_lower ho0 (below_size (by repeat (first | (with_reducible first | exact HB.out | apply below_alloc | apply pw_below_drewN | apply below_drew1) | exact HB.out)))); have n1_ := Aside0.mk (below_step (by repeat (first | (with_reducible first | exact HB.out | apply below_alloc | apply pw_below_drewN | apply below_drew1) | exact HB.out)) hb); clear HB; have HO229 := n0_; have HB := n1_; clear n0_ n1_; (try clear hb); (try clear hb2); (try clear hk); (try clear hi); (try clear ho0); obtain ⟨Ao11, co11, eo11⟩ := Kd.R_slice HO229.out; subst eo11) | ((with_reducible refine gate_callee (f := 28) rfl ?_); refine goesL_ (some 20) rfl rfl Tryd.func28 (by kernel_rfl) rfl #[.slice A0 l0.length c0, .slice A1 l1.length c1, .int .i64 a2, .slice Ao11 t227.length co11] rfl (by (try simp only [List.map_toArray, List.map_cons, List.map_nil]); first | done | rfl | (simp only [List.length_drop, List.length_take]; rfl)) ?_; (with_reducible refine (spec_order.calls k _ _ l0 _ _ l1 a2 _ _ t227 t230 _ ?side1 ?side2 ?side3 ?side4 ?side5 ?side6 A7.out).mono ?_); (case side1 => repeat (first | exact (Kd.C_below HR0.out HB.out) | (with_reducible refine Kd.C_alloc ?_ _) | (with_reducible refine Kd.C_drewN ?_ _) | (with_reducible refine Kd.C_drew ?_))); (case side2 => exact HC0.out); (case side3 => repeat (first | exact (Kd.C_below HR1.out HB.out) | (with_reducible refine Kd.C_alloc ?_ _) | (with_reducible refine Kd.C_drewN ?_ _) | (with_reducible refine Kd.C_drew ?_))); (case side4 => exact HC1.out); (case side5 => repeat (first | exact (Kd.R_reads' HO229.out).2.2 | (with_reducible refine Kd.C_alloc ?_ _) | (with_reducible refine Kd.C_drewN ?_ _) | (with_reducible refine Kd.C_drew ?_))); (case side6 => exact (Kd.R_reads' HO229.out).2.1); rintro e w12 ⟨v231, rfl, ho0, hb⟩; refine ⟨_, rfl, ?_⟩; have n0_ := Aside0.mk (Kd.R_elder' (by (with_reducible repeat (first | apply Kd.R_alloc | apply Kd.R_drewN | apply Kd.R_drew)); exact HO229.out) (Kd.R_base ho0) hb); have n1_ := Aside0.mk (Kd.R_lower (Kd.R_new' ho0 (Kd.R_lt (by (with_reducible repeat (first | apply Kd.R_alloc | apply Kd.R_drewN | apply Kd.R_drew)); exact HO229.out))) (below_size (by repeat (first | (with_reducible first | exact HB.out | apply below_alloc | apply pw_below_drewN | apply below_drew1) | exact HB.out)))); have n2_ := Aside0.mk (below_step (by repeat (first | (with_reducible first | exact HB.out | apply below_alloc | apply pw_below_drewN | apply below_drew1) | exact HB.out)) hb); clear HO229; clear HB; have HO229 := n0_; have HO232 := n1_; have HB := n2_; clear n0_ n1_ n2_; (try clear hb); (try clear hb2); (try clear hk); (try clear hi); (try clear ho0); obtain ⟨Ao13, co13, eo13⟩ := Kd.R_slice HO232.out; subst eo13) | ((with_reducible refine gate_callee (f := 27) rfl ?_); refine goesL_ (some 21) rfl rfl Tryd.func27 (by kernel_rfl) rfl #[.slice A0 l0.length c0, .slice Ao13 t230.length co13] rfl (by (try simp only [List.map_toArray, List.map_cons, List.map_nil]); first | done | rfl | (simp only [List.length_drop, List.length_take]; rfl)) ?_; (with_reducible refine (spec_endOf.calls k _ _ l0 _ _ t230 t233 _ ?side1 ?side2 ?side3 ?side4 A8.out).mono ?_); (case side1 => repeat (first | exact (Kd.C_below HR0.out HB.out) | (with_reducible refine Kd.C_alloc ?_ _) | (with_reducible refine Kd.C_drewN ?_ _) | (with_reducible refine Kd.C_drew ?_))); (case side2 => exact HC0.out); (case side3 => repeat (first | exact (Kd.R_reads' HO232.out).2.2 | (with_reducible refine Kd.C_alloc ?_ _) | (with_reducible refine Kd.C_drewN ?_ _) | (with_reducible refine Kd.C_drew ?_))); (case side4 => exact (Kd.R_reads' HO232.out).2.1); rintro e w14 ⟨rfl, hb⟩; refine ⟨_, rfl, ?_⟩; have n0_ := Aside0.mk (Kd.R_below (by (with_reducible repeat (first | apply Kd.R_alloc | apply Kd.R_drewN | apply Kd.R_drew)); exact HO229.out) hb); have n1_ := Aside0.mk (Kd.R_below (by (with_reducible repeat (first | apply Kd.R_alloc | apply Kd.R_drewN | apply Kd.R_drew)); exact HO232.out) hb); have n2_ := Aside0.mk (below_step (by repeat (first | (with_reducible first | exact HB.out | apply below_alloc | apply pw_below_drewN | apply below_drew1) | exact HB.out)) hb); clear HO229; clear HO232; clear HB; have HO229 := n0_; have HO232 := n1_; have HB := n2_; clear n0_ n1_ n2_; (try clear hb); (try clear hb2); (try clear hk); (try clear hi)))
  go_ret
  exact ⟨by first | rfl | (simp [errW_none, errW_some] <;> rfl) | (simp [*, errW_none, errW_some] <;> rfl), by repeat (first | (with_reducible first | exact HB.out | apply below_alloc | apply pw_below_drewN | apply below_drew1) | exact HB.out)⟩
 ·replace c5 := Bool.eq_false_iff.mpr c5
  subst c5
  have H1 : (some (-1)) = some r := by rw [if_neg (show ¬ (false = true) by decide)] at H; exact H
  clear H
  have H := H1
  clear H1
  obtain rfl := Option.some.inj H
  go_enter Tryd.func9, Tryd.ntmps9
  go_wp2_with (first | ((with_reducible refine gate_callee (f := 26) rfl ?_); refine goesL_ (some 10) rfl rfl Tryd.func26 (by kernel_rfl) rfl #[.slice A0 l0.length c0, .slice A1 l1.length c1, .int .i64 a2] rfl (by (try simp only [List.map_toArray, List.map_cons, List.map_nil]); first | done | rfl | (simp only [List.length_drop, List.length_take]; rfl)) ?_; (with_reducible refine (spec_validSearch.calls k _ _ l0 _ _ l1 a2 false _ ?side1 ?side2 ?side3 ?side4 A4.out).mono ?_); (case side1 => repeat (first | exact HR0.out | (with_reducible refine Kd.C_alloc ?_ _) | (with_reducible refine Kd.C_drewN ?_ _) | (with_reducible refine Kd.C_drew ?_))); (case side2 => exact HC0.out); (case side3 => repeat (first | exact HR1.out | (with_reducible refine Kd.C_alloc ?_ _) | (with_reducible refine Kd.C_drewN ?_ _) | (with_reducible refine Kd.C_drew ?_))); (case side4 => exact HC1.out); rintro e w15 ⟨rfl, hb⟩; refine ⟨_, rfl, ?_⟩; have n0_ := Aside0.mk (below_step (by repeat (first | (with_reducible first | exact HB.out | apply below_alloc | apply pw_below_drewN | apply below_drew1) | exact HB.out)) hb); clear HB; have HB := n0_; clear n0_; (try clear hb); (try clear hb2); (try clear hk); (try clear hi)))
  go_ret
  exact ⟨by first | rfl | (simp [errW_none, errW_some] <;> rfl) | (simp [*, errW_none, errW_some] <;> rfl), by repeat (first | (with_reducible first | exact HB.out | apply below_alloc | apply pw_below_drewN | apply below_drew1) | exact HB.out)⟩
end Go.Proofs.YtimbfcedigaffaaDoor.P
end
section
set_option linter.unusedVariables false
set_option linter.unusedSimpArgs false
namespace Go.Proofs.YtimbfcedigaffaaDoor.Core
open Go Go.RowKit Go.Proofs.YtimbfcedigaffaaDoorW.PrintWords Go.Proofs.YtimbfcedigaffaaDoorW.PrintMore Go.Proofs.YtimbfcedigaffaaDoor.P
def bestTD (g : List Tk) (room : List Int) (wk : Int) : Int := match bestD g room wk with | none => -1 | some b => (b.2 : Int)
end Go.Proofs.YtimbfcedigaffaaDoor.Core
end
section
set_option linter.unusedVariables false
set_option linter.unusedSimpArgs false
namespace Go.Proofs.YtimbfcedigaffaaDoor.Core
open Go Go.RowKit Go.Proofs.YtimbfcedigaffaaDoorW.PrintWords Go.Proofs.YtimbfcedigaffaaDoorW.PrintMore Go.Proofs.YtimbfcedigaffaaDoor.P
/-- What the reference makes of each of all orders. -/
theorem ord_ev {g : List Tk} {room : List Int} {wk : Int} {G : GD} (hfew : fewD g room wk = some G) : ∀ o ∈ ordersL G.needs (g.length + 1) [] 0, (ordOk g.length G.needs o 0 = true ∧ o.length = g.length) ∧ Ev (fun k => spec_order.f k g room wk o) (up (startGo g G.needs room wk o 0 (List.replicate g.length 0))) ∧ Ev (fun k => spec_endOf.f k g (up (startGo g G.needs room wk o 0 (List.replicate g.length 0)))) ((ordEnd g G.needs room wk o : Nat) : Int) := by
 obtain ⟨h5, hp⟩ := fewD_some hfew
 obtain ⟨hG, hroom, hw1, hw4⟩ := placeD_some hp
 have v := vg_of hG
 have h8 := v.n8
 have h256 := pow8 h8
 have hf := fine_of hG hroom hw1
 have htok := graphD_taskOk hG
 have hnl := v.nl
 have hnb : ∀ x, G.needs.getD x 0 < 256 := fun x => Nat.lt_of_lt_of_le (getD_lt v.nb x) h256
 have hz0 : zb g.length 0 ≤ g.length := zb_bound 0 g.length
 intro o ho
 obtain ⟨r, e, h1, h2⟩ := ordersL_ok (g.length + 1) [] 0 o ho
 have e : o = r := e
 rw [hnl] at h1 h2
 rw [← e] at h1
 obtain ⟨h3, h4⟩ := endGo_is hnb hf h8 o 0 0 (List.replicate g.length 0) 0 h1 (st_zero g) (by omega) (Nat.two_pow_pos _) (by rw [h2]; exact hz0) ⟨(fun k hk => by rw [Nat.zero_testBit] at hk; cases hk), .inl rfl⟩
 have h6 := ev_endOf htok h8 (by rw [startGo_length, List.length_replicate]) h4
 rw [← h3] at h6
 exact ⟨⟨h1, h2⟩, ev_orderS v hf htok h5 h2 h1, h6⟩
theorem ev_BestTime' {g : List Tk} (hg : Fits g) {room : List Int} {wk : Int} (hr : room.length < big) : Ev (fun k => spec_BestTime.f k g room wk) (bestTD g room wk) := by
 have hvs := ev_validSearch hg hr wk
 obtain ⟨hbo, hb⟩ := ev_BestOrder' hg (room := room) (wk := wk) hr
 unfold spec_BestTime.f
 refine Ev.bind hvs ?_
 cases hfew : fewD g room wk with
 | none =>
  have e : bestTD g room wk = -1 := by unfold bestTD bestD; rw [hfew]
  rw [e]
  exact Ev.neg (by simp) (Ev.const _)
 | some G =>
  obtain ⟨b, h1, h2, h3⟩ := hb G hfew
  have e1 : bestTD g room wk = (b.2 : Int) := by unfold bestTD; rw [h1]
  have e2 : bestOD g room wk = b.1 := by unfold bestOD; rw [h1]
  obtain ⟨-, h4, h5⟩ := ord_ev hfew b.1 h2
  rw [e2] at hbo
  rw [e1, h3]
  exact Ev.pos rfl (Ev.bind hbo (Ev.bind h4 (Ev.bind h5 (Ev.const _))))
theorem ev_BestTime {g : List Tk} (hg : Fits g) {room : List Int} {wk : Int} (hr : room.length < big) (_ : (Lit.int .i64 wk).wf = true) : Ev (fun k => spec_BestTime.f k g room wk) (bestTD g room wk) := ev_BestTime' hg hr
end Go.Proofs.YtimbfcedigaffaaDoor.Core
end
section
set_option linter.unusedVariables false
set_option linter.unusedSimpArgs false
namespace Go.Proofs.YtimbfcedigaffaaDoor.P
open Go Go.RowKit Go.Shelf Go.Proofs.YtimbfcedigaffaaDoorW.PrintWords Go.Proofs.YtimbfcedigaffaaDoorW.PrintLast Go.Proofs.YtimbfcedigaffaaDoorW.PrintMore Go.Proofs.YtimbfcedigaffaaDoor.Core
attribute [local go_sem] Oper.semAt_some wide_fn wide_depth
def impl_BestTime.f (l0 : List S39) (l1 : List Int) (a2 : Int) : Option Int := some (bestTD l0 l1 a2)
set_option maxRecDepth 100000 in
set_option maxHeartbeats 2000000 in
theorem impl_BestTime.calls (A0 : Option Addr) (c0 : Nat) (l0 : List S39) (A1 : Option Addr) (c1 : Nat) (l1 : List Int) (a2 : Int) (r : Int) (w : World) (hr0 : Kd.C k39 w A0 l0.length l0) (hc0 : l0.length ≤ c0) (hr1 : Kd.C (Kd.int .i64) w A1 l1.length l1) (hc1 : l1.length ≤ c1) (hT : Tab w) (h : impl_BestTime.f l0 l1 a2 = some r) :
  Calls Tryd.prog 12 #[.slice A0 l0.length c0, .slice A1 l1.length c1, .int .i64 a2] w fun e w' => e = .returned (.int .i64 r) ∧ Below w.heap.size w w' := by
 have hr : bestTD l0 l1 a2 = r := Option.some.inj h
 clear h
 cases hb : bestD l0 l1 a2 with
 | none =>
  obtain rfl : -1 = r := by unfold bestTD at hr; rw [hb] at hr; exact hr
  have hfew : fewD l0 l1 a2 = none := best_none hb
  have HP := Aside0.mk (bestIn_none A0 c0 l0 A1 c1 l1 a2 w hT hr0 hc0 hr1 hc1 hfew)
  clear hr hb hfew hr0 hr1 hT
  go_enter Tryd.func12, Tryd.ntmps12
  go_wp2_with (go_at_call 30; refine HP.out.mono ?_; rintro e w1 ⟨rfl, hB⟩; have HB := Aside0.mk hB; clear hB)
  go_ret
  exact ⟨rfl, HB.out⟩
 | some b =>
  obtain rfl : (b.2 : Int) = r := by unfold bestTD at hr; rw [hb] at hr; exact hr
  have HP := Aside0.mk (bestIn_some A0 c0 l0 A1 c1 l1 a2 b w hT hr0 hc0 hr1 hc1 hb)
  clear hr hb hr0 hr1 hT
  go_enter Tryd.func12, Tryd.ntmps12
  go_wp2_with (go_at_call 30; refine HP.out.mono ?_; rintro e w1 ⟨v, rfl, hR, hB⟩; have HB := Aside0.mk hB; clear hB hR)
  go_ret
  exact ⟨rfl, HB.out⟩
end Go.Proofs.YtimbfcedigaffaaDoor.P
end
section
set_option linter.unusedVariables false
set_option linter.unusedSimpArgs false
namespace Go.Proofs.YtimbfcedigaffaaDoor.P
open Go Go.RowKit Go.Shelf Go.Proofs.YtimbfcedigaffaaDoorW.PrintWords Go.Proofs.YtimbfcedigaffaaDoorW.PrintLast Go.Proofs.YtimbfcedigaffaaDoorW.PrintMore Go.Proofs.YtimbfcedigaffaaDoor.Core
/-- What the walk takes: the functions' results. -/
structure laws_FnExactBestTime.Facts (k : Nat) (l0 : List S44) (l1 : List Int) (a2 : Int) : Prop where
 out : ∃ (y0 : List S39) (y1 : List Int) (R : Int), laws_toTaskS.f k l0 = some y0 ∧ laws_toIntS.f k l1 = some y1 ∧ spec_BestTime.f k y0 y1 a2 = some R ∧ impl_BestTime.f y0 y1 a2 = some R ∧ laws_eqTaskS.f k y0 y0 = some true ∧ laws_eqIntS.f k y1 y1 = some true
open Classical in
noncomputable def laws_FnExactBestTime.f (k : Nat) (l0 : List S44) (l1 : List Int) (a2 : Int) : Option Bool := if (l1.length : Int) > 1048576 then some true else ((laws_szTaskS.f k l0 1048576).bind fun left => if left < 0 then some true else (if laws_FnExactBestTime.Facts k l0 l1 a2 then some true else none))
set_option maxRecDepth 100000 in
set_option maxHeartbeats 16000000 in
theorem laws_FnExactBestTime.calls (k : Nat) (A0 : Option Addr) (c0 : Nat) (l0 : List S44) (A1 : Option Addr) (c1 : Nat) (l1 : List Int) (a2 : Int) (r : Bool) (w : World) (hr0 : Kd.C k44 w A0 l0.length l0) (hc0 : l0.length ≤ c0) (hr1 : Kd.C (Kd.int .i64) w A1 l1.length l1) (hc1 : l1.length ≤ c1) (hT : Tab w) (h : laws_FnExactBestTime.f k l0 l1 a2 = some r) :
  Calls Tryd.prog 3 #[.slice A0 l0.length c0, .slice A1 l1.length c1, .int .i64 a2] w fun e w' => e = .returned (.bool r) ∧ Below w.heap.size w w' := by
 have HR0 := Aside0.mk hr0
 have HC0 := Aside0.mk hc0
 have HR1 := Aside0.mk hr1
 have HC1 := Aside0.mk hc1
 have HT := Aside0.mk hT
 have HB := Aside0.mk (Below.refl w.heap.size w)
 clear hT hr0 hc0 hr1 hc1
 unfold laws_FnExactBestTime.f at h
 by_cases b1 : (l1.length : Int) > 1048576
 ·rw [if_pos b1] at h
  obtain rfl := Option.some.inj h
  have d1 : decide (1048576 < (l1.length : Int)) = true := decide_eq_true b1
  have d2 : decide (1048576 < l1.length) = true := decide_eq_true (by omega)
  clear h b1
  go_enter Tryd.func3, Tryd.ntmps3
  go_wp2
  go_ret
  exact ⟨rfl, HB.out⟩
 rw [if_neg b1] at h
 have d1_1 : decide (1048576 < (l1.length : Int)) = false := decide_eq_false b1
 have d1_2 : decide (1048576 < l1.length) = false := decide_eq_false (by omega)
 clear b1
 obtain ⟨left, hl, h⟩ := Option.bind_eq_some_iff.mp h
 have FZ := Aside0.mk hl
 clear hl
 by_cases bl : left < 0
 ·rw [if_pos bl] at h
  obtain rfl := Option.some.inj h
  have d1 : decide (left < 0) = true := decide_eq_true bl
  clear h bl
  go_enter Tryd.func3, Tryd.ntmps3
  have g1 := Aside0.mk trivial
  go_wp2_with (go_at_call 8; clear g1; refine (laws_szTaskS.calls (hr0 := HR0.out) (hc0 := HC0.out) (h := FZ.out)).mono ?_; rintro e w1 ⟨rfl, hb⟩; replace HB := Aside0.mk hb; clear hb)
  go_ret
  exact ⟨rfl, HB.out⟩
 rw [if_neg bl] at h
 have dl : decide (left < 0) = false := decide_eq_false bl
 clear bl
 have hF := Core.of_if_some h
 obtain rfl := hF.2
 have hF := hF.1
 clear h
 obtain ⟨y0, y1, R, f0, f1, fs, fi, e0, e1⟩ := hF.out
 have F0 := Aside0.mk f0
 have F1 := Aside0.mk f1
 have FS := Aside0.mk fs
 have FI := Aside0.mk fi
 have E0 := Aside0.mk e0
 have E1 := Aside0.mk e1
 clear hF f0 f1 fs fi e0 e1
 go_enter Tryd.func3, Tryd.ntmps3
 have g2 := Aside0.mk trivial
 go_wp2_with (go_at_call 8; clear g2; refine (laws_szTaskS.calls (hr0 := HR0.out) (hc0 := HC0.out) (h := FZ.out)).mono ?_; rintro e w1 ⟨rfl, hb⟩; have z1 := Aside0.mk (hb).size; replace HB := Aside0.mk (below_step HB.out hb); clear hb)
 have g3 := Aside0.mk trivial
 go_wp2_with (go_at_call 10; clear g3; refine (laws_toTaskS.calls (hr0 := Kd.C_below HR0.out HB.out) (hc0 := HC0.out) (h := F0.out)).mono ?_; rintro e w2 ⟨v_w0_aG, rfl, ho, hb⟩; have z2 := Aside0.mk (hb).size; replace HB := Aside0.mk (below_step HB.out hb); have H_w0_aG := Aside0.mk (Kd.R_mono (Kd.R_bound (Kd.S_R ho)) (fun k_ hk_ => hk_.2.2.1) : Kd.R k39 39 w2 w1.heap.size (fun k_ => k_ < w2.heap.size) v_w0_aG _); obtain ⟨A_w0_aG, c_w0_aG, e_w0_aG⟩ := Kd.R_slice H_w0_aG.out; subst e_w0_aG; clear ho hb)
 have g4 := Aside0.mk trivial
 go_wp2_with (go_at_call 11; clear g4; refine (laws_toIntS.calls (hr0 := Kd.C_below HR1.out HB.out) (hc0 := HC1.out) (h := F1.out)).mono ?_; rintro e w3 ⟨v_w0_aRoom, rfl, ho, hb⟩; have z3 := Aside0.mk (hb).size; replace HB := Aside0.mk (below_step HB.out hb); replace H_w0_aG := Aside0.mk (Kd.R_below H_w0_aG.out hb); have H_w0_aRoom := Aside0.mk (Kd.R_mono (Kd.R_bound ho) (fun k_ hk_ => hk_.2.2.1) : Kd.R (Kd.int .i64) 3 w3 w2.heap.size (fun k_ => k_ < w3.heap.size) v_w0_aRoom _); obtain ⟨A_w0_aRoom, c_w0_aRoom, e_w0_aRoom⟩ := Kd.R_slice H_w0_aRoom.out; subst e_w0_aRoom; clear ho hb)
 have g5 := Aside0.mk trivial
 go_wp2_with (go_at_call 9; clear g5; refine (spec_BestTime.calls (hr0 := (Kd.R_reads' H_w0_aG.out).2.2) (hc0 := (Kd.R_reads' H_w0_aG.out).2.1) (hr1 := (Kd.R_reads' H_w0_aRoom.out).2.2) (hc1 := (Kd.R_reads' H_w0_aRoom.out).2.1) (h := FS.out)).mono ?_; rintro e w4 ⟨rfl, hb⟩; have z4 := Aside0.mk (hb).size; replace HB := Aside0.mk (below_step HB.out hb); replace H_w0_aG := Aside0.mk (Kd.R_below H_w0_aG.out hb); replace H_w0_aRoom := Aside0.mk (Kd.R_below H_w0_aRoom.out hb); clear hb)
 clear H_w0_aG
 clear H_w0_aRoom
 have g6 := Aside0.mk trivial
 go_wp2_with (go_at_call 10; clear g6; refine (laws_toTaskS.calls (hr0 := Kd.C_below HR0.out HB.out) (hc0 := HC0.out) (h := F0.out)).mono ?_; rintro e w5 ⟨v_x0, rfl, ho, hb⟩; have z5 := Aside0.mk (hb).size; replace HB := Aside0.mk (below_step HB.out hb); have H_x0 := Aside0.mk (Kd.R_mono (Kd.R_bound (Kd.S_R ho)) (fun k_ hk_ => hk_.2.2.1) : Kd.R k39 39 w5 w4.heap.size (fun k_ => k_ < w5.heap.size) v_x0 _); obtain ⟨A_x0, c_x0, e_x0⟩ := Kd.R_slice H_x0.out; subst e_x0; clear ho hb)
 have g7 := Aside0.mk trivial
 go_wp2_with (go_at_call 11; clear g7; refine (laws_toIntS.calls (hr0 := Kd.C_below HR1.out HB.out) (hc0 := HC1.out) (h := F1.out)).mono ?_; rintro e w6 ⟨v_x1, rfl, ho, hb⟩; have z6 := Aside0.mk (hb).size; replace HB := Aside0.mk (below_step HB.out hb); replace H_x0 := Aside0.mk (Kd.R_below H_x0.out hb); have H_x1 := Aside0.mk (Kd.R_mono (Kd.R_bound ho) (fun k_ hk_ => hk_.2.2.1) : Kd.R (Kd.int .i64) 3 w6 w5.heap.size (fun k_ => k_ < w6.heap.size) v_x1 _); obtain ⟨A_x1, c_x1, e_x1⟩ := Kd.R_slice H_x1.out; subst e_x1; clear ho hb)
 have g8 := Aside0.mk trivial
 go_wp2_with (go_at_call 12; clear g8; refine (impl_BestTime.calls (hr0 := (Kd.R_reads' H_x0.out).2.2) (hc0 := (Kd.R_reads' H_x0.out).2.1) (hr1 := (Kd.R_reads' H_x1.out).2.2) (hc1 := (Kd.R_reads' H_x1.out).2.1) (hT := Tab.of HT.out HB.out) (h := FI.out)).mono ?_; rintro e w7 ⟨rfl, hb⟩; have z7 := Aside0.mk (hb).size; replace HB := Aside0.mk (below_step HB.out hb); replace H_x0 := Aside0.mk (Kd.R_below H_x0.out hb); replace H_x1 := Aside0.mk (Kd.R_below H_x1.out hb); clear hb)
 have g9 := Aside0.mk trivial
 go_wp2_with (go_at_call 10; clear g9; refine (laws_toTaskS.calls (hr0 := Kd.C_below HR0.out HB.out) (hc0 := HC0.out) (h := F0.out)).mono ?_; rintro e w8 ⟨v_t_aG, rfl, ho, hb⟩; have z8 := Aside0.mk (hb).size; replace HB := Aside0.mk (below_step HB.out hb); replace H_x0 := Aside0.mk (Kd.R_below H_x0.out hb); replace H_x1 := Aside0.mk (Kd.R_below H_x1.out hb); have H_t_aG := Aside0.mk (Kd.R_mono (Kd.R_bound (Kd.S_R ho)) (fun k_ hk_ => hk_.2.2.1) : Kd.R k39 39 w8 w7.heap.size (fun k_ => k_ < w8.heap.size) v_t_aG _); obtain ⟨A_t_aG, c_t_aG, e_t_aG⟩ := Kd.R_slice H_t_aG.out; subst e_t_aG; clear ho hb)
 have g10 := Aside0.mk trivial
 go_wp2_with (go_at_call 13; clear g10; refine (laws_eqTaskS.calls (hr0 := (Kd.R_reads' H_x0.out).2.2) (hc0 := (Kd.R_reads' H_x0.out).2.1) (hr1 := (Kd.R_reads' H_t_aG.out).2.2) (hc1 := (Kd.R_reads' H_t_aG.out).2.1) (h := E0.out)).mono ?_; rintro e w9 ⟨rfl, hd⟩; have hb := hd; have z9 := Aside0.mk (hb).size; replace HB := Aside0.mk (below_step HB.out hb); replace H_x0 := Aside0.mk (Kd.R_below H_x0.out hb); replace H_x1 := Aside0.mk (Kd.R_below H_x1.out hb); replace H_t_aG := Aside0.mk (Kd.R_below H_t_aG.out hb); clear hd hb)
 clear H_t_aG
 have g11 := Aside0.mk trivial
 go_wp2_with (go_at_call 11; clear g11; refine (laws_toIntS.calls (hr0 := Kd.C_below HR1.out HB.out) (hc0 := HC1.out) (h := F1.out)).mono ?_; rintro e w10 ⟨v_t_aRoom, rfl, ho, hb⟩; have z10 := Aside0.mk (hb).size; replace HB := Aside0.mk (below_step HB.out hb); replace H_x0 := Aside0.mk (Kd.R_below H_x0.out hb); replace H_x1 := Aside0.mk (Kd.R_below H_x1.out hb); have H_t_aRoom := Aside0.mk (Kd.R_mono (Kd.R_bound ho) (fun k_ hk_ => hk_.2.2.1) : Kd.R (Kd.int .i64) 3 w10 w9.heap.size (fun k_ => k_ < w10.heap.size) v_t_aRoom _); obtain ⟨A_t_aRoom, c_t_aRoom, e_t_aRoom⟩ := Kd.R_slice H_t_aRoom.out; subst e_t_aRoom; clear ho hb)
 have g12 := Aside0.mk trivial
 go_wp2_with (go_at_call 14; clear g12; refine (laws_eqIntS.calls (hr0 := (Kd.R_reads' H_x1.out).2.2) (hc0 := (Kd.R_reads' H_x1.out).2.1) (hr1 := (Kd.R_reads' H_t_aRoom.out).2.2) (hc1 := (Kd.R_reads' H_t_aRoom.out).2.1) (h := E1.out)).mono ?_; rintro e w11 ⟨rfl, hd⟩; have hb := drawn0_below hd; have z11 := Aside0.mk (hb).size; replace HB := Aside0.mk (below_step HB.out hb); replace H_x0 := Aside0.mk (Kd.R_below H_x0.out hb); replace H_x1 := Aside0.mk (Kd.R_below H_x1.out hb); replace H_t_aRoom := Aside0.mk (Kd.R_below H_t_aRoom.out hb); clear hd hb)
 clear H_t_aRoom
 go_ret
 exact ⟨rfl, HB.out⟩
end Go.Proofs.YtimbfcedigaffaaDoor.P
end
section
set_option linter.unusedVariables false
set_option linter.unusedSimpArgs false
namespace Go.Proofs.YtimbfcedigaffaaDoor.Core
open Go Go.RowKit Go.Proofs.YtimbfcedigaffaaDoorW.PrintWords Go.Proofs.YtimbfcedigaffaaDoorW.PrintMore Go.Proofs.YtimbfcedigaffaaDoor.P
theorem FnExactBestTime_pure (l0 : List Lt) (l1 : List Int) (a2 : Int) (hs0 : Small l0) (hw2 : (Lit.int .i64 a2).wf = true) : ∃ k, laws_FnExactBestTime.f k l0 l1 a2 = some true := by
 refine Ev.one (f := fun k => laws_FnExactBestTime.f k l0 l1 a2) ?_
 unfold laws_FnExactBestTime.f
 by_cases b1 : (l1.length : Int) > 1048576
 ·exact Ev.pos b1 (Ev.const _)
 refine Ev.neg b1 ?_
 refine Ev.bind (ev_sz hs0 (x := 1048576) (by omega) (by omega)) ?_
 by_cases h : szD l0 1048576 < 0
 ·exact Ev.pos h (Ev.const _)
 obtain ⟨h1, h2⟩ := szD_fits (by omega) h
 refine Ev.neg h ?_
 have hf := fits_conv h1 h2
 obtain ⟨n1, f1⟩ := ev_toTaskS h1 h2
 obtain ⟨n2, f2⟩ := ev_toIntS (L := l1) (by omega)
 obtain ⟨n3, f3⟩ := ev_BestTime hf (room := l1) (wk := a2) (by unfold big; omega) hw2
 obtain ⟨n4, f4⟩ := ev_eqTaskS hf
 obtain ⟨n5, f5⟩ := ev_eqIntS (L := l1) (by unfold big; omega)
 have hlen : (l0.map conv).length = l0.length := List.length_map ..
 refine ⟨n1 + n2 + n3 + n4 + n5, fun k hk => ?_⟩
 refine if_pos ⟨(l0.map conv), l1, (bestTD (l0.map conv) l1 a2), f1 k (by omega), f2 k (by omega), f3 k (by omega), rfl, f4 k (by omega), f5 k (by omega)⟩
end Go.Proofs.YtimbfcedigaffaaDoor.Core
end
