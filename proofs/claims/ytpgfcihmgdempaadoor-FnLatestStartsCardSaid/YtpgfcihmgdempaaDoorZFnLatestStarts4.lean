/- The law FnLatestStarts holds of the given program: the proof's own part, with its row and its card, part 4 of 7. -/
import Derived.Test.YtpgfcihmgdempaaDoorZFnLatestStarts3
section
namespace Go.Proofs.YtpgfcihmgdempaaDoor.P
open Go.Proofs.YtpgfcihmgdempaaDoor.Core (Tab Tab.of)
open Go.RowKit Go.Proofs.YtpgfcihmgdempaaDoorW.PrintWords Go.Proofs.YtpgfcihmgdempaaDoorW.PrintLast Go.Proofs.YtpgfcihmgdempaaDoorW.PrintMore
attribute [local go_sem] max2_int min2_int max_two min_two max_three min_three max_four min_four   -- for this text's walks alone
set_option linter.unusedVariables false
set_option linter.unusedSimpArgs false
mutual
noncomputable def laws_FnLatestStarts.j0 : Nat → List (S30) → Int → List Int → Bool → Option (Bool)
  | 0, _, _, _, _ => none
  | k + 1, x3, x4, x5, x32 => if x32 = true then ((spec_LatestStarts.f k x3 x4).bind fun t291 => ((laws_equalInts.f k x5 t291).bind fun t294 => (some t294))) else (laws_FnLatestStarts.l0 k x3 x4 x5 0)
noncomputable def laws_FnLatestStarts.l0 : Nat → List (S30) → Int → List Int → Int → Option (Bool)
  | 0, _, _, _, _ => none
  | k + 1, x3, x4, x5, x6 => if x6 < (x3.length : Int) then (if 0 ≤ x6 then (if x6 < (x5.length : Int) then (if (wrap64 ((rd x5 x6) + ((rd_T30 x3 x6).f0))) > x4 then (some false) else (laws_FnLatestStarts.l1 k x3 x4 x5 x6 0)) else (none)) else (none)) else (some true)
noncomputable def laws_FnLatestStarts.l1 : Nat → List (S30) → Int → List Int → Int → Int → Option (Bool)
  | 0, _, _, _, _, _ => none
  | k + 1, x3, x4, x5, x6, x7 => if 0 ≤ x6 then (if x6 < (x3.length : Int) then (if x7 < (((rd_T30 x3 x6).f1).length : Int) then (if 0 ≤ x7 then (if 0 ≤ (rd ((rd_T30 x3 x6).f1) x7) then (if (rd ((rd_T30 x3 x6).f1) x7) < (x5.length : Int) then (if (rd ((rd_T30 x3 x6).f1) x7) < (x3.length : Int) then (if x6 < (x5.length : Int) then (if (wrap64 ((rd x5 (rd ((rd_T30 x3 x6).f1) x7)) + ((rd_T30 x3 (rd ((rd_T30 x3 x6).f1) x7)).f0))) > (rd x5 x6) then (some false) else (laws_FnLatestStarts.l1 k x3 x4 x5 x6 (wrap64 (x7 + 1)))) else (none)) else (none)) else (none)) else (none)) else (none)) else (laws_FnLatestStarts.l0 k x3 x4 x5 (wrap64 (x6 + 1)))) else (none)) else (none)
end
noncomputable def laws_FnLatestStarts.f (k : Nat) (l0 : List Int) : Option (Bool) := if (l0.length : Int) > 1048576 then (some true) else ((spec_DrawLatestStarts.f k l0).bind fun bt280 => ((impl_LatestStarts.f bt280.1 bt280.2).bind fun t284 => ((spec_LatestStarts.f k bt280.1 bt280.2).bind fun t287 => ((laws_equalInts.f k t284 t287).bind fun t290 => (if t290 = true then (laws_FnLatestStarts.j0 k bt280.1 bt280.2 t284 ((t284.length : Int) != (bt280.1.length : Int))) else (laws_FnLatestStarts.j0 k bt280.1 bt280.2 t284 true))))))
theorem laws_FnLatestStarts.mono_l : ∀ k, (∀ y0 y1 y2 y3, LeO (laws_FnLatestStarts.j0 k y0 y1 y2 y3) (laws_FnLatestStarts.j0 (k + 1) y0 y1 y2 y3)) ∧ (∀ y0 y1 y2 y3, LeO (laws_FnLatestStarts.l0 k y0 y1 y2 y3) (laws_FnLatestStarts.l0 (k + 1) y0 y1 y2 y3)) ∧ (∀ y0 y1 y2 y3 y4, LeO (laws_FnLatestStarts.l1 k y0 y1 y2 y3 y4) (laws_FnLatestStarts.l1 (k + 1) y0 y1 y2 y3 y4))
  | 0 => ⟨fun _ _ _ _ r h => by simp [laws_FnLatestStarts.j0] at h, fun _ _ _ _ r h => by simp [laws_FnLatestStarts.l0] at h, fun _ _ _ _ _ r h => by simp [laws_FnLatestStarts.l1] at h⟩
  | k + 1 => by
    obtain ⟨ih0, ih1, ih2⟩ := laws_FnLatestStarts.mono_l k
    refine ⟨?_, ?_, ?_⟩
    · intro y0 y1 y2 y3
      unfold laws_FnLatestStarts.j0
      repeat' first
      | (with_reducible exact ih0 _ _ _ _)
      | (with_reducible exact ih1 _ _ _ _)
      | (with_reducible exact ih2 _ _ _ _ _)
      | (with_reducible exact laws_equalInts.mono _ _ _)
      | (with_reducible exact spec_DrawLatestStarts.mono _ _)
      | (with_reducible exact spec_LatestStarts.mono _ _ _)
      | (with_reducible exact LeO.refl _)
      | (with_reducible exact LeO.none _)
      | (with_reducible refine LeO.ite ?_ ?_)
      | (with_reducible refine LeO.bind ?_ (fun _ => ?_))
      | exact ih0 _ _ _ _
      | exact ih1 _ _ _ _
      | exact ih2 _ _ _ _ _
      | exact laws_equalInts.mono _ _ _
      | exact spec_DrawLatestStarts.mono _ _
      | exact spec_LatestStarts.mono _ _ _
      | exact LeO.none _
      | refine LeO.ite ?_ ?_
      | refine LeO.bind ?_ (fun _ => ?_)
    · intro y0 y1 y2 y3
      unfold laws_FnLatestStarts.l0
      repeat' first
      | (with_reducible exact ih0 _ _ _ _)
      | (with_reducible exact ih1 _ _ _ _)
      | (with_reducible exact ih2 _ _ _ _ _)
      | (with_reducible exact laws_equalInts.mono _ _ _)
      | (with_reducible exact spec_DrawLatestStarts.mono _ _)
      | (with_reducible exact spec_LatestStarts.mono _ _ _)
      | (with_reducible exact LeO.refl _)
      | (with_reducible exact LeO.none _)
      | (with_reducible refine LeO.ite ?_ ?_)
      | (with_reducible refine LeO.bind ?_ (fun _ => ?_))
      | exact ih0 _ _ _ _
      | exact ih1 _ _ _ _
      | exact ih2 _ _ _ _ _
      | exact laws_equalInts.mono _ _ _
      | exact spec_DrawLatestStarts.mono _ _
      | exact spec_LatestStarts.mono _ _ _
      | exact LeO.none _
      | refine LeO.ite ?_ ?_
      | refine LeO.bind ?_ (fun _ => ?_)
    · intro y0 y1 y2 y3 y4
      unfold laws_FnLatestStarts.l1
      repeat' first
      | (with_reducible exact ih0 _ _ _ _)
      | (with_reducible exact ih1 _ _ _ _)
      | (with_reducible exact ih2 _ _ _ _ _)
      | (with_reducible exact laws_equalInts.mono _ _ _)
      | (with_reducible exact spec_DrawLatestStarts.mono _ _)
      | (with_reducible exact spec_LatestStarts.mono _ _ _)
      | (with_reducible exact LeO.refl _)
      | (with_reducible exact LeO.none _)
      | (with_reducible refine LeO.ite ?_ ?_)
      | (with_reducible refine LeO.bind ?_ (fun _ => ?_))
      | exact ih0 _ _ _ _
      | exact ih1 _ _ _ _
      | exact ih2 _ _ _ _ _
      | exact laws_equalInts.mono _ _ _
      | exact spec_DrawLatestStarts.mono _ _
      | exact spec_LatestStarts.mono _ _ _
      | exact LeO.none _
      | refine LeO.ite ?_ ?_
      | refine LeO.bind ?_ (fun _ => ?_)
theorem laws_FnLatestStarts.mono : ∀ a0 k, LeO (laws_FnLatestStarts.f k a0) (laws_FnLatestStarts.f (k + 1) a0) := by
  intro a0 k
  obtain ⟨ih0, ih1, ih2⟩ := laws_FnLatestStarts.mono_l k
  unfold laws_FnLatestStarts.f
  repeat' first
      | (with_reducible exact ih0 _ _ _ _)
      | (with_reducible exact ih1 _ _ _ _)
      | (with_reducible exact ih2 _ _ _ _ _)
      | (with_reducible exact laws_equalInts.mono _ _ _)
      | (with_reducible exact spec_DrawLatestStarts.mono _ _)
      | (with_reducible exact spec_LatestStarts.mono _ _ _)
      | (with_reducible exact LeO.refl _)
      | (with_reducible exact LeO.none _)
      | (with_reducible refine LeO.ite ?_ ?_)
      | (with_reducible refine LeO.bind ?_ (fun _ => ?_))
      | exact ih0 _ _ _ _
      | exact ih1 _ _ _ _
      | exact ih2 _ _ _ _ _
      | exact laws_equalInts.mono _ _ _
      | exact spec_DrawLatestStarts.mono _ _
      | exact spec_LatestStarts.mono _ _ _
      | exact LeO.none _
      | refine LeO.ite ?_ ?_
      | refine LeO.bind ?_ (fun _ => ?_)
set_option maxHeartbeats 8000000 in
set_option maxRecDepth 100000 in
theorem laws_FnLatestStarts.calls (k : Nat) (A0 : Option Addr) (c0 : Nat) (l0 : List Int) (r : Bool) (w : World) (hr0 : Kd.C (Kd.int .u8) w A0 l0.length l0) (hc0 : l0.length ≤ c0) (hT : Tab w) (h : laws_FnLatestStarts.f k l0 = some r) :
    Calls Tryd.prog 3 #[.slice A0 l0.length c0] w fun e w' => e = .returned (.bool r) ∧ Below w.heap.size w w' := by
  have HT := Aside0.mk hT
  clear hT
  have HR0 := Aside0.mk hr0
  have HC0 := Aside0.mk hc0
  clear hr0 hc0
  have HB := Aside0.mk (Below.refl w.heap.size w)
  have H : (if (l0.length : Int) > 1048576 then (some true) else ((spec_DrawLatestStarts.f k l0).bind fun bt280 => ((impl_LatestStarts.f bt280.1 bt280.2).bind fun t284 => ((spec_LatestStarts.f k bt280.1 bt280.2).bind fun t287 => ((laws_equalInts.f k t284 t287).bind fun t290 => (if t290 = true then (laws_FnLatestStarts.j0 k bt280.1 bt280.2 t284 ((t284.length : Int) != (bt280.1.length : Int))) else (laws_FnLatestStarts.j0 k bt280.1 bt280.2 t284 true))))))) = some r := h
  clear h
  by_cases c2 : (l0.length : Int) > 1048576
  · rw [if_pos c2] at H
    have c2b0 : decide (1048576 < (l0.length : Int)) = true := decide_eq_true c2
    have c2b1 : decide (1048576 < l0.length) = true := decide_eq_true (by omega)
    clear c2
    obtain rfl := Option.some.inj H
    go_enter Tryd.func3, Tryd.ntmps3
    go_wp2
    repeat (go_quiet (fail); try go_wp2)
    go_ret
    exact ⟨by first | rfl | (simp [errW_none, errW_some] <;> rfl) | (simp [*, errW_none, errW_some] <;> rfl), by repeat (first | (with_reducible first | exact HB.out | apply below_alloc | apply pw_below_drewN | apply below_drew1) | exact HB.out)⟩
  · rw [if_neg c2] at H
    have c2b0 : decide (1048576 < (l0.length : Int)) = false := decide_eq_false c2
    have c2b1 : decide (1048576 < l0.length) = false := decide_eq_false (by omega)
    clear c2
    replace H := Option.bind_eq_some_iff.mp H
    obtain ⟨⟨t280, t281⟩, A30, H⟩ := H
    replace H : ((impl_LatestStarts.f t280 t281).bind fun t284 => ((spec_LatestStarts.f k t280 t281).bind fun t287 => ((laws_equalInts.f k t284 t287).bind fun t290 => (if t290 = true then (laws_FnLatestStarts.j0 k t280 t281 t284 ((t284.length : Int) != (t280.length : Int))) else (laws_FnLatestStarts.j0 k t280 t281 t284 true))))) = some r := H
    have A3 := Aside0.mk A30
    clear A30
    replace H := Option.bind_eq_some_iff.mp H
    obtain ⟨t284, A40, H⟩ := H
    replace H : ((spec_LatestStarts.f k t280 t281).bind fun t287 => ((laws_equalInts.f k t284 t287).bind fun t290 => (if t290 = true then (laws_FnLatestStarts.j0 k t280 t281 t284 ((t284.length : Int) != (t280.length : Int))) else (laws_FnLatestStarts.j0 k t280 t281 t284 true)))) = some r := H
    have A4 := Aside0.mk A40
    clear A40
    have HC5 := Aside0.mk H
    clear H
    go_enter Tryd.func3, Tryd.ntmps3
    go_upto_region 5 with (first | (go_at_call 15; (with_reducible refine (spec_DrawLatestStarts.calls k _ _ l0 t280 t281 _ ?side1 ?side2 A3.out).mono ?_); (case side1 => repeat (first | exact HR0.out | (with_reducible refine Kd.C_alloc ?_ _) | (with_reducible refine Kd.C_drewN ?_ _) | (with_reducible refine Kd.C_drew ?_))); (case side2 => exact HC0.out); rintro e w6 ⟨v282, rfl, ho0, hb⟩; have n0_ := Aside0.mk (Kd.S_lower ho0 (below_size (by repeat (first | (with_reducible first | exact HB.out | apply below_alloc | apply pw_below_drewN | apply below_drew1) | exact HB.out)))); have n1_ := Aside0.mk (below_step (by repeat (first | (with_reducible first | exact HB.out | apply below_alloc | apply pw_below_drewN | apply below_drew1) | exact HB.out)) hb); clear HB; have HO283 := n0_; have HB := n1_; clear n0_ n1_; (try clear hb); (try clear hb2); (try clear hk); (try clear hi); (try clear ho0); obtain ⟨Ao7, co7, eo7⟩ := Kd.S_slice HO283.out; subst eo7) | (go_at_call 16; (with_reducible refine (impl_LatestStarts.calls _ _ t280 t281 t284 _ ?side1 ?side2 ?side3 A4.out).mono ?_); (case side1 => repeat (first | exact (Kd.S_reads' HO283.out).2.2 | (with_reducible refine Kd.C_alloc ?_ _) | (with_reducible refine Kd.C_drewN ?_ _) | (with_reducible refine Kd.C_drew ?_))); (case side2 => exact (Kd.S_reads' HO283.out).2.1); (case side3 => exact Tab.of HT.out (by repeat (first | (with_reducible first | exact HB.out | apply below_alloc | apply pw_below_drewN | apply below_drew1) | exact HB.out))); rintro e w8 ⟨v285, rfl, ho0, hb⟩; have n0_ := Aside0.mk (Kd.S_elder' (by (with_reducible repeat (first | apply Kd.S_alloc | apply Kd.S_drewN | apply Kd.S_drew)); exact HO283.out) (Kd.R_base ho0) hb); have n1_ := Aside0.mk (Kd.R_lower ho0 (below_size (by repeat (first | (with_reducible first | exact HB.out | apply below_alloc | apply pw_below_drewN | apply below_drew1) | exact HB.out)))); have n2_ := Aside0.mk (below_step (by repeat (first | (with_reducible first | exact HB.out | apply below_alloc | apply pw_below_drewN | apply below_drew1) | exact HB.out)) hb); clear HO283; clear HB; have HO283 := n0_; have HO286 := n1_; have HB := n2_; clear n0_ n1_ n2_; (try clear hb); (try clear hb2); (try clear hk); (try clear hi); (try clear ho0)))
    repeat (go_quiet (first | (go_at_call 15; (with_reducible refine (spec_DrawLatestStarts.calls k _ _ l0 t280 t281 _ ?side1 ?side2 A3.out).mono ?_); (case side1 => repeat (first | exact HR0.out | (with_reducible refine Kd.C_alloc ?_ _) | (with_reducible refine Kd.C_drewN ?_ _) | (with_reducible refine Kd.C_drew ?_))); (case side2 => exact HC0.out); rintro e w6 ⟨v282, rfl, ho0, hb⟩; have n0_ := Aside0.mk (Kd.S_lower ho0 (below_size (by repeat (first | (with_reducible first | exact HB.out | apply below_alloc | apply pw_below_drewN | apply below_drew1) | exact HB.out)))); have n1_ := Aside0.mk (below_step (by repeat (first | (with_reducible first | exact HB.out | apply below_alloc | apply pw_below_drewN | apply below_drew1) | exact HB.out)) hb); clear HB; have HO283 := n0_; have HB := n1_; clear n0_ n1_; (try clear hb); (try clear hb2); (try clear hk); (try clear hi); (try clear ho0); obtain ⟨Ao7, co7, eo7⟩ := Kd.S_slice HO283.out; subst eo7) | (go_at_call 16; (with_reducible refine (impl_LatestStarts.calls _ _ t280 t281 t284 _ ?side1 ?side2 ?side3 A4.out).mono ?_); (case side1 => repeat (first | exact (Kd.S_reads' HO283.out).2.2 | (with_reducible refine Kd.C_alloc ?_ _) | (with_reducible refine Kd.C_drewN ?_ _) | (with_reducible refine Kd.C_drew ?_))); (case side2 => exact (Kd.S_reads' HO283.out).2.1); (case side3 => exact Tab.of HT.out (by repeat (first | (with_reducible first | exact HB.out | apply below_alloc | apply pw_below_drewN | apply below_drew1) | exact HB.out))); rintro e w8 ⟨v285, rfl, ho0, hb⟩; have n0_ := Aside0.mk (Kd.S_elder' (by (with_reducible repeat (first | apply Kd.S_alloc | apply Kd.S_drewN | apply Kd.S_drew)); exact HO283.out) (Kd.R_base ho0) hb); have n1_ := Aside0.mk (Kd.R_lower ho0 (below_size (by repeat (first | (with_reducible first | exact HB.out | apply below_alloc | apply pw_below_drewN | apply below_drew1) | exact HB.out)))); have n2_ := Aside0.mk (below_step (by repeat (first | (with_reducible first | exact HB.out | apply below_alloc | apply pw_below_drewN | apply below_drew1) | exact HB.out)) hb); clear HO283; clear HB; have HO283 := n0_; have HO286 := n1_; have HB := n2_; clear n0_ n1_ n2_; (try clear hb); (try clear hb2); (try clear hk); (try clear hi); (try clear ho0))); go_upto_region 5 with (first | (go_at_call 15; (with_reducible refine (spec_DrawLatestStarts.calls k _ _ l0 t280 t281 _ ?side1 ?side2 A3.out).mono ?_); (case side1 => repeat (first | exact HR0.out | (with_reducible refine Kd.C_alloc ?_ _) | (with_reducible refine Kd.C_drewN ?_ _) | (with_reducible refine Kd.C_drew ?_))); (case side2 => exact HC0.out); rintro e w6 ⟨v282, rfl, ho0, hb⟩; have n0_ := Aside0.mk (Kd.S_lower ho0 (below_size (by repeat (first | (with_reducible first | exact HB.out | apply below_alloc | apply pw_below_drewN | apply below_drew1) | exact HB.out)))); have n1_ := Aside0.mk (below_step (by repeat (first | (with_reducible first | exact HB.out | apply below_alloc | apply pw_below_drewN | apply below_drew1) | exact HB.out)) hb); clear HB; have HO283 := n0_; have HB := n1_; clear n0_ n1_; (try clear hb); (try clear hb2); (try clear hk); (try clear hi); (try clear ho0); obtain ⟨Ao7, co7, eo7⟩ := Kd.S_slice HO283.out; subst eo7) | (go_at_call 16; (with_reducible refine (impl_LatestStarts.calls _ _ t280 t281 t284 _ ?side1 ?side2 ?side3 A4.out).mono ?_); (case side1 => repeat (first | exact (Kd.S_reads' HO283.out).2.2 | (with_reducible refine Kd.C_alloc ?_ _) | (with_reducible refine Kd.C_drewN ?_ _) | (with_reducible refine Kd.C_drew ?_))); (case side2 => exact (Kd.S_reads' HO283.out).2.1); (case side3 => exact Tab.of HT.out (by repeat (first | (with_reducible first | exact HB.out | apply below_alloc | apply pw_below_drewN | apply below_drew1) | exact HB.out))); rintro e w8 ⟨v285, rfl, ho0, hb⟩; have n0_ := Aside0.mk (Kd.S_elder' (by (with_reducible repeat (first | apply Kd.S_alloc | apply Kd.S_drewN | apply Kd.S_drew)); exact HO283.out) (Kd.R_base ho0) hb); have n1_ := Aside0.mk (Kd.R_lower ho0 (below_size (by repeat (first | (with_reducible first | exact HB.out | apply below_alloc | apply pw_below_drewN | apply below_drew1) | exact HB.out)))); have n2_ := Aside0.mk (below_step (by repeat (first | (with_reducible first | exact HB.out | apply below_alloc | apply pw_below_drewN | apply below_drew1) | exact HB.out)) hb); clear HO283; clear HB; have HO283 := n0_; have HO286 := n1_; have HB := n2_; clear n0_ n1_ n2_; (try clear hb); (try clear hb2); (try clear hk); (try clear hi); (try clear ho0))))
    (try simp only [Act.put, List.setIfInBounds_toArray, List.set_cons_zero, List.set_cons_succ])
    go_cut [32] (fun v32 wc => ∃ (kq : Nat) (x32_4 : Bool), v32 = .bool x32_4 ∧ Aside0 (laws_FnLatestStarts.j0 kq t280 t281 t284 x32_4 = some r) ∧ Aside0 (kq ≤ k) ∧ Aside0 (Kd.S k30 30 wc w.heap.size (fun k_ => some k_ ≠ (v285 : Value).ownBlock) (.slice Ao7 t280.length co7) t280) ∧ Aside0 (Kd.R (Kd.int .i64) 3 wc w.heap.size (fun _ => True) v285 t284) ∧ Aside0 (Below w.heap.size w wc))
    case first =>
      have H := HC5.out
      clear HC5
      replace H := Option.bind_eq_some_iff.mp H
      obtain ⟨t287, A90, H⟩ := H
      replace H : ((laws_equalInts.f k t284 t287).bind fun t290 => (if t290 = true then (laws_FnLatestStarts.j0 k t280 t281 t284 ((t284.length : Int) != (t280.length : Int))) else (laws_FnLatestStarts.j0 k t280 t281 t284 true))) = some r := H
      have A9 := Aside0.mk A90
      clear A90
      replace H := Option.bind_eq_some_iff.mp H
      obtain ⟨t290, A100, H⟩ := H
      replace H : (if t290 = true then (laws_FnLatestStarts.j0 k t280 t281 t284 ((t284.length : Int) != (t280.length : Int))) else (laws_FnLatestStarts.j0 k t280 t281 t284 true)) = some r := H
      have A10 := Aside0.mk A100
      clear A100
      by_cases c11 : t290 = true
      · subst c11
        have H1 : (laws_FnLatestStarts.j0 k t280 t281 t284 ((t284.length : Int) != (t280.length : Int))) = some r := by rw [if_pos rfl] at H; exact H
        clear H
        have H := H1
        clear H1
        have H' := Aside0.mk H
        clear H
        go_wp2_with (first | (go_at_call 18; (with_reducible refine (spec_LatestStarts.calls k _ _ t280 t281 t287 _ ?side1 ?side2 A9.out).mono ?_); (case side1 => repeat (first | exact (Kd.S_reads' HO283.out).2.2 | (with_reducible refine Kd.C_alloc ?_ _) | (with_reducible refine Kd.C_drewN ?_ _) | (with_reducible refine Kd.C_drew ?_))); (case side2 => exact (Kd.S_reads' HO283.out).2.1); rintro e w12 ⟨v288, rfl, ho0, hb⟩; have n0_ := Aside0.mk (Kd.S_elder' (by (with_reducible repeat (first | apply Kd.S_alloc | apply Kd.S_drewN | apply Kd.S_drew)); exact HO283.out) (Kd.R_base ho0) hb); have n1_ := Aside0.mk (Kd.R_elder' (by (with_reducible repeat (first | apply Kd.R_alloc | apply Kd.R_drewN | apply Kd.R_drew)); exact HO286.out) (Kd.R_base ho0) hb); have n2_ := Aside0.mk (Kd.R_lower (Kd.R_new' ho0 (Kd.R_lt (by (with_reducible repeat (first | apply Kd.R_alloc | apply Kd.R_drewN | apply Kd.R_drew)); exact HO286.out))) (below_size (by repeat (first | (with_reducible first | exact HB.out | apply below_alloc | apply pw_below_drewN | apply below_drew1) | exact HB.out)))); have n3_ := Aside0.mk (below_step (by repeat (first | (with_reducible first | exact HB.out | apply below_alloc | apply pw_below_drewN | apply below_drew1) | exact HB.out)) hb); clear HO283; clear HO286; clear HB; have HO283 := n0_; have HO286 := n1_; have HO289 := n2_; have HB := n3_; clear n0_ n1_ n2_ n3_; (try clear hb); (try clear hb2); (try clear hk); (try clear hi); (try clear ho0); obtain ⟨Ao13, co13, eo13⟩ := Kd.R_slice HO286.out; subst eo13; obtain ⟨Ao14, co14, eo14⟩ := Kd.R_slice HO289.out; subst eo14) | (go_at_call 17; (with_reducible refine (laws_equalInts.calls k _ _ t284 _ _ t287 true _ ?side1 ?side2 ?side3 ?side4 A10.out).mono ?_); (case side1 => repeat (first | exact (Kd.R_reads' HO286.out).2.2 | (with_reducible refine Kd.C_alloc ?_ _) | (with_reducible refine Kd.C_drewN ?_ _) | (with_reducible refine Kd.C_drew ?_))); (case side2 => exact (Kd.R_reads' HO286.out).2.1); (case side3 => repeat (first | exact (Kd.R_reads' HO289.out).2.2 | (with_reducible refine Kd.C_alloc ?_ _) | (with_reducible refine Kd.C_drewN ?_ _) | (with_reducible refine Kd.C_drew ?_))); (case side4 => exact (Kd.R_reads' HO289.out).2.1); rintro e w' ⟨rfl, ⟨nd, rfl⟩⟩; (try first | exact ⟨rfl, _, World.drewN_drewN _ _ _⟩ | exact ⟨rfl, _, Eq.trans (World.drewN_drewN _ _ _) (congrArg (World.drewN _) (Nat.add_assoc _ _ _))⟩)))
        repeat (go_quiet (first | (go_at_call 18; (with_reducible refine (spec_LatestStarts.calls k _ _ t280 t281 t287 _ ?side1 ?side2 A9.out).mono ?_); (case side1 => repeat (first | exact (Kd.S_reads' HO283.out).2.2 | (with_reducible refine Kd.C_alloc ?_ _) | (with_reducible refine Kd.C_drewN ?_ _) | (with_reducible refine Kd.C_drew ?_))); (case side2 => exact (Kd.S_reads' HO283.out).2.1); rintro e w12 ⟨v288, rfl, ho0, hb⟩; have n0_ := Aside0.mk (Kd.S_elder' (by (with_reducible repeat (first | apply Kd.S_alloc | apply Kd.S_drewN | apply Kd.S_drew)); exact HO283.out) (Kd.R_base ho0) hb); have n1_ := Aside0.mk (Kd.R_elder' (by (with_reducible repeat (first | apply Kd.R_alloc | apply Kd.R_drewN | apply Kd.R_drew)); exact HO286.out) (Kd.R_base ho0) hb); have n2_ := Aside0.mk (Kd.R_lower (Kd.R_new' ho0 (Kd.R_lt (by (with_reducible repeat (first | apply Kd.R_alloc | apply Kd.R_drewN | apply Kd.R_drew)); exact HO286.out))) (below_size (by repeat (first | (with_reducible first | exact HB.out | apply below_alloc | apply pw_below_drewN | apply below_drew1) | exact HB.out)))); have n3_ := Aside0.mk (below_step (by repeat (first | (with_reducible first | exact HB.out | apply below_alloc | apply pw_below_drewN | apply below_drew1) | exact HB.out)) hb); clear HO283; clear HO286; clear HB; have HO283 := n0_; have HO286 := n1_; have HO289 := n2_; have HB := n3_; clear n0_ n1_ n2_ n3_; (try clear hb); (try clear hb2); (try clear hk); (try clear hi); (try clear ho0); obtain ⟨Ao13, co13, eo13⟩ := Kd.R_slice HO286.out; subst eo13; obtain ⟨Ao14, co14, eo14⟩ := Kd.R_slice HO289.out; subst eo14) | (go_at_call 17; (with_reducible refine (laws_equalInts.calls k _ _ t284 _ _ t287 true _ ?side1 ?side2 ?side3 ?side4 A10.out).mono ?_); (case side1 => repeat (first | exact (Kd.R_reads' HO286.out).2.2 | (with_reducible refine Kd.C_alloc ?_ _) | (with_reducible refine Kd.C_drewN ?_ _) | (with_reducible refine Kd.C_drew ?_))); (case side2 => exact (Kd.R_reads' HO286.out).2.1); (case side3 => repeat (first | exact (Kd.R_reads' HO289.out).2.2 | (with_reducible refine Kd.C_alloc ?_ _) | (with_reducible refine Kd.C_drewN ?_ _) | (with_reducible refine Kd.C_drew ?_))); (case side4 => exact (Kd.R_reads' HO289.out).2.1); rintro e w' ⟨rfl, ⟨nd, rfl⟩⟩; (try first | exact ⟨rfl, _, World.drewN_drewN _ _ _⟩ | exact ⟨rfl, _, Eq.trans (World.drewN_drewN _ _ _) (congrArg (World.drewN _) (Nat.add_assoc _ _ _))⟩))); try go_wp2_with (first | (go_at_call 18; (with_reducible refine (spec_LatestStarts.calls k _ _ t280 t281 t287 _ ?side1 ?side2 A9.out).mono ?_); (case side1 => repeat (first | exact (Kd.S_reads' HO283.out).2.2 | (with_reducible refine Kd.C_alloc ?_ _) | (with_reducible refine Kd.C_drewN ?_ _) | (with_reducible refine Kd.C_drew ?_))); (case side2 => exact (Kd.S_reads' HO283.out).2.1); rintro e w12 ⟨v288, rfl, ho0, hb⟩; have n0_ := Aside0.mk (Kd.S_elder' (by (with_reducible repeat (first | apply Kd.S_alloc | apply Kd.S_drewN | apply Kd.S_drew)); exact HO283.out) (Kd.R_base ho0) hb); have n1_ := Aside0.mk (Kd.R_elder' (by (with_reducible repeat (first | apply Kd.R_alloc | apply Kd.R_drewN | apply Kd.R_drew)); exact HO286.out) (Kd.R_base ho0) hb); have n2_ := Aside0.mk (Kd.R_lower (Kd.R_new' ho0 (Kd.R_lt (by (with_reducible repeat (first | apply Kd.R_alloc | apply Kd.R_drewN | apply Kd.R_drew)); exact HO286.out))) (below_size (by repeat (first | (with_reducible first | exact HB.out | apply below_alloc | apply pw_below_drewN | apply below_drew1) | exact HB.out)))); have n3_ := Aside0.mk (below_step (by repeat (first | (with_reducible first | exact HB.out | apply below_alloc | apply pw_below_drewN | apply below_drew1) | exact HB.out)) hb); clear HO283; clear HO286; clear HB; have HO283 := n0_; have HO286 := n1_; have HO289 := n2_; have HB := n3_; clear n0_ n1_ n2_ n3_; (try clear hb); (try clear hb2); (try clear hk); (try clear hi); (try clear ho0); obtain ⟨Ao13, co13, eo13⟩ := Kd.R_slice HO286.out; subst eo13; obtain ⟨Ao14, co14, eo14⟩ := Kd.R_slice HO289.out; subst eo14) | (go_at_call 17; (with_reducible refine (laws_equalInts.calls k _ _ t284 _ _ t287 true _ ?side1 ?side2 ?side3 ?side4 A10.out).mono ?_); (case side1 => repeat (first | exact (Kd.R_reads' HO286.out).2.2 | (with_reducible refine Kd.C_alloc ?_ _) | (with_reducible refine Kd.C_drewN ?_ _) | (with_reducible refine Kd.C_drew ?_))); (case side2 => exact (Kd.R_reads' HO286.out).2.1); (case side3 => repeat (first | exact (Kd.R_reads' HO289.out).2.2 | (with_reducible refine Kd.C_alloc ?_ _) | (with_reducible refine Kd.C_drewN ?_ _) | (with_reducible refine Kd.C_drew ?_))); (case side4 => exact (Kd.R_reads' HO289.out).2.1); rintro e w' ⟨rfl, ⟨nd, rfl⟩⟩; (try first | exact ⟨rfl, _, World.drewN_drewN _ _ _⟩ | exact ⟨rfl, _, Eq.trans (World.drewN_drewN _ _ _) (congrArg (World.drewN _) (Nat.add_assoc _ _ _))⟩))))
        go_meet
        case rel => exact ⟨_, (((t284.length : Int) != (t280.length : Int))), (by first | rfl | (simp; done) | (simp [*]; done)), H', ⟨by first | omega | exact Nat.le_refl _⟩, ⟨by (with_reducible repeat (first | apply Kd.S_alloc | apply Kd.S_drewN | apply Kd.S_drew)); exact Kd.S_mono HO283.out (fun _ hk => hk.1.2)⟩, ⟨by (with_reducible repeat (first | apply Kd.R_alloc | apply Kd.R_drewN | apply Kd.R_drew)); exact Kd.R_mono HO286.out (fun _ hk => trivial)⟩, ⟨by repeat (first | (with_reducible first | exact HB.out | apply below_alloc | apply pw_below_drewN | apply below_drew1) | exact HB.out)⟩⟩
      · replace c11 := Bool.eq_false_iff.mpr c11
        subst c11
        have H1 : (laws_FnLatestStarts.j0 k t280 t281 t284 true) = some r := by rw [if_neg (show ¬ (false = true) by decide)] at H; exact H
        clear H
        have H := H1
        clear H1
        have H' := Aside0.mk H
        clear H
        go_wp2_with (first | (go_at_call 18; (with_reducible refine (spec_LatestStarts.calls k _ _ t280 t281 t287 _ ?side1 ?side2 A9.out).mono ?_); (case side1 => repeat (first | exact (Kd.S_reads' HO283.out).2.2 | (with_reducible refine Kd.C_alloc ?_ _) | (with_reducible refine Kd.C_drewN ?_ _) | (with_reducible refine Kd.C_drew ?_))); (case side2 => exact (Kd.S_reads' HO283.out).2.1); rintro e w15 ⟨v288, rfl, ho0, hb⟩; have n0_ := Aside0.mk (Kd.S_elder' (by (with_reducible repeat (first | apply Kd.S_alloc | apply Kd.S_drewN | apply Kd.S_drew)); exact HO283.out) (Kd.R_base ho0) hb); have n1_ := Aside0.mk (Kd.R_elder' (by (with_reducible repeat (first | apply Kd.R_alloc | apply Kd.R_drewN | apply Kd.R_drew)); exact HO286.out) (Kd.R_base ho0) hb); have n2_ := Aside0.mk (Kd.R_lower (Kd.R_new' ho0 (Kd.R_lt (by (with_reducible repeat (first | apply Kd.R_alloc | apply Kd.R_drewN | apply Kd.R_drew)); exact HO286.out))) (below_size (by repeat (first | (with_reducible first | exact HB.out | apply below_alloc | apply pw_below_drewN | apply below_drew1) | exact HB.out)))); have n3_ := Aside0.mk (below_step (by repeat (first | (with_reducible first | exact HB.out | apply below_alloc | apply pw_below_drewN | apply below_drew1) | exact HB.out)) hb); clear HO283; clear HO286; clear HB; have HO283 := n0_; have HO286 := n1_; have HO289 := n2_; have HB := n3_; clear n0_ n1_ n2_ n3_; (try clear hb); (try clear hb2); (try clear hk); (try clear hi); (try clear ho0); obtain ⟨Ao16, co16, eo16⟩ := Kd.R_slice HO286.out; subst eo16; obtain ⟨Ao17, co17, eo17⟩ := Kd.R_slice HO289.out; subst eo17) | (go_at_call 17; (with_reducible refine (laws_equalInts.calls k _ _ t284 _ _ t287 false _ ?side1 ?side2 ?side3 ?side4 A10.out).mono ?_); (case side1 => repeat (first | exact (Kd.R_reads' HO286.out).2.2 | (with_reducible refine Kd.C_alloc ?_ _) | (with_reducible refine Kd.C_drewN ?_ _) | (with_reducible refine Kd.C_drew ?_))); (case side2 => exact (Kd.R_reads' HO286.out).2.1); (case side3 => repeat (first | exact (Kd.R_reads' HO289.out).2.2 | (with_reducible refine Kd.C_alloc ?_ _) | (with_reducible refine Kd.C_drewN ?_ _) | (with_reducible refine Kd.C_drew ?_))); (case side4 => exact (Kd.R_reads' HO289.out).2.1); rintro e w' ⟨rfl, ⟨nd, rfl⟩⟩; (try first | exact ⟨rfl, _, World.drewN_drewN _ _ _⟩ | exact ⟨rfl, _, Eq.trans (World.drewN_drewN _ _ _) (congrArg (World.drewN _) (Nat.add_assoc _ _ _))⟩)))
        repeat (go_quiet (first | (go_at_call 18; (with_reducible refine (spec_LatestStarts.calls k _ _ t280 t281 t287 _ ?side1 ?side2 A9.out).mono ?_); (case side1 => repeat (first | exact (Kd.S_reads' HO283.out).2.2 | (with_reducible refine Kd.C_alloc ?_ _) | (with_reducible refine Kd.C_drewN ?_ _) | (with_reducible refine Kd.C_drew ?_))); (case side2 => exact (Kd.S_reads' HO283.out).2.1); rintro e w15 ⟨v288, rfl, ho0, hb⟩; have n0_ := Aside0.mk (Kd.S_elder' (by (with_reducible repeat (first | apply Kd.S_alloc | apply Kd.S_drewN | apply Kd.S_drew)); exact HO283.out) (Kd.R_base ho0) hb); have n1_ := Aside0.mk (Kd.R_elder' (by (with_reducible repeat (first | apply Kd.R_alloc | apply Kd.R_drewN | apply Kd.R_drew)); exact HO286.out) (Kd.R_base ho0) hb); have n2_ := Aside0.mk (Kd.R_lower (Kd.R_new' ho0 (Kd.R_lt (by (with_reducible repeat (first | apply Kd.R_alloc | apply Kd.R_drewN | apply Kd.R_drew)); exact HO286.out))) (below_size (by repeat (first | (with_reducible first | exact HB.out | apply below_alloc | apply pw_below_drewN | apply below_drew1) | exact HB.out)))); have n3_ := Aside0.mk (below_step (by repeat (first | (with_reducible first | exact HB.out | apply below_alloc | apply pw_below_drewN | apply below_drew1) | exact HB.out)) hb); clear HO283; clear HO286; clear HB; have HO283 := n0_; have HO286 := n1_; have HO289 := n2_; have HB := n3_; clear n0_ n1_ n2_ n3_; (try clear hb); (try clear hb2); (try clear hk); (try clear hi); (try clear ho0); obtain ⟨Ao16, co16, eo16⟩ := Kd.R_slice HO286.out; subst eo16; obtain ⟨Ao17, co17, eo17⟩ := Kd.R_slice HO289.out; subst eo17) | (go_at_call 17; (with_reducible refine (laws_equalInts.calls k _ _ t284 _ _ t287 false _ ?side1 ?side2 ?side3 ?side4 A10.out).mono ?_); (case side1 => repeat (first | exact (Kd.R_reads' HO286.out).2.2 | (with_reducible refine Kd.C_alloc ?_ _) | (with_reducible refine Kd.C_drewN ?_ _) | (with_reducible refine Kd.C_drew ?_))); (case side2 => exact (Kd.R_reads' HO286.out).2.1); (case side3 => repeat (first | exact (Kd.R_reads' HO289.out).2.2 | (with_reducible refine Kd.C_alloc ?_ _) | (with_reducible refine Kd.C_drewN ?_ _) | (with_reducible refine Kd.C_drew ?_))); (case side4 => exact (Kd.R_reads' HO289.out).2.1); rintro e w' ⟨rfl, ⟨nd, rfl⟩⟩; (try first | exact ⟨rfl, _, World.drewN_drewN _ _ _⟩ | exact ⟨rfl, _, Eq.trans (World.drewN_drewN _ _ _) (congrArg (World.drewN _) (Nat.add_assoc _ _ _))⟩))); try go_wp2_with (first | (go_at_call 18; (with_reducible refine (spec_LatestStarts.calls k _ _ t280 t281 t287 _ ?side1 ?side2 A9.out).mono ?_); (case side1 => repeat (first | exact (Kd.S_reads' HO283.out).2.2 | (with_reducible refine Kd.C_alloc ?_ _) | (with_reducible refine Kd.C_drewN ?_ _) | (with_reducible refine Kd.C_drew ?_))); (case side2 => exact (Kd.S_reads' HO283.out).2.1); rintro e w15 ⟨v288, rfl, ho0, hb⟩; have n0_ := Aside0.mk (Kd.S_elder' (by (with_reducible repeat (first | apply Kd.S_alloc | apply Kd.S_drewN | apply Kd.S_drew)); exact HO283.out) (Kd.R_base ho0) hb); have n1_ := Aside0.mk (Kd.R_elder' (by (with_reducible repeat (first | apply Kd.R_alloc | apply Kd.R_drewN | apply Kd.R_drew)); exact HO286.out) (Kd.R_base ho0) hb); have n2_ := Aside0.mk (Kd.R_lower (Kd.R_new' ho0 (Kd.R_lt (by (with_reducible repeat (first | apply Kd.R_alloc | apply Kd.R_drewN | apply Kd.R_drew)); exact HO286.out))) (below_size (by repeat (first | (with_reducible first | exact HB.out | apply below_alloc | apply pw_below_drewN | apply below_drew1) | exact HB.out)))); have n3_ := Aside0.mk (below_step (by repeat (first | (with_reducible first | exact HB.out | apply below_alloc | apply pw_below_drewN | apply below_drew1) | exact HB.out)) hb); clear HO283; clear HO286; clear HB; have HO283 := n0_; have HO286 := n1_; have HO289 := n2_; have HB := n3_; clear n0_ n1_ n2_ n3_; (try clear hb); (try clear hb2); (try clear hk); (try clear hi); (try clear ho0); obtain ⟨Ao16, co16, eo16⟩ := Kd.R_slice HO286.out; subst eo16; obtain ⟨Ao17, co17, eo17⟩ := Kd.R_slice HO289.out; subst eo17) | (go_at_call 17; (with_reducible refine (laws_equalInts.calls k _ _ t284 _ _ t287 false _ ?side1 ?side2 ?side3 ?side4 A10.out).mono ?_); (case side1 => repeat (first | exact (Kd.R_reads' HO286.out).2.2 | (with_reducible refine Kd.C_alloc ?_ _) | (with_reducible refine Kd.C_drewN ?_ _) | (with_reducible refine Kd.C_drew ?_))); (case side2 => exact (Kd.R_reads' HO286.out).2.1); (case side3 => repeat (first | exact (Kd.R_reads' HO289.out).2.2 | (with_reducible refine Kd.C_alloc ?_ _) | (with_reducible refine Kd.C_drewN ?_ _) | (with_reducible refine Kd.C_drew ?_))); (case side4 => exact (Kd.R_reads' HO289.out).2.1); rintro e w' ⟨rfl, ⟨nd, rfl⟩⟩; (try first | exact ⟨rfl, _, World.drewN_drewN _ _ _⟩ | exact ⟨rfl, _, Eq.trans (World.drewN_drewN _ _ _) (congrArg (World.drewN _) (Nat.add_assoc _ _ _))⟩))))
        go_meet
        case rel => exact ⟨_, (true), (by first | rfl | (simp; done) | (simp [*]; done)), H', ⟨by first | omega | exact Nat.le_refl _⟩, ⟨by (with_reducible repeat (first | apply Kd.S_alloc | apply Kd.S_drewN | apply Kd.S_drew)); exact Kd.S_mono HO283.out (fun _ hk => hk.1.2)⟩, ⟨by (with_reducible repeat (first | apply Kd.R_alloc | apply Kd.R_drewN | apply Kd.R_drew)); exact Kd.R_mono HO286.out (fun _ hk => trivial)⟩, ⟨by repeat (first | (with_reducible first | exact HB.out | apply below_alloc | apply pw_below_drewN | apply below_drew1) | exact HB.out)⟩⟩
    case rest =>
      clear HC5
      try clear c1
      try clear c2
      try clear c2b0
      try clear c2b1
      try clear p2
      try clear c3
      try clear c11
      obtain ⟨kq, x32_4, rfl, HA, HJ4, HO_3, HO_5, HB⟩ := hcut
      cases kq with
      | zero => exact absurd HA.out (by simp [laws_FnLatestStarts.j0])
      | succ kj4 =>
        have H := HA.out
        clear HA
        simp only [laws_FnLatestStarts.j0] at H
        by_cases c18 : x32_4 = true
        · subst c18
          have H1 : ((spec_LatestStarts.f kj4 t280 t281).bind fun t291 => ((laws_equalInts.f kj4 t284 t291).bind fun t294 => (some t294))) = some r := by rw [if_pos rfl] at H; exact H
          clear H
          have H := H1
          clear H1
          replace H := Option.bind_eq_some_iff.mp H
          obtain ⟨t291, A190, H⟩ := H
          replace H : ((laws_equalInts.f kj4 t284 t291).bind fun t294 => (some t294)) = some r := H
          have A19 := Aside0.mk A190
          clear A190
          replace H := Option.bind_eq_some_iff.mp H
          obtain ⟨t294, A200, H⟩ := H
          replace H : (some t294) = some r := H
          have A20 := Aside0.mk A200
          clear A200
          obtain rfl := Option.some.inj H
          go_wp2_with (first | (go_at_call 18; (with_reducible refine (spec_LatestStarts.calls kj4 _ _ t280 t281 t291 _ ?side1 ?side2 A19.out).mono ?_); (case side1 => repeat (first | exact (Kd.S_reads' HO_3.out).2.2 | (with_reducible refine Kd.C_alloc ?_ _) | (with_reducible refine Kd.C_drewN ?_ _) | (with_reducible refine Kd.C_drew ?_))); (case side2 => exact (Kd.S_reads' HO_3.out).2.1); rintro e w21 ⟨v292, rfl, ho0, hb⟩; have n0_ := Aside0.mk (Kd.S_elder' (by (with_reducible repeat (first | apply Kd.S_alloc | apply Kd.S_drewN | apply Kd.S_drew)); exact HO_3.out) (Kd.R_base ho0) hb); have n1_ := Aside0.mk (Kd.R_elder' (by (with_reducible repeat (first | apply Kd.R_alloc | apply Kd.R_drewN | apply Kd.R_drew)); exact HO_5.out) (Kd.R_base ho0) hb); have n2_ := Aside0.mk (Kd.R_lower (Kd.R_new' ho0 (Kd.R_lt (by (with_reducible repeat (first | apply Kd.R_alloc | apply Kd.R_drewN | apply Kd.R_drew)); exact HO_5.out))) (below_size (by repeat (first | (with_reducible first | exact HB.out | apply below_alloc | apply pw_below_drewN | apply below_drew1) | exact HB.out)))); have n3_ := Aside0.mk (below_step (by repeat (first | (with_reducible first | exact HB.out | apply below_alloc | apply pw_below_drewN | apply below_drew1) | exact HB.out)) hb); clear HO_3; clear HO_5; clear HB; have HO_3 := n0_; have HO_5 := n1_; have HO293 := n2_; have HB := n3_; clear n0_ n1_ n2_ n3_; (try clear hb); (try clear hb2); (try clear hk); (try clear hi); (try clear ho0); obtain ⟨Ao22, co22, eo22⟩ := Kd.R_slice HO_5.out; subst eo22; obtain ⟨Ao23, co23, eo23⟩ := Kd.R_slice HO293.out; subst eo23) | (go_at_call 17; (with_reducible refine (laws_equalInts.calls kj4 _ _ t284 _ _ t291 t294 _ ?side1 ?side2 ?side3 ?side4 A20.out).mono ?_); (case side1 => repeat (first | exact (Kd.R_reads' HO_5.out).2.2 | (with_reducible refine Kd.C_alloc ?_ _) | (with_reducible refine Kd.C_drewN ?_ _) | (with_reducible refine Kd.C_drew ?_))); (case side2 => exact (Kd.R_reads' HO_5.out).2.1); (case side3 => repeat (first | exact (Kd.R_reads' HO293.out).2.2 | (with_reducible refine Kd.C_alloc ?_ _) | (with_reducible refine Kd.C_drewN ?_ _) | (with_reducible refine Kd.C_drew ?_))); (case side4 => exact (Kd.R_reads' HO293.out).2.1); rintro e w' ⟨rfl, ⟨nd, rfl⟩⟩; (try first | exact ⟨rfl, _, World.drewN_drewN _ _ _⟩ | exact ⟨rfl, _, Eq.trans (World.drewN_drewN _ _ _) (congrArg (World.drewN _) (Nat.add_assoc _ _ _))⟩)))
          repeat (go_quiet (first | (go_at_call 18; (with_reducible refine (spec_LatestStarts.calls kj4 _ _ t280 t281 t291 _ ?side1 ?side2 A19.out).mono ?_); (case side1 => repeat (first | exact (Kd.S_reads' HO_3.out).2.2 | (with_reducible refine Kd.C_alloc ?_ _) | (with_reducible refine Kd.C_drewN ?_ _) | (with_reducible refine Kd.C_drew ?_))); (case side2 => exact (Kd.S_reads' HO_3.out).2.1); rintro e w21 ⟨v292, rfl, ho0, hb⟩; have n0_ := Aside0.mk (Kd.S_elder' (by (with_reducible repeat (first | apply Kd.S_alloc | apply Kd.S_drewN | apply Kd.S_drew)); exact HO_3.out) (Kd.R_base ho0) hb); have n1_ := Aside0.mk (Kd.R_elder' (by (with_reducible repeat (first | apply Kd.R_alloc | apply Kd.R_drewN | apply Kd.R_drew)); exact HO_5.out) (Kd.R_base ho0) hb); have n2_ := Aside0.mk (Kd.R_lower (Kd.R_new' ho0 (Kd.R_lt (by (with_reducible repeat (first | apply Kd.R_alloc | apply Kd.R_drewN | apply Kd.R_drew)); exact HO_5.out))) (below_size (by repeat (first | (with_reducible first | exact HB.out | apply below_alloc | apply pw_below_drewN | apply below_drew1) | exact HB.out)))); have n3_ := Aside0.mk (below_step (by repeat (first | (with_reducible first | exact HB.out | apply below_alloc | apply pw_below_drewN | apply below_drew1) | exact HB.out)) hb); clear HO_3; clear HO_5; clear HB; have HO_3 := n0_; have HO_5 := n1_; have HO293 := n2_; have HB := n3_; clear n0_ n1_ n2_ n3_; (try clear hb); (try clear hb2); (try clear hk); (try clear hi); (try clear ho0); obtain ⟨Ao22, co22, eo22⟩ := Kd.R_slice HO_5.out; subst eo22; obtain ⟨Ao23, co23, eo23⟩ := Kd.R_slice HO293.out; subst eo23) | (go_at_call 17; (with_reducible refine (laws_equalInts.calls kj4 _ _ t284 _ _ t291 t294 _ ?side1 ?side2 ?side3 ?side4 A20.out).mono ?_); (case side1 => repeat (first | exact (Kd.R_reads' HO_5.out).2.2 | (with_reducible refine Kd.C_alloc ?_ _) | (with_reducible refine Kd.C_drewN ?_ _) | (with_reducible refine Kd.C_drew ?_))); (case side2 => exact (Kd.R_reads' HO_5.out).2.1); (case side3 => repeat (first | exact (Kd.R_reads' HO293.out).2.2 | (with_reducible refine Kd.C_alloc ?_ _) | (with_reducible refine Kd.C_drewN ?_ _) | (with_reducible refine Kd.C_drew ?_))); (case side4 => exact (Kd.R_reads' HO293.out).2.1); rintro e w' ⟨rfl, ⟨nd, rfl⟩⟩; (try first | exact ⟨rfl, _, World.drewN_drewN _ _ _⟩ | exact ⟨rfl, _, Eq.trans (World.drewN_drewN _ _ _) (congrArg (World.drewN _) (Nat.add_assoc _ _ _))⟩))); try go_wp2_with (first | (go_at_call 18; (with_reducible refine (spec_LatestStarts.calls kj4 _ _ t280 t281 t291 _ ?side1 ?side2 A19.out).mono ?_); (case side1 => repeat (first | exact (Kd.S_reads' HO_3.out).2.2 | (with_reducible refine Kd.C_alloc ?_ _) | (with_reducible refine Kd.C_drewN ?_ _) | (with_reducible refine Kd.C_drew ?_))); (case side2 => exact (Kd.S_reads' HO_3.out).2.1); rintro e w21 ⟨v292, rfl, ho0, hb⟩; have n0_ := Aside0.mk (Kd.S_elder' (by (with_reducible repeat (first | apply Kd.S_alloc | apply Kd.S_drewN | apply Kd.S_drew)); exact HO_3.out) (Kd.R_base ho0) hb); have n1_ := Aside0.mk (Kd.R_elder' (by (with_reducible repeat (first | apply Kd.R_alloc | apply Kd.R_drewN | apply Kd.R_drew)); exact HO_5.out) (Kd.R_base ho0) hb); have n2_ := Aside0.mk (Kd.R_lower (Kd.R_new' ho0 (Kd.R_lt (by (with_reducible repeat (first | apply Kd.R_alloc | apply Kd.R_drewN | apply Kd.R_drew)); exact HO_5.out))) (below_size (by repeat (first | (with_reducible first | exact HB.out | apply below_alloc | apply pw_below_drewN | apply below_drew1) | exact HB.out)))); have n3_ := Aside0.mk (below_step (by repeat (first | (with_reducible first | exact HB.out | apply below_alloc | apply pw_below_drewN | apply below_drew1) | exact HB.out)) hb); clear HO_3; clear HO_5; clear HB; have HO_3 := n0_; have HO_5 := n1_; have HO293 := n2_; have HB := n3_; clear n0_ n1_ n2_ n3_; (try clear hb); (try clear hb2); (try clear hk); (try clear hi); (try clear ho0); obtain ⟨Ao22, co22, eo22⟩ := Kd.R_slice HO_5.out; subst eo22; obtain ⟨Ao23, co23, eo23⟩ := Kd.R_slice HO293.out; subst eo23) | (go_at_call 17; (with_reducible refine (laws_equalInts.calls kj4 _ _ t284 _ _ t291 t294 _ ?side1 ?side2 ?side3 ?side4 A20.out).mono ?_); (case side1 => repeat (first | exact (Kd.R_reads' HO_5.out).2.2 | (with_reducible refine Kd.C_alloc ?_ _) | (with_reducible refine Kd.C_drewN ?_ _) | (with_reducible refine Kd.C_drew ?_))); (case side2 => exact (Kd.R_reads' HO_5.out).2.1); (case side3 => repeat (first | exact (Kd.R_reads' HO293.out).2.2 | (with_reducible refine Kd.C_alloc ?_ _) | (with_reducible refine Kd.C_drewN ?_ _) | (with_reducible refine Kd.C_drew ?_))); (case side4 => exact (Kd.R_reads' HO293.out).2.1); rintro e w' ⟨rfl, ⟨nd, rfl⟩⟩; (try first | exact ⟨rfl, _, World.drewN_drewN _ _ _⟩ | exact ⟨rfl, _, Eq.trans (World.drewN_drewN _ _ _) (congrArg (World.drewN _) (Nat.add_assoc _ _ _))⟩))))
          go_ret
          exact ⟨by first | rfl | (simp [errW_none, errW_some] <;> rfl) | (simp [*, errW_none, errW_some] <;> rfl), by repeat (first | (with_reducible first | exact HB.out | apply below_alloc | apply pw_below_drewN | apply below_drew1) | exact HB.out)⟩
        · replace c18 := Bool.eq_false_iff.mpr c18
          subst c18
          have H1 : (laws_FnLatestStarts.l0 kj4 t280 t281 t284 0) = some r := by rw [if_neg (show ¬ (false = true) by decide)] at H; exact H
          clear H
          have H := H1
          clear H1
          have H' := Aside0.mk H
          clear H
          go_wp2
          repeat (go_quiet (fail); try go_wp2)
          go_loopg [6] kj4 (fun kq v6 w' => ∃ (x6_2 : Int), v6 = .int .i64 x6_2 ∧ Aside0 (laws_FnLatestStarts.l0 kq t280 t281 t284 x6_2 = some r) ∧ Aside0 (kq ≤ kj4) ∧ Aside0 (Kd.S k30 30 w' w.heap.size (fun k_ => some k_ ≠ (v285 : Value).ownBlock) (.slice Ao7 t280.length co7) t280) ∧ Aside0 (Kd.R (Kd.int .i64) 3 w' w.heap.size (fun _ => True) v285 t284) ∧ Aside0 (Below w.heap.size w w'))
          case atStart => exact ⟨(0), (by first | rfl | (simp; done) | (simp [*]; done)), H', ⟨Nat.le_refl _⟩, ⟨by (with_reducible repeat (first | apply Kd.S_alloc | apply Kd.S_drewN | apply Kd.S_drew)); exact HO_3.out⟩, ⟨by (with_reducible repeat (first | apply Kd.R_alloc | apply Kd.R_drewN | apply Kd.R_drew)); exact HO_5.out⟩, ⟨by repeat (first | (with_reducible first | exact HB.out | apply below_alloc | apply pw_below_drewN | apply below_drew1) | exact HB.out)⟩⟩
          case round =>
            clear H'
            try clear c1
            try clear c2
            try clear c2b0
            try clear c2b1
            try clear p2
            try clear c3
            try clear c11
            try clear c18
            try clear p2
            obtain ⟨x6_2, rfl, HA, HK2, HO_3, HO_5, HB⟩ := hrel
            cases gk with
            | zero => exact absurd HA.out (by simp [laws_FnLatestStarts.l0])
            | succ k2 =>
              have H := HA.out
              clear HA
              simp only [laws_FnLatestStarts.l0] at H
              by_cases c24 : x6_2 < (t280.length : Int)
              · rw [if_pos c24] at H
                have c24b0 : decide (x6_2 < (t280.length : Int)) = true := decide_eq_true c24
                clear c24
                by_cases c25 : 0 ≤ x6_2
                · rw [if_pos c25] at H
                  have c25b0 : decide (0 ≤ x6_2) = true := decide_eq_true c25
                  clear c25
                  by_cases c26 : x6_2 < (t284.length : Int)
                  · rw [if_pos c26] at H
                    have c26b0 : decide (x6_2 < (t284.length : Int)) = true := decide_eq_true c26
                    clear c26
                    by_cases c27 : (wrap64 ((rd t284 x6_2) + ((rd_T30 t280 x6_2).f0))) > t281
                    · rw [if_pos c27] at H
                      have c27b0 : decide (t281 < (wrap64 ((rd t284 x6_2) + ((rd_T30 t280 x6_2).f0)))) = true := decide_eq_true c27
                      clear c27
                      obtain rfl := Option.some.inj H
                      obtain ⟨Ao28, co28, eo28⟩ := Kd.R_slice HO_5.out
                      subst eo28
                      have p295 : 0 ≤ (x6_2 : Int) := of_decide_eq_true (by first | (with_reducible assumption) | assumption)
                      have q295 : x6_2 < (t284.length : Int) := of_decide_eq_true (by first | (with_reducible assumption) | assumption)
                      obtain ⟨ad295, e295, hx295_0⟩ := Kd.at_int (Kd.R_reads' HO_5.out).2.2 x6_2 p295 q295
                      cases e295
                      replace p295 := eq_true p295
                      replace q295 := eq_true q295
                      have p296 : 0 ≤ (x6_2 : Int) := of_decide_eq_true (by first | (with_reducible assumption) | assumption)
                      have q296 : x6_2 < (t280.length : Int) := of_decide_eq_true (by first | (with_reducible assumption) | assumption)
                      obtain ⟨ad296, A296_1, c296_1, e296, hx296_0, hx296_1, hx296_2, hx296_3, hl296_1, hi296_1⟩ := at_T30 (Kd.S_reads' HO_3.out).2.2 x6_2 p296 q296
                      cases e296
                      obtain ⟨ce296, hce296, hMe296, hcc296⟩ := Kd.S_get HO_3.out z30 x6_2 p296 (by first | exact q296 | exact of_decide_eq_true (by first | (with_reducible assumption) | assumption) | (have e_ := (Kd.S_reads' HO_3.out).1; omega))
                      obtain ⟨ve296_1, rfl, ge296_1⟩ := k30_openM hMe296
                      have hv296_1 := hcc296 1 _ rfl
                      rw [add_field _ _ 1 (by omega)] at hv296_1
                      replace hv296_1 := Option.some.inj (hv296_1.symm.trans hx296_1)
                      rw [hv296_1] at ge296_1
                      have HL296_1 := Aside0.mk (show Kd.Q (Kd.int .i64) 3 _ _ _ _ ((rd_T30 t280 x6_2).f1) from ge296_1)
                      clear hv296_1 ge296_1
                      clear hcc296 hce296
                      have HR296_1 := Aside0.mk hi296_1
                      have HC296_1 := Aside0.mk hl296_1
                      clear hi296_1 hl296_1
                      replace p296 := eq_true p296
                      replace q296 := eq_true q296
                      go_wp2
                      repeat (go_quiet (fail); try go_wp2)
                      go_ret
                      exact ⟨by first | rfl | (simp [errW_none, errW_some] <;> rfl) | (simp [*, errW_none, errW_some] <;> rfl), by repeat (first | (with_reducible first | exact HB.out | apply below_alloc | apply pw_below_drewN | apply below_drew1) | exact HB.out)⟩
                    · rw [if_neg c27] at H
                      have c27b0 : decide (t281 < (wrap64 ((rd t284 x6_2) + ((rd_T30 t280 x6_2).f0)))) = false := decide_eq_false c27
                      clear c27
                      have H' := Aside0.mk H
                      clear H
                      obtain ⟨Ao29, co29, eo29⟩ := Kd.R_slice HO_5.out
                      subst eo29
                      have p295 : 0 ≤ (x6_2 : Int) := of_decide_eq_true (by first | (with_reducible assumption) | assumption)
                      have q295 : x6_2 < (t284.length : Int) := of_decide_eq_true (by first | (with_reducible assumption) | assumption)
                      obtain ⟨ad295, e295, hx295_0⟩ := Kd.at_int (Kd.R_reads' HO_5.out).2.2 x6_2 p295 q295
                      cases e295
                      replace p295 := eq_true p295
                      replace q295 := eq_true q295
                      have p296 : 0 ≤ (x6_2 : Int) := of_decide_eq_true (by first | (with_reducible assumption) | assumption)
                      have q296 : x6_2 < (t280.length : Int) := of_decide_eq_true (by first | (with_reducible assumption) | assumption)
                      obtain ⟨ad296, A296_1, c296_1, e296, hx296_0, hx296_1, hx296_2, hx296_3, hl296_1, hi296_1⟩ := at_T30 (Kd.S_reads' HO_3.out).2.2 x6_2 p296 q296
                      cases e296
                      obtain ⟨ce296, hce296, hMe296, hcc296⟩ := Kd.S_get HO_3.out z30 x6_2 p296 (by first | exact q296 | exact of_decide_eq_true (by first | (with_reducible assumption) | assumption) | (have e_ := (Kd.S_reads' HO_3.out).1; omega))
                      obtain ⟨ve296_1, rfl, ge296_1⟩ := k30_openM hMe296
                      have hv296_1 := hcc296 1 _ rfl
                      rw [add_field _ _ 1 (by omega)] at hv296_1
                      replace hv296_1 := Option.some.inj (hv296_1.symm.trans hx296_1)
                      rw [hv296_1] at ge296_1
                      have HL296_1 := Aside0.mk (show Kd.Q (Kd.int .i64) 3 _ _ _ _ ((rd_T30 t280 x6_2).f1) from ge296_1)
                      clear hv296_1 ge296_1
                      clear hcc296 hce296
                      have HR296_1 := Aside0.mk hi296_1
                      have HC296_1 := Aside0.mk hl296_1
                      clear hi296_1 hl296_1
                      replace p296 := eq_true p296
                      replace q296 := eq_true q296
                      go_wp2
                      repeat (go_quiet (fail); try go_wp2)
                      go_loopg [7] k2 (fun kq v7 w' => ∃ (x7_3 : Int), v7 = .int .i64 x7_3 ∧ Aside0 (laws_FnLatestStarts.l1 kq t280 t281 t284 x6_2 x7_3 = some r) ∧ Aside0 (kq ≤ k2) ∧ Aside0 (Kd.S k30 30 w' w.heap.size (fun k_ => some k_ ≠ ((.slice (some ad295) t284.length co29) : Value).ownBlock) (.slice (some ad296) t280.length co7) t280) ∧ Aside0 (Kd.R (Kd.int .i64) 3 w' w.heap.size (fun _ => True) (.slice (some ad295) t284.length co29) t284) ∧ Aside0 (Kd.C (Kd.int .i64) w' A296_1 ((rd_T30 t280 x6_2).f1).length ((rd_T30 t280 x6_2).f1)) ∧ Aside0 (Below w.heap.size w w'))
                      case atStart => exact ⟨(0), (by first | rfl | (simp; done) | (simp [*]; done)), H', ⟨Nat.le_refl _⟩, ⟨by (with_reducible repeat (first | apply Kd.S_alloc | apply Kd.S_drewN | apply Kd.S_drew)); exact HO_3.out⟩, ⟨by (with_reducible repeat (first | apply Kd.R_alloc | apply Kd.R_drewN | apply Kd.R_drew)); exact HO_5.out⟩, ⟨by repeat (first | (with_reducible exact HR296_1.out) | (with_reducible refine Kd.C_alloc ?_ _) | (with_reducible refine Kd.C_drewN ?_ _) | (with_reducible refine Kd.C_drew ?_) | exact HR296_1.out)⟩, ⟨by repeat (first | (with_reducible first | exact HB.out | apply below_alloc | apply pw_below_drewN | apply below_drew1) | exact HB.out)⟩⟩
                      case round =>
                        clear H'
                        try clear c1
                        try clear c2
                        try clear c2b0
                        try clear c2b1
                        try clear p2
                        try clear q2
                        try clear hx2
                        try clear c3
                        try clear p6
                        try clear c11
                        try clear c18
                        try clear c24
                        try clear c24b0
                        try clear c25
                        try clear c25b0
                        try clear c26
                        try clear c26b0
                        try clear c27
                        try clear c27b0
                        try clear c29
                        try clear p29
                        try clear q29
                        try clear hx29
                        try clear hx295_0
                        try clear hx296_0
                        try clear hx296_1
                        try clear hx296_2
                        try clear hx296_3
                        try clear p2
                        try clear p295
                        try clear p296
                        try clear q295
                        try clear q296
                        obtain ⟨x7_3, rfl, HA, HK3, HO_3, HO_5, HR296_1, HB⟩ := hrel
                        cases gk with
                        | zero => exact absurd HA.out (by simp [laws_FnLatestStarts.l1])
                        | succ k3 =>
                          have H := HA.out
                          clear HA
                          simp only [laws_FnLatestStarts.l1] at H
                          by_cases c30 : 0 ≤ x6_2
                          · rw [if_pos c30] at H
                            have c30b0 : decide (0 ≤ x6_2) = true := decide_eq_true c30
                            clear c30
                            by_cases c31 : x6_2 < (t280.length : Int)
                            · rw [if_pos c31] at H
                              have c31b0 : decide (x6_2 < (t280.length : Int)) = true := decide_eq_true c31
                              clear c31
                              by_cases c32 : x7_3 < (((rd_T30 t280 x6_2).f1).length : Int)
                              · rw [if_pos c32] at H
                                have c32b0 : decide (x7_3 < (((rd_T30 t280 x6_2).f1).length : Int)) = true := decide_eq_true c32
                                clear c32
                                by_cases c33 : 0 ≤ x7_3
                                · rw [if_pos c33] at H
                                  have c33b0 : decide (0 ≤ x7_3) = true := decide_eq_true c33
                                  clear c33
                                  by_cases c34 : 0 ≤ (rd ((rd_T30 t280 x6_2).f1) x7_3)
                                  · rw [if_pos c34] at H
                                    have c34b0 : decide (0 ≤ (rd ((rd_T30 t280 x6_2).f1) x7_3)) = true := decide_eq_true c34
                                    clear c34
                                    by_cases c35 : (rd ((rd_T30 t280 x6_2).f1) x7_3) < (t284.length : Int)
                                    · rw [if_pos c35] at H
                                      have c35b0 : decide ((rd ((rd_T30 t280 x6_2).f1) x7_3) < (t284.length : Int)) = true := decide_eq_true c35
                                      clear c35
                                      by_cases c36 : (rd ((rd_T30 t280 x6_2).f1) x7_3) < (t280.length : Int)
                                      · rw [if_pos c36] at H
                                        have c36b0 : decide ((rd ((rd_T30 t280 x6_2).f1) x7_3) < (t280.length : Int)) = true := decide_eq_true c36
                                        clear c36
                                        by_cases c37 : x6_2 < (t284.length : Int)
                                        · rw [if_pos c37] at H
                                          have c37b0 : decide (x6_2 < (t284.length : Int)) = true := decide_eq_true c37
                                          clear c37
                                          by_cases c38 : (wrap64 ((rd t284 (rd ((rd_T30 t280 x6_2).f1) x7_3)) + ((rd_T30 t280 (rd ((rd_T30 t280 x6_2).f1) x7_3)).f0))) > (rd t284 x6_2)
                                          · rw [if_pos c38] at H
                                            have c38b0 : decide ((rd t284 x6_2) < (wrap64 ((rd t284 (rd ((rd_T30 t280 x6_2).f1) x7_3)) + ((rd_T30 t280 (rd ((rd_T30 t280 x6_2).f1) x7_3)).f0)))) = true := decide_eq_true c38
                                            clear c38
                                            obtain rfl := Option.some.inj H
                                            have p297 : 0 ≤ (x6_2 : Int) := of_decide_eq_true (by first | (with_reducible assumption) | assumption)
                                            have q297 : x6_2 < (t280.length : Int) := of_decide_eq_true (by first | (with_reducible assumption) | assumption)
                                            obtain ⟨ad297, A297_1, c297_1, e297, hx297_0, hx297_1, hx297_2, hx297_3, hl297_1, hi297_1⟩ := at_T30 (Kd.S_reads' HO_3.out).2.2 x6_2 p297 q297
                                            obtain rfl : ad296 = ad297 := (by injection e297)
                                            obtain ⟨ce297, hce297, hMe297, hcc297⟩ := Kd.S_get HO_3.out z30 x6_2 p297 (by first | exact q297 | exact of_decide_eq_true (by first | (with_reducible assumption) | assumption) | (have e_ := (Kd.S_reads' HO_3.out).1; omega))
                                            obtain ⟨ve297_1, rfl, ge297_1⟩ := k30_openM hMe297
                                            have hv297_1 := hcc297 1 _ rfl
                                            rw [add_field _ _ 1 (by omega)] at hv297_1
                                            replace hv297_1 := Option.some.inj (hv297_1.symm.trans hx297_1)
                                            rw [hv297_1] at ge297_1
                                            have HL297_1 := Aside0.mk (show Kd.Q (Kd.int .i64) 3 _ _ _ _ ((rd_T30 t280 x6_2).f1) from ge297_1)
                                            clear hv297_1 ge297_1
                                            clear hcc297 hce297
                                            have HR297_1 := Aside0.mk hi297_1
                                            have HC297_1 := Aside0.mk hl297_1
                                            clear hi297_1 hl297_1
                                            replace p297 := eq_true p297
                                            replace q297 := eq_true q297
                                            have p298 : 0 ≤ (x6_2 : Int) := of_decide_eq_true (by first | (with_reducible assumption) | assumption)
                                            have q298 : x6_2 < (t280.length : Int) := of_decide_eq_true (by first | (with_reducible assumption) | assumption)
                                            obtain ⟨ad298, A298_1, c298_1, e298, hx298_0, hx298_1, hx298_2, hx298_3, hl298_1, hi298_1⟩ := at_T30 (Kd.S_reads' HO_3.out).2.2 x6_2 p298 q298
                                            obtain rfl : ad296 = ad298 := (by injection e298)
                                            obtain ⟨ce298, hce298, hMe298, hcc298⟩ := Kd.S_get HO_3.out z30 x6_2 p298 (by first | exact q298 | exact of_decide_eq_true (by first | (with_reducible assumption) | assumption) | (have e_ := (Kd.S_reads' HO_3.out).1; omega))
                                            obtain ⟨ve298_1, rfl, ge298_1⟩ := k30_openM hMe298
                                            have hv298_1 := hcc298 1 _ rfl
                                            rw [add_field _ _ 1 (by omega)] at hv298_1
                                            replace hv298_1 := Option.some.inj (hv298_1.symm.trans hx298_1)
                                            rw [hv298_1] at ge298_1
                                            have HL298_1 := Aside0.mk (show Kd.Q (Kd.int .i64) 3 _ _ _ _ ((rd_T30 t280 x6_2).f1) from ge298_1)
                                            clear hv298_1 ge298_1
                                            clear hcc298 hce298
                                            have HR298_1 := Aside0.mk hi298_1
                                            have HC298_1 := Aside0.mk hl298_1
                                            clear hi298_1 hl298_1
                                            replace p298 := eq_true p298
                                            replace q298 := eq_true q298
                                            have ea_ := Option.some.inj (hx297_1.symm.trans hx298_1)
                                            injection ea_ with ea_ en_ ec_
                                            subst ea_
                                            subst ec_
                                            clear en_
                                            have p299 : 0 ≤ (x7_3 : Int) := of_decide_eq_true (by first | (with_reducible assumption) | assumption)
                                            have q299 : x7_3 < (((rd_T30 t280 x6_2).f1).length : Int) := of_decide_eq_true (by first | (with_reducible assumption) | assumption)
                                            obtain ⟨ad299, e299, hx299_0⟩ := Kd.at_int (by repeat (first | (with_reducible exact HR298_1.out) | (with_reducible refine Kd.C_alloc ?_ _) | (with_reducible refine Kd.C_drewN ?_ _) | (with_reducible refine Kd.C_drew ?_) | exact HR298_1.out)) x7_3 p299 q299
                                            cases e299
                                            replace p299 := eq_true p299
                                            replace q299 := eq_true q299
                                            have p300 : 0 ≤ ((rd ((rd_T30 t280 x6_2).f1) x7_3) : Int) := of_decide_eq_true (by first | (with_reducible assumption) | assumption)
                                            have q300 : (rd ((rd_T30 t280 x6_2).f1) x7_3) < (t284.length : Int) := of_decide_eq_true (by first | (with_reducible assumption) | assumption)
                                            obtain ⟨ad300, e300, hx300_0⟩ := Kd.at_int (Kd.R_reads' HO_5.out).2.2 (rd ((rd_T30 t280 x6_2).f1) x7_3) p300 q300
                                            obtain rfl : ad295 = ad300 := (by injection e300)
                                            replace p300 := eq_true p300
                                            replace q300 := eq_true q300
                                            have p301 : 0 ≤ ((rd ((rd_T30 t280 x6_2).f1) x7_3) : Int) := of_decide_eq_true (by first | (with_reducible assumption) | assumption)
                                            have q301 : (rd ((rd_T30 t280 x6_2).f1) x7_3) < (t280.length : Int) := of_decide_eq_true (by first | (with_reducible assumption) | assumption)
                                            obtain ⟨ad301, A301_1, c301_1, e301, hx301_0, hx301_1, hx301_2, hx301_3, hl301_1, hi301_1⟩ := at_T30 (Kd.S_reads' HO_3.out).2.2 (rd ((rd_T30 t280 x6_2).f1) x7_3) p301 q301
                                            obtain rfl : ad296 = ad301 := (by injection e301)
                                            obtain ⟨ce301, hce301, hMe301, hcc301⟩ := Kd.S_get HO_3.out z30 (rd ((rd_T30 t280 x6_2).f1) x7_3) p301 (by first | exact q301 | exact of_decide_eq_true (by first | (with_reducible assumption) | assumption) | (have e_ := (Kd.S_reads' HO_3.out).1; omega))
                                            obtain ⟨ve301_1, rfl, ge301_1⟩ := k30_openM hMe301
                                            have hv301_1 := hcc301 1 _ rfl
                                            rw [add_field _ _ 1 (by omega)] at hv301_1
                                            replace hv301_1 := Option.some.inj (hv301_1.symm.trans hx301_1)
                                            rw [hv301_1] at ge301_1
                                            have HL301_1 := Aside0.mk (show Kd.Q (Kd.int .i64) 3 _ _ _ _ ((rd_T30 t280 (rd ((rd_T30 t280 x6_2).f1) x7_3)).f1) from ge301_1)
                                            clear hv301_1 ge301_1
                                            clear hcc301 hce301
                                            have HR301_1 := Aside0.mk hi301_1
                                            have HC301_1 := Aside0.mk hl301_1
                                            clear hi301_1 hl301_1
                                            replace p301 := eq_true p301
                                            replace q301 := eq_true q301
                                            have p302 : 0 ≤ (x6_2 : Int) := of_decide_eq_true (by first | (with_reducible assumption) | assumption)
                                            have q302 : x6_2 < (t284.length : Int) := of_decide_eq_true (by first | (with_reducible assumption) | assumption)
                                            obtain ⟨ad302, e302, hx302_0⟩ := Kd.at_int (Kd.R_reads' HO_5.out).2.2 x6_2 p302 q302
                                            obtain rfl : ad295 = ad302 := (by injection e302)
                                            replace p302 := eq_true p302
                                            replace q302 := eq_true q302
                                            go_wp2
                                            repeat (go_quiet (fail); try go_wp2)
                                            go_ret
                                            exact ⟨by first | rfl | (simp [errW_none, errW_some] <;> rfl) | (simp [*, errW_none, errW_some] <;> rfl), by repeat (first | (with_reducible first | exact HB.out | apply below_alloc | apply pw_below_drewN | apply below_drew1) | exact HB.out)⟩
                                          · rw [if_neg c38] at H
                                            have c38b0 : decide ((rd t284 x6_2) < (wrap64 ((rd t284 (rd ((rd_T30 t280 x6_2).f1) x7_3)) + ((rd_T30 t280 (rd ((rd_T30 t280 x6_2).f1) x7_3)).f0)))) = false := decide_eq_false c38
                                            clear c38
                                            have H' := Aside0.mk H
                                            clear H
                                            have p297 : 0 ≤ (x6_2 : Int) := of_decide_eq_true (by first | (with_reducible assumption) | assumption)
                                            have q297 : x6_2 < (t280.length : Int) := of_decide_eq_true (by first | (with_reducible assumption) | assumption)
                                            obtain ⟨ad297, A297_1, c297_1, e297, hx297_0, hx297_1, hx297_2, hx297_3, hl297_1, hi297_1⟩ := at_T30 (Kd.S_reads' HO_3.out).2.2 x6_2 p297 q297
                                            obtain rfl : ad296 = ad297 := (by injection e297)
                                            obtain ⟨ce297, hce297, hMe297, hcc297⟩ := Kd.S_get HO_3.out z30 x6_2 p297 (by first | exact q297 | exact of_decide_eq_true (by first | (with_reducible assumption) | assumption) | (have e_ := (Kd.S_reads' HO_3.out).1; omega))
                                            obtain ⟨ve297_1, rfl, ge297_1⟩ := k30_openM hMe297
                                            have hv297_1 := hcc297 1 _ rfl
                                            rw [add_field _ _ 1 (by omega)] at hv297_1
                                            replace hv297_1 := Option.some.inj (hv297_1.symm.trans hx297_1)
                                            rw [hv297_1] at ge297_1
                                            have HL297_1 := Aside0.mk (show Kd.Q (Kd.int .i64) 3 _ _ _ _ ((rd_T30 t280 x6_2).f1) from ge297_1)
                                            clear hv297_1 ge297_1
                                            clear hcc297 hce297
                                            have HR297_1 := Aside0.mk hi297_1
                                            have HC297_1 := Aside0.mk hl297_1
                                            clear hi297_1 hl297_1
                                            replace p297 := eq_true p297
                                            replace q297 := eq_true q297
                                            have p298 : 0 ≤ (x6_2 : Int) := of_decide_eq_true (by first | (with_reducible assumption) | assumption)
                                            have q298 : x6_2 < (t280.length : Int) := of_decide_eq_true (by first | (with_reducible assumption) | assumption)
                                            obtain ⟨ad298, A298_1, c298_1, e298, hx298_0, hx298_1, hx298_2, hx298_3, hl298_1, hi298_1⟩ := at_T30 (Kd.S_reads' HO_3.out).2.2 x6_2 p298 q298
                                            obtain rfl : ad296 = ad298 := (by injection e298)
                                            obtain ⟨ce298, hce298, hMe298, hcc298⟩ := Kd.S_get HO_3.out z30 x6_2 p298 (by first | exact q298 | exact of_decide_eq_true (by first | (with_reducible assumption) | assumption) | (have e_ := (Kd.S_reads' HO_3.out).1; omega))
                                            obtain ⟨ve298_1, rfl, ge298_1⟩ := k30_openM hMe298
                                            have hv298_1 := hcc298 1 _ rfl
                                            rw [add_field _ _ 1 (by omega)] at hv298_1
                                            replace hv298_1 := Option.some.inj (hv298_1.symm.trans hx298_1)
                                            rw [hv298_1] at ge298_1
                                            have HL298_1 := Aside0.mk (show Kd.Q (Kd.int .i64) 3 _ _ _ _ ((rd_T30 t280 x6_2).f1) from ge298_1)
                                            clear hv298_1 ge298_1
                                            clear hcc298 hce298
                                            have HR298_1 := Aside0.mk hi298_1
                                            have HC298_1 := Aside0.mk hl298_1
                                            clear hi298_1 hl298_1
                                            replace p298 := eq_true p298
                                            replace q298 := eq_true q298
                                            have ea_ := Option.some.inj (hx297_1.symm.trans hx298_1)
                                            injection ea_ with ea_ en_ ec_
                                            subst ea_
                                            subst ec_
                                            clear en_
                                            have p299 : 0 ≤ (x7_3 : Int) := of_decide_eq_true (by first | (with_reducible assumption) | assumption)
                                            have q299 : x7_3 < (((rd_T30 t280 x6_2).f1).length : Int) := of_decide_eq_true (by first | (with_reducible assumption) | assumption)
                                            obtain ⟨ad299, e299, hx299_0⟩ := Kd.at_int (by repeat (first | (with_reducible exact HR298_1.out) | (with_reducible refine Kd.C_alloc ?_ _) | (with_reducible refine Kd.C_drewN ?_ _) | (with_reducible refine Kd.C_drew ?_) | exact HR298_1.out)) x7_3 p299 q299
                                            cases e299
                                            replace p299 := eq_true p299
                                            replace q299 := eq_true q299
                                            have p300 : 0 ≤ ((rd ((rd_T30 t280 x6_2).f1) x7_3) : Int) := of_decide_eq_true (by first | (with_reducible assumption) | assumption)
                                            have q300 : (rd ((rd_T30 t280 x6_2).f1) x7_3) < (t284.length : Int) := of_decide_eq_true (by first | (with_reducible assumption) | assumption)
                                            obtain ⟨ad300, e300, hx300_0⟩ := Kd.at_int (Kd.R_reads' HO_5.out).2.2 (rd ((rd_T30 t280 x6_2).f1) x7_3) p300 q300
                                            obtain rfl : ad295 = ad300 := (by injection e300)
                                            replace p300 := eq_true p300
                                            replace q300 := eq_true q300
                                            have p301 : 0 ≤ ((rd ((rd_T30 t280 x6_2).f1) x7_3) : Int) := of_decide_eq_true (by first | (with_reducible assumption) | assumption)
                                            have q301 : (rd ((rd_T30 t280 x6_2).f1) x7_3) < (t280.length : Int) := of_decide_eq_true (by first | (with_reducible assumption) | assumption)
                                            obtain ⟨ad301, A301_1, c301_1, e301, hx301_0, hx301_1, hx301_2, hx301_3, hl301_1, hi301_1⟩ := at_T30 (Kd.S_reads' HO_3.out).2.2 (rd ((rd_T30 t280 x6_2).f1) x7_3) p301 q301
                                            obtain rfl : ad296 = ad301 := (by injection e301)
                                            obtain ⟨ce301, hce301, hMe301, hcc301⟩ := Kd.S_get HO_3.out z30 (rd ((rd_T30 t280 x6_2).f1) x7_3) p301 (by first | exact q301 | exact of_decide_eq_true (by first | (with_reducible assumption) | assumption) | (have e_ := (Kd.S_reads' HO_3.out).1; omega))
                                            obtain ⟨ve301_1, rfl, ge301_1⟩ := k30_openM hMe301
                                            have hv301_1 := hcc301 1 _ rfl
                                            rw [add_field _ _ 1 (by omega)] at hv301_1
                                            replace hv301_1 := Option.some.inj (hv301_1.symm.trans hx301_1)
                                            rw [hv301_1] at ge301_1
                                            have HL301_1 := Aside0.mk (show Kd.Q (Kd.int .i64) 3 _ _ _ _ ((rd_T30 t280 (rd ((rd_T30 t280 x6_2).f1) x7_3)).f1) from ge301_1)
                                            clear hv301_1 ge301_1
                                            clear hcc301 hce301
                                            have HR301_1 := Aside0.mk hi301_1
                                            have HC301_1 := Aside0.mk hl301_1
                                            clear hi301_1 hl301_1
                                            replace p301 := eq_true p301
                                            replace q301 := eq_true q301
                                            have p302 : 0 ≤ (x6_2 : Int) := of_decide_eq_true (by first | (with_reducible assumption) | assumption)
                                            have q302 : x6_2 < (t284.length : Int) := of_decide_eq_true (by first | (with_reducible assumption) | assumption)
                                            obtain ⟨ad302, e302, hx302_0⟩ := Kd.at_int (Kd.R_reads' HO_5.out).2.2 x6_2 p302 q302
                                            obtain rfl : ad295 = ad302 := (by injection e302)
                                            replace p302 := eq_true p302
                                            replace q302 := eq_true q302
                                            go_wp2
                                            repeat (go_quiet (fail); try go_wp2)
                                            go_roundg k3
                                            case measure => have := HJ4.out; have := HK2.out; have := HK3.out; omega
                                            case rel => exact ⟨(wrap64 (x7_3 + 1)), (by first | rfl | (simp; done) | (simp [*]; done)), H', ⟨by have := HJ4.out; have := HK2.out; have := HK3.out; omega⟩, ⟨by (with_reducible repeat (first | apply Kd.S_alloc | apply Kd.S_drewN | apply Kd.S_drew)); exact HO_3.out⟩, ⟨by (with_reducible repeat (first | apply Kd.R_alloc | apply Kd.R_drewN | apply Kd.R_drew)); exact HO_5.out⟩, ⟨by repeat (first | (with_reducible exact HR296_1.out) | (with_reducible refine Kd.C_alloc ?_ _) | (with_reducible refine Kd.C_drewN ?_ _) | (with_reducible refine Kd.C_drew ?_) | exact HR296_1.out)⟩, ⟨by repeat (first | (with_reducible first | exact HB.out | apply below_alloc | apply pw_below_drewN | apply below_drew1) | exact HB.out)⟩⟩
                                        · rw [if_neg c37] at H
                                          exact absurd H (by simp)
                                      · rw [if_neg c36] at H
                                        exact absurd H (by simp)
                                    · rw [if_neg c35] at H
                                      exact absurd H (by simp)
                                  · rw [if_neg c34] at H
                                    exact absurd H (by simp)
                                · rw [if_neg c33] at H
                                  exact absurd H (by simp)
                              · rw [if_neg c32] at H
                                have c32b0 : decide (x7_3 < (((rd_T30 t280 x6_2).f1).length : Int)) = false := decide_eq_false c32
                                clear c32
                                have H' := Aside0.mk H
                                clear H
                                have p297 : 0 ≤ (x6_2 : Int) := of_decide_eq_true (by first | (with_reducible assumption) | assumption)
                                have q297 : x6_2 < (t280.length : Int) := of_decide_eq_true (by first | (with_reducible assumption) | assumption)
                                obtain ⟨ad297, A297_1, c297_1, e297, hx297_0, hx297_1, hx297_2, hx297_3, hl297_1, hi297_1⟩ := at_T30 (Kd.S_reads' HO_3.out).2.2 x6_2 p297 q297
                                obtain rfl : ad296 = ad297 := (by injection e297)
                                obtain ⟨ce297, hce297, hMe297, hcc297⟩ := Kd.S_get HO_3.out z30 x6_2 p297 (by first | exact q297 | exact of_decide_eq_true (by first | (with_reducible assumption) | assumption) | (have e_ := (Kd.S_reads' HO_3.out).1; omega))
                                obtain ⟨ve297_1, rfl, ge297_1⟩ := k30_openM hMe297
                                have hv297_1 := hcc297 1 _ rfl
                                rw [add_field _ _ 1 (by omega)] at hv297_1
                                replace hv297_1 := Option.some.inj (hv297_1.symm.trans hx297_1)
                                rw [hv297_1] at ge297_1
                                have HL297_1 := Aside0.mk (show Kd.Q (Kd.int .i64) 3 _ _ _ _ ((rd_T30 t280 x6_2).f1) from ge297_1)
                                clear hv297_1 ge297_1
                                clear hcc297 hce297
                                have HR297_1 := Aside0.mk hi297_1
                                have HC297_1 := Aside0.mk hl297_1
                                clear hi297_1 hl297_1
                                replace p297 := eq_true p297
                                replace q297 := eq_true q297
                                go_wp2
                                repeat (go_quiet (fail); try go_wp2)
                                go_roundg k3
                                case measure => have := HJ4.out; have := HK2.out; have := HK3.out; omega
                                case rel => exact ⟨(wrap64 (x6_2 + 1)), (by first | rfl | (simp; done) | (simp [*]; done)), H', ⟨by have := HJ4.out; have := HK2.out; have := HK3.out; omega⟩, ⟨by (with_reducible repeat (first | apply Kd.S_alloc | apply Kd.S_drewN | apply Kd.S_drew)); exact HO_3.out⟩, ⟨by (with_reducible repeat (first | apply Kd.R_alloc | apply Kd.R_drewN | apply Kd.R_drew)); exact HO_5.out⟩, ⟨by repeat (first | (with_reducible first | exact HB.out | apply below_alloc | apply pw_below_drewN | apply below_drew1) | exact HB.out)⟩⟩
                            · rw [if_neg c31] at H
                              exact absurd H (by simp)
                          · rw [if_neg c30] at H
                            exact absurd H (by simp)
                  · rw [if_neg c26] at H
                    exact absurd H (by simp)
                · rw [if_neg c25] at H
                  exact absurd H (by simp)
              · rw [if_neg c24] at H
                have c24b0 : decide (x6_2 < (t280.length : Int)) = false := decide_eq_false c24
                clear c24
                obtain rfl := Option.some.inj H
                go_wp2
                repeat (go_quiet (fail); try go_wp2)
                go_ret
                exact ⟨by first | rfl | (simp [errW_none, errW_some] <;> rfl) | (simp [*, errW_none, errW_some] <;> rfl), by repeat (first | (with_reducible first | exact HB.out | apply below_alloc | apply pw_below_drewN | apply below_drew1) | exact HB.out)⟩
end Go.Proofs.YtpgfcihmgdempaaDoor.P
end
section
set_option linter.unusedVariables false
set_option linter.unusedSimpArgs false
namespace Go.Proofs.YtpgfcihmgdempaaDoor.Core
open Go Go.RowKit Go.Proofs.YtpgfcihmgdempaaDoorW.PrintWords Go.Proofs.YtpgfcihmgdempaaDoorW.PrintMore Go.Proofs.YtpgfcihmgdempaaDoor.P
theorem ev_latest {g : List Tk} (hg : Fits g) {G : GD} (hG : graphD g = some G) {dl : Int} (hd : 0 ≤ dl ∧ dl ≤ 200) : Ev (fun k => spec_latest.f k g dl) ((up (tailsN G)).map (dl - ·)) := by
  have v := vg_of hG
  have h8 := v.n8
  have hT := tails_ok v
  have htm := tm20_of (fun t ht => (v.fine.1 t ht).1)
  have hle := tailsN_le (graphD_ok hG) (by rw [v.tasks]; exact htm)
  have hl : (up (tailsN G)).length = g.length := by rw [up_length, hT.1]
  unfold spec_latest.f
  refine Ev.bind (ev_tails hg hG) ?_
  have key : ∀ (m i : Nat), i + m = g.length → Ev (fun k => spec_latest.l0 k g dl (((up (tailsN G)).take i).map (dl - ·)) (up (tailsN G)) (i : Int)) ((up (tailsN G)).map (dl - ·)) := by
    intro m
    induction m with
    | zero =>
      intro i hi
      refine Ev.succ ?_
      simp only [spec_latest.l0]
      refine Ev.neg (by omega) ((Ev.const _).conv ?_)
      rw [List.take_of_length_le (by omega)]
    | succ m ih =>
      intro i hi
      have hw : wrap64 ((i : Int) + 1) = ((i + 1 : Nat) : Int) := w64s (by unfold big; omega)
      have hr : rd (up (tailsN G)) (i : Int) = (((tailsN G).getD i 0 : Nat) : Int) := rd_up rfl
      have hb := hle i
      have hw2 : wrap64 (dl - (((tailsN G).getD i 0 : Nat) : Int)) = dl - (((tailsN G).getD i 0 : Nat) : Int) := w64 (by omega) (by omega)
      have h := ih (i + 1) (by omega)
      have et : ((up (tailsN G)).take (i + 1)).map (dl - ·) = ((up (tailsN G)).take i).map (dl - ·) ++ [dl - (((tailsN G).getD i 0 : Nat) : Int)] := by
        have hi2 : i < (tailsN G).length := by rw [hT.1]; omega
        rw [List.take_add_one, List.map_append]
        congr 1
        simp [up, hi2]
      rw [et] at h
      refine Ev.succ ?_
      simp only [spec_latest.l0, hr, hw, hw2]
      exact Ev.pos (by omega) (Ev.pos (by omega) (Ev.pos (by omega) (Ev.pos (by rw [List.length_map, List.length_take]; omega) h)))
  exact key g.length 0 (by omega)
theorem ev_LatestStarts {g : List Tk} (hg : Fits g) (dl : Int) : Ev (fun k => spec_LatestStarts.f k g dl) (latestD g dl) := by
  unfold spec_LatestStarts.f latestD
  refine Ev.bind (ev_validGraph hg) ?_
  cases hG : graphD g with
  | none => exact Ev.neg (by simp) (Ev.const _)
  | some G =>
    refine Ev.pos (by first | rfl | trivial) ?_
    rw [inRange_eq]
    refine Ev.sb ?_
    simp only []
    by_cases hd : 0 ≤ dl ∧ dl ≤ 200
    · rw [if_pos hd]
      exact Ev.pos (by rw [decide_eq_true hd]) (Ev.bind (ev_latest hg hG hd) (Ev.const _))
    · rw [if_neg hd]
      exact Ev.neg (by rw [decide_eq_false hd]; simp) (Ev.const _)
end Go.Proofs.YtpgfcihmgdempaaDoor.Core
end
