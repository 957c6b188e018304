/- The law FnLatestStartsSlack holds of the given program: the proof's own part, with its row and its card, part 4 of 10. -/
import Derived.Test.YtekajandipdlhaaDoorZFnLatestStartsSlack3
import Derived.Laws.Bits64
section
namespace Go.Proofs.YtekajandipdlhaaDoor.P
open Go.RowKit Go.Proofs.YtekajandipdlhaaDoorW.PrintWords Go.Proofs.YtekajandipdlhaaDoorW.PrintLast Go.Proofs.YtekajandipdlhaaDoorW.PrintMore
attribute [local go_sem] max2_int min2_int max_two min_two max_three min_three max_four min_four   -- for this text's walks alone
set_option linter.unusedVariables false
set_option linter.unusedSimpArgs false
def spec_LatestStarts.f (k : Nat) (l0 : List (S37)) (a1 : Int) : Option (List Int) := (spec_validGraph.f k l0).bind fun t507 => (if t507 = true then ((spec_inRange.f a1 0 200).bind fun t508 => (if t508 = true then ((spec_latest.f k l0 a1).bind fun t509 => (some t509)) else (some ([] : List Int)))) else (some ([] : List Int)))
theorem spec_LatestStarts.mono : ∀ a0 a1 k, LeO (spec_LatestStarts.f k a0 a1) (spec_LatestStarts.f (k + 1) a0 a1) := by
  intro a0 a1 k
  unfold spec_LatestStarts.f
  repeat' first
      | (with_reducible exact spec_latest.mono _ _ _)
      | (with_reducible exact spec_validGraph.mono _ _)
      | (with_reducible exact LeO.refl _)
      | (with_reducible exact LeO.none _)
      | (with_reducible refine LeO.ite ?_ ?_)
      | (with_reducible refine LeO.bind ?_ (fun _ => ?_))
      | exact spec_latest.mono _ _ _
      | exact spec_validGraph.mono _ _
      | exact LeO.none _
      | refine LeO.ite ?_ ?_
      | refine LeO.bind ?_ (fun _ => ?_)
set_option maxHeartbeats 8000000 in
set_option maxRecDepth 100000 in
theorem spec_LatestStarts.calls (k : Nat) (A0 : Option Addr) (c0 : Nat) (l0 : List (S37)) (a1 : Int) (r : List Int) (w : World) (hr0 : Kd.C k37 w A0 l0.length l0) (hc0 : l0.length ≤ c0) (h : spec_LatestStarts.f k l0 a1 = some r) :
    Calls Tryd.prog 37 #[.slice A0 l0.length c0, .int .i64 a1] w fun e w' => ∃ v0_ : Value, e = .returned (v0_) ∧ Kd.R (Kd.int .i64) 3 w' w.heap.size (fun _ => True) v0_ r ∧ Below w.heap.size w w' := by
  have HR0 := Aside0.mk hr0
  have HC0 := Aside0.mk hc0
  clear hr0 hc0
  have HB := Aside0.mk (Below.refl w.heap.size w)
  have H : ((spec_validGraph.f k l0).bind fun t507 => (if t507 = true then ((spec_inRange.f a1 0 200).bind fun t508 => (if t508 = true then ((spec_latest.f k l0 a1).bind fun t509 => (some t509)) else (some ([] : List Int)))) else (some ([] : List Int)))) = some r := h
  clear h
  replace H := Option.bind_eq_some_iff.mp H
  obtain ⟨t507, A30, H⟩ := H
  replace H : (if t507 = true then ((spec_inRange.f a1 0 200).bind fun t508 => (if t508 = true then ((spec_latest.f k l0 a1).bind fun t509 => (some t509)) else (some ([] : List Int)))) else (some ([] : List Int))) = some r := H
  have A3 := Aside0.mk A30
  clear A30
  by_cases c4 : t507 = true
  · subst c4
    have H1 : ((spec_inRange.f a1 0 200).bind fun t508 => (if t508 = true then ((spec_latest.f k l0 a1).bind fun t509 => (some t509)) else (some ([] : List Int)))) = some r := by rw [if_pos rfl] at H; exact H
    clear H
    have H := H1
    clear H1
    replace H := Option.bind_eq_some_iff.mp H
    obtain ⟨t508, A50, H⟩ := H
    replace H : (if t508 = true then ((spec_latest.f k l0 a1).bind fun t509 => (some t509)) else (some ([] : List Int))) = some r := H
    have A5 := Aside0.mk A50
    clear A50
    by_cases c6 : t508 = true
    · subst c6
      have H1 : ((spec_latest.f k l0 a1).bind fun t509 => (some t509)) = some r := by rw [if_pos rfl] at H; exact H
      clear H
      have H := H1
      clear H1
      replace H := Option.bind_eq_some_iff.mp H
      obtain ⟨t509, A70, H⟩ := H
      replace H : (some t509) = some r := H
      have A7 := Aside0.mk A70
      clear A70
      obtain rfl := Option.some.inj H
      go_enter Tryd.func37, Tryd.ntmps37
      go_wp2_with (first | ((with_reducible refine gate_callee (f := 57) rfl ?_); refine goesL_ (some 6) rfl rfl Tryd.func57 (by kernel_rfl) rfl #[.slice A0 l0.length c0] rfl (by (try simp only [List.map_toArray, List.map_cons, List.map_nil]); first | done | rfl | (simp only [List.length_drop, List.length_take]; rfl)) ?_; (with_reducible refine (spec_validGraph.calls k _ _ l0 true _ ?side1 ?side2 A3.out).mono ?_); (case side1 => repeat (first | exact HR0.out | (with_reducible refine Kd.C_alloc ?_ _) | (with_reducible refine Kd.C_drewN ?_ _) | (with_reducible refine Kd.C_drew ?_))); (case side2 => exact HC0.out); rintro e w8 ⟨rfl, hb⟩; refine ⟨_, rfl, ?_⟩; have n0_ := Aside0.mk (below_step (by repeat (first | (with_reducible first | exact HB.out | apply below_alloc | apply pw_below_drewN | apply below_drew1) | exact HB.out)) hb); clear HB; have HB := n0_; clear n0_; (try clear hb); (try clear hb2); (try clear hk); (try clear hi)) | (go_at_call 75; (with_reducible refine (spec_inRange.calls a1 0 200 true _ A5.out).mono ?_); rintro e w' ⟨rfl, ⟨nd, rfl⟩⟩) | ((with_reducible refine gate_callee (f := 76) rfl ?_); refine goesL_ (some 15) rfl rfl Tryd.func76 (by kernel_rfl) rfl #[.slice A0 l0.length c0, .int .i64 a1] rfl (by (try simp only [List.map_toArray, List.map_cons, List.map_nil]); first | done | rfl | (simp only [List.length_drop, List.length_take]; rfl)) ?_; (with_reducible refine (spec_latest.calls k _ _ l0 a1 t509 _ ?side1 ?side2 A7.out).mono ?_); (case side1 => repeat (first | exact (Kd.C_below HR0.out (by repeat (first | (with_reducible first | exact HB.out | apply below_alloc | apply pw_below_drewN | apply below_drew1) | exact HB.out))) | (with_reducible refine Kd.C_alloc ?_ _) | (with_reducible refine Kd.C_drewN ?_ _) | (with_reducible refine Kd.C_drew ?_))); (case side2 => exact HC0.out); rintro e w9 ⟨v510, rfl, ho0, hb⟩; refine ⟨_, rfl, ?_⟩; have n0_ := Aside0.mk (Kd.R_lower ho0 (below_size (by repeat (first | (with_reducible first | exact HB.out | apply below_alloc | apply pw_below_drewN | apply below_drew1) | exact HB.out)))); have n1_ := Aside0.mk (below_step (by repeat (first | (with_reducible first | exact HB.out | apply below_alloc | apply pw_below_drewN | apply below_drew1) | exact HB.out)) hb); clear HB; have HO511 := n0_; have HB := n1_; clear n0_ n1_; (try clear hb); (try clear hb2); (try clear hk); (try clear hi); (try clear ho0)))
      go_ret
      exact ⟨_, by first | rfl | (simp [errW_none, errW_some] <;> rfl) | (simp [*, errW_none, errW_some] <;> rfl), by (with_reducible repeat (first | apply Kd.R_alloc | apply Kd.R_drewN | apply Kd.R_drew)); exact HO511.out, by repeat (first | (with_reducible first | exact HB.out | apply below_alloc | apply pw_below_drewN | apply below_drew1) | exact HB.out)⟩
    · replace c6 := Bool.eq_false_iff.mpr c6
      subst c6
      have H1 : (some ([] : List Int)) = some r := by rw [if_neg (show ¬ (false = true) by decide)] at H; exact H
      clear H
      have H := H1
      clear H1
      obtain rfl := Option.some.inj H
      go_enter Tryd.func37, Tryd.ntmps37
      go_wp2_with (first | ((with_reducible refine gate_callee (f := 57) rfl ?_); refine goesL_ (some 6) rfl rfl Tryd.func57 (by kernel_rfl) rfl #[.slice A0 l0.length c0] rfl (by (try simp only [List.map_toArray, List.map_cons, List.map_nil]); first | done | rfl | (simp only [List.length_drop, List.length_take]; rfl)) ?_; (with_reducible refine (spec_validGraph.calls k _ _ l0 true _ ?side1 ?side2 A3.out).mono ?_); (case side1 => repeat (first | exact HR0.out | (with_reducible refine Kd.C_alloc ?_ _) | (with_reducible refine Kd.C_drewN ?_ _) | (with_reducible refine Kd.C_drew ?_))); (case side2 => exact HC0.out); rintro e w10 ⟨rfl, hb⟩; refine ⟨_, rfl, ?_⟩; have n0_ := Aside0.mk (below_step (by repeat (first | (with_reducible first | exact HB.out | apply below_alloc | apply pw_below_drewN | apply below_drew1) | exact HB.out)) hb); clear HB; have HB := n0_; clear n0_; (try clear hb); (try clear hb2); (try clear hk); (try clear hi)) | (go_at_call 75; (with_reducible refine (spec_inRange.calls a1 0 200 false _ A5.out).mono ?_); rintro e w' ⟨rfl, ⟨nd, rfl⟩⟩))
      go_ret
      exact ⟨_, by first | rfl | (simp [errW_none, errW_some] <;> rfl) | (simp [*, errW_none, errW_some] <;> rfl), by first | exact Kd.R_nil _ _ _ _ _ | exact Kd.N_nil _ _ _ _ _ | exact Kd.V_nil _ _ _ _ _ | exact Kd.Q_nil _ _ _ _ _ | exact Kd.S_nil _ _ _ _ _, by repeat (first | (with_reducible first | exact HB.out | apply below_alloc | apply pw_below_drewN | apply below_drew1) | exact HB.out)⟩
  · replace c4 := Bool.eq_false_iff.mpr c4
    subst c4
    have H1 : (some ([] : List Int)) = some r := by rw [if_neg (show ¬ (false = true) by decide)] at H; exact H
    clear H
    have H := H1
    clear H1
    obtain rfl := Option.some.inj H
    go_enter Tryd.func37, Tryd.ntmps37
    go_wp2_with (first | ((with_reducible refine gate_callee (f := 57) rfl ?_); refine goesL_ (some 6) rfl rfl Tryd.func57 (by kernel_rfl) rfl #[.slice A0 l0.length c0] rfl (by (try simp only [List.map_toArray, List.map_cons, List.map_nil]); first | done | rfl | (simp only [List.length_drop, List.length_take]; rfl)) ?_; (with_reducible refine (spec_validGraph.calls k _ _ l0 false _ ?side1 ?side2 A3.out).mono ?_); (case side1 => repeat (first | exact HR0.out | (with_reducible refine Kd.C_alloc ?_ _) | (with_reducible refine Kd.C_drewN ?_ _) | (with_reducible refine Kd.C_drew ?_))); (case side2 => exact HC0.out); rintro e w11 ⟨rfl, hb⟩; refine ⟨_, rfl, ?_⟩; have n0_ := Aside0.mk (below_step (by repeat (first | (with_reducible first | exact HB.out | apply below_alloc | apply pw_below_drewN | apply below_drew1) | exact HB.out)) hb); clear HB; have HB := n0_; clear n0_; (try clear hb); (try clear hb2); (try clear hk); (try clear hi)))
    go_ret
    exact ⟨_, by first | rfl | (simp [errW_none, errW_some] <;> rfl) | (simp [*, errW_none, errW_some] <;> rfl), by first | exact Kd.R_nil _ _ _ _ _ | exact Kd.N_nil _ _ _ _ _ | exact Kd.V_nil _ _ _ _ _ | exact Kd.Q_nil _ _ _ _ _ | exact Kd.S_nil _ _ _ _ _, by repeat (first | (with_reducible first | exact HB.out | apply below_alloc | apply pw_below_drewN | apply below_drew1) | exact HB.out)⟩
end Go.Proofs.YtekajandipdlhaaDoor.P
end
section
namespace Go.Proofs.YtekajandipdlhaaDoor.P
open Go.RowKit Go.Proofs.YtekajandipdlhaaDoorW.PrintWords Go.Proofs.YtekajandipdlhaaDoorW.PrintLast Go.Proofs.YtekajandipdlhaaDoorW.PrintMore
attribute [local go_sem] max2_int min2_int max_two min_two max_three min_three max_four min_four   -- for this text's walks alone
set_option linter.unusedVariables false
set_option linter.unusedSimpArgs false
def laws_equalInts.l0 : Nat → List Int → List Int → Int → Option (Bool)
  | 0, _, _, _ => none
  | k + 1, x0, x1, x5 => if x5 < (x0.length : Int) then (if 0 ≤ x5 then (if x5 < (x1.length : Int) then (if (rd x0 x5) = (rd x1 x5) then (laws_equalInts.l0 k x0 x1 (wrap64 (x5 + 1))) else (some false)) else (none)) else (none)) else (some true)
def laws_equalInts.f (k : Nat) (l0 : List Int) (l1 : List Int) : Option (Bool) := if (l0.length : Int) = (l1.length : Int) then (laws_equalInts.l0 k l0 l1 0) else (some false)
theorem laws_equalInts.mono_l : ∀ k, (∀ y0 y1 y2, LeO (laws_equalInts.l0 k y0 y1 y2) (laws_equalInts.l0 (k + 1) y0 y1 y2))
  | 0 => fun _ _ _ r h => by simp [laws_equalInts.l0] at h
  | k + 1 => by
    have ih0 := laws_equalInts.mono_l k
    · intro y0 y1 y2
      unfold laws_equalInts.l0
      repeat' first
      | (with_reducible exact ih0 _ _ _)
      | (with_reducible exact LeO.refl _)
      | (with_reducible exact LeO.none _)
      | (with_reducible refine LeO.ite ?_ ?_)
      | (with_reducible refine LeO.bind ?_ (fun _ => ?_))
      | exact ih0 _ _ _
      | exact LeO.none _
      | refine LeO.ite ?_ ?_
      | refine LeO.bind ?_ (fun _ => ?_)
theorem laws_equalInts.mono : ∀ a0 a1 k, LeO (laws_equalInts.f k a0 a1) (laws_equalInts.f (k + 1) a0 a1) := by
  intro a0 a1 k
  have ih0 := laws_equalInts.mono_l k
  unfold laws_equalInts.f
  repeat' first
      | (with_reducible exact ih0 _ _ _)
      | (with_reducible exact LeO.refl _)
      | (with_reducible exact LeO.none _)
      | (with_reducible refine LeO.ite ?_ ?_)
      | (with_reducible refine LeO.bind ?_ (fun _ => ?_))
      | exact ih0 _ _ _
      | exact LeO.none _
      | refine LeO.ite ?_ ?_
      | refine LeO.bind ?_ (fun _ => ?_)
set_option maxHeartbeats 8000000 in
set_option maxRecDepth 100000 in
theorem laws_equalInts.calls (k : Nat) (A0 : Option Addr) (c0 : Nat) (l0 : List Int) (A1 : Option Addr) (c1 : Nat) (l1 : List Int) (r : Bool) (w : World) (hr0 : Kd.C (Kd.int .i64) w A0 l0.length l0) (hc0 : l0.length ≤ c0) (hr1 : Kd.C (Kd.int .i64) w A1 l1.length l1) (hc1 : l1.length ≤ c1) (h : laws_equalInts.f k l0 l1 = some r) :
    Calls Tryd.prog 33 #[.slice A0 l0.length c0, .slice A1 l1.length c1] w fun e w' => e = .returned (.bool r) ∧ Drawn0 w w' := by
  have HR0 := Aside0.mk hr0
  have HC0 := Aside0.mk hc0
  clear hr0 hc0
  have HR1 := Aside0.mk hr1
  have HC1 := Aside0.mk hc1
  clear hr1 hc1
  have H : (if (l0.length : Int) = (l1.length : Int) then (laws_equalInts.l0 k l0 l1 0) else (some false)) = some r := h
  clear h
  by_cases c3 : (l0.length : Int) = (l1.length : Int)
  · rw [if_pos c3] at H
    have c3b0 : ((l0.length : Int) == (l1.length : Int)) = true := beq_iff_eq.mpr c3
    have c3b1 : ((l0.length : Int) != (l1.length : Int)) = false := bne_eq_false_iff_eq.mpr c3
    have c3b2 : (l0.length == l1.length) = true := by first | simpa using c3 | (simp at c3 ⊢; omega)
    clear c3
    have H' := Aside0.mk H
    clear H
    go_enter Tryd.func33, Tryd.ntmps33
    go_wp2
    repeat (go_quiet (fail); try go_wp2)
    go_loopg [5] k (fun kq v5 w' => ∃ (x5_1 : Int), v5 = .int .i64 x5_1 ∧ Aside0 (laws_equalInts.l0 kq l0 l1 x5_1 = some r) ∧ Aside0 (kq ≤ k) ∧ Drawn0 w w')
    case atStart => exact ⟨(0), (by first | rfl | (simp; done) | (simp [*]; done)), H', ⟨Nat.le_refl _⟩, by repeat (first | exact Drawn0.refl _ | apply Drawn0.step)⟩
    case round =>
      clear H'
      try clear c1
      try clear p2
      try clear c3
      try clear c3b0
      try clear c3b1
      try clear c3b2
      obtain ⟨x5_1, rfl, HA, HK1, ⟨m1, rfl⟩⟩ := hrel
      cases gk with
      | zero => exact absurd HA.out (by simp [laws_equalInts.l0])
      | succ k1 =>
        have H := HA.out
        clear HA
        simp only [laws_equalInts.l0] at H
        by_cases c4 : x5_1 < (l0.length : Int)
        · rw [if_pos c4] at H
          have c4b0 : decide (x5_1 < (l0.length : Int)) = true := decide_eq_true c4
          clear c4
          by_cases c5 : 0 ≤ x5_1
          · rw [if_pos c5] at H
            have c5b0 : decide (0 ≤ x5_1) = true := decide_eq_true c5
            clear c5
            by_cases c6 : x5_1 < (l1.length : Int)
            · rw [if_pos c6] at H
              have c6b0 : decide (x5_1 < (l1.length : Int)) = true := decide_eq_true c6
              clear c6
              by_cases c7 : (rd l0 x5_1) = (rd l1 x5_1)
              · rw [if_pos c7] at H
                have c7b0 : ((rd l0 x5_1) == (rd l1 x5_1)) = true := beq_iff_eq.mpr c7
                have c7b1 : ((rd l0 x5_1) != (rd l1 x5_1)) = false := bne_eq_false_iff_eq.mpr c7
                clear c7
                have H' := Aside0.mk H
                clear H
                have p348 : 0 ≤ (x5_1 : Int) := of_decide_eq_true (by first | (with_reducible assumption) | assumption)
                have q348 : x5_1 < (l0.length : Int) := of_decide_eq_true (by first | (with_reducible assumption) | assumption)
                obtain ⟨ad348, e348, hx348_0⟩ := Kd.at_int HR0.out x5_1 p348 q348
                cases e348
                replace p348 := eq_true p348
                replace q348 := eq_true q348
                have p349 : 0 ≤ (x5_1 : Int) := of_decide_eq_true (by first | (with_reducible assumption) | assumption)
                have q349 : x5_1 < (l1.length : Int) := of_decide_eq_true (by first | (with_reducible assumption) | assumption)
                obtain ⟨ad349, e349, hx349_0⟩ := Kd.at_int HR1.out x5_1 p349 q349
                cases e349
                replace p349 := eq_true p349
                replace q349 := eq_true q349
                go_wp2
                repeat (go_quiet (fail); try go_wp2)
                go_roundg k1
                case measure => have := HK1.out; omega
                case rel => exact ⟨(wrap64 (x5_1 + 1)), (by first | rfl | (simp; done) | (simp [*]; done)), H', ⟨by have := HK1.out; omega⟩, by repeat (first | exact Drawn0.refl _ | apply Drawn0.step)⟩
              · rw [if_neg c7] at H
                have c7b0 : ((rd l0 x5_1) == (rd l1 x5_1)) = false := beq_eq_false_iff_ne.mpr c7
                have c7b1 : ((rd l0 x5_1) != (rd l1 x5_1)) = true := bne_iff_ne.mpr c7
                obtain rfl := Option.some.inj H
                have p348 : 0 ≤ (x5_1 : Int) := of_decide_eq_true (by first | (with_reducible assumption) | assumption)
                have q348 : x5_1 < (l0.length : Int) := of_decide_eq_true (by first | (with_reducible assumption) | assumption)
                obtain ⟨ad348, e348, hx348_0⟩ := Kd.at_int HR0.out x5_1 p348 q348
                cases e348
                replace p348 := eq_true p348
                replace q348 := eq_true q348
                have p349 : 0 ≤ (x5_1 : Int) := of_decide_eq_true (by first | (with_reducible assumption) | assumption)
                have q349 : x5_1 < (l1.length : Int) := of_decide_eq_true (by first | (with_reducible assumption) | assumption)
                obtain ⟨ad349, e349, hx349_0⟩ := Kd.at_int HR1.out x5_1 p349 q349
                cases e349
                replace p349 := eq_true p349
                replace q349 := eq_true q349
                go_wp2
                repeat (go_quiet (fail); try go_wp2)
                go_ret
                exact ⟨by first | rfl | (simp; done) | (simp [*]; done), by repeat (first | exact Drawn0.refl _ | apply Drawn0.step)⟩
            · rw [if_neg c6] at H
              exact absurd H (by simp)
          · rw [if_neg c5] at H
            exact absurd H (by simp)
        · rw [if_neg c4] at H
          have c4b0 : decide (x5_1 < (l0.length : Int)) = false := decide_eq_false c4
          clear c4
          obtain rfl := Option.some.inj H
          go_wp2
          repeat (go_quiet (fail); try go_wp2)
          go_ret
          exact ⟨by first | rfl | (simp; done) | (simp [*]; done), by repeat (first | exact Drawn0.refl _ | apply Drawn0.step)⟩
  · rw [if_neg c3] at H
    have c3b0 : ((l0.length : Int) == (l1.length : Int)) = false := beq_eq_false_iff_ne.mpr c3
    have c3b1 : ((l0.length : Int) != (l1.length : Int)) = true := bne_iff_ne.mpr c3
    have c3b2 : (l0.length == l1.length) = false := by first | simpa using c3 | (simp at c3 ⊢; omega)
    obtain rfl := Option.some.inj H
    go_enter Tryd.func33, Tryd.ntmps33
    go_wp2
    repeat (go_quiet (fail); try go_wp2)
    go_ret
    exact ⟨by first | rfl | (simp; done) | (simp [*]; done), by repeat (first | exact Drawn0.refl _ | apply Drawn0.step)⟩
end Go.Proofs.YtekajandipdlhaaDoor.P
end
section
set_option linter.unusedVariables false
set_option linter.unusedSimpArgs false
namespace Go.Proofs.YtekajandipdlhaaDoor.Core
open Go Go.RowKit Go.Shelf Go.Proofs.YtekajandipdlhaaDoorW.PrintWords Go.Proofs.YtekajandipdlhaaDoorW.PrintLast Go.Proofs.YtekajandipdlhaaDoorW.PrintMore Go.Proofs.YtekajandipdlhaaDoor.P
attribute [local go_sem] Oper.semAt_some wide_fn wide_depth
/-- What holds of each valid graph. -/
structure GOk (G : GD) : Prop where
  n8 : G.tasks.length ≤ 8
  nl : G.needs.length = G.tasks.length
  nb : below1 G.tasks.length G.needs
  ol : G.order.length = G.tasks.length
  ob : ∀ i ∈ G.order, i < G.tasks.length
  bl : G.below.length = G.tasks.length
  bb : below1 G.tasks.length G.below
  al : G.above.length = G.tasks.length
  ab : below1 G.tasks.length G.above
theorem IsG.move {w w' : World} {b : Nat} {G : GD} (h : IsG w b G) (hb : Below w.heap.size w w') : IsG w' b G := by
  obtain ⟨A0, A1, A2, A3, A4, c0, c1, c2, c3, c4, hh, h0, h1, h2, h3, h4⟩ := h
  exact ⟨A0, A1, A2, A3, A4, c0, c1, c2, c3, c4, (hb.block b (cells_lt hh)).trans hh, ⟨h0.1, Kd.C_below h0.2 hb⟩, ⟨h1.1, Kd.C_below h1.2 hb⟩, ⟨h2.1, Kd.C_below h2.2 hb⟩, ⟨h3.1, Kd.C_below h3.2 hb⟩, ⟨h4.1, Kd.C_below h4.2 hb⟩⟩
theorem IsG.lt {w : World} {b : Nat} {G : GD} (h : IsG w b G) : b < w.heap.size := by
  obtain ⟨A0, A1, A2, A3, A4, c0, c1, c2, c3, c4, hh, _⟩ := h
  exact cells_lt hh
theorem IsG.tasks {w : World} {b : Nat} {G : GD} (h : IsG w b G) : ∃ A c, w.cell? ⟨b, 0, none⟩ = some (.slice A G.tasks.length c) ∧ G.tasks.length ≤ c ∧ k37.C w A G.tasks.length G.tasks := by
  obtain ⟨A0, A1, A2, A3, A4, c0, c1, c2, c3, c4, hh, h0, h1, h2, h3, h4⟩ := h
  exact ⟨A0, c0, by simp [World.cell?, hh], h0.1, h0.2⟩
theorem IsG.needs {w : World} {b : Nat} {G : GD} (h : IsG w b G) : ∃ A c, w.cell? ⟨b, 1, none⟩ = some (.slice A G.needs.length c) ∧ G.needs.length ≤ c ∧ (Kd.int .u16).C w A G.needs.length (up G.needs) := by
  obtain ⟨A0, A1, A2, A3, A4, c0, c1, c2, c3, c4, hh, h0, h1, h2, h3, h4⟩ := h
  exact ⟨A1, c1, by simp [World.cell?, hh], h1.1, h1.2⟩
theorem IsG.order {w : World} {b : Nat} {G : GD} (h : IsG w b G) : ∃ A c, w.cell? ⟨b, 2, none⟩ = some (.slice A G.order.length c) ∧ G.order.length ≤ c ∧ (Kd.int .i64).C w A G.order.length (up G.order) := by
  obtain ⟨A0, A1, A2, A3, A4, c0, c1, c2, c3, c4, hh, h0, h1, h2, h3, h4⟩ := h
  exact ⟨A2, c2, by simp [World.cell?, hh], h2.1, h2.2⟩
theorem IsG.below {w : World} {b : Nat} {G : GD} (h : IsG w b G) : ∃ A c, w.cell? ⟨b, 3, none⟩ = some (.slice A G.below.length c) ∧ G.below.length ≤ c ∧ (Kd.int .u16).C w A G.below.length (up G.below) := by
  obtain ⟨A0, A1, A2, A3, A4, c0, c1, c2, c3, c4, hh, h0, h1, h2, h3, h4⟩ := h
  exact ⟨A3, c3, by simp [World.cell?, hh], h3.1, h3.2⟩
theorem IsG.above {w : World} {b : Nat} {G : GD} (h : IsG w b G) : ∃ A c, w.cell? ⟨b, 4, none⟩ = some (.slice A G.above.length c) ∧ G.above.length ≤ c ∧ (Kd.int .u16).C w A G.above.length (up G.above) := by
  obtain ⟨A0, A1, A2, A3, A4, c0, c1, c2, c3, c4, hh, h0, h1, h2, h3, h4⟩ := h
  exact ⟨A4, c4, by simp [World.cell?, hh], h4.1, h4.2⟩
set_option maxHeartbeats 1000000 in
theorem size_calls (b : Nat) (G : GD) (w : World) (hg : IsG w b G) :
    Calls Tryd.prog 78 #[.pointer (some ⟨b, 0, none⟩)] w fun e w' => e = .returned (.int .i64 (G.tasks.length : Int)) ∧ w = w' := by
  obtain ⟨A, c, hc, _, _⟩ := hg.tasks
  go_enter Tryd.func78, Tryd.ntmps78
  go_wp2
  go_ret
  exact ⟨rfl, rfl⟩
/-- The tasks that can come next, among the first ones. -/
def readyTo (N : List Nat) (d : Nat) : Nat → Nat
  | 0 => 0
  | i + 1 => if d.testBit i = false ∧ sub (N.getD i 0) d = 0 then readyTo N d i ||| 2 ^ i else readyTo N d i
def GD.ready (G : GD) (d : Nat) : Nat := readyTo G.needs d G.needs.length
end Go.Proofs.YtekajandipdlhaaDoor.Core
end
section
set_option linter.unusedVariables false
set_option linter.unusedSimpArgs false
namespace Go.Proofs.YtekajandipdlhaaDoor.Core
open Go Go.RowKit Go.Shelf Go.Proofs.YtekajandipdlhaaDoorW.PrintWords Go.Proofs.YtekajandipdlhaaDoorW.PrintLast Go.Proofs.YtekajandipdlhaaDoorW.PrintMore Go.Proofs.YtekajandipdlhaaDoor.P
/-- How many of the first n numbers a set lacks. -/
def zb : Nat → Nat → Nat
  | 0, _ => 0
  | n + 1, p => zb n p + (if p.testBit n then 0 else 1)
theorem or_bit (p i j : Nat) : (p ||| 2 ^ i).testBit j = (p.testBit j || decide (i = j)) := by rw [Nat.testBit_or, Nat.testBit_two_pow]
theorem zb_le (p i : Nat) : ∀ n, zb n (p ||| 2 ^ i) ≤ zb n p
  | 0 => Nat.le_refl _
  | n + 1 => by
    have := zb_le p i n
    simp only [zb, or_bit]
    by_cases h : i = n
    · subst h; cases p.testBit i <;> simp <;> omega
    · cases p.testBit n <;> simp [h] <;> omega
theorem zb_lt {p i : Nat} (hp : p.testBit i = false) : ∀ {n : Nat}, i < n → zb n (p ||| 2 ^ i) < zb n p
  | 0, h => by omega
  | n + 1, h => by
    simp only [zb, or_bit]
    by_cases hi : i = n
    · subst hi
      have := zb_le p i i
      simp [hp]
      omega
    · have := zb_lt hp (n := n) (by omega)
      cases p.testBit n <;> simp [hi] <;> omega
theorem readyTo_bit (N : List Nat) (d i : Nat) : ∀ n, (readyTo N d n).testBit i = true → i < n ∧ d.testBit i = false ∧ sub (N.getD i 0) d = 0
  | 0 => by simp [readyTo]
  | n + 1 => by
    intro h
    unfold readyTo at h
    split at h
    · rename_i hc
      rw [or_bit] at h
      by_cases hi : n = i
      · subst hi; exact ⟨by omega, hc⟩
      · have := readyTo_bit N d i n (by simpa [hi] using h)
        exact ⟨by omega, this.2⟩
    · have := readyTo_bit N d i n h
      exact ⟨by omega, this.2⟩
theorem readyTo_bit' (N : List Nat) (d i : Nat) : ∀ n, i < n → d.testBit i = false → sub (N.getD i 0) d = 0 → (readyTo N d n).testBit i = true
  | 0 => by intro h; omega
  | n + 1 => by
    intro h h1 h2
    unfold readyTo
    by_cases hi : n = i
    · subst hi
      rw [if_pos ⟨h1, h2⟩, or_bit]
      simp
    · have := readyTo_bit' N d i n (by omega) h1 h2
      split
      · rw [or_bit, this]; rfl
      · exact this
theorem mem_ready {G : GD} {d i : Nat} (h8 : G.needs.length ≤ 8) : i ∈ elemsN (G.ready d) ↔ i < G.needs.length ∧ d.testBit i = false ∧ sub (G.needs.getD i 0) d = 0 := by
  rw [mem_elemsN]
  constructor
  · intro h
    exact readyTo_bit _ _ _ _ h.2
  · intro h
    exact ⟨by omega, readyTo_bit' _ _ _ _ h.1 h.2.1 h.2.2⟩
theorem elemsN_length (s : Nat) : (elemsN s).length ≤ 8 := by
  have := elems_length s
  rwa [elems, List.length_map] at this
end Go.Proofs.YtekajandipdlhaaDoor.Core
end
section
set_option linter.unusedVariables false
set_option linter.unusedSimpArgs false
namespace Go.Proofs.YtekajandipdlhaaDoor.Core
open Go Go.RowKit Go.Proofs.YtekajandipdlhaaDoorW.PrintWords Go.Proofs.YtekajandipdlhaaDoorW.PrintMore Go.Proofs.YtekajandipdlhaaDoor.P
/-- From some number on, f says r. -/
def Ev {α : Type} (f : Nat → Option α) (r : α) : Prop := ∃ K, ∀ k, K ≤ k → f k = some r
theorem Ev.const {α : Type} (r : α) : Ev (fun _ => some r) r := ⟨0, fun _ _ => rfl⟩
theorem Ev.bind {α β : Type} {f : Nat → Option α} {g : Nat → α → Option β} {a : α} {b : β} (h : Ev f a) (h2 : Ev (fun k => g k a) b) : Ev (fun k => (f k).bind (g k)) b := by
  obtain ⟨K, h⟩ := h
  obtain ⟨K2, h2⟩ := h2
  exact ⟨max K K2, fun k hk => by show (f k).bind (g k) = some b; rw [h k (by omega)]; exact h2 k (by omega)⟩
theorem Ev.succ {α : Type} {f : Nat → Option α} {r : α} (h : Ev (fun k => f (k + 1)) r) : Ev f r := by
  obtain ⟨K, h⟩ := h
  refine ⟨K + 1, fun k hk => ?_⟩
  obtain ⟨m, rfl⟩ : ∃ m, k = m + 1 := ⟨k - 1, by omega⟩
  exact h m (by omega)
theorem Ev.of {α : Type} {f g : Nat → Option α} {r : α} (h : Ev f r) (e : ∀ k, g k = f k) : Ev g r := by
  obtain ⟨K, h⟩ := h
  exact ⟨K, fun k hk => (e k).trans (h k hk)⟩
theorem Ev.both {α β : Type} {f : Nat → Option α} {g : Nat → Option β} {a : α} {b : β} (h : Ev f a) (h2 : Ev g b) : ∃ k, f k = some a ∧ g k = some b := by
  obtain ⟨K, h⟩ := h
  obtain ⟨K2, h2⟩ := h2
  exact ⟨max K K2, h _ (by omega), h2 _ (by omega)⟩
theorem Ev.one {α : Type} {f : Nat → Option α} {a : α} (h : Ev f a) : ∃ k, f k = some a := by
  obtain ⟨K, h⟩ := h
  exact ⟨K, h _ (by omega)⟩
theorem w64 {n : Int} (h0 : -9223372036854775808 ≤ n) (h1 : n ≤ 9223372036854775807) : wrap64 n = n := by unfold wrap64; omega
theorem rd_mid {pre r : List Int} {x : Int} {i : Int} (hi : i = (pre.length : Int)) : rd (pre ++ x :: r) i = x := by
  subst hi
  simp [rd]
theorem within_eq (x a b : Int) : impl_within.f x a b = some (decide (a ≤ x ∧ x ≤ b)) := by
  unfold impl_within.f
  by_cases h : x ≥ a
  · rw [if_pos h]; simp; omega
  · rw [if_neg h]; simp; omega
theorem setwith_eq {s k : Nat} (hs : s < 256) (hk : k < 8) : impl_set_with.f (s : Int) (k : Int) = some ((s ||| 2 ^ k : Nat) : Int) := by
  unfold impl_set_with.f
  rw [if_pos (by omega)]
  have : shl .u16 1 (k : Int) = IntKind.u16.wrap (2 ^ k) := by
    unfold shl
    rw [Int.toNat_natCast, Nat.min_eq_left (by show k ≤ 16; omega), Int.one_mul]
  rw [this, with_eq hs hk]
theorem sethas_eq {s k : Nat} (hs : s < 256) (hk : k < 8) : impl_set_has.f (s : Int) (k : Int) = some (s.testBit k) := by
  unfold impl_set_has.f
  rw [if_pos (by omega)]
  have : shr .u16 (s : Int) (k : Int) = (s : Int) / 2 ^ k := by
    unfold shr
    rw [Int.toNat_natCast, Nat.min_eq_left (by show k ≤ 16; omega)]
  rw [this, has_eq hs]
/-- The set of ascending numbers below n. -/
def setGo (n : Nat) : List Int → Nat → Int → Option Nat
  | [], s, _ => some s
  | x :: r, s, last => if last + 1 ≤ x ∧ x ≤ (n : Int) - 1 then setGo n r (s ||| 2 ^ x.toNat) x else none
def setD (n : Nat) (L : List Int) : Option Nat := setGo n L 0 (-1)
def setR (o : Option Nat) : Int × Bool := match o with | some s => ((s : Int), true) | none => (0, false)
theorem ev_setGo {n : Nat} (hn : n ≤ 8) (L : List Int) : ∀ (r pre : List Int) (s : Nat) (last : Int), L = pre ++ r → s < 2 ^ n → (pre.length : Int) ≤ last + 1 → last ≤ (n : Int) - 1 →
    Ev (fun k => impl_setOf.l0 k (n : Int) (s : Int) last L (L.length : Int) (pre.length : Int)) (setR (setGo n r s last))
  | [], pre, s, last, hL, hs, h1, h2 => by
    refine Ev.succ ((Ev.const _).of fun k => ?_)
    rw [List.append_nil] at hL
    subst hL
    simp only [impl_setOf.l0]
    rw [if_neg (by omega)]
    rfl
  | x :: r, pre, s, last, hL, hs, h1, h2 => by
    have hlen : L.length = pre.length + (r.length + 1) := by rw [hL]; simp
    have hw1 : wrap64 (last + 1) = last + 1 := w64 (by omega) (by omega)
    have hw2 : wrap64 ((n : Int) - 1) = (n : Int) - 1 := w64 (by omega) (by omega)
    have hrd : rd L (pre.length : Int) = x := by rw [hL]; exact rd_mid rfl
    refine Ev.succ ?_
    by_cases hx : last + 1 ≤ x ∧ x ≤ (n : Int) - 1
    · have hx0 : 0 ≤ x := by omega
      obtain ⟨m, rfl⟩ : ∃ m : Nat, x = (m : Int) := ⟨x.toNat, by omega⟩
      have hs8 : s < 256 := Nat.lt_of_lt_of_le hs (pow8 hn)
      have ih := ev_setGo hn L r (pre ++ [(m : Int)]) (s ||| 2 ^ m) m (by rw [hL]; simp) (Nat.or_lt_two_pow hs (Nat.pow_lt_pow_right (by omega) (by omega))) (by simp; omega) (by omega)
      have hg : setGo n ((m : Int) :: r) s last = setGo n r (s ||| 2 ^ m) m := by
        rw [setGo, if_pos hx, Int.toNat_natCast]
      rw [hg]
      refine ih.of fun k => ?_
      simp only [impl_setOf.l0]
      rw [if_pos (by omega), if_pos (by omega), if_pos (by omega), hrd, hw1, hw2, within_eq, decide_eq_true hx]
      simp only [Option.bind_some, if_true]
      rw [setwith_eq hs8 (by omega)]
      simp only [Option.bind_some, List.length_append, List.length_cons, List.length_nil]
      rw [w64 (by omega) (by omega)]
      rfl
    · have hg : setGo n (x :: r) s last = none := by rw [setGo, if_neg hx]
      rw [hg]
      refine (Ev.const _).of fun k => ?_
      simp only [impl_setOf.l0]
      rw [if_pos (by omega), if_pos (by omega), if_pos (by omega), hrd, hw1, hw2, within_eq, decide_eq_false hx]
      rfl
theorem ev_setOf {n : Nat} (hn : n ≤ 8) (L : List Int) : Ev (fun k => impl_setOf.f k L (n : Int)) (setR (setD n L)) :=
  ev_setGo hn L L [] 0 (-1) rfl (Nat.two_pow_pos n) (by simp) (by omega)
theorem setGo_lt {n : Nat} : ∀ {r : List Int} {s : Nat} {last : Int} {t : Nat}, setGo n r s last = some t → s < 2 ^ n → -1 ≤ last → t < 2 ^ n
  | [], s, last, t, h, hs, hl => by rw [setGo] at h; cases h; exact hs
  | x :: r, s, last, t, h, hs, hl => by
    rw [setGo] at h
    by_cases hx : last + 1 ≤ x ∧ x ≤ (n : Int) - 1
    · rw [if_pos hx] at h
      exact setGo_lt h (Nat.or_lt_two_pow hs (Nat.pow_lt_pow_right (by omega) (by omega))) (by omega)
    · rw [if_neg hx] at h; cases h
theorem setD_lt {n : Nat} {L : List Int} {t : Nat} (h : setD n L = some t) : t < 2 ^ n := setGo_lt h (Nat.two_pow_pos n) (by omega)
def taskOk (t : Tk) : Prop := (1 ≤ t.f0 ∧ t.f0 ≤ 20) ∧ (0 ≤ t.f2 ∧ t.f2 ≤ 2) ∧ (1 ≤ t.f3 ∧ t.f3 ≤ 4)
instance (t : Tk) : Decidable (taskOk t) := by unfold taskOk; infer_instance
def needsGo (n : Nat) : List Tk → Option (List Nat)
  | [] => some []
  | t :: r => match setD n t.f1 with
    | none => none
    | some s => if taskOk t then (needsGo n r).map (s :: ·) else none
def needsD (g : List Tk) : Option (List Nat) := if g.length ≤ 8 then needsGo g.length g else none
def needsR (o : Option (List Nat)) : List Int × Bool := match o with | some N => (up N, true) | none => ([], false)
theorem rdT_mid {pre r : List Tk} {x : Tk} {i : Int} (hi : i = (pre.length : Int)) : rd_T37 (pre ++ x :: r) i = x := by
  subst hi
  simp [rd_T37]
theorem ev_needsGo (G : List Tk) (h8 : G.length ≤ 8) : ∀ (r pre : List Tk) (N : List Nat), G = pre ++ r → N.length = pre.length →
    Ev (fun k => impl_needsOf.l0 k G (up N) G (G.length : Int) (pre.length : Int)) (needsR ((needsGo G.length r).map (N ++ ·)))
  | [], pre, N, hG, hN => by
    refine Ev.succ ((Ev.const _).of fun k => ?_)
    rw [List.append_nil] at hG
    subst hG
    simp only [impl_needsOf.l0]
    rw [if_neg (by omega)]
    simp [needsGo, needsR]
  | t :: r, pre, N, hG, hN => by
    have hlen : G.length = pre.length + (r.length + 1) := by rw [hG]; simp
    have hrd : rd_T37 G (pre.length : Int) = t := by rw [hG]; exact rdT_mid rfl
    have hs := ev_setOf h8 t.f1
    refine Ev.succ ?_
    cases he : setD G.length t.f1 with
    | none =>
      rw [he] at hs
      have hg : needsGo G.length (t :: r) = none := by rw [needsGo, he]
      rw [hg]
      obtain ⟨K, h2⟩ := hs
      dsimp only at h2
      refine ⟨K, fun k hk => ?_⟩
      show impl_needsOf.l0 (k + 1) _ _ _ _ _ = _
      simp only [impl_needsOf.l0]
      rw [if_pos (by omega), if_pos (by omega), if_pos (by omega), hrd, h2 k hk]
      rfl
    | some s =>
      rw [he] at hs
      by_cases hok : taskOk t
      · have hg : needsGo G.length (t :: r) = (needsGo G.length r).map (s :: ·) := by rw [needsGo, he]; simp [hok]
        have ih := ev_needsGo G h8 r (pre ++ [t]) (N ++ [s]) (by rw [hG]; simp) (by simp [hN])
        have e1 : ((needsGo G.length r).map (s :: ·)).map (N ++ ·) = (needsGo G.length r).map ((N ++ [s]) ++ ·) := by cases needsGo G.length r <;> simp
        rw [hg, e1]
        obtain ⟨K, h2⟩ := hs
        dsimp only at h2
        obtain ⟨K2, h3⟩ := ih
        dsimp only at h3
        refine ⟨max K K2, fun k hk => ?_⟩
        show impl_needsOf.l0 (k + 1) _ _ _ _ _ = _
        simp only [impl_needsOf.l0]
        rw [if_pos (by omega), if_pos (by omega), if_pos (by omega), hrd, h2 k (by omega)]
        simp only [setR, Option.bind_some, if_true]
        rw [within_eq, decide_eq_true hok.1]
        simp only [Option.bind_some, if_true]
        rw [within_eq, decide_eq_true hok.2.1]
        simp only [Option.bind_some, if_true]
        rw [within_eq, decide_eq_true hok.2.2]
        simp only [Option.bind_some, if_true]
        rw [if_pos (by rw [up_length]; omega), w64 (by omega) (by omega)]
        have := h3 k (by omega)
        simpa [up] using this
      · have hg : needsGo G.length (t :: r) = none := by rw [needsGo, he]; simp [hok]
        rw [hg]
        obtain ⟨K, h2⟩ := hs
        dsimp only at h2
        refine ⟨K, fun k hk => ?_⟩
        show impl_needsOf.l0 (k + 1) _ _ _ _ _ = _
        simp only [impl_needsOf.l0]
        rw [if_pos (by omega), if_pos (by omega), if_pos (by omega), hrd, h2 k (by omega)]
        simp only [setR, Option.bind_some, if_true]
        rw [within_eq, within_eq, within_eq]
        simp only [Option.bind_some]
        by_cases h1 : 1 ≤ t.f0 ∧ t.f0 ≤ 20
        · by_cases h2 : 0 ≤ t.f2 ∧ t.f2 ≤ 2
          · by_cases h3 : 1 ≤ t.f3 ∧ t.f3 ≤ 4
            · exact absurd ⟨h1, h2, h3⟩ hok
            · simp [h1, h2, h3, needsR]
          · simp [h1, h2, needsR]
        · simp [h1, needsR]
theorem ev_needsOf (G : List Tk) : Ev (fun k => impl_needsOf.f k G) (needsR (needsD G)) := by
  unfold needsD
  by_cases h : G.length ≤ 8
  · rw [if_pos h]
    have h2 := ev_needsGo G h G [] [] rfl rfl
    have e : (needsGo G.length G).map (([] : List Nat) ++ ·) = needsGo G.length G := by cases needsGo G.length G <;> simp
    rw [e] at h2
    refine h2.of fun k => ?_
    unfold impl_needsOf.f
    rw [if_neg (by omega), if_pos (by omega), if_pos (by omega)]
    rfl
  · rw [if_neg h]
    refine (Ev.const _).of fun k => ?_
    unfold impl_needsOf.f
    rw [if_pos (by omega)]
    rfl
theorem needsGo_spec {n : Nat} : ∀ {r : List Tk} {N : List Nat}, needsGo n r = some N → N.length = r.length ∧ below1 n N
  | [], N, h => by rw [needsGo] at h; cases h; exact ⟨rfl, fun x hx => by cases hx⟩
  | t :: r, N, h => by
    rw [needsGo] at h
    cases he : setD n t.f1 with
    | none => rw [he] at h; cases h
    | some s =>
      rw [he] at h
      by_cases hok : taskOk t
      · simp only [hok, if_true] at h
        cases hg : needsGo n r with
        | none => rw [hg] at h; cases h
        | some M =>
          rw [hg] at h
          cases h
          have := needsGo_spec hg
          refine ⟨by simp [this.1], fun x hx => ?_⟩
          rcases List.mem_cons.1 hx with rfl | hx
          · exact setD_lt he
          · exact this.2 x hx
      · simp [hok] at h
theorem needsD_spec {g : List Tk} {N : List Nat} (h : needsD g = some N) : g.length ≤ 8 ∧ N.length = g.length ∧ below1 g.length N := by
  unfold needsD at h
  by_cases h8 : g.length ≤ 8
  · rw [if_pos h8] at h
    exact ⟨h8, needsGo_spec h⟩
  · rw [if_neg h8] at h; cases h
end Go.Proofs.YtekajandipdlhaaDoor.Core
namespace Go.Proofs.YtekajandipdlhaaDoor.Core
open Go Go.RowKit Go.Shelf Go.Proofs.YtekajandipdlhaaDoorW.PrintWords Go.Proofs.YtekajandipdlhaaDoorW.PrintMore Go.Proofs.YtekajandipdlhaaDoor.P
attribute [local go_sem] Oper.semAt_some wide_fn wide_depth
def nextFrom (N : List Nat) (d : Nat) : Nat → Nat → Option Nat
  | _, 0 => none
  | i, m + 1 => if d.testBit i = false ∧ sub (N.getD i 0) d = 0 then some i else nextFrom N d (i + 1) m
def nextD (N : List Nat) (d : Nat) : Option Nat := nextFrom N d 0 N.length
def orderGo (N : List Nat) : Nat → List Nat → Nat → List Nat × Nat
  | 0, L, d => (L, d)
  | m + 1, L, d => match nextD N d with
    | some i => orderGo N m (L ++ [i]) (d ||| 2 ^ i)
    | none => orderGo N m L d
def orderD (N : List Nat) : List Nat × Nat := orderGo N N.length [] 0
theorem nextFrom_spec {N : List Nat} {d : Nat} : ∀ {m i j : Nat}, nextFrom N d i m = some j → i ≤ j ∧ j < i + m ∧ d.testBit j = false ∧ sub (N.getD j 0) d = 0
  | 0, i, j, h => by rw [nextFrom] at h; cases h
  | m + 1, i, j, h => by
    rw [nextFrom] at h
    by_cases hc : d.testBit i = false ∧ sub (N.getD i 0) d = 0
    · rw [if_pos hc] at h
      cases h
      exact ⟨by omega, by omega, hc⟩
    · rw [if_neg hc] at h
      have := nextFrom_spec h
      exact ⟨by omega, by omega, this.2.2⟩
theorem nextD_spec {N : List Nat} {d j : Nat} (h : nextD N d = some j) : j < N.length ∧ d.testBit j = false ∧ sub (N.getD j 0) d = 0 := by
  have := nextFrom_spec h
  exact ⟨by omega, this.2.2⟩
def ordR (x : List Nat × Nat) : List Int × Int := (up x.1, (x.2 : Int))
theorem order_step {N : List Nat} {n : Nat} (hN : N.length = n) (hn : n ≤ 8) (L : List Nat) (d i j k : Nat) (hd8 : d < 256) (hNi : N.getD i 0 < 256) (hi : i < n) (hj : j ≤ 8) (hL : L.length ≤ j) : impl_order.l1 (k + 1) (up N) (up L) (d : Int) (n : Int) (j : Int) (up N) (n : Int) (i : Int) = (if d.testBit i = true then impl_order.l1 k (up N) (up L) (d : Int) (n : Int) (j : Int) (up N) (n : Int) ((i + 1 : Nat) : Int) else if ((sub (N.getD i 0) d : Nat) : Int) = 0 then impl_order.l0 k (up N) (up (L ++ [i])) ((d ||| 2 ^ i : Nat) : Int) (n : Int) ((j + 1 : Nat) : Int) else impl_order.l1 k (up N) (up L) (d : Int) (n : Int) (j : Int) (up N) (n : Int) ((i + 1 : Nat) : Int)) := by
  have h8 : up (L ++ [i]) = up L ++ [(i : Int)] := by simp [up]
  have hwj : ((j + 1 : Nat) : Int) = wrap64 ((j : Int) + 1) := by rw [w64 (by omega) (by omega)]; omega
  have hw : ((i + 1 : Nat) : Int) = wrap64 ((i : Int) + 1) := by rw [w64 (by omega) (by omega)]; omega
  rw [h8, hwj, hw, ← andNot_eq hNi hd8, impl_order.l1, if_pos (by omega), if_pos (by omega), if_pos (by rw [up_length, hN]; omega), sethas_eq hd8 (by omega), Option.bind_some, rd_up (L := N) (i := i) rfl]
  congr 1
  congr 1
  rw [if_pos (by rw [up_length]; omega), setwith_eq hd8 (by omega), Option.bind_some]
theorem ev_next {N : List Nat} {n : Nat} (hN : N.length = n) (hn : n ≤ 8) (hb : below1 n N) (L : List Nat) (d : Nat) (hd : d < 2 ^ n) (j : Nat) (hL : L.length ≤ j) (hj : j ≤ 8) (R : List Nat → Nat → List Int × Int)
    (ho : ∀ (L' : List Nat) (d' : Nat), d' < 2 ^ n → L'.length ≤ j + 1 → Ev (fun k => impl_order.l0 k (up N) (up L') (d' : Int) (n : Int) ((j + 1 : Nat) : Int)) (R L' d')) (m : Nat) : ∀ i, i + m = n →
    Ev (fun k => impl_order.l1 k (up N) (up L) (d : Int) (n : Int) (j : Int) (up N) (n : Int) (i : Int)) (match nextFrom N d i m with | some i => R (L ++ [i]) (d ||| 2 ^ i) | none => R L d) := by
  induction m with
  | zero =>
    intro i hi
    have hwj : wrap64 ((j : Int) + 1) = ((j + 1 : Nat) : Int) := by rw [w64 (by omega) (by omega)]; omega
    have hg : nextFrom N d i 0 = none := by rw [nextFrom]
    have h0 := ho L d hd (by omega)
    rw [hg]
    refine Ev.succ (h0.of fun k => ?_)
    rw [impl_order.l1, if_neg (by omega), hwj]
  | succ m ih =>
    intro i hi
    have h256 := pow8 hn
    have hd8 : d < 256 := Nat.lt_of_lt_of_le hd h256
    have hNi : N.getD i 0 < 256 := Nat.lt_of_lt_of_le (getD_lt hb i) h256
    have hstep := fun k => order_step hN hn L d i j k hd8 hNi (by omega) hj hL
    have ih := ih (i + 1) (by omega)
    refine Ev.succ ?_
    cases hbit : d.testBit i with
    | true =>
      have hg : nextFrom N d i (m + 1) = nextFrom N d (i + 1) m := by rw [nextFrom, if_neg (by simp [hbit])]
      rw [hg]
      refine ih.of fun k => ?_
      rw [hstep, if_pos hbit]
    | false =>
      by_cases hz : sub (N.getD i 0) d = 0
      · have hg : nextFrom N d i (m + 1) = some i := by rw [nextFrom, if_pos ⟨hbit, hz⟩]
        rw [hg]
        have h0 := ho (L ++ [i]) (d ||| 2 ^ i) (Nat.or_lt_two_pow hd (Nat.pow_lt_pow_right (by omega) (by omega))) (by simp; omega)
        refine h0.of fun k => ?_
        rw [hstep, if_neg (by simp [hbit]), if_pos (by omega)]
      · have hg : nextFrom N d i (m + 1) = nextFrom N d (i + 1) m := by rw [nextFrom, if_neg (fun h => hz h.2)]
        rw [hg]
        refine ih.of fun k => ?_
        rw [hstep, if_neg (by simp [hbit]), if_neg (by omega)]
theorem ev_orderGo {N : List Nat} {n : Nat} (hN : N.length = n) (hn : n ≤ 8) (hb : below1 n N) : ∀ (m j : Nat) (L : List Nat) (d : Nat), j + m = n → d < 2 ^ n → L.length ≤ j →
    Ev (fun k => impl_order.l0 k (up N) (up L) (d : Int) (n : Int) (j : Int)) (ordR (orderGo N m L d))
  | 0, j, L, d, hj, hd, hL => by
    refine Ev.succ ((Ev.const _).of fun k => ?_)
    simp only [impl_order.l0]
    rw [if_neg (by omega)]
    rfl
  | m + 1, j, L, d, hj, hd, hL => by
    refine Ev.succ ?_
    have h := ev_next hN hn hb L d hd j hL (by omega) (fun L' d' => ordR (orderGo N m L' d')) (fun L' d' hd' hL' => ev_orderGo hN hn hb m (j + 1) L' d' (by omega) hd' hL') N.length 0 (by omega)
    have e : (match nextFrom N d 0 N.length with | some i => ordR (orderGo N m (L ++ [i]) (d ||| 2 ^ i)) | none => ordR (orderGo N m L d)) = ordR (orderGo N (m + 1) L d) := by
      rw [orderGo, nextD]
      cases he : nextFrom N d 0 N.length <;> rfl
    rw [← e]
    refine h.of fun k => ?_
    simp only [impl_order.l0]
    rw [if_pos (by omega), up_length, hN]
    rfl
theorem ev_order {N : List Nat} (hn : N.length ≤ 8) (hb : below1 N.length N) : Ev (fun k => impl_order.f k (up N)) (ordR (orderD N)) := by
  have h := ev_orderGo rfl hn hb N.length 0 [] 0 (by omega) (Nat.two_pow_pos _) (by simp)
  refine h.of fun k => ?_
  unfold impl_order.f
  rw [up_length]
  rfl
/-- What an order (as far as it goes) and its set have. -/
structure OrdOk (N : List Nat) (L : List Nat) (d : Nat) : Prop where
  lt : ∀ i ∈ L, i < N.length
  set : ∀ i, d.testBit i = true ↔ i ∈ L
  dlt : d < 2 ^ N.length
  nodup : L.Nodup
  len : L.length + zb N.length d = N.length
  needs : ∀ pre i suf, L = pre ++ i :: suf → ∀ k, (N.getD i 0).testBit k = true → k ∈ pre
theorem zb_step {p i : Nat} (hp : p.testBit i = false) : ∀ {n : Nat}, i < n → zb n (p ||| 2 ^ i) + 1 = zb n p
  | 0, h => by omega
  | n + 1, h => by
    simp only [zb, or_bit]
    by_cases hi : i = n
    · subst hi
      have : ∀ m, m ≤ i → zb m (p ||| 2 ^ i) = zb m p := by
        intro m
        induction m with
        | zero => intro _; rfl
        | succ m ih =>
          intro hm
          simp only [zb, or_bit, ih (by omega)]
          have : i ≠ m := by omega
          simp [this]
      rw [this i (Nat.le_refl _)]
      simp [hp]
    · have := zb_step hp (n := n) (by omega)
      cases p.testBit n <;> simp [hi] <;> omega
theorem zb_zero : ∀ n, zb n 0 = n
  | 0 => rfl
  | n + 1 => by simp [zb, zb_zero n]
theorem zb_full (n : Nat) : ∀ m, m ≤ n → zb m (2 ^ n - 1) = 0
  | 0, _ => rfl
  | m + 1, h => by
    simp only [zb, zb_full n m (by omega), Nat.testBit_two_pow_sub_one]
    simp; omega
theorem OrdOk.step {N L : List Nat} {d i : Nat} (hn : N.length ≤ 8) (hb : below1 N.length N) (h : OrdOk N L d) (hi : i < N.length) (h1 : d.testBit i = false) (h2 : sub (N.getD i 0) d = 0) : OrdOk N (L ++ [i]) (d ||| 2 ^ i) where
  lt := by
    intro k hk
    rcases List.mem_append.1 hk with hk | hk
    · exact h.lt k hk
    · rw [List.mem_singleton.1 hk]; exact hi
  set := by
    intro k
    rw [or_bit, List.mem_append, List.mem_singleton, Bool.or_eq_true, h.set, decide_eq_true_eq]
    constructor
    · rintro (h | h)
      · exact .inl h
      · exact .inr h.symm
    · rintro (h | h)
      · exact .inl h
      · exact .inr h.symm
  dlt := Nat.or_lt_two_pow h.dlt (Nat.pow_lt_pow_right (by omega) hi)
  nodup := by
    rw [List.nodup_append]
    refine ⟨h.nodup, by simp, fun a ha b hb => ?_⟩
    rw [List.mem_singleton.1 hb]
    rintro rfl
    have := (h.set a).2 ha
    rw [this] at h1
    cases h1
  len := by
    have := zb_step h1 hi
    have := h.len
    simp
    omega
  needs := by
    intro pre k suf he m hm
    rcases List.eq_nil_or_concat suf with rfl | ⟨s2, x, rfl⟩
    · have h3 : pre = L ∧ k = i := by
        have := List.append_inj' he (by simp)
        simpa [eq_comm] using this
      obtain ⟨rfl, rfl⟩ := h3
      have hd8 : d < 256 := Nat.lt_of_lt_of_le h.dlt (pow8 hn)
      have h4 := sub_testBit (i := m) (Nat.lt_of_lt_of_le (getD_lt hb k) (pow8 hn)) hd8
      rw [h2, hm] at h4
      simp at h4
      exact (h.set m).1 h4
    · have h3 : L = pre ++ k :: s2 := by
        have e2 : L ++ [i] = (pre ++ k :: s2) ++ [x] := by rw [he]; simp
        exact (List.append_inj' e2 (by simp)).1
      exact h.needs pre k s2 h3 m hm
theorem orderGo_ok {N : List Nat} (hn : N.length ≤ 8) (hb : below1 N.length N) : ∀ {m : Nat} {L : List Nat} {d : Nat}, OrdOk N L d → OrdOk N (orderGo N m L d).1 (orderGo N m L d).2
  | 0, L, d, h => h
  | m + 1, L, d, h => by
    rw [orderGo]
    cases he : nextD N d with
    | none => exact orderGo_ok hn hb h
    | some i =>
      have := nextD_spec he
      exact orderGo_ok hn hb (h.step hn hb this.1 this.2.1 this.2.2)
theorem orderD_ok {N : List Nat} (hn : N.length ≤ 8) (hb : below1 N.length N) : OrdOk N (orderD N).1 (orderD N).2 :=
  orderGo_ok hn hb ⟨by simp, by simp, Nat.two_pow_pos _, by simp, by rw [zb_zero]; simp, by simp⟩
/-- What is known of a valid graph. -/
def mkG (g : List Tk) (N : List Nat) : GD := ⟨g, N, (orderD N).1, (reach N (orderD N).1 g.length).1, (reach N (orderD N).1 g.length).2⟩
def graphD (g : List Tk) : Option GD := match needsD g with
  | none => none
  | some N => if (orderD N).2 = 2 ^ g.length - 1 then some (mkG g N) else none
theorem graphD_spec {g : List Tk} {G : GD} (h : graphD g = some G) : ∃ N, needsD g = some N ∧ (orderD N).2 = 2 ^ g.length - 1 ∧ G = mkG g N := by
  unfold graphD at h
  cases he : needsD g with
  | none => rw [he] at h; cases h
  | some N =>
    rw [he] at h
    simp only [] at h
    by_cases hf : (orderD N).2 = 2 ^ g.length - 1
    · rw [if_pos hf] at h
      cases h
      exact ⟨N, rfl, hf, rfl⟩
    · rw [if_neg hf] at h; cases h
theorem graphD_tasks {g : List Tk} {G : GD} (h : graphD g = some G) : G.tasks = g := by
  obtain ⟨N, _, _, rfl⟩ := graphD_spec h
  rfl
theorem graphD_ok {g : List Tk} {G : GD} (h : graphD g = some G) : GOk G := by
  obtain ⟨N, h1, h2, rfl⟩ := graphD_spec h
  obtain ⟨h8, hl, hb⟩ := needsD_spec h1
  have hb' : below1 N.length N := by rw [hl]; exact hb
  have ok := orderD_ok (by omega) hb'
  have hob : ∀ i ∈ (orderD N).1, i < g.length := fun i hi => by have := ok.lt i hi; omega
  have hr := reach_below hb hob
  refine ⟨h8, hl, hb, ?_, hob, reach_len1 _ _ _, hr.1, reach_len2 _ _ _, hr.2⟩
  have := ok.len
  rw [h2, hl, zb_full _ _ (Nat.le_refl _)] at this
  exact this
set_option maxRecDepth 100000 in
set_option maxHeartbeats 4000000 in
theorem graphOf_no2 (k : Nat) (A0 : Option Addr) (c0 : Nat) (l0 : List Tk) (N O : List Nat) (d : Nat) (w : World) (hr0 : k37.C w A0 l0.length l0) (hc0 : l0.length ≤ c0) (h8 : l0.length ≤ 8) (hne : d ≠ 2 ^ l0.length - 1)
    (h : impl_needsOf.f k l0 = some (up N, true)) (ho : impl_order.f k (up N) = some (up O, (d : Int))) :
    Calls Tryd.prog 60 #[.slice A0 l0.length c0] w fun e w' => e = .returned (.tuple #[.pointer none, .bool false]) ∧ Below w.heap.size w w' := by
  have h' := Lib.hid h
  have ho' := Lib.hid ho
  clear h ho
  have hev := everything_calls l0.length h8
  generalize 2 ^ l0.length - 1 = full at hne hev
  generalize hfi : ((full : Nat) : Int) = fi at hev
  generalize hdi : ((d : Nat) : Int) = di at ho'
  have hne1 : (di != fi) = true := by simp; omega
  clear hfi hdi
  refine calls_marks Tryd.func60 rfl ?_
  simp only [Tryd.ntmps60, List.size_toArray, List.length_cons, List.length_nil, Nat.reduceAdd, Nat.reduceSub, Array.replicate_succ, Array.replicate_zero, List.push_toArray, List.append_toArray, List.nil_append, List.cons_append]
  go_wp2_with (first | (go_at_call 98; refine (impl_needsOf.calls k A0 c0 l0 _ _ _ hr0 hc0 h'.out).mono ?_; rintro e w1 ⟨v0, rfl, hR1, hB1⟩; obtain ⟨A1, c1, rfl, hl1', hC1⟩ := Kd.R_reads hR1; have hz1 := Lib.hid (up_length N)) | (go_at_call 99; refine (impl_order.calls k _ _ (up N) _ _ _ hC1 hl1' ho'.out).mono ?_; rintro e w2 ⟨v1, rfl, hR2, hB2⟩) | (go_at_call 100; refine (hev _).mono ?_; rintro e w3 ⟨rfl, rfl⟩))
  refine leave_ret (Marks.nil w.heap.size w.heap.size _) (fun W => results_tmp2 rfl _ _ _) ?_
  intro W' ht
  exact ⟨rfl, ht.below (below_step hB1 hB2) (Nat.le_refl _) (Nat.le_refl _)⟩
/-- What graphOf hands back. -/
def graphPost (A0 : Option Addr) (g : List Tk) (w : World) (e : Ending) (w' : World) : Prop := match graphD g with
  | none => e = .returned (.tuple #[.pointer none, .bool false]) ∧ Below w.heap.size w w'
  | some G => ∃ (b : Nat) (v : Value), e = .returned (.tuple #[.pointer (some ⟨b, 0, none⟩), .bool true]) ∧ Below w.heap.size w w' ∧ w.heap.size ≤ b ∧ IsG w' b G ∧ w'.cell? ⟨b, 2, none⟩ = some v ∧ (Kd.int .i64).R 3 w' w.heap.size (fun _ => True) v (up G.order) ∧ (∀ W2 : World, k37.C W2 A0 g.length g → (∀ k, w.heap.size ≤ k → k < w'.heap.size → W2.heap[k]? = w'.heap[k]?) → IsG W2 b G)
theorem graphOf_calls (A0 : Option Addr) (c0 : Nat) (l0 : List Tk) (w : World) (hT : Tab w) (hr0 : k37.C w A0 l0.length l0) (hc0 : l0.length ≤ c0) :
    Calls Tryd.prog 60 #[.slice A0 l0.length c0] w (graphPost A0 l0 w) := by
  have hn := ev_needsOf l0
  cases he : needsD l0 with
  | none =>
    rw [he] at hn
    obtain ⟨k, hk⟩ := hn.one
    refine (graphOf_no1 k A0 c0 l0 [] w hr0 hc0 hk).mono ?_
    intro e w' h
    have hg : graphD l0 = none := by unfold graphD; rw [he]
    unfold graphPost
    rw [hg]
    exact h
  | some N =>
    rw [he] at hn
    obtain ⟨h8, hl, hb⟩ := needsD_spec he
    have hb' : below1 N.length N := by rw [hl]; exact hb
    have ho := ev_order (N := N) (by omega) hb'
    have ok := orderD_ok (N := N) (by omega) hb'
    obtain ⟨k, h1, h2⟩ := hn.both ho
    by_cases hf : (orderD N).2 = 2 ^ l0.length - 1
    · have hg : graphD l0 = some (mkG l0 N) := by unfold graphD; rw [he]; simp only []; rw [if_pos hf]
      have h2' : impl_order.f k (up N) = some (up (orderD N).1, ((2 ^ l0.length - 1 : Nat) : Int)) := by rw [← hf]; exact h2
      have gok := graphD_ok hg
      refine (graphOf_yes k A0 c0 l0 N (orderD N).1 w hT hr0 hc0 h8 hl hb gok.ob (by have := gok.ol; have := gok.n8; show (orderD N).1.length ≤ 8; simp only [mkG] at *; omega) h1 h2').mono ?_
      intro e w' h
      unfold graphPost
      rw [hg]
      exact h
    · have hg : graphD l0 = none := by unfold graphD; rw [he]; simp only []; rw [if_neg hf]
      refine (graphOf_no2 k A0 c0 l0 N (orderD N).1 (orderD N).2 w hr0 hc0 h8 hf h1 h2).mono ?_
      intro e w' h
      unfold graphPost
      rw [hg]
      exact h
end Go.Proofs.YtekajandipdlhaaDoor.Core
end
section
set_option linter.unusedVariables false
set_option linter.unusedSimpArgs false
namespace Go.Proofs.YtekajandipdlhaaDoor.Core
open Go Go.RowKit Go.Proofs.YtekajandipdlhaaDoorW.PrintWords Go.Proofs.YtekajandipdlhaaDoorW.PrintMore Go.Proofs.YtekajandipdlhaaDoor.P
theorem Ev.pos {α : Type} {c : Prop} [Decidable c] {f g : Nat → Option α} {r : α} (hc : c) (h : Ev f r) : Ev (fun k => if c then f k else g k) r := h.of fun k => if_pos hc
theorem Ev.neg {α : Type} {c : Prop} [Decidable c] {f g : Nat → Option α} {r : α} (hc : ¬ c) (h : Ev g r) : Ev (fun k => if c then f k else g k) r := h.of fun k => if_neg hc
theorem Ev.sb {α β : Type} {g : Nat → α → Option β} {a : α} {b : β} (h : Ev (fun k => g k a) b) : Ev (fun k => (some a).bind (g k)) b := h.of fun k => rfl
theorem Ev.conv {α : Type} {f : Nat → Option α} {a b : α} (h : Ev f a) (e : a = b) : Ev f b := e ▸ h
def EvP {α : Type} (f : Nat → Option α) (Q : α → Prop) : Prop := ∃ r, Ev f r ∧ Q r
theorem EvP.ret {α : Type} {Q : α → Prop} {a : α} (h : Q a) : EvP (fun _ => some a) Q := ⟨a, Ev.const a, h⟩
theorem EvP.bind {α β : Type} {f : Nat → Option α} {g : Nat → α → Option β} {Q : α → Prop} {R : β → Prop} (h : EvP f Q) (h2 : ∀ a, Q a → EvP (fun k => g k a) R) : EvP (fun k => (f k).bind (g k)) R := by
  obtain ⟨a, h, q⟩ := h
  obtain ⟨b, h2, q2⟩ := h2 a q
  exact ⟨b, h.bind h2, q2⟩
theorem EvP.sb {α β : Type} {g : Nat → α → Option β} {a : α} {R : β → Prop} (h : EvP (fun k => g k a) R) : EvP (fun k => (some a).bind (g k)) R := h
theorem EvP.pos {α : Type} {c : Prop} [Decidable c] {f g : Nat → Option α} {Q : α → Prop} (hc : c) (h : EvP f Q) : EvP (fun k => if c then f k else g k) Q := by
  obtain ⟨r, h, q⟩ := h
  exact ⟨r, h.pos hc, q⟩
theorem EvP.neg {α : Type} {c : Prop} [Decidable c] {f g : Nat → Option α} {Q : α → Prop} (hc : ¬ c) (h : EvP g Q) : EvP (fun k => if c then f k else g k) Q := by
  obtain ⟨r, h, q⟩ := h
  exact ⟨r, h.neg hc, q⟩
theorem EvP.ite {α : Type} {c : Prop} [Decidable c] {f g : Nat → Option α} {Q : α → Prop} (h1 : c → EvP f Q) (h2 : ¬ c → EvP g Q) : EvP (fun k => if c then f k else g k) Q :=
  if hc : c then EvP.pos hc (h1 hc) else EvP.neg hc (h2 hc)
theorem EvP.succ {α : Type} {f : Nat → Option α} {Q : α → Prop} (h : EvP (fun k => f (k + 1)) Q) : EvP f Q := by
  obtain ⟨r, h, q⟩ := h
  exact ⟨r, h.succ, q⟩
theorem EvP.of {α : Type} {f g : Nat → Option α} {Q : α → Prop} (h : EvP f Q) (e : ∀ k, g k = f k) : EvP g Q := by
  obtain ⟨r, h, q⟩ := h
  exact ⟨r, h.of e, q⟩
theorem EvP.mono {α : Type} {f : Nat → Option α} {Q R : α → Prop} (h : EvP f Q) (hq : ∀ a, Q a → R a) : EvP f R := by
  obtain ⟨r, h, q⟩ := h
  exact ⟨r, h, hq r q⟩
theorem Ev.p {α : Type} {f : Nat → Option α} {r : α} {Q : α → Prop} (h : Ev f r) (q : Q r) : EvP f Q := ⟨r, h, q⟩
theorem EvP.ev {α : Type} {f : Nat → Option α} {r : α} (h : EvP f (fun x => x = r)) : Ev f r := by
  obtain ⟨r, h, rfl⟩ := h
  exact h
theorem Ev.bindP {α β : Type} {f : Nat → Option α} {g : Nat → α → Option β} {a : α} {R : β → Prop} (h : Ev f a) (h2 : EvP (fun k => g k a) R) : EvP (fun k => (f k).bind (g k)) R := by
  obtain ⟨b, h2, q2⟩ := h2
  exact ⟨b, h.bind h2, q2⟩
theorem i64_xor_nat (a b : Nat) (ha : a < 4611686018427387904) (hb : b < 4611686018427387904) : bits .xor .i64 (a : Int) (b : Int) = ((a ^^^ b : Nat) : Int) := by
  have hx : a ^^^ b < 2 ^ 62 := Nat.xor_lt_two_pow (by omega) (by omega)
  have h1 : (BitVec.ofInt 64 (a : Int)).toNat = a := by
    rw [BitVec.ofInt_natCast, BitVec.toNat_ofNat]; exact Nat.mod_eq_of_lt (by omega)
  have h2 : (BitVec.ofInt 64 (b : Int)).toNat = b := by
    rw [BitVec.ofInt_natCast, BitVec.toNat_ofNat]; exact Nat.mod_eq_of_lt (by omega)
  show IntKind.i64.wrap ((BitVec.ofInt 64 (a : Int) ^^^ BitVec.ofInt 64 (b : Int)).toNat : Int) = _
  rw [BitVec.toNat_xor, h1, h2, IntKind.wrap_i64]
  omega
theorem i64_xor (a b : Int) (ha : 0 ≤ a) (ha2 : a < 4294967296) (hb : 0 ≤ b) (hb2 : b < 4294967296) : 0 ≤ bits .xor .i64 a b ∧ bits .xor .i64 a b < 4294967296 := by
  obtain ⟨m, rfl⟩ := Int.eq_ofNat_of_zero_le ha
  obtain ⟨n, rfl⟩ := Int.eq_ofNat_of_zero_le hb
  rw [i64_xor_nat m n (by omega) (by omega)]
  have hx : m ^^^ n < 2 ^ 32 := Nat.xor_lt_two_pow (by omega) (by omega)
  omega
theorem tmod_lt {a n : Int} (ha : 0 ≤ a) (hn : 0 < n) : 0 ≤ Int.tmod a n ∧ Int.tmod a n < n := by
  rw [Int.tmod_eq_emod_of_nonneg ha]
  exact ⟨Int.emod_nonneg _ (by omega), Int.emod_lt_of_pos _ hn⟩
theorem tdiv_le {a n : Int} (ha : 0 ≤ a) (hn : 0 < n) : 0 ≤ Int.tdiv a n ∧ Int.tdiv a n ≤ a := by
  rw [Int.tdiv_eq_ediv_of_nonneg ha]
  exact ⟨Int.ediv_nonneg ha (by omega), Int.ediv_le_self _ ha⟩
end Go.Proofs.YtekajandipdlhaaDoor.Core
end
section
set_option linter.unusedVariables false
set_option linter.unusedSimpArgs false
namespace Go.Proofs.YtekajandipdlhaaDoor.Core
open Go Go.RowKit Go.Shelf Go.Proofs.YtekajandipdlhaaDoorW.PrintWords Go.Proofs.YtekajandipdlhaaDoorW.PrintLast Go.Proofs.YtekajandipdlhaaDoorW.PrintMore Go.Proofs.YtekajandipdlhaaDoor.P
attribute [local go_sem] Oper.semAt_some wide_fn wide_depth
/-- The answer that some number of rounds gives. -/
noncomputable def lim {α : Type} (f : Nat → Option α) : Option α := open Classical in if h : ∃ k r, f k = some r then some h.choose_spec.choose else none
theorem lim_some {α : Type} {f : Nat → Option α} {r : α} (h : lim f = some r) : ∃ k, f k = some r := by
  unfold lim at h
  by_cases hh : ∃ k r, f k = some r
  · rw [dif_pos hh] at h
    cases h
    exact ⟨_, hh.choose_spec.choose_spec⟩
  · rw [dif_neg hh] at h; cases h
theorem lim_of {α : Type} {f : Nat → Option α} (hm : ∀ k, LeO (f k) (f (k + 1))) {k : Nat} {r : α} (h : f k = some r) : lim f = some r := by
  have hh : ∃ k r, f k = some r := ⟨k, r, h⟩
  have h2 := hh.choose_spec.choose_spec
  unfold lim
  rw [dif_pos hh]
  rcases Nat.le_total k hh.choose with hle | hle
  · have := at_rounds hm hle h
    rw [h2] at this; exact this
  · have := at_rounds hm hle h2
    rw [h] at this; exact this.symm
theorem mkQ (w : World) (base : Nat) (ok : Nat → Prop) (x : Tk) {v1 : Value} (g1 : (Kd.int .i64).Q 3 w base ok v1 x.f1) : k37.M w base ok x [.int .i64 x.f0, v1, .int .i64 x.f2, .int .i64 x.f3] :=
  ⟨[.int .i64 x.f0], [v1, .int .i64 x.f2, .int .i64 x.f3], rfl, rfl, ⟨[v1], [.int .i64 x.f2, .int .i64 x.f3], rfl, ⟨v1, rfl, g1⟩, ⟨[.int .i64 x.f2], [.int .i64 x.f3], rfl, rfl, rfl⟩⟩⟩
theorem S_put0 {W : World} {base gb n cap : Nat} {ok : Nat → Prop} {xs : List Tk} (h : Kd.S k37 37 W base ok (.slice (some ⟨gb, 0, none⟩) n cap) xs) (i : Int) (h0 : 0 ≤ i) (h1 : i < n) :
    (∃ u, W.cell? ⟨gb, i.toNat * 4, none⟩ = some (.int .i64 u)) ∧ W.frozen? ⟨gb, i.toNat * 4, none⟩ = false ∧ ∀ t : Int,
      Kd.S k37 37 (W.setCell ⟨gb, i.toNat * 4, none⟩ (.int .i64 t)) base ok (.slice (some ⟨gb, 0, none⟩) n cap) (xs.set i.toNat { rd_T37 xs i with f0 := t }) ∧ W.grownBy (W.setCell ⟨gb, i.toNat * 4, none⟩ (.int .i64 t)) (some gb) := by
  obtain ⟨oki, c, hcl, hM, hcc, hfr, hoki, hH⟩ := Kd.S_elem (Kd.S_mono (ok' := fun k => ok k ∧ ¬ False) h (fun k hk => ⟨hk, id⟩)) z37 i h0 h1
  obtain ⟨v1, rfl, g1⟩ := k37_openM hM
  refine ⟨⟨_, hcc 0 _ rfl⟩, hfr 0, fun t => ?_⟩
  exact Kd.S_seg (okg := fun _ => False) hH h0 h1 (seg := [.int .i64 t]) (j := 0) (show 0 + 1 ≤ 4 from by decide) (x' := { rd_T37 xs i with f0 := t }) (mkQ _ _ _ { rd_T37 xs i with f0 := t } g1) (fun k hk => .inl hk) (fun k hk => hk.elim)
theorem S_put2 {W : World} {base gb n cap : Nat} {ok : Nat → Prop} {xs : List Tk} (h : Kd.S k37 37 W base ok (.slice (some ⟨gb, 0, none⟩) n cap) xs) (i : Int) (h0 : 0 ≤ i) (h1 : i < n) :
    (∃ u, W.cell? ⟨gb, i.toNat * 4 + 2, none⟩ = some (.int .i64 u)) ∧ W.frozen? ⟨gb, i.toNat * 4 + 2, none⟩ = false ∧ ∀ t : Int,
      Kd.S k37 37 (W.setCell ⟨gb, i.toNat * 4 + 2, none⟩ (.int .i64 t)) base ok (.slice (some ⟨gb, 0, none⟩) n cap) (xs.set i.toNat { rd_T37 xs i with f2 := t }) ∧ W.grownBy (W.setCell ⟨gb, i.toNat * 4 + 2, none⟩ (.int .i64 t)) (some gb) := by
  obtain ⟨oki, c, hcl, hM, hcc, hfr, hoki, hH⟩ := Kd.S_elem (Kd.S_mono (ok' := fun k => ok k ∧ ¬ False) h (fun k hk => ⟨hk, id⟩)) z37 i h0 h1
  obtain ⟨v1, rfl, g1⟩ := k37_openM hM
  refine ⟨⟨_, hcc 2 _ rfl⟩, hfr 2, fun t => ?_⟩
  exact Kd.S_seg (okg := fun _ => False) hH h0 h1 (seg := [.int .i64 t]) (j := 2) (show 2 + 1 ≤ 4 from by decide) (x' := { rd_T37 xs i with f2 := t }) (mkQ _ _ _ { rd_T37 xs i with f2 := t } g1) (fun k hk => .inl hk) (fun k hk => hk.elim)
theorem S_put3 {W : World} {base gb n cap : Nat} {ok : Nat → Prop} {xs : List Tk} (h : Kd.S k37 37 W base ok (.slice (some ⟨gb, 0, none⟩) n cap) xs) (i : Int) (h0 : 0 ≤ i) (h1 : i < n) :
    (∃ u, W.cell? ⟨gb, i.toNat * 4 + 3, none⟩ = some (.int .i64 u)) ∧ W.frozen? ⟨gb, i.toNat * 4 + 3, none⟩ = false ∧ ∀ t : Int,
      Kd.S k37 37 (W.setCell ⟨gb, i.toNat * 4 + 3, none⟩ (.int .i64 t)) base ok (.slice (some ⟨gb, 0, none⟩) n cap) (xs.set i.toNat { rd_T37 xs i with f3 := t }) ∧ W.grownBy (W.setCell ⟨gb, i.toNat * 4 + 3, none⟩ (.int .i64 t)) (some gb) := by
  obtain ⟨oki, c, hcl, hM, hcc, hfr, hoki, hH⟩ := Kd.S_elem (Kd.S_mono (ok' := fun k => ok k ∧ ¬ False) h (fun k hk => ⟨hk, id⟩)) z37 i h0 h1
  obtain ⟨v1, rfl, g1⟩ := k37_openM hM
  refine ⟨⟨_, hcc 3 _ rfl⟩, hfr 3, fun t => ?_⟩
  exact Kd.S_seg (okg := fun _ => False) hH h0 h1 (seg := [.int .i64 t]) (j := 3) (show 3 + 1 ≤ 4 from by decide) (x' := { rd_T37 xs i with f3 := t }) (mkQ _ _ _ { rd_T37 xs i with f3 := t } g1) (fun k hk => .inl hk) (fun k hk => hk.elim)
def spec_anyGraph.fk (k : Nat) (s0 : List Int) (s1 : Int) : Option (List Tk × Int) :=
  (spec_someGraph.f k s0 s1 8).bind fun a =>
  if a.1.length = 0 then some (a.1, a.2) else
  (spec_reader_pick.f k s0 a.2 (a.1.length : Int)).bind fun p =>
  (spec_reader_pick.f k s0 p.2 24).bind fun q =>
  if ¬ (0 ≤ p.1 ∧ p.1 < (a.1.length : Int)) then none else
  if q.1 = 0 then (spec_reader_one.f k s0 q.2 [0, 21, 20]).bind fun t => some (a.1.set p.1.toNat { rd_T37 a.1 p.1 with f0 := t.1 }, t.2)
  else if q.1 = 1 then (spec_reader_pick.f k s0 q.2 (a.1.length : Int)).bind fun b =>
    if (rd_T37 a.1 p.1).f1.length < 1000 then (spec_reader_spoil.f k s0 b.2 ((rd_T37 a.1 p.1).f1 ++ [b.1]) 8).bind fun c => some (a.1.set p.1.toNat { rd_T37 a.1 p.1 with f1 := c.1 }, c.2) else none
  else if q.1 = 2 then (spec_reader_one.f k s0 q.2 [-1, 3]).bind fun t => some (a.1.set p.1.toNat { rd_T37 a.1 p.1 with f2 := t.1 }, t.2)
  else if q.1 = 3 then (spec_reader_one.f k s0 q.2 [0, 5]).bind fun t => some (a.1.set p.1.toNat { rd_T37 a.1 p.1 with f3 := t.1 }, t.2)
  else if q.1 = 4 then (spec_someGraph.f k s0 q.2 8).bind fun b => if a.1.length + b.1.length < 1000 then some (a.1 ++ b.1, b.2) else none
  else some (a.1, q.2)
theorem spec_anyGraph.mono : ∀ a0 a1 k, LeO (spec_anyGraph.fk k a0 a1) (spec_anyGraph.fk (k + 1) a0 a1) := by
  intro a0 a1 k
  unfold spec_anyGraph.fk
  repeat' first
      | (with_reducible exact spec_someGraph.mono _ _ _ _)
      | (with_reducible exact spec_reader_pick.mono _ _ _ _)
      | (with_reducible exact spec_reader_one.mono _ _ _ _)
      | (with_reducible exact spec_reader_spoil.mono _ _ _ _ _)
      | (with_reducible exact LeO.refl _)
      | (with_reducible exact LeO.none _)
      | (with_reducible refine LeO.ite ?_ ?_)
      | (with_reducible refine LeO.bind ?_ (fun _ => ?_))
      | exact LeO.none _
      | refine LeO.ite ?_ ?_
      | refine LeO.bind ?_ (fun _ => ?_)
/-- What anyGraph leaves. -/
def anyPost (w0 w : World) (g : Nat) (s0 : List Int) (r1 : List Tk) (r2 : Int) (e : Ending) (w' : World) : Prop :=
  ∃ v0_ : Value, e = .returned (v0_) ∧ Kd.S k37 37 w' w.heap.size (fun _ => True) v0_ r1 ∧ IsS101 w0 w' g s0 r2 ∧ Below w0.heap.size w0 w' ∧ KeepBut w w' g none
theorem R_lits {w : World} {b base t : Nat} {l : List Int} (h : w.heap[b]? = some (.cells (l.map (Value.int .i64)).toArray t (0, 0))) (hb : base ≤ b) (hl : l.length ≤ maxLen) : (Kd.int .i64).R t w base (fun _ => True) (.slice (some ⟨b, 0, none⟩) l.length l.length) l :=
  row_R (k := .i64) ⟨by simp, .inr ⟨b, l.length, _, rfl, hb, h, Nat.le_refl _, hl, by simp, by simp [List.take_of_length_le]⟩⟩
theorem C_lits {w : World} {b t : Nat} {l : List Int} (h : w.heap[b]? = some (.cells (l.map (Value.int .i64)).toArray t (0, 0))) (hl : l.length ≤ maxLen) : (Kd.int .i64).C w (some ⟨b, 0, none⟩) l.length l :=
  (Kd.R_reads' (R_lits (base := 0) h (Nat.zero_le _) hl)).2.2
set_option maxRecDepth 100000 in
set_option maxHeartbeats 4000000 in
theorem any_empty (k g : Nat) (s0 : List Int) (s1 : Int) (w0 w : World) (hI : IsS101 w0 w g s0 s1) (hB : Below w0.heap.size w0 w) (a2 : Int) (h1 : spec_someGraph.f k s0 s1 8 = some ([], a2)) : Calls Tryd.prog 67 #[.pointer (some ⟨g, 0, none⟩)] w (anyPost w0 w g s0  [] a2) := by
  have A1 := Aside0.mk h1
  clear h1
  obtain ⟨a, ha⟩ : ∃ a : List Tk, a = [] := ⟨_, rfl⟩
  rw [← ha] at A1
  have hlen : (a.length : Int) = 0 := by rw [ha]; rfl
  have HA := Aside0.mk ha
  clear ha
  have hz : ((a.length : Int) == 0) = true := by simp [hlen]
  have HL := Aside0.mk hlen
  clear hlen
  go_enter Tryd.func67, Tryd.ntmps67
  go_wp2_with (go_at_call 103; refine (spec_someGraph.calls k g s0 s1 8 a a2 w0 _ hI hB A1.out).mono ?_; rintro e w1 ⟨v1, rfl, hS1, hI1, hB1, hK1⟩; clear hI hB; obtain ⟨A, c, rfl⟩ := Kd.S_slice hS1)
  go_ret
  exact ⟨_, rfl, by rw [← HA.out]; exact hS1, hI1, hB1, hK1⟩
set_option maxRecDepth 100000 in
set_option maxHeartbeats 4000000 in
theorem any_same (k g : Nat) (s0 : List Int) (s1 : Int) (w0 w : World) (hI : IsS101 w0 w g s0 s1) (hB : Below w0.heap.size w0 w) (a : List Tk) (a2 p p2 q q2 : Int) (hpos : 0 < a.length) (hp0 : 0 ≤ p) (hp1 : p < (a.length : Int)) (h1 : spec_someGraph.f k s0 s1 8 = some (a, a2)) (h2 : spec_reader_pick.f k s0 a2 (a.length : Int) = some (p, p2)) (h3 : spec_reader_pick.f k s0 p2 24 = some (q, q2)) (hq : q ≠ 0 ∧ q ≠ 1 ∧ q ≠ 2 ∧ q ≠ 3 ∧ q ≠ 4) : Calls Tryd.prog 67 #[.pointer (some ⟨g, 0, none⟩)] w (anyPost w0 w g s0  a q2) := by
  have A1 := Aside0.mk h1
  have A2 := Aside0.mk h2
  have A3 := Aside0.mk h3
  clear h1 h2 h3
  have hz : ((a.length : Int) == 0) = false := beq_eq_false_iff_ne.2 (by omega)
  have hglt : g < w.heap.size := hI.lt
  have hq0 : (q == 0) = false := beq_eq_false_iff_ne.2 (by omega)
  have hq1 : (q == 1) = false := beq_eq_false_iff_ne.2 (by omega)
  have hq2 : (q == 2) = false := beq_eq_false_iff_ne.2 (by omega)
  have hq3 : (q == 3) = false := beq_eq_false_iff_ne.2 (by omega)
  have hq4 : (q == 4) = false := beq_eq_false_iff_ne.2 (by omega)
  go_enter Tryd.func67, Tryd.ntmps67
  go_wp2_with (first | (go_at_call 103; refine (spec_someGraph.calls k g s0 s1 8 a a2 w0 _ hI hB A1.out).mono ?_; rintro e w1 ⟨v1, rfl, hS1, hI1, hB1, hK1⟩; clear hI hB; obtain ⟨gb, cap, rfl, hgb, hgl, cells, hcells⟩ := Kd.S_form hS1 hpos) | (go_at_call 104; refine (spec_reader_pick.calls k g s0 a2 (a.length : Int) p p2 w0 _ hI1 hB1 A2.out).mono ?_; rintro e w2 ⟨rfl, hI2, hB2, hK2⟩; clear hI1 hB1) | (go_at_call 104; refine (spec_reader_pick.calls k g s0 p2 24 q q2 w0 _ hI2 hB2 A3.out).mono ?_; rintro e w3 ⟨rfl, hI3, hB3, hK3⟩; clear hI2 hB2))
  have hS3 : Kd.S k37 37 w3 w.heap.size (fun k => k ≠ g) (.slice (some ⟨gb, 0, none⟩) a.length cap) a := Kd.S_keep (Kd.S_keep (Kd.S_mono (Kd.S_bound hS1) (fun k hk => Nat.ne_of_gt (Nat.lt_of_lt_of_le hglt hk.2.1))) hK2 (fun k hk => hk)) hK3 (fun k hk => hk)
  have hK4 := (hK1.trans hK2 (.inl rfl)).trans hK3 (.inl rfl)
  clear hS1 hK1 hK2 hK3
  go_ret
  exact ⟨_, rfl, Kd.S_mono hS3 (fun _ _ => trivial), hI3, hB3, hK4⟩
set_option maxRecDepth 100000 in
set_option maxHeartbeats 4000000 in
theorem any_case0 (k g : Nat) (s0 : List Int) (s1 : Int) (w0 w : World) (hI : IsS101 w0 w g s0 s1) (hB : Below w0.heap.size w0 w) (a : List Tk) (a2 p p2 q q2 : Int) (hpos : 0 < a.length) (hp0 : 0 ≤ p) (hp1 : p < (a.length : Int)) (h1 : spec_someGraph.f k s0 s1 8 = some (a, a2)) (h2 : spec_reader_pick.f k s0 a2 (a.length : Int) = some (p, p2)) (h3 : spec_reader_pick.f k s0 p2 24 = some (q, q2)) (hq : q = 0) (t t2 : Int) (h4 : spec_reader_one.f k s0 q2 [0, 21, 20] = some (t, t2)) : Calls Tryd.prog 67 #[.pointer (some ⟨g, 0, none⟩)] w (anyPost w0 w g s0  (a.set p.toNat { rd_T37 a p with f0 := t }) t2) := by
  have A1 := Aside0.mk h1
  have A2 := Aside0.mk h2
  have A3 := Aside0.mk h3
  clear h1 h2 h3
  have hz : ((a.length : Int) == 0) = false := beq_eq_false_iff_ne.2 (by omega)
  have hglt : g < w.heap.size := hI.lt
  have A4 := Aside0.mk h4
  clear h4
  have hq0 : (q == 0) = true := by simp [hq]
  have hp0' := eq_true hp0
  have hp1' := eq_true hp1
  go_enter Tryd.func67, Tryd.ntmps67
  go_wp2_with (first | (go_at_call 103; refine (spec_someGraph.calls k g s0 s1 8 a a2 w0 _ hI hB A1.out).mono ?_; rintro e w1 ⟨v1, rfl, hS1, hI1, hB1, hK1⟩; clear hI hB; obtain ⟨gb, cap, rfl, hgb, hgl, cells, hcells⟩ := Kd.S_form hS1 hpos) | (go_at_call 104; refine (spec_reader_pick.calls k g s0 a2 (a.length : Int) p p2 w0 _ hI1 hB1 A2.out).mono ?_; rintro e w2 ⟨rfl, hI2, hB2, hK2⟩; clear hI1 hB1) | (go_at_call 104; refine (spec_reader_pick.calls k g s0 p2 24 q q2 w0 _ hI2 hB2 A3.out).mono ?_; rintro e w3 ⟨rfl, hI3, hB3, hK3⟩; clear hI2 hB2) | (go_at_call 105; have hS3 : Kd.S k37 37 w3 w.heap.size (fun k => k ≠ g) (.slice (some ⟨gb, 0, none⟩) a.length cap) a := Kd.S_keep (Kd.S_keep (Kd.S_mono (Kd.S_bound hS1) (fun k hk => Nat.ne_of_gt (Nat.lt_of_lt_of_le hglt hk.2.1))) hK2 (fun k hk => hk)) hK3 (fun k hk => hk); have hK4 := (hK1.trans hK2 (.inl rfl)).trans hK3 (.inl rfl); clear hS1 hK1 hK2 hK3; have hN4 := cells_new w3 (.cells #[.int .i64 0, .int .i64 21, .int .i64 20] 3); have hI4 := hI3.alloc (.cells #[.int .i64 0, .int .i64 21, .int .i64 20] 3); have hB4 := hB3.alloc hB3.size (.cells #[.int .i64 0, .int .i64 21, .int .i64 20] 3); have hS4 := Kd.S_alloc hS3 (.cells #[.int .i64 0, .int .i64 21, .int .i64 20] 3); have hK5 := keep_alloc hK4 (.cells #[.int .i64 0, .int .i64 21, .int .i64 20] 3); have hsz := hI3.lt; refine (spec_reader_one.calls k g s0 q2 _ _ [0, 21, 20] t t2 w0 _ hI4 hB4 (C_lits (l := [0, 21, 20]) hN4 (by decide)) (by decide) (fun ad e _ => by cases e; show w3.heap.size ≠ g; omega) A4.out).mono ?_; rintro e w5 ⟨rfl, hI5, hB5, hK6⟩; have hS5 := Kd.S_keep hS4 hK6 (fun k hk => hk); obtain ⟨⟨u, hcu⟩, hfu, hput⟩ := S_put0 hS5 p hp0 hp1; have hK7 := hK5.trans hK6 (.inl rfl); have HPUT := Aside0.mk hput; have hI6 := Aside0.mk hI5; clear hS4 hS3 hI3 hB3 hK4 hI4 hB4 hN4 hK5 hK6 hput hI5))
  go_ret
  obtain ⟨hS6, hg6⟩ := HPUT.out t
  exact ⟨_, rfl, Kd.S_mono hS6 (fun _ _ => trivial), hI6.out.grown hg6 (fun e => by injection e with e; omega), below_put hg6 hB5 (Nat.le_refl _) (by have := hI6.out.ge; omega), hK7.trans (KeepBut.of_grown hg6 g) (.inr ⟨gb, rfl, hgb⟩)⟩
set_option maxRecDepth 100000 in
set_option maxHeartbeats 4000000 in
theorem any_case2 (k g : Nat) (s0 : List Int) (s1 : Int) (w0 w : World) (hI : IsS101 w0 w g s0 s1) (hB : Below w0.heap.size w0 w) (a : List Tk) (a2 p p2 q q2 : Int) (hpos : 0 < a.length) (hp0 : 0 ≤ p) (hp1 : p < (a.length : Int)) (h1 : spec_someGraph.f k s0 s1 8 = some (a, a2)) (h2 : spec_reader_pick.f k s0 a2 (a.length : Int) = some (p, p2)) (h3 : spec_reader_pick.f k s0 p2 24 = some (q, q2)) (hq : q = 2) (t t2 : Int) (h4 : spec_reader_one.f k s0 q2 [-1, 3] = some (t, t2)) : Calls Tryd.prog 67 #[.pointer (some ⟨g, 0, none⟩)] w (anyPost w0 w g s0  (a.set p.toNat { rd_T37 a p with f2 := t }) t2) := by
  have A1 := Aside0.mk h1
  have A2 := Aside0.mk h2
  have A3 := Aside0.mk h3
  clear h1 h2 h3
  have hz : ((a.length : Int) == 0) = false := beq_eq_false_iff_ne.2 (by omega)
  have hglt : g < w.heap.size := hI.lt
  have A4 := Aside0.mk h4
  clear h4
  have hq0 : (q == 0) = false := beq_eq_false_iff_ne.2 (by omega)
  have hq1 : (q == 1) = false := beq_eq_false_iff_ne.2 (by omega)
  have hq2 : (q == 2) = true := by simp [hq]
  have hp0' := eq_true hp0
  have hp1' := eq_true hp1
  go_enter Tryd.func67, Tryd.ntmps67
  go_wp2_with (first | (go_at_call 103; refine (spec_someGraph.calls k g s0 s1 8 a a2 w0 _ hI hB A1.out).mono ?_; rintro e w1 ⟨v1, rfl, hS1, hI1, hB1, hK1⟩; clear hI hB; obtain ⟨gb, cap, rfl, hgb, hgl, cells, hcells⟩ := Kd.S_form hS1 hpos) | (go_at_call 104; refine (spec_reader_pick.calls k g s0 a2 (a.length : Int) p p2 w0 _ hI1 hB1 A2.out).mono ?_; rintro e w2 ⟨rfl, hI2, hB2, hK2⟩; clear hI1 hB1) | (go_at_call 104; refine (spec_reader_pick.calls k g s0 p2 24 q q2 w0 _ hI2 hB2 A3.out).mono ?_; rintro e w3 ⟨rfl, hI3, hB3, hK3⟩; clear hI2 hB2) | (go_at_call 105; have hS3 : Kd.S k37 37 w3 w.heap.size (fun k => k ≠ g) (.slice (some ⟨gb, 0, none⟩) a.length cap) a := Kd.S_keep (Kd.S_keep (Kd.S_mono (Kd.S_bound hS1) (fun k hk => Nat.ne_of_gt (Nat.lt_of_lt_of_le hglt hk.2.1))) hK2 (fun k hk => hk)) hK3 (fun k hk => hk); have hK4 := (hK1.trans hK2 (.inl rfl)).trans hK3 (.inl rfl); clear hS1 hK1 hK2 hK3; have hN4 := cells_new w3 (.cells #[.int .i64 (-1), .int .i64 3] 3); have hI4 := hI3.alloc (.cells #[.int .i64 (-1), .int .i64 3] 3); have hB4 := hB3.alloc hB3.size (.cells #[.int .i64 (-1), .int .i64 3] 3); have hS4 := Kd.S_alloc hS3 (.cells #[.int .i64 (-1), .int .i64 3] 3); have hK5 := keep_alloc hK4 (.cells #[.int .i64 (-1), .int .i64 3] 3); have hsz := hI3.lt; refine (spec_reader_one.calls k g s0 q2 _ _ [-1, 3] t t2 w0 _ hI4 hB4 (C_lits (l := [-1, 3]) hN4 (by decide)) (by decide) (fun ad e _ => by cases e; show w3.heap.size ≠ g; omega) A4.out).mono ?_; rintro e w5 ⟨rfl, hI5, hB5, hK6⟩; have hS5 := Kd.S_keep hS4 hK6 (fun k hk => hk); obtain ⟨⟨u, hcu⟩, hfu, hput⟩ := S_put2 hS5 p hp0 hp1; have hK7 := hK5.trans hK6 (.inl rfl); have HPUT := Aside0.mk hput; have hI6 := Aside0.mk hI5; clear hS4 hS3 hI3 hB3 hK4 hI4 hB4 hN4 hK5 hK6 hput hI5))
  go_ret
  obtain ⟨hS6, hg6⟩ := HPUT.out t
  exact ⟨_, rfl, Kd.S_mono hS6 (fun _ _ => trivial), hI6.out.grown hg6 (fun e => by injection e with e; omega), below_put hg6 hB5 (Nat.le_refl _) (by have := hI6.out.ge; omega), hK7.trans (KeepBut.of_grown hg6 g) (.inr ⟨gb, rfl, hgb⟩)⟩
set_option maxRecDepth 100000 in
set_option maxHeartbeats 4000000 in
theorem any_case3 (k g : Nat) (s0 : List Int) (s1 : Int) (w0 w : World) (hI : IsS101 w0 w g s0 s1) (hB : Below w0.heap.size w0 w) (a : List Tk) (a2 p p2 q q2 : Int) (hpos : 0 < a.length) (hp0 : 0 ≤ p) (hp1 : p < (a.length : Int)) (h1 : spec_someGraph.f k s0 s1 8 = some (a, a2)) (h2 : spec_reader_pick.f k s0 a2 (a.length : Int) = some (p, p2)) (h3 : spec_reader_pick.f k s0 p2 24 = some (q, q2)) (hq : q = 3) (t t2 : Int) (h4 : spec_reader_one.f k s0 q2 [0, 5] = some (t, t2)) : Calls Tryd.prog 67 #[.pointer (some ⟨g, 0, none⟩)] w (anyPost w0 w g s0  (a.set p.toNat { rd_T37 a p with f3 := t }) t2) := by
  have A1 := Aside0.mk h1
  have A2 := Aside0.mk h2
  have A3 := Aside0.mk h3
  clear h1 h2 h3
  have hz : ((a.length : Int) == 0) = false := beq_eq_false_iff_ne.2 (by omega)
  have hglt : g < w.heap.size := hI.lt
  have A4 := Aside0.mk h4
  clear h4
  have hq0 : (q == 0) = false := beq_eq_false_iff_ne.2 (by omega)
  have hq1 : (q == 1) = false := beq_eq_false_iff_ne.2 (by omega)
  have hq2 : (q == 2) = false := beq_eq_false_iff_ne.2 (by omega)
  have hq3 : (q == 3) = true := by simp [hq]
  have hp0' := eq_true hp0
  have hp1' := eq_true hp1
  go_enter Tryd.func67, Tryd.ntmps67
  go_wp2_with (first | (go_at_call 103; refine (spec_someGraph.calls k g s0 s1 8 a a2 w0 _ hI hB A1.out).mono ?_; rintro e w1 ⟨v1, rfl, hS1, hI1, hB1, hK1⟩; clear hI hB; obtain ⟨gb, cap, rfl, hgb, hgl, cells, hcells⟩ := Kd.S_form hS1 hpos) | (go_at_call 104; refine (spec_reader_pick.calls k g s0 a2 (a.length : Int) p p2 w0 _ hI1 hB1 A2.out).mono ?_; rintro e w2 ⟨rfl, hI2, hB2, hK2⟩; clear hI1 hB1) | (go_at_call 104; refine (spec_reader_pick.calls k g s0 p2 24 q q2 w0 _ hI2 hB2 A3.out).mono ?_; rintro e w3 ⟨rfl, hI3, hB3, hK3⟩; clear hI2 hB2) | (go_at_call 105; have hS3 : Kd.S k37 37 w3 w.heap.size (fun k => k ≠ g) (.slice (some ⟨gb, 0, none⟩) a.length cap) a := Kd.S_keep (Kd.S_keep (Kd.S_mono (Kd.S_bound hS1) (fun k hk => Nat.ne_of_gt (Nat.lt_of_lt_of_le hglt hk.2.1))) hK2 (fun k hk => hk)) hK3 (fun k hk => hk); have hK4 := (hK1.trans hK2 (.inl rfl)).trans hK3 (.inl rfl); clear hS1 hK1 hK2 hK3; have hN4 := cells_new w3 (.cells #[.int .i64 0, .int .i64 5] 3); have hI4 := hI3.alloc (.cells #[.int .i64 0, .int .i64 5] 3); have hB4 := hB3.alloc hB3.size (.cells #[.int .i64 0, .int .i64 5] 3); have hS4 := Kd.S_alloc hS3 (.cells #[.int .i64 0, .int .i64 5] 3); have hK5 := keep_alloc hK4 (.cells #[.int .i64 0, .int .i64 5] 3); have hsz := hI3.lt; refine (spec_reader_one.calls k g s0 q2 _ _ [0, 5] t t2 w0 _ hI4 hB4 (C_lits (l := [0, 5]) hN4 (by decide)) (by decide) (fun ad e _ => by cases e; show w3.heap.size ≠ g; omega) A4.out).mono ?_; rintro e w5 ⟨rfl, hI5, hB5, hK6⟩; have hS5 := Kd.S_keep hS4 hK6 (fun k hk => hk); obtain ⟨⟨u, hcu⟩, hfu, hput⟩ := S_put3 hS5 p hp0 hp1; have hK7 := hK5.trans hK6 (.inl rfl); have HPUT := Aside0.mk hput; have hI6 := Aside0.mk hI5; clear hS4 hS3 hI3 hB3 hK4 hI4 hB4 hN4 hK5 hK6 hput hI5))
  go_ret
  obtain ⟨hS6, hg6⟩ := HPUT.out t
  exact ⟨_, rfl, Kd.S_mono hS6 (fun _ _ => trivial), hI6.out.grown hg6 (fun e => by injection e with e; omega), below_put hg6 hB5 (Nat.le_refl _) (by have := hI6.out.ge; omega), hK7.trans (KeepBut.of_grown hg6 g) (.inr ⟨gb, rfl, hgb⟩)⟩
theorem infoTask : (Tryd.prog.info? 37).map (fun i => (i.zero, i.size, i.bytes)) = some (some (.agg #[.int .i64 0, .slice none 0 0, .int .i64 0, .int .i64 0]), 4, 48) := by kernel_rfl
theorem zip_app (xs ys : List Tk) : (xs ++ ys).zipIdx = xs.zipIdx ++ ys.zipIdx xs.length := by rw [List.zipIdx_append]; simp
/-- Two rows' elements behind each other: the owners of the second one's rows are told anew. -/
theorem S_two {W : World} {b1 N : Nat} {ok : Nat → Prop} {v v2 : Value} {xs ys : List Tk} (h1 : Kd.S k37 37 W b1 (fun k => ok k ∧ k < N) v xs) (h2 : Kd.S k37 37 W N (fun _ => True) v2 ys) (hb : b1 ≤ N) :
    ∃ f A c, v2 = .slice A ys.length c ∧ (Kd.tag f k37).R 37 W b1 (fun k => ok k ∧ k < N) v xs.zipIdx ∧ ReadsRow ((Kd.tag f k37).M W b1 (fun k => N ≤ k)) 4 W A ys.length (ys.zipIdx xs.length) := by
  obtain ⟨f1, hf1⟩ := h1
  obtain ⟨f2, hf2⟩ := h2
  refine ⟨fun k => if k < N then f1 k else f2 k + xs.length, ?_⟩
  have hR2 := Kd.R_bound hf2
  obtain ⟨A, c, rfl, hl, hr⟩ := OwnRow.reads hR2.2
  rw [List.length_zipIdx] at hr
  refine ⟨A, c, by rw [List.length_zipIdx], Kd.R_tag hf1 (fun k hk _ => if_pos hk.2), by simp, hr.2.1, fun hn => ?_⟩
  obtain ⟨ad, e, hc⟩ := hr.2.2 hn
  refine ⟨ad, e, fun j p hj => ?_⟩
  rw [List.getElem?_zipIdx] at hj
  obtain ⟨x, hx, rfl⟩ := Option.map_eq_some_iff.1 hj
  obtain ⟨cs, h3, h4, h5⟩ := hc j (x, j) (by rw [List.getElem?_zipIdx, hx]; simp)
  refine ⟨cs, h3, ?_, h5⟩
  refine Kd.M_lower k37 hb (Kd.M_mono k37 (fun k hk => ?_) h4)
  have hk1 := hk.1.1.2.1
  have hk2 : f2 k = j := hk.2
  refine ⟨hk1, ?_⟩
  show (if k < N then f1 k else f2 k + xs.length) = xs.length + j
  rw [if_neg (by omega), hk2]
  omega
set_option maxRecDepth 100000 in
set_option maxHeartbeats 4000000 in
theorem any_case4 (k g : Nat) (s0 : List Int) (s1 : Int) (w0 w : World) (hI : IsS101 w0 w g s0 s1) (hB : Below w0.heap.size w0 w) (a : List Tk) (a2 p p2 q q2 : Int) (hpos : 0 < a.length) (hp0 : 0 ≤ p) (hp1 : p < (a.length : Int)) (h1 : spec_someGraph.f k s0 s1 8 = some (a, a2)) (h2 : spec_reader_pick.f k s0 a2 (a.length : Int) = some (p, p2)) (h3 : spec_reader_pick.f k s0 p2 24 = some (q, q2)) (hq : q = 4) (c : List Tk) (c2 : Int) (hlen : a.length + c.length < 1000) (h4 : spec_someGraph.f k s0 q2 8 = some (c, c2)) : Calls Tryd.prog 67 #[.pointer (some ⟨g, 0, none⟩)] w (anyPost w0 w g s0  (a ++ c) c2) := by
  have A1 := Aside0.mk h1
  have A2 := Aside0.mk h2
  have A3 := Aside0.mk h3
  clear h1 h2 h3
  have hz : ((a.length : Int) == 0) = false := beq_eq_false_iff_ne.2 (by omega)
  have hglt : g < w.heap.size := hI.lt
  have A4 := Aside0.mk h4
  clear h4
  have hq0 : (q == 0) = false := beq_eq_false_iff_ne.2 (by omega)
  have hq1 : (q == 1) = false := beq_eq_false_iff_ne.2 (by omega)
  have hq2 : (q == 2) = false := beq_eq_false_iff_ne.2 (by omega)
  have hq3 : (q == 3) = false := beq_eq_false_iff_ne.2 (by omega)
  have hq4 : (q == 4) = true := by simp [hq]
  go_enter Tryd.func67, Tryd.ntmps67
  go_wp2_with (first | (go_at_call 103; refine (spec_someGraph.calls k g s0 s1 8 a a2 w0 _ hI hB A1.out).mono ?_; rintro e w1 ⟨v1, rfl, hS1, hI1, hB1, hK1⟩; clear hI hB; obtain ⟨gb, cap, rfl, hgb, hgl, cells, hcells⟩ := Kd.S_form hS1 hpos) | (go_at_call 104; refine (spec_reader_pick.calls k g s0 a2 (a.length : Int) p p2 w0 _ hI1 hB1 A2.out).mono ?_; rintro e w2 ⟨rfl, hI2, hB2, hK2⟩; clear hI1 hB1) | (go_at_call 104; refine (spec_reader_pick.calls k g s0 p2 24 q q2 w0 _ hI2 hB2 A3.out).mono ?_; rintro e w3 ⟨rfl, hI3, hB3, hK3⟩; clear hI2 hB2) | (go_at_call 103; have hS3 : Kd.S k37 37 w3 w.heap.size (fun k => k ≠ g) (.slice (some ⟨gb, 0, none⟩) a.length cap) a := Kd.S_keep (Kd.S_keep (Kd.S_mono (Kd.S_bound hS1) (fun k hk => Nat.ne_of_gt (Nat.lt_of_lt_of_le hglt hk.2.1))) hK2 (fun k hk => hk)) hK3 (fun k hk => hk); have hK4 := (hK1.trans hK2 (.inl rfl)).trans hK3 (.inl rfl); clear hS1 hK1 hK2 hK3; have HGL3 := Aside0.mk hI3.lt; have HGB3 := Aside0.mk (Kd.S_lt hS3 gb (by simp [Value.ownBlock])); have hK4s := hK4.1; refine (spec_someGraph.calls k g s0 q2 8 c c2 w0 _ hI3 hB3 A4.out).mono ?_; rintro e w5 ⟨v2, rfl, hS5, hI5, hB5, hK5⟩; have hS4 : Kd.S k37 37 w5 w.heap.size (fun k => k ≠ g ∧ k < w3.heap.size) _ a := Kd.S_keep (Kd.S_mono (Kd.S_bound hS3) (fun k hk => ⟨hk.1, hk.2.2.1⟩)) hK5 (fun k hk => hk.1); obtain ⟨f, A, cc, rfl, hR6, hRR⟩ := S_two hS4 hS5 hK4s; have hK6 := hK4.trans hK5 (.inl rfl); have HR6 := Aside0.mk hR6; have HRR := Aside0.mk hRR; have HI5 := Aside0.mk hI5; have HB5 := Aside0.mk hB5; have HK6 := Aside0.mk hK6; have HLE := Aside0.mk hK5.1; clear hS3 hS4 hS5 hI3 hB3 hK4 hK5 hR6 hRR hI5 hB5 hK6 hK4s) | ((with_reducible refine gate_builtin (b := .append) (xs := #[.tmp 65, .tmp 67]) rfl ?_); go_loud (at_builtin; have hgb3 : gb < w3.heap.size := HGB3.out; have hle5 : w.heap.size ≤ w5.heap.size := HK6.out.1; refine Kd.R_append_rows (Kd.tag f k37) (w0 := w5) w.heap.size rfl (.tmp 65) (.tmp 67) 26 37 (.agg #[.int .i64 0, .slice none 0 0, .int .i64 0, .int .i64 0]) 48 rfl Tryd.underlying26 infoTask rfl (show 0 < 4 from by decide) (by decide) (.slice (some ⟨gb, 0, none⟩) a.length cap) a.zipIdx (c.zipIdx a.length) A c.length cc (fun k => k ≠ g) (fun k => w3.heap.size ≤ k) rfl rfl (Kd.R_mono HR6.out (fun _ hk => hk.1)) HRR.out (fun _ _ h => h) (fun k (hk : w3.heap.size ≤ k) => ⟨Nat.ne_of_gt (Nat.lt_of_lt_of_le HGL3.out hk), fun e => by have e2 : k = gb := (by simpa [Value.ownBlock] using e); omega⟩) (fun k hk => Nat.ne_of_gt (Nat.lt_of_lt_of_le HI5.out.lt hk)) (Below.refl _ _) hle5 (by simp; omega) ?_; intro v6 w6 ho hb hg hat)))
  go_ret
  have hS6 : Kd.S k37 37 w6 w.heap.size (fun k => k ≠ g) v6 (a ++ c) := ⟨f, by rw [zip_app]; exact ho⟩
  have hg' : w5.grownBy w6 (some gb) := by simpa [Value.ownBlock] using hg
  have hI6 := HI5.out.grown hg' (fun e => by injection e with e; omega)
  exact ⟨_, rfl, Kd.S_mono hS6 (fun _ _ => trivial), hI6, below_put hg' HB5.out (Nat.le_refl _) (by have := HI5.out.ge; omega), HK6.out.trans (KeepBut.of_grown hg' g) (.inr ⟨gb, rfl, hgb⟩)⟩
theorem infoInt_ : (Tryd.prog.info? 3).map (fun i => (i.zero, i.size, i.bytes)) = some (some (.int .i64 0), 1, 8) := by kernel_rfl
set_option maxRecDepth 100000 in
set_option maxHeartbeats 4000000 in
theorem any_case1 (k g : Nat) (s0 : List Int) (s1 : Int) (w0 w : World) (hI : IsS101 w0 w g s0 s1) (hB : Below w0.heap.size w0 w) (a : List Tk) (a2 p p2 q q2 : Int) (hpos : 0 < a.length) (hp0 : 0 ≤ p) (hp1 : p < (a.length : Int)) (h1 : spec_someGraph.f k s0 s1 8 = some (a, a2)) (h2 : spec_reader_pick.f k s0 a2 (a.length : Int) = some (p, p2)) (h3 : spec_reader_pick.f k s0 p2 24 = some (q, q2)) (hq : q = 1) (b b2 : Int) (r : List Int) (r2 : Int) (h4 : spec_reader_pick.f k s0 q2 (a.length : Int) = some (b, b2)) (hlen : (rd_T37 a p).f1.length < 1000) (h5 : spec_reader_spoil.f k s0 b2 ((rd_T37 a p).f1 ++ [b]) 8 = some (r, r2)) : Calls Tryd.prog 67 #[.pointer (some ⟨g, 0, none⟩)] w (anyPost w0 w g s0  (a.set p.toNat { rd_T37 a p with f1 := r }) r2) := by
  have A1 := Aside0.mk h1
  have A2 := Aside0.mk h2
  have A3 := Aside0.mk h3
  clear h1 h2 h3
  have hz : ((a.length : Int) == 0) = false := beq_eq_false_iff_ne.2 (by omega)
  have hglt : g < w.heap.size := hI.lt
  have A4 := Aside0.mk h4
  have A5 := Aside0.mk h5
  clear h4 h5
  have hq0 : (q == 0) = false := beq_eq_false_iff_ne.2 (by omega)
  have hq1 : (q == 1) = true := by simp [hq]
  go_enter Tryd.func67, Tryd.ntmps67
  go_wp2_with (first | (go_at_call 103; refine (spec_someGraph.calls k g s0 s1 8 a a2 w0 _ hI hB A1.out).mono ?_; rintro e w1 ⟨v1, rfl, hS1, hI1, hB1, hK1⟩; clear hI hB; obtain ⟨gb, cap, rfl, hgb, hgl, cells, hcells⟩ := Kd.S_form hS1 hpos) | (go_at_call 104; refine (spec_reader_pick.calls k g s0 a2 (a.length : Int) p p2 w0 _ hI1 hB1 A2.out).mono ?_; rintro e w2 ⟨rfl, hI2, hB2, hK2⟩; clear hI1 hB1) | (go_at_call 104; refine (spec_reader_pick.calls k g s0 p2 24 q q2 w0 _ hI2 hB2 A3.out).mono ?_; rintro e w3 ⟨rfl, hI3, hB3, hK3⟩; clear hI2 hB2))
  have hS3 : Kd.S k37 37 w3 w.heap.size (fun k => k ≠ g) (.slice (some ⟨gb, 0, none⟩) a.length cap) a := Kd.S_keep (Kd.S_keep (Kd.S_mono (Kd.S_bound hS1) (fun k hk => Nat.ne_of_gt (Nat.lt_of_lt_of_le hglt hk.2.1))) hK2 (fun k hk => hk)) hK3 (fun k hk => hk)
  have hK4 := (hK1.trans hK2 (.inl rfl)).trans hK3 (.inl rfl)
  clear hS1 hK1 hK2 hK3
  have hp0' := eq_true hp0
  have hp1' := eq_true hp1
  have hS3b : Kd.S k37 37 w3 w.heap.size (fun k => k ≠ g ∧ k < w3.heap.size) (.slice (some ⟨gb, 0, none⟩) a.length cap) a := Kd.S_mono (Kd.S_bound hS3) (fun k hk => ⟨hk.1, hk.2.2.1⟩)
  obtain ⟨oki, c, hcl, hM, hcc, hfr, hoki, hH⟩ := Kd.S_elem hS3b z37 p hp0 hp1
  obtain ⟨v4, rfl, g4⟩ := k37_openM hM
  clear hS3b
  have hx1 : w3.cell? ⟨gb, p.toNat * 4 + 1, none⟩ = some v4 := hcc 1 _ rfl
  have hgb3 : gb < w3.heap.size := Kd.S_lt hS3 gb (by simp [Value.ownBlock])
  clear hcc hfr hM hcl hS3
  have hI4 : IsS101 w0 w3.drew g s0 q2 := hI3.drew
  have hB4 : Below w0.heap.size w0 w3.drew := below_drew1 hB3
  have hK4' : KeepBut w w3.drew g none := keep_drew hK4
  have hH4 := Kd.H_drew hH
  have g4' := Kd.Q_drew g4
  have hsz4 : w3.drew.heap.size = w3.heap.size := rfl
  have hd4 : Below w3.heap.size w3 w3.drew := below_drew (Below.refl _ _)
  refine start_ (n := 18) (S := fun w' => w'.cell? ⟨gb, p.toNat * 4 + 1, none⟩ = some v4) (ds := [13, 14, 15, 16, 17]) #[false, false, false, false, false, false, false, false, false, false, false, false, false, false, false, false, false, false] rfl (by kernel_rfl) rfl ((hd4.cell hgb3).trans hx1) (fun hHeld => ?_)
  revert hI4 hB4 hK4' hH4 g4' hsz4 hHeld
  generalize w3.drew = w4
  intro hI4 hB4 hK4' hH4 g4' hsz4 hHeld
  clear hI3 hB3 hK4 hH g4 hx1 hd4
  refine pure_ (i := 0) (N := some 28) (v := ?_) (a' := ?_) #[true, false, false, false, false, false, false, false, false, false, false, false, false, false, false, false, false, false] rfl rfl (by kernel_rfl) (fun _ _ _ h => h) (Or.inl ⟨by rfl, ?_⟩) ?_ ?_
  rotate_left
  · intro w'
    go_simp
    with_reducible rfl
  rotate_left
  · simp only [Act.put, List.setIfInBounds_toArray, List.set_cons_zero, List.set_cons_succ, i64_w, i32_w]
    rfl
  refine pure_ (i := 1) (N := some 29) (v := ?_) (a' := ?_) #[true, true, false, false, false, false, false, false, false, false, false, false, false, false, false, false, false, false] rfl rfl (by kernel_rfl) (fun _ _ _ h => h) (Or.inl ⟨by rfl, ?_⟩) ?_ ?_
  rotate_left
  · intro w'
    go_simp
    with_reducible rfl
  rotate_left
  · simp only [Act.put, List.setIfInBounds_toArray, List.set_cons_zero, List.set_cons_succ, i64_w, i32_w]
    rfl
  refine pure_ (i := 2) (N := some 30) (v := ?_) (a' := ?_) #[true, true, true, false, false, false, false, false, false, false, false, false, false, false, false, false, false, false] rfl rfl (by kernel_rfl) (fun _ _ _ h => h) (Or.inl ⟨by rfl, ?_⟩) ?_ ?_
  rotate_left
  · intro w'
    go_simp
    with_reducible rfl
  rotate_left
  · simp only [Act.put, List.setIfInBounds_toArray, List.set_cons_zero, List.set_cons_succ, i64_w, i32_w]
    rfl
  refine pure_ (i := 3) (N := some 31) (v := ?_) (a' := ?_) #[true, true, true, true, false, false, false, false, false, false, false, false, false, false, false, false, false, false] rfl rfl (by kernel_rfl) (fun _ _ _ h => h) (Or.inl ⟨by rfl, ?_⟩) ?_ ?_
  rotate_left
  · intro w'
    go_simp
    with_reducible rfl
  rotate_left
  · simp only [Act.put, List.setIfInBounds_toArray, List.set_cons_zero, List.set_cons_succ, i64_w, i32_w]
    rfl
  refine pure_ (i := 4) (N := some 32) (v := ?_) (a' := ?_) #[true, true, true, true, true, false, false, false, false, false, false, false, false, false, false, false, false, false] rfl rfl (by kernel_rfl) (fun _ _ _ h => h) (Or.inl ⟨by rfl, ?_⟩) ?_ ?_
  rotate_left
  · intro w'
    go_simp
    with_reducible rfl
  rotate_left
  · simp only [Act.put, List.setIfInBounds_toArray, List.set_cons_zero, List.set_cons_succ, i64_w, i32_w]
    rfl
  refine pure_ (i := 5) (N := some 33) (v := ?_) (a' := ?_) #[true, true, true, true, true, true, false, false, false, false, false, false, false, false, false, false, false, false] rfl rfl (by kernel_rfl) (fun _ _ _ h => h) (Or.inl ⟨by rfl, ?_⟩) ?_ ?_
  rotate_left
  · intro w'
    go_simp
    with_reducible rfl
  rotate_left
  · simp only [Act.put, List.setIfInBounds_toArray, List.set_cons_zero, List.set_cons_succ, i64_w, i32_w]
    rfl
  refine pure_ (i := 6) (N := some 34) (v := ?_) (a' := ?_) #[true, true, true, true, true, true, true, false, false, false, false, false, false, false, false, false, false, false] rfl rfl (by kernel_rfl) (fun _ _ _ h => h) (Or.inl ⟨by rfl, ?_⟩) ?_ ?_
  rotate_left
  · intro w'
    go_simp
    with_reducible rfl
  rotate_left
  · simp only [Act.put, List.setIfInBounds_toArray, List.set_cons_zero, List.set_cons_succ, i64_w, i32_w]
    rfl
  refine take_ (i := 7) (N := some 35) (v := ?_) (a' := ?_) #[true, true, true, true, true, true, true, true, false, false, false, false, false, false, false, false, false, false] rfl rfl (by kernel_rfl) (fun _ _ _ h => h) (Or.inl ⟨by rfl, ?_⟩) hHeld ?_ ?_
  rotate_left
  · rintro w' hc
    go_simp
    with_reducible rfl
  rotate_left
  · simp only [Act.put, List.setIfInBounds_toArray, List.set_cons_zero, List.set_cons_succ, i64_w, i32_w]
    rfl
  refine pure_ (i := 8) (N := some 36) (v := ?_) (a' := ?_) #[true, true, true, true, true, true, true, true, true, false, false, false, false, false, false, false, false, false] rfl rfl (by kernel_rfl) (fun _ _ _ h => h) (Or.inl ⟨by rfl, ?_⟩) ?_ ?_
  rotate_left
  · intro w'
    go_simp
    with_reducible rfl
  rotate_left
  · simp only [Act.put, List.setIfInBounds_toArray, List.set_cons_zero, List.set_cons_succ, i64_w, i32_w]
    rfl
  refine pure_ (i := 9) (N := some 37) (v := ?_) (a' := ?_) #[true, true, true, true, true, true, true, true, true, true, false, false, false, false, false, false, false, false] rfl rfl (by kernel_rfl) (fun _ _ _ h => h) (Or.inl ⟨by rfl, ?_⟩) ?_ ?_
  rotate_left
  · intro w'
    go_simp
    with_reducible rfl
  rotate_left
  · simp only [Act.put, List.setIfInBounds_toArray, List.set_cons_zero, List.set_cons_succ, i64_w, i32_w]
    rfl
  refine pure_ (i := 10) (N := some 38) (v := ?_) (a' := ?_) #[true, true, true, true, true, true, true, true, true, true, true, false, false, false, false, false, false, false] rfl rfl (by kernel_rfl) (fun _ _ _ h => h) (Or.inl ⟨by rfl, ?_⟩) ?_ ?_
  rotate_left
  · intro w'
    go_simp
    with_reducible rfl
  rotate_left
  · simp only [Act.put, List.setIfInBounds_toArray, List.set_cons_zero, List.set_cons_succ, i64_w, i32_w]
    rfl
  refine one_ (i := 11) (N := some 39) #[true, true, true, true, true, true, true, true, true, true, true, true, false, false, false, false, false, false] rfl rfl (by kernel_rfl) (by decide) (fun K hK => ?_)
  refine goes_ Tryd.func104 (by kernel_rfl) rfl #[.pointer (some ⟨g, 0, none⟩), .int .i64 (a.length : Int)] (by rfl) rfl rfl (by (try simp only [List.map_toArray, List.map_cons, List.map_nil]); rfl) ?_
  refine (spec_reader_pick.calls k g s0 q2 (a.length : Int) b b2 w0 _ hI4 hB4 A4.out).mono ?_
  rintro e w5 ⟨rfl, hI5, hB5, hK5⟩
  have hgb4 : gb < w4.heap.size := by omega
  have hne : gb ≠ g := by have := Nat.lt_of_lt_of_le hglt hgb; omega
  refine ⟨_, rfl, hK.out _ _ (keep_cell hK5 hHeld hne) (fun hHeld5 => ?_)⟩
  clear hK K
  refine norm_ (a' := ?_) ?_ ?_
  rotate_left
  · show Act.put _ (some 39) _ = _
    simp only [Act.put, List.setIfInBounds_toArray, List.set_cons_zero, List.set_cons_succ, i64_w, i32_w]
    rfl
  have hH5 := Kd.H_keep hH4 hK5 (fun k hk => hk.1)
  have g5 := Kd.Q_keep g4' hK5 (fun k hk => (hoki k hk).1.1)
  have hg5lt := hI5.lt
  have hK6 := hK4'.trans hK5 (.inl rfl)
  have hsz5 : w3.heap.size ≤ w5.heap.size := by rw [← hsz4]; exact hK5.1
  clear hH4 g4' hK5 hK4' hI4 hB4 hHeld hsz4
  refine one_ (i := 12) (N := some 40) #[true, true, true, true, true, true, true, true, true, true, true, true, true, false, false, false, false, false] rfl rfl (by kernel_rfl) (by decide) (fun K hK => ?_)
  refine value_ (w1 := w5.alloc (.cells #[.int .i64 b] 3)) (v := .slice (some ⟨w5.heap.size, 0, none⟩) 1 1) (by rfl) rfl ?_ ?_
  · go_simp; try rfl
  refine hK.out _ _ ((((Below.refl w5.heap.size w5).alloc (Nat.le_refl _) (.cells #[.int .i64 b] 3)).cell (show gb < w5.heap.size by omega)).trans hHeld5) (fun hHeld6 => ?_)
  clear hK K
  refine norm_ (a' := ?_) ?_ ?_
  rotate_left
  · simp only [Act.put, List.setIfInBounds_toArray, List.set_cons_zero, List.set_cons_succ, i64_w, i32_w]
    rfl
  refine last_ (i := 13) (N := some 41) #[true, true, true, true, true, true, true, true, true, true, true, true, true, true, false, false, false, false] rfl rfl (by kernel_rfl) (by decide) (fun K hK => ?_)
  refine Kd.Q_append_step (Kd.int .i64) (w0 := w5) w.heap.size (by rfl) (.tmp 35) (.tmp 40) 35 3 (.int .i64 0) 8 rfl Tryd.underlying35 infoInt_ rfl (by decide) (by decide) v4 (rd_T37 a p).f1 b [.int .i64 b] (fun k => oki k ∨ w5.heap.size ≤ k) (fun _ => False) rfl rfl rfl (fun _ h => h.elim) (fun _ hk => .inr hk) (Kd.Q_mono g5 (fun _ hk => .inl hk)) (Below.refl _ _) hK6.1 (by omega) ?_
  intro v7 w7 hQ7 hB7 hg7 hat7
  refine hK.out _ _ ?_
  clear hK K
  refine norm_ (a' := ?_) ?_ ?_
  rotate_left
  · simp only [Act.put, List.setIfInBounds_toArray, List.set_cons_zero, List.set_cons_succ, i64_w, i32_w]
    rfl
  have hvo : ∀ k, v4.ownBlock = some k → oki k := fun k hk => g5.1 k hk
  have hH7 := Kd.H_grown hH5 hg7 hvo
  have hI7 := hI5.grown hg7 (fun e => (hoki g (hvo g e.symm)).1.1 rfl)
  have hB8 : Below w0.heap.size w0 w7 := by
    refine ⟨hg7.os.trans hB5.os, hg7.tape.trans hB5.tape, hg7.output.trans hB5.output, Nat.le_trans hB5.size hg7.size, fun k hk => (hg7.block k (Nat.lt_of_lt_of_le hk hB5.size) (fun e => ?_)).trans (hB5.block k hk)⟩
    have h1 := Kd.Q_base g5 k e.symm
    have h2 := hI5.ge
    omega
  have hK8 : KeepBut w w7 g none := ⟨Nat.le_trans hK6.1 hg7.size, fun k hk hkg hn => (hg7.block k (Nat.lt_of_lt_of_le hk hK6.1) (fun e => by have := Kd.Q_base g5 k e.symm; omega)).trans (hK6.2 k hk hkg hn)⟩
  have hsz7 := hg7.size
  obtain ⟨A7, c7, rfl, hl7, hC7⟩ := Kd.Q_reads hQ7
  have hlen7 : ((rd_T37 a p).f1 ++ [b]).length = (rd_T37 a p).f1.length + 1 := by simp
  have hQg := hQ7.1
  clear hH5 g5 hI5 hB5 hK6 hHeld5 hHeld6
  refine last_ (i := 14) (N := some 42) #[true, true, true, true, true, true, true, true, true, true, true, true, true, true, true, false, false, false] rfl rfl (by kernel_rfl) (by decide) (fun K hK => ?_)
  refine goes_ Tryd.func106 (by kernel_rfl) rfl #[.pointer (some ⟨g, 0, none⟩), .slice A7 ((rd_T37 a p).f1 ++ [b]).length c7, .int .i64 8] (by rfl) rfl rfl (by (try simp only [List.map_toArray, List.map_cons, List.map_nil]); rfl) ?_
  refine (spec_reader_spoil.calls k g s0 b2 A7 c7 ((rd_T37 a p).f1 ++ [b]) 8 r r2 w0 _ hI7 hB8 hC7 hl7 (fun ad e hpos7 => ?_) A5.out).mono ?_
  · subst e
    rcases hQg ad.block (by simp [Value.ownBlock]) with h | h
    · exact (hoki _ h).1.1
    · exact Nat.ne_of_gt (Nat.lt_of_lt_of_le hg5lt h)
  rintro e w9 ⟨v9, rfl, hQ9, hI9, hB9, hK9⟩
  refine ⟨_, rfl, hK.out _ _ ?_⟩
  clear hK K
  refine norm_ (a' := ?_) ?_ ?_
  rotate_left
  · simp only [Act.put, List.setIfInBounds_toArray, List.set_cons_zero, List.set_cons_succ, i64_w, i32_w]
    rfl
  have hH9 := Kd.H_keep hH7 hK9 (fun k hk => hk.1)
  have hH10 := Kd.H_mono (ok' := fun k => k ≠ g ∧ ¬ (w7.heap.size ≤ k)) hH9 (fun k hk => ⟨hk.1, by omega⟩)
  obtain ⟨hS11, hg11⟩ := Kd.S_seg (okg := fun k => w7.heap.size ≤ k) hH10 hp0 hp1 (seg := [v9]) (j := 1) (show 1 + 1 ≤ 4 from by decide) (x' := { rd_T37 a p with f1 := r }) (mkQ _ _ _ { rd_T37 a p with f1 := r } (Kd.Q_mono (Kd.Q_lower (Kd.Q_bound hQ9) (show w.heap.size ≤ w7.heap.size by have := hK8.1; omega)) (fun k hk => hk.2.1))) (fun k hk => .inr hk) (fun k hk => ⟨Nat.ne_of_gt (Nat.lt_of_lt_of_le hI7.lt hk), by omega⟩)
  obtain ⟨rows, _, hraw, _, _, hcc9, _⟩ := Kd.H_raw hH10 hp0 hp1
  have hcell9 : w9.cell? ⟨gb, p.toNat * 4 + 1, none⟩ = some v4 := hcc9 1 _ rfl
  obtain ⟨cs9, hcs9⟩ := Kd.R_typed hraw gb (by simp [Value.ownBlock])
  have hfz9 : w9.frozen? ⟨gb, p.toNat * 4 + 1, none⟩ = false := by simp [World.frozen?, hcs9]
  clear hraw hcc9 hcs9 hH10 hH9
  have hsl9 := Kd.Q_slice hQ9
  refine pure_ (i := 15) (N := some 43) (v := ?_) (a' := ?_) #[true, true, true, true, true, true, true, true, true, true, true, true, true, true, true, true, false, false] rfl rfl (by kernel_rfl) (fun _ _ _ h => h) (Or.inl ⟨by rfl, ?_⟩) ?_ ?_
  rotate_left
  · intro w'
    go_simp
    with_reducible rfl
  rotate_left
  · simp only [Act.put, List.setIfInBounds_toArray, List.set_cons_zero, List.set_cons_succ, i64_w, i32_w]
    rfl
  refine pure_ (i := 16) (N := some 44) (v := ?_) (a' := ?_) #[true, true, true, true, true, true, true, true, true, true, true, true, true, true, true, true, true, false] rfl rfl (by kernel_rfl) (fun _ _ _ h => h) (Or.inl ⟨by rfl, ?_⟩) ?_ ?_
  rotate_left
  · intro w'
    go_simp
    with_reducible rfl
  rotate_left
  · simp only [Act.put, List.setIfInBounds_toArray, List.set_cons_zero, List.set_cons_succ, i64_w, i32_w]
    rfl
  obtain ⟨A9, c9, hv9, _⟩ := hsl9
  refine last_ (i := 17) (N := none) #[true, true, true, true, true, true, true, true, true, true, true, true, true, true, true, true, true, true] rfl rfl (by kernel_rfl) (by decide) (fun K hK => ?_)
  refine skip_ (w1 := w9.setCell ⟨gb, p.toNat * 4 + 1, none⟩ v9) (by rfl) rfl ?_ ?_
  · subst hv9; go_simp
  refine hK.out _ _ ?_
  clear hK K
  refine done_ (by kernel_rfl) ?_
  have hS12 : Kd.S k37 37 (w9.setCell ⟨gb, p.toNat * 4 + 1, none⟩ v9) w.heap.size (fun k => k ≠ g) _ _ := hS11
  have hg12 : w9.grownBy (w9.setCell ⟨gb, p.toNat * 4 + 1, none⟩ v9) (some gb) := hg11
  have hI12 := hI9.grown hg12 (fun e => by injection e with e; have := Nat.lt_of_lt_of_le hglt hgb; omega)
  have hB12 := below_put hg12 hB9 (Nat.le_refl _) (by have := hI9.ge; omega)
  have hK12 := (hK8.trans hK9 (.inl rfl)).trans (KeepBut.of_grown hg12 g) (.inr ⟨gb, rfl, hgb⟩)
  revert hS12 hI12 hB12 hK12
  generalize w9.setCell ⟨gb, p.toNat * 4 + 1, none⟩ v9 = w13
  intro hS12 hI12 hB12 hK12
  clear hS11 hg11 hg12
  go_wp2
  go_ret
  exact ⟨_, rfl, Kd.S_mono hS12 (fun _ _ => trivial), hI12, hB12, hK12⟩
end Go.Proofs.YtekajandipdlhaaDoor.Core
namespace Go.Proofs.YtekajandipdlhaaDoor.P
open Go Go.RowKit Go.Shelf Go.Proofs.YtekajandipdlhaaDoorW.PrintWords Go.Proofs.YtekajandipdlhaaDoorW.PrintMore Go.Proofs.YtekajandipdlhaaDoor.Core
noncomputable def spec_anyGraph.f (s0_0 : List Int) (s0_1 : Int) : Option (List S37 × Int) := lim (fun k => spec_anyGraph.fk k s0_0 s0_1)
theorem spec_anyGraph.calls (g : Nat) (s0_0 : List Int) (s0_1 : Int) (r1 : List S37) (r2 : Int) (w0 w : World) (hI : IsS101 w0 w g s0_0 s0_1) (hB : Below w0.heap.size w0 w) (h : spec_anyGraph.f s0_0 s0_1 = some (r1, r2)) :
    Calls Tryd.prog 67 #[.pointer (some ⟨g, 0, none⟩)] w fun e w' => ∃ v0_ : Value, e = .returned (v0_) ∧ Kd.S k37 37 w' w.heap.size (fun _ => True) v0_ r1 ∧ IsS101 w0 w' g s0_0 r2 ∧ Below w0.heap.size w0 w' ∧ KeepBut w w' g none := by
  obtain ⟨k, hk⟩ := lim_some h
  clear h
  unfold spec_anyGraph.fk at hk
  obtain ⟨⟨a, a2⟩, h1, hk⟩ := Option.bind_eq_some_iff.1 hk
  by_cases hl : a.length = 0
  · rw [if_pos hl] at hk
    cases hk
    obtain rfl := List.eq_nil_of_length_eq_zero hl
    exact any_empty k g s0_0 s0_1 w0 w hI hB _ h1
  · rw [if_neg hl] at hk
    obtain ⟨⟨p, p2⟩, h2, hk⟩ := Option.bind_eq_some_iff.1 hk
    obtain ⟨⟨q, q2⟩, h3, hk⟩ := Option.bind_eq_some_iff.1 hk
    by_cases hp : ¬ (0 ≤ p ∧ p < (a.length : Int))
    · rw [if_pos hp] at hk; cases hk
    · rw [if_neg hp] at hk
      obtain ⟨hp0, hp1⟩ := Decidable.not_not.1 hp
      have hpos : 0 < a.length := by omega
      by_cases e0 : q = 0
      · rw [if_pos e0] at hk
        obtain ⟨⟨t, t2⟩, h4, hk⟩ := Option.bind_eq_some_iff.1 hk
        cases hk
        exact any_case0 k g s0_0 s0_1 w0 w hI hB a a2 p p2 q q2 hpos hp0 hp1 h1 h2 h3 e0 t _ h4
      · rw [if_neg e0] at hk
        by_cases e1 : q = 1
        · rw [if_pos e1] at hk
          obtain ⟨⟨b, b2⟩, h4, hk⟩ := Option.bind_eq_some_iff.1 hk
          by_cases hlen : (rd_T37 a p).f1.length < 1000
          · simp only [hlen, if_true] at hk
            obtain ⟨⟨c, c2⟩, h5, hk⟩ := Option.bind_eq_some_iff.1 hk
            cases hk
            exact any_case1 k g s0_0 s0_1 w0 w hI hB a a2 p p2 q q2 hpos hp0 hp1 h1 h2 h3 e1 b b2 c _ h4 hlen h5
          · simp only [hlen, if_false] at hk; cases hk
        · rw [if_neg e1] at hk
          by_cases e2 : q = 2
          · rw [if_pos e2] at hk
            obtain ⟨⟨t, t2⟩, h4, hk⟩ := Option.bind_eq_some_iff.1 hk
            cases hk
            exact any_case2 k g s0_0 s0_1 w0 w hI hB a a2 p p2 q q2 hpos hp0 hp1 h1 h2 h3 e2 t _ h4
          · rw [if_neg e2] at hk
            by_cases e3 : q = 3
            · rw [if_pos e3] at hk
              obtain ⟨⟨t, t2⟩, h4, hk⟩ := Option.bind_eq_some_iff.1 hk
              cases hk
              exact any_case3 k g s0_0 s0_1 w0 w hI hB a a2 p p2 q q2 hpos hp0 hp1 h1 h2 h3 e3 t _ h4
            · rw [if_neg e3] at hk
              by_cases e4 : q = 4
              · rw [if_pos e4] at hk
                obtain ⟨⟨c, c2⟩, h4, hk⟩ := Option.bind_eq_some_iff.1 hk
                by_cases hlen : a.length + c.length < 1000
                · simp only [hlen, if_true] at hk
                  cases hk
                  exact any_case4 k g s0_0 s0_1 w0 w hI hB a a2 p p2 q q2 hpos hp0 hp1 h1 h2 h3 e4 c _ hlen h4
                · simp only [hlen, if_false] at hk; cases hk
              · rw [if_neg e4] at hk
                cases hk
                exact any_same k g s0_0 s0_1 w0 w hI hB a a2 p p2 q _ hpos hp0 hp1 h1 h2 h3 ⟨e0, e1, e2, e3, e4⟩
end Go.Proofs.YtekajandipdlhaaDoor.P
namespace Go.Proofs.YtekajandipdlhaaDoor.Core
end Go.Proofs.YtekajandipdlhaaDoor.Core
end
section
namespace Go.Proofs.YtekajandipdlhaaDoor.P
open Go.RowKit Go.Proofs.YtekajandipdlhaaDoorW.PrintWords Go.Proofs.YtekajandipdlhaaDoorW.PrintLast Go.Proofs.YtekajandipdlhaaDoorW.PrintMore
attribute [local go_sem] max2_int min2_int max_two min_two max_three min_three max_four min_four   -- for this text's walks alone
set_option linter.unusedVariables false
set_option linter.unusedSimpArgs false
def spec_newReader.f (l0 : List Int) : Option (List Int × Int) := if (l0.length : Int) > 2000 then (if 2000 ≤ (l0.length : Int) then (some (l0.take 2000, 0)) else (none)) else (some (l0, 0))
set_option maxHeartbeats 8000000 in
set_option maxRecDepth 100000 in
theorem spec_newReader.calls (A0 : Option Addr) (c0 : Nat) (l0 : List Int) (r1 : List Int) (r2 : Int) (w0 w : World) (hB : Below w0.heap.size w0 w) (hr0 : Kd.C (Kd.int .u8) w0 A0 l0.length l0) (hc0 : l0.length ≤ c0) (h : spec_newReader.f l0 = some (r1, r2)) :
    Calls Tryd.prog 68 #[.slice A0 l0.length c0] w fun e w' => ∃ g_ : Nat, e = .returned (.pointer (some ⟨g_, 0, none⟩)) ∧ IsS101 w0 w' g_ r1 r2 ∧ Below w0.heap.size w0 w' ∧ Below w.heap.size w w' := by
  have hu101 := Tryd.underlying101
  have HR0 := Aside0.mk hr0
  have HC0 := Aside0.mk hc0
  clear hr0 hc0
  have HBW := Aside0.mk (Below.refl w.heap.size w)
  have HW0 := Aside0.mk hB.size
  have HB := Aside0.mk hB
  clear hB
  have H : (if (l0.length : Int) > 2000 then (if 2000 ≤ (l0.length : Int) then (some (l0.take 2000, 0)) else (none)) else (some (l0, 0))) = some (r1, r2) := h
  clear h
  by_cases c2 : (l0.length : Int) > 2000
  · rw [if_pos c2] at H
    have c2b0 : decide (2000 < (l0.length : Int)) = true := decide_eq_true c2
    have c2b1 : decide (2000 < l0.length) = true := decide_eq_true (by omega)
    clear c2
    by_cases c3 : 2000 ≤ (l0.length : Int)
    · rw [if_pos c3] at H
      have c3b0 := eq_true c3
      have c3b1 : decide (2000 ≤ (l0.length : Int)) = true := decide_eq_true c3
      clear c3
      simp only [Option.some.injEq, Prod.mk.injEq] at H
      obtain ⟨rfl, rfl⟩ := H
      obtain ⟨i04, hi04, _, hsz4, _⟩ := info_parts info5
      obtain ⟨hcut4, hA4, hC4⟩ := print_take_of (P := Tryd.prog) (Value.int .u8) 0 33 5 .i64 Tryd.underlying33 hi04 hsz4 A0 c0 l0 2000 (by omega) (of_decide_eq_true (by first | (with_reducible assumption) | assumption)) HC0.out
      have HR338 := Aside0.mk (Kd.C_of_reads (h1 := fun _ => rfl) (hA4 _ (Kd.reads_of_C HR0.out)))
      have HC338 := Aside0.mk hC4
      clear hA4 hC4 hi04 hsz4
      go_enter Tryd.func68, Tryd.ntmps68
      go_wp2_with (first | ((with_reducible refine gate_dst (N := 10) rfl ?_); refine box_event ?hg (N := 10) ?hd (cs := #[.slice A0 (l0.take 2000).length c0, .int .i64 0]) (t := 101) ?hr ?_; (case hd => rfl); (case hg => rfl); (case hr => first | (go_simp; done) | (go_simp; rfl)); intro gb339 hg w5 hbox hb; have n0_ := Aside0.mk (below_step HBW.out hb); have n1_ := Aside0.mk (below_step (by repeat (first | (with_reducible first | exact HB.out | apply below_alloc | apply pw_below_drewN | apply below_drew1) | exact HB.out)) hb); have n2_ := Aside0.mk (hbox); have n3_ := Aside0.mk ((by rw [hg]; exact (below_size (by repeat (first | (with_reducible first | exact HBW.out | apply below_alloc | apply pw_below_drewN | apply below_drew1) | exact HBW.out))) : w.heap.size ≤ gb339)); have n4_ := Aside0.mk ((Nat.le_trans HW0.out (by rw [hg]; exact (below_size (by repeat (first | (with_reducible first | exact HBW.out | apply below_alloc | apply pw_below_drewN | apply below_drew1) | exact HBW.out))) : w.heap.size ≤ gb339) : w0.heap.size ≤ gb339)); clear HBW; clear HB; have HBW := n0_; have HB := n1_; have BK339 := n2_; have GW339 := n3_; have GE339 := n4_; clear n0_ n1_ n2_ n3_ n4_; clear hb hbox hg))
      go_ret
      exact ⟨_, rfl, (show IsS101 w0 _ gb339 (l0.take 2000) 0 from ⟨_, _, by (with_reducible repeat (first | refine blk_drewN ?_ _ | refine blk_drew ?_ | refine blk_alloc ?_ _)); exact BK339.out, GE339.out, HR338.out⟩), by repeat (first | (with_reducible first | exact HB.out | apply below_alloc | apply pw_below_drewN | apply below_drew1 | refine below_set ?_ GE339.out) | exact HB.out), by repeat (first | (with_reducible first | exact HBW.out | apply below_alloc | apply pw_below_drewN | apply below_drew1 | refine below_set ?_ GW339.out) | exact HBW.out)⟩
    · rw [if_neg c3] at H
      exact absurd H (by simp)
  · rw [if_neg c2] at H
    have c2b0 : decide (2000 < (l0.length : Int)) = false := decide_eq_false c2
    have c2b1 : decide (2000 < l0.length) = false := decide_eq_false (by omega)
    clear c2
    simp only [Option.some.injEq, Prod.mk.injEq] at H
    obtain ⟨rfl, rfl⟩ := H
    go_enter Tryd.func68, Tryd.ntmps68
    go_wp2_with (first | ((with_reducible refine gate_dst (N := 10) rfl ?_); refine box_event ?hg (N := 10) ?hd (cs := #[.slice A0 l0.length c0, .int .i64 0]) (t := 101) ?hr ?_; (case hd => rfl); (case hg => rfl); (case hr => first | (go_simp; done) | (go_simp; rfl)); intro gb340 hg w6 hbox hb; have n0_ := Aside0.mk (below_step HBW.out hb); have n1_ := Aside0.mk (below_step (by repeat (first | (with_reducible first | exact HB.out | apply below_alloc | apply pw_below_drewN | apply below_drew1) | exact HB.out)) hb); have n2_ := Aside0.mk (hbox); have n3_ := Aside0.mk ((by rw [hg]; exact (below_size (by repeat (first | (with_reducible first | exact HBW.out | apply below_alloc | apply pw_below_drewN | apply below_drew1) | exact HBW.out))) : w.heap.size ≤ gb340)); have n4_ := Aside0.mk ((Nat.le_trans HW0.out (by rw [hg]; exact (below_size (by repeat (first | (with_reducible first | exact HBW.out | apply below_alloc | apply pw_below_drewN | apply below_drew1) | exact HBW.out))) : w.heap.size ≤ gb340) : w0.heap.size ≤ gb340)); clear HBW; clear HB; have HBW := n0_; have HB := n1_; have BK340 := n2_; have GW340 := n3_; have GE340 := n4_; clear n0_ n1_ n2_ n3_ n4_; clear hb hbox hg))
    go_ret
    exact ⟨_, rfl, (show IsS101 w0 _ gb340 l0 0 from ⟨_, _, by (with_reducible repeat (first | refine blk_drewN ?_ _ | refine blk_drew ?_ | refine blk_alloc ?_ _)); exact BK340.out, GE340.out, HR0.out⟩), by repeat (first | (with_reducible first | exact HB.out | apply below_alloc | apply pw_below_drewN | apply below_drew1 | refine below_set ?_ GE340.out) | exact HB.out), by repeat (first | (with_reducible first | exact HBW.out | apply below_alloc | apply pw_below_drewN | apply below_drew1 | refine below_set ?_ GW340.out) | exact HBW.out)⟩
end Go.Proofs.YtekajandipdlhaaDoor.P
end
section
namespace Go.Proofs.YtekajandipdlhaaDoor.P
open Go.RowKit Go.Proofs.YtekajandipdlhaaDoorW.PrintWords Go.Proofs.YtekajandipdlhaaDoorW.PrintLast Go.Proofs.YtekajandipdlhaaDoorW.PrintMore
attribute [local go_sem] max2_int min2_int max_two min_two max_three min_three max_four min_four   -- for this text's walks alone
set_option linter.unusedVariables false
set_option linter.unusedSimpArgs false
def spec_someDeadline.f (k : Nat) (s0_0 : List Int) (s0_1 : Int) : Option (Int × Int) := (spec_reader_one.f k s0_0 s0_1 (([10, 20, 0, 5, 40, 200, 201, (-1), 15] : List Int))).bind fun bt474 => (some (bt474.1, bt474.2))
theorem spec_someDeadline.mono : ∀ a0 a1 k, LeO (spec_someDeadline.f k a0 a1) (spec_someDeadline.f (k + 1) a0 a1) := by
  intro a0 a1 k
  unfold spec_someDeadline.f
  repeat' first
      | (with_reducible exact spec_reader_one.mono _ _ _ _)
      | (with_reducible exact LeO.refl _)
      | (with_reducible exact LeO.none _)
      | (with_reducible refine LeO.ite ?_ ?_)
      | (with_reducible refine LeO.bind ?_ (fun _ => ?_))
      | exact spec_reader_one.mono _ _ _ _
      | exact LeO.none _
      | refine LeO.ite ?_ ?_
      | refine LeO.bind ?_ (fun _ => ?_)
set_option maxHeartbeats 8000000 in
set_option maxRecDepth 100000 in
theorem spec_someDeadline.calls (k : Nat) (g : Nat) (s0_0 : List Int) (s0_1 : Int) (r1 : Int) (r2 : Int) (w0 w : World) (hI : IsS101 w0 w g s0_0 s0_1) (hB : Below w0.heap.size w0 w) (h : spec_someDeadline.f k s0_0 s0_1 = some (r1, r2)) :
    Calls Tryd.prog 72 #[.pointer (some ⟨g, 0, none⟩)] w fun e w' => e = .returned (.int .i64 r1) ∧ IsS101 w0 w' g s0_0 r2 ∧ Below w0.heap.size w0 w' ∧ KeepBut w w' g none := by
  have HI0 := Aside0.mk hI
  have HK := Aside0.mk (KeepBut.refl w g none)
  have HL := Aside0.mk hB.size
  clear hI
  have HW0 := Aside0.mk hB.size
  have HB := Aside0.mk hB
  clear hB
  have H : ((spec_reader_one.f k s0_0 s0_1 (([10, 20, 0, 5, 40, 200, 201, (-1), 15] : List Int))).bind fun bt474 => (some (bt474.1, bt474.2))) = some (r1, r2) := h
  clear h
  obtain ⟨y471, hy471⟩ : ∃ y_ : List Int, y_ = (([10, 20, 0, 5, 40, 200, 201, (-1), 15] : List Int)) := ⟨_, rfl⟩
  replace H : ((spec_reader_one.f k s0_0 s0_1 y471).bind fun bt474 => (some (bt474.1, bt474.2))) = some (r1, r2) := by first | (rw [hy471]; with_reducible exact H) | (have H2_ := (Option.bind_some _ _).symm.trans H; rw [hy471]; with_reducible exact H2_) | (have H2_ := (Option.bind_some _ _).symm.trans H; with_reducible exact H2_) | with_reducible exact H | (rw [hy471]; exact H) | exact H
  have Ny471 := Aside0.mk hy471
  clear hy471
  replace H := Option.bind_eq_some_iff.mp H
  obtain ⟨⟨t474, t475⟩, A20, H⟩ := H
  replace H : (some (t474, t475)) = some (r1, r2) := H
  have A2 := Aside0.mk A20
  clear A20
  simp only [Option.some.injEq, Prod.mk.injEq] at H
  obtain ⟨rfl, rfl⟩ := H
  go_enter Tryd.func72, Tryd.ntmps72
  go_wp2_with (first | ((with_reducible refine gate_dst (N := 4) rfl ?_); refine Kd.R_lit (Kd.int .i64) _ 3 ?hg (N := 4) ?hd (xs := ([10, 20, 0, 5, 40, 200, 201, (-1), 15] : List Int)) (inner := [.int .i64 10, .int .i64 20, .int .i64 0, .int .i64 5, .int .i64 40, .int .i64 200, .int .i64 201, .int .i64 (-1), .int .i64 15]) (ok := fun _ => True) (okp := fun _ => True) ?hr ?hp (fun _ hk => hk) trivial (Below.refl _ _) (Nat.le_refl _) (by simp) ?_; (case hd => rfl); (case hg => rfl); (case hr => first | (go_simp; done) | (go_simp; rfl)); (case hp => exact (Reps.one (show Kd.M (Kd.int .i64) _ _ _ 10 [.int .i64 10] from rfl) (Reps.one (show Kd.M (Kd.int .i64) _ _ _ 20 [.int .i64 20] from rfl) (Reps.one (show Kd.M (Kd.int .i64) _ _ _ 0 [.int .i64 0] from rfl) (Reps.one (show Kd.M (Kd.int .i64) _ _ _ 5 [.int .i64 5] from rfl) (Reps.one (show Kd.M (Kd.int .i64) _ _ _ 40 [.int .i64 40] from rfl) (Reps.one (show Kd.M (Kd.int .i64) _ _ _ 200 [.int .i64 200] from rfl) (Reps.one (show Kd.M (Kd.int .i64) _ _ _ 201 [.int .i64 201] from rfl) (Reps.one (show Kd.M (Kd.int .i64) _ _ _ (-1) [.int .i64 (-1)] from rfl) (Reps.one (show Kd.M (Kd.int .i64) _ _ _ 15 [.int .i64 15] from rfl) (Reps.none _ _))))))))))); intro v472 w3 ho4 hb hg_ hnew_; clear hg_ hnew_; (first | rw [← Ny471.out] at ho4 | (simp only [Int.reduceToNat] at ho4; rw [← Ny471.out] at ho4)); have n0_ := Aside0.mk (Kd.R_lower ho4 (keep_size (w := w) (g := g) (row := none) (by repeat (first | (with_reducible first | exact HK.out | apply KeepBut.set_ | apply keep_drewN | apply keep_drew | apply keep_alloc) | exact HK.out)))); have n1_ := Aside0.mk (IsS101.below (by repeat (first | (with_reducible first | exact HI0.out | apply IsS101.alloc | apply IsS101.drewN | apply IsS101.drew | apply IsS101.set_1) | exact HI0.out)) hb); have n2_ := Aside0.mk (KeepBut.trans (by repeat (first | (with_reducible first | exact HK.out | apply KeepBut.set_ | apply keep_drewN | apply keep_drew | apply keep_alloc) | exact HK.out)) (KeepBut.of_below hb g none) (.inl rfl)); have n3_ := Aside0.mk (below_step (by repeat (first | (with_reducible first | exact HB.out | apply below_alloc | apply pw_below_drewN | apply below_drew1 | refine below_set ?_ (IsS101.ge HI0.out)) | exact HB.out)) hb); clear HI0; clear HK; clear HB; have HO473 := n0_; have HI0 := n1_; have HK := n2_; have HB := n3_; clear n0_ n1_ n2_ n3_; clear hb ho4; obtain ⟨Ao5, co5, eo5⟩ := Kd.R_slice HO473.out; subst eo5) | ((with_reducible refine gate_callee (f := 105) rfl ?_); refine goesL_ (some 5) rfl rfl Tryd.func105 (by kernel_rfl) rfl #[.pointer (some ⟨g, 0, none⟩), .slice Ao5 y471.length co5] rfl (by (try simp only [List.map_toArray, List.map_cons, List.map_nil]); first | done | rfl | (simp only [List.length_drop, List.length_take]; rfl)) ?_; (with_reducible refine (spec_reader_one.calls k g s0_0 s0_1 _ _ y471 t474 t475 w0 _ ?side1 ?side2 ?side3 ?side4 ?side5 A2.out).mono ?_); (case side1 => repeat (first | (with_reducible first | exact HI0.out | apply IsS101.alloc | apply IsS101.drewN | apply IsS101.drew | apply IsS101.set_1) | exact HI0.out)); (case side2 => repeat (first | (with_reducible first | exact HB.out | apply below_alloc | apply pw_below_drewN | apply below_drew1 | refine below_set ?_ (IsS101.ge HI0.out)) | exact HB.out)); (case side3 => repeat (first | exact (Kd.R_reads' HO473.out).2.2 | (with_reducible refine Kd.C_alloc ?_ _) | (with_reducible refine Kd.C_drewN ?_ _) | (with_reducible refine Kd.C_drew ?_))); (case side4 => exact (Kd.R_reads' HO473.out).2.1); (case side5 => exact far_slice (IsS101.own_ne HI0.out HO473.out (by decide))); rintro e w6 ⟨rfl, hi, hb, hk⟩; refine ⟨_, rfl, ?_⟩; have n0_ := Aside0.mk (Kd.R_mono (Kd.R_keep (IsS101.apart (show IsS101 w0 _ g s0_0 s0_1 from by repeat (first | (with_reducible first | exact HI0.out | apply IsS101.alloc | apply IsS101.drewN | apply IsS101.drew | apply IsS101.set_1) | exact HI0.out)) (by (with_reducible repeat (first | apply Kd.R_alloc | apply Kd.R_drewN | apply Kd.R_drew)); exact HO473.out) (by decide)) hk (fun _ h => h.2)) (fun _ h => h.1)); have n1_ := Aside0.mk (KeepBut.trans (by repeat (first | (with_reducible first | exact HK.out | apply KeepBut.set_ | apply keep_drewN | apply keep_drew | apply keep_alloc) | exact HK.out)) hk (.inl rfl)); have n2_ := Aside0.mk (hb); have n3_ := Aside0.mk (hi); clear HO473; clear HK; clear HB; clear HI0; have HO473 := n0_; have HK := n1_; have HB := n2_; have HI0 := n3_; clear n0_ n1_ n2_ n3_; (try clear hb); (try clear hb2); (try clear hk); (try clear hi)))
  go_ret
  exact ⟨by first | rfl | (simp [errW_none, errW_some] <;> rfl) | (simp [*, errW_none, errW_some] <;> rfl), by repeat (first | (with_reducible first | exact HI0.out | apply IsS101.alloc | apply IsS101.drewN | apply IsS101.drew | apply IsS101.set_1) | exact HI0.out), by repeat (first | (with_reducible first | exact HB.out | apply below_alloc | apply pw_below_drewN | apply below_drew1 | refine below_set ?_ (IsS101.ge HI0.out)) | exact HB.out), by repeat (first | (with_reducible first | exact HK.out | apply KeepBut.set_ | apply keep_drewN | apply keep_drew | apply keep_alloc) | exact HK.out)⟩
noncomputable def spec_DrawLatestStarts.f (k : Nat) (l0 : List Int) : Option ((List (S37)) × Int) := (spec_newReader.f l0).bind fun bt476 => ((spec_anyGraph.f bt476.1 bt476.2).bind fun bt479 => ((spec_someDeadline.f k bt476.1 bt479.2).bind fun bt483 => (some (bt479.1, bt483.1))))
theorem spec_DrawLatestStarts.mono : ∀ a0 k, LeO (spec_DrawLatestStarts.f k a0) (spec_DrawLatestStarts.f (k + 1) a0) := by
  intro a0 k
  unfold spec_DrawLatestStarts.f
  repeat' first
      | (with_reducible exact spec_someDeadline.mono _ _ _)
      | (with_reducible exact LeO.refl _)
      | (with_reducible exact LeO.none _)
      | (with_reducible refine LeO.ite ?_ ?_)
      | (with_reducible refine LeO.bind ?_ (fun _ => ?_))
      | exact spec_someDeadline.mono _ _ _
      | exact LeO.none _
      | refine LeO.ite ?_ ?_
      | refine LeO.bind ?_ (fun _ => ?_)
set_option maxHeartbeats 8000000 in
set_option maxRecDepth 100000 in
theorem spec_DrawLatestStarts.calls (k : Nat) (A0 : Option Addr) (c0 : Nat) (l0 : List Int) (r1 : List (S37)) (r2 : Int) (w : World) (hr0 : Kd.C (Kd.int .u8) w A0 l0.length l0) (hc0 : l0.length ≤ c0) (h : spec_DrawLatestStarts.f k l0 = some (r1, r2)) :
    Calls Tryd.prog 35 #[.slice A0 l0.length c0] w fun e w' => ∃ v0_ : Value, e = .returned (.tuple #[v0_, .int .i64 r2]) ∧ Kd.S k37 37 w' w.heap.size (fun _ => True) v0_ r1 ∧ Below w.heap.size w w' := by
  have HR0 := Aside0.mk hr0
  have HC0 := Aside0.mk hc0
  clear hr0 hc0
  have HB := Aside0.mk (Below.refl w.heap.size w)
  have H : ((spec_newReader.f l0).bind fun bt476 => ((spec_anyGraph.f bt476.1 bt476.2).bind fun bt479 => ((spec_someDeadline.f k bt476.1 bt479.2).bind fun bt483 => (some (bt479.1, bt483.1))))) = some (r1, r2) := h
  clear h
  replace H := Option.bind_eq_some_iff.mp H
  obtain ⟨⟨t476, t477⟩, A20, H⟩ := H
  replace H : ((spec_anyGraph.f t476 t477).bind fun bt479 => ((spec_someDeadline.f k t476 bt479.2).bind fun bt483 => (some (bt479.1, bt483.1)))) = some (r1, r2) := H
  have A2 := Aside0.mk A20
  clear A20
  replace H := Option.bind_eq_some_iff.mp H
  obtain ⟨⟨t479, t482⟩, A30, H⟩ := H
  replace H : ((spec_someDeadline.f k t476 t482).bind fun bt483 => (some (t479, bt483.1))) = some (r1, r2) := H
  have A3 := Aside0.mk A30
  clear A30
  replace H := Option.bind_eq_some_iff.mp H
  obtain ⟨⟨t483, t484⟩, A40, H⟩ := H
  replace H : (some (t479, t483)) = some (r1, r2) := H
  have A4 := Aside0.mk A40
  clear A40
  simp only [Option.some.injEq, Prod.mk.injEq] at H
  obtain ⟨rfl, rfl⟩ := H
  go_enter Tryd.func35, Tryd.ntmps35
  go_wp2_with (first | ((with_reducible refine gate_callee (f := 68) rfl ?_); refine goesL_ (some 7) rfl rfl Tryd.func68 (by kernel_rfl) rfl #[.slice A0 l0.length c0] rfl (by (try simp only [List.map_toArray, List.map_cons, List.map_nil]); first | done | rfl | (simp only [List.length_drop, List.length_take]; rfl)) ?_; (with_reducible refine (spec_newReader.calls _ _ l0 t476 t477 w _ ?side1 ?side2 ?side3 A2.out).mono ?_); (case side1 => repeat (first | (with_reducible first | exact HB.out | apply below_alloc | apply pw_below_drewN | apply below_drew1) | exact HB.out)); (case side2 => exact HR0.out); (case side3 => exact HC0.out); rintro e w5 ⟨g478, rfl, hi, hb, hb2⟩; refine ⟨_, rfl, ?_⟩; have n0_ := Aside0.mk (hb); have n1_ := Aside0.mk (hi); clear HB; have HB := n0_; have HI478 := n1_; clear n0_ n1_; (try clear hb); (try clear hb2); (try clear hk); (try clear hi)) | ((with_reducible refine gate_callee (f := 67) rfl ?_); refine goesL_ (some 9) rfl rfl Tryd.func67 (by kernel_rfl) rfl #[.pointer (some ⟨g478, 0, none⟩)] rfl (by (try simp only [List.map_toArray, List.map_cons, List.map_nil]); first | done | rfl | (simp only [List.length_drop, List.length_take]; rfl)) ?_; (with_reducible refine (spec_anyGraph.calls g478 t476 t477 t479 t482 w _ ?side1 ?side2 A3.out).mono ?_); (case side1 => repeat (first | (with_reducible first | exact HI478.out | apply IsS101.alloc | apply IsS101.drewN | apply IsS101.drew | apply IsS101.set_1) | exact HI478.out)); (case side2 => repeat (first | (with_reducible first | exact HB.out | apply below_alloc | apply pw_below_drewN | apply below_drew1 | refine below_set ?_ (IsS101.ge HI478.out)) | exact HB.out)); rintro e w6 ⟨v480, rfl, ho0, hi, hb, hk⟩; refine ⟨_, rfl, ?_⟩; have n0_ := Aside0.mk (Kd.S_lower ho0 (below_size (by repeat (first | (with_reducible first | exact HB.out | apply below_alloc | apply pw_below_drewN | apply below_drew1 | refine below_set ?_ (IsS101.ge HI478.out)) | exact HB.out)))); have n1_ := Aside0.mk (hb); have n2_ := Aside0.mk (hi); clear HB; clear HI478; have HO481 := n0_; have HB := n1_; have HI478 := n2_; clear n0_ n1_ n2_; (try clear hb); (try clear hb2); (try clear hk); (try clear hi); (try clear ho0)) | ((with_reducible refine gate_callee (f := 72) rfl ?_); refine goesL_ (some 12) rfl rfl Tryd.func72 (by kernel_rfl) rfl #[.pointer (some ⟨g478, 0, none⟩)] rfl (by (try simp only [List.map_toArray, List.map_cons, List.map_nil]); first | done | rfl | (simp only [List.length_drop, List.length_take]; rfl)) ?_; (with_reducible refine (spec_someDeadline.calls k g478 t476 t482 t483 t484 w _ ?side1 ?side2 A4.out).mono ?_); (case side1 => repeat (first | (with_reducible first | exact HI478.out | apply IsS101.alloc | apply IsS101.drewN | apply IsS101.drew | apply IsS101.set_1) | exact HI478.out)); (case side2 => repeat (first | (with_reducible first | exact HB.out | apply below_alloc | apply pw_below_drewN | apply below_drew1 | refine below_set ?_ (IsS101.ge HI478.out)) | exact HB.out)); rintro e w7 ⟨rfl, hi, hb, hk⟩; refine ⟨_, rfl, ?_⟩; have n0_ := Aside0.mk (Kd.S_mono (Kd.S_keep (IsS101.apartS (show IsS101 w _ g478 t476 t482 from by repeat (first | (with_reducible first | exact HI478.out | apply IsS101.alloc | apply IsS101.drewN | apply IsS101.drew | apply IsS101.set_1) | exact HI478.out)) (by (with_reducible repeat (first | apply Kd.S_alloc | apply Kd.S_drewN | apply Kd.S_drew)); exact HO481.out) (by decide)) hk (fun _ h => h.2)) (fun _ h => h.1)); have n1_ := Aside0.mk (hb); have n2_ := Aside0.mk (hi); clear HO481; clear HB; clear HI478; have HO481 := n0_; have HB := n1_; have HI478 := n2_; clear n0_ n1_ n2_; (try clear hb); (try clear hb2); (try clear hk); (try clear hi)))
  go_ret2
  exact ⟨_, by first | rfl | (simp [errW_none, errW_some] <;> rfl) | (simp [*, errW_none, errW_some] <;> rfl), by (with_reducible repeat (first | apply Kd.S_alloc | apply Kd.S_drewN | apply Kd.S_drew)); exact HO481.out, by repeat (first | (with_reducible first | exact HB.out | apply below_alloc | apply pw_below_drewN | apply below_drew1 | refine below_set ?_ (IsS101.ge HI478.out)) | exact HB.out)⟩
end Go.Proofs.YtekajandipdlhaaDoor.P
end
section
set_option linter.unusedVariables false
set_option linter.unusedSimpArgs false
namespace Go.Proofs.YtekajandipdlhaaDoor.Core
open Go Go.RowKit Go.Proofs.YtekajandipdlhaaDoorW.PrintWords Go.Proofs.YtekajandipdlhaaDoorW.PrintMore Go.Proofs.YtekajandipdlhaaDoor.P
abbrev big : Nat := 4611686018427387904
theorem w64s {n : Nat} (h : n < big) : wrap64 ((n : Int) + 1) = ((n + 1 : Nat) : Int) := by rw [w64 (by omega) (by unfold big at h; omega)]; omega
theorem inRange_eq (x a b : Int) : spec_inRange.f x a b = some (decide (a ≤ x ∧ x ≤ b)) := by
  unfold spec_inRange.f
  by_cases h : a ≤ x
  · rw [if_pos h]; simp; omega
  · rw [if_neg h]; simp; omega
theorem copyInts_eq {l : List Int} (h : l.length < big) (h2 : l.length < 17592186044416) : spec_copyInts.f l = some l := by
  unfold spec_copyInts.f
  simp [h2]
theorem ev_isIn_from (L : List Int) (x : Int) (hL : L.length < big) : ∀ (r pre : List Int), L = pre ++ r → Ev (fun k => spec_isIn.l0 k L x (pre.length : Int)) (decide (x ∈ r))
  | [], pre, hp => by
    refine Ev.succ ((Ev.const _).of fun k => ?_)
    rw [List.append_nil] at hp
    subst hp
    rw [spec_isIn.l0, if_neg (by omega)]
    simp
  | y :: r, pre, hp => by
    have hlen : L.length = pre.length + (r.length + 1) := by rw [hp]; simp
    have hrd : rd L (pre.length : Int) = y := by rw [hp]; exact rd_mid rfl
    refine Ev.succ ?_
    by_cases hy : y = x
    · refine (Ev.const _).of fun k => ?_
      rw [spec_isIn.l0, if_pos (by omega), if_pos (by omega), hrd, if_pos hy]
      simp [hy]
    · have ih := ev_isIn_from L x hL r (pre ++ [y]) (by rw [hp]; simp)
      have e : decide (x ∈ y :: r) = decide (x ∈ r) := by
        have : x ≠ y := fun h => hy h.symm
        simp [this]
      rw [e]
      refine ih.of fun k => ?_
      rw [spec_isIn.l0, if_pos (by omega), if_pos (by omega), hrd, if_neg hy, w64s (by omega)]
      simp
theorem ev_isIn {L : List Int} (hL : L.length < big) (x : Int) : Ev (fun k => spec_isIn.f k L x) (decide (x ∈ L)) := ev_isIn_from L x hL L [] rfl
theorem ev_allIn_from (L : List Int) (a b : Int) (hL : L.length < big) : ∀ (r pre : List Int), L = pre ++ r → Ev (fun k => spec_allIn.l0 k L a b (pre.length : Int)) (decide (∀ x ∈ r, a ≤ x ∧ x ≤ b))
  | [], pre, hp => by
    refine Ev.succ ((Ev.const _).of fun k => ?_)
    rw [List.append_nil] at hp
    subst hp
    rw [spec_allIn.l0, if_neg (by omega)]
    simp
  | y :: r, pre, hp => by
    have hlen : L.length = pre.length + (r.length + 1) := by rw [hp]; simp
    have hrd : rd L (pre.length : Int) = y := by rw [hp]; exact rd_mid rfl
    refine Ev.succ ?_
    by_cases hy : a ≤ y ∧ y ≤ b
    · have ih := ev_allIn_from L a b hL r (pre ++ [y]) (by rw [hp]; simp)
      have e : decide (∀ x ∈ y :: r, a ≤ x ∧ x ≤ b) = decide (∀ x ∈ r, a ≤ x ∧ x ≤ b) := by simp [hy]
      rw [e]
      refine ih.of fun k => ?_
      rw [spec_allIn.l0, if_pos (by omega), if_pos (by omega), hrd, inRange_eq, decide_eq_true hy, Option.bind_some, if_pos rfl, w64s (by omega)]
      simp
    · refine (Ev.const _).of fun k => ?_
      rw [spec_allIn.l0, if_pos (by omega), if_pos (by omega), hrd, inRange_eq, decide_eq_false hy, Option.bind_some, if_neg (by simp)]
      simp only [Option.some.injEq]
      rw [eq_comm, decide_eq_false_iff_not]
      exact fun h => hy (h y List.mem_cons_self)
theorem ev_allIn {L : List Int} (hL : L.length < big) (a b : Int) : Ev (fun k => spec_allIn.f k L a b) (decide (∀ x ∈ L, a ≤ x ∧ x ≤ b)) := ev_allIn_from L a b hL L [] rfl
def ascD : List Int → Bool
  | [] => true
  | [_] => true
  | x :: y :: r => decide (x < y) && ascD (y :: r)
theorem ev_asc_from (L : List Int) (hL : L.length < big) : ∀ (r pre : List Int) (x : Int), L = pre ++ x :: r → Ev (fun k => spec_ascends.l0 k L ((pre.length + 1 : Nat) : Int)) (ascD (x :: r))
  | [], pre, x, hp => by
    have hlen : L.length = pre.length + 1 := by rw [hp]; simp
    refine Ev.succ ((Ev.const _).of fun k => ?_)
    rw [spec_ascends.l0, if_neg (by omega)]
    rfl
  | y :: r, pre, x, hp => by
    have hlen : L.length = pre.length + (r.length + 1 + 1) := by rw [hp]; simp
    have hw : wrap64 (((pre.length + 1 : Nat) : Int) - 1) = (pre.length : Int) := by rw [w64 (by omega) (by unfold big at hL; omega)]; omega
    have hrd : rd L (pre.length : Int) = x := by rw [hp]; exact rd_mid rfl
    have hrd2 : rd L ((pre.length + 1 : Nat) : Int) = y := by
      have : L = (pre ++ [x]) ++ y :: r := by rw [hp]; simp
      rw [this]; exact rd_mid (by simp)
    refine Ev.succ ?_
    by_cases hy : x < y
    · have ih := ev_asc_from L hL r (pre ++ [x]) y (by rw [hp]; simp)
      have e : ascD (x :: y :: r) = ascD (y :: r) := by simp [ascD, hy]
      rw [e]
      refine ih.of fun k => ?_
      rw [spec_ascends.l0, if_pos (by omega), if_pos (by omega), hw, if_pos (by omega), if_pos (by omega), hrd, hrd2, if_neg (by omega), w64s (by omega)]
      simp
    · have e : ascD (x :: y :: r) = false := by simp [ascD, hy]
      rw [e]
      refine (Ev.const _).of fun k => ?_
      rw [spec_ascends.l0, if_pos (by omega), if_pos (by omega), hw, if_pos (by omega), if_pos (by omega), hrd, hrd2, if_pos (by omega)]
theorem ev_ascends {L : List Int} (hL : L.length < big) : Ev (fun k => spec_ascends.f k L) (ascD L) := by
  cases L with
  | nil =>
    refine Ev.of (Ev.succ ((Ev.const true).of (g := fun k => spec_ascends.l0 (k + 1) [] 1) fun k => ?_)) (fun k => rfl)
    rw [spec_ascends.l0, if_neg (by simp)]
  | cons x r => exact ev_asc_from (x :: r) hL r [] x rfl
theorem ev_allDone_from (L M : List Int) (hL : L.length < big) (hM : M.length < big) : ∀ (r pre : List Int), L = pre ++ r → Ev (fun k => spec_allDone.l0 k L M (pre.length : Int)) (decide (∀ x ∈ r, x ∈ M))
  | [], pre, hp => by
    refine Ev.succ ((Ev.const _).of fun k => ?_)
    rw [List.append_nil] at hp
    subst hp
    rw [spec_allDone.l0, if_neg (by omega)]
    simp
  | y :: r, pre, hp => by
    have hlen : L.length = pre.length + (r.length + 1) := by rw [hp]; simp
    have hrd : rd L (pre.length : Int) = y := by rw [hp]; exact rd_mid rfl
    have hi := ev_isIn hM y
    refine Ev.succ ?_
    by_cases hy : y ∈ M
    · have ih := ev_allDone_from L M hL hM r (pre ++ [y]) (by rw [hp]; simp)
      have e : decide (∀ x ∈ y :: r, x ∈ M) = decide (∀ x ∈ r, x ∈ M) := by simp [hy]
      rw [e]
      rw [decide_eq_true hy] at hi
      refine (hi.bind (g := fun k t => if t = true then spec_allDone.l0 k L M ((pre ++ [y]).length : Int) else some false) (ih.of fun k => if_pos rfl)).of fun k => ?_
      rw [spec_allDone.l0, if_pos (by omega), if_pos (by omega), hrd, w64s (by omega)]
      simp
    · have e : decide (∀ x ∈ y :: r, x ∈ M) = false := by
        rw [decide_eq_false_iff_not]
        exact fun h => hy (h y List.mem_cons_self)
      rw [e]
      rw [decide_eq_false hy] at hi
      refine (hi.bind (g := fun k t => if t = true then spec_allDone.l0 k L M ((pre ++ [y]).length : Int) else some false) ((Ev.const false).of fun k => if_neg (by simp))).of fun k => ?_
      rw [spec_allDone.l0, if_pos (by omega), if_pos (by omega), hrd, w64s (by omega)]
      simp
theorem ev_allDone {L M : List Int} (hL : L.length < big) (hM : M.length < big) : Ev (fun k => spec_allDone.f k L M) (decide (∀ x ∈ L, x ∈ M)) := ev_allDone_from L M hL hM L [] rfl
def needsOk (n : Nat) (l : List Int) : Prop := (∀ x ∈ l, 0 ≤ x ∧ x ≤ (n : Int) - 1) ∧ ascD l = true
instance (n : Nat) (l : List Int) : Decidable (needsOk n l) := by unfold needsOk; infer_instance
theorem ev_validTask {t : Tk} (ht : t.f1.length < big) {n : Nat} (hn : n < big) : Ev (fun k => spec_validTask.f k t.f0 t.f1 t.f2 t.f3 (n : Int)) (decide (taskOk t ∧ needsOk n t.f1)) := by
  have hw : wrap64 ((n : Int) - 1) = (n : Int) - 1 := w64 (by omega) (by unfold big at hn; omega)
  have hA := ev_allIn ht 0 ((n : Int) - 1)
  have hB := ev_ascends ht
  by_cases h1 : 1 ≤ t.f0 ∧ t.f0 ≤ 20
  · by_cases h2 : 0 ≤ t.f2 ∧ t.f2 ≤ 2
    · by_cases h3 : 1 ≤ t.f3 ∧ t.f3 ≤ 4
      · have hok : taskOk t := ⟨h1, h2, h3⟩
        have hu : ∀ k, spec_validTask.f k t.f0 t.f1 t.f2 t.f3 (n : Int) = (spec_allIn.f k t.f1 0 ((n : Int) - 1)).bind fun t113 => (if t113 = true then ((spec_ascends.f k t.f1).bind fun t114 => (some t114)) else (some false)) := by
          intro k
          unfold spec_validTask.f
          rw [inRange_eq, inRange_eq, inRange_eq, decide_eq_true h1, decide_eq_true h2, decide_eq_true h3, hw]
          rfl
        refine Ev.of ?_ hu
        refine (hA.bind (g := fun k t113 => if t113 = true then ((spec_ascends.f k t.f1).bind fun t114 => (some t114)) else (some false)) (b := decide (taskOk t ∧ needsOk n t.f1)) ?_)
        by_cases h4 : ∀ x ∈ t.f1, 0 ≤ x ∧ x ≤ (n : Int) - 1
        · rw [decide_eq_true h4]
          have e : decide (taskOk t ∧ needsOk n t.f1) = ascD t.f1 := by
            cases h5 : ascD t.f1
            · rw [decide_eq_false_iff_not]; intro h; have := h.2.2; rw [h5] at this; cases this
            · rw [decide_eq_true_eq]; exact ⟨hok, h4, h5⟩
          rw [e]
          refine (hB.bind (g := fun _ t114 => some t114) (Ev.const _)).of fun k => ?_
          rw [if_pos rfl]
        · rw [decide_eq_false h4]
          have e : decide (taskOk t ∧ needsOk n t.f1) = false := by rw [decide_eq_false_iff_not]; exact fun h => h4 h.2.1
          rw [e]
          exact (Ev.const false).of fun k => if_neg (by simp)
      · have e : decide (taskOk t ∧ needsOk n t.f1) = false := by rw [decide_eq_false_iff_not]; exact fun h => h3 h.1.2.2
        rw [e]
        refine (Ev.const false).of fun k => ?_
        unfold spec_validTask.f
        rw [inRange_eq, inRange_eq, inRange_eq, decide_eq_true h1, decide_eq_true h2, decide_eq_false h3]
        rfl
    · have e : decide (taskOk t ∧ needsOk n t.f1) = false := by rw [decide_eq_false_iff_not]; exact fun h => h2 h.1.2.1
      rw [e]
      refine (Ev.const false).of fun k => ?_
      unfold spec_validTask.f
      rw [inRange_eq, inRange_eq, decide_eq_true h1, decide_eq_false h2]
      rfl
  · have e : decide (taskOk t ∧ needsOk n t.f1) = false := by rw [decide_eq_false_iff_not]; exact fun h => h1 h.1.1
    rw [e]
    refine (Ev.const false).of fun k => ?_
    unfold spec_validTask.f
    rw [inRange_eq, decide_eq_false h1]
    rfl
/-- All lists are of a size that fits. -/
def Fits (g : List Tk) : Prop := g.length < big ∧ ∀ t ∈ g, t.f1.length < big
theorem ev_tasksFine_from (g : List Tk) (hg : Fits g) : ∀ (r pre : List Tk), g = pre ++ r → Ev (fun k => spec_tasksFine.l0 k g (pre.length : Int)) (decide ((∀ t ∈ r, taskOk t ∧ needsOk g.length t.f1) ∧ g.length ≤ 8))
  | [], pre, hp => by
    refine Ev.succ ((Ev.const _).of fun k => ?_)
    rw [List.append_nil] at hp
    subst hp
    rw [spec_tasksFine.l0, if_neg (by omega)]
    congr 1
    rw [decide_eq_decide]
    constructor
    · intro h; exact ⟨by simp, by omega⟩
    · intro h; omega
  | t :: r, pre, hp => by
    have hlen : g.length = pre.length + (r.length + 1) := by rw [hp]; simp
    have hbig := hg.1
    have hrd : rd_T37 g (pre.length : Int) = t := by rw [hp]; exact rdT_mid rfl
    have hv := ev_validTask (hg.2 t (by rw [hp]; simp)) hg.1
    refine Ev.succ ?_
    by_cases hy : taskOk t ∧ needsOk g.length t.f1
    · have ih := ev_tasksFine_from g hg r (pre ++ [t]) (by rw [hp]; simp)
      have e : decide ((∀ t' ∈ t :: r, taskOk t' ∧ needsOk g.length t'.f1) ∧ g.length ≤ 8) = decide ((∀ t ∈ r, taskOk t ∧ needsOk g.length t.f1) ∧ g.length ≤ 8) := by simp [hy]
      rw [e]
      rw [decide_eq_true hy] at hv
      refine (hv.bind (g := fun k b => if b = true then spec_tasksFine.l0 k g ((pre ++ [t]).length : Int) else some false) (ih.of fun k => if_pos rfl)).of fun k => ?_
      rw [spec_tasksFine.l0, if_pos (by omega), if_pos (by omega), hrd, w64s (by omega)]
      simp
    · have e : decide ((∀ t' ∈ t :: r, taskOk t' ∧ needsOk g.length t'.f1) ∧ g.length ≤ 8) = false := by
        rw [decide_eq_false_iff_not]
        exact fun h => hy (h.1 t List.mem_cons_self)
      rw [e]
      rw [decide_eq_false hy] at hv
      refine (hv.bind (g := fun k b => if b = true then spec_tasksFine.l0 k g ((pre ++ [t]).length : Int) else some false) ((Ev.const false).of fun k => if_neg (by simp))).of fun k => ?_
      rw [spec_tasksFine.l0, if_pos (by omega), if_pos (by omega), hrd, w64s (by omega)]
      simp
def fineD (g : List Tk) : Prop := (∀ t ∈ g, taskOk t ∧ needsOk g.length t.f1) ∧ g.length ≤ 8
instance (g : List Tk) : Decidable (fineD g) := by unfold fineD; infer_instance
theorem ev_tasksFine {g : List Tk} (hg : Fits g) : Ev (fun k => spec_tasksFine.f k g) (decide (fineD g)) := ev_tasksFine_from g hg g [] rfl
end Go.Proofs.YtekajandipdlhaaDoor.Core
end
section
set_option linter.unusedVariables false
set_option linter.unusedSimpArgs false
namespace Go.Proofs.YtekajandipdlhaaDoor.Core
open Go Go.RowKit Go.Proofs.YtekajandipdlhaaDoorW.PrintWords Go.Proofs.YtekajandipdlhaaDoorW.PrintMore Go.Proofs.YtekajandipdlhaaDoor.P
/-- A reader's state: few bytes, not far read. -/
def RS (s0 : List Int) (N p : Int) : Prop := s0.length ≤ 2000 ∧ (∀ x ∈ s0, 0 ≤ x ∧ x ≤ 255) ∧ 0 ≤ p ∧ p ≤ N ∧ N ≤ 100000
theorem RS.mono {s0 : List Int} {N M p : Int} (h : RS s0 N p) (hM : N ≤ M) (h2 : M ≤ 100000) : RS s0 M p := ⟨h.1, h.2.1, h.2.2.1, by have := h.2.2.2.1; omega, h2⟩
theorem rd_byte {s0 : List Int} {N p i : Int} (h : RS s0 N p) (h0 : 0 ≤ i) (h1 : i < (s0.length : Int)) : 0 ≤ rd s0 i ∧ rd s0 i ≤ 255 := by
  refine h.2.1 _ ?_
  unfold rd
  rw [List.getD_eq_getElem?_getD, List.getElem?_eq_getElem (by omega), Option.getD_some]
  exact List.getElem_mem _
/-- What pick answers. -/
def PickOk (n : Int) (s0 : List Int) (N : Int) (r : Int × Int) : Prop := (n < 1 → r.1 = 0) ∧ (1 ≤ n → 0 ≤ r.1 ∧ r.1 < n) ∧ RS s0 (N + 1) r.2
theorem ev_pick {s0 : List Int} {N p n : Int} (h : RS s0 N p) (hN : N < 100000) : EvP (fun k => spec_reader_pick.f k s0 p n) (PickOk n s0 N) := by
  obtain ⟨hl, hb, h0, h1, _⟩ := h
  have hp : wrap64 (p + 1) = p + 1 := w64 (by omega) (by omega)
  have hp1 : wrap64 (p + 1 - 1) = p := by rw [Int.add_sub_cancel]; exact w64 (by omega) (by omega)
  have hRS : RS s0 (N + 1) (p + 1) := ⟨hl, hb, by omega, by omega, by omega⟩
  have hz : EvP (fun k => spec_reader_pick.j0 k n true s0 (p + 1)) (fun r => r = (0, p + 1)) := by
    refine EvP.succ ?_
    simp only [spec_reader_pick.j0, if_true]
    exact EvP.ret rfl
  unfold spec_reader_pick.f
  rw [hp]
  refine EvP.ite (fun hn => hz.mono fun a e => ?_) (fun hn => ?_)
  · subst e; exact ⟨fun _ => rfl, fun _ => by omega, hRS⟩
  by_cases he : s0.length = 0
  · rw [show ((s0.length : Int) == 0) = true by simp [he]]
    exact hz.mono fun a e => by subst e; exact ⟨fun _ => rfl, fun _ => by omega, hRS⟩
  rw [show ((s0.length : Int) == 0) = false from beq_eq_false_iff_ne.2 (by omega)]
  refine EvP.succ ?_
  simp only [spec_reader_pick.j0, hp1, Bool.false_eq_true, if_false]
  refine EvP.ite (fun hlt => ?_) (fun hge => ?_)
  · have hr := hb (rd s0 p) (by
      unfold rd
      rw [List.getD_eq_getElem?_getD, List.getElem?_eq_getElem (by omega), Option.getD_some]
      exact List.getElem_mem _)
    refine EvP.pos h0 (EvP.neg (by omega) (EvP.ret ?_))
    rw [w64 (n := rd s0 p) (by omega) (by omega)]
    exact ⟨fun _ => by omega, fun _ => tmod_lt hr.1 (by omega), hRS⟩
  · have hpos : (0 : Int) < s0.length := by omega
    have hm1 := tmod_lt h0 hpos
    have h7 : wrap64 (p * 7) = p * 7 := w64 (by omega) (by omega)
    have h73 : wrap64 (p * 7 + 3) = p * 7 + 3 := w64 (by omega) (by omega)
    have hm2 := tmod_lt (a := p * 7 + 3) (by omega) hpos
    have hd := tdiv_le h0 hpos
    have hr1 := rd_byte ⟨hl, hb, h0, h1, by omega⟩ hm1.1 hm1.2
    have hr2 := rd_byte ⟨hl, hb, h0, h1, by omega⟩ hm2.1 hm2.2
    rw [h7, h73]
    refine EvP.neg (by omega) (EvP.pos hm1.1 (EvP.pos hm1.2 (EvP.pos hm2.1 (EvP.pos hm2.2 (EvP.neg (by omega) (EvP.ret ?_))))))
    generalize rd s0 (Int.tmod p s0.length) = x1 at *
    generalize rd s0 (Int.tmod (p * 7 + 3) s0.length) = x2 at *
    generalize Int.tdiv p s0.length = dd at *
    have e : wrap64 (wrap64 (wrap64 (wrap64 (wrap64 x1 * 131) + wrap64 (wrap64 x2 * 1117)) + wrap64 (p * 29)) + wrap64 (wrap64 dd * 53)) = x1 * 131 + x2 * 1117 + p * 29 + dd * 53 := by
      rw [w64 (n := x1) (by omega) (by omega), w64 (n := x2) (by omega) (by omega), w64 (n := dd) (by omega) (by omega), w64 (n := x1 * 131) (by omega) (by omega), w64 (n := x2 * 1117) (by omega) (by omega), w64 (n := x1 * 131 + x2 * 1117) (by omega) (by omega), w64 (n := p * 29) (by omega) (by omega), w64 (n := x1 * 131 + x2 * 1117 + p * 29) (by omega) (by omega), w64 (n := dd * 53) (by omega) (by omega), w64 (by omega) (by omega)]
    rw [e]
    generalize hy : x1 * 131 + x2 * 1117 + p * 29 + dd * 53 = y at *
    have hq := tdiv_le (a := y) (n := 64) (by omega) (by omega)
    rw [w64 (n := Int.tdiv y 64) (by omega) (by omega)]
    have hx := i64_xor y (Int.tdiv y 64) (by omega) (by omega) (by omega) (by omega)
    exact ⟨fun _ => by omega, fun _ => tmod_lt hx.1 (by omega), hRS⟩
theorem ev_one {s0 : List Int} {N p : Int} (h : RS s0 N p) (hN : N < 100000) (L : List Int) (hL : 0 < L.length) : EvP (fun k => spec_reader_one.f k s0 p L) (fun r => r.1 ∈ L ∧ RS s0 (N + 1) r.2) := by
  unfold spec_reader_one.f
  refine (ev_pick h hN).bind fun a ha => ?_
  have h2 := ha.2.1 (by omega)
  refine EvP.pos h2.1 (EvP.pos h2.2 (EvP.ret ⟨?_, ha.2.2⟩))
  show rd L a.1 ∈ L
  unfold rd
  rw [List.getD_eq_getElem?_getD, List.getElem?_eq_getElem (by omega), Option.getD_some]
  exact List.getElem_mem _
theorem ev_spoil {s0 : List Int} {N p : Int} (h : RS s0 N p) (hN : N + 2 < 100000) (L : List Int) (n : Int) (hL : L.length ≤ 10000) : EvP (fun k => spec_reader_spoil.f k s0 p L n) (fun r => r.1.length ≤ L.length + 1 ∧ RS s0 (N + 3) r.2) := by
  unfold spec_reader_spoil.f
  rw [show spec_copyInts.f L = some L from copyInts_eq (by unfold big; omega) (by omega)]
  refine EvP.sb ?_
  refine (ev_pick h (by omega)).bind fun a ha => ?_
  have hm := ha.2.2.mono (M := N + 3) (by omega) (by omega)
  refine EvP.ite (fun _ => EvP.pos (by omega) (EvP.ret ⟨by simp, hm⟩)) (fun _ => ?_)
  refine EvP.ite (fun _ => EvP.ite (fun h0 => EvP.pos (by omega) (EvP.ret ⟨by simp; omega, hm⟩)) (fun _ => EvP.ret ⟨by show L.length ≤ _; omega, hm⟩)) (fun _ => ?_)
  refine EvP.ite (fun _ => EvP.ite (fun h0 => ?_) (fun _ => EvP.ret ⟨by show L.length ≤ _; omega, hm⟩)) (fun _ => EvP.ret ⟨by show L.length ≤ _; omega, hm⟩)
  refine (ev_pick ha.2.2 (by omega)).bind fun b hb => ?_
  refine (ev_one hb.2.2 (by omega) _ (by simp)).bind fun c hc => ?_
  have h2 := hb.2.1 (by omega)
  exact EvP.pos h2.1 (EvP.pos h2.2 (EvP.ret ⟨by simp, hc.2.mono (by omega) (by omega)⟩))
/-- A graph of few tasks, whose lists of needs are short. -/
def GSmall (n m : Nat) (g : List Tk) : Prop := g.length ≤ n ∧ ∀ t ∈ g, t.f1.length ≤ m
theorem GSmall.fits {n m : Nat} {g : List Tk} (h : GSmall n m g) (hn : n < big) (hm : m < big) : Fits g := ⟨by have := h.1; omega, fun t ht => by have := h.2 t ht; omega⟩
theorem ev_turned_in (x0 : List Tk) (x3 : List Tk) (x4 x5 : Int) (f0 f2 f3 : Int) (L : List Int) (hL : L.length ≤ 10000) (R : List Tk → Prop) (hx3 : x3.length ≤ 100) (hk : ∀ L2 : List Int, L2.length = L.length → EvP (fun k => spec_turned.l0 k x0 (x3 ++ [⟨f0, L2, f2, f3⟩]) x4 (wrap64 (x5 - 1))) R) :
    ∀ (m : Nat) (x7 : List Int), m ≤ L.length → x7.length + m = L.length → EvP (fun k => spec_turned.l1 k x0 x3 x4 x5 x7 ((m : Int) - 1) f0 L f2 f3) R
  | 0, x7, _, h => by
    refine EvP.succ ?_
    simp only [spec_turned.l1]
    exact EvP.neg (by omega) (EvP.pos (by omega) (hk x7 (by omega)))
  | m + 1, x7, hm, h => by
    refine EvP.succ ?_
    simp only [spec_turned.l1]
    refine EvP.pos (by omega) (EvP.pos (by omega) (EvP.pos (by omega) (EvP.pos (by omega) ?_)))
    have := ev_turned_in x0 x3 x4 x5 f0 f2 f3 L hL R hx3 hk m (x7 ++ [wrap64 (x4 - rd L (((m + 1 : Nat) : Int) - 1))]) (by omega) (by simp; omega)
    rw [show wrap64 (((m + 1 : Nat) : Int) - 1 - 1) = (m : Int) - 1 by rw [w64 (by omega) (by omega)]; omega]
    exact this
theorem ev_turned {n m : Nat} {g : List Tk} (hg : GSmall n m g) (hn : n ≤ 100) (hm : m ≤ 10000) : EvP (fun k => spec_turned.f k g) (fun r => r.length = g.length ∧ GSmall n m r) := by
  have key : ∀ (j : Nat) (x3 : List Tk) (x4 : Int), j ≤ g.length → x3.length + j = g.length → (∀ t ∈ x3, t.f1.length ≤ m) → EvP (fun k => spec_turned.l0 k g x3 x4 ((j : Int) - 1)) (fun r => r.length = g.length ∧ GSmall n m r) := by
    intro j
    induction j with
    | zero =>
      intro x3 x4 hj hl ht
      refine EvP.succ ?_
      simp only [spec_turned.l0]
      exact EvP.neg (by omega) (EvP.ret ⟨by show x3.length = _; omega, by have := hg.1; show x3.length ≤ n; omega, ht⟩)
    | succ j ih =>
      intro x3 x4 hj hl ht
      have hgl := hg.1
      refine EvP.succ ?_
      simp only [spec_turned.l0]
      refine EvP.pos (by omega) (EvP.pos (by omega) (EvP.pos (by omega) ?_))
      have hmem : rd_T37 g (((j + 1 : Nat) : Int) - 1) ∈ g := by
        unfold rd_T37
        rw [List.getD_eq_getElem?_getD, List.getElem?_eq_getElem (by omega), Option.getD_some]
        exact List.getElem_mem _
      have hlen := hg.2 _ hmem
      generalize rd_T37 g (((j + 1 : Nat) : Int) - 1) = t at *
      rw [show wrap64 ((t.f1.length : Int) - 1) = (t.f1.length : Int) - 1 from w64 (by omega) (by omega)]
      refine ev_turned_in g x3 x4 (((j + 1 : Nat) : Int) - 1) t.f0 t.f2 t.f3 t.f1 (by omega) _ (by omega) (fun L2 h2 => ?_) t.f1.length [] (Nat.le_refl _) (by simp)
      rw [show wrap64 (((j + 1 : Nat) : Int) - 1 - 1) = (j : Int) - 1 by rw [w64 (by omega) (by omega)]; omega]
      refine ih _ _ (by omega) (by simp; omega) (fun u hu => ?_)
      rcases List.mem_append.1 hu with hu | hu
      · exact ht u hu
      · rw [List.mem_singleton.1 hu]; show L2.length ≤ m; omega
  have hgl := hg.1
  unfold spec_turned.f
  rw [show wrap64 ((g.length : Int) - 1) = (g.length : Int) - 1 from w64 (by omega) (by omega)]
  exact key g.length [] _ (Nat.le_refl _) (by simp) (by simp)
theorem ev_some_in (g : List Tk) (x6 : Int) (s0 : List Int) (f0 f2 f3 : Int) (N : Int) (hg : g.length ≤ 8) (hN : N + 8 < 100000) (R : List Tk × Int → Prop)
    (hk : ∀ (L : List Int) (p : Int), L.length ≤ 8 → RS s0 (N + 8) p → EvP (fun k => spec_someGraph.l0 k (g ++ [⟨f0, L, f2, f3⟩]) (wrap64 (x6 - 1)) s0 p) R) :
    ∀ (d i : Nat) (L : List Int) (p : Int), i + d = g.length → L.length ≤ i → RS s0 (N + i) p → EvP (fun k => spec_someGraph.l1 k g x6 (i : Int) s0 p f0 L f2 f3) R
  | 0, i, L, p, h, hL, hp => by
    refine EvP.succ ?_
    simp only [spec_someGraph.l1]
    exact EvP.neg (by omega) (EvP.pos (by omega) (hk L p (by omega) (hp.mono (by omega) (by omega))))
  | d + 1, i, L, p, h, hL, hp => by
    refine EvP.succ ?_
    simp only [spec_someGraph.l1]
    refine EvP.pos (by omega) ?_
    refine (ev_pick hp (by omega)).bind fun a ha => ?_
    have hp2 : RS s0 (N + ((i + 1 : Nat) : Int)) a.2 := ha.2.2.mono (by omega) (by omega)
    rw [show wrap64 ((i : Int) + 1) = ((i + 1 : Nat) : Int) by rw [w64 (by omega) (by omega)]; omega]
    refine EvP.ite (fun _ => EvP.pos (by omega) ?_) (fun _ => ?_)
    · exact ev_some_in g x6 s0 f0 f2 f3 N hg hN R hk d (i + 1) _ _ (by omega) (by simp; omega) hp2
    · exact ev_some_in g x6 s0 f0 f2 f3 N hg hN R hk d (i + 1) _ _ (by omega) (by omega) hp2
theorem ev_some_out (s0 : List Int) : ∀ (j : Nat) (g : List Tk) (N p : Int), g.length + j ≤ 8 → N + j * 11 + 1 < 100000 → (∀ t ∈ g, t.f1.length ≤ 8) → RS s0 N p →
    EvP (fun k => spec_someGraph.l0 k g (j : Int) s0 p) (fun r => GSmall 8 8 r.1 ∧ RS s0 (N + j * 11 + 1) r.2)
  | 0, g, N, p, hg, hN, ht, hp => by
    refine EvP.succ ?_
    simp only [spec_someGraph.l0]
    refine EvP.neg (by omega) ?_
    refine EvP.ite (fun h1 => ?_) (fun _ => EvP.ret ⟨⟨by show g.length ≤ 8; omega, ht⟩, hp.mono (by omega) (by omega)⟩)
    refine (ev_pick hp (by omega)).bind fun a ha => ?_
    refine EvP.ite (fun _ => ?_) (fun _ => EvP.ret ⟨⟨by show g.length ≤ 8; omega, ht⟩, ha.2.2.mono (by omega) (by omega)⟩)
    refine (ev_turned (n := 8) (m := 8) ⟨by omega, ht⟩ (by omega) (by omega)).bind fun r hr => ?_
    exact EvP.ret ⟨hr.2, ha.2.2.mono (by omega) (by omega)⟩
  | j + 1, g, N, p, hg, hN, ht, hp => by
    refine EvP.succ ?_
    simp only [spec_someGraph.l0]
    refine EvP.pos (by omega) ?_
    refine (ev_one hp (by omega) _ (by simp)).bind fun a ha => ?_
    refine (ev_pick ha.2 (by omega)).bind fun b hb => ?_
    refine (ev_pick hb.2.2 (by omega)).bind fun c hc => ?_
    refine ev_some_in g ((j + 1 : Nat) : Int) s0 a.1 b.1 (wrap64 (1 + c.1)) (N + 1 + 1 + 1) (by omega) (by omega) _ (fun L q hL hq => ?_) g.length 0 [] _ (by omega) (by simp) (hc.2.2.mono (by omega) (by omega))
    rw [show wrap64 (((j + 1 : Nat) : Int) - 1) = (j : Int) by rw [w64 (by omega) (by omega)]; omega]
    refine (ev_some_out s0 j _ (N + 11) q (by simp; omega) (by omega) (fun u hu => ?_) (hq.mono (by omega) (by omega))).mono fun r hr => ⟨hr.1, hr.2.mono (by omega) (by omega)⟩
    rcases List.mem_append.1 hu with hu | hu
    · exact ht u hu
    · rw [List.mem_singleton.1 hu]; exact hL
theorem ev_someGraph {s0 : List Int} {N p : Int} (h : RS s0 N p) (hN : N + 100 < 100000) (a : Int) (ha : 0 ≤ a) : EvP (fun k => spec_someGraph.f k s0 p a) (fun r => GSmall 8 8 r.1 ∧ RS s0 (N + 100) r.2) := by
  unfold spec_someGraph.f
  refine (ev_one h (by omega) _ (by simp)).bind fun b hb => ?_
  have hb8 : 0 ≤ mn a b.1 ∧ mn a b.1 ≤ 8 := by
    have := hb.1
    simp at this
    unfold mn
    split <;> omega
  generalize mn a b.1 = c at *
  obtain ⟨j, rfl⟩ := Int.eq_ofNat_of_zero_le hb8.1
  exact (ev_some_out s0 j [] (N + 1) b.2 (by simp; omega) (by omega) (by simp) hb.2).mono fun r hr => ⟨hr.1, hr.2.mono (by omega) (by omega)⟩
theorem lim_evP {α : Type} {f : Nat → Option α} {Q : α → Prop} (hm : ∀ k, LeO (f k) (f (k + 1))) (h : EvP f Q) : EvP (fun _ => lim f) Q := by
  obtain ⟨r, h, q⟩ := h
  obtain ⟨k, hk⟩ := h.one
  exact ⟨r, ⟨0, fun _ _ => lim_of hm hk⟩, q⟩
theorem rdT_small {n m : Nat} {g : List Tk} (h : GSmall n m g) {i : Int} (h0 : 0 ≤ i) (h1 : i < (g.length : Int)) : (rd_T37 g i).f1.length ≤ m := by
  refine h.2 _ ?_
  unfold rd_T37
  rw [List.getD_eq_getElem?_getD, List.getElem?_eq_getElem (by omega), Option.getD_some]
  exact List.getElem_mem _
theorem small_set {n m m2 : Nat} {g : List Tk} (h : GSmall n m g) (i : Nat) (t : Tk) (ht : t.f1.length ≤ m2) (hm : m ≤ m2) {n2 : Nat} (hn : n ≤ n2) : GSmall n2 m2 (g.set i t) := by
  refine ⟨by rw [List.length_set]; have := h.1; omega, fun u hu => ?_⟩
  rcases List.mem_or_eq_of_mem_set hu with h1 | h1
  · have := h.2 u h1; omega
  · rw [h1]; exact ht
theorem ev_anyGraph {s0 : List Int} {N p : Int} (h : RS s0 N p) (hN : N + 210 < 100000) : EvP (fun _ => spec_anyGraph.f s0 p) (fun r => GSmall 16 10 r.1 ∧ RS s0 (N + 210) r.2) := by
  unfold spec_anyGraph.f
  refine lim_evP (fun k => spec_anyGraph.mono s0 p k) ?_
  unfold spec_anyGraph.fk
  refine (ev_someGraph h (by omega) 8 (by omega)).bind fun a ha => ?_
  have hs : GSmall 16 10 a.1 := ⟨by have := ha.1.1; omega, fun t ht => by have := ha.1.2 t ht; omega⟩
  refine EvP.ite (fun _ => EvP.ret ⟨hs, ha.2.mono (by omega) (by omega)⟩) (fun hne => ?_)
  refine (ev_pick ha.2 (by omega)).bind fun b hb => ?_
  refine (ev_pick hb.2.2 (by omega)).bind fun c hc => ?_
  have hb2 := hb.2.1 (by omega)
  refine EvP.neg (fun hh => hh hb2) ?_
  have hl := rdT_small ha.1 hb2.1 hb2.2
  generalize rd_T37 a.1 b.1 = tk at hl
  refine EvP.ite (fun _ => (ev_one hc.2.2 (by omega) _ (by simp)).bind fun d hd => EvP.ret ⟨small_set ha.1 _ _ (by show tk.f1.length ≤ 10; omega) (by omega) (by omega), hd.2.mono (by omega) (by omega)⟩) (fun _ => ?_)
  refine EvP.ite (fun _ => ?_) (fun _ => ?_)
  · refine (ev_pick hc.2.2 (by omega)).bind fun d hd => ?_
    refine EvP.pos (by omega) ?_
    refine (ev_spoil hd.2.2 (by omega) _ 8 (by simp; omega)).bind fun e he => ?_
    have := he.1
    simp only [List.length_append, List.length_cons, List.length_nil] at this
    exact EvP.ret ⟨small_set ha.1 _ _ (by show e.1.length ≤ 10; omega) (by omega) (by omega), he.2.mono (by omega) (by omega)⟩
  refine EvP.ite (fun _ => (ev_one hc.2.2 (by omega) _ (by simp)).bind fun d hd => EvP.ret ⟨small_set ha.1 _ _ (by show tk.f1.length ≤ 10; omega) (by omega) (by omega), hd.2.mono (by omega) (by omega)⟩) (fun _ => ?_)
  refine EvP.ite (fun _ => (ev_one hc.2.2 (by omega) _ (by simp)).bind fun d hd => EvP.ret ⟨small_set ha.1 _ _ (by show tk.f1.length ≤ 10; omega) (by omega) (by omega), hd.2.mono (by omega) (by omega)⟩) (fun _ => ?_)
  refine EvP.ite (fun _ => ?_) (fun _ => EvP.ret ⟨hs, hc.2.2.mono (by omega) (by omega)⟩)
  refine (ev_someGraph hc.2.2 (by omega) 8 (by omega)).bind fun d hd => ?_
  have h1 := ha.1.1
  have h2 := hd.1.1
  refine EvP.pos (by omega) (EvP.ret ⟨⟨by simp; omega, fun t ht => ?_⟩, hd.2.mono (by omega) (by omega)⟩)
  rcases List.mem_append.1 ht with ht | ht
  · have := ha.1.2 t ht; omega
  · have := hd.1.2 t ht; omega
/-- The bytes of a code. -/
def Bytes (l : List Int) : Prop := ∀ x ∈ l, (Lit.int .u8 x).wf = true
theorem byte_of_wf {x : Int} (h : (Lit.int .u8 x).wf = true) : 0 ≤ x ∧ x ≤ 255 := by
  simp only [Lit.wf, IntKind.min, IntKind.max, IntKind.signed, IntKind.bits, Bool.and_eq_true, decide_eq_true_eq] at h
  simp at h
  omega
theorem ev_newReader {l : List Int} (h : Bytes l) : EvP (fun _ => spec_newReader.f l) (fun r => RS r.1 0 r.2) := by
  have hb : ∀ x ∈ l, 0 ≤ x ∧ x ≤ 255 := fun x hx => byte_of_wf (h x hx)
  unfold spec_newReader.f
  refine EvP.ite (fun h1 => EvP.pos (by omega) (EvP.ret ⟨by simp; omega, fun x hx => hb x (List.mem_of_mem_take hx), by omega, by omega, by omega⟩)) (fun h1 => EvP.ret ⟨by show l.length ≤ 2000; omega, hb, by show (0 : Int) ≤ 0; omega, by show (0 : Int) ≤ 0; omega, by omega⟩)
end Go.Proofs.YtekajandipdlhaaDoor.Core
end
section
set_option linter.unusedVariables false
set_option linter.unusedSimpArgs false
namespace Go.Proofs.YtekajandipdlhaaDoor.Core
open Go Go.RowKit Go.Proofs.YtekajandipdlhaaDoorW.PrintWords Go.Proofs.YtekajandipdlhaaDoorW.PrintMore Go.Proofs.YtekajandipdlhaaDoor.P
theorem ev_DrawLatestStarts {l : List Int} (h : Bytes l) : EvP (fun k => spec_DrawLatestStarts.f k l) (fun r => GSmall 16 10 r.1 ∧ -1 ≤ r.2 ∧ r.2 ≤ 201) := by
  unfold spec_DrawLatestStarts.f
  refine (ev_newReader h).bind fun a ha => ?_
  refine (ev_anyGraph ha (by omega)).bind fun b hb => ?_
  unfold spec_someDeadline.f
  refine EvP.bind (Q := fun r => -1 ≤ r.1 ∧ r.1 ≤ 201) ?_ (fun d hd => EvP.ret ⟨hb.1, hd⟩)
  refine (ev_one hb.2 (by omega) _ (by simp)).bind fun c hc => EvP.ret ?_
  have := hc.1
  simp only [List.mem_cons, List.not_mem_nil, or_false] at this
  show -1 ≤ c.1 ∧ c.1 ≤ 201
  omega
end Go.Proofs.YtekajandipdlhaaDoor.Core
end
section
set_option linter.unusedVariables false
set_option linter.unusedSimpArgs false
namespace Go.Proofs.YtekajandipdlhaaDoor.Core
open Go Go.RowKit Go.Proofs.YtekajandipdlhaaDoorW.PrintWords Go.Proofs.YtekajandipdlhaaDoorW.PrintMore Go.Proofs.YtekajandipdlhaaDoor.P
theorem asc_lt : ∀ {r : List Int} {x : Int}, ascD (x :: r) = true → ascD r = true ∧ ∀ y ∈ r, x < y
  | [], x, _ => ⟨rfl, by simp⟩
  | y :: r, x, h => by
    simp only [ascD, Bool.and_eq_true, decide_eq_true_eq] at h
    have h2 := asc_lt h.2
    refine ⟨h.2, fun z hz => ?_⟩
    rcases List.mem_cons.1 hz with rfl | hz
    · exact h.1
    · have := h2.2 z hz; omega
theorem asc_mk {r : List Int} {x : Int} (h : ascD r = true) (h2 : ∀ y ∈ r, x < y) : ascD (x :: r) = true := by
  cases r with
  | nil => rfl
  | cons y r => simp [ascD, h, h2 y List.mem_cons_self]
theorem setGo_some {n : Nat} : ∀ {r : List Int} {s : Nat} {last : Int} {t : Nat}, -1 ≤ last → setGo n r s last = some t → (∀ x ∈ r, last + 1 ≤ x ∧ x ≤ (n : Int) - 1) ∧ ascD r = true ∧ ∀ i : Nat, t.testBit i = (s.testBit i || decide ((i : Int) ∈ r))
  | [], s, last, t, hl, h => by
    rw [setGo] at h
    cases h
    exact ⟨by simp, rfl, by simp⟩
  | x :: r, s, last, t, hl, h => by
    rw [setGo] at h
    by_cases hx : last + 1 ≤ x ∧ x ≤ (n : Int) - 1
    · rw [if_pos hx] at h
      obtain ⟨h1, h2, h3⟩ := setGo_some (by omega) h
      refine ⟨fun y hy => ?_, asc_mk h2 (fun y hy => by have := h1 y hy; omega), fun i => ?_⟩
      · rcases List.mem_cons.1 hy with rfl | hy
        · exact hx
        · have := h1 y hy; omega
      · rw [h3, or_bit]
        have : decide (x.toNat = i) = decide ((i : Int) = x) := by rw [decide_eq_decide]; omega
        rw [this]
        by_cases e : (i : Int) = x
        · simp [e]
        · simp [e]
    · rw [if_neg hx] at h; cases h
theorem setGo_ok {n : Nat} : ∀ {r : List Int} (s : Nat) {last : Int}, (∀ x ∈ r, last + 1 ≤ x ∧ x ≤ (n : Int) - 1) → ascD r = true → ∃ t, setGo n r s last = some t
  | [], s, last, _, _ => ⟨s, rfl⟩
  | x :: r, s, last, h, ha => by
    have h2 := asc_lt ha
    have hx := h x List.mem_cons_self
    rw [setGo, if_pos hx]
    exact setGo_ok _ (fun y hy => ⟨by have := h2.2 y hy; omega, (h y (List.mem_cons_of_mem _ hy)).2⟩) h2.1
theorem setD_some {n : Nat} {l : List Int} {t : Nat} (h : setD n l = some t) : needsOk n l ∧ ∀ i : Nat, t.testBit i = decide ((i : Int) ∈ l) := by
  obtain ⟨h1, h2, h3⟩ := setGo_some (by omega) h
  exact ⟨⟨fun x hx => by have := h1 x hx; omega, h2⟩, fun i => by rw [h3]; simp⟩
theorem setD_ok {n : Nat} {l : List Int} (h : needsOk n l) : ∃ t, setD n l = some t := setGo_ok 0 (fun x hx => by have := h.1 x hx; omega) h.2
theorem needsGo_ok {n : Nat} : ∀ {r : List Tk}, (∀ t ∈ r, taskOk t ∧ needsOk n t.f1) → ∃ N, needsGo n r = some N
  | [], _ => ⟨[], rfl⟩
  | t :: r, h => by
    obtain ⟨s, hs⟩ := setD_ok (h t List.mem_cons_self).2
    obtain ⟨N, hN⟩ := needsGo_ok (fun t' ht => h t' (List.mem_cons_of_mem _ ht))
    rw [needsGo, hs]
    simp only [(h t List.mem_cons_self).1, if_true, hN]
    exact ⟨_, rfl⟩
theorem needsGo_fine {n : Nat} : ∀ {r : List Tk} {N : List Nat}, needsGo n r = some N → (∀ t ∈ r, taskOk t ∧ needsOk n t.f1) ∧ ∀ i, i < r.length → ∀ j : Nat, (N.getD i 0).testBit j = decide ((j : Int) ∈ (r.getD i z37).f1)
  | [], N, h => ⟨by simp, by intro i hi; simp at hi⟩
  | t :: r, N, h => by
    rw [needsGo] at h
    cases he : setD n t.f1 with
    | none => rw [he] at h; cases h
    | some s =>
      rw [he] at h
      by_cases hok : taskOk t
      · simp only [hok, if_true] at h
        cases hg : needsGo n r with
        | none => rw [hg] at h; cases h
        | some M =>
          rw [hg] at h
          cases h
          have ih := needsGo_fine hg
          have hs := setD_some he
          refine ⟨fun t' ht => ?_, fun i hi j => ?_⟩
          · rcases List.mem_cons.1 ht with rfl | ht
            · exact ⟨hok, hs.1⟩
            · exact ih.1 t' ht
          · cases i with
            | zero => simpa using hs.2 j
            | succ i => simpa using ih.2 i (by simpa using hi) j
      · simp [hok] at h
theorem needsD_fine {g : List Tk} {N : List Nat} (h : needsD g = some N) : fineD g ∧ ∀ i, i < g.length → ∀ j : Nat, (N.getD i 0).testBit j = decide ((j : Int) ∈ (g.getD i z37).f1) := by
  have h8 := (needsD_spec h).1
  unfold needsD at h
  rw [if_pos h8] at h
  have := needsGo_fine h
  exact ⟨⟨this.1, h8⟩, this.2⟩
theorem fineD_needs {g : List Tk} (h : fineD g) : ∃ N, needsD g = some N := by
  unfold needsD
  rw [if_pos h.2]
  exact needsGo_ok h.1
theorem sub_zero {a b : Nat} (ha : a < 256) (hb : b < 256) : sub a b = 0 ↔ ∀ j, a.testBit j = true → b.testBit j = true := by
  constructor
  · intro h j hj
    have := sub_testBit (i := j) ha hb
    rw [h, hj] at this
    simpa using this
  · intro h
    apply Nat.eq_of_testBit_eq
    intro j
    rw [sub_testBit ha hb, Nat.zero_testBit]
    cases e : a.testBit j
    · rfl
    · rw [h j e]; rfl
theorem mem_up {L : List Nat} {i : Nat} : (i : Int) ∈ up L ↔ i ∈ L := by
  unfold up
  rw [List.mem_map]
  constructor
  · rintro ⟨a, ha, e⟩
    have : a = i := Int.ofNat.inj e
    exact this ▸ ha
  · intro h
    exact ⟨i, h, rfl⟩
/-- All needs of a task are among some, said both ways. -/
theorem done_iff {g : List Tk} {N : List Nat} (hN : needsD g = some N) {L : List Nat} {d : Nat} (hd : d < 256) (hs : ∀ i, d.testBit i = true ↔ i ∈ L) {i : Nat} (hi : i < g.length) : (∀ x ∈ (g.getD i z37).f1, x ∈ up L) ↔ sub (N.getD i 0) d = 0 := by
  obtain ⟨h8, hl, hb⟩ := needsD_spec hN
  obtain ⟨hf, hbit⟩ := needsD_fine hN
  rw [sub_zero (Nat.lt_of_lt_of_le (getD_lt hb i) (pow8 h8)) hd]
  constructor
  · intro h j hj
    rw [hbit i hi j, decide_eq_true_eq] at hj
    exact (hs j).2 (mem_up.1 (h _ hj))
  · intro h x hx
    have hmem : g.getD i z37 ∈ g := by
      rw [List.getD_eq_getElem?_getD, List.getElem?_eq_getElem hi]
      exact List.getElem_mem hi
    have h0 := (hf.1 _ hmem).2.1 x hx
    obtain ⟨j, rfl⟩ : ∃ j : Nat, x = (j : Int) := ⟨x.toNat, by omega⟩
    refine mem_up.2 ((hs j).1 (h j ?_))
    rw [hbit i hi j, decide_eq_true_eq]
    exact hx
theorem rdT_nat (g : List Tk) (i : Nat) : rd_T37 g (i : Int) = g.getD i z37 := by simp [rd_T37]
theorem getD_mem {g : List Tk} {i : Nat} (hi : i < g.length) : g.getD i z37 ∈ g := by
  rw [List.getD_eq_getElem?_getD, List.getElem?_eq_getElem hi]
  exact List.getElem_mem hi
theorem ev_top_found {g : List Tk} (hg : Fits g) (L : List Nat) (hL : L.length ≤ 100) (j : Nat) (i : Int) (R : List Int) (h : Ev (fun k => spec_topOrder.l0 k g (up (L ++ [j]))) R) : Ev (fun k => spec_topOrder.l1 k g (up L) (j : Int) i) R := by
  have e : up (L ++ [j]) = up L ++ [(j : Int)] := by simp [up]
  have h2 : Ev (fun k => spec_topOrder.j2 k g (up L) (j : Int) i false) R := by
    refine Ev.succ (h.of fun k => ?_)
    rw [spec_topOrder.j2, if_neg (by simp), if_neg (by omega), if_pos (by rw [up_length]; omega), e]
  refine Ev.succ (h2.of fun k => ?_)
  rw [spec_topOrder.l1, show decide ((j : Int) < 0) = false by simp]
  split <;> rfl
theorem ev_top_scan {g : List Tk} (hg : Fits g) {N : List Nat} (hN : needsD g = some N) (L : List Nat) (d : Nat) (hL : L.length ≤ 100) (hd : d < 256) (hs : ∀ i, d.testBit i = true ↔ i ∈ L) (R : Option Nat → List Int) (hR : R none = up L) : ∀ (m i : Nat), i + m = g.length →
    (∀ j, nextFrom N d i m = some j → Ev (fun k => spec_topOrder.l0 k g (up (L ++ [j]))) (R (some j))) → Ev (fun k => spec_topOrder.l1 k g (up L) (-1) (i : Int)) (R (nextFrom N d i m))
  | 0, i, hi, ho => by
    rw [nextFrom, hR]
    refine Ev.succ ?_
    have h2 : Ev (fun k => spec_topOrder.j2 k g (up L) (-1) (i : Int) false) (up L) := by
      refine Ev.succ ((Ev.const _).of fun k => ?_)
      rw [spec_topOrder.j2, if_neg (by simp), if_pos (by omega)]
    refine h2.of fun k => ?_
    rw [spec_topOrder.l1, if_neg (by omega)]
  | m + 1, i, hi, ho => by
    have hig : i < g.length := by omega
    have h8 := (needsD_spec hN).1
    have hin := ev_isIn (L := up L) (by rw [up_length]; unfold big; omega) (i : Int)
    have hdn := ev_allDone (L := (g.getD i z37).f1) (M := up L) (hg.2 _ (getD_mem hig)) (by rw [up_length]; unfold big; omega)
    have e1 : decide ((i : Int) ∈ up L) = d.testBit i := by
      rw [Bool.eq_iff_iff, decide_eq_true_eq, mem_up, hs]
    have e2 : decide (∀ x ∈ (g.getD i z37).f1, x ∈ up L) = decide (sub (N.getD i 0) d = 0) := by
      rw [decide_eq_decide]; exact done_iff hN hd hs hig
    rw [e1] at hin
    rw [e2] at hdn
    have hw : wrap64 ((i : Int) + 1) = ((i + 1 : Nat) : Int) := w64s (by unfold big; omega)
    refine Ev.succ ?_
    have hj2 : Ev (fun k => spec_topOrder.j2 k g (up L) (-1) (i : Int) true) (R (nextFrom N d i (m + 1))) := by
      refine Ev.succ ?_
      have hu : ∀ k, spec_topOrder.j2 (k + 1) g (up L) (-1) (i : Int) true = (spec_isIn.f k (up L) (i : Int)).bind fun t126 => (if t126 = true then (spec_topOrder.l1 k g (up L) (-1) ((i + 1 : Nat) : Int)) else ((spec_allDone.f k (g.getD i z37).f1 (up L)).bind fun t128 => (if t128 = true then (spec_topOrder.l1 k g (up L) (i : Int) ((i + 1 : Nat) : Int)) else (spec_topOrder.l1 k g (up L) (-1) ((i + 1 : Nat) : Int))))) := by
        intro k
        rw [spec_topOrder.j2, if_pos rfl, hw, if_pos (show 0 ≤ (i : Int) by omega), if_pos (show (i : Int) < (g.length : Int) by omega), rdT_nat]
      refine Ev.of ?_ hu
      refine hin.bind (g := fun k t126 => (if t126 = true then (spec_topOrder.l1 k g (up L) (-1) ((i + 1 : Nat) : Int)) else ((spec_allDone.f k (g.getD i z37).f1 (up L)).bind fun t128 => (if t128 = true then (spec_topOrder.l1 k g (up L) (i : Int) ((i + 1 : Nat) : Int)) else (spec_topOrder.l1 k g (up L) (-1) ((i + 1 : Nat) : Int)))))) ?_
      cases hbit : d.testBit i with
      | true =>
        have hg2 : nextFrom N d i (m + 1) = nextFrom N d (i + 1) m := by rw [nextFrom, if_neg (by simp [hbit])]
        rw [hg2] at ho ⊢
        exact (ev_top_scan hg hN L d hL hd hs R hR m (i + 1) (by omega) ho).of fun k => if_pos rfl
      | false =>
        by_cases hz : sub (N.getD i 0) d = 0
        · have hg2 : nextFrom N d i (m + 1) = some i := by rw [nextFrom, if_pos ⟨hbit, hz⟩]
          rw [hg2]
          rw [decide_eq_true hz] at hdn
          have hf := ev_top_found hg L hL i ((i + 1 : Nat) : Int) _ (ho i hg2)
          refine (hdn.bind (g := fun k t128 => if t128 = true then (spec_topOrder.l1 k g (up L) (i : Int) ((i + 1 : Nat) : Int)) else (spec_topOrder.l1 k g (up L) (-1) ((i + 1 : Nat) : Int))) (hf.of fun k => if_pos rfl)).of fun k => ?_
          rw [if_neg (by simp)]
        · have hg2 : nextFrom N d i (m + 1) = nextFrom N d (i + 1) m := by rw [nextFrom, if_neg (fun h => hz h.2)]
          rw [hg2] at ho ⊢
          rw [decide_eq_false hz] at hdn
          have ih := ev_top_scan hg hN L d hL hd hs R hR m (i + 1) (by omega) ho
          refine (hdn.bind (g := fun k t128 => if t128 = true then (spec_topOrder.l1 k g (up L) (i : Int) ((i + 1 : Nat) : Int)) else (spec_topOrder.l1 k g (up L) (-1) ((i + 1 : Nat) : Int))) (ih.of fun k => if_neg (by simp))).of fun k => ?_
          rw [if_neg (by simp)]
    refine hj2.of fun k => ?_
    rw [spec_topOrder.l1, if_pos (by omega)]
    rfl
theorem orderGo_none {N : List Nat} {d : Nat} (h : nextD N d = none) : ∀ (m : Nat) (L : List Nat), orderGo N m L d = (L, d)
  | 0, L => rfl
  | m + 1, L => by rw [orderGo, h]; exact orderGo_none h m L
theorem next_zb {N : List Nat} {d j : Nat} (h : nextD N d = some j) : zb N.length (d ||| 2 ^ j) < zb N.length d := by
  have := nextD_spec h
  exact zb_lt this.2.1 this.1
theorem ev_top_go {g : List Tk} (hg : Fits g) {N : List Nat} (hN : needsD g = some N) : ∀ (m : Nat) (L : List Nat) (d : Nat), OrdOk N L d → zb N.length d ≤ m → Ev (fun k => spec_topOrder.l0 k g (up L)) (up (orderGo N m L d).1) := by
  obtain ⟨h8, hl, hb⟩ := needsD_spec hN
  have hb' : below1 N.length N := by rw [hl]; exact hb
  intro m
  induction m with
  | zero =>
    intro L d ok hz
    have hlt := Nat.lt_of_lt_of_le ok.dlt (pow8 (n := N.length) (by omega))
    have hnone : nextD N d = none := by
      cases h : nextD N d with
      | none => rfl
      | some j => have := next_zb h; omega
    have h := ev_top_scan hg hN L d (by have := ok.len; omega) hlt ok.set (fun _ => up L) rfl g.length 0 (by omega) (fun j hj => by
      have : nextD N d = some j := by unfold nextD; rw [hl]; exact hj
      rw [hnone] at this; cases this)
    refine Ev.succ (h.of fun k => ?_)
    rw [spec_topOrder.l0]
    rfl
  | succ m ih =>
    intro L d ok hz
    have hlt := Nat.lt_of_lt_of_le ok.dlt (pow8 (n := N.length) (by omega))
    have h := ev_top_scan hg hN L d (by have := ok.len; omega) hlt ok.set (fun o => match o with | some i => up (orderGo N m (L ++ [i]) (d ||| 2 ^ i)).1 | none => up L) rfl g.length 0 (by omega) (fun j hj => by
      have hj2 : nextD N d = some j := by unfold nextD; rw [hl]; exact hj
      have hsp := nextD_spec hj2
      have := next_zb hj2
      exact ih (L ++ [j]) (d ||| 2 ^ j) (ok.step (by omega) hb' hsp.1 hsp.2.1 hsp.2.2) (by omega))
    have e : (match nextFrom N d 0 g.length with | some i => up (orderGo N m (L ++ [i]) (d ||| 2 ^ i)).1 | none => up L) = up (orderGo N (m + 1) L d).1 := by
      rw [orderGo]
      have e2 : nextD N d = nextFrom N d 0 g.length := by unfold nextD; rw [hl]
      rw [e2]
      cases hx : nextFrom N d 0 g.length with
      | none => simp only []; rw [orderGo_none (by rw [e2]; exact hx)]
      | some i => rfl
    rw [← e]
    refine Ev.succ (h.of fun k => ?_)
    rw [spec_topOrder.l0]
    rfl
theorem ordOk_nil (N : List Nat) : OrdOk N [] 0 := ⟨by simp, by simp, Nat.two_pow_pos _, by simp, by rw [zb_zero]; simp, by simp⟩
theorem ev_topOrder {g : List Tk} (hg : Fits g) {N : List Nat} (hN : needsD g = some N) : Ev (fun k => spec_topOrder.f k g) (up (orderD N).1) :=
  ev_top_go hg hN N.length [] 0 (ordOk_nil N) (by rw [zb_zero]; exact Nat.le_refl _)
theorem zb_zero_full {n : Nat} : ∀ {m d : Nat}, zb m d = 0 → ∀ i, i < m → d.testBit i = true
  | 0, d, _, i, h => by omega
  | m + 1, d, h, i, hi => by
    simp only [zb] at h
    by_cases e : i = m
    · subst e
      cases hb : d.testBit i
      · simp [hb] at h
      · rfl
    · exact zb_zero_full (n := n) (m := m) (by omega) i (by omega)
theorem full_iff {N L : List Nat} {d : Nat} (ok : OrdOk N L d) : d = 2 ^ N.length - 1 ↔ L.length = N.length := by
  constructor
  · intro h
    have := ok.len
    rw [h, zb_full _ _ (Nat.le_refl _)] at this
    exact this
  · intro h
    have hz : zb N.length d = 0 := by have := ok.len; omega
    apply Nat.eq_of_testBit_eq
    intro i
    rw [Nat.testBit_two_pow_sub_one]
    by_cases hi : i < N.length
    · rw [zb_zero_full (n := 0) hz i hi]; simp [hi]
    · cases hb : d.testBit i
      · simp [hi]
      · exact absurd (ok.lt i ((ok.set i).1 hb)) hi
theorem ev_validGraph {g : List Tk} (hg : Fits g) : Ev (fun k => spec_validGraph.f k g) (graphD g).isSome := by
  have hf := ev_tasksFine hg
  unfold graphD
  by_cases h : fineD g
  · obtain ⟨N, hN⟩ := fineD_needs h
    obtain ⟨h8, hl, hb⟩ := needsD_spec hN
    rw [decide_eq_true h] at hf
    have ht := ev_topOrder hg hN
    have ok := orderD_ok (N := N) (by omega) (by rw [hl]; exact hb)
    have hfull := full_iff ok
    rw [hN]
    simp only []
    refine (hf.bind (g := fun k b => if b = true then ((spec_topOrder.f k g).bind fun t130 => (some ((t130.length : Int) == (g.length : Int)))) else some false) ?_).of fun k => rfl
    refine (ht.bind (g := fun k t130 => some ((t130.length : Int) == (g.length : Int))) (b := (if (orderD N).2 = 2 ^ g.length - 1 then some (mkG g N) else none).isSome) ((Ev.const _).of fun k => ?_)).of fun k => if_pos rfl
    rw [up_length]
    congr 1
    by_cases hd : (orderD N).2 = 2 ^ g.length - 1
    · rw [if_pos hd]
      have := hfull.1 (by rw [hl]; exact hd)
      simp [this, hl]
    · rw [if_neg hd]
      have : (orderD N).1.length ≠ g.length := fun e => hd (by rw [← hl]; exact hfull.2 (by omega))
      simp [this]
      omega
  · rw [decide_eq_false h] at hf
    have hn : needsD g = none := by
      cases e : needsD g with
      | none => rfl
      | some N => exact absurd (needsD_fine e).1 h
    rw [hn]
    refine (hf.bind (g := fun k b => if b = true then ((spec_topOrder.f k g).bind fun t130 => (some ((t130.length : Int) == (g.length : Int)))) else some false) ((Ev.const false).of fun k => if_neg (by simp))).of fun k => rfl
end Go.Proofs.YtekajandipdlhaaDoor.Core
end
section
set_option linter.unusedVariables false
set_option linter.unusedSimpArgs false
namespace Go.Proofs.YtekajandipdlhaaDoor.Core
open Go Go.RowKit Go.Proofs.YtekajandipdlhaaDoorW.PrintWords Go.Proofs.YtekajandipdlhaaDoorW.PrintMore Go.Proofs.YtekajandipdlhaaDoor.P
theorem rd_up' (L : List Nat) (i : Nat) : rd (up L) (i : Int) = ((L.getD i 0 : Nat) : Int) := rd_up rfl
end Go.Proofs.YtekajandipdlhaaDoor.Core
end
section
set_option linter.unusedVariables false
set_option linter.unusedSimpArgs false
namespace Go.Proofs.YtekajandipdlhaaDoor.Core
open Go Go.RowKit Go.Proofs.YtekajandipdlhaaDoorW.PrintWords Go.Proofs.YtekajandipdlhaaDoorW.PrintMore Go.Proofs.YtekajandipdlhaaDoor.P
/-- What is known of a valid graph. -/
structure VG (g : List Tk) (G : GD) : Prop where
  tasks : G.tasks = g
  n8 : g.length ≤ 8
  nl : G.needs.length = g.length
  nb : below1 g.length G.needs
  needsD : needsD g = some G.needs
  bits : ∀ i, i < g.length → ∀ j : Nat, (G.needs.getD i 0).testBit j = decide ((j : Int) ∈ (g.getD i z37).f1)
  fine : fineD g
  ord : OrdOk G.needs G.order (2 ^ g.length - 1)
theorem vg_of {g : List Tk} {G : GD} (h : graphD g = some G) : VG g G := by
  obtain ⟨N, hN, hf, rfl⟩ := graphD_spec h
  obtain ⟨h8, hl, hb⟩ := needsD_spec hN
  have ok := orderD_ok (N := N) (by omega) (by rw [hl]; exact hb)
  rw [hf] at ok
  exact ⟨rfl, h8, hl, hb, hN, (needsD_fine hN).2, (needsD_fine hN).1, ok⟩
theorem VG.mem {g : List Tk} {G : GD} (v : VG g G) {i : Nat} : i ∈ G.order ↔ i < g.length := by
  rw [← v.ord.set i, Nat.testBit_two_pow_sub_one]
  simp
theorem VG.needs_len {g : List Tk} {G : GD} (v : VG g G) : G.needs.length ≤ 8 := by have := v.nl; have := v.n8; omega
theorem VG.mem_ready {g : List Tk} {G : GD} (v : VG g G) {p i : Nat} : i ∈ elemsN (G.ready p) ↔ i < g.length ∧ p.testBit i = false ∧ sub (G.needs.getD i 0) p = 0 := by
  rw [Core.mem_ready v.needs_len, v.nl]
end Go.Proofs.YtekajandipdlhaaDoor.Core
end
section
set_option linter.unusedVariables false
set_option linter.unusedSimpArgs false
namespace Go.Proofs.YtekajandipdlhaaDoor.Core
open Go Go.RowKit Go.Proofs.YtekajandipdlhaaDoorW.PrintWords Go.Proofs.YtekajandipdlhaaDoorW.PrintMore Go.Proofs.YtekajandipdlhaaDoor.P
theorem fold_b (i : Nat) : ∀ (ks : List Nat) (B : List Nat), i < B.length → (∀ m ∈ ks, m ≠ i) →
    (∀ j, j ≠ i → (ks.foldl (bStep i) B).getD j 0 = B.getD j 0) ∧ ∀ k, ((ks.foldl (bStep i) B).getD i 0).testBit k = true ↔ (B.getD i 0).testBit k = true ∨ ∃ m ∈ ks, k = m ∨ (B.getD m 0).testBit k = true
  | [], B, hi, hk => ⟨fun _ _ => rfl, fun k => by simp⟩
  | m :: ks, B, hi, hk => by
    have hm : m ≠ i := hk m List.mem_cons_self
    obtain ⟨h1, h2⟩ := fold_b i ks (bStep i B m) (by rw [bStep_length]; exact hi) (fun x hx => hk x (List.mem_cons_of_mem _ hx))
    have e1 : ∀ j, j ≠ i → (bStep i B m).getD j 0 = B.getD j 0 := by
      intro j hj
      unfold bStep
      rw [List.getD_eq_getElem?_getD, List.getElem?_set_ne (Ne.symm hj), ← List.getD_eq_getElem?_getD]
    have e2 : (bStep i B m).getD i 0 = B.getD i 0 ||| (B.getD m 0 ||| 2 ^ m) := by
      unfold bStep
      rw [List.getD_eq_getElem?_getD, List.getElem?_set_self hi]
      rfl
    refine ⟨fun j hj => (h1 j hj).trans (e1 j hj), fun k => ?_⟩
    rw [List.foldl_cons, h2, e2, Nat.testBit_or, or_bit]
    constructor
    · rintro (h | ⟨x, hx, h⟩)
      · simp only [Bool.or_eq_true, decide_eq_true_eq] at h
        rcases h with h | h | h
        · exact .inl h
        · exact .inr ⟨m, List.mem_cons_self, .inr h⟩
        · exact .inr ⟨m, List.mem_cons_self, .inl h.symm⟩
      · refine .inr ⟨x, List.mem_cons_of_mem _ hx, h.imp_right fun h => ?_⟩
        rw [← e1 x (hk x (List.mem_cons_of_mem _ hx))]; exact h
    · rintro (h | ⟨x, hx, h⟩)
      · exact .inl (by simp only [Bool.or_eq_true, decide_eq_true_eq]; exact .inl h)
      · rcases List.mem_cons.1 hx with rfl | hx
        · refine .inl ?_
          simp only [Bool.or_eq_true, decide_eq_true_eq]
          rcases h with h | h
          · exact .inr (.inr h.symm)
          · exact .inr (.inl h)
        · refine .inr ⟨x, hx, h.imp_right fun h => ?_⟩
          rw [e1 x (hk x (List.mem_cons_of_mem _ hx))]; exact h
/-- What the tables hold behind the first tasks of the order. -/
def BInv (N : List Nat) (n : Nat) (pre : List Nat) (B : List Nat) : Prop :=
  B.length = n ∧ (∀ i, i ∉ pre → B.getD i 0 = 0) ∧ ∀ i ∈ pre, ∀ k, (B.getD i 0).testBit k = true ↔ ∃ m, (N.getD i 0).testBit m = true ∧ (k = m ∨ (B.getD m 0).testBit k = true)
theorem binv_fold {N L : List Nat} {n : Nat} (hn : n ≤ 8) (hb : below1 n N) (hnd : L.Nodup) (hlt : ∀ i ∈ L, i < n) (hnx : ∀ pre i suf, L = pre ++ i :: suf → ∀ k, (N.getD i 0).testBit k = true → k ∈ pre) :
    ∀ (suf pre : List Nat) (LU : List Nat × List Nat), L = pre ++ suf → BInv N n pre LU.1 → BInv N n L (suf.foldl (rStep N) LU).1
  | [], pre, LU, hL, h => by rw [List.append_nil] at hL; rw [hL]; exact h
  | i :: suf, pre, LU, hL, h => by
    obtain ⟨hlen, h0, hI⟩ := h
    have hni : i ∉ pre := by
      intro hm
      rw [hL, List.nodup_append] at hnd
      exact hnd.2.2 i hm i List.mem_cons_self rfl
    have hil : i < n := hlt i (by rw [hL]; simp)
    have hneed := hnx pre i suf hL
    have hel : ∀ m, m ∈ elemsN (N.getD i 0) ↔ (N.getD i 0).testBit m = true := by
      intro m
      rw [mem_elemsN]
      refine ⟨fun h => h.2, fun h => ⟨?_, h⟩⟩
      have := hlt m (by rw [hL]; exact List.mem_append_left _ (hneed m h))
      omega
    obtain ⟨f1, f2⟩ := fold_b i (elemsN (N.getD i 0)) LU.1 (by rw [hlen]; exact hil) (fun m hm e => hni (e ▸ hneed m ((hel m).1 hm)))
    refine binv_fold hn hb hnd hlt hnx suf (pre ++ [i]) (rStep N LU i) (by rw [hL]; simp) ⟨?_, ?_, ?_⟩
    · show ((elemsN (N.getD i 0)).foldl (bStep i) LU.1).length = n
      rw [fold_len (bStep_length i), hlen]
    · intro j hj
      simp only [List.mem_append, List.mem_singleton, not_or] at hj
      exact (f1 j hj.2).trans (h0 j hj.1)
    · intro j hj k
      show ((((elemsN (N.getD i 0)).foldl (bStep i) LU.1).getD j 0).testBit k = true ↔ ∃ m, (N.getD j 0).testBit m = true ∧ (k = m ∨ (((elemsN (N.getD i 0)).foldl (bStep i) LU.1).getD m 0).testBit k = true))
      rcases List.mem_append.1 hj with hj | hj
      · have hji : j ≠ i := fun e => hni (e ▸ hj)
        rw [f1 j hji, hI j hj k]
        have hjm : ∀ m, (N.getD j 0).testBit m = true → m ≠ i := by
          intro m hm e
          obtain ⟨a, b, hab⟩ := List.append_of_mem hj
          have := hnx a j (b ++ i :: suf) (by rw [hL, hab]; simp) m hm
          exact hni (by rw [← e, hab]; exact List.mem_append_left _ this)
        constructor
        · rintro ⟨m, h1, h2⟩
          exact ⟨m, h1, by rw [f1 m (hjm m h1)]; exact h2⟩
        · rintro ⟨m, h1, h2⟩
          exact ⟨m, h1, by rw [f1 m (hjm m h1)] at h2; exact h2⟩
      · rw [List.mem_singleton.1 hj, f2 k, h0 i hni]
        have hmi : ∀ m, (N.getD i 0).testBit m = true → m ≠ i := fun m hm e => hni (e ▸ hneed m hm)
        constructor
        · rintro (h | ⟨m, hm, h⟩)
          · simp at h
          · exact ⟨m, (hel m).1 hm, by rw [f1 m (hmi m ((hel m).1 hm))]; exact h⟩
        · rintro ⟨m, hm, h⟩
          exact .inr ⟨m, (hel m).2 hm, by rw [f1 m (hmi m hm)] at h; exact h⟩
theorem below_bits {g : List Tk} {G : GD} (hG : graphD g = some G) {i : Nat} (hi : i < g.length) (k : Nat) : (G.below.getD i 0).testBit k = true ↔ ∃ m, (G.needs.getD i 0).testBit m = true ∧ (k = m ∨ (G.below.getD m 0).testBit k = true) := by
  have v := vg_of hG
  obtain ⟨N, hN, hf, rfl⟩ := graphD_spec hG
  have h := binv_fold (N := N) (L := (orderD N).1) v.n8 v.nb v.ord.nodup (fun i hi => v.mem.1 hi) v.ord.needs (orderD N).1 [] (List.replicate g.length 0, List.replicate g.length 0) rfl
    ⟨by simp, fun i _ => by show (List.replicate g.length 0).getD i 0 = 0; rw [List.getD_eq_getElem?_getD, List.getElem?_replicate]; split <;> rfl, fun i hi => by cases hi⟩
  exact h.2.2 i (v.mem.2 hi) k
end Go.Proofs.YtekajandipdlhaaDoor.Core
end
section
set_option linter.unusedVariables false
set_option linter.unusedSimpArgs false
namespace Go.Proofs.YtekajandipdlhaaDoor.Core
open Go Go.RowKit Go.Proofs.YtekajandipdlhaaDoorW.PrintWords Go.Proofs.YtekajandipdlhaaDoorW.PrintMore Go.Proofs.YtekajandipdlhaaDoor.P
theorem VG.need_lt {g : List Tk} {G : GD} (v : VG g G) {i m : Nat} (h : (G.needs.getD i 0).testBit m = true) : m < g.length := by
  have h1 := getD_lt v.nb i
  have h2 := Nat.ge_two_pow_of_testBit h
  have h3 : 2 ^ m < 2 ^ g.length := Nat.lt_of_le_of_lt h2 h1
  exact (Nat.pow_lt_pow_iff_right (by omega)).1 h3
/-- From the needs to the task. -/
theorem VG.ind {g : List Tk} {G : GD} (v : VG g G) {Q : Nat → Prop} (h : ∀ i, i < g.length → (∀ m, (G.needs.getD i 0).testBit m = true → Q m) → Q i) : ∀ i, i < g.length → Q i := by
  have key : ∀ (suf pre : List Nat), G.order = pre ++ suf → (∀ i ∈ pre, Q i) → ∀ i ∈ G.order, Q i := by
    intro suf
    induction suf with
    | nil => intro pre ho hp i hi; rw [ho, List.append_nil] at hi; exact hp i hi
    | cons a s ih =>
      intro pre ho hp
      refine ih (pre ++ [a]) (by rw [ho]; simp) fun i hi => ?_
      rcases List.mem_append.1 hi with hi | hi
      · exact hp i hi
      · rw [List.mem_singleton.1 hi]
        exact h a (v.mem.1 (by rw [ho]; simp)) fun m hm => hp m (v.ord.needs pre a s ho m hm)
  exact fun i hi => key G.order [] rfl (by simp) i (v.mem.2 hi)
theorem VG.below_before {g : List Tk} {G : GD} (v : VG g G) (hG : graphD g = some G) : ∀ i, i < g.length → ∀ k, (G.below.getD i 0).testBit k = true → ∀ pre suf, G.order = pre ++ i :: suf → k ∈ pre := by
  refine v.ind (Q := fun i => ∀ k, (G.below.getD i 0).testBit k = true → ∀ pre suf, G.order = pre ++ i :: suf → k ∈ pre) fun i hi ih k hk pre suf ho => ?_
  obtain ⟨m, hm, h⟩ := (below_bits hG hi k).1 hk
  have hmp := v.ord.needs pre i suf ho m hm
  rcases h with rfl | h
  · exact hmp
  · obtain ⟨a, b, rfl⟩ := List.append_of_mem hmp
    exact List.mem_append_left _ (ih m hm k h a (b ++ i :: suf) (by rw [ho]; simp))
/-- From what is above to the task. -/
theorem VG.rind {g : List Tk} {G : GD} (v : VG g G) (hG : graphD g = some G) {Q : Nat → Prop} (h : ∀ k, k < g.length → (∀ m, m < g.length → (G.below.getD m 0).testBit k = true → Q m) → Q k) : ∀ k, k < g.length → Q k := by
  have hn := v.ord.nodup
  have key : ∀ (n : Nat) (pre suf : List Nat), pre.length = n → G.order = pre ++ suf → (∀ i ∈ suf, Q i) → ∀ i ∈ G.order, Q i := by
    intro n
    induction n with
    | zero =>
      intro pre suf hl ho hs i hi
      have : pre = [] := List.length_eq_zero_iff.1 hl
      rw [ho, this, List.nil_append] at hi
      exact hs i hi
    | succ n ih =>
      intro pre suf hl ho hs
      obtain ⟨pre0, k, rfl⟩ : ∃ t z, pre = t ++ [z] := by
        have hne : pre ≠ [] := by intro h; rw [h] at hl; simp at hl
        exact ⟨pre.dropLast, pre.getLast hne, (List.dropLast_concat_getLast hne).symm⟩
      have ho' : G.order = pre0 ++ k :: suf := by rw [ho]; simp
      refine ih pre0 (k :: suf) (by simp at hl; omega) ho' fun i hi => ?_
      rcases List.mem_cons.1 hi with rfl | hi
      · refine h i (v.mem.1 (by rw [ho']; simp)) fun m hm hb => ?_
        have hmo := v.mem.2 hm
        rw [ho'] at hmo hn
        rw [List.nodup_append] at hn
        rcases List.mem_append.1 hmo with hmo | hmo
        · obtain ⟨a, c, hac⟩ := List.append_of_mem hmo
          have := v.below_before hG m hm i hb a (c ++ i :: suf) (by rw [ho', hac]; simp)
          exact absurd rfl (hn.2.2 i (by rw [hac]; exact List.mem_append_left _ this) i List.mem_cons_self)
        · rcases List.mem_cons.1 hmo with hmo | hmo
          · rw [hmo] at hb
            have := v.below_before hG i (v.mem.1 (by rw [ho']; simp)) i hb pre0 suf ho'
            exact absurd rfl (hn.2.2 i this i List.mem_cons_self)
          · exact hs m hmo
      · exact hs i hi
  exact fun k hk => key G.order.length G.order [] rfl (by simp) (by simp) k (v.mem.2 hk)
end Go.Proofs.YtekajandipdlhaaDoor.Core
end
section
set_option linter.unusedVariables false
set_option linter.unusedSimpArgs false
namespace Go.Proofs.YtekajandipdlhaaDoor.Core
open Go Go.RowKit Go.Shelf Go.Proofs.YtekajandipdlhaaDoorW.PrintWords Go.Proofs.YtekajandipdlhaaDoorW.PrintMore Go.Proofs.YtekajandipdlhaaDoor.P
attribute [local go_sem] Oper.semAt_some wide_fn wide_depth
theorem needsGo_taskOk {n : Nat} : ∀ {r : List Tk} {N : List Nat}, needsGo n r = some N → ∀ t ∈ r, taskOk t
  | [], _, _, t, ht => by cases ht
  | a :: r, N, h, t, ht => by
    rw [needsGo] at h
    cases he : setD n a.f1 with
    | none => rw [he] at h; cases h
    | some s =>
      rw [he] at h
      by_cases hok : taskOk a
      · simp only [hok, if_true] at h
        cases hg : needsGo n r with
        | none => rw [hg] at h; cases h
        | some M =>
          rcases List.mem_cons.1 ht with rfl | ht
          · exact hok
          · exact needsGo_taskOk hg t ht
      · simp [hok] at h
theorem graphD_taskOk {g : List Tk} {G : GD} (h : graphD g = some G) : ∀ t ∈ g, taskOk t := by
  obtain ⟨N, hN, _, _⟩ := graphD_spec h
  unfold needsD at hN
  by_cases h8 : g.length ≤ 8
  · rw [if_pos h8] at hN; exact needsGo_taskOk hN
  · rw [if_neg h8] at hN; cases hN
theorem drawn_below {w w' : World} (h : Drawn0 w w') : Below w.heap.size w w' := by
  obtain ⟨n, rfl⟩ := h
  exact pw_below_drewN (Below.refl _ _) n
theorem graphOf_none (A0 : Option Addr) (c0 : Nat) (l0 : List Tk) (w : World) (hT : Tab w) (hr0 : k37.C w A0 l0.length l0) (hc0 : l0.length ≤ c0) (hg : graphD l0 = none) :
    Calls Tryd.prog 60 #[.slice A0 l0.length c0] w fun e w' => e = .returned (.tuple #[.pointer none, .bool false]) ∧ Below w.heap.size w w' :=
  (graphOf_calls A0 c0 l0 w hT hr0 hc0).mono fun e w' h => by unfold graphPost at h; rw [hg] at h; exact h
theorem graphOf_row (A0 : Option Addr) (c0 : Nat) (l0 : List Tk) (G : GD) (w : World) (hT : Tab w) (hr0 : k37.C w A0 l0.length l0) (hc0 : l0.length ≤ c0) (hg : graphD l0 = some G) :
    Calls Tryd.prog 60 #[.slice A0 l0.length c0] w fun e w' => ∃ (b : Nat) (v : Value), e = .returned (.tuple #[.pointer (some ⟨b, 0, none⟩), .bool true]) ∧ Below w.heap.size w w' ∧ w.heap.size ≤ b ∧ IsG w' b G ∧ w'.cell? ⟨b, 2, none⟩ = some v ∧ (Kd.int .i64).R 3 w' w.heap.size (fun _ => True) v (up G.order) :=
  (graphOf_calls A0 c0 l0 w hT hr0 hc0).mono fun e w' h => by
    unfold graphPost at h
    rw [hg] at h
    obtain ⟨b, v, h1, h2, h3, h4, h5, h6, _⟩ := h
    exact ⟨b, v, h1, h2, h3, h4, h5, h6⟩
theorem graphOf_some (A0 : Option Addr) (c0 : Nat) (l0 : List Tk) (G : GD) (w : World) (hT : Tab w) (hr0 : k37.C w A0 l0.length l0) (hc0 : l0.length ≤ c0) (hg : graphD l0 = some G) :
    Calls Tryd.prog 60 #[.slice A0 l0.length c0] w fun e w' => ∃ b : Nat, e = .returned (.tuple #[.pointer (some ⟨b, 0, none⟩), .bool true]) ∧ Below w.heap.size w w' ∧ IsG w' b G :=
  (graphOf_row A0 c0 l0 G w hT hr0 hc0 hg).mono fun e w' ⟨b, v, h1, h2, _, h3, _⟩ => ⟨b, h1, h2, h3⟩
theorem within_is (x a b : Int) (t : Bool) (w : World) (h : decide (a ≤ x ∧ x ≤ b) = t) :
    Calls Tryd.prog 81 #[.int .i64 x, .int .i64 a, .int .i64 b] w fun e w' => e = .returned (.bool t) ∧ Below w.heap.size w w' :=
  (impl_within.calls x a b t w (by rw [within_eq, h])).mono fun e w' h => ⟨h.1, drawn_below h.2⟩
theorem grown_of_below {a b : World} (row : Option Nat) (h : Below a.heap.size a b) : a.grownBy b row := ⟨h.os, h.tape, h.output, h.size, fun k hk _ => h.block k hk⟩
end Go.Proofs.YtekajandipdlhaaDoor.Core
end
section
set_option linter.unusedVariables false
set_option linter.unusedSimpArgs false
namespace Go.Proofs.YtekajandipdlhaaDoor.Core
open Go Go.RowKit Go.Proofs.YtekajandipdlhaaDoorW.PrintWords Go.Proofs.YtekajandipdlhaaDoorW.PrintMore Go.Proofs.YtekajandipdlhaaDoor.P
/-- The time of a task. -/
def tmN (g : List Tk) (i : Nat) : Nat := (g.getD i z37).f0.toNat
/-- One need of a task: what lies behind it. -/
def tStep (i : Nat) (L : List Nat) (k : Nat) : List Nat := L.set k (max (L.getD k 0) (L.getD i 0))
def tOne (g : List Tk) (N : List Nat) (L : List Nat) (i : Nat) : List Nat := (elemsN (N.getD i 0)).foldl (tStep i) (L.set i (L.getD i 0 + tmN g i))
/-- The tails behind some tasks, the last ones of the order first. -/
def tTo (g : List Tk) (N : List Nat) (n : Nat) (O : List Nat) : List Nat := O.foldl (tOne g N) (List.replicate n 0)
def tailsN (G : GD) : List Nat := tTo G.tasks G.needs G.tasks.length G.order.reverse
/-- One need of a task: what lies ahead. -/
def hStep (g : List Tk) (i : Nat) (L : List Nat) (k : Nat) : List Nat := L.set i (max (L.getD i 0) (L.getD k 0 + tmN g k))
def hTo (g : List Tk) (N : List Nat) (n : Nat) (O : List Nat) : List Nat := O.foldl (fun L i => (elemsN (N.getD i 0)).foldl (hStep g i) L) (List.replicate n 0)
def headsN (G : GD) : List Nat := hTo G.tasks G.needs G.tasks.length G.order
theorem getD_set_ne {L : List Nat} {i j x : Nat} (h : j ≠ i) : (L.set i x).getD j 0 = L.getD j 0 := by
  rw [List.getD_eq_getElem?_getD, List.getElem?_set_ne (Ne.symm h), ← List.getD_eq_getElem?_getD]
theorem getD_set_self {L : List Nat} {i x : Nat} (h : i < L.length) : (L.set i x).getD i 0 = x := by
  rw [List.getD_eq_getElem?_getD, List.getElem?_set_self h]; rfl
theorem getD_repl (n i : Nat) : (List.replicate n 0).getD i 0 = 0 := by
  rw [List.getD_eq_getElem?_getD, List.getElem?_replicate]; split <;> rfl
theorem tStep_length (i : Nat) (L : List Nat) (k : Nat) : (tStep i L k).length = L.length := by simp [tStep]
theorem tfold_length (i : Nat) : ∀ (ks : List Nat) (L : List Nat), (ks.foldl (tStep i) L).length = L.length
  | [], _ => rfl
  | k :: ks, L => by rw [List.foldl_cons, tfold_length i ks, tStep_length]
theorem tOne_length (g : List Tk) (N L : List Nat) (i : Nat) : (tOne g N L i).length = L.length := by unfold tOne; rw [tfold_length, List.length_set]
theorem tTo_length (g : List Tk) (N : List Nat) (n : Nat) (O : List Nat) : (tTo g N n O).length = n := by
  have : ∀ (O : List Nat) (L : List Nat), L.length = n → (O.foldl (tOne g N) L).length = n := by
    intro O
    induction O with
    | nil => intro L h; exact h
    | cons i O ih => intro L h; exact ih _ (by rw [tOne_length]; exact h)
  exact this O _ (by simp)
theorem tTo_snoc (g : List Tk) (N : List Nat) (n : Nat) (O : List Nat) (i : Nat) : tTo g N n (O ++ [i]) = tOne g N (tTo g N n O) i := by unfold tTo; rw [List.foldl_append]; rfl
theorem hStep_length (g : List Tk) (i : Nat) (L : List Nat) (k : Nat) : (hStep g i L k).length = L.length := by simp [hStep]
theorem hfold_length (g : List Tk) (i : Nat) : ∀ (ks : List Nat) (L : List Nat), (ks.foldl (hStep g i) L).length = L.length
  | [], _ => rfl
  | k :: ks, L => by rw [List.foldl_cons, hfold_length g i ks, hStep_length]
theorem hTo_snoc (g : List Tk) (N : List Nat) (n : Nat) (O : List Nat) (i : Nat) : hTo g N n (O ++ [i]) = (elemsN (N.getD i 0)).foldl (hStep g i) (hTo g N n O) := by unfold hTo; rw [List.foldl_append]; rfl
theorem hTo_length (g : List Tk) (N : List Nat) (n : Nat) (O : List Nat) : (hTo g N n O).length = n := by
  have : ∀ (O : List Nat) (L : List Nat), L.length = n → (O.foldl (fun L i => (elemsN (N.getD i 0)).foldl (hStep g i) L) L).length = n := by
    intro O
    induction O with
    | nil => intro L h; exact h
    | cons i O ih => intro L h; exact ih _ (by rw [hfold_length]; exact h)
  exact this O _ (by simp)
def leB (b : Nat) (L : List Nat) : Prop := ∀ i, L.getD i 0 ≤ b
theorem leB_mono {a b : Nat} {L : List Nat} (h : leB a L) (hab : a ≤ b) : leB b L := fun i => Nat.le_trans (h i) hab
theorem leB_set {b i x : Nat} {L : List Nat} (h : leB b L) (hx : x ≤ b) : leB b (L.set i x) := by
  intro j
  by_cases e : j = i
  · subst e
    by_cases hl : j < L.length
    · rw [getD_set_self hl]; exact hx
    · rw [List.set_eq_of_length_le (by omega)]; exact h j
  · rw [getD_set_ne e]; exact h j
theorem tStep_le {b i : Nat} {L : List Nat} (h : leB b L) (k : Nat) : leB b (tStep i L k) := leB_set h (by have := h k; have := h i; omega)
theorem tfold_le {b i : Nat} : ∀ (ks : List Nat) (L : List Nat), leB b L → leB b (ks.foldl (tStep i) L)
  | [], _, h => h
  | k :: ks, L, h => tfold_le ks _ (tStep_le h k)
def tm20 (g : List Tk) : Prop := ∀ i, tmN g i ≤ 20
theorem tOne_le {g : List Tk} {b : Nat} {N L : List Nat} (ht : tm20 g) (h : leB b L) (i : Nat) : leB (b + 20) (tOne g N L i) :=
  tfold_le _ _ (leB_set (leB_mono h (by omega)) (by have := h i; have := ht i; omega))
theorem tTo_le {g : List Tk} (ht : tm20 g) (N : List Nat) (n : Nat) (O : List Nat) : leB (O.length * 20) (tTo g N n O) := by
  have : ∀ (O : List Nat) (b : Nat) (L : List Nat), leB b L → leB (b + O.length * 20) (O.foldl (tOne g N) L) := by
    intro O
    induction O with
    | nil => intro b L h; simpa using h
    | cons i O ih =>
      intro b L h
      have := ih (b + 20) _ (tOne_le (N := N) ht h i)
      rw [List.length_cons, show b + (O.length + 1) * 20 = b + 20 + O.length * 20 by omega]
      exact this
  have := this O 0 (List.replicate n 0) (fun i => by rw [getD_repl]; exact Nat.le_refl _)
  simpa [tTo] using this
theorem hStep_le {g : List Tk} {b i : Nat} {L : List Nat} (ht : tm20 g) (h : leB b L) (k : Nat) : leB (b + 20) (hStep g i L k) := leB_set (leB_mono h (by omega)) (by have := h i; have := h k; have := ht k; omega)
theorem hfold_le {g : List Tk} {i : Nat} (ht : tm20 g) : ∀ (ks : List Nat) (b : Nat) (L : List Nat), leB b L → leB (b + ks.length * 20) (ks.foldl (hStep g i) L)
  | [], _, _, h => by simpa using h
  | k :: ks, b, L, h => by
    have := hfold_le (i := i) ht ks (b + 20) _ (hStep_le (i := i) ht h k)
    rw [List.foldl_cons, List.length_cons, show b + (ks.length + 1) * 20 = b + 20 + ks.length * 20 by omega]
    exact this
theorem hTo_le {g : List Tk} (ht : tm20 g) (N : List Nat) (n : Nat) (O : List Nat) : leB (O.length * 160) (hTo g N n O) := by
  have : ∀ (O : List Nat) (b : Nat) (L : List Nat), leB b L → leB (b + O.length * 160) (O.foldl (fun L i => (elemsN (N.getD i 0)).foldl (hStep g i) L) L) := by
    intro O
    induction O with
    | nil => intro b L h; simpa using h
    | cons i O ih =>
      intro b L h
      have h1 := leB_mono (hfold_le (i := i) ht (elemsN (N.getD i 0)) b L h) (show b + (elemsN (N.getD i 0)).length * 20 ≤ b + 160 by have := elemsN_length (N.getD i 0); omega)
      have := ih (b + 160) _ h1
      rw [List.length_cons, show b + (O.length + 1) * 160 = b + 160 + O.length * 160 by omega]
      exact this
  have := this O 0 (List.replicate n 0) (fun i => by rw [getD_repl]; exact Nat.le_refl _)
  simpa [hTo] using this
end Go.Proofs.YtekajandipdlhaaDoor.Core
end
section
set_option linter.unusedVariables false
set_option linter.unusedSimpArgs false
namespace Go.Proofs.YtekajandipdlhaaDoor.Core
open Go Go.RowKit Go.Proofs.YtekajandipdlhaaDoorW.PrintWords Go.Proofs.YtekajandipdlhaaDoorW.PrintMore Go.Proofs.YtekajandipdlhaaDoor.P
theorem i64_w' (n : Int) : IntKind.i64.wrap n = Go.RowKit.wrap64 n := by unfold Go.RowKit.wrap64; exact IntKind.wrap_i64 n
theorem tm20_of {g : List Tk} (h : ∀ t ∈ g, taskOk t) : tm20 g := by
  intro i
  unfold tmN
  rw [List.getD_eq_getElem?_getD]
  cases e : g[i]? with
  | none => simp [z37]
  | some t =>
    have := (h t (List.mem_of_getElem? e)).1
    simp only [Option.getD_some]
    omega
theorem tm_int {g : List Tk} (h : ∀ t ∈ g, taskOk t) {i : Nat} (hi : i < g.length) : (g.getD i z37).f0 = (tmN g i : Int) ∧ 1 ≤ tmN g i ∧ tmN g i ≤ 20 := by
  have hm : g.getD i z37 ∈ g := by
    rw [List.getD_eq_getElem?_getD, List.getElem?_eq_getElem hi]
    exact List.getElem_mem hi
  have := (h _ hm).1
  unfold tmN
  omega
/-- Sums and greatest ones of small numbers, as the program reckons them. -/
theorem wadd {a b : Nat} (ha : a ≤ 100000) (hb : b ≤ 100000) : wrap64 ((a : Int) + (b : Int)) = ((a + b : Nat) : Int) ∧ IntKind.i64.wrap ((a : Int) + (b : Int)) = ((a + b : Nat) : Int) := by
  have h : wrap64 ((a : Int) + (b : Int)) = ((a + b : Nat) : Int) := by rw [w64 (by omega) (by omega)]; omega
  exact ⟨h, by rw [i64_w']; exact h⟩
theorem wmax (a b : Nat) : (if (a : Int) < (b : Int) then (b : Int) else (a : Int)) = ((max a b : Nat) : Int) := by split <;> omega
end Go.Proofs.YtekajandipdlhaaDoor.Core
end
section
set_option linter.unusedVariables false
set_option linter.unusedSimpArgs false
namespace Go.Proofs.YtekajandipdlhaaDoor.Core
open Go Go.RowKit Go.Proofs.YtekajandipdlhaaDoorW.PrintWords Go.Proofs.YtekajandipdlhaaDoorW.PrintMore Go.Proofs.YtekajandipdlhaaDoor.P
theorem VG.uind {g : List Tk} {G : GD} (v : VG g G) (hG : graphD g = some G) {Q : Nat → Prop} (h : ∀ k, k < g.length → (∀ m, m < g.length → (G.needs.getD m 0).testBit k = true → Q m) → Q k) : ∀ k, k < g.length → Q k :=
  v.rind hG fun k hk ih => h k hk fun m hm hb => ih m hm ((below_bits hG hm k).2 ⟨k, hb, .inl rfl⟩)
/-- What tails are. -/
def TailOk (g : List Tk) (N B : List Nat) : Prop := B.length = g.length ∧ ∀ i, i < g.length → (∀ k, k < g.length → (N.getD k 0).testBit i = true → B.getD k 0 + tmN g i ≤ B.getD i 0) ∧ (B.getD i 0 = tmN g i ∨ ∃ k, k < g.length ∧ (N.getD k 0).testBit i = true ∧ B.getD i 0 = B.getD k 0 + tmN g i)
theorem TailOk.self {g : List Tk} {N B : List Nat} (h : TailOk g N B) {i : Nat} (hi : i < g.length) : tmN g i ≤ B.getD i 0 := by
  rcases (h.2 i hi).2 with h1 | ⟨k, _, _, h1⟩ <;> omega
theorem tail_uniq {g : List Tk} {G : GD} (v : VG g G) (hG : graphD g = some G) {B C : List Nat} (hB : TailOk g G.needs B) (hC : TailOk g G.needs C) : B = C := by
  have key : ∀ i, i < g.length → B.getD i 0 = C.getD i 0 := v.uind hG (Q := fun i => B.getD i 0 = C.getD i 0) fun i hi ih => by
    obtain ⟨b1, b2⟩ := hB.2 i hi
    obtain ⟨c1, c2⟩ := hC.2 i hi
    have sb := hB.self hi
    have sc := hC.self hi
    have h1 : B.getD i 0 ≤ C.getD i 0 := by
      rcases b2 with h | ⟨k, hk, hb, h⟩
      · omega
      · have := c1 k hk hb; have := ih k hk hb; omega
    have h2 : C.getD i 0 ≤ B.getD i 0 := by
      rcases c2 with h | ⟨k, hk, hb, h⟩
      · omega
      · have := b1 k hk hb; have := ih k hk hb; omega
    omega
  refine List.ext_getElem (by rw [hB.1, hC.1]) fun i h1 h2 => ?_
  have := key i (by rw [← hB.1]; exact h1)
  rw [List.getD_eq_getElem?_getD, List.getD_eq_getElem?_getD, List.getElem?_eq_getElem h1, List.getElem?_eq_getElem h2] at this
  exact this
theorem fold_t (i : Nat) : ∀ (ks B : List Nat), i ∉ ks → (∀ k ∈ ks, k < B.length) → (∀ j, j ∉ ks → (ks.foldl (tStep i) B).getD j 0 = B.getD j 0) ∧ ∀ k ∈ ks, (ks.foldl (tStep i) B).getD k 0 = max (B.getD k 0) (B.getD i 0)
  | [], B, _, _ => ⟨fun _ _ => rfl, fun _ h => by cases h⟩
  | m :: ks, B, hi, hl => by
    have hmi : i ≠ m := fun e => hi (by rw [e]; exact List.mem_cons_self)
    have hml := hl m List.mem_cons_self
    obtain ⟨h1, h2⟩ := fold_t i ks (tStep i B m) (fun h => hi (List.mem_cons_of_mem _ h)) (fun k hk => by rw [tStep_length]; exact hl k (List.mem_cons_of_mem _ hk))
    have e1 : ∀ j, j ≠ m → (tStep i B m).getD j 0 = B.getD j 0 := fun j hj => getD_set_ne hj
    have e2 : (tStep i B m).getD m 0 = max (B.getD m 0) (B.getD i 0) := getD_set_self hml
    rw [List.foldl_cons]
    refine ⟨fun j hj => ?_, fun k hk => ?_⟩
    · simp only [List.mem_cons, not_or] at hj
      rw [h1 j hj.2, e1 j hj.1]
    · by_cases hks : k ∈ ks
      · rw [h2 k hks, e1 i hmi]
        by_cases e : k = m
        · rw [e, e2]; omega
        · rw [e1 k e]
      · have e : k = m := (List.mem_cons.1 hk).resolve_right hks
        rw [h1 k hks, e, e2]
/-- What the table holds behind the first ones of the turned order. -/
def TInv (g : List Tk) (N : List Nat) (pre B : List Nat) : Prop := B.length = g.length ∧
  (∀ i ∈ pre, (∀ k ∈ pre, (N.getD k 0).testBit i = true → B.getD k 0 + tmN g i ≤ B.getD i 0) ∧ (B.getD i 0 = tmN g i ∨ ∃ k ∈ pre, (N.getD k 0).testBit i = true ∧ B.getD i 0 = B.getD k 0 + tmN g i)) ∧
  (∀ i, i ∉ pre → (∀ k ∈ pre, (N.getD k 0).testBit i = true → B.getD k 0 ≤ B.getD i 0) ∧ (B.getD i 0 = 0 ∨ ∃ k ∈ pre, (N.getD k 0).testBit i = true ∧ B.getD i 0 = B.getD k 0))
theorem tinv_step {g : List Tk} {N pre B : List Nat} {i : Nat} (h : TInv g N pre B) (hi : i < g.length) (hip : i ∉ pre) (hel : ∀ m, m ∈ elemsN (N.getD i 0) ↔ (N.getD i 0).testBit m = true) (hl : ∀ k, (N.getD i 0).testBit k = true → k < g.length ∧ k ≠ i ∧ k ∉ pre) : TInv g N (pre ++ [i]) (tOne g N B i) := by
  obtain ⟨hlen, hb, hc⟩ := h
  have hnk : i ∉ elemsN (N.getD i 0) := fun hm => (hl i ((hel i).1 hm)).2.1 rfl
  obtain ⟨f1, f2⟩ := fold_t i (elemsN (N.getD i 0)) (B.set i (B.getD i 0 + tmN g i)) hnk (fun k hk => by rw [List.length_set, hlen]; exact (hl k ((hel k).1 hk)).1)
  have s1 : (B.set i (B.getD i 0 + tmN g i)).getD i 0 = B.getD i 0 + tmN g i := getD_set_self (by omega)
  have s2 : ∀ j, j ≠ i → (B.set i (B.getD i 0 + tmN g i)).getD j 0 = B.getD j 0 := fun j hj => getD_set_ne hj
  have ti : (tOne g N B i).getD i 0 = B.getD i 0 + tmN g i := (f1 i hnk).trans s1
  have tp : ∀ j ∈ pre, (tOne g N B i).getD j 0 = B.getD j 0 := fun j hj => by
    have hji : j ≠ i := fun e => hip (e ▸ hj)
    exact (f1 j (fun hm => (hl j ((hel j).1 hm)).2.2 hj)).trans (s2 j hji)
  refine ⟨by rw [tOne_length, hlen], fun j hj => ?_, fun j hj => ?_⟩
  · rcases List.mem_append.1 hj with hj | hj
    · rw [tp j hj]
      refine ⟨fun k hk hkb => ?_, (hb j hj).2.imp_right ?_⟩
      · rcases List.mem_append.1 hk with hk | hk
        · rw [tp k hk]; exact (hb j hj).1 k hk hkb
        · rw [List.mem_singleton.1 hk] at hkb
          exact absurd hj (hl j hkb).2.2
      · rintro ⟨k, hk, h1, h2⟩
        exact ⟨k, List.mem_append_left _ hk, h1, by rw [tp k hk]; exact h2⟩
    · rw [List.mem_singleton.1 hj, ti]
      obtain ⟨c1, c2⟩ := hc i hip
      refine ⟨fun k hk hkb => ?_, ?_⟩
      · rcases List.mem_append.1 hk with hk | hk
        · rw [tp k hk]; have := c1 k hk hkb; omega
        · rw [List.mem_singleton.1 hk] at hkb
          exact absurd rfl (hl i hkb).2.1
      · rcases c2 with h0 | ⟨k, hk, h1, h2⟩
        · left; omega
        · exact .inr ⟨k, List.mem_append_left _ hk, h1, by rw [tp k hk]; omega⟩
  · simp only [List.mem_append, List.mem_singleton, not_or] at hj
    obtain ⟨c1, c2⟩ := hc j hj.1
    by_cases hm : j ∈ elemsN (N.getD i 0)
    · have e : (tOne g N B i).getD j 0 = max (B.getD j 0) (B.getD i 0 + tmN g i) := by
        have := f2 j hm
        rw [s1, s2 j hj.2] at this
        exact this
      rw [e]
      refine ⟨fun k hk hkb => ?_, ?_⟩
      · rcases List.mem_append.1 hk with hk | hk
        · rw [tp k hk]; have := c1 k hk hkb; omega
        · rw [List.mem_singleton.1 hk, ti]; omega
      · by_cases hle : B.getD i 0 + tmN g i ≤ B.getD j 0
        · rcases c2 with h0 | ⟨k, hk, h1, h2⟩
          · left; omega
          · exact .inr ⟨k, List.mem_append_left _ hk, h1, by rw [tp k hk]; omega⟩
        · exact .inr ⟨i, by simp, (hel j).1 hm, by rw [ti]; omega⟩
    · have e : (tOne g N B i).getD j 0 = B.getD j 0 := (f1 j hm).trans (s2 j hj.2)
      rw [e]
      refine ⟨fun k hk hkb => ?_, c2.imp_right ?_⟩
      · rcases List.mem_append.1 hk with hk | hk
        · rw [tp k hk]; exact c1 k hk hkb
        · rw [List.mem_singleton.1 hk] at hkb
          exact absurd ((hel j).2 hkb) hm
      · rintro ⟨k, hk, h1, h2⟩
        exact ⟨k, List.mem_append_left _ hk, h1, by rw [tp k hk]; exact h2⟩
/-- The needs of a task come ahead of it: in the turned order behind it. -/
theorem VG.turned {g : List Tk} {G : GD} (v : VG g G) {pre suf : List Nat} {i : Nat} (ho : G.order.reverse = pre ++ i :: suf) : i < g.length ∧ i ∉ pre ∧ (∀ m, m ∈ elemsN (G.needs.getD i 0) ↔ (G.needs.getD i 0).testBit m = true) ∧ ∀ k, (G.needs.getD i 0).testBit k = true → k < g.length ∧ k ≠ i ∧ k ∉ pre := by
  have ho2 : G.order = suf.reverse ++ i :: pre.reverse := by
    have := congrArg List.reverse ho
    simpa using this
  have hnd := v.ord.nodup
  have hil := v.mem.1 (show i ∈ G.order by rw [ho2]; simp)
  rw [ho2, List.nodup_append] at hnd
  have hnd2 := List.nodup_cons.1 hnd.2.1
  refine ⟨hil, fun h => hnd2.1 (List.mem_reverse.2 h), fun m => ?_, fun k hk => ?_⟩
  · rw [mem_elemsN]
    exact ⟨fun h => h.2, fun h => ⟨by have := v.need_lt h; have := v.n8; omega, h⟩⟩
  · have hks := v.ord.needs _ i _ ho2 k hk
    refine ⟨v.need_lt hk, fun e => ?_, fun hp => ?_⟩
    · exact hnd.2.2 k hks i List.mem_cons_self e
    · exact hnd.2.2 k hks k (List.mem_cons_of_mem _ (List.mem_reverse.2 hp)) rfl
theorem tails_ok {g : List Tk} {G : GD} (v : VG g G) : TailOk g G.needs (tailsN G) := by
  have key : ∀ (suf pre : List Nat), G.order.reverse = pre ++ suf → TInv g G.needs pre (tTo g G.needs g.length pre) → TInv g G.needs G.order.reverse (tTo g G.needs g.length G.order.reverse) := by
    intro suf
    induction suf with
    | nil => intro pre ho h; rw [List.append_nil] at ho; rw [ho]; exact h
    | cons i suf ih =>
      intro pre ho h
      obtain ⟨h1, h2, h3, h4⟩ := v.turned ho
      refine ih (pre ++ [i]) (by rw [ho]; simp) ?_
      rw [tTo_snoc]
      exact tinv_step h h1 h2 h3 h4
  have h := key G.order.reverse [] rfl ⟨tTo_length _ _ _ _, (fun i h => absurd h List.not_mem_nil), fun i _ => ⟨(fun k h => absurd h List.not_mem_nil), .inl (getD_repl _ _)⟩⟩
  have hin : ∀ i, i < g.length → i ∈ G.order.reverse := fun i hi => List.mem_reverse.2 (v.mem.2 hi)
  have e : tailsN G = tTo g G.needs g.length G.order.reverse := by unfold tailsN; rw [v.tasks]
  rw [e]
  refine ⟨h.1, fun i hi => ⟨fun k hk hb => (h.2.1 i (hin i hi)).1 k (hin k hk) hb, (h.2.1 i (hin i hi)).2.imp_right ?_⟩⟩
  rintro ⟨k, hk, h1, h2⟩
  exact ⟨k, v.mem.1 (List.mem_reverse.1 hk), h1, h2⟩
end Go.Proofs.YtekajandipdlhaaDoor.Core
end
section
set_option linter.unusedVariables false
set_option linter.unusedSimpArgs false
namespace Go.Proofs.YtekajandipdlhaaDoor.Core
open Go Go.RowKit Go.Proofs.YtekajandipdlhaaDoorW.PrintWords Go.Proofs.YtekajandipdlhaaDoorW.PrintMore Go.Proofs.YtekajandipdlhaaDoor.P
/-- The greatest one of the tails of those that need a task, among some. -/
def mst (N L : List Nat) (i : Nat) (l : List Nat) (m : Nat) : Nat := l.foldl (fun m k => if (N.getD k 0).testBit i = true then max m (L.getD k 0) else m) m
theorem mst_spec (N L : List Nat) (i : Nat) : ∀ (l : List Nat) (m : Nat), m ≤ mst N L i l m ∧ (∀ k ∈ l, (N.getD k 0).testBit i = true → L.getD k 0 ≤ mst N L i l m) ∧ (mst N L i l m = m ∨ ∃ k ∈ l, (N.getD k 0).testBit i = true ∧ mst N L i l m = L.getD k 0)
  | [], m => ⟨Nat.le_refl _, (fun _ h => by cases h), .inl rfl⟩
  | x :: l, m => by
    obtain ⟨h1, h2, h3⟩ := mst_spec N L i l (if (N.getD x 0).testBit i = true then max m (L.getD x 0) else m)
    have e : mst N L i (x :: l) m = mst N L i l (if (N.getD x 0).testBit i = true then max m (L.getD x 0) else m) := rfl
    rw [e]
    by_cases hb : (N.getD x 0).testBit i = true
    · rw [if_pos hb] at h1 h2 h3 ⊢
      refine ⟨by omega, fun k hk hkb => ?_, ?_⟩
      · rcases List.mem_cons.1 hk with rfl | hk
        · omega
        · exact h2 k hk hkb
      · rcases h3 with h3 | ⟨k, hk, hkb, h3⟩
        · by_cases hle : L.getD x 0 ≤ m
          · left; omega
          · exact .inr ⟨x, List.mem_cons_self, hb, by omega⟩
        · exact .inr ⟨k, List.mem_cons_of_mem _ hk, hkb, h3⟩
    · rw [if_neg hb] at h1 h2 h3 ⊢
      refine ⟨h1, fun k hk hkb => ?_, ?_⟩
      · rcases List.mem_cons.1 hk with rfl | hk
        · exact absurd hkb hb
        · exact h2 k hk hkb
      · rcases h3 with h3 | ⟨k, hk, hkb, h3⟩
        · exact .inl h3
        · exact .inr ⟨k, List.mem_cons_of_mem _ hk, hkb, h3⟩
def sOne (g : List Tk) (N L : List Nat) (i : Nat) : List Nat := L.set i (mst N L i (List.range g.length) 0 + tmN g i)
def sTo (g : List Tk) (N O : List Nat) : List Nat := O.foldl (sOne g N) (List.replicate g.length 0)
theorem sTo_snoc (g : List Tk) (N O : List Nat) (i : Nat) : sTo g N (O ++ [i]) = sOne g N (sTo g N O) i := by unfold sTo; rw [List.foldl_append]; rfl
theorem sTo_length (g : List Tk) (N O : List Nat) : (sTo g N O).length = g.length := by
  have : ∀ (O L : List Nat), L.length = g.length → (O.foldl (sOne g N) L).length = g.length := by
    intro O
    induction O with
    | nil => intro L h; exact h
    | cons i O ih => intro L h; exact ih _ (by unfold sOne; rw [List.length_set]; exact h)
  exact this O _ (by simp)
theorem mst_le {N L : List Nat} {i b : Nat} (h : leB b L) : ∀ (l : List Nat) (m : Nat), m ≤ b → mst N L i l m ≤ b
  | [], m, hm => hm
  | x :: l, m, hm => mst_le h l _ (by have := h x; show (if (N.getD x 0).testBit i = true then max m (L.getD x 0) else m) ≤ b; split <;> omega)
theorem sTo_le {g : List Tk} (ht : tm20 g) (N O : List Nat) : leB (O.length * 20) (sTo g N O) := by
  have : ∀ (O : List Nat) (b : Nat) (L : List Nat), leB b L → leB (b + O.length * 20) (O.foldl (sOne g N) L) := by
    intro O
    induction O with
    | nil => intro b L h; simpa using h
    | cons i O ih =>
      intro b L h
      have := ih (b + 20) (sOne g N L i) (leB_set (leB_mono h (by omega)) (by have := mst_le (N := N) (i := i) h (List.range g.length) 0 (by omega); have := ht i; omega))
      rw [List.length_cons, show b + (O.length + 1) * 20 = b + 20 + O.length * 20 by omega]
      exact this
  have := this O 0 (List.replicate g.length 0) (fun i => by rw [getD_repl]; exact Nat.le_refl _)
  simpa [sTo] using this
theorem sTo_ok {g : List Tk} {G : GD} (v : VG g G) : TailOk g G.needs (sTo g G.needs G.order.reverse) := by
  have hall : ∀ k, k < g.length → k ∈ G.order.reverse := fun i hi => List.mem_reverse.2 (v.mem.2 hi)
  have key : ∀ (suf pre : List Nat), G.order.reverse = pre ++ suf → ((∀ i, i ∉ pre → (sTo g G.needs pre).getD i 0 = 0) ∧ ∀ i ∈ pre, (∀ k ∈ pre, (G.needs.getD k 0).testBit i = true → (sTo g G.needs pre).getD k 0 + tmN g i ≤ (sTo g G.needs pre).getD i 0) ∧ ((sTo g G.needs pre).getD i 0 = tmN g i ∨ ∃ k ∈ pre, (G.needs.getD k 0).testBit i = true ∧ (sTo g G.needs pre).getD i 0 = (sTo g G.needs pre).getD k 0 + tmN g i)) →
      (∀ i ∈ G.order.reverse, (∀ k ∈ G.order.reverse, (G.needs.getD k 0).testBit i = true → (sTo g G.needs G.order.reverse).getD k 0 + tmN g i ≤ (sTo g G.needs G.order.reverse).getD i 0) ∧ ((sTo g G.needs G.order.reverse).getD i 0 = tmN g i ∨ ∃ k ∈ G.order.reverse, (G.needs.getD k 0).testBit i = true ∧ (sTo g G.needs G.order.reverse).getD i 0 = (sTo g G.needs G.order.reverse).getD k 0 + tmN g i)) := by
    intro suf
    induction suf with
    | nil => intro pre ho h; rw [List.append_nil] at ho; rw [ho]; exact h.2
    | cons i suf ih =>
      intro pre ho h
      obtain ⟨hz, hb⟩ := h
      obtain ⟨h1, h2, h3, h4⟩ := v.turned ho
      refine ih (pre ++ [i]) (by rw [ho]; simp) ?_
      rw [sTo_snoc]
      generalize hB : sTo g G.needs pre = B at hz hb
      have hlen : B.length = g.length := by rw [← hB]; exact sTo_length _ _ _
      have ti : (sOne g G.needs B i).getD i 0 = mst G.needs B i (List.range g.length) 0 + tmN g i := getD_set_self (by omega)
      have tj : ∀ j, j ≠ i → (sOne g G.needs B i).getD j 0 = B.getD j 0 := fun j hj => getD_set_ne hj
      have tp : ∀ j ∈ pre, (sOne g G.needs B i).getD j 0 = B.getD j 0 := fun j hj => tj j (fun e => h2 (e ▸ hj))
      obtain ⟨m1, m2, m3⟩ := mst_spec G.needs B i (List.range g.length) 0
      refine ⟨fun j hj => ?_, fun j hj => ?_⟩
      · simp only [List.mem_append, List.mem_singleton, not_or] at hj
        rw [tj j hj.2]; exact hz j hj.1
      · rcases List.mem_append.1 hj with hj | hj
        · rw [tp j hj]
          refine ⟨fun k hk hkb => ?_, (hb j hj).2.imp_right ?_⟩
          · rcases List.mem_append.1 hk with hk | hk
            · rw [tp k hk]; exact (hb j hj).1 k hk hkb
            · rw [List.mem_singleton.1 hk] at hkb
              exact absurd hj (h4 j hkb).2.2
          · rintro ⟨k, hk, e1, e2⟩
            exact ⟨k, List.mem_append_left _ hk, e1, by rw [tp k hk]; exact e2⟩
        · rw [List.mem_singleton.1 hj, ti]
          refine ⟨fun k hk hkb => ?_, ?_⟩
          · rcases List.mem_append.1 hk with hk | hk
            · rw [tp k hk]
              have := m2 k (List.mem_range.2 (v.mem.1 (List.mem_reverse.1 (by rw [ho]; exact List.mem_append_left _ hk)))) hkb
              omega
            · rw [List.mem_singleton.1 hk] at hkb
              exact absurd rfl (h4 i hkb).2.1
          · rcases m3 with m3 | ⟨k, hk, hkb, m3⟩
            · left; omega
            · by_cases hkp : k ∈ pre
              · exact .inr ⟨k, List.mem_append_left _ hkp, hkb, by rw [tp k hkp]; omega⟩
              · left; rw [hz k hkp] at m3; omega
  have h := key G.order.reverse [] rfl ⟨fun i _ => getD_repl _ _, fun i h => by cases h⟩
  refine ⟨sTo_length _ _ _, fun i hi => ⟨fun k hk hb => (h i (hall i hi)).1 k (hall k hk) hb, (h i (hall i hi)).2.imp_right ?_⟩⟩
  rintro ⟨k, hk, h1, h2⟩
  exact ⟨k, v.mem.1 (List.mem_reverse.1 hk), h1, h2⟩
theorem sTo_tails {g : List Tk} {G : GD} (v : VG g G) (hG : graphD g = some G) : sTo g G.needs G.order.reverse = tailsN G := tail_uniq v hG (sTo_ok v) (tails_ok v)
theorem mx_nat (a b : Nat) : mx (a : Int) (b : Int) = ((max a b : Nat) : Int) := by unfold mx; split <;> omega
theorem up_set' (L : List Nat) (i x : Nat) : (up L).set i (x : Int) = up (L.set i x) := by unfold up; rw [List.map_set]; rfl
theorem ev_tl1 {g : List Tk} (hg : Fits g) {G : GD} (v : VG g G) {L : List Nat} (hl : L.length = g.length) {b : Nat} (hb : leB b L) (hb2 : b ≤ 100000) {order : List Int} {x5 : Int} {i : Nat} (hi : i < g.length) {R : List Int}
    (h : Ev (fun k => spec_tails.l0 k g (up (sOne g G.needs L i)) order (wrap64 (x5 - 1))) R) : ∀ (d j m : Nat), j + d = g.length → m ≤ b → mst G.needs L i (List.range' j d) m = mst G.needs L i (List.range g.length) 0 → Ev (fun k => spec_tails.l1 k g (up L) order x5 (i : Int) (m : Int) (j : Int)) R
  | 0, j, m, hd, hm, he => by
    have htm := tm_int (fun t ht => (v.fine.1 t ht).1) hi
    have hm2 : m = mst G.needs L i (List.range g.length) 0 := he
    have hw := (wadd (a := m) (b := tmN g i) (by omega) (by omega)).1
    refine Ev.succ ?_
    simp only [spec_tails.l1, rdT_nat, htm.1, hw, Int.toNat_natCast, up_set']
    refine Ev.neg (by omega) (Ev.pos (by omega) (Ev.pos (by omega) (Ev.pos (by rw [up_length]; omega) ?_)))
    rw [hm2]
    exact h
  | d + 1, j, m, hd, hm, he => by
    have hj : j < g.length := by omega
    have h8 := v.n8
    have hin := ev_isIn (L := (g.getD j z37).f1) (hg.2 _ (getD_mem hj)) (i : Int)
    rw [← v.bits j hj i] at hin
    have hw : wrap64 ((j : Int) + 1) = ((j + 1 : Nat) : Int) := w64s (by unfold big; omega)
    have hrk : rd (up L) (j : Int) = ((L.getD j 0 : Nat) : Int) := rd_up rfl
    rw [List.range'_succ] at he
    refine Ev.succ ?_
    simp only [spec_tails.l1, rdT_nat, hw, hrk, mx_nat]
    refine Ev.pos (by omega) (Ev.pos (by omega) (Ev.bind hin ?_))
    cases hbit : (G.needs.getD j 0).testBit i with
    | true =>
      have he2 : mst G.needs L i (List.range' (j + 1) d) (max m (L.getD j 0)) = mst G.needs L i (List.range g.length) 0 := by
        rw [← he]
        show _ = mst G.needs L i (List.range' (j + 1) d) (if (G.needs.getD j 0).testBit i = true then max m (L.getD j 0) else m)
        rw [if_pos hbit]
      exact Ev.pos rfl (Ev.pos (by rw [up_length]; omega) (ev_tl1 hg v hl hb hb2 hi h d (j + 1) _ (by omega) (by have := hb j; omega) he2))
    | false =>
      have he2 : mst G.needs L i (List.range' (j + 1) d) m = mst G.needs L i (List.range g.length) 0 := by
        rw [← he]
        show _ = mst G.needs L i (List.range' (j + 1) d) (if (G.needs.getD j 0).testBit i = true then max m (L.getD j 0) else m)
        rw [hbit]; rfl
      exact Ev.neg (by simp) (ev_tl1 hg v hl hb hb2 hi h d (j + 1) m (by omega) hm he2)
theorem ev_tl0 {g : List Tk} (hg : Fits g) {G : GD} (v : VG g G) : ∀ (n : Nat) (a b : List Nat), a.length = n → G.order = a ++ b → Ev (fun k => spec_tails.l0 k g (up (sTo g G.needs b.reverse)) (up G.order) ((n : Int) - 1)) (up (sTo g G.needs G.order.reverse))
  | 0, a, b, hn, ho => by
    have ha : a = [] := List.length_eq_zero_iff.1 hn
    rw [ha, List.nil_append] at ho
    refine Ev.succ ?_
    simp only [spec_tails.l0]
    refine Ev.neg (by omega) ?_
    rw [ho]
    exact Ev.const _
  | n + 1, a, b, hn, ho => by
    obtain ⟨a0, i, rfl⟩ : ∃ t z, a = t ++ [z] := by
      have hne : a ≠ [] := by intro h; rw [h] at hn; simp at hn
      exact ⟨a.dropLast, a.getLast hne, (List.dropLast_concat_getLast hne).symm⟩
    have hn0 : a0.length = n := by simpa using hn
    have ho2 : G.order = a0 ++ i :: b := by rw [ho]; simp
    have hi : i < g.length := v.mem.1 (by rw [ho2]; simp)
    have h8 := v.n8
    have hol : G.order.length = g.length := by
      have := v.ord.len
      rw [v.nl, zb_full _ _ (Nat.le_refl _)] at this
      omega
    have hlen : G.order.length = n + 1 + b.length := by rw [ho]; simp [hn0]; omega
    have ih := ev_tl0 hg v n a0 (i :: b) hn0 ho2
    rw [List.reverse_cons, sTo_snoc] at ih
    have hle := sTo_le (tm20_of (fun t ht => (v.fine.1 t ht).1)) G.needs b.reverse
    rw [List.length_reverse] at hle
    have hx : ((n + 1 : Nat) : Int) - 1 = (n : Int) := by omega
    have hrd : rd (up G.order) (n : Int) = (i : Int) := by rw [rd_up (i := n) rfl, ho2]; simp [← hn0]
    have hw : wrap64 ((n : Int) - 1) = (n : Int) - 1 := w64 (by omega) (by omega)
    have h1 := ev_tl1 hg v (sTo_length g G.needs b.reverse) hle (by omega) (order := up G.order) (x5 := (n : Int)) hi (R := up (sTo g G.needs G.order.reverse)) (by rw [hw]; exact ih) g.length 0 0 (by omega) (by omega) (by rw [List.range_eq_range'])
    rw [hx]
    refine Ev.succ ?_
    simp only [spec_tails.l0, hrd]
    exact Ev.pos (by omega) (Ev.pos (by omega) (Ev.pos (by rw [up_length]; omega) h1))
theorem ev_tails {g : List Tk} (hg : Fits g) {G : GD} (hG : graphD g = some G) : Ev (fun k => spec_tails.f k g) (up (tailsN G)) := by
  have v := vg_of hG
  have h8 := v.n8
  have ht := ev_topOrder hg v.needsD
  have ho : (orderD G.needs).1 = G.order := by
    obtain ⟨N, hN, hf, rfl⟩ := graphD_spec hG
    rfl
  rw [ho] at ht
  unfold spec_tails.f
  refine Ev.pos (by omega) (Ev.pos (by omega) (Ev.bind ht ?_))
  have hol : G.order.length ≤ 8 := by
    have := v.ord.len
    rw [v.nl] at this
    omega
  have hw : wrap64 (((up G.order).length : Int) - 1) = (G.order.length : Int) - 1 := by rw [up_length, w64 (by omega) (by omega)]
  rw [hw]
  have key := ev_tl0 hg v G.order.length G.order [] rfl (by simp)
  rw [sTo_tails v hG] at key
  have e : List.replicate ((g.length : Int) : Int).toNat (0 : Int) = up (sTo g G.needs [].reverse) := by simp [sTo, up]
  rw [e]
  exact key
end Go.Proofs.YtekajandipdlhaaDoor.Core
end
section
set_option linter.unusedVariables false
set_option linter.unusedSimpArgs false
namespace Go.Proofs.YtekajandipdlhaaDoor.Core
open Go Go.RowKit Go.Shelf Go.Proofs.YtekajandipdlhaaDoorW.PrintWords Go.Proofs.YtekajandipdlhaaDoorW.PrintLast Go.Proofs.YtekajandipdlhaaDoorW.PrintMore Go.Proofs.YtekajandipdlhaaDoor.P
attribute [local go_sem] Oper.semAt_some wide_fn wide_depth
/-- What slices.Backward hands to a round: a place and what stands there. -/
abbrev Pl (xs : List Int) := { j : Nat // j < xs.length }
def bwEnc (xs : List Int) (j : Pl xs) : Array Value := #[.int .i64 (j.1 : Int), .int .i64 (rd xs (j.1 : Int))]
/-- The slice lies in its box, and its row in the world. -/
def BwT (Bn : Nat) (A : Option Addr) (c : Nat) (xs : List Int) (W : World) : Prop := Boxed W Bn 35 (.slice A xs.length c) ∧ (Kd.int .i64).C W A xs.length xs
theorem range_rev (m : Nat) : (List.range (m + 1)).reverse = m :: (List.range m).reverse := by rw [List.range_succ, List.reverse_append]; rfl
set_option maxRecDepth 100000 in
set_option maxHeartbeats 1000000 in
theorem bw1 (l Bn : Nat) (A : Option Addr) (c : Nat) (xs : List Int) (hn : xs.length ≤ 8) (J Jx : List (Pl xs) → World → Prop)
    (hY : ∀ pre j W, J pre W → pre.length < 16 → YieldAt Fence.wide 1 Tryd.prog l (bwEnc xs j) W fun e W' =>
      (e = .returned (.bool true) ∧ J (pre ++ [j]) W' ∧ (BwT Bn A c xs W → BwT Bn A c xs W')) ∨ (e = .returned (.bool false) ∧ Jx (pre ++ [j]) W'))
    (W : World) (hT : BwT Bn A c xs W) (h0 : J [] W) :
    CallsIn Fence.wide 2 Tryd.prog 116 #[.func (.yield l) #[] #[], .pointer (some ⟨Bn, 0, none⟩)] W fun e W' => (∃ v, e = .returned v) ∧
      ((∃ ys : List (Pl xs), ys.map (·.1) = (List.range xs.length).reverse ∧ J ys W') ∨ (∃ pre, True ∧ Jx pre W')) := by
  have hc0 := hT.1.cell
  refine callsIn_of_wp Tryd.func116 rfl trivial ?_ rfl
  simp only [Tryd.ntmps116, List.size_toArray, List.length_cons, List.length_nil, Nat.reduceAdd, Nat.reduceSub, Array.replicate_succ, Array.replicate_zero, List.push_toArray, List.append_toArray, List.nil_append, List.cons_append]
  gi_wp2
  clear hc0
  gi_loopw [3] (fun p wr => ∃ (pre : List (Pl xs)) (m : Nat) (i : Int), p = .int .i64 i ∧ Aside0 (i = (m : Int) - 1 ∧ m ≤ xs.length ∧ pre.map (·.1) ++ (List.range m).reverse = (List.range xs.length).reverse) ∧ BwT Bn A c xs wr ∧ J pre wr)
    (fun p wr => (intOf p + 1).toNat)
  case atStart =>
    refine ⟨[], xs.length, _, rfl, ⟨?_, Nat.le_refl _, rfl⟩, hT, h0⟩
    first | rfl | (rw [w64 (by omega) (by omega)])
  case round =>
    obtain ⟨pre, m, i, rfl, hm, hT1, hj⟩ := hrel
    cases m with
    | zero =>
      have hlt : decide (0 ≤ i) = false := decide_eq_false (by have := hm.out.1; omega)
      clear hY
      gi_wp2
      go_end0
      exact ⟨⟨_, rfl⟩, .inl ⟨pre, by simpa using hm.out.2.2, hj⟩⟩
    | succ m =>
      have hi := hm.out.1
      have hml := hm.out.2.1
      have hlt : decide (0 ≤ i) = true := decide_eq_true (by omega)
      have p0 : 0 ≤ i := by omega
      have q0 : i < (xs.length : Int) := by omega
      obtain ⟨ad, e0, hx0⟩ := Kd.at_int hT1.2 i p0 q0
      have hpl : pre.length < 16 := by
        have h1 := congrArg List.length hm.out.2.2
        simp at h1
        omega
      obtain ⟨fn, tmps, assign, body, hy, hR⟩ := hY pre ⟨m, hml⟩ wr hj hpl
      dsimp only [bwEnc] at hy
      rw [show ((m : Nat) : Int) = i by omega] at hy
      have hc1 := hT1.1.cell
      replace p0 := eq_true p0
      replace q0 := eq_true q0
      subst e0
      generalize rd xs i = x at hx0 hy
      have HT1 := Aside0.mk hT1
      clear hY hi hpl hj hT1
      gi_wp2
      refine hR.mono ?_
      rintro e W3 (⟨rfl, hJ3, hk3⟩ | ⟨rfl, hJx3⟩)
      · have hT3 := hk3 HT1.out
        gi_wp2
        go_roundw
        case rel =>
          have h1 := hm.out
          refine ⟨pre ++ [⟨m, hml⟩], m, _, rfl, ⟨?_, by omega, ?_⟩, hT3, hJ3⟩
          · first | omega | (rw [w64 (by omega) (by omega)]; omega) | (rw [i64_w, w64 (by omega) (by omega)]; omega)
          · rw [← h1.2.2, range_rev]; simp
        case measure =>
          have h1 := hm.out
          have hw : wrap64 (i - 1) = i - 1 := w64 (by omega) (by omega)
          simp only [intOf]
          first | omega | (rw [hw]; omega) | (rw [i64_w, hw]; omega)
      · gi_wp2
        refine bodyPost_ret (results_none rfl _ _ _) rfl ?_
        exact ⟨⟨_, rfl⟩, .inr ⟨_, trivial, hJx3⟩⟩
set_option maxHeartbeats 1000000 in
/-- slices.Backward: the slice is boxed; the function value captures the box. -/
theorem backward_calls (v : Value) (hv : ∃ A n c, v = .slice A n c) (w : World) :
    Calls Tryd.prog 107 #[v] w fun e w' => e = .returned (.func (.func 116) #[] #[.pointer (some ⟨w.heap.size, 0, none⟩)]) ∧ w.alloc (.cells #[v] 35) = w' := by
  obtain ⟨A, n, c, rfl⟩ := hv
  go_enter Tryd.func107, Tryd.ntmps107
  go_wp2
  go_ret
  exact ⟨rfl, rfl⟩
theorem bw_seq (Bn : Nat) (A : Option Addr) (c : Nat) (xs : List Int) (hn : xs.length ≤ 8) (w : World) (hT : ∀ W, Below w.heap.size w W → BwT Bn A c xs W) :
    SeqStopsK Fence.wide 2 Tryd.prog 116 #[.pointer (some ⟨Bn, 0, none⟩)] (bwEnc xs) (fun W W' => BwT Bn A c xs W → BwT Bn A c xs W') (fun ys : List (Pl xs) => ys.map (·.1) = (List.range xs.length).reverse) (fun _ => True) 16 w :=
  fun l J Jx W hW _ _ hY h0 => bw1 l Bn A c xs hn J Jx hY W (hT W hW) h0
theorem BwT.tame {Bn : Nat} {A : Option Addr} {c : Nat} {xs : List Int} {B : Nat} {W W' : World} (hB : ∀ W W', Tame B W W' → (Kd.int .i64).C W A xs.length xs → (Kd.int .i64).C W' A xs.length xs) (h : BwT Bn A c xs W) (ht : Tame B W W') : BwT Bn A c xs W' :=
  ⟨ht.boxed h.1, hB W W' ht h.2⟩
theorem Tame.cell {B : Nat} {W W' : World} {a : Addr} {v : Value} (h : Tame B W W') (hc : W.cell? a = some v) : W'.cell? a = some v := by
  obtain ⟨o, ho, hoc⟩ := cells_of_cell hc
  cases o with
  | cells cs t fr => exact (World.cell?_of_block (w := W) (w' := W') (a := a) (h.block _ (World.block_lt_of_cell? W _ hc) (.inr ⟨_, _, _, ho⟩))).trans hc
  | _ => cases hoc
/-- A row of cells stays, whatever else a loop's book-keeping turns. -/
theorem C_tame {A : Option Addr} {xs : List Int} {B : Nat} {W W' : World} (h : Tame B W W') (hC : (Kd.int .i64).C W A xs.length xs) : (Kd.int .i64).C W' A xs.length xs := by
  obtain ⟨h1, h2, h3⟩ := hC
  refine ⟨h1, h2, fun h0 => ?_⟩
  obtain ⟨ad, hA, hx⟩ := h3 h0
  refine ⟨ad, hA, fun j x hj => ?_⟩
  obtain ⟨cs, hl, hk, hc⟩ := hx j x hj
  exact ⟨cs, hl, hk, fun i u hu => h.cell (hc i u hu)⟩
theorem Tame.alloc (B : Nat) (W : World) (o : Obj) : Tame B W (W.alloc o) := ⟨rfl, rfl, rfl, (KeepsOthers.alloc W o).size, fun k hk _ => (World.grownBy_alloc W o none).block k hk (by simp)⟩
/-- How a round's body may be left: as rsPost, for places. -/
def bwPost (B : Nat) (I : List Nat → World → Prop) (ys : List Nat) (W : World) : Exit → Act → World → Prop
  | .normal, _, W' => KeepsFrom B W W' ∧ I ys W'
  | _, _, _ => False
/-- A range over slices.Backward whose loop variable is boxed. -/
theorem wp_rangeBack {g : Operand} {p q d rid : Nat} {t : TypeId} {pos1 pos2 : String} {af : Array Edge} {body : Code} {Q : Exit → Act → World → Prop} {a : Act} {w : World} {Bn c : Nat} {A : Option Addr} {xs : List Int}
    (hg : a.eval g = .func (.func 116) #[] #[.pointer (some ⟨Bn, 0, none⟩)]) (hn : xs.length ≤ 8) (hT0 : ∀ W, Below w.heap.size w W → BwT Bn A c xs W) (hp : q < a.tmps.size) (hd : d < a.tmps.size)
    (I : List Nat → World → Prop) (hI : OwnFrom w.heap.size I) (h0 : I [] w) (hT : ∀ ys W, I ys W → BwT Bn A c xs W) (hIa : ∀ ys W o, I ys W → I ys (W.alloc o)) (hIs : ∀ ys W, I ys W → w.heap.size ≤ W.heap.size)
    (hassign : ∀ (l j : Nat) (W : World) (K : Act → World → Prop), K { tmps := (((a.tmps.setIfInBounds p (.int .i64 (j : Int))).setIfInBounds q (.int .i64 (rd xs (j : Int)))).setIfInBounds d (.pointer (some ⟨W.heap.size, 0, none⟩))), defers := [] } (W.alloc (.cells #[.int .i64 (rd xs (j : Int))] 3)) →
      (Code.region rid #[{ dst := some d, op := .alloc 3, type := 0, pos := pos1, after := #[], guard := none }, { dst := none, op := .store 3 (.tmp d) (.tmp q), type := t, pos := pos2, after := af, guard := none }] false).wpIn (Fence.wide.inRound l) 1 Tryd.prog (Exit.then K (fun _ _ _ => False)) { tmps := (a.tmps.setIfInBounds p (.int .i64 (j : Int))).setIfInBounds q (.int .i64 (rd xs (j : Int))), defers := [] } W)
    (hbody : ∀ (l : Nat) (pre : List Nat) (j Bx : Nat) (W : World), j < xs.length → w.heap.size ≤ l → (∃ r, W.heap[l]? = some (.loop r)) → I pre W → pre.length < 16 → w.heap.size ≤ Bx → Boxed W Bx 3 (.int .i64 (rd xs (j : Int))) →
      body.wpIn (Fence.wide.inRound l) 1 Tryd.prog (bwPost w.heap.size I (pre ++ [j]) W) { tmps := (((a.tmps.setIfInBounds p (.int .i64 (j : Int))).setIfInBounds q (.int .i64 (rd xs (j : Int)))).setIfInBounds d (.pointer (some ⟨Bx, 0, none⟩))), defers := [] } W)
    (hdone : ∀ (D : Nat) (W : World), w.heap.size ≤ D → I (List.range xs.length).reverse W → W.heap[D]? = some (.deferred (some [])) → Q .normal { a with defers := { target := .collected D, args := #[] } :: a.defers } W) :
    (Code.rangeFunc g #[p, q] (.region rid #[{ dst := some d, op := .alloc 3, type := 0, pos := pos1, after := #[], guard := none }, { dst := none, op := .store 3 (.tmp d) (.tmp q), type := t, pos := pos2, after := af, guard := none }] false) body).wp Tryd.prog Q a w := by
  refine wpIn_wide.1 (wpIn_rangeFunc_ownH (n := 3) rfl (by decide) hg trivial (enters_of Tryd.func116 (by kernel_rfl) rfl) (bw_seq Bn A c xs hn w hT0) (fun h k x => k (h x)) (fun W l o o' hl ho hc _ hT => hT.tame (fun _ _ => C_tame) (Tame.of_own (B := w.heap.size) (grownBy_putObj' W l o') (fun r e => by cases e; exact ⟨hl, o, ho, hc⟩))) (Below.refl _ _) (fun _ => rfl)
    (fun ys => I (ys.map (·.1))) (fun _ _ _ => False) (fun s W W' row hs hg hr => hI _ W W' row hs hg hr) (fun _ => ownFrom_tame (fun _ _ _ _ h => h)) h0 (fun j a' W => ∃ Bx, w.heap.size ≤ Bx ∧ Boxed W Bx 3 (.int .i64 (rd xs (j.1 : Int))) ∧ a' = { tmps := (((a.tmps.setIfInBounds p (.int .i64 (j.1 : Int))).setIfInBounds q (.int .i64 (rd xs (j.1 : Int)))).setIfInBounds d (.pointer (some ⟨Bx, 0, none⟩))), defers := [] }) ?_ ?_ ?_ ?_ ?_)
  · exact fun j a' => ownFrom_tame (fun _ W W' ht ⟨Bx, h1, h2, h3⟩ => ⟨Bx, h1, ht.boxed h2, h3⟩)
  · intro l pre j W K hi hK
    have h := hassign l j.1 W K (hK _ _ ((KeepsOthers.alloc _ _).from _) (fun hT => hT.tame (fun _ _ => C_tame) (Tame.alloc w.heap.size W _)) (hIa _ _ _ hi) ⟨W.heap.size, hIs _ _ hi, Boxed.new W _ _, rfl⟩)
    simpa [bwEnc] using h
  · rintro l pre j a' W hl hr hi ⟨Bx, hBx, hb, rfl⟩ hlt
    refine wpIn_mono (hbody l _ j.1 Bx W j.2 hl hr hi (by simpa using hlt) hBx hb) ?_
    intro e a'' W' h
    rw [show pre.map (·.1) ++ [j.1] = (pre ++ [j]).map (·.1) by simp] at h
    cases e with
    | normal => exact ⟨h.1, fun _ => hT _ _ h.2, h.2⟩
    | _ => exact h.elim
  · intro D ys W hD hS hI' hk
    exact hdone D W hD (by rw [← hS]; exact hI') hk
  · intro D c pre W hD _ hI' hk
    exact hI'.elim
/-- A range over a set's numbers within a round. -/
theorem wpIn_rangeSetN {T : World → Prop} (hTt : ∀ B W W', Tame B W W' → T W → T W') {P : Program} {g : Operand} {p d rid l0 : Nat} {r0 : Loop} {t : TypeId} {pos : String} {body : Code} {Q : Exit → Act → World → Prop} {a : Act} {w w0 : World} {gf : Nat} {lb : Array Value} {xs : List Int}
    (hl0 : w.heap[l0]? = some (.loop r0)) (hg : a.eval g = .func (.func gf) #[] lb) (eg : ∀ args w, (callFunc gf args).run P w = .ok (.enter gf args) w)
    (hseq : SetSeq T P gf lb xs w0) (hb0 : Below w0.heap.size w0 w) (hp : p < a.tmps.size)
    (I : List Int → World → Prop) (hI : OwnFrom w.heap.size I) (h0 : I [] w) (hT : ∀ ys W, I ys W → T W)
    (hbody : ∀ (l : Nat) (pre : List Int) (x : Int) (W : World), x ∈ xs → I pre W → pre.length < 16 →
      body.wpIn (Fence.wide.inRound l) 0 P (rsPost w.heap.size I (fun _ _ _ => False) (pre ++ [x]) W) { tmps := (a.tmps.setIfInBounds p (.int .i64 x)).setIfInBounds d (.int .i64 x), defers := [] } W)
    (hdone : ∀ (W : World), I xs W → Q .normal a W) :
    (Code.rangeFunc g #[p] (.region rid #[{ dst := some d, op := .assign (.tmp p), type := t, pos := pos, after := #[], guard := none }] false) body).wpIn (Fence.wide.inRound l0) 1 P Q a w := by
  refine wpIn_rangeFunc_ownN (n := 1) (l₀ := l0) (r₀ := r0) rfl hl0 (Nat.le_refl _) hg trivial eg (SeqStopsK.inRound l0 hseq) (fun h k x => k (h x)) (fun W l o o' hl ho hc _ => hTt w.heap.size _ _ (Tame.of_own (grownBy_putObj' W l o') (fun r e => by cases e; exact ⟨hl, o, ho, hc⟩))) hb0 (fun _ => rfl)
    (fun ys => I (ys.map (·.1))) (fun c ys W => False) (fun s W W' row hs hg hr => hI _ W W' row hs hg hr) (fun c s W W' row hs hg hr => hs) h0
    (fun x a' _ => a' = { tmps := (a.tmps.setIfInBounds p (.int .i64 x.1)).setIfInBounds d (.int .i64 x.1), defers := [] }) (fun _ _ => ownFrom_tame (fun _ _ _ _ h => h)) ?_ ?_ ?_ ?_
  · intro l pre x W K hi hK
    refine wpIn_region_list ?_
    gi_wp2
    have := hK _ _ (KeepsFrom.refl _ _) (fun h => h) hi rfl
    simpa [eltEnc, Act.eval, hp] using this
  · rintro l pre x a' W _ _ hi rfl hlt
    refine wpIn_mono (hbody l _ x.1 W x.2 hi (by simpa using hlt)) ?_
    intro e a' W' h
    rw [show pre.map (·.1) ++ [x.1] = (pre ++ [x]).map (·.1) by simp] at h
    cases e with
    | normal => exact ⟨h.1, fun _ => hT _ _ h.2, h.2⟩
    | ret => exact h
    | exit id => exact h
    | goto t => exact h
    | panic c => exact h
    | outgrown => exact h
  · intro ys W hS hI'
    exact hdone W (by rw [← hS]; exact hI')
  · intro c pre W _ hI'
    exact hI'.elim
end Go.Proofs.YtekajandipdlhaaDoor.Core
end
section
set_option linter.unusedVariables false
set_option linter.unusedSimpArgs false
namespace Go.Proofs.YtekajandipdlhaaDoor.Core
open Go Go.RowKit Go.Shelf Go.Proofs.YtekajandipdlhaaDoorW.PrintWords Go.Proofs.YtekajandipdlhaaDoorW.PrintLast Go.Proofs.YtekajandipdlhaaDoorW.PrintMore Go.Proofs.YtekajandipdlhaaDoor.P
attribute [local go_sem] Oper.semAt_some wide_fn wide_depth max2_int max_two
def icells (L : List Nat) : Array Value := (L.map fun (x : Nat) => Value.int .i64 (x : Int)).toArray
theorem icell {W : World} {p t : Nat} {L : List Nat} (h : W.heap[p]? = some (.cells (icells L) t (0, 0))) (i : Nat) (hi : i < L.length) : W.cell? ⟨p, i, none⟩ = some (.int .i64 ((L.getD i 0 : Nat) : Int)) := by
  simp [World.cell?, h, icells, hi]
theorem ifrozen {W : World} {p t : Nat} {L : List Nat} (h : W.heap[p]? = some (.cells (icells L) t (0, 0))) (i : Nat) : W.frozen? ⟨p, i, none⟩ = false := by
  simp [World.frozen?, h]
theorem iset {W : World} {p t : Nat} {L : List Nat} (h : W.heap[p]? = some (.cells (icells L) t (0, 0))) (i x : Nat) : (W.setCell ⟨p, i, none⟩ (.int .i64 (x : Int))).heap[p]? = some (.cells (icells (L.set i x)) t (0, 0)) := by
  rw [blk_set h i _]
  congr 2
  apply Array.ext'
  simp [icells, List.map_set]
/-- What the loops hold: the row, its variable; the rest as it was. -/
structure SI (w0 : World) (p pO n : Nat) (W : World) (L : List Nat) : Prop where
  row : W.heap[p]? = some (.cells (icells L) 3 (0, 0))
  box : Boxed W pO 35 (.slice (some ⟨p, 0, none⟩) n n)
  below : Below w0.heap.size w0 W
theorem SI.tame {w0 W W' : World} {p pO n B : Nat} {L : List Nat} (h : SI w0 p pO n W L) (hb : w0.heap.size ≤ B) (ht : Tame B W W') : SI w0 p pO n W' L := ⟨ht.cells h.row, ht.boxed h.box, ht.below h.below (Nat.le_refl _) hb⟩
theorem SI.move {w0 W W' : World} {p pO n : Nat} {L : List Nat} (h : SI w0 p pO n W L) (hb : Below W.heap.size W W') : SI w0 p pO n W' L := ⟨(hb.block _ (cells_lt h.row)).trans h.row, (hb.block _ h.box.lt).trans h.box, below_step h.below hb⟩
theorem SI.alloc {w0 W : World} {p pO n : Nat} {L : List Nat} (h : SI w0 p pO n W L) (o : Obj) : SI w0 p pO n (W.alloc o) L := h.move ((Below.refl W.heap.size W).alloc (Nat.le_refl _) o)
theorem SI.set {w0 W : World} {p pO n : Nat} {L : List Nat} (h : SI w0 p pO n W L) (hp : w0.heap.size ≤ p) (hne : pO ≠ p) (i x : Nat) : SI w0 p pO n (W.setCell ⟨p, i, none⟩ (.int .i64 (x : Int))) (L.set i x) := ⟨iset h.row i x, (sother _ hne).trans h.box, h.below.setCell (p := ⟨p, i, none⟩) hp _⟩
theorem infoI : (Tryd.prog.info? 3).map (fun i => (i.zero, i.size, i.bytes)) = some (some (.int .i64 0), 1, 8) := by kernel_rfl
theorem run_make_ints (n : Nat) (hn : n ≤ 8) (W : World) : (Instr.makeSlice 35 (.int .i64 (n : Int)) (.int .i64 (n : Int))).run Tryd.prog W = .ok (.slice (some ⟨W.heap.size, 0, none⟩) n n) (W.alloc (.cells (icells (List.replicate n 0)) 3)) := by
  obtain ⟨i0, hi, hz0, hz1, hz2⟩ := info_parts infoI
  have hr := run_make (P := Tryd.prog) W 35 3 i0 (.int .i64 0) Tryd.underlying35 hi hz0 .i64 .i64 (n : Int) (n : Int) (by omega) (by omega) (by rw [hz2]; omega) (by omega)
  rw [hz1] at hr
  simp only [Int.toNat_natCast, Nat.mul_one] at hr
  rw [hr]
  rw [show madeCells (Value.cells (.int .i64 0)) n = icells (List.replicate n 0) from (madeCells1 _ n).trans (by simp [icells])]
end Go.Proofs.YtekajandipdlhaaDoor.Core
end
section
set_option linter.unusedVariables false
set_option linter.unusedSimpArgs false
namespace Go.Proofs.YtekajandipdlhaaDoor.Core
open Go Go.RowKit Go.Shelf Go.Proofs.YtekajandipdlhaaDoorW.PrintWords Go.Proofs.YtekajandipdlhaaDoorW.PrintLast Go.Proofs.YtekajandipdlhaaDoorW.PrintMore Go.Proofs.YtekajandipdlhaaDoor.P
attribute [local go_sem] Oper.semAt_some wide_fn wide_depth max2_int max_two
set_option maxRecDepth 100000 in
set_option maxHeartbeats 2000000 in
theorem tails_row (b : Nat) (G : GD) (w : World) (hT : Tab w) (hg : IsG w b G) (ok : GOk G) (htk : ∀ t ∈ G.tasks, taskOk t) :
    Calls Tryd.prog 74 #[.pointer (some ⟨b, 0, none⟩)] w fun e w' => ∃ p, e = .returned (.slice (some ⟨p, 0, none⟩) G.tasks.length G.tasks.length) ∧ w.heap.size ≤ p ∧ w'.heap[p]? = some (.cells (icells (tailsN G)) 3 (0, 0)) ∧ Below w.heap.size w w' := by
  have h8 := ok.n8
  have hmk := run_make_ints G.tasks.length h8
  have x1 := Boxed.new w 61 (.pointer (some ⟨b, 0, none⟩))
  have B1 := (Below.refl w.heap.size w).alloc (Nat.le_refl _) (.cells #[.pointer (some ⟨b, 0, none⟩)] 61)
  have o1 : (w.alloc (.cells #[.pointer (some ⟨b, 0, none⟩)] 61)).heap.size = w.heap.size + 1 := by simp
  obtain ⟨w1, hw1⟩ : ∃ w1, w1 = w.alloc (.cells #[.pointer (some ⟨b, 0, none⟩)] 61) := ⟨_, rfl⟩
  rw [← hw1] at x1 B1 o1
  have hg1 := hg.move B1
  have hsz := (size_calls b G w1 hg1).mono (R' := fun e w' => e = .returned (.int .i64 (G.tasks.length : Int)) ∧ w' = w1) (fun _ _ h => ⟨h.1, h.2.symm⟩)
  have hcx1 := x1.cell
  obtain ⟨w3, hw3⟩ : ∃ w3, w3 = ((w1.alloc (.cells (icells (List.replicate G.tasks.length 0)) 3)).alloc (.cells #[.slice (some ⟨w.heap.size + 1, 0, none⟩) G.tasks.length G.tasks.length] 35)) := ⟨_, rfl⟩
  have HS : SI w (w.heap.size + 1) (w.heap.size + 1 + 1) G.tasks.length w3 (List.replicate G.tasks.length 0) := by
    rw [hw3]
    refine ⟨cells_alloc (by rw [← o1]; exact cells_new w1 _) _, ?_, (B1.alloc (by omega) _).alloc (by simp; omega) _⟩
    have h := Boxed.new (w1.alloc (.cells (icells (List.replicate G.tasks.length 0)) 3)) 35 (.slice (some ⟨w.heap.size + 1, 0, none⟩) G.tasks.length G.tasks.length)
    rw [show (w1.alloc (.cells (icells (List.replicate G.tasks.length 0)) 3)).heap.size = w.heap.size + 1 + 1 by simp [o1]] at h
    exact h
  have x3 : Boxed w3 w.heap.size 61 (.pointer (some ⟨b, 0, none⟩)) := by rw [hw3]; exact (x1.alloc _).alloc _
  have o3 : w3.heap.size = w.heap.size + 1 + 1 + 1 := by rw [hw3]; simp [o1]
  obtain ⟨Ao, co, hco0, -, hCo⟩ := hg.order
  have hco := (HS.below.cell (World.block_lt_of_cell? _ _ hco0)).trans hco0
  rw [← up_length G.order] at hCo
  clear hco0
  have hcx3 := x3.cell
  have HW3 := Aside0.mk hw3
  rw [hw3] at hco hcx3
  have HCo := Aside0.mk hCo
  have Hg := Aside0.mk hg
  have HT := Aside0.mk hT
  have OK := Aside0.mk ok
  have HTK := Aside0.mk htk
  have HSS := Aside0.mk HS
  have HX3 := Aside0.mk x3
  have HO3 := Aside0.mk o3
  have HW1 := Aside0.mk hw1
  clear hw1 hw3 hg hT ok htk hCo HS x3 o3 hg1 B1 x1
  refine calls_marks Tryd.func74 rfl ?_
  simp only [Tryd.ntmps74, List.size_toArray, List.length_cons, List.length_nil, Nat.reduceAdd, Nat.reduceSub, Array.replicate_succ, Array.replicate_zero, List.push_toArray, List.append_toArray, List.nil_append, List.cons_append]
  go_wp2_with (first | (go_at_call 78; rw [← HW1.out]; refine hsz.mono ?_; rintro e w' ⟨rfl, hw⟩; rw [hw]; clear hw w') | (go_at_call 107; rw [← HW3.out]; refine (backward_calls _ ⟨_, _, _, rfl⟩ w3).mono ?_; rintro e w' ⟨rfl, rfl⟩))
  clear hmk hsz hcx1 hcx3 hco
  have hol : (up G.order).length = G.order.length := up_length _
  have hol8 : (up G.order).length ≤ 8 := by have := OK.out.ol; omega
  have ev : Value.slice Ao G.order.length co = .slice Ao (up G.order).length co := by rw [hol]
  rw [ev]
  have hbx := Boxed.new w3 35 (.slice Ao (up G.order).length co)
  rw [HO3.out] at hbx
  have o4 : (w3.alloc (.cells #[.slice Ao (up G.order).length co] 35)).heap.size = w.heap.size + 1 + 1 + 1 + 1 := by simp [HO3.out]
  have hS4 := HSS.out.alloc (.cells #[.slice Ao (up G.order).length co] 35)
  have x4 := HX3.out.alloc (.cells #[.slice Ao (up G.order).length co] 35)
  rw [HO3.out]
  have HO1 := Aside0.mk o1
  clear o1 ev
  revert hbx o4 hS4 x4
  generalize w3.alloc (.cells #[.slice Ao (up G.order).length co] 35) = w4
  intro hbx o4 hS4 x4
  have HT0 : ∀ W, Below w4.heap.size w4 W → BwT (w.heap.size + 1 + 1 + 1) Ao co (up G.order) W := fun W hB => ⟨(hB.block _ hbx.lt).trans hbx, Kd.C_below HCo.out (below_step hS4.below hB)⟩
  have hle4 : w.heap.size ≤ w4.heap.size := by omega
  have htm20 := tm20_of HTK.out
  have H256 := Aside0.mk (pow8 h8)
  have HOL := Aside0.mk hol
  clear hol
  refine wp_rangeBack (w := w4) (Bn := w.heap.size + 1 + 1 + 1) (c := co) (A := Ao) (xs := up G.order) (p := 15) (q := 16) (d := 5) rfl hol8 HT0 (by simp) (by simp)
    (fun ys W => SI w (w.heap.size + 1) (w.heap.size + 1 + 1) G.tasks.length W (tTo G.tasks G.needs G.tasks.length (ys.map fun j => G.order.getD j 0)) ∧ Boxed W w.heap.size 61 (.pointer (some ⟨b, 0, none⟩)) ∧ BwT (w.heap.size + 1 + 1 + 1) Ao co (up G.order) W ∧ w4.heap.size ≤ W.heap.size)
    (ownFrom_tame (fun ys W W' ht ⟨a1, a2, a3, a4⟩ => ⟨a1.tame hle4 ht, ht.boxed a2, a3.tame (fun _ _ => C_tame) ht, Nat.le_trans a4 ht.size⟩))
    ⟨hS4, x4, HT0 w4 (Below.refl _ _), Nat.le_refl _⟩ (fun ys W h => h.2.2.1) (fun ys W o ⟨a1, a2, a3, a4⟩ => ⟨a1.alloc o, a2.alloc o, a3.tame (fun _ _ => C_tame) (Tame.alloc w4.heap.size W o), Nat.le_trans a4 (Tame.alloc w4.heap.size W o).size⟩) (fun ys W h => h.2.2.2) ?assign ?body ?done
  case assign =>
    intro l j W K hK
    generalize rd (up G.order) ((j : Nat) : Int) = xj at hK ⊢
    generalize ((j : Nat) : Int) = ji at hK ⊢
    gi_wp2
    exact hK
  case body =>
    rintro l pre j Bx W1 hj hl ⟨r, hr⟩ ⟨hSI, hxb, hbw, hsz⟩ hlt hBx hbi
    have hro : rd (up G.order) ((j : Nat) : Int) = ((G.order.getD j 0 : Nat) : Int) := rd_up rfl
    rw [hro] at hbi ⊢
    have hjo : j < G.order.length := by rw [HOL.out] at hj; exact hj
    have hil : G.order.getD j 0 < G.tasks.length := OK.out.ob _ (by rw [List.getD_eq_getElem?_getD, List.getElem?_eq_getElem hjo]; exact List.getElem_mem hjo)
    have hsnoc := tTo_snoc G.tasks G.needs G.tasks.length (pre.map fun j => G.order.getD j 0) (G.order.getD j 0)
    have hlen := tTo_length G.tasks G.needs G.tasks.length (pre.map fun j => G.order.getD j 0)
    have hbd := tTo_le htm20 G.needs G.tasks.length (pre.map fun j => G.order.getD j 0)
    rw [List.length_map] at hbd
    have hpm : ∀ R : List Nat, R = tOne G.tasks G.needs (tTo G.tasks G.needs G.tasks.length (pre.map fun j => G.order.getD j 0)) (G.order.getD j 0) → tTo G.tasks G.needs G.tasks.length ((pre ++ [j]).map fun j => G.order.getD j 0) = R := fun R h => by rw [h, ← hsnoc, List.map_append]; rfl
    generalize tTo G.tasks G.needs G.tasks.length (pre.map fun j => G.order.getD j 0) = L at hSI hlen hbd hpm
    generalize G.order.getD j 0 = i at hbi hil hpm ⊢
    clear hsnoc hro hjo hj
    generalize hxi : ((i : Nat) : Int) = xi at hbi ⊢
    generalize ((j : Nat) : Int) = ji
    gi_wp2
    refine wpIn_still_tail 14 rfl (by kernel_rfl) (by kernel_rfl) (fun ⟨_, _, h⟩ => h) ?_
    change wpStill _ _ W1.drew (fun a' => wpList _ _ _ _ a' W1.drew) _ _
    have hdr : Below W1.heap.size W1 W1.drew := below_drew (Below.refl _ _)
    have hko := KeepsOthers.drew W1
    revert hdr hko
    generalize W1.drew = Wd
    intro hdr hko
    have hSI2 := hSI.move hdr
    have hxb2 : Boxed Wd w.heap.size 61 (.pointer (some ⟨b, 0, none⟩)) := (hdr.block _ hxb.lt).trans hxb
    have hbi2 : Boxed Wd Bx 3 (.int .i64 xi) := (hdr.block _ hbi.lt).trans hbi
    have hbw2 : BwT (w.heap.size + 1 + 1 + 1) Ao co (up G.order) Wd := ⟨(hdr.block _ hbw.1.lt).trans hbw.1, Kd.C_below hbw.2 hdr⟩
    have hsz2 : w4.heap.size ≤ Wd.heap.size := Nat.le_trans hsz hdr.size
    have hgd := Hg.out.move hSI2.below
    obtain ⟨A, c, hc0, hcl, hC⟩ := hgd.tasks
    have p0 : 0 ≤ xi := by omega
    have q0 : xi < (G.tasks.length : Int) := by omega
    obtain ⟨ad, A1, c1, e0, h0, h1, h2, h3, h4, h5⟩ := at_T37 hC xi p0 q0
    subst e0
    have hrd : rd_T37 G.tasks xi = G.tasks.getD i z37 := by rw [← hxi]; simp [rd_T37]
    have htm := tm_int HTK.out hil
    rw [hrd, htm.1] at h0
    obtain ⟨ad5, had5⟩ : ∃ ad5 : Addr, ad5 = ⟨w.heap.size + 1, 0, none⟩ := ⟨_, rfl⟩
    have hc10 : Wd.cell? ⟨w.heap.size + 1 + 1, 0, none⟩ = some (.slice (some ad5) G.tasks.length G.tasks.length) := by rw [had5]; exact hSI2.box.cell
    have hci := hbi2.cell
    have hcx := hxb2.cell
    have hLi := icell hSI2.row i (by omega)
    have hfi := ifrozen hSI2.row i
    have hit : xi.toNat = i := by omega
    have hli := hbd i
    have hone : tOne G.tasks G.needs L i = (elemsN (G.needs.getD i 0)).foldl (tStep i) (L.set i (L.getD i 0 + tmN G.tasks i)) := rfl
    have hl320 : L.getD i 0 ≤ 320 := Nat.le_trans hli (by omega)
    have ht20 := htm.2.2
    obtain ⟨hadd, hadd2⟩ := wadd (a := L.getD i 0) (b := tmN G.tasks i) (Nat.le_trans hl320 (by decide)) (Nat.le_trans ht20 (by decide))
    have hbd2 : leB 1000 (L.set i (L.getD i 0 + tmN G.tasks i)) := leB_set (leB_mono hbd (show pre.length * 20 ≤ 1000 by omega)) (Nat.le_trans (Nat.add_le_add hl320 ht20) (by decide))
    rw [hone] at hpm
    generalize hsum : L.getD i 0 + tmN G.tasks i = sm at hadd hadd2 hpm hbd2
    generalize hsmi : ((sm : Nat) : Int) = smI at hadd hadd2
    generalize ((L.getD i 0 : Nat) : Int) = li at hLi hadd hadd2
    generalize (tmN G.tasks i : Int) = tmi at h0 hadd hadd2
    rw [← add_own, ← had5, ← hit] at hLi hfi
    have HH := Aside0.mk (show xi.toNat = i ∧ ad5 = ⟨w.heap.size + 1, 0, none⟩ ∧ smI = ((sm : Nat) : Int) ∧ ((i : Nat) : Int) = xi from ⟨hit, had5, hsmi.symm, hxi⟩)
    have HPM := Aside0.mk hpm
    have HBD := Aside0.mk hbd2
    have HLEN := Aside0.mk hlen
    have HIL := Aside0.mk hil
    have HSI2 := Aside0.mk hSI2
    have HLT := Aside0.mk hlt
    have hro2 := hko.same l _ hr rfl
    replace p0 := eq_true p0
    replace q0 := eq_true q0
    clear hl320 ht20 hit had5 hsmi hxi hpm hbd2 hlen hil hSI2 hlt hone hsum htm hrd h1 h2 h3 h4 h5 hC hcl hgd hbd hli hSI hxb hbi hbw
    have hr0 := hr
    clear hr
    simp only [List.take_succ_cons, List.take_zero, List.drop_succ_cons, List.drop_zero]
    repeat still_step
    refine wpStill_nil ?_
    go_wp2
    obtain ⟨hit, had5, hsmi, hxi⟩ := HH.out
    have hadr : ad5.add xi.toNat = ⟨w.heap.size + 1, i, none⟩ := by rw [had5, add_own, hit]
    rw [hadr, hsmi]
    have hko3 := hko.trans (KeepsOthers.setCell Wd ⟨w.heap.size + 1, i, none⟩ (.int .i64 ((sm : Nat) : Int)))
    have hs3 := HSI2.out.set (by omega) (by omega) i sm
    have hgr := grownBy_setCell'' Wd (w.heap.size + 1) i (.int .i64 ((sm : Nat) : Int))
    have hxb3 : Boxed (Wd.setCell ⟨w.heap.size + 1, i, none⟩ (.int .i64 ((sm : Nat) : Int))) w.heap.size 61 (.pointer (some ⟨b, 0, none⟩)) := (sother _ (by omega)).trans hxb2
    have hbi3 : Boxed (Wd.setCell ⟨w.heap.size + 1, i, none⟩ (.int .i64 ((sm : Nat) : Int))) Bx 3 (.int .i64 xi) := (sother _ (by omega)).trans hbi2
    have hbw3 : BwT (w.heap.size + 1 + 1 + 1) Ao co (up G.order) (Wd.setCell ⟨w.heap.size + 1, i, none⟩ (.int .i64 ((sm : Nat) : Int))) := ⟨(sother _ (by omega)).trans hbw2.1, Kd.C_below HCo.out hs3.below⟩
    have hro3 := hko3.same l _ hr0 rfl
    have hsz3 : w4.heap.size ≤ (Wd.setCell ⟨w.heap.size + 1, i, none⟩ (.int .i64 ((sm : Nat) : Int))).heap.size := Nat.le_trans hsz2 hgr.size
    revert hko3 hs3 hxb3 hbi3 hbw3 hro3 hsz3
    clear hgr hro2 hadr hfi hLi h0 hc10 hci hcx hc0 hdr hko hxb2 hbi2 hbw2 hsz2
    generalize Wd.setCell ⟨w.heap.size + 1, i, none⟩ (.int .i64 ((sm : Nat) : Int)) = W3
    intro hko3 hs3 hxb3 hbi3 hbw3 hro3 hsz3
    refine wpIn_seq ?_
    refine wpIn_still_tail 7 rfl (by kernel_rfl) (by kernel_rfl) (fun ⟨_, _, h⟩ => h) ?_
    change wpStill _ _ W3.drew (fun a' => wpList _ _ _ _ a' W3.drew) _ _
    have hdr : Below W3.heap.size W3 W3.drew := below_drew (Below.refl _ _)
    have hko := KeepsOthers.drew W3
    revert hdr hko
    generalize W3.drew = W4
    intro hdr hko
    have hs4 := hs3.move hdr
    have hxb4 : Boxed W4 w.heap.size 61 (.pointer (some ⟨b, 0, none⟩)) := (hdr.block _ hxb3.lt).trans hxb3
    have hbi4 : Boxed W4 Bx 3 (.int .i64 xi) := (hdr.block _ hbi3.lt).trans hbi3
    have hbw4 : BwT (w.heap.size + 1 + 1 + 1) Ao co (up G.order) W4 := ⟨(hdr.block _ hbw3.1.lt).trans hbw3.1, Kd.C_below HCo.out hs4.below⟩
    have hko4 := hko3.trans hko
    have hsz4 : w4.heap.size ≤ W4.heap.size := Nat.le_trans hsz3 hdr.size
    clear hro3 hdr hko hko3 hxb3 hbi3 hbw3 hsz3 hs3
    have hgd := Hg.out.move hs4.below
    obtain ⟨An, cn, hcn, _, hCn⟩ := hgd.needs
    have hnl := OK.out.nl
    have hil := HIL.out
    have p1 : 0 ≤ xi := by omega
    have q1 : xi < (G.needs.length : Int) := by omega
    obtain ⟨adn, e1, hxn⟩ := Kd.at_int hCn xi p1 q1
    subst e1
    rw [rd_up (i := i) hxi.symm] at hxn
    have hNi : G.needs.getD i 0 < 2 ^ G.tasks.length := getD_lt OK.out.nb i
    have HPM2 := Aside0.mk HPM.out
    clear HPM
    generalize hs_ : G.needs.getD i 0 = s at hxn hNi HPM2
    have hs8 : s < 256 := Nat.lt_of_lt_of_le hNi H256.out
    have hcx := hxb4.cell
    have hci := hbi4.cell
    replace p1 := eq_true p1
    replace q1 := eq_true q1
    clear hnl hCn hs_ hit had5 hsmi hxi hgd hil
    simp only [List.take_succ_cons, List.take_zero, List.drop_succ_cons, List.drop_zero]
    repeat still_step
    refine wpStill_nil ?_
    go_wp2_with (go_at_call 62; refine (all_calls s _).mono ?_; rintro e w' ⟨rfl, rfl⟩)
    clear hcn hxn hcx hci p1 q1
    have hs5 := Boxed.new W4 70 (.int .u16 (s : Int))
    have hS5 := hs4.alloc (.cells #[.int .u16 (s : Int)] 70)
    have hxb5 := hxb4.alloc (.cells #[.int .u16 (s : Int)] 70)
    have hbi5 := hbi4.alloc (.cells #[.int .u16 (s : Int)] 70)
    have hbw5 : BwT (w.heap.size + 1 + 1 + 1) Ao co (up G.order) (W4.alloc (.cells #[.int .u16 (s : Int)] 70)) := ⟨hbw4.1.alloc _, Kd.C_below HCo.out hS5.below⟩
    have hko5 := hko4.trans (KeepsOthers.alloc W4 (.cells #[.int .u16 (s : Int)] 70))
    have hsz5 : (W4.alloc (.cells #[.int .u16 (s : Int)] 70)).heap.size = W4.heap.size + 1 := by simp
    revert hs5 hS5 hxb5 hbi5 hbw5 hko5 hsz5
    generalize W4.alloc (.cells #[.int .u16 (s : Int)] 70) = W5
    intro hs5 hS5 hxb5 hbi5 hbw5 hko5 hsz5
    have hro5 := hko5.same l _ hr0 rfl
    have hle5 : w.heap.size ≤ W5.heap.size := hS5.below.size
    gi_wp2
    refine wpIn_rangeSetN Tab.tame (w := W5) (w0 := W5) (p := 39) (d := 6) hro5 rfl (enters_of Tryd.func101 (by kernel_rfl) rfl)
      (all_seq W4.heap.size s hs8 W5 (HT.out.of hS5.below) hs5.cell) (Below.refl _ _) (by simp)
      (fun ys W' => (∃ zs : List Nat, (∀ z ∈ zs, z < G.tasks.length) ∧ ys = up zs ∧ SI w (w.heap.size + 1) (w.heap.size + 1 + 1) G.tasks.length W' (zs.foldl (tStep i) (L.set i sm)) ∧ Boxed W' Bx 3 (.int .i64 xi) ∧ Boxed W' w.heap.size 61 (.pointer (some ⟨b, 0, none⟩)) ∧ BwT (w.heap.size + 1 + 1 + 1) Ao co (up G.order) W' ∧ W5.heap.size ≤ W'.heap.size) ∧ KeepsFrom w4.heap.size W1 W')
      (OwnFrom.and (ownFrom_tame (fun ys W' W'' ht ⟨zs, z, a1, a2, a3, a4, a5, a6⟩ => ⟨zs, z, a1, a2.tame hle5 ht, ht.boxed a3, ht.boxed a4, a5.tame (fun _ _ => C_tame) ht, Nat.le_trans a6 ht.size⟩)) (ownFrom_keepsFrom hko5.size))
      ⟨⟨[], by simp, rfl, hS5, hbi5, hxb5, hbw5, Nat.le_refl _⟩, hko5.from _⟩ (fun ys W' ⟨⟨_, _, _, h, _⟩, _⟩ => HT.out.of h.below) ?body2 ?done2
    case body2 =>
      rintro l2 pre2 x W6 hx ⟨⟨zs, hzl, rfl, hS6, hbi6, hxb6, hbw6, hsz6⟩, hkf6⟩ hlt2
      gi_wp2
      obtain ⟨k0, hxk, hk0, _⟩ := mem_elems.1 hx
      have hkn : k0 < G.tasks.length := by have := elems_lt hNi hx; omega
      have hL1 : (zs.foldl (tStep i) (L.set i sm)).length = G.tasks.length := by rw [tfold_length, List.length_set, HLEN.out]
      have hil := HIL.out
      have hstep : (zs ++ [k0]).foldl (tStep i) (L.set i sm) = (zs.foldl (tStep i) (L.set i sm)).set k0 (max ((zs.foldl (tStep i) (L.set i sm)).getD k0 0) ((zs.foldl (tStep i) (L.set i sm)).getD i 0)) := by rw [List.foldl_append]; rfl
      refine wpIn_still_tail 12 rfl (by kernel_rfl) (by kernel_rfl) (fun ⟨_, _, h⟩ => h) ?_
      change wpStill _ _ W6.drew (fun a' => wpList _ _ _ _ a' W6.drew) _ _
      have hdr : Below W6.heap.size W6 W6.drew := below_drew (Below.refl _ _)
      have hko := KeepsOthers.drew W6
      revert hdr hko
      generalize W6.drew = Wd
      intro hdr hko
      have hS7 := hS6.move hdr
      have hbi7 : Boxed Wd Bx 3 (.int .i64 xi) := (hdr.block _ hbi6.lt).trans hbi6
      have hxb7 : Boxed Wd w.heap.size 61 (.pointer (some ⟨b, 0, none⟩)) := (hdr.block _ hxb6.lt).trans hxb6
      have hbw7 : BwT (w.heap.size + 1 + 1 + 1) Ao co (up G.order) Wd := ⟨(hdr.block _ hbw6.1.lt).trans hbw6.1, Kd.C_below HCo.out hS7.below⟩
      obtain ⟨ad7, had7⟩ : ∃ ad7 : Addr, ad7 = ⟨w.heap.size + 1, 0, none⟩ := ⟨_, rfl⟩
      have hc10 : Wd.cell? ⟨w.heap.size + 1 + 1, 0, none⟩ = some (.slice (some ad7) G.tasks.length G.tasks.length) := by rw [had7]; exact hS7.box.cell
      have hci := hbi7.cell
      have hLi := icell hS7.row i (by omega)
      have hLk := icell hS7.row k0 (by omega)
      have hfk := ifrozen hS7.row k0
      obtain ⟨hit, -, -, hxi⟩ := HH.out
      have hkt : x.toNat = k0 := by omega
      have hmx := wmax ((zs.foldl (tStep i) (L.set i sm)).getD k0 0) ((zs.foldl (tStep i) (L.set i sm)).getD i 0)
      generalize (zs.foldl (tStep i) (L.set i sm)).getD i 0 = si at hLi hstep hmx
      generalize (zs.foldl (tStep i) (L.set i sm)).getD k0 0 = sk at hLk hstep hmx
      generalize hsI : ((si : Nat) : Int) = sI at hLi hmx
      generalize hsK : ((sk : Nat) : Int) = sK at hLk hmx
      rw [← add_own, ← had7, ← hit] at hLi
      rw [← add_own, ← had7, ← hkt] at hLk hfk
      have p2 : (0 ≤ x) = True := eq_true (by omega)
      have q2 : (x < (G.tasks.length : Int)) = True := eq_true (by omega)
      have p3 : (0 ≤ xi) = True := eq_true (by omega)
      have q3 : (xi < (G.tasks.length : Int)) = True := eq_true (by omega)
      have HH2 := Aside0.mk (show x = (k0 : Int) ∧ x.toNat = k0 ∧ ad7 = ⟨w.heap.size + 1, 0, none⟩ from ⟨hxk, hkt, had7⟩)
      have HSTEP := Aside0.mk hstep
      have HMX := Aside0.mk hmx
      have HKN := Aside0.mk hkn
      clear hxk hkt had7 hsI hsK hx hstep hmx hlt2 hit hxi hL1 hil hkn
      simp only [List.take_succ_cons, List.take_zero, List.drop_succ_cons, List.drop_zero]
      repeat still_step
      rw [HMX.out]
      refine wpStill_nil ?_
      go_wp2
      gi_wp2
      obtain ⟨hxk, hkt, had7⟩ := HH2.out
      rw [show ad7.add x.toNat = ⟨w.heap.size + 1, k0, none⟩ by rw [had7, add_own, hkt]]
      have hkoS := hko.trans (KeepsOthers.setCell Wd ⟨w.heap.size + 1, k0, none⟩ (.int .i64 ((max sk si : Nat) : Int)))
      have hS8 := hS7.set (by omega) (by omega) k0 (max sk si)
      refine ⟨hkoS.from _, ⟨zs ++ [k0], ?_, ?_, ?_, ?_, ?_, ?_, ?_⟩, hkf6.trans (hkoS.from _)⟩
      · intro z hz
        rcases List.mem_append.1 hz with hz | hz
        · exact hzl z hz
        · rw [List.mem_singleton.1 hz]; exact HKN.out
      · rw [hxk]; simp [up]
      · rw [HSTEP.out]; exact hS8
      · exact (sother _ (by omega)).trans hbi7
      · exact (sother _ (by omega)).trans hxb7
      · exact ⟨(sother _ (by omega)).trans hbw7.1, Kd.C_below HCo.out hS8.below⟩
      · exact Nat.le_trans hsz6 (Nat.le_trans hdr.size (KeepsOthers.setCell _ _ _).size)
    case done2 =>
      rintro W6 ⟨⟨zs, hzl, hzs, hS6, hbi6, hxb6, hbw6, hsz6⟩, hkf6⟩
      obtain rfl : elemsN s = zs := up_inj hzs
      clear hzs
      gi_wp2
      exact ⟨hkf6, by rw [HPM2.out _ rfl]; exact hS6, hxb6, hbw6, by have := hS5.below.size; have := hko5.size; omega⟩
  case done =>
    rintro D W2 hD ⟨hSI, hxb, hbw, hsz⟩ hk
    have hm := (Marks.nil w.heap.size w4.heap.size W2).cons hD hle4 hk
    have hcb := hSI.box.cell
    clear hk
    go_wp2
    refine leave_ret hm (fun W => results_tmp rfl _ _ _) ?_
    intro W' ht
    have hG := hSI.tame (Nat.le_refl _) ht
    refine ⟨_, rfl, by omega, ?_, hG.below⟩
    have hrow := hG.row
    have hrev : ((List.range (up G.order).length).reverse.map fun j => G.order.getD j 0) = G.order.reverse := by
      rw [List.map_reverse]
      congr 1
      rw [HOL.out]
      refine List.ext_getElem (by simp) fun k h1 h2 => ?_
      simp only [List.getElem_map, List.getElem_range]
      rw [List.getD_eq_getElem?_getD, List.getElem?_eq_getElem h2]
      rfl
    rw [hrev] at hrow
    exact hrow
/-- A block of numbers, told as a row. -/
theorem icells_R {w : World} {base p n : Nat} {L : List Nat} (hp : base ≤ p) (hrow : w.heap[p]? = some (.cells (icells L) 3 (0, 0))) (hl : L.length = n) (hn : n ≤ 8) : (Kd.int .i64).R 3 w base (fun _ => True) (.slice (some ⟨p, 0, none⟩) n n) (up L) := by
  have hl' : (up L).length = n := by rw [up_length]; exact hl
  exact row_R (k := .i64) (xs := up L) ⟨by simp [encs], .inr ⟨p, n, icells L, by rw [hl'], hp, hrow, by rw [hl']; exact Nat.le_refl _, by unfold maxLen; omega, by simp [icells]; exact hl, by rw [hl']; simp [icells, encs, up]; exact List.take_of_length_le (by rw [List.length_map]; exact Nat.le_of_eq hl)⟩⟩
theorem tailsN_le {G : GD} (ok : GOk G) (ht : tm20 G.tasks) : leB 160 (tailsN G) := leB_mono (tTo_le ht _ _ _) (by rw [List.length_reverse]; have := ok.ol; have := ok.n8; omega)
theorem tailsN_length (G : GD) : (tailsN G).length = G.tasks.length := tTo_length _ _ _ _
theorem tails_calls (b : Nat) (G : GD) (w : World) (hT : Tab w) (hg : IsG w b G) (ok : GOk G) (htk : ∀ t ∈ G.tasks, taskOk t) :
    Calls Tryd.prog 74 #[.pointer (some ⟨b, 0, none⟩)] w fun e w' => ∃ v, e = .returned v ∧ (Kd.int .i64).R 3 w' w.heap.size (fun _ => True) v (up (tailsN G)) ∧ Below w.heap.size w w' :=
  (tails_row b G w hT hg ok htk).mono fun e w' ⟨p, h1, h2, h3, h4⟩ => ⟨_, h1, icells_R h2 h3 (tailsN_length G) ok.n8, h4⟩
end Go.Proofs.YtekajandipdlhaaDoor.Core
end
