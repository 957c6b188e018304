/- The law FnAdmitTasksAll holds of the given program: the proof's own part, with its row and its card, part 1 of 4. -/
import Derived.Test.YtpibdjkajgfgjaaDoorZCD68
section
namespace Go.Proofs.YtpibdjkajgfgjaaDoor.P
open Go.RowKit Go.Proofs.YtpibdjkajgfgjaaDoorW.PrintWords Go.Proofs.YtpibdjkajgfgjaaDoorW.PrintLast Go.Proofs.YtpibdjkajgfgjaaDoorW.PrintMore
attribute [local go_sem] max2_int min2_int max_two min_two max_three min_three max_four min_four   -- for this text's walks alone
set_option linter.unusedVariables false
set_option linter.unusedSimpArgs false
def laws_isIn.l0 : Nat → List Int → Int → Int → Option (Bool)
 | 0, _, _, _ => none
 | k + 1, x0, x1, x5 => if x5 < (x0.length : Int) then (if 0 ≤ x5 then (if (rd x0 x5) = x1 then (some true) else (laws_isIn.l0 k x0 x1 (wrap64 (x5 + 1)))) else (none)) else (some false)
def laws_isIn.f (k : Nat) (l0 : List Int) (a1 : Int) : Option (Bool) := laws_isIn.l0 k l0 a1 0
theorem laws_isIn.mono_l : ∀ k, (∀ y0 y1 y2, LeO (laws_isIn.l0 k y0 y1 y2) (laws_isIn.l0 (k + 1) y0 y1 y2))
 | 0 => fun _ _ _ r h => by simp [laws_isIn.l0] at h
 | k + 1 => by
  have ih0 := laws_isIn.mono_l k
  ·intro y0 y1 y2
   unfold laws_isIn.l0
   repeat' first
   | (with_reducible exact ih0 _ _ _)
   | (with_reducible exact LeO.refl _)
   | (with_reducible exact LeO.none _)
   | (with_reducible refine LeO.ite ?_ ?_)
   | (with_reducible refine LeO.bind ?_ (fun _ => ?_))
   | exact ih0 _ _ _
   | exact LeO.none _
   | refine LeO.ite ?_ ?_
   | refine LeO.bind ?_ (fun _ => ?_)
theorem laws_isIn.mono : ∀ a0 a1 k, LeO (laws_isIn.f k a0 a1) (laws_isIn.f (k + 1) a0 a1) := by
 intro a0 a1 k
 have ih0 := laws_isIn.mono_l k
 unfold laws_isIn.f
 repeat' first
   | (with_reducible exact ih0 _ _ _)
   | (with_reducible exact LeO.refl _)
   | (with_reducible exact LeO.none _)
   | (with_reducible refine LeO.ite ?_ ?_)
   | (with_reducible refine LeO.bind ?_ (fun _ => ?_))
   | exact ih0 _ _ _
   | exact LeO.none _
   | refine LeO.ite ?_ ?_
   | refine LeO.bind ?_ (fun _ => ?_)
set_option maxHeartbeats 8000000 in
set_option maxRecDepth 100000 in
theorem laws_isIn.calls (k : Nat) (A0 : Option Addr) (c0 : Nat) (l0 : List Int) (a1 : Int) (r : Bool) (w : World) (hr0 : Kd.C (Kd.int .i64) w A0 l0.length l0) (hc0 : l0.length ≤ c0) (h : laws_isIn.f k l0 a1 = some r) :
  Calls Tryd.prog 35 #[.slice A0 l0.length c0, .int .i64 a1] w fun e w' => e = .returned (.bool r) ∧ Drawn0 w w' := by
 have HR0 := Aside0.mk hr0
 have HC0 := Aside0.mk hc0
 clear hr0 hc0
 have H : (laws_isIn.l0 k l0 a1 0) = some r := h
 clear h
 have H' := Aside0.mk H
 clear H
 go_enter Tryd.func35, Tryd.ntmps35
 go_wp2
 go_loopg [5] k (fun kq v5 w' => ∃ (x5_1 : Int), v5 = .int .i64 x5_1 ∧ Aside0 (laws_isIn.l0 kq l0 a1 x5_1 = some r) ∧ Aside0 (kq ≤ k) ∧ Drawn0 w w')
 case atStart => exact ⟨(0), (by first | rfl | (simp; done) | (simp [*]; done)), H', ⟨Nat.le_refl _⟩, by repeat (first | exact Drawn0.refl _ | apply Drawn0.step)⟩
 case round =>
  clear H'
  try clear p2
  obtain ⟨x5_1, rfl, HA, HK1, ⟨m1, rfl⟩⟩ := hrel
  cases gk with
  | zero => exact absurd HA.out (by simp [laws_isIn.l0])
  | succ k1 =>
   have H := HA.out
   clear HA
   simp only [laws_isIn.l0] at H
   by_cases c3 : x5_1 < (l0.length : Int)
   ·rw [if_pos c3] at H
    have c3b0 : decide (x5_1 < (l0.length : Int)) = true := decide_eq_true c3
    clear c3
    by_cases c4 : 0 ≤ x5_1
    ·rw [if_pos c4] at H
     have c4b0 : decide (0 ≤ x5_1) = true := decide_eq_true c4
     clear c4
     by_cases c5 : (rd l0 x5_1) = a1
     ·rw [if_pos c5] at H
      have c5b0 : ((rd l0 x5_1) == a1) = true := beq_iff_eq.mpr c5
      have c5b1 : ((rd l0 x5_1) != a1) = false := bne_eq_false_iff_eq.mpr c5
      clear c5
      obtain rfl := Option.some.inj H
      have p531 : 0 ≤ (x5_1 : Int) := of_decide_eq_true (by first | (with_reducible assumption) | assumption)
      have q531 : x5_1 < (l0.length : Int) := of_decide_eq_true (by first | (with_reducible assumption) | assumption)
      obtain ⟨ad531, e531, hx531_0⟩ := Kd.at_int HR0.out x5_1 p531 q531
      cases e531
      replace p531 := eq_true p531
      replace q531 := eq_true q531
      go_wp2
      go_ret
      exact ⟨by first | rfl | (simp; done) | (simp [*]; done), by repeat (first | exact Drawn0.refl _ | apply Drawn0.step)⟩
     ·rw [if_neg c5] at H
      have c5b0 : ((rd l0 x5_1) == a1) = false := beq_eq_false_iff_ne.mpr c5
      have c5b1 : ((rd l0 x5_1) != a1) = true := bne_iff_ne.mpr c5
      have H' := Aside0.mk H
      clear H
      have p531 : 0 ≤ (x5_1 : Int) := of_decide_eq_true (by first | (with_reducible assumption) | assumption)
      have q531 : x5_1 < (l0.length : Int) := of_decide_eq_true (by first | (with_reducible assumption) | assumption)
      obtain ⟨ad531, e531, hx531_0⟩ := Kd.at_int HR0.out x5_1 p531 q531
      cases e531
      replace p531 := eq_true p531
      replace q531 := eq_true q531
      go_wp2
      go_roundg k1
      case measure => have := HK1.out; omega
      case rel => exact ⟨(wrap64 (x5_1 + 1)), (by first | rfl | (simp; done) | (simp [*]; done)), H', ⟨by have := HK1.out; omega⟩, by repeat (first | exact Drawn0.refl _ | apply Drawn0.step)⟩
    ·rw [if_neg c4] at H
     exact absurd H (by simp)
   ·rw [if_neg c3] at H
    have c3b0 : decide (x5_1 < (l0.length : Int)) = false := decide_eq_false c3
    clear c3
    obtain rfl := Option.some.inj H
    go_wp2
    go_ret
    exact ⟨by first | rfl | (simp; done) | (simp [*]; done), by repeat (first | exact Drawn0.refl _ | apply Drawn0.step)⟩
end Go.Proofs.YtpibdjkajgfgjaaDoor.P
end
section
namespace Go.Proofs.YtpibdjkajgfgjaaDoor.P
open Go.Proofs.YtpibdjkajgfgjaaDoor.Core (Tab Tab.of)
open Go.RowKit Go.Proofs.YtpibdjkajgfgjaaDoorW.PrintWords Go.Proofs.YtpibdjkajgfgjaaDoorW.PrintLast Go.Proofs.YtpibdjkajgfgjaaDoorW.PrintMore
attribute [local go_sem] max2_int min2_int max_two min_two max_three min_three max_four min_four   -- for this text's walks alone
set_option linter.unusedVariables false
set_option linter.unusedSimpArgs false
mutual
noncomputable def laws_FnAdmitTasksAll.j0 : Nat → List (S48) → List Int → List Int → List Int → Int → List Int → Bool → Option (Bool)
 | 0, _, _, _, _, _, _, _ => none
 | k + 1, x3, x4, x5, x6, x7, x8, x51 => if x51 = true then ((spec_AdmitTasks.f k x3 x4 x5 x6 x7).bind fun t894 => ((laws_equalInts.f k x8 t894).bind fun t897 => (some t897))) else (laws_FnAdmitTasksAll.l0 k x3 x4 x5 x6 x8 0)
noncomputable def laws_FnAdmitTasksAll.l0 : Nat → List (S48) → List Int → List Int → List Int → List Int → Int → Option (Bool)
 | 0, _, _, _, _, _, _ => none
 | k + 1, x3, x4, x5, x6, x8, x9 => if x9 < (x6.length : Int) then (laws_FnAdmitTasksAll.l1 k x3 x4 x5 x6 x8 x9 (([] : List Int)) 0) else (some true)
noncomputable def laws_FnAdmitTasksAll.l1 : Nat → List (S48) → List Int → List Int → List Int → List Int → Int → List Int → Int → Option (Bool)
 | 0, _, _, _, _, _, _, _, _ => none
 | k + 1, x3, x4, x5, x6, x8, x9, x10, x11 => if x11 < (x3.length : Int) then ((laws_isIn.f k x5 x11).bind fun t901 => (if t901 = true then (if x10.length < 17592186044416 then (laws_FnAdmitTasksAll.l1 k x3 x4 x5 x6 x8 x9 (x10 ++ [x11]) (wrap64 (x11 + 1))) else (none)) else ((laws_isIn.f k x8 x11).bind fun t905 => (if t905 = true then (if x10.length < 17592186044416 then (laws_FnAdmitTasksAll.l1 k x3 x4 x5 x6 x8 x9 (x10 ++ [x11]) (wrap64 (x11 + 1))) else (none)) else (if 0 ≤ x9 then (if x9 < (x6.length : Int) then (if (rd x6 x9) = x11 then (if x10.length < 17592186044416 then (laws_FnAdmitTasksAll.l1 k x3 x4 x5 x6 x8 x9 (x10 ++ [x11]) (wrap64 (x11 + 1))) else (none)) else (laws_FnAdmitTasksAll.l1 k x3 x4 x5 x6 x8 x9 x10 (wrap64 (x11 + 1)))) else (none)) else (none)))))) else (if 0 ≤ x9 then (if x9 < (x6.length : Int) then ((laws_isIn.f k x8 (rd x6 x9)).bind fun t914 => (if t914 = true then (laws_FnAdmitTasksAll.l0 k x3 x4 x5 x6 x8 (wrap64 (x9 + 1))) else ((impl_RunsTogether.f x3 x4 x10).bind fun t915 => (if t915 = true then (some false) else (laws_FnAdmitTasksAll.l0 k x3 x4 x5 x6 x8 (wrap64 (x9 + 1))))))) else (none)) else (none))
end
noncomputable def laws_FnAdmitTasksAll.f (k : Nat) (l0 : List Int) : Option (Bool) := if (l0.length : Int) > 1048576 then (some true) else ((spec_DrawAdmitTasks.f k l0).bind fun bt874 => ((impl_AdmitTasks.f bt874.1 bt874.2.1 bt874.2.2.1 bt874.2.2.2.1 bt874.2.2.2.2).bind fun t887 => ((spec_AdmitTasks.f k bt874.1 bt874.2.1 bt874.2.2.1 bt874.2.2.2.1 bt874.2.2.2.2).bind fun t890 => ((laws_equalInts.f k t887 t890).bind fun t893 => (if t893 = true then (if (t887.length : Int) = 0 then (laws_FnAdmitTasksAll.j0 k bt874.1 bt874.2.1 bt874.2.2.1 bt874.2.2.2.1 bt874.2.2.2.2 t887 true) else (laws_FnAdmitTasksAll.j0 k bt874.1 bt874.2.1 bt874.2.2.1 bt874.2.2.2.1 bt874.2.2.2.2 t887 ((wrap64 ((bt874.2.2.1.length : Int) + (t887.length : Int))) == bt874.2.2.2.2))) else (laws_FnAdmitTasksAll.j0 k bt874.1 bt874.2.1 bt874.2.2.1 bt874.2.2.2.1 bt874.2.2.2.2 t887 true))))))
theorem laws_FnAdmitTasksAll.mono_l : ∀ k, (∀ y0 y1 y2 y3 y4 y5 y6, LeO (laws_FnAdmitTasksAll.j0 k y0 y1 y2 y3 y4 y5 y6) (laws_FnAdmitTasksAll.j0 (k + 1) y0 y1 y2 y3 y4 y5 y6)) ∧ (∀ y0 y1 y2 y3 y4 y5, LeO (laws_FnAdmitTasksAll.l0 k y0 y1 y2 y3 y4 y5) (laws_FnAdmitTasksAll.l0 (k + 1) y0 y1 y2 y3 y4 y5)) ∧ (∀ y0 y1 y2 y3 y4 y5 y6 y7, LeO (laws_FnAdmitTasksAll.l1 k y0 y1 y2 y3 y4 y5 y6 y7) (laws_FnAdmitTasksAll.l1 (k + 1) y0 y1 y2 y3 y4 y5 y6 y7))
 | 0 => ⟨fun _ _ _ _ _ _ _ r h => by simp [laws_FnAdmitTasksAll.j0] at h, fun _ _ _ _ _ _ r h => by simp [laws_FnAdmitTasksAll.l0] at h, fun _ _ _ _ _ _ _ _ r h => by simp [laws_FnAdmitTasksAll.l1] at h⟩
 | k + 1 => by
  obtain ⟨ih0, ih1, ih2⟩ := laws_FnAdmitTasksAll.mono_l k
  refine ⟨?_, ?_, ?_⟩
  ·intro y0 y1 y2 y3 y4 y5 y6
   unfold laws_FnAdmitTasksAll.j0
   repeat' first
   | (with_reducible exact ih0 _ _ _ _ _ _ _)
   | (with_reducible exact ih1 _ _ _ _ _ _)
   | (with_reducible exact ih2 _ _ _ _ _ _ _ _)
   | (with_reducible exact laws_equalInts.mono _ _ _)
   | (with_reducible exact laws_isIn.mono _ _ _)
   | (with_reducible exact spec_AdmitTasks.mono _ _ _ _ _ _)
   | (with_reducible exact spec_DrawAdmitTasks.mono _ _)
   | (with_reducible exact LeO.refl _)
   | (with_reducible exact LeO.none _)
   | (with_reducible refine LeO.ite ?_ ?_)
   | (with_reducible refine LeO.bind ?_ (fun _ => ?_))
   | exact ih0 _ _ _ _ _ _ _
   | exact ih1 _ _ _ _ _ _
   | exact ih2 _ _ _ _ _ _ _ _
   | exact laws_equalInts.mono _ _ _
   | exact laws_isIn.mono _ _ _
   | exact spec_AdmitTasks.mono _ _ _ _ _ _
   | exact spec_DrawAdmitTasks.mono _ _
   | exact LeO.none _
   | refine LeO.ite ?_ ?_
   | refine LeO.bind ?_ (fun _ => ?_)
  ·intro y0 y1 y2 y3 y4 y5
   unfold laws_FnAdmitTasksAll.l0
   repeat' first
   | (with_reducible exact ih0 _ _ _ _ _ _ _)
   | (with_reducible exact ih1 _ _ _ _ _ _)
   | (with_reducible exact ih2 _ _ _ _ _ _ _ _)
   | (with_reducible exact laws_equalInts.mono _ _ _)
   | (with_reducible exact laws_isIn.mono _ _ _)
   | (with_reducible exact spec_AdmitTasks.mono _ _ _ _ _ _)
   | (with_reducible exact spec_DrawAdmitTasks.mono _ _)
   | (with_reducible exact LeO.refl _)
   | (with_reducible exact LeO.none _)
   | (with_reducible refine LeO.ite ?_ ?_)
   | (with_reducible refine LeO.bind ?_ (fun _ => ?_))
   | exact ih0 _ _ _ _ _ _ _
   | exact ih1 _ _ _ _ _ _
   | exact ih2 _ _ _ _ _ _ _ _
   | exact laws_equalInts.mono _ _ _
   | exact laws_isIn.mono _ _ _
   | exact spec_AdmitTasks.mono _ _ _ _ _ _
   | exact spec_DrawAdmitTasks.mono _ _
   | exact LeO.none _
   | refine LeO.ite ?_ ?_
   | refine LeO.bind ?_ (fun _ => ?_)
  ·intro y0 y1 y2 y3 y4 y5 y6 y7
   unfold laws_FnAdmitTasksAll.l1
   repeat' first
   | (with_reducible exact ih0 _ _ _ _ _ _ _)
   | (with_reducible exact ih1 _ _ _ _ _ _)
   | (with_reducible exact ih2 _ _ _ _ _ _ _ _)
   | (with_reducible exact laws_equalInts.mono _ _ _)
   | (with_reducible exact laws_isIn.mono _ _ _)
   | (with_reducible exact spec_AdmitTasks.mono _ _ _ _ _ _)
   | (with_reducible exact spec_DrawAdmitTasks.mono _ _)
   | (with_reducible exact LeO.refl _)
   | (with_reducible exact LeO.none _)
   | (with_reducible refine LeO.ite ?_ ?_)
   | (with_reducible refine LeO.bind ?_ (fun _ => ?_))
   | exact ih0 _ _ _ _ _ _ _
   | exact ih1 _ _ _ _ _ _
   | exact ih2 _ _ _ _ _ _ _ _
   | exact laws_equalInts.mono _ _ _
   | exact laws_isIn.mono _ _ _
   | exact spec_AdmitTasks.mono _ _ _ _ _ _
   | exact spec_DrawAdmitTasks.mono _ _
   | exact LeO.none _
   | refine LeO.ite ?_ ?_
   | refine LeO.bind ?_ (fun _ => ?_)
theorem laws_FnAdmitTasksAll.mono : ∀ a0 k, LeO (laws_FnAdmitTasksAll.f k a0) (laws_FnAdmitTasksAll.f (k + 1) a0) := by
 intro a0 k
 obtain ⟨ih0, ih1, ih2⟩ := laws_FnAdmitTasksAll.mono_l k
 unfold laws_FnAdmitTasksAll.f
 repeat' first
   | (with_reducible exact ih0 _ _ _ _ _ _ _)
   | (with_reducible exact ih1 _ _ _ _ _ _)
   | (with_reducible exact ih2 _ _ _ _ _ _ _ _)
   | (with_reducible exact laws_equalInts.mono _ _ _)
   | (with_reducible exact laws_isIn.mono _ _ _)
   | (with_reducible exact spec_AdmitTasks.mono _ _ _ _ _ _)
   | (with_reducible exact spec_DrawAdmitTasks.mono _ _)
   | (with_reducible exact LeO.refl _)
   | (with_reducible exact LeO.none _)
   | (with_reducible refine LeO.ite ?_ ?_)
   | (with_reducible refine LeO.bind ?_ (fun _ => ?_))
   | exact ih0 _ _ _ _ _ _ _
   | exact ih1 _ _ _ _ _ _
   | exact ih2 _ _ _ _ _ _ _ _
   | exact laws_equalInts.mono _ _ _
   | exact laws_isIn.mono _ _ _
   | exact spec_AdmitTasks.mono _ _ _ _ _ _
   | exact spec_DrawAdmitTasks.mono _ _
   | exact LeO.none _
   | refine LeO.ite ?_ ?_
   | refine LeO.bind ?_ (fun _ => ?_)
set_option maxHeartbeats 8000000 in
set_option maxRecDepth 100000 in
theorem laws_FnAdmitTasksAll.calls (k : Nat) (A0 : Option Addr) (c0 : Nat) (l0 : List Int) (r : Bool) (w : World) (hr0 : Kd.C (Kd.int .u8) w A0 l0.length l0) (hc0 : l0.length ≤ c0) (hT : Tab w) (h : laws_FnAdmitTasksAll.f k l0 = some r) :
  Calls Tryd.prog 11 #[.slice A0 l0.length c0] w fun e w' => e = .returned (.bool r) ∧ Below w.heap.size w w' := by
 have HT := Aside0.mk hT
 clear hT
 have HR0 := Aside0.mk hr0
 have HC0 := Aside0.mk hc0
 clear hr0 hc0
 have HB := Aside0.mk (Below.refl w.heap.size w)
 have H : (if (l0.length : Int) > 1048576 then (some true) else ((spec_DrawAdmitTasks.f k l0).bind fun bt874 => ((impl_AdmitTasks.f bt874.1 bt874.2.1 bt874.2.2.1 bt874.2.2.2.1 bt874.2.2.2.2).bind fun t887 => ((spec_AdmitTasks.f k bt874.1 bt874.2.1 bt874.2.2.1 bt874.2.2.2.1 bt874.2.2.2.2).bind fun t890 => ((laws_equalInts.f k t887 t890).bind fun t893 => (if t893 = true then (if (t887.length : Int) = 0 then (laws_FnAdmitTasksAll.j0 k bt874.1 bt874.2.1 bt874.2.2.1 bt874.2.2.2.1 bt874.2.2.2.2 t887 true) else (laws_FnAdmitTasksAll.j0 k bt874.1 bt874.2.1 bt874.2.2.1 bt874.2.2.2.1 bt874.2.2.2.2 t887 ((wrap64 ((bt874.2.2.1.length : Int) + (t887.length : Int))) == bt874.2.2.2.2))) else (laws_FnAdmitTasksAll.j0 k bt874.1 bt874.2.1 bt874.2.2.1 bt874.2.2.2.1 bt874.2.2.2.2 t887 true))))))) = some r := h
 clear h
 by_cases c2 : (l0.length : Int) > 1048576
 ·rw [if_pos c2] at H
  have c2b0 : decide (1048576 < (l0.length : Int)) = true := decide_eq_true c2
  have c2b1 : decide (1048576 < l0.length) = true := decide_eq_true (by omega)
  clear c2
  obtain rfl := Option.some.inj H
  go_enter Tryd.func11, Tryd.ntmps11
  go_wp2
  go_ret
  exact ⟨by first | rfl | (simp [errW_none, errW_some] <;> rfl) | (simp [*, errW_none, errW_some] <;> rfl), HB.out⟩
 ·rw [if_neg c2] at H
  have c2b0 : decide (1048576 < (l0.length : Int)) = false := decide_eq_false c2
  have c2b1 : decide (1048576 < l0.length) = false := decide_eq_false (by omega)
  clear c2
  replace H := Option.bind_eq_some_iff.mp H
  obtain ⟨⟨t874, t875, t876, t877, t878⟩, A30, H⟩ := H
  replace H : ((impl_AdmitTasks.f t874 t875 t876 t877 t878).bind fun t887 => ((spec_AdmitTasks.f k t874 t875 t876 t877 t878).bind fun t890 => ((laws_equalInts.f k t887 t890).bind fun t893 => (if t893 = true then (if (t887.length : Int) = 0 then (laws_FnAdmitTasksAll.j0 k t874 t875 t876 t877 t878 t887 true) else (laws_FnAdmitTasksAll.j0 k t874 t875 t876 t877 t878 t887 ((wrap64 ((t876.length : Int) + (t887.length : Int))) == t878))) else (laws_FnAdmitTasksAll.j0 k t874 t875 t876 t877 t878 t887 true))))) = some r := H
  have A3 := Aside0.mk A30
  clear A30
  replace H := Option.bind_eq_some_iff.mp H
  obtain ⟨t887, A40, H⟩ := H
  replace H : ((spec_AdmitTasks.f k t874 t875 t876 t877 t878).bind fun t890 => ((laws_equalInts.f k t887 t890).bind fun t893 => (if t893 = true then (if (t887.length : Int) = 0 then (laws_FnAdmitTasksAll.j0 k t874 t875 t876 t877 t878 t887 true) else (laws_FnAdmitTasksAll.j0 k t874 t875 t876 t877 t878 t887 ((wrap64 ((t876.length : Int) + (t887.length : Int))) == t878))) else (laws_FnAdmitTasksAll.j0 k t874 t875 t876 t877 t878 t887 true)))) = some r := H
  have A4 := Aside0.mk A40
  clear A40
  have HC5 := Aside0.mk H
  clear H
  go_enter Tryd.func11, Tryd.ntmps11
  go_upto_region 5 with (first | ((with_reducible refine gate_callee (f := 46) rfl ?_); refine goesL_ (some 17) rfl rfl Tryd.func46 (by kernel_rfl) rfl #[.slice A0 l0.length c0] rfl (by (try simp only [List.map_toArray, List.map_cons, List.map_nil]); first | done | rfl | (simp only [List.length_drop, List.length_take]; rfl)) ?_; (with_reducible refine (spec_DrawAdmitTasks.calls k _ _ l0 t874 t875 t876 t877 t878 _ ?side1 ?side2 A3.out).mono ?_); (case side1 => exact HR0.out); (case side2 => exact HC0.out); rintro e w6 ⟨v879, v881, v883, v885, rfl, ho0, ho1, ho2, ho3, hb⟩; refine ⟨_, rfl, ?_⟩; have n0_ := Aside0.mk (Kd.S_lower ho0 (below_size HB.out)); have n1_ := Aside0.mk (Kd.Q_lower ho1 (below_size HB.out)); have n2_ := Aside0.mk (Kd.R_lower ho2 (below_size HB.out)); have n3_ := Aside0.mk (Kd.Q_lower ho3 (below_size HB.out)); have n4_ := Aside0.mk (below_step HB.out hb); clear HB; have HO880 := n0_; have HO882 := n1_; have HO884 := n2_; have HO886 := n3_; have HB := n4_; clear n0_ n1_ n2_ n3_ n4_; (try clear hb); (try clear hb2); (try clear hk); (try clear hi); (try clear ho0); (try clear ho1); (try clear ho2); (try clear ho3); obtain ⟨Ao7, co7, eo7⟩ := Kd.S_slice HO880.out; subst eo7; obtain ⟨Ao8, co8, eo8, _⟩ := Kd.Q_slice HO882.out; subst eo8; obtain ⟨Ao9, co9, eo9⟩ := Kd.R_slice HO884.out; subst eo9; obtain ⟨Ao10, co10, eo10, _⟩ := Kd.Q_slice HO886.out; subst eo10) | ((with_reducible refine gate_callee (f := 19) rfl ?_); refine goesL_ (some 28) rfl rfl Tryd.func19 (by kernel_rfl) rfl #[.slice Ao7 t874.length co7, .slice Ao8 t875.length co8, .slice Ao9 t876.length co9, .slice Ao10 t877.length co10, .int .i64 t878] rfl (by (try simp only [List.map_toArray, List.map_cons, List.map_nil]); first | done | rfl | (simp only [List.length_drop, List.length_take]; rfl)) ?_; (with_reducible refine (impl_AdmitTasks.calls _ _ t874 _ _ t875 _ _ t876 _ _ t877 t878 t887 _ ?side1 ?side2 ?side3 ?side4 ?side5 ?side6 ?side7 ?side8 ?side9 A4.out).mono ?_); (case side1 => exact (Kd.S_reads' HO880.out).2.2); (case side2 => exact (Kd.S_reads' HO880.out).2.1); (case side3 => exact (Kd.Q_reads' HO882.out).2.2); (case side4 => exact (Kd.Q_reads' HO882.out).2.1); (case side5 => exact (Kd.R_reads' HO884.out).2.2); (case side6 => exact (Kd.R_reads' HO884.out).2.1); (case side7 => exact (Kd.Q_reads' HO886.out).2.2); (case side8 => exact (Kd.Q_reads' HO886.out).2.1); (case side9 => exact Tab.of HT.out HB.out); rintro e w11 ⟨v888, rfl, ho0, hb⟩; refine ⟨_, rfl, ?_⟩; have n0_ := Aside0.mk (Kd.S_elder' HO880.out (Kd.R_base ho0) hb); have n1_ := Aside0.mk (Kd.Q_elder' HO882.out (Kd.R_base ho0) hb); have n2_ := Aside0.mk (Kd.R_elder' HO884.out (Kd.R_base ho0) hb); have n3_ := Aside0.mk (Kd.Q_elder' HO886.out (Kd.R_base ho0) hb); have n4_ := Aside0.mk (Kd.R_lower (Kd.R_new' (Kd.R_new' (Kd.R_new' ho0 (Kd.Q_lt HO882.out)) (Kd.R_lt HO884.out)) (Kd.Q_lt HO886.out)) (below_size HB.out)); have n5_ := Aside0.mk (below_step HB.out hb); clear HO880; clear HO882; clear HO884; clear HO886; clear HB; have HO880 := n0_; have HO882 := n1_; have HO884 := n2_; have HO886 := n3_; have HO889 := n4_; have HB := n5_; clear n0_ n1_ n2_ n3_ n4_ n5_; (try clear hb); (try clear hb2); (try clear hk); (try clear hi); (try clear ho0)))
  (try simp only [Act.put, List.setIfInBounds_toArray, List.set_cons_zero, List.set_cons_succ])
  go_cut [51] (fun v51 wc => ∃ (kq : Nat) (x51_4 : Bool), v51 = .bool x51_4 ∧ Aside0 (laws_FnAdmitTasksAll.j0 kq t874 t875 t876 t877 t878 t887 x51_4 = some r) ∧ Aside0 (kq ≤ k) ∧ Aside0 (Kd.S k48 48 wc w.heap.size (fun k_ => some k_ ≠ ((.slice Ao8 t875.length co8) : Value).ownBlock ∧ some k_ ≠ ((.slice Ao9 t876.length co9) : Value).ownBlock ∧ some k_ ≠ ((.slice Ao10 t877.length co10) : Value).ownBlock ∧ some k_ ≠ (v888 : Value).ownBlock) (.slice Ao7 t874.length co7) t874) ∧ Aside0 (Kd.Q (Kd.int .i64) 3 wc w.heap.size (fun k_ => some k_ ≠ ((.slice Ao9 t876.length co9) : Value).ownBlock ∧ some k_ ≠ ((.slice Ao10 t877.length co10) : Value).ownBlock ∧ some k_ ≠ (v888 : Value).ownBlock) (.slice Ao8 t875.length co8) t875) ∧ Aside0 (Kd.R (Kd.int .i64) 3 wc w.heap.size (fun k_ => some k_ ≠ ((.slice Ao8 t875.length co8) : Value).ownBlock ∧ some k_ ≠ ((.slice Ao10 t877.length co10) : Value).ownBlock ∧ some k_ ≠ (v888 : Value).ownBlock) (.slice Ao9 t876.length co9) t876) ∧ Aside0 (Kd.Q (Kd.int .i64) 3 wc w.heap.size (fun k_ => some k_ ≠ ((.slice Ao8 t875.length co8) : Value).ownBlock ∧ some k_ ≠ ((.slice Ao9 t876.length co9) : Value).ownBlock ∧ some k_ ≠ (v888 : Value).ownBlock) (.slice Ao10 t877.length co10) t877) ∧ Aside0 (Kd.R (Kd.int .i64) 3 wc w.heap.size (fun k_ => some k_ ≠ ((.slice Ao8 t875.length co8) : Value).ownBlock ∧ some k_ ≠ ((.slice Ao9 t876.length co9) : Value).ownBlock ∧ some k_ ≠ ((.slice Ao10 t877.length co10) : Value).ownBlock) v888 t887) ∧ Aside0 (Below w.heap.size w wc))
  case first =>
   have H := HC5.out
   clear HC5
   replace H := Option.bind_eq_some_iff.mp H
   obtain ⟨t890, A120, H⟩ := H
   replace H : ((laws_equalInts.f k t887 t890).bind fun t893 => (if t893 = true then (if (t887.length : Int) = 0 then (laws_FnAdmitTasksAll.j0 k t874 t875 t876 t877 t878 t887 true) else (laws_FnAdmitTasksAll.j0 k t874 t875 t876 t877 t878 t887 ((wrap64 ((t876.length : Int) + (t887.length : Int))) == t878))) else (laws_FnAdmitTasksAll.j0 k t874 t875 t876 t877 t878 t887 true))) = some r := H
   have A12 := Aside0.mk A120
   clear A120
   replace H := Option.bind_eq_some_iff.mp H
   obtain ⟨t893, A130, H⟩ := H
   replace H : (if t893 = true then (if (t887.length : Int) = 0 then (laws_FnAdmitTasksAll.j0 k t874 t875 t876 t877 t878 t887 true) else (laws_FnAdmitTasksAll.j0 k t874 t875 t876 t877 t878 t887 ((wrap64 ((t876.length : Int) + (t887.length : Int))) == t878))) else (laws_FnAdmitTasksAll.j0 k t874 t875 t876 t877 t878 t887 true)) = some r := H
   have A13 := Aside0.mk A130
   clear A130
   by_cases c14 : t893 = true
   ·subst c14
    have H1 : (if (t887.length : Int) = 0 then (laws_FnAdmitTasksAll.j0 k t874 t875 t876 t877 t878 t887 true) else (laws_FnAdmitTasksAll.j0 k t874 t875 t876 t877 t878 t887 ((wrap64 ((t876.length : Int) + (t887.length : Int))) == t878))) = some r := by rw [if_pos rfl] at H; exact H
    clear H
    have H := H1
    clear H1
    by_cases c15 : (t887.length : Int) = 0
    ·rw [if_pos c15] at H
     have c15b0 : ((t887.length : Int) == 0) = true := beq_iff_eq.mpr c15
     have c15b1 : ((t887.length : Int) != 0) = false := bne_eq_false_iff_eq.mpr c15
     clear c15
     (first | rw [c15b0] | (simp only [i64_w, i32_w]; rw [c15b0]) | skip)
     have H' := Aside0.mk H
     clear H
     go_wp2_with (first | ((with_reducible refine gate_callee (f := 16) rfl ?_); refine goesL_ (some 35) rfl rfl Tryd.func16 (by kernel_rfl) rfl #[.slice Ao7 t874.length co7, .slice Ao8 t875.length co8, .slice Ao9 t876.length co9, .slice Ao10 t877.length co10, .int .i64 t878] rfl (by (try simp only [List.map_toArray, List.map_cons, List.map_nil]); first | done | rfl | (simp only [List.length_drop, List.length_take]; rfl)) ?_; (with_reducible refine (spec_AdmitTasks.calls k _ _ t874 _ _ t875 _ _ t876 _ _ t877 t878 t890 _ ?side1 ?side2 ?side3 ?side4 ?side5 ?side6 ?side7 ?side8 A12.out).mono ?_); (case side1 => exact (Kd.S_reads' HO880.out).2.2); (case side2 => exact (Kd.S_reads' HO880.out).2.1); (case side3 => exact (Kd.Q_reads' HO882.out).2.2); (case side4 => exact (Kd.Q_reads' HO882.out).2.1); (case side5 => exact (Kd.R_reads' HO884.out).2.2); (case side6 => exact (Kd.R_reads' HO884.out).2.1); (case side7 => exact (Kd.Q_reads' HO886.out).2.2); (case side8 => exact (Kd.Q_reads' HO886.out).2.1); rintro e w16 ⟨v891, rfl, ho0, hb⟩; refine ⟨_, rfl, ?_⟩; have n0_ := Aside0.mk (Kd.S_elder' HO880.out (Kd.R_base ho0) hb); have n1_ := Aside0.mk (Kd.Q_elder' HO882.out (Kd.R_base ho0) hb); have n2_ := Aside0.mk (Kd.R_elder' HO884.out (Kd.R_base ho0) hb); have n3_ := Aside0.mk (Kd.Q_elder' HO886.out (Kd.R_base ho0) hb); have n4_ := Aside0.mk (Kd.R_elder' HO889.out (Kd.R_base ho0) hb); have n5_ := Aside0.mk (Kd.R_lower (Kd.R_new' (Kd.R_new' (Kd.R_new' (Kd.R_new' ho0 (Kd.Q_lt HO882.out)) (Kd.R_lt HO884.out)) (Kd.Q_lt HO886.out)) (Kd.R_lt HO889.out)) (below_size HB.out)); have n6_ := Aside0.mk (below_step HB.out hb); clear HO880; clear HO882; clear HO884; clear HO886; clear HO889; clear HB; have HO880 := n0_; have HO882 := n1_; have HO884 := n2_; have HO886 := n3_; have HO889 := n4_; have HO892 := n5_; have HB := n6_; clear n0_ n1_ n2_ n3_ n4_ n5_ n6_; (try clear hb); (try clear hb2); (try clear hk); (try clear hi); (try clear ho0); obtain ⟨Ao17, co17, eo17⟩ := Kd.R_slice HO889.out; subst eo17; obtain ⟨Ao18, co18, eo18⟩ := Kd.R_slice HO892.out; subst eo18) | ((with_reducible refine gate_callee (f := 32) rfl ?_); refine goesL_ (some 36) rfl rfl Tryd.func32 (by kernel_rfl) rfl #[.slice Ao17 t887.length co17, .slice Ao18 t890.length co18] rfl (by (try simp only [List.map_toArray, List.map_cons, List.map_nil]); first | done | rfl | (simp only [List.length_drop, List.length_take]; rfl)) ?_; (with_reducible refine (laws_equalInts.calls k _ _ t887 _ _ t890 true _ ?side1 ?side2 ?side3 ?side4 A13.out).mono ?_); (case side1 => exact (Kd.R_reads' HO889.out).2.2); (case side2 => exact (Kd.R_reads' HO889.out).2.1); (case side3 => exact (Kd.R_reads' HO892.out).2.2); (case side4 => exact (Kd.R_reads' HO892.out).2.1); rintro e w' ⟨rfl, ⟨nd, rfl⟩⟩; refine ⟨_, rfl, ?_⟩))
     go_meet
     case rel => exact ⟨_, (true), (by first | rfl | (simp; done) | (simp [*]; done)), H', ⟨by first | omega | exact Nat.le_refl _⟩, ⟨by (with_reducible repeat (first | apply Kd.S_alloc | apply Kd.S_drewN | apply Kd.S_drew)); exact Kd.S_mono HO880.out (fun _ hk => ⟨hk.1.1.1, ⟨hk.1.1.2.1, ⟨hk.1.1.2.2, hk.1.2⟩⟩⟩)⟩, ⟨by (with_reducible repeat (first | apply Kd.Q_alloc | apply Kd.Q_drewN | apply Kd.Q_drew)); exact Kd.Q_mono HO882.out (fun _ hk => ⟨hk.1.1.1, ⟨hk.1.1.2, hk.1.2⟩⟩)⟩, ⟨by (with_reducible repeat (first | apply Kd.R_alloc | apply Kd.R_drewN | apply Kd.R_drew)); exact Kd.R_mono HO884.out (fun _ hk => ⟨hk.1.1.1, ⟨hk.1.1.2, hk.1.2⟩⟩)⟩, ⟨by (with_reducible repeat (first | apply Kd.Q_alloc | apply Kd.Q_drewN | apply Kd.Q_drew)); exact Kd.Q_mono HO886.out (fun _ hk => ⟨hk.1.1.1, ⟨hk.1.1.2, hk.1.2⟩⟩)⟩, ⟨by (with_reducible repeat (first | apply Kd.R_alloc | apply Kd.R_drewN | apply Kd.R_drew)); exact Kd.R_mono HO889.out (fun _ hk => ⟨hk.1.1.1.2, ⟨hk.1.1.2, hk.1.2⟩⟩)⟩, ⟨by repeat (first | (with_reducible first | exact HB.out | apply below_alloc | apply pw_below_drewN | apply below_drew1) | exact HB.out)⟩⟩
    ·rw [if_neg c15] at H
     have c15b0 : ((t887.length : Int) == 0) = false := beq_eq_false_iff_ne.mpr c15
     have c15b1 : ((t887.length : Int) != 0) = true := bne_iff_ne.mpr c15
     have c15b2 : ¬ (t887 = []) := fun h_ => c15 (by rw [h_]; rfl)
     (first | rw [c15b0] | (simp only [i64_w, i32_w]; rw [c15b0]) | skip)
     have H' := Aside0.mk H
     clear H
     go_wp2_with (first | ((with_reducible refine gate_callee (f := 16) rfl ?_); refine goesL_ (some 35) rfl rfl Tryd.func16 (by kernel_rfl) rfl #[.slice Ao7 t874.length co7, .slice Ao8 t875.length co8, .slice Ao9 t876.length co9, .slice Ao10 t877.length co10, .int .i64 t878] rfl (by (try simp only [List.map_toArray, List.map_cons, List.map_nil]); first | done | rfl | (simp only [List.length_drop, List.length_take]; rfl)) ?_; (with_reducible refine (spec_AdmitTasks.calls k _ _ t874 _ _ t875 _ _ t876 _ _ t877 t878 t890 _ ?side1 ?side2 ?side3 ?side4 ?side5 ?side6 ?side7 ?side8 A12.out).mono ?_); (case side1 => exact (Kd.S_reads' HO880.out).2.2); (case side2 => exact (Kd.S_reads' HO880.out).2.1); (case side3 => exact (Kd.Q_reads' HO882.out).2.2); (case side4 => exact (Kd.Q_reads' HO882.out).2.1); (case side5 => exact (Kd.R_reads' HO884.out).2.2); (case side6 => exact (Kd.R_reads' HO884.out).2.1); (case side7 => exact (Kd.Q_reads' HO886.out).2.2); (case side8 => exact (Kd.Q_reads' HO886.out).2.1); rintro e w19 ⟨v891, rfl, ho0, hb⟩; refine ⟨_, rfl, ?_⟩; have n0_ := Aside0.mk (Kd.S_elder' HO880.out (Kd.R_base ho0) hb); have n1_ := Aside0.mk (Kd.Q_elder' HO882.out (Kd.R_base ho0) hb); have n2_ := Aside0.mk (Kd.R_elder' HO884.out (Kd.R_base ho0) hb); have n3_ := Aside0.mk (Kd.Q_elder' HO886.out (Kd.R_base ho0) hb); have n4_ := Aside0.mk (Kd.R_elder' HO889.out (Kd.R_base ho0) hb); have n5_ := Aside0.mk (Kd.R_lower (Kd.R_new' (Kd.R_new' (Kd.R_new' (Kd.R_new' ho0 (Kd.Q_lt HO882.out)) (Kd.R_lt HO884.out)) (Kd.Q_lt HO886.out)) (Kd.R_lt HO889.out)) (below_size HB.out)); have n6_ := Aside0.mk (below_step HB.out hb); clear HO880; clear HO882; clear HO884; clear HO886; clear HO889; clear HB; have HO880 := n0_; have HO882 := n1_; have HO884 := n2_; have HO886 := n3_; have HO889 := n4_; have HO892 := n5_; have HB := n6_; clear n0_ n1_ n2_ n3_ n4_ n5_ n6_; (try clear hb); (try clear hb2); (try clear hk); (try clear hi); (try clear ho0); obtain ⟨Ao20, co20, eo20⟩ := Kd.R_slice HO889.out; subst eo20; obtain ⟨Ao21, co21, eo21⟩ := Kd.R_slice HO892.out; subst eo21) | ((with_reducible refine gate_callee (f := 32) rfl ?_); refine goesL_ (some 36) rfl rfl Tryd.func32 (by kernel_rfl) rfl #[.slice Ao20 t887.length co20, .slice Ao21 t890.length co21] rfl (by (try simp only [List.map_toArray, List.map_cons, List.map_nil]); first | done | rfl | (simp only [List.length_drop, List.length_take]; rfl)) ?_; (with_reducible refine (laws_equalInts.calls k _ _ t887 _ _ t890 true _ ?side1 ?side2 ?side3 ?side4 A13.out).mono ?_); (case side1 => exact (Kd.R_reads' HO889.out).2.2); (case side2 => exact (Kd.R_reads' HO889.out).2.1); (case side3 => exact (Kd.R_reads' HO892.out).2.2); (case side4 => exact (Kd.R_reads' HO892.out).2.1); rintro e w' ⟨rfl, ⟨nd, rfl⟩⟩; refine ⟨_, rfl, ?_⟩))
     go_meet
     case rel => exact ⟨_, (((wrap64 ((t876.length : Int) + (t887.length : Int))) == t878)), (by first | rfl | (simp; done) | (simp [*]; done)), H', ⟨by first | omega | exact Nat.le_refl _⟩, ⟨by (with_reducible repeat (first | apply Kd.S_alloc | apply Kd.S_drewN | apply Kd.S_drew)); exact Kd.S_mono HO880.out (fun _ hk => ⟨hk.1.1.1, ⟨hk.1.1.2.1, ⟨hk.1.1.2.2, hk.1.2⟩⟩⟩)⟩, ⟨by (with_reducible repeat (first | apply Kd.Q_alloc | apply Kd.Q_drewN | apply Kd.Q_drew)); exact Kd.Q_mono HO882.out (fun _ hk => ⟨hk.1.1.1, ⟨hk.1.1.2, hk.1.2⟩⟩)⟩, ⟨by (with_reducible repeat (first | apply Kd.R_alloc | apply Kd.R_drewN | apply Kd.R_drew)); exact Kd.R_mono HO884.out (fun _ hk => ⟨hk.1.1.1, ⟨hk.1.1.2, hk.1.2⟩⟩)⟩, ⟨by (with_reducible repeat (first | apply Kd.Q_alloc | apply Kd.Q_drewN | apply Kd.Q_drew)); exact Kd.Q_mono HO886.out (fun _ hk => ⟨hk.1.1.1, ⟨hk.1.1.2, hk.1.2⟩⟩)⟩, ⟨by (with_reducible repeat (first | apply Kd.R_alloc | apply Kd.R_drewN | apply Kd.R_drew)); exact Kd.R_mono HO889.out (fun _ hk => ⟨hk.1.1.1.2, ⟨hk.1.1.2, hk.1.2⟩⟩)⟩, ⟨by repeat (first | (with_reducible first | exact HB.out | apply below_alloc | apply pw_below_drewN | apply below_drew1) | exact HB.out)⟩⟩
   ·replace c14 := Bool.eq_false_iff.mpr c14
    subst c14
    have H1 : (laws_FnAdmitTasksAll.j0 k t874 t875 t876 t877 t878 t887 true) = some r := by rw [if_neg (show ¬ (false = true) by decide)] at H; exact H
    clear H
    have H := H1
    clear H1
    have H' := Aside0.mk H
    clear H
    go_wp2_with (first | ((with_reducible refine gate_callee (f := 16) rfl ?_); refine goesL_ (some 35) rfl rfl Tryd.func16 (by kernel_rfl) rfl #[.slice Ao7 t874.length co7, .slice Ao8 t875.length co8, .slice Ao9 t876.length co9, .slice Ao10 t877.length co10, .int .i64 t878] rfl (by (try simp only [List.map_toArray, List.map_cons, List.map_nil]); first | done | rfl | (simp only [List.length_drop, List.length_take]; rfl)) ?_; (with_reducible refine (spec_AdmitTasks.calls k _ _ t874 _ _ t875 _ _ t876 _ _ t877 t878 t890 _ ?side1 ?side2 ?side3 ?side4 ?side5 ?side6 ?side7 ?side8 A12.out).mono ?_); (case side1 => exact (Kd.S_reads' HO880.out).2.2); (case side2 => exact (Kd.S_reads' HO880.out).2.1); (case side3 => exact (Kd.Q_reads' HO882.out).2.2); (case side4 => exact (Kd.Q_reads' HO882.out).2.1); (case side5 => exact (Kd.R_reads' HO884.out).2.2); (case side6 => exact (Kd.R_reads' HO884.out).2.1); (case side7 => exact (Kd.Q_reads' HO886.out).2.2); (case side8 => exact (Kd.Q_reads' HO886.out).2.1); rintro e w22 ⟨v891, rfl, ho0, hb⟩; refine ⟨_, rfl, ?_⟩; have n0_ := Aside0.mk (Kd.S_elder' HO880.out (Kd.R_base ho0) hb); have n1_ := Aside0.mk (Kd.Q_elder' HO882.out (Kd.R_base ho0) hb); have n2_ := Aside0.mk (Kd.R_elder' HO884.out (Kd.R_base ho0) hb); have n3_ := Aside0.mk (Kd.Q_elder' HO886.out (Kd.R_base ho0) hb); have n4_ := Aside0.mk (Kd.R_elder' HO889.out (Kd.R_base ho0) hb); have n5_ := Aside0.mk (Kd.R_lower (Kd.R_new' (Kd.R_new' (Kd.R_new' (Kd.R_new' ho0 (Kd.Q_lt HO882.out)) (Kd.R_lt HO884.out)) (Kd.Q_lt HO886.out)) (Kd.R_lt HO889.out)) (below_size HB.out)); have n6_ := Aside0.mk (below_step HB.out hb); clear HO880; clear HO882; clear HO884; clear HO886; clear HO889; clear HB; have HO880 := n0_; have HO882 := n1_; have HO884 := n2_; have HO886 := n3_; have HO889 := n4_; have HO892 := n5_; have HB := n6_; clear n0_ n1_ n2_ n3_ n4_ n5_ n6_; (try clear hb); (try clear hb2); (try clear hk); (try clear hi); (try clear ho0); obtain ⟨Ao23, co23, eo23⟩ := Kd.R_slice HO889.out; subst eo23; obtain ⟨Ao24, co24, eo24⟩ := Kd.R_slice HO892.out; subst eo24) | ((with_reducible refine gate_callee (f := 32) rfl ?_); refine goesL_ (some 36) rfl rfl Tryd.func32 (by kernel_rfl) rfl #[.slice Ao23 t887.length co23, .slice Ao24 t890.length co24] rfl (by (try simp only [List.map_toArray, List.map_cons, List.map_nil]); first | done | rfl | (simp only [List.length_drop, List.length_take]; rfl)) ?_; (with_reducible refine (laws_equalInts.calls k _ _ t887 _ _ t890 false _ ?side1 ?side2 ?side3 ?side4 A13.out).mono ?_); (case side1 => exact (Kd.R_reads' HO889.out).2.2); (case side2 => exact (Kd.R_reads' HO889.out).2.1); (case side3 => exact (Kd.R_reads' HO892.out).2.2); (case side4 => exact (Kd.R_reads' HO892.out).2.1); rintro e w' ⟨rfl, ⟨nd, rfl⟩⟩; refine ⟨_, rfl, ?_⟩))
    go_meet
    case rel => exact ⟨_, (true), (by first | rfl | (simp; done) | (simp [*]; done)), H', ⟨by first | omega | exact Nat.le_refl _⟩, ⟨by (with_reducible repeat (first | apply Kd.S_alloc | apply Kd.S_drewN | apply Kd.S_drew)); exact Kd.S_mono HO880.out (fun _ hk => ⟨hk.1.1.1, ⟨hk.1.1.2.1, ⟨hk.1.1.2.2, hk.1.2⟩⟩⟩)⟩, ⟨by (with_reducible repeat (first | apply Kd.Q_alloc | apply Kd.Q_drewN | apply Kd.Q_drew)); exact Kd.Q_mono HO882.out (fun _ hk => ⟨hk.1.1.1, ⟨hk.1.1.2, hk.1.2⟩⟩)⟩, ⟨by (with_reducible repeat (first | apply Kd.R_alloc | apply Kd.R_drewN | apply Kd.R_drew)); exact Kd.R_mono HO884.out (fun _ hk => ⟨hk.1.1.1, ⟨hk.1.1.2, hk.1.2⟩⟩)⟩, ⟨by (with_reducible repeat (first | apply Kd.Q_alloc | apply Kd.Q_drewN | apply Kd.Q_drew)); exact Kd.Q_mono HO886.out (fun _ hk => ⟨hk.1.1.1, ⟨hk.1.1.2, hk.1.2⟩⟩)⟩, ⟨by (with_reducible repeat (first | apply Kd.R_alloc | apply Kd.R_drewN | apply Kd.R_drew)); exact Kd.R_mono HO889.out (fun _ hk => ⟨hk.1.1.1.2, ⟨hk.1.1.2, hk.1.2⟩⟩)⟩, ⟨by repeat (first | (with_reducible first | exact HB.out | apply below_alloc | apply pw_below_drewN | apply below_drew1) | exact HB.out)⟩⟩
  case rest =>
   clear HC5
   try clear c1
   try clear c2
   try clear c2b0
   try clear c2b1
   try clear p2
   try clear c3
   try clear c4
   try clear p6
   try clear c11
   try clear c14
   try clear c15
   try clear c15b0
   try clear c15b1
   try clear c15b2
   try clear c16
   try clear c19
   obtain ⟨kq, x51_4, rfl, HA, HJ4, HO_3, HO_4, HO_5, HO_6, HO_8, HB⟩ := hcut
   cases kq with
   | zero => exact absurd HA.out (by simp [laws_FnAdmitTasksAll.j0])
   | succ kj4 =>
    have H := HA.out
    clear HA
    simp only [laws_FnAdmitTasksAll.j0] at H
    by_cases c25 : x51_4 = true
    ·subst c25
     have H1 : ((spec_AdmitTasks.f kj4 t874 t875 t876 t877 t878).bind fun t894 => ((laws_equalInts.f kj4 t887 t894).bind fun t897 => (some t897))) = some r := by rw [if_pos rfl] at H; exact H
     clear H
     have H := H1
     clear H1
     replace H := Option.bind_eq_some_iff.mp H
     obtain ⟨t894, A260, H⟩ := H
     replace H : ((laws_equalInts.f kj4 t887 t894).bind fun t897 => (some t897)) = some r := H
     have A26 := Aside0.mk A260
     clear A260
     replace H := Option.bind_eq_some_iff.mp H
     obtain ⟨t897, A270, H⟩ := H
     replace H : (some t897) = some r := H
     have A27 := Aside0.mk A270
     clear A270
     obtain rfl := Option.some.inj H
     go_wp2_with (first | ((with_reducible refine gate_callee (f := 16) rfl ?_); refine goesL_ (some 58) rfl rfl Tryd.func16 (by kernel_rfl) rfl #[.slice Ao7 t874.length co7, .slice Ao8 t875.length co8, .slice Ao9 t876.length co9, .slice Ao10 t877.length co10, .int .i64 t878] rfl (by (try simp only [List.map_toArray, List.map_cons, List.map_nil]); first | done | rfl | (simp only [List.length_drop, List.length_take]; rfl)) ?_; (with_reducible refine (spec_AdmitTasks.calls kj4 _ _ t874 _ _ t875 _ _ t876 _ _ t877 t878 t894 _ ?side1 ?side2 ?side3 ?side4 ?side5 ?side6 ?side7 ?side8 A26.out).mono ?_); (case side1 => exact (Kd.S_reads' HO_3.out).2.2); (case side2 => exact (Kd.S_reads' HO_3.out).2.1); (case side3 => exact (Kd.Q_reads' HO_4.out).2.2); (case side4 => exact (Kd.Q_reads' HO_4.out).2.1); (case side5 => exact (Kd.R_reads' HO_5.out).2.2); (case side6 => exact (Kd.R_reads' HO_5.out).2.1); (case side7 => exact (Kd.Q_reads' HO_6.out).2.2); (case side8 => exact (Kd.Q_reads' HO_6.out).2.1); rintro e w28 ⟨v895, rfl, ho0, hb⟩; refine ⟨_, rfl, ?_⟩; have n0_ := Aside0.mk (Kd.S_elder' HO_3.out (Kd.R_base ho0) hb); have n1_ := Aside0.mk (Kd.Q_elder' HO_4.out (Kd.R_base ho0) hb); have n2_ := Aside0.mk (Kd.R_elder' HO_5.out (Kd.R_base ho0) hb); have n3_ := Aside0.mk (Kd.Q_elder' HO_6.out (Kd.R_base ho0) hb); have n4_ := Aside0.mk (Kd.R_elder' HO_8.out (Kd.R_base ho0) hb); have n5_ := Aside0.mk (Kd.R_lower (Kd.R_new' (Kd.R_new' (Kd.R_new' (Kd.R_new' ho0 (Kd.Q_lt HO_4.out)) (Kd.R_lt HO_5.out)) (Kd.Q_lt HO_6.out)) (Kd.R_lt HO_8.out)) (below_size HB.out)); have n6_ := Aside0.mk (below_step HB.out hb); clear HO_3; clear HO_4; clear HO_5; clear HO_6; clear HO_8; clear HB; have HO_3 := n0_; have HO_4 := n1_; have HO_5 := n2_; have HO_6 := n3_; have HO_8 := n4_; have HO896 := n5_; have HB := n6_; clear n0_ n1_ n2_ n3_ n4_ n5_ n6_; (try clear hb); (try clear hb2); (try clear hk); (try clear hi); (try clear ho0); obtain ⟨Ao29, co29, eo29⟩ := Kd.R_slice HO_8.out; subst eo29; obtain ⟨Ao30, co30, eo30⟩ := Kd.R_slice HO896.out; subst eo30) | ((with_reducible refine gate_callee (f := 32) rfl ?_); refine goesL_ (some 59) rfl rfl Tryd.func32 (by kernel_rfl) rfl #[.slice Ao29 t887.length co29, .slice Ao30 t894.length co30] rfl (by (try simp only [List.map_toArray, List.map_cons, List.map_nil]); first | done | rfl | (simp only [List.length_drop, List.length_take]; rfl)) ?_; (with_reducible refine (laws_equalInts.calls kj4 _ _ t887 _ _ t894 t897 _ ?side1 ?side2 ?side3 ?side4 A27.out).mono ?_); (case side1 => exact (Kd.R_reads' HO_8.out).2.2); (case side2 => exact (Kd.R_reads' HO_8.out).2.1); (case side3 => exact (Kd.R_reads' HO896.out).2.2); (case side4 => exact (Kd.R_reads' HO896.out).2.1); rintro e w' ⟨rfl, ⟨nd, rfl⟩⟩; refine ⟨_, rfl, ?_⟩))
     go_ret
     exact ⟨by first | rfl | (simp [errW_none, errW_some] <;> rfl) | (simp [*, errW_none, errW_some] <;> rfl), by repeat (first | (with_reducible first | exact HB.out | apply below_alloc | apply pw_below_drewN | apply below_drew1) | exact HB.out)⟩
    ·replace c25 := Bool.eq_false_iff.mpr c25
     subst c25
     have H1 : (laws_FnAdmitTasksAll.l0 kj4 t874 t875 t876 t877 t887 0) = some r := by rw [if_neg (show ¬ (false = true) by decide)] at H; exact H
     clear H
     have H := H1
     clear H1
     have H' := Aside0.mk H
     clear H
     go_wp2
     go_loopg [9] kj4 (fun kq v9 w' => ∃ (x9_2 : Int), v9 = .int .i64 x9_2 ∧ Aside0 (laws_FnAdmitTasksAll.l0 kq t874 t875 t876 t877 t887 x9_2 = some r) ∧ Aside0 (kq ≤ kj4) ∧ Aside0 (Kd.S k48 48 w' w.heap.size (fun k_ => some k_ ≠ ((.slice Ao8 t875.length co8) : Value).ownBlock ∧ some k_ ≠ ((.slice Ao9 t876.length co9) : Value).ownBlock ∧ some k_ ≠ ((.slice Ao10 t877.length co10) : Value).ownBlock ∧ some k_ ≠ (v888 : Value).ownBlock) (.slice Ao7 t874.length co7) t874) ∧ Aside0 (Kd.Q (Kd.int .i64) 3 w' w.heap.size (fun k_ => some k_ ≠ ((.slice Ao9 t876.length co9) : Value).ownBlock ∧ some k_ ≠ ((.slice Ao10 t877.length co10) : Value).ownBlock ∧ some k_ ≠ (v888 : Value).ownBlock) (.slice Ao8 t875.length co8) t875) ∧ Aside0 (Kd.R (Kd.int .i64) 3 w' w.heap.size (fun k_ => some k_ ≠ ((.slice Ao8 t875.length co8) : Value).ownBlock ∧ some k_ ≠ ((.slice Ao10 t877.length co10) : Value).ownBlock ∧ some k_ ≠ (v888 : Value).ownBlock) (.slice Ao9 t876.length co9) t876) ∧ Aside0 (Kd.Q (Kd.int .i64) 3 w' w.heap.size (fun k_ => some k_ ≠ ((.slice Ao8 t875.length co8) : Value).ownBlock ∧ some k_ ≠ ((.slice Ao9 t876.length co9) : Value).ownBlock ∧ some k_ ≠ (v888 : Value).ownBlock) (.slice Ao10 t877.length co10) t877) ∧ Aside0 (Kd.R (Kd.int .i64) 3 w' w.heap.size (fun k_ => some k_ ≠ ((.slice Ao8 t875.length co8) : Value).ownBlock ∧ some k_ ≠ ((.slice Ao9 t876.length co9) : Value).ownBlock ∧ some k_ ≠ ((.slice Ao10 t877.length co10) : Value).ownBlock) v888 t887) ∧ Aside0 (Below w.heap.size w w'))
     case atStart => exact ⟨(0), (by first | rfl | (simp; done) | (simp [*]; done)), H', ⟨Nat.le_refl _⟩, ⟨HO_3.out⟩, ⟨HO_4.out⟩, ⟨HO_5.out⟩, ⟨HO_6.out⟩, ⟨HO_8.out⟩, ⟨HB.out⟩⟩
     case round =>
      clear H'
      try clear c1
      try clear c2
      try clear c2b0
      try clear c2b1
      try clear p2
      try clear c3
      try clear c4
      try clear p6
      try clear c11
      try clear c14
      try clear c15
      try clear c15b0
      try clear c15b1
      try clear c15b2
      try clear c16
      try clear c19
      try clear c25
      try clear p2
      try clear p6
      obtain ⟨x9_2, rfl, HA, HK2, HO_3, HO_4, HO_5, HO_6, HO_8, HB⟩ := hrel
      cases gk with
      | zero => exact absurd HA.out (by simp [laws_FnAdmitTasksAll.l0])
      | succ k2 =>
       have H := HA.out
       clear HA
       simp only [laws_FnAdmitTasksAll.l0] at H
       by_cases c31 : x9_2 < (t877.length : Int)
       ·rw [if_pos c31] at H
        have c31b0 : decide (x9_2 < (t877.length : Int)) = true := decide_eq_true c31
        clear c31
        obtain ⟨y898, hy898⟩ : ∃ y_ : List Int, y_ = (([] : List Int)) := ⟨_, rfl⟩
        replace H : (laws_FnAdmitTasksAll.l1 k2 t874 t875 t876 t877 t887 x9_2 y898 0) = some r := by first | (rw [hy898]; with_reducible exact H) | (have H2_ := (Option.bind_some _ _).symm.trans H; rw [hy898]; with_reducible exact H2_) | (have H2_ := (Option.bind_some _ _).symm.trans H; with_reducible exact H2_) | with_reducible exact H | (rw [hy898]; exact H) | exact H
        have Ny898 := Aside0.mk hy898
        clear hy898
        have H' := Aside0.mk H
        clear H
        go_wp2_with (first | ((with_reducible refine gate_dst (N := 66) rfl ?_); (try (refine gate_guard (by rfl) ?_; dsimp only)); refine Kd.R_lit (Kd.int .i64) _ 3 ?hg (N := 66) ?hd (xs := ([] : List Int)) (inner := []) (ok := fun _ => True) (okp := fun _ => True) ?hr ?hp (fun _ hk => hk) trivial (Below.refl _ _) (Nat.le_refl _) (by simp) ?_; (case hd => rfl); (case hg => rfl); (case hr => first | (go_simp; done) | (go_simp; rfl)); (case hp => exact (Reps.none _ _)); intro v899 w32 ho33 hb hg_ hnew_; clear hg_ hnew_; (first | rw [← Ny898.out] at ho33 | (simp only [Int.reduceToNat] at ho33; rw [← Ny898.out] at ho33)); have n0_ := Aside0.mk (Kd.S_elder' HO_3.out (Kd.R_base ho33) hb); have n1_ := Aside0.mk (Kd.Q_elder' HO_4.out (Kd.R_base ho33) hb); have n2_ := Aside0.mk (Kd.R_elder' HO_5.out (Kd.R_base ho33) hb); have n3_ := Aside0.mk (Kd.Q_elder' HO_6.out (Kd.R_base ho33) hb); have n4_ := Aside0.mk (Kd.R_elder' HO_8.out (Kd.R_base ho33) hb); have n5_ := Aside0.mk (Kd.R_lower (Kd.R_new' (Kd.R_new' (Kd.R_new' (Kd.R_new' ho33 (Kd.Q_lt HO_4.out)) (Kd.R_lt HO_5.out)) (Kd.Q_lt HO_6.out)) (Kd.R_lt HO_8.out)) (below_size HB.out)); have n6_ := Aside0.mk (below_step HB.out hb); clear HO_3; clear HO_4; clear HO_5; clear HO_6; clear HO_8; clear HB; have HO_3 := n0_; have HO_4 := n1_; have HO_5 := n2_; have HO_6 := n3_; have HO_8 := n4_; have HO900 := n5_; have HB := n6_; clear n0_ n1_ n2_ n3_ n4_ n5_ n6_; clear hb ho33))
        go_loopg [10, 11] k2 (fun kq v10 v11 w' => ∃ (x10_3 : List Int) (x11_3 : Int), v11 = .int .i64 x11_3 ∧ Aside0 (laws_FnAdmitTasksAll.l1 kq t874 t875 t876 t877 t887 x9_2 x10_3 x11_3 = some r) ∧ Aside0 (kq ≤ k2) ∧ Aside0 (Kd.S k48 48 w' w.heap.size (fun k_ => some k_ ≠ ((.slice Ao8 t875.length co8) : Value).ownBlock ∧ some k_ ≠ ((.slice Ao9 t876.length co9) : Value).ownBlock ∧ some k_ ≠ ((.slice Ao10 t877.length co10) : Value).ownBlock ∧ some k_ ≠ (v888 : Value).ownBlock ∧ some k_ ≠ (v10 : Value).ownBlock) (.slice Ao7 t874.length co7) t874) ∧ Aside0 (Kd.Q (Kd.int .i64) 3 w' w.heap.size (fun k_ => some k_ ≠ ((.slice Ao9 t876.length co9) : Value).ownBlock ∧ some k_ ≠ ((.slice Ao10 t877.length co10) : Value).ownBlock ∧ some k_ ≠ (v888 : Value).ownBlock ∧ some k_ ≠ (v10 : Value).ownBlock) (.slice Ao8 t875.length co8) t875) ∧ Aside0 (Kd.R (Kd.int .i64) 3 w' w.heap.size (fun k_ => some k_ ≠ ((.slice Ao8 t875.length co8) : Value).ownBlock ∧ some k_ ≠ ((.slice Ao10 t877.length co10) : Value).ownBlock ∧ some k_ ≠ (v888 : Value).ownBlock ∧ some k_ ≠ (v10 : Value).ownBlock) (.slice Ao9 t876.length co9) t876) ∧ Aside0 (Kd.Q (Kd.int .i64) 3 w' w.heap.size (fun k_ => some k_ ≠ ((.slice Ao8 t875.length co8) : Value).ownBlock ∧ some k_ ≠ ((.slice Ao9 t876.length co9) : Value).ownBlock ∧ some k_ ≠ (v888 : Value).ownBlock ∧ some k_ ≠ (v10 : Value).ownBlock) (.slice Ao10 t877.length co10) t877) ∧ Aside0 (Kd.R (Kd.int .i64) 3 w' w.heap.size (fun k_ => some k_ ≠ ((.slice Ao8 t875.length co8) : Value).ownBlock ∧ some k_ ≠ ((.slice Ao9 t876.length co9) : Value).ownBlock ∧ some k_ ≠ ((.slice Ao10 t877.length co10) : Value).ownBlock ∧ some k_ ≠ (v10 : Value).ownBlock) v888 t887) ∧ Aside0 (Kd.R (Kd.int .i64) 3 w' w.heap.size (fun k_ => some k_ ≠ ((.slice Ao8 t875.length co8) : Value).ownBlock ∧ some k_ ≠ ((.slice Ao9 t876.length co9) : Value).ownBlock ∧ some k_ ≠ ((.slice Ao10 t877.length co10) : Value).ownBlock ∧ some k_ ≠ (v888 : Value).ownBlock) v10 x10_3) ∧ Aside0 (Below w.heap.size w w'))
        case atStart => exact ⟨(y898), (0), (by first | rfl | (simp; done) | (simp [*]; done)), H', ⟨Nat.le_refl _⟩, ⟨by (with_reducible repeat (first | apply Kd.S_alloc | apply Kd.S_drewN | apply Kd.S_drew)); exact Kd.S_mono HO_3.out (fun _ hk => ⟨hk.1.1, ⟨hk.1.2.1, ⟨hk.1.2.2.1, ⟨hk.1.2.2.2, hk.2⟩⟩⟩⟩)⟩, ⟨by (with_reducible repeat (first | apply Kd.Q_alloc | apply Kd.Q_drewN | apply Kd.Q_drew)); exact Kd.Q_mono HO_4.out (fun _ hk => ⟨hk.1.1, ⟨hk.1.2.1, ⟨hk.1.2.2, hk.2⟩⟩⟩)⟩, ⟨by (with_reducible repeat (first | apply Kd.R_alloc | apply Kd.R_drewN | apply Kd.R_drew)); exact Kd.R_mono HO_5.out (fun _ hk => ⟨hk.1.1, ⟨hk.1.2.1, ⟨hk.1.2.2, hk.2⟩⟩⟩)⟩, ⟨by (with_reducible repeat (first | apply Kd.Q_alloc | apply Kd.Q_drewN | apply Kd.Q_drew)); exact Kd.Q_mono HO_6.out (fun _ hk => ⟨hk.1.1, ⟨hk.1.2.1, ⟨hk.1.2.2, hk.2⟩⟩⟩)⟩, ⟨by (with_reducible repeat (first | apply Kd.R_alloc | apply Kd.R_drewN | apply Kd.R_drew)); exact Kd.R_mono HO_8.out (fun _ hk => ⟨hk.1.1, ⟨hk.1.2.1, ⟨hk.1.2.2, hk.2⟩⟩⟩)⟩, ⟨by (with_reducible repeat (first | apply Kd.R_alloc | apply Kd.R_drewN | apply Kd.R_drew)); exact Kd.R_mono HO900.out (fun _ hk => ⟨hk.1.1.1.2, ⟨hk.1.1.2, ⟨hk.1.2, hk.2⟩⟩⟩)⟩, ⟨HB.out⟩⟩
        case round =>
         clear H'
         try clear c1
         try clear c2
         try clear c2b0
         try clear c2b1
         try clear p2
         try clear c3
         try clear c4
         try clear p6
         try clear c11
         try clear c14
         try clear c15
         try clear c15b0
         try clear c15b1
         try clear c15b2
         try clear c16
         try clear c19
         try clear c25
         try clear c31
         try clear c31b0
         try clear c32
         try clear p2
         try clear p6
         obtain ⟨x10_3, x11_3, rfl, HA, HK3, HO_3, HO_4, HO_5, HO_6, HO_8, HO_10, HB⟩ := hrel
         cases gk with
         | zero => exact absurd HA.out (by simp [laws_FnAdmitTasksAll.l1])
         | succ k3 =>
          have H := HA.out
          clear HA
          simp only [laws_FnAdmitTasksAll.l1] at H
          by_cases c34 : x11_3 < (t874.length : Int)
          ·rw [if_pos c34] at H
           have c34b0 : decide (x11_3 < (t874.length : Int)) = true := decide_eq_true c34
           clear c34
           replace H := Option.bind_eq_some_iff.mp H
           obtain ⟨t901, A350, H⟩ := H
           replace H : (if t901 = true then (if x10_3.length < 17592186044416 then (laws_FnAdmitTasksAll.l1 k3 t874 t875 t876 t877 t887 x9_2 (x10_3 ++ [x11_3]) (wrap64 (x11_3 + 1))) else (none)) else ((laws_isIn.f k3 t887 x11_3).bind fun t905 => (if t905 = true then (if x10_3.length < 17592186044416 then (laws_FnAdmitTasksAll.l1 k3 t874 t875 t876 t877 t887 x9_2 (x10_3 ++ [x11_3]) (wrap64 (x11_3 + 1))) else (none)) else (if 0 ≤ x9_2 then (if x9_2 < (t877.length : Int) then (if (rd t877 x9_2) = x11_3 then (if x10_3.length < 17592186044416 then (laws_FnAdmitTasksAll.l1 k3 t874 t875 t876 t877 t887 x9_2 (x10_3 ++ [x11_3]) (wrap64 (x11_3 + 1))) else (none)) else (laws_FnAdmitTasksAll.l1 k3 t874 t875 t876 t877 t887 x9_2 x10_3 (wrap64 (x11_3 + 1)))) else (none)) else (none))))) = some r := H
           have A35 := Aside0.mk A350
           clear A350
           by_cases c36 : t901 = true
           ·subst c36
            have H1 : (if x10_3.length < 17592186044416 then (laws_FnAdmitTasksAll.l1 k3 t874 t875 t876 t877 t887 x9_2 (x10_3 ++ [x11_3]) (wrap64 (x11_3 + 1))) else (none)) = some r := by rw [if_pos rfl] at H; exact H
            clear H
            have H := H1
            clear H1
            by_cases c37 : x10_3.length < 17592186044416
            ·rw [if_pos c37] at H
             have LMc37 := Aside0.mk c37
             clear c37
             obtain ⟨y902, hy902⟩ : ∃ y_ : List Int, y_ = (x10_3 ++ [x11_3]) := ⟨_, rfl⟩
             replace H : (laws_FnAdmitTasksAll.l1 k3 t874 t875 t876 t877 t887 x9_2 y902 (wrap64 (x11_3 + 1))) = some r := by first | (rw [hy902]; with_reducible exact H) | (have H2_ := (Option.bind_some _ _).symm.trans H; rw [hy902]; with_reducible exact H2_) | (have H2_ := (Option.bind_some _ _).symm.trans H; with_reducible exact H2_) | with_reducible exact H | (rw [hy902]; exact H) | exact H
             have Ny902 := Aside0.mk hy902
             clear hy902
             have H' := Aside0.mk H
             clear H
             go_wp2_with (first | ((with_reducible refine gate_callee (f := 35) rfl ?_); refine goesL_ (some 75) rfl rfl Tryd.func35 (by kernel_rfl) rfl #[.slice Ao9 t876.length co9, .int .i64 x11_3] rfl (by (try simp only [List.map_toArray, List.map_cons, List.map_nil]); first | done | rfl | (simp only [List.length_drop, List.length_take]; rfl)) ?_; (with_reducible refine (laws_isIn.calls k3 _ _ t876 x11_3 true _ ?side1 ?side2 A35.out).mono ?_); (case side1 => repeat (first | exact (Kd.R_reads' HO_5.out).2.2 | (with_reducible refine Kd.C_alloc ?_ _) | (with_reducible refine Kd.C_drewN ?_ _) | (with_reducible refine Kd.C_drew ?_))); (case side2 => exact (Kd.R_reads' HO_5.out).2.1); rintro e w' ⟨rfl, ⟨nd, rfl⟩⟩; refine ⟨_, rfl, ?_⟩) | ((with_reducible refine gate_builtin (b := .append) (xs := #[.tmp 89, .tmp 91]) rfl ?_); (try (refine gate_guard (by rfl) ?_; dsimp only)); at_builtin; refine Kd.R_append (Kd.int .i64) (w0 := w) w.heap.size rfl (.tmp 89) (.tmp 91) 23 3 (.int .i64 0) 8 rfl Tryd.underlying23 info3 rfl (by decide) (by omega) u10 x10_3 x11_3 [.int .i64 x11_3] (fun k_ => some k_ ≠ (.slice Ao8 t875.length co8 : Value).ownBlock ∧ some k_ ≠ (.slice Ao9 t876.length co9 : Value).ownBlock ∧ some k_ ≠ (.slice Ao10 t877.length co10 : Value).ownBlock ∧ some k_ ≠ (v888 : Value).ownBlock) (fun _ => False) rfl rfl ?aP (fun _ hk => hk.elim) ?aF ?aO ?aB ?aS ?aL ?_; (case aP => exact rfl); (case aB => exact (by repeat (first | (with_reducible first | exact HB.out | apply below_alloc | apply pw_below_drewN | apply below_drew1) | exact HB.out))); (case aF => exact (fun k_ hk => ⟨Kd.fresh' (Kd.Q_lt (by (with_reducible repeat (first | apply Kd.Q_alloc | apply Kd.Q_drewN | apply Kd.Q_drew)); exact HO_4.out)) k_ hk, Kd.fresh' (Kd.R_lt (by (with_reducible repeat (first | apply Kd.R_alloc | apply Kd.R_drewN | apply Kd.R_drew)); exact HO_5.out)) k_ hk, Kd.fresh' (Kd.Q_lt (by (with_reducible repeat (first | apply Kd.Q_alloc | apply Kd.Q_drewN | apply Kd.Q_drew)); exact HO_6.out)) k_ hk, Kd.fresh' (Kd.R_lt (by (with_reducible repeat (first | apply Kd.R_alloc | apply Kd.R_drewN | apply Kd.R_drew)); exact HO_8.out)) k_ hk⟩)); (case aO => exact (by (with_reducible repeat (first | apply Kd.R_alloc | apply Kd.R_drewN | apply Kd.R_drew)); exact HO_10.out)); (case aS => exact (below_size (by repeat (first | (with_reducible first | exact HB.out | apply below_alloc | apply pw_below_drewN | apply below_drew1) | exact HB.out)))); (case aL => have := LMc37.out; omega); intro v903 w38 ho hb hg hat; rw [← Ny902.out] at ho; have n0_ := Aside0.mk (Kd.S_after (ok := (fun k_ => some k_ ≠ (.slice Ao8 t875.length co8 : Value).ownBlock ∧ some k_ ≠ (.slice Ao9 t876.length co9 : Value).ownBlock ∧ some k_ ≠ (.slice Ao10 t877.length co10 : Value).ownBlock ∧ some k_ ≠ (v888 : Value).ownBlock)) (by (with_reducible repeat (first | apply Kd.S_alloc | apply Kd.S_drewN | apply Kd.S_drew)); exact Kd.S_mono HO_3.out (fun _ hk => ⟨⟨hk.1, ⟨hk.2.1, ⟨hk.2.2.1, hk.2.2.2.1⟩⟩⟩, hk.2.2.2.2⟩)) hg hat); have n1_ := Aside0.mk (Kd.Q_after (ok := (fun k_ => some k_ ≠ (.slice Ao9 t876.length co9 : Value).ownBlock ∧ some k_ ≠ (.slice Ao10 t877.length co10 : Value).ownBlock ∧ some k_ ≠ (v888 : Value).ownBlock)) (by (with_reducible repeat (first | apply Kd.Q_alloc | apply Kd.Q_drewN | apply Kd.Q_drew)); exact Kd.Q_mono HO_4.out (fun _ hk => ⟨⟨hk.1, ⟨hk.2.1, hk.2.2.1⟩⟩, hk.2.2.2⟩)) hg hat); have n2_ := Aside0.mk (Kd.R_after (ok := (fun k_ => some k_ ≠ (.slice Ao8 t875.length co8 : Value).ownBlock ∧ some k_ ≠ (.slice Ao10 t877.length co10 : Value).ownBlock ∧ some k_ ≠ (v888 : Value).ownBlock)) (by (with_reducible repeat (first | apply Kd.R_alloc | apply Kd.R_drewN | apply Kd.R_drew)); exact Kd.R_mono HO_5.out (fun _ hk => ⟨⟨hk.1, ⟨hk.2.1, hk.2.2.1⟩⟩, hk.2.2.2⟩)) hg hat); have n3_ := Aside0.mk (Kd.Q_after (ok := (fun k_ => some k_ ≠ (.slice Ao8 t875.length co8 : Value).ownBlock ∧ some k_ ≠ (.slice Ao9 t876.length co9 : Value).ownBlock ∧ some k_ ≠ (v888 : Value).ownBlock)) (by (with_reducible repeat (first | apply Kd.Q_alloc | apply Kd.Q_drewN | apply Kd.Q_drew)); exact Kd.Q_mono HO_6.out (fun _ hk => ⟨⟨hk.1, ⟨hk.2.1, hk.2.2.1⟩⟩, hk.2.2.2⟩)) hg hat); have n4_ := Aside0.mk (Kd.R_after (ok := (fun k_ => some k_ ≠ (.slice Ao8 t875.length co8 : Value).ownBlock ∧ some k_ ≠ (.slice Ao9 t876.length co9 : Value).ownBlock ∧ some k_ ≠ (.slice Ao10 t877.length co10 : Value).ownBlock)) (by (with_reducible repeat (first | apply Kd.R_alloc | apply Kd.R_drewN | apply Kd.R_drew)); exact Kd.R_mono HO_8.out (fun _ hk => ⟨⟨hk.1, ⟨hk.2.1, hk.2.2.1⟩⟩, hk.2.2.2⟩)) hg hat); have n5_ := Aside0.mk (hb); have n6_ := Aside0.mk (ho); clear HO_3; clear HO_4; clear HO_5; clear HO_6; clear HO_8; clear HB; clear HO_10; have HO_3 := n0_; have HO_4 := n1_; have HO_5 := n2_; have HO_6 := n3_; have HO_8 := n4_; have HB := n5_; have HO904 := n6_; clear n0_ n1_ n2_ n3_ n4_ n5_ n6_; clear ho hb hg hat))
             go_roundg k3
             case measure => have := HJ4.out; have := HK2.out; have := HK3.out; omega
             case rel => exact ⟨(y902), (wrap64 (x11_3 + 1)), (by first | rfl | (simp; done) | (simp [*]; done)), H', ⟨by have := HJ4.out; have := HK2.out; have := HK3.out; omega⟩, ⟨by (with_reducible repeat (first | apply Kd.S_alloc | apply Kd.S_drewN | apply Kd.S_drew)); exact Kd.S_mono HO_3.out (fun _ hk => ⟨hk.1.1, ⟨hk.1.2.1, ⟨hk.1.2.2.1, ⟨hk.1.2.2.2, hk.2⟩⟩⟩⟩)⟩, ⟨by (with_reducible repeat (first | apply Kd.Q_alloc | apply Kd.Q_drewN | apply Kd.Q_drew)); exact Kd.Q_mono HO_4.out (fun _ hk => ⟨hk.1.1, ⟨hk.1.2.1, ⟨hk.1.2.2, hk.2⟩⟩⟩)⟩, ⟨by (with_reducible repeat (first | apply Kd.R_alloc | apply Kd.R_drewN | apply Kd.R_drew)); exact Kd.R_mono HO_5.out (fun _ hk => ⟨hk.1.1, ⟨hk.1.2.1, ⟨hk.1.2.2, hk.2⟩⟩⟩)⟩, ⟨by (with_reducible repeat (first | apply Kd.Q_alloc | apply Kd.Q_drewN | apply Kd.Q_drew)); exact Kd.Q_mono HO_6.out (fun _ hk => ⟨hk.1.1, ⟨hk.1.2.1, ⟨hk.1.2.2, hk.2⟩⟩⟩)⟩, ⟨by (with_reducible repeat (first | apply Kd.R_alloc | apply Kd.R_drewN | apply Kd.R_drew)); exact Kd.R_mono HO_8.out (fun _ hk => ⟨hk.1.1, ⟨hk.1.2.1, ⟨hk.1.2.2, hk.2⟩⟩⟩)⟩, ⟨HO904.out⟩, ⟨HB.out⟩⟩
            ·rw [if_neg c37] at H
             exact absurd H (by simp)
           ·replace c36 := Bool.eq_false_iff.mpr c36
            subst c36
            have H1 : ((laws_isIn.f k3 t887 x11_3).bind fun t905 => (if t905 = true then (if x10_3.length < 17592186044416 then (laws_FnAdmitTasksAll.l1 k3 t874 t875 t876 t877 t887 x9_2 (x10_3 ++ [x11_3]) (wrap64 (x11_3 + 1))) else (none)) else (if 0 ≤ x9_2 then (if x9_2 < (t877.length : Int) then (if (rd t877 x9_2) = x11_3 then (if x10_3.length < 17592186044416 then (laws_FnAdmitTasksAll.l1 k3 t874 t875 t876 t877 t887 x9_2 (x10_3 ++ [x11_3]) (wrap64 (x11_3 + 1))) else (none)) else (laws_FnAdmitTasksAll.l1 k3 t874 t875 t876 t877 t887 x9_2 x10_3 (wrap64 (x11_3 + 1)))) else (none)) else (none)))) = some r := by rw [if_neg (show ¬ (false = true) by decide)] at H; exact H
            clear H
            have H := H1
            clear H1
            replace H := Option.bind_eq_some_iff.mp H
            obtain ⟨t905, A390, H⟩ := H
            replace H : (if t905 = true then (if x10_3.length < 17592186044416 then (laws_FnAdmitTasksAll.l1 k3 t874 t875 t876 t877 t887 x9_2 (x10_3 ++ [x11_3]) (wrap64 (x11_3 + 1))) else (none)) else (if 0 ≤ x9_2 then (if x9_2 < (t877.length : Int) then (if (rd t877 x9_2) = x11_3 then (if x10_3.length < 17592186044416 then (laws_FnAdmitTasksAll.l1 k3 t874 t875 t876 t877 t887 x9_2 (x10_3 ++ [x11_3]) (wrap64 (x11_3 + 1))) else (none)) else (laws_FnAdmitTasksAll.l1 k3 t874 t875 t876 t877 t887 x9_2 x10_3 (wrap64 (x11_3 + 1)))) else (none)) else (none))) = some r := H
            have A39 := Aside0.mk A390
            clear A390
            by_cases c40 : t905 = true
            ·subst c40
             have H1 : (if x10_3.length < 17592186044416 then (laws_FnAdmitTasksAll.l1 k3 t874 t875 t876 t877 t887 x9_2 (x10_3 ++ [x11_3]) (wrap64 (x11_3 + 1))) else (none)) = some r := by rw [if_pos rfl] at H; exact H
             clear H
             have H := H1
             clear H1
             by_cases c41 : x10_3.length < 17592186044416
             ·rw [if_pos c41] at H
              have LMc41 := Aside0.mk c41
              clear c41
              obtain ⟨y906, hy906⟩ : ∃ y_ : List Int, y_ = (x10_3 ++ [x11_3]) := ⟨_, rfl⟩
              replace H : (laws_FnAdmitTasksAll.l1 k3 t874 t875 t876 t877 t887 x9_2 y906 (wrap64 (x11_3 + 1))) = some r := by first | (rw [hy906]; with_reducible exact H) | (have H2_ := (Option.bind_some _ _).symm.trans H; rw [hy906]; with_reducible exact H2_) | (have H2_ := (Option.bind_some _ _).symm.trans H; with_reducible exact H2_) | with_reducible exact H | (rw [hy906]; exact H) | exact H
              have Ny906 := Aside0.mk hy906
              clear hy906
              have H' := Aside0.mk H
              clear H
              go_wp2_with (first | ((with_reducible refine gate_callee (f := 35) rfl ?_); refine goesL_ (some 75) rfl rfl Tryd.func35 (by kernel_rfl) rfl #[.slice Ao9 t876.length co9, .int .i64 x11_3] rfl (by (try simp only [List.map_toArray, List.map_cons, List.map_nil]); first | done | rfl | (simp only [List.length_drop, List.length_take]; rfl)) ?_; (with_reducible refine (laws_isIn.calls k3 _ _ t876 x11_3 false _ ?side1 ?side2 A35.out).mono ?_); (case side1 => repeat (first | exact (Kd.R_reads' HO_5.out).2.2 | (with_reducible refine Kd.C_alloc ?_ _) | (with_reducible refine Kd.C_drewN ?_ _) | (with_reducible refine Kd.C_drew ?_))); (case side2 => exact (Kd.R_reads' HO_5.out).2.1); rintro e w' ⟨rfl, ⟨nd, rfl⟩⟩; refine ⟨_, rfl, ?_⟩; obtain ⟨Ao42, co42, eo42⟩ := Kd.R_slice HO_8.out; subst eo42) | (go_at_call 35; (with_reducible refine (laws_isIn.calls k3 _ _ t887 x11_3 true _ ?side1 ?side2 A39.out).mono ?_); (case side1 => repeat (first | exact (Kd.R_reads' HO_8.out).2.2 | (with_reducible refine Kd.C_alloc ?_ _) | (with_reducible refine Kd.C_drewN ?_ _) | (with_reducible refine Kd.C_drew ?_))); (case side2 => exact (Kd.R_reads' HO_8.out).2.1); rintro e w' ⟨rfl, ⟨nd, rfl⟩⟩) | ((with_reducible refine gate_builtin (b := .append) (xs := #[.tmp 89, .tmp 91]) rfl ?_); (try (refine gate_guard (by rfl) ?_; dsimp only)); at_builtin; refine Kd.R_append (Kd.int .i64) (w0 := w) w.heap.size rfl (.tmp 89) (.tmp 91) 23 3 (.int .i64 0) 8 rfl Tryd.underlying23 info3 rfl (by decide) (by omega) u10 x10_3 x11_3 [.int .i64 x11_3] (fun k_ => some k_ ≠ (.slice Ao8 t875.length co8 : Value).ownBlock ∧ some k_ ≠ (.slice Ao9 t876.length co9 : Value).ownBlock ∧ some k_ ≠ (.slice Ao10 t877.length co10 : Value).ownBlock ∧ some k_ ≠ (.slice Ao42 t887.length co42 : Value).ownBlock) (fun _ => False) rfl rfl ?aP (fun _ hk => hk.elim) ?aF ?aO ?aB ?aS ?aL ?_; (case aP => exact rfl); (case aB => exact (by repeat (first | (with_reducible first | exact HB.out | apply below_alloc | apply pw_below_drewN | apply below_drew1) | exact HB.out))); (case aF => exact (fun k_ hk => ⟨Kd.fresh' (Kd.Q_lt (by (with_reducible repeat (first | apply Kd.Q_alloc | apply Kd.Q_drewN | apply Kd.Q_drew)); exact HO_4.out)) k_ hk, Kd.fresh' (Kd.R_lt (by (with_reducible repeat (first | apply Kd.R_alloc | apply Kd.R_drewN | apply Kd.R_drew)); exact HO_5.out)) k_ hk, Kd.fresh' (Kd.Q_lt (by (with_reducible repeat (first | apply Kd.Q_alloc | apply Kd.Q_drewN | apply Kd.Q_drew)); exact HO_6.out)) k_ hk, Kd.fresh' (Kd.R_lt (by (with_reducible repeat (first | apply Kd.R_alloc | apply Kd.R_drewN | apply Kd.R_drew)); exact HO_8.out)) k_ hk⟩)); (case aO => exact (by (with_reducible repeat (first | apply Kd.R_alloc | apply Kd.R_drewN | apply Kd.R_drew)); exact HO_10.out)); (case aS => exact (below_size (by repeat (first | (with_reducible first | exact HB.out | apply below_alloc | apply pw_below_drewN | apply below_drew1) | exact HB.out)))); (case aL => have := LMc41.out; omega); intro v907 w43 ho hb hg hat; rw [← Ny906.out] at ho; have n0_ := Aside0.mk (Kd.S_after (ok := (fun k_ => some k_ ≠ (.slice Ao8 t875.length co8 : Value).ownBlock ∧ some k_ ≠ (.slice Ao9 t876.length co9 : Value).ownBlock ∧ some k_ ≠ (.slice Ao10 t877.length co10 : Value).ownBlock ∧ some k_ ≠ (.slice Ao42 t887.length co42 : Value).ownBlock)) (by (with_reducible repeat (first | apply Kd.S_alloc | apply Kd.S_drewN | apply Kd.S_drew)); exact Kd.S_mono HO_3.out (fun _ hk => ⟨⟨hk.1, ⟨hk.2.1, ⟨hk.2.2.1, hk.2.2.2.1⟩⟩⟩, hk.2.2.2.2⟩)) hg hat); have n1_ := Aside0.mk (Kd.Q_after (ok := (fun k_ => some k_ ≠ (.slice Ao9 t876.length co9 : Value).ownBlock ∧ some k_ ≠ (.slice Ao10 t877.length co10 : Value).ownBlock ∧ some k_ ≠ (.slice Ao42 t887.length co42 : Value).ownBlock)) (by (with_reducible repeat (first | apply Kd.Q_alloc | apply Kd.Q_drewN | apply Kd.Q_drew)); exact Kd.Q_mono HO_4.out (fun _ hk => ⟨⟨hk.1, ⟨hk.2.1, hk.2.2.1⟩⟩, hk.2.2.2⟩)) hg hat); have n2_ := Aside0.mk (Kd.R_after (ok := (fun k_ => some k_ ≠ (.slice Ao8 t875.length co8 : Value).ownBlock ∧ some k_ ≠ (.slice Ao10 t877.length co10 : Value).ownBlock ∧ some k_ ≠ (.slice Ao42 t887.length co42 : Value).ownBlock)) (by (with_reducible repeat (first | apply Kd.R_alloc | apply Kd.R_drewN | apply Kd.R_drew)); exact Kd.R_mono HO_5.out (fun _ hk => ⟨⟨hk.1, ⟨hk.2.1, hk.2.2.1⟩⟩, hk.2.2.2⟩)) hg hat); have n3_ := Aside0.mk (Kd.Q_after (ok := (fun k_ => some k_ ≠ (.slice Ao8 t875.length co8 : Value).ownBlock ∧ some k_ ≠ (.slice Ao9 t876.length co9 : Value).ownBlock ∧ some k_ ≠ (.slice Ao42 t887.length co42 : Value).ownBlock)) (by (with_reducible repeat (first | apply Kd.Q_alloc | apply Kd.Q_drewN | apply Kd.Q_drew)); exact Kd.Q_mono HO_6.out (fun _ hk => ⟨⟨hk.1, ⟨hk.2.1, hk.2.2.1⟩⟩, hk.2.2.2⟩)) hg hat); have n4_ := Aside0.mk (Kd.R_after (ok := (fun k_ => some k_ ≠ (.slice Ao8 t875.length co8 : Value).ownBlock ∧ some k_ ≠ (.slice Ao9 t876.length co9 : Value).ownBlock ∧ some k_ ≠ (.slice Ao10 t877.length co10 : Value).ownBlock)) (by (with_reducible repeat (first | apply Kd.R_alloc | apply Kd.R_drewN | apply Kd.R_drew)); exact Kd.R_mono HO_8.out (fun _ hk => ⟨⟨hk.1, ⟨hk.2.1, hk.2.2.1⟩⟩, hk.2.2.2⟩)) hg hat); have n5_ := Aside0.mk (hb); have n6_ := Aside0.mk (ho); clear HO_3; clear HO_4; clear HO_5; clear HO_6; clear HO_8; clear HB; clear HO_10; have HO_3 := n0_; have HO_4 := n1_; have HO_5 := n2_; have HO_6 := n3_; have HO_8 := n4_; have HB := n5_; have HO908 := n6_; clear n0_ n1_ n2_ n3_ n4_ n5_ n6_; clear ho hb hg hat))
              go_roundg k3
              case measure => have := HJ4.out; have := HK2.out; have := HK3.out; omega
              case rel => exact ⟨(y906), (wrap64 (x11_3 + 1)), (by first | rfl | (simp; done) | (simp [*]; done)), H', ⟨by have := HJ4.out; have := HK2.out; have := HK3.out; omega⟩, ⟨by (with_reducible repeat (first | apply Kd.S_alloc | apply Kd.S_drewN | apply Kd.S_drew)); exact Kd.S_mono HO_3.out (fun _ hk => ⟨hk.1.1, ⟨hk.1.2.1, ⟨hk.1.2.2.1, ⟨hk.1.2.2.2, hk.2⟩⟩⟩⟩)⟩, ⟨by (with_reducible repeat (first | apply Kd.Q_alloc | apply Kd.Q_drewN | apply Kd.Q_drew)); exact Kd.Q_mono HO_4.out (fun _ hk => ⟨hk.1.1, ⟨hk.1.2.1, ⟨hk.1.2.2, hk.2⟩⟩⟩)⟩, ⟨by (with_reducible repeat (first | apply Kd.R_alloc | apply Kd.R_drewN | apply Kd.R_drew)); exact Kd.R_mono HO_5.out (fun _ hk => ⟨hk.1.1, ⟨hk.1.2.1, ⟨hk.1.2.2, hk.2⟩⟩⟩)⟩, ⟨by (with_reducible repeat (first | apply Kd.Q_alloc | apply Kd.Q_drewN | apply Kd.Q_drew)); exact Kd.Q_mono HO_6.out (fun _ hk => ⟨hk.1.1, ⟨hk.1.2.1, ⟨hk.1.2.2, hk.2⟩⟩⟩)⟩, ⟨by (with_reducible repeat (first | apply Kd.R_alloc | apply Kd.R_drewN | apply Kd.R_drew)); exact Kd.R_mono HO_8.out (fun _ hk => ⟨hk.1.1, ⟨hk.1.2.1, ⟨hk.1.2.2, hk.2⟩⟩⟩)⟩, ⟨HO908.out⟩, ⟨HB.out⟩⟩
             ·rw [if_neg c41] at H
              exact absurd H (by simp)
            ·replace c40 := Bool.eq_false_iff.mpr c40
             subst c40
             have H1 : (if 0 ≤ x9_2 then (if x9_2 < (t877.length : Int) then (if (rd t877 x9_2) = x11_3 then (if x10_3.length < 17592186044416 then (laws_FnAdmitTasksAll.l1 k3 t874 t875 t876 t877 t887 x9_2 (x10_3 ++ [x11_3]) (wrap64 (x11_3 + 1))) else (none)) else (laws_FnAdmitTasksAll.l1 k3 t874 t875 t876 t877 t887 x9_2 x10_3 (wrap64 (x11_3 + 1)))) else (none)) else (none)) = some r := by rw [if_neg (show ¬ (false = true) by decide)] at H; exact H
             clear H
             have H := H1
             clear H1
             by_cases c44 : 0 ≤ x9_2
             ·rw [if_pos c44] at H
              have c44b0 : decide (0 ≤ x9_2) = true := decide_eq_true c44
              clear c44
              by_cases c45 : x9_2 < (t877.length : Int)
              ·rw [if_pos c45] at H
               have c45b0 : decide (x9_2 < (t877.length : Int)) = true := decide_eq_true c45
               clear c45
               by_cases c46 : (rd t877 x9_2) = x11_3
               ·rw [if_pos c46] at H
                have c46b0 : ((rd t877 x9_2) == x11_3) = true := beq_iff_eq.mpr c46
                have c46b1 : ((rd t877 x9_2) != x11_3) = false := bne_eq_false_iff_eq.mpr c46
                clear c46
                by_cases c47 : x10_3.length < 17592186044416
                ·rw [if_pos c47] at H
                 have LMc47 := Aside0.mk c47
                 clear c47
                 obtain ⟨y910, hy910⟩ : ∃ y_ : List Int, y_ = (x10_3 ++ [x11_3]) := ⟨_, rfl⟩
                 replace H : (laws_FnAdmitTasksAll.l1 k3 t874 t875 t876 t877 t887 x9_2 y910 (wrap64 (x11_3 + 1))) = some r := by first | (rw [hy910]; with_reducible exact H) | (have H2_ := (Option.bind_some _ _).symm.trans H; rw [hy910]; with_reducible exact H2_) | (have H2_ := (Option.bind_some _ _).symm.trans H; with_reducible exact H2_) | with_reducible exact H | (rw [hy910]; exact H) | exact H
                 have Ny910 := Aside0.mk hy910
                 clear hy910
                 have H' := Aside0.mk H
                 clear H
                 go_wp2_with (first | ((with_reducible refine gate_callee (f := 35) rfl ?_); refine goesL_ (some 75) rfl rfl Tryd.func35 (by kernel_rfl) rfl #[.slice Ao9 t876.length co9, .int .i64 x11_3] rfl (by (try simp only [List.map_toArray, List.map_cons, List.map_nil]); first | done | rfl | (simp only [List.length_drop, List.length_take]; rfl)) ?_; (with_reducible refine (laws_isIn.calls k3 _ _ t876 x11_3 false _ ?side1 ?side2 A35.out).mono ?_); (case side1 => repeat (first | exact (Kd.R_reads' HO_5.out).2.2 | (with_reducible refine Kd.C_alloc ?_ _) | (with_reducible refine Kd.C_drewN ?_ _) | (with_reducible refine Kd.C_drew ?_))); (case side2 => exact (Kd.R_reads' HO_5.out).2.1); rintro e w' ⟨rfl, ⟨nd, rfl⟩⟩; refine ⟨_, rfl, ?_⟩; obtain ⟨Ao48, co48, eo48⟩ := Kd.R_slice HO_8.out; subst eo48) | (go_at_call 35; (with_reducible refine (laws_isIn.calls k3 _ _ t887 x11_3 false _ ?side1 ?side2 A39.out).mono ?_); (case side1 => repeat (first | exact (Kd.R_reads' HO_8.out).2.2 | (with_reducible refine Kd.C_alloc ?_ _) | (with_reducible refine Kd.C_drewN ?_ _) | (with_reducible refine Kd.C_drew ?_))); (case side2 => exact (Kd.R_reads' HO_8.out).2.1); rintro e w' ⟨rfl, ⟨nd, rfl⟩⟩; have p909 : 0 ≤ (x9_2 : Int) := of_decide_eq_true (by first | (with_reducible assumption) | assumption); have q909 : x9_2 < (t877.length : Int) := of_decide_eq_true (by first | (with_reducible assumption) | assumption); obtain ⟨ad909, e909, hx909_0⟩ := Kd.at_int (Kd.Q_reads' HO_6.out).2.2 x9_2 p909 q909; cases e909; replace p909 := eq_true p909; replace q909 := eq_true q909) | ((with_reducible refine gate_builtin (b := .append) (xs := #[.tmp 89, .tmp 91]) rfl ?_); (try (refine gate_guard (by rfl) ?_; dsimp only)); at_builtin; refine Kd.R_append (Kd.int .i64) (w0 := w) w.heap.size rfl (.tmp 89) (.tmp 91) 23 3 (.int .i64 0) 8 rfl Tryd.underlying23 info3 rfl (by decide) (by omega) u10 x10_3 x11_3 [.int .i64 x11_3] (fun k_ => some k_ ≠ (.slice Ao8 t875.length co8 : Value).ownBlock ∧ some k_ ≠ (.slice Ao9 t876.length co9 : Value).ownBlock ∧ some k_ ≠ (.slice (some ad909) t877.length co10 : Value).ownBlock ∧ some k_ ≠ (.slice Ao48 t887.length co48 : Value).ownBlock) (fun _ => False) rfl rfl ?aP (fun _ hk => hk.elim) ?aF ?aO ?aB ?aS ?aL ?_; (case aP => exact rfl); (case aB => exact (by repeat (first | (with_reducible first | exact HB.out | apply below_alloc | apply pw_below_drewN | apply below_drew1) | exact HB.out))); (case aF => exact (fun k_ hk => ⟨Kd.fresh' (Kd.Q_lt (by (with_reducible repeat (first | apply Kd.Q_alloc | apply Kd.Q_drewN | apply Kd.Q_drew)); exact HO_4.out)) k_ hk, Kd.fresh' (Kd.R_lt (by (with_reducible repeat (first | apply Kd.R_alloc | apply Kd.R_drewN | apply Kd.R_drew)); exact HO_5.out)) k_ hk, Kd.fresh' (Kd.Q_lt (by (with_reducible repeat (first | apply Kd.Q_alloc | apply Kd.Q_drewN | apply Kd.Q_drew)); exact HO_6.out)) k_ hk, Kd.fresh' (Kd.R_lt (by (with_reducible repeat (first | apply Kd.R_alloc | apply Kd.R_drewN | apply Kd.R_drew)); exact HO_8.out)) k_ hk⟩)); (case aO => exact (by (with_reducible repeat (first | apply Kd.R_alloc | apply Kd.R_drewN | apply Kd.R_drew)); exact HO_10.out)); (case aS => exact (below_size (by repeat (first | (with_reducible first | exact HB.out | apply below_alloc | apply pw_below_drewN | apply below_drew1) | exact HB.out)))); (case aL => have := LMc47.out; omega); intro v911 w49 ho hb hg hat; rw [← Ny910.out] at ho; have n0_ := Aside0.mk (Kd.S_after (ok := (fun k_ => some k_ ≠ (.slice Ao8 t875.length co8 : Value).ownBlock ∧ some k_ ≠ (.slice Ao9 t876.length co9 : Value).ownBlock ∧ some k_ ≠ (.slice (some ad909) t877.length co10 : Value).ownBlock ∧ some k_ ≠ (.slice Ao48 t887.length co48 : Value).ownBlock)) (by (with_reducible repeat (first | apply Kd.S_alloc | apply Kd.S_drewN | apply Kd.S_drew)); exact Kd.S_mono HO_3.out (fun _ hk => ⟨⟨hk.1, ⟨hk.2.1, ⟨hk.2.2.1, hk.2.2.2.1⟩⟩⟩, hk.2.2.2.2⟩)) hg hat); have n1_ := Aside0.mk (Kd.Q_after (ok := (fun k_ => some k_ ≠ (.slice Ao9 t876.length co9 : Value).ownBlock ∧ some k_ ≠ (.slice (some ad909) t877.length co10 : Value).ownBlock ∧ some k_ ≠ (.slice Ao48 t887.length co48 : Value).ownBlock)) (by (with_reducible repeat (first | apply Kd.Q_alloc | apply Kd.Q_drewN | apply Kd.Q_drew)); exact Kd.Q_mono HO_4.out (fun _ hk => ⟨⟨hk.1, ⟨hk.2.1, hk.2.2.1⟩⟩, hk.2.2.2⟩)) hg hat); have n2_ := Aside0.mk (Kd.R_after (ok := (fun k_ => some k_ ≠ (.slice Ao8 t875.length co8 : Value).ownBlock ∧ some k_ ≠ (.slice (some ad909) t877.length co10 : Value).ownBlock ∧ some k_ ≠ (.slice Ao48 t887.length co48 : Value).ownBlock)) (by (with_reducible repeat (first | apply Kd.R_alloc | apply Kd.R_drewN | apply Kd.R_drew)); exact Kd.R_mono HO_5.out (fun _ hk => ⟨⟨hk.1, ⟨hk.2.1, hk.2.2.1⟩⟩, hk.2.2.2⟩)) hg hat); have n3_ := Aside0.mk (Kd.Q_after (ok := (fun k_ => some k_ ≠ (.slice Ao8 t875.length co8 : Value).ownBlock ∧ some k_ ≠ (.slice Ao9 t876.length co9 : Value).ownBlock ∧ some k_ ≠ (.slice Ao48 t887.length co48 : Value).ownBlock)) (by (with_reducible repeat (first | apply Kd.Q_alloc | apply Kd.Q_drewN | apply Kd.Q_drew)); exact Kd.Q_mono HO_6.out (fun _ hk => ⟨⟨hk.1, ⟨hk.2.1, hk.2.2.1⟩⟩, hk.2.2.2⟩)) hg hat); have n4_ := Aside0.mk (Kd.R_after (ok := (fun k_ => some k_ ≠ (.slice Ao8 t875.length co8 : Value).ownBlock ∧ some k_ ≠ (.slice Ao9 t876.length co9 : Value).ownBlock ∧ some k_ ≠ (.slice (some ad909) t877.length co10 : Value).ownBlock)) (by (with_reducible repeat (first | apply Kd.R_alloc | apply Kd.R_drewN | apply Kd.R_drew)); exact Kd.R_mono HO_8.out (fun _ hk => ⟨⟨hk.1, ⟨hk.2.1, hk.2.2.1⟩⟩, hk.2.2.2⟩)) hg hat); have n5_ := Aside0.mk (hb); have n6_ := Aside0.mk (ho); clear HO_3; clear HO_4; clear HO_5; clear HO_6; clear HO_8; clear HB; clear HO_10; have HO_3 := n0_; have HO_4 := n1_; have HO_5 := n2_; have HO_6 := n3_; have HO_8 := n4_; have HB := n5_; have HO912 := n6_; clear n0_ n1_ n2_ n3_ n4_ n5_ n6_; clear ho hb hg hat))
                 go_roundg k3
                 case measure => have := HJ4.out; have := HK2.out; have := HK3.out; omega
                 case rel => exact ⟨(y910), (wrap64 (x11_3 + 1)), (by first | rfl | (simp; done) | (simp [*]; done)), H', ⟨by have := HJ4.out; have := HK2.out; have := HK3.out; omega⟩, ⟨by (with_reducible repeat (first | apply Kd.S_alloc | apply Kd.S_drewN | apply Kd.S_drew)); exact Kd.S_mono HO_3.out (fun _ hk => ⟨hk.1.1, ⟨hk.1.2.1, ⟨hk.1.2.2.1, ⟨hk.1.2.2.2, hk.2⟩⟩⟩⟩)⟩, ⟨by (with_reducible repeat (first | apply Kd.Q_alloc | apply Kd.Q_drewN | apply Kd.Q_drew)); exact Kd.Q_mono HO_4.out (fun _ hk => ⟨hk.1.1, ⟨hk.1.2.1, ⟨hk.1.2.2, hk.2⟩⟩⟩)⟩, ⟨by (with_reducible repeat (first | apply Kd.R_alloc | apply Kd.R_drewN | apply Kd.R_drew)); exact Kd.R_mono HO_5.out (fun _ hk => ⟨hk.1.1, ⟨hk.1.2.1, ⟨hk.1.2.2, hk.2⟩⟩⟩)⟩, ⟨by (with_reducible repeat (first | apply Kd.Q_alloc | apply Kd.Q_drewN | apply Kd.Q_drew)); exact Kd.Q_mono HO_6.out (fun _ hk => ⟨hk.1.1, ⟨hk.1.2.1, ⟨hk.1.2.2, hk.2⟩⟩⟩)⟩, ⟨by (with_reducible repeat (first | apply Kd.R_alloc | apply Kd.R_drewN | apply Kd.R_drew)); exact Kd.R_mono HO_8.out (fun _ hk => ⟨hk.1.1, ⟨hk.1.2.1, ⟨hk.1.2.2, hk.2⟩⟩⟩)⟩, ⟨HO912.out⟩, ⟨HB.out⟩⟩
                ·rw [if_neg c47] at H
                 exact absurd H (by simp)
               ·rw [if_neg c46] at H
                have c46b0 : ((rd t877 x9_2) == x11_3) = false := beq_eq_false_iff_ne.mpr c46
                have c46b1 : ((rd t877 x9_2) != x11_3) = true := bne_iff_ne.mpr c46
                have H' := Aside0.mk H
                clear H
                go_wp2_with (first | ((with_reducible refine gate_callee (f := 35) rfl ?_); refine goesL_ (some 75) rfl rfl Tryd.func35 (by kernel_rfl) rfl #[.slice Ao9 t876.length co9, .int .i64 x11_3] rfl (by (try simp only [List.map_toArray, List.map_cons, List.map_nil]); first | done | rfl | (simp only [List.length_drop, List.length_take]; rfl)) ?_; (with_reducible refine (laws_isIn.calls k3 _ _ t876 x11_3 false _ ?side1 ?side2 A35.out).mono ?_); (case side1 => exact (Kd.R_reads' HO_5.out).2.2); (case side2 => exact (Kd.R_reads' HO_5.out).2.1); rintro e w' ⟨rfl, ⟨nd, rfl⟩⟩; refine ⟨_, rfl, ?_⟩; obtain ⟨Ao50, co50, eo50⟩ := Kd.R_slice HO_8.out; subst eo50) | (go_at_call 35; (with_reducible refine (laws_isIn.calls k3 _ _ t887 x11_3 false _ ?side1 ?side2 A39.out).mono ?_); (case side1 => exact (Kd.R_reads' HO_8.out).2.2); (case side2 => exact (Kd.R_reads' HO_8.out).2.1); rintro e w' ⟨rfl, ⟨nd, rfl⟩⟩; have p909 : 0 ≤ (x9_2 : Int) := of_decide_eq_true (by first | (with_reducible assumption) | assumption); have q909 : x9_2 < (t877.length : Int) := of_decide_eq_true (by first | (with_reducible assumption) | assumption); obtain ⟨ad909, e909, hx909_0⟩ := Kd.at_int (Kd.Q_reads' HO_6.out).2.2 x9_2 p909 q909; cases e909; replace p909 := eq_true p909; replace q909 := eq_true q909))
                go_roundg k3
                case measure => have := HJ4.out; have := HK2.out; have := HK3.out; omega
                case rel => exact ⟨(x10_3), (wrap64 (x11_3 + 1)), (by first | rfl | (simp; done) | (simp [*]; done)), H', ⟨by have := HJ4.out; have := HK2.out; have := HK3.out; omega⟩, ⟨by (with_reducible repeat (first | apply Kd.S_alloc | apply Kd.S_drewN | apply Kd.S_drew)); exact HO_3.out⟩, ⟨by (with_reducible repeat (first | apply Kd.Q_alloc | apply Kd.Q_drewN | apply Kd.Q_drew)); exact HO_4.out⟩, ⟨by (with_reducible repeat (first | apply Kd.R_alloc | apply Kd.R_drewN | apply Kd.R_drew)); exact HO_5.out⟩, ⟨by (with_reducible repeat (first | apply Kd.Q_alloc | apply Kd.Q_drewN | apply Kd.Q_drew)); exact HO_6.out⟩, ⟨by (with_reducible repeat (first | apply Kd.R_alloc | apply Kd.R_drewN | apply Kd.R_drew)); exact HO_8.out⟩, ⟨by (with_reducible repeat (first | apply Kd.R_alloc | apply Kd.R_drewN | apply Kd.R_drew)); exact HO_10.out⟩, ⟨by repeat (first | (with_reducible first | exact HB.out | apply below_alloc | apply pw_below_drewN | apply below_drew1) | exact HB.out)⟩⟩
              ·rw [if_neg c45] at H
               exact absurd H (by simp)
             ·rw [if_neg c44] at H
              exact absurd H (by simp)
          ·rw [if_neg c34] at H
           have c34b0 : decide (x11_3 < (t874.length : Int)) = false := decide_eq_false c34
           clear c34
           by_cases c51 : 0 ≤ x9_2
           ·rw [if_pos c51] at H
            have c51b0 : decide (0 ≤ x9_2) = true := decide_eq_true c51
            clear c51
            by_cases c52 : x9_2 < (t877.length : Int)
            ·rw [if_pos c52] at H
             have c52b0 : decide (x9_2 < (t877.length : Int)) = true := decide_eq_true c52
             clear c52
             replace H := Option.bind_eq_some_iff.mp H
             obtain ⟨t914, A530, H⟩ := H
             replace H : (if t914 = true then (laws_FnAdmitTasksAll.l0 k3 t874 t875 t876 t877 t887 (wrap64 (x9_2 + 1))) else ((impl_RunsTogether.f t874 t875 x10_3).bind fun t915 => (if t915 = true then (some false) else (laws_FnAdmitTasksAll.l0 k3 t874 t875 t876 t877 t887 (wrap64 (x9_2 + 1)))))) = some r := H
             have A53 := Aside0.mk A530
             clear A530
             by_cases c54 : t914 = true
             ·subst c54
              have H1 : (laws_FnAdmitTasksAll.l0 k3 t874 t875 t876 t877 t887 (wrap64 (x9_2 + 1))) = some r := by rw [if_pos rfl] at H; exact H
              clear H
              have H := H1
              clear H1
              have H' := Aside0.mk H
              clear H
              have p913 : 0 ≤ (x9_2 : Int) := of_decide_eq_true (by first | (with_reducible assumption) | assumption)
              have q913 : x9_2 < (t877.length : Int) := of_decide_eq_true (by first | (with_reducible assumption) | assumption)
              obtain ⟨ad913, e913, hx913_0⟩ := Kd.at_int (Kd.Q_reads' HO_6.out).2.2 x9_2 p913 q913
              cases e913
              replace p913 := eq_true p913
              replace q913 := eq_true q913
              obtain ⟨Ao55, co55, eo55⟩ := Kd.R_slice HO_8.out
              subst eo55
              go_wp2_with (first | ((with_reducible refine gate_callee (f := 35) rfl ?_); refine goesL_ (some 98) rfl rfl Tryd.func35 (by kernel_rfl) rfl #[.slice Ao55 t887.length co55, .int .i64 (rd t877 x9_2)] rfl (by (try simp only [List.map_toArray, List.map_cons, List.map_nil]); first | done | rfl | (simp only [List.length_drop, List.length_take]; rfl)) ?_; (with_reducible refine (laws_isIn.calls k3 _ _ t887 (rd t877 x9_2) true _ ?side1 ?side2 A53.out).mono ?_); (case side1 => exact (Kd.R_reads' HO_8.out).2.2); (case side2 => exact (Kd.R_reads' HO_8.out).2.1); rintro e w' ⟨rfl, ⟨nd, rfl⟩⟩; refine ⟨_, rfl, ?_⟩))
              go_roundg k3
              case measure => have := HJ4.out; have := HK2.out; have := HK3.out; omega
              case rel => exact ⟨(wrap64 (x9_2 + 1)), (by first | rfl | (simp; done) | (simp [*]; done)), H', ⟨by have := HJ4.out; have := HK2.out; have := HK3.out; omega⟩, ⟨by (with_reducible repeat (first | apply Kd.S_alloc | apply Kd.S_drewN | apply Kd.S_drew)); exact Kd.S_mono HO_3.out (fun _ hk => ⟨hk.1, ⟨hk.2.1, ⟨hk.2.2.1, hk.2.2.2.1⟩⟩⟩)⟩, ⟨by (with_reducible repeat (first | apply Kd.Q_alloc | apply Kd.Q_drewN | apply Kd.Q_drew)); exact Kd.Q_mono HO_4.out (fun _ hk => ⟨hk.1, ⟨hk.2.1, hk.2.2.1⟩⟩)⟩, ⟨by (with_reducible repeat (first | apply Kd.R_alloc | apply Kd.R_drewN | apply Kd.R_drew)); exact Kd.R_mono HO_5.out (fun _ hk => ⟨hk.1, ⟨hk.2.1, hk.2.2.1⟩⟩)⟩, ⟨by (with_reducible repeat (first | apply Kd.Q_alloc | apply Kd.Q_drewN | apply Kd.Q_drew)); exact Kd.Q_mono HO_6.out (fun _ hk => ⟨hk.1, ⟨hk.2.1, hk.2.2.1⟩⟩)⟩, ⟨by (with_reducible repeat (first | apply Kd.R_alloc | apply Kd.R_drewN | apply Kd.R_drew)); exact Kd.R_mono HO_8.out (fun _ hk => ⟨hk.1, ⟨hk.2.1, hk.2.2.1⟩⟩)⟩, ⟨by repeat (first | (with_reducible first | exact HB.out | apply below_alloc | apply pw_below_drewN | apply below_drew1) | exact HB.out)⟩⟩
             ·replace c54 := Bool.eq_false_iff.mpr c54
              subst c54
              have H1 : ((impl_RunsTogether.f t874 t875 x10_3).bind fun t915 => (if t915 = true then (some false) else (laws_FnAdmitTasksAll.l0 k3 t874 t875 t876 t877 t887 (wrap64 (x9_2 + 1))))) = some r := by rw [if_neg (show ¬ (false = true) by decide)] at H; exact H
              clear H
              have H := H1
              clear H1
              replace H := Option.bind_eq_some_iff.mp H
              obtain ⟨t915, A560, H⟩ := H
              replace H : (if t915 = true then (some false) else (laws_FnAdmitTasksAll.l0 k3 t874 t875 t876 t877 t887 (wrap64 (x9_2 + 1)))) = some r := H
              have A56 := Aside0.mk A560
              clear A560
              by_cases c57 : t915 = true
              ·subst c57
               have H1 : (some false) = some r := by rw [if_pos rfl] at H; exact H
               clear H
               have H := H1
               clear H1
               obtain rfl := Option.some.inj H
               have p913 : 0 ≤ (x9_2 : Int) := of_decide_eq_true (by first | (with_reducible assumption) | assumption)
               have q913 : x9_2 < (t877.length : Int) := of_decide_eq_true (by first | (with_reducible assumption) | assumption)
               obtain ⟨ad913, e913, hx913_0⟩ := Kd.at_int (Kd.Q_reads' HO_6.out).2.2 x9_2 p913 q913
               cases e913
               replace p913 := eq_true p913
               replace q913 := eq_true q913
               obtain ⟨Ao58, co58, eo58⟩ := Kd.R_slice HO_8.out
               subst eo58
               go_wp2_with (first | ((with_reducible refine gate_callee (f := 35) rfl ?_); refine goesL_ (some 98) rfl rfl Tryd.func35 (by kernel_rfl) rfl #[.slice Ao58 t887.length co58, .int .i64 (rd t877 x9_2)] rfl (by (try simp only [List.map_toArray, List.map_cons, List.map_nil]); first | done | rfl | (simp only [List.length_drop, List.length_take]; rfl)) ?_; (with_reducible refine (laws_isIn.calls k3 _ _ t887 (rd t877 x9_2) false _ ?side1 ?side2 A53.out).mono ?_); (case side1 => repeat (first | exact (Kd.R_reads' HO_8.out).2.2 | (with_reducible refine Kd.C_alloc ?_ _) | (with_reducible refine Kd.C_drewN ?_ _) | (with_reducible refine Kd.C_drew ?_))); (case side2 => exact (Kd.R_reads' HO_8.out).2.1); rintro e w' ⟨rfl, ⟨nd, rfl⟩⟩; refine ⟨_, rfl, ?_⟩; obtain ⟨Ao59, co59, eo59⟩ := Kd.R_slice HO_10.out; subst eo59) | (go_at_call 47; (with_reducible refine (impl_RunsTogether.calls _ _ t874 _ _ t875 _ _ x10_3 true _ ?side1 ?side2 ?side3 ?side4 ?side5 ?side6 ?side7 A56.out).mono ?_); (case side1 => repeat (first | exact (Kd.S_reads' HO_3.out).2.2 | (with_reducible refine Kd.C_alloc ?_ _) | (with_reducible refine Kd.C_drewN ?_ _) | (with_reducible refine Kd.C_drew ?_))); (case side2 => exact (Kd.S_reads' HO_3.out).2.1); (case side3 => repeat (first | exact (Kd.Q_reads' HO_4.out).2.2 | (with_reducible refine Kd.C_alloc ?_ _) | (with_reducible refine Kd.C_drewN ?_ _) | (with_reducible refine Kd.C_drew ?_))); (case side4 => exact (Kd.Q_reads' HO_4.out).2.1); (case side5 => repeat (first | exact (Kd.R_reads' HO_10.out).2.2 | (with_reducible refine Kd.C_alloc ?_ _) | (with_reducible refine Kd.C_drewN ?_ _) | (with_reducible refine Kd.C_drew ?_))); (case side6 => exact (Kd.R_reads' HO_10.out).2.1); (case side7 => exact Tab.of HT.out (by repeat (first | (with_reducible first | exact HB.out | apply below_alloc | apply pw_below_drewN | apply below_drew1) | exact HB.out))); rintro e w60 ⟨rfl, hb⟩; have n0_ := Aside0.mk (Kd.S_below (by (with_reducible repeat (first | apply Kd.S_alloc | apply Kd.S_drewN | apply Kd.S_drew)); exact HO_3.out) hb); have n1_ := Aside0.mk (Kd.Q_below (by (with_reducible repeat (first | apply Kd.Q_alloc | apply Kd.Q_drewN | apply Kd.Q_drew)); exact HO_4.out) hb); have n2_ := Aside0.mk (Kd.R_below (by (with_reducible repeat (first | apply Kd.R_alloc | apply Kd.R_drewN | apply Kd.R_drew)); exact HO_5.out) hb); have n3_ := Aside0.mk (Kd.Q_below (by (with_reducible repeat (first | apply Kd.Q_alloc | apply Kd.Q_drewN | apply Kd.Q_drew)); exact HO_6.out) hb); have n4_ := Aside0.mk (Kd.R_below (by (with_reducible repeat (first | apply Kd.R_alloc | apply Kd.R_drewN | apply Kd.R_drew)); exact HO_8.out) hb); have n5_ := Aside0.mk (Kd.R_below (by (with_reducible repeat (first | apply Kd.R_alloc | apply Kd.R_drewN | apply Kd.R_drew)); exact HO_10.out) hb); have n6_ := Aside0.mk (below_step (by repeat (first | (with_reducible first | exact HB.out | apply below_alloc | apply pw_below_drewN | apply below_drew1) | exact HB.out)) hb); clear HO_3; clear HO_4; clear HO_5; clear HO_6; clear HO_8; clear HO_10; clear HB; have HO_3 := n0_; have HO_4 := n1_; have HO_5 := n2_; have HO_6 := n3_; have HO_8 := n4_; have HO_10 := n5_; have HB := n6_; clear n0_ n1_ n2_ n3_ n4_ n5_ n6_; (try clear hb); (try clear hb2); (try clear hk); (try clear hi)))
               go_ret
               exact ⟨by first | rfl | (simp [errW_none, errW_some] <;> rfl) | (simp [*, errW_none, errW_some] <;> rfl), HB.out⟩
              ·replace c57 := Bool.eq_false_iff.mpr c57
               subst c57
               have H1 : (laws_FnAdmitTasksAll.l0 k3 t874 t875 t876 t877 t887 (wrap64 (x9_2 + 1))) = some r := by rw [if_neg (show ¬ (false = true) by decide)] at H; exact H
               clear H
               have H := H1
               clear H1
               have H' := Aside0.mk H
               clear H
               have p913 : 0 ≤ (x9_2 : Int) := of_decide_eq_true (by first | (with_reducible assumption) | assumption)
               have q913 : x9_2 < (t877.length : Int) := of_decide_eq_true (by first | (with_reducible assumption) | assumption)
               obtain ⟨ad913, e913, hx913_0⟩ := Kd.at_int (Kd.Q_reads' HO_6.out).2.2 x9_2 p913 q913
               cases e913
               replace p913 := eq_true p913
               replace q913 := eq_true q913
               obtain ⟨Ao61, co61, eo61⟩ := Kd.R_slice HO_8.out
               subst eo61
               go_wp2_with (first | ((with_reducible refine gate_callee (f := 35) rfl ?_); refine goesL_ (some 98) rfl rfl Tryd.func35 (by kernel_rfl) rfl #[.slice Ao61 t887.length co61, .int .i64 (rd t877 x9_2)] rfl (by (try simp only [List.map_toArray, List.map_cons, List.map_nil]); first | done | rfl | (simp only [List.length_drop, List.length_take]; rfl)) ?_; (with_reducible refine (laws_isIn.calls k3 _ _ t887 (rd t877 x9_2) false _ ?side1 ?side2 A53.out).mono ?_); (case side1 => repeat (first | exact (Kd.R_reads' HO_8.out).2.2 | (with_reducible refine Kd.C_alloc ?_ _) | (with_reducible refine Kd.C_drewN ?_ _) | (with_reducible refine Kd.C_drew ?_))); (case side2 => exact (Kd.R_reads' HO_8.out).2.1); rintro e w' ⟨rfl, ⟨nd, rfl⟩⟩; refine ⟨_, rfl, ?_⟩; obtain ⟨Ao62, co62, eo62⟩ := Kd.R_slice HO_10.out; subst eo62) | (go_at_call 47; (with_reducible refine (impl_RunsTogether.calls _ _ t874 _ _ t875 _ _ x10_3 false _ ?side1 ?side2 ?side3 ?side4 ?side5 ?side6 ?side7 A56.out).mono ?_); (case side1 => repeat (first | exact (Kd.S_reads' HO_3.out).2.2 | (with_reducible refine Kd.C_alloc ?_ _) | (with_reducible refine Kd.C_drewN ?_ _) | (with_reducible refine Kd.C_drew ?_))); (case side2 => exact (Kd.S_reads' HO_3.out).2.1); (case side3 => repeat (first | exact (Kd.Q_reads' HO_4.out).2.2 | (with_reducible refine Kd.C_alloc ?_ _) | (with_reducible refine Kd.C_drewN ?_ _) | (with_reducible refine Kd.C_drew ?_))); (case side4 => exact (Kd.Q_reads' HO_4.out).2.1); (case side5 => repeat (first | exact (Kd.R_reads' HO_10.out).2.2 | (with_reducible refine Kd.C_alloc ?_ _) | (with_reducible refine Kd.C_drewN ?_ _) | (with_reducible refine Kd.C_drew ?_))); (case side6 => exact (Kd.R_reads' HO_10.out).2.1); (case side7 => exact Tab.of HT.out (by repeat (first | (with_reducible first | exact HB.out | apply below_alloc | apply pw_below_drewN | apply below_drew1) | exact HB.out))); rintro e w63 ⟨rfl, hb⟩; have n0_ := Aside0.mk (Kd.S_below (by (with_reducible repeat (first | apply Kd.S_alloc | apply Kd.S_drewN | apply Kd.S_drew)); exact HO_3.out) hb); have n1_ := Aside0.mk (Kd.Q_below (by (with_reducible repeat (first | apply Kd.Q_alloc | apply Kd.Q_drewN | apply Kd.Q_drew)); exact HO_4.out) hb); have n2_ := Aside0.mk (Kd.R_below (by (with_reducible repeat (first | apply Kd.R_alloc | apply Kd.R_drewN | apply Kd.R_drew)); exact HO_5.out) hb); have n3_ := Aside0.mk (Kd.Q_below (by (with_reducible repeat (first | apply Kd.Q_alloc | apply Kd.Q_drewN | apply Kd.Q_drew)); exact HO_6.out) hb); have n4_ := Aside0.mk (Kd.R_below (by (with_reducible repeat (first | apply Kd.R_alloc | apply Kd.R_drewN | apply Kd.R_drew)); exact HO_8.out) hb); have n5_ := Aside0.mk (Kd.R_below (by (with_reducible repeat (first | apply Kd.R_alloc | apply Kd.R_drewN | apply Kd.R_drew)); exact HO_10.out) hb); have n6_ := Aside0.mk (below_step (by repeat (first | (with_reducible first | exact HB.out | apply below_alloc | apply pw_below_drewN | apply below_drew1) | exact HB.out)) hb); clear HO_3; clear HO_4; clear HO_5; clear HO_6; clear HO_8; clear HO_10; clear HB; have HO_3 := n0_; have HO_4 := n1_; have HO_5 := n2_; have HO_6 := n3_; have HO_8 := n4_; have HO_10 := n5_; have HB := n6_; clear n0_ n1_ n2_ n3_ n4_ n5_ n6_; (try clear hb); (try clear hb2); (try clear hk); (try clear hi)))
               go_roundg k3
               case measure => have := HJ4.out; have := HK2.out; have := HK3.out; omega
               case rel => exact ⟨(wrap64 (x9_2 + 1)), (by first | rfl | (simp; done) | (simp [*]; done)), H', ⟨by have := HJ4.out; have := HK2.out; have := HK3.out; omega⟩, ⟨by (with_reducible repeat (first | apply Kd.S_alloc | apply Kd.S_drewN | apply Kd.S_drew)); exact Kd.S_mono HO_3.out (fun _ hk => ⟨hk.1, ⟨hk.2.1, ⟨hk.2.2.1, hk.2.2.2.1⟩⟩⟩)⟩, ⟨by (with_reducible repeat (first | apply Kd.Q_alloc | apply Kd.Q_drewN | apply Kd.Q_drew)); exact Kd.Q_mono HO_4.out (fun _ hk => ⟨hk.1, ⟨hk.2.1, hk.2.2.1⟩⟩)⟩, ⟨by (with_reducible repeat (first | apply Kd.R_alloc | apply Kd.R_drewN | apply Kd.R_drew)); exact Kd.R_mono HO_5.out (fun _ hk => ⟨hk.1, ⟨hk.2.1, hk.2.2.1⟩⟩)⟩, ⟨by (with_reducible repeat (first | apply Kd.Q_alloc | apply Kd.Q_drewN | apply Kd.Q_drew)); exact Kd.Q_mono HO_6.out (fun _ hk => ⟨hk.1, ⟨hk.2.1, hk.2.2.1⟩⟩)⟩, ⟨by (with_reducible repeat (first | apply Kd.R_alloc | apply Kd.R_drewN | apply Kd.R_drew)); exact Kd.R_mono HO_8.out (fun _ hk => ⟨hk.1, ⟨hk.2.1, hk.2.2.1⟩⟩)⟩, ⟨HB.out⟩⟩
            ·rw [if_neg c52] at H
             exact absurd H (by simp)
           ·rw [if_neg c51] at H
            exact absurd H (by simp)
       ·rw [if_neg c31] at H
        have c31b0 : decide (x9_2 < (t877.length : Int)) = false := decide_eq_false c31
        clear c31
        obtain rfl := Option.some.inj H
        go_wp2
        go_ret
        exact ⟨by first | rfl | (simp [errW_none, errW_some] <;> rfl) | (simp [*, errW_none, errW_some] <;> rfl), HB.out⟩
end Go.Proofs.YtpibdjkajgfgjaaDoor.P
end
section
set_option linter.unusedVariables false
set_option linter.unusedSimpArgs false
namespace Go.Proofs.YtpibdjkajgfgjaaDoor.Core
open Go Go.RowKit Go.Proofs.YtpibdjkajgfgjaaDoorW.PrintWords Go.Proofs.YtpibdjkajgfgjaaDoorW.PrintMore Go.Proofs.YtpibdjkajgfgjaaDoor.P
theorem elemsN_range' {s n : Nat} (hn : n ≤ 8) (hs : s < 2 ^ n) : elemsN s = (List.range n).filter (fun i => s.testBit i) := by
 have e8 : List.range 8 = List.range n ++ (List.range (8 - n)).map (n + ·) := by rw [← List.range_add]; congr 1; omega
 unfold elemsN
 rw [e8, List.filter_append]
 have e2 : ((List.range (8 - n)).map (n + ·)).filter (fun i => s.testBit i) = [] := by
  rw [List.filter_eq_nil_iff]
  intro y hy hb
  obtain ⟨z, _, rfl⟩ := List.mem_map.1 hy
  rw [Nat.testBit_lt_two_pow (Nat.lt_of_lt_of_le hs (Nat.pow_le_pow_right (by omega) (by omega)))] at hb
  cases hb
 rw [e2, List.append_nil]
end Go.Proofs.YtpibdjkajgfgjaaDoor.Core
end
section
set_option linter.unusedVariables false
set_option linter.unusedSimpArgs false
namespace Go.Proofs.YtpibdjkajgfgjaaDoor.Core
open Go Go.RowKit Go.Proofs.YtpibdjkajgfgjaaDoorW.PrintWords Go.Proofs.YtpibdjkajgfgjaaDoorW.PrintMore Go.Proofs.YtpibdjkajgfgjaaDoor.P
theorem VG.in_list {g : List Tk} {G : GD} (v : VG g G) {t : Nat} (ht : t < 2 ^ g.length) (i : Nat) : ((i : Int) ∈ up (elemsN t)) ↔ t.testBit i = true := by
 rw [mem_up, v.list_bit ht]
theorem VG.in_dec {g : List Tk} {G : GD} (v : VG g G) {t : Nat} (ht : t < 2 ^ g.length) (i : Nat) : decide ((i : Int) ∈ up (elemsN t)) = t.testBit i := by
 rw [Bool.eq_iff_iff, decide_eq_true_eq, v.in_list ht]
end Go.Proofs.YtpibdjkajgfgjaaDoor.Core
end
