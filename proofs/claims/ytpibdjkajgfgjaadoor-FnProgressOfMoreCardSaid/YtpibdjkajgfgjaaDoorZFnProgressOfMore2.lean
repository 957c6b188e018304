/- The law FnProgressOfMore holds of the given program: the proof's own part, with its row and its card, part 2 of 5. -/
import Derived.Test.YtpibdjkajgfgjaaDoorZFnProgressOfMore1
import Derived.Laws.BitsAllLaws
import Derived.KernelRfl
import Derived.RangeFuncNested
import Derived.RangeFuncBound
import Derived.RangeFuncCalls
import Derived.RangeFuncLeaves
import Derived.Shelf.Abstract
import Derived.Shelf.RegionOpen
import Derived.WalkKit
import Derived.OwnWalkIn
import Derived.TacticsInMore
import Derived.LoopNIn
import Derived.LoopIn
import Derived.StillTailTactics
import Derived.OrdersIn
import Derived.Test.YtpibdjkajgfgjaaDoorProg
import Derived.Laws.BitsLemmas
import Derived.Lib.Hide
section
set_option linter.unusedVariables false
set_option linter.unusedSimpArgs false
namespace Go.Proofs.YtpibdjkajgfgjaaDoor.Core
open Go
end Go.Proofs.YtpibdjkajgfgjaaDoor.Core
namespace Go.Proofs.YtpibdjkajgfgjaaDoor.Core
open Go Go.RowKit Go.Shelf
attribute [local go_sem] Oper.semAt_some
end Go.Proofs.YtpibdjkajgfgjaaDoor.Core
namespace Go.Proofs.YtpibdjkajgfgjaaDoor.Core
open Go Go.RowKit Go.Shelf
attribute [local go_sem] Oper.semAt_some wide_fn wide_depth
end Go.Proofs.YtpibdjkajgfgjaaDoor.Core
namespace Go.Proofs.YtpibdjkajgfgjaaDoor.Core
open Go Go.RowKit Go.Proofs.YtpibdjkajgfgjaaDoorW.PrintWords
theorem _root_.Go.Proofs.YtpibdjkajgfgjaaDoorW.PrintWords.Kd.R_ownTyped {α : Type} {d : Kd α} {e : Nat} {w : World} {base : Nat} {ok : Nat → Prop} {v : Value} {xs : List α} (h : d.R e w base ok v xs) : ∀ k, v.ownBlock = some k → ∃ cs t, w.heap[k]? = some (.cells cs t (0, 0)) := fun k hk => by
  obtain ⟨_, ho⟩ := Kd.R_own h
  obtain ⟨cs, hc⟩ := own_typed ho k hk
  exact ⟨cs, e, hc⟩
end Go.Proofs.YtpibdjkajgfgjaaDoor.Core
end
section
namespace Go.Proofs.YtpibdjkajgfgjaaDoor.P
open Go.RowKit Go.Proofs.YtpibdjkajgfgjaaDoorW.PrintWords Go.Proofs.YtpibdjkajgfgjaaDoorW.PrintLast Go.Proofs.YtpibdjkajgfgjaaDoorW.PrintMore
attribute [local go_sem] max2_int min2_int max_two min_two max_three min_three max_four min_four   -- for this text's walks alone
set_option linter.unusedVariables false
set_option linter.unusedSimpArgs false
noncomputable def spec_DrawValidDone.f (k : Nat) (l0 : List Int) : Option ((List (S48)) × List Int) := (spec_newReader.f l0).bind fun bt446 => ((spec_anyGraph.f bt446.1 bt446.2).bind fun bt449 => ((spec_someDone.f k bt446.1 bt449.2 bt449.1).bind fun bt453 => (some (bt449.1, bt453.1))))
theorem spec_DrawValidDone.mono : ∀ a0 k, LeO (spec_DrawValidDone.f k a0) (spec_DrawValidDone.f (k + 1) a0) := by
  intro a0 k
  unfold spec_DrawValidDone.f
  repeat' first
      | (with_reducible exact spec_someDone.mono _ _ _ _)
      | (with_reducible exact LeO.refl _)
      | (with_reducible exact LeO.none _)
      | (with_reducible refine LeO.ite ?_ ?_)
      | (with_reducible refine LeO.bind ?_ (fun _ => ?_))
      | exact spec_someDone.mono _ _ _ _
      | exact LeO.none _
      | refine LeO.ite ?_ ?_
      | refine LeO.bind ?_ (fun _ => ?_)
set_option maxHeartbeats 8000000 in
set_option maxRecDepth 100000 in
theorem spec_DrawValidDone.calls (k : Nat) (A0 : Option Addr) (c0 : Nat) (l0 : List Int) (r1 : List (S48)) (r2 : List Int) (w : World) (hr0 : Kd.C (Kd.int .u8) w A0 l0.length l0) (hc0 : l0.length ≤ c0) (h : spec_DrawValidDone.f k l0 = some (r1, r2)) :
    Calls Tryd.prog 69 #[.slice A0 l0.length c0] w fun e w' => ∃ v0_ v1_ : Value, e = .returned (.tuple #[v0_, v1_]) ∧ Kd.S k48 48 w' w.heap.size (fun k_ => some k_ ≠ (v1_ : Value).ownBlock) v0_ r1 ∧ Kd.Q (Kd.int .i64) 3 w' w.heap.size (fun _ => True) v1_ r2 ∧ Below w.heap.size w w' := by
  have HR0 := Aside0.mk hr0
  have HC0 := Aside0.mk hc0
  clear hr0 hc0
  have HB := Aside0.mk (Below.refl w.heap.size w)
  have H : ((spec_newReader.f l0).bind fun bt446 => ((spec_anyGraph.f bt446.1 bt446.2).bind fun bt449 => ((spec_someDone.f k bt446.1 bt449.2 bt449.1).bind fun bt453 => (some (bt449.1, bt453.1))))) = some (r1, r2) := h
  clear h
  replace H := Option.bind_eq_some_iff.mp H
  obtain ⟨⟨t446, t447⟩, A20, H⟩ := H
  replace H : ((spec_anyGraph.f t446 t447).bind fun bt449 => ((spec_someDone.f k t446 bt449.2 bt449.1).bind fun bt453 => (some (bt449.1, bt453.1)))) = some (r1, r2) := H
  have A2 := Aside0.mk A20
  clear A20
  replace H := Option.bind_eq_some_iff.mp H
  obtain ⟨⟨t449, t452⟩, A30, H⟩ := H
  replace H : ((spec_someDone.f k t446 t452 t449).bind fun bt453 => (some (t449, bt453.1))) = some (r1, r2) := H
  have A3 := Aside0.mk A30
  clear A30
  replace H := Option.bind_eq_some_iff.mp H
  obtain ⟨⟨t453, t456⟩, A40, H⟩ := H
  replace H : (some (t449, t453)) = some (r1, r2) := H
  have A4 := Aside0.mk A40
  clear A40
  simp only [Option.some.injEq, Prod.mk.injEq] at H
  obtain ⟨rfl, rfl⟩ := H
  go_enter Tryd.func69, Tryd.ntmps69
  go_wp2_with (first | ((with_reducible refine gate_callee (f := 82) rfl ?_); refine goesL_ (some 7) rfl rfl Tryd.func82 (by kernel_rfl) rfl #[.slice A0 l0.length c0] rfl (by (try simp only [List.map_toArray, List.map_cons, List.map_nil]); first | done | rfl | (simp only [List.length_drop, List.length_take]; rfl)) ?_; (with_reducible refine (spec_newReader.calls _ _ l0 t446 t447 w _ ?side1 ?side2 ?side3 A2.out).mono ?_); (case side1 => repeat (first | (with_reducible first | exact HB.out | apply below_alloc | apply pw_below_drewN | apply below_drew1) | exact HB.out)); (case side2 => exact HR0.out); (case side3 => exact HC0.out); rintro e w5 ⟨g448, rfl, hi, hb, hb2⟩; refine ⟨_, rfl, ?_⟩; have n0_ := Aside0.mk (hb); have n1_ := Aside0.mk (hi); clear HB; have HB := n0_; have HI448 := n1_; clear n0_ n1_; (try clear hb); (try clear hb2); (try clear hk); (try clear hi)) | ((with_reducible refine gate_callee (f := 81) rfl ?_); refine goesL_ (some 9) rfl rfl Tryd.func81 (by kernel_rfl) rfl #[.pointer (some ⟨g448, 0, none⟩)] rfl (by (try simp only [List.map_toArray, List.map_cons, List.map_nil]); first | done | rfl | (simp only [List.length_drop, List.length_take]; rfl)) ?_; (with_reducible refine (spec_anyGraph.calls g448 t446 t447 t449 t452 w _ ?side1 ?side2 A3.out).mono ?_); (case side1 => repeat (first | (with_reducible first | exact HI448.out | apply IsS116.alloc | apply IsS116.drewN | apply IsS116.drew | apply IsS116.set_1) | exact HI448.out)); (case side2 => repeat (first | (with_reducible first | exact HB.out | apply below_alloc | apply pw_below_drewN | apply below_drew1 | refine below_set ?_ (IsS116.ge HI448.out)) | exact HB.out)); rintro e w6 ⟨v450, rfl, ho0, hi, hb, hk⟩; refine ⟨_, rfl, ?_⟩; have n0_ := Aside0.mk (Kd.S_lower ho0 (below_size (by repeat (first | (with_reducible first | exact HB.out | apply below_alloc | apply pw_below_drewN | apply below_drew1 | refine below_set ?_ (IsS116.ge HI448.out)) | exact HB.out)))); have n1_ := Aside0.mk (hb); have n2_ := Aside0.mk (hi); clear HB; clear HI448; have HO451 := n0_; have HB := n1_; have HI448 := n2_; clear n0_ n1_ n2_; (try clear hb); (try clear hb2); (try clear hk); (try clear hi); (try clear ho0); obtain ⟨Ao7, co7, eo7⟩ := Kd.S_slice HO451.out; subst eo7) | ((with_reducible refine gate_callee (f := 107) rfl ?_); refine goesL_ (some 13) rfl rfl Tryd.func107 (by kernel_rfl) rfl #[.pointer (some ⟨g448, 0, none⟩), .slice Ao7 t449.length co7] rfl (by (try simp only [List.map_toArray, List.map_cons, List.map_nil]); first | done | rfl | (simp only [List.length_drop, List.length_take]; rfl)) ?_; (with_reducible refine (spec_someDone.calls k g448 t446 t452 _ _ t449 t453 t456 w _ ?side1 ?side2 ?side3 ?side4 A4.out).mono ?_); (case side1 => repeat (first | (with_reducible first | exact HI448.out | apply IsS116.alloc | apply IsS116.drewN | apply IsS116.drew | apply IsS116.set_1) | exact HI448.out)); (case side2 => repeat (first | (with_reducible first | exact HB.out | apply below_alloc | apply pw_below_drewN | apply below_drew1 | refine below_set ?_ (IsS116.ge HI448.out)) | exact HB.out)); (case side3 => exact Kd.C_foot_own ((Kd.S_R (IsS116.apartS (show IsS116 w _ g448 t446 t452 from by repeat (first | (with_reducible first | exact HI448.out | apply IsS116.alloc | apply IsS116.drewN | apply IsS116.drew | apply IsS116.set_1) | exact HI448.out)) (by (with_reducible repeat (first | apply Kd.S_alloc | apply Kd.S_drewN | apply Kd.S_drew)); exact HO451.out) (by decide)))) (fun _ h_ => h_.2)); (case side4 => exact (Kd.S_reads' HO451.out).2.1); rintro e w8 ⟨v454, rfl, ho0, hi, hb, hk⟩; refine ⟨_, rfl, ?_⟩; have n0_ := Aside0.mk (Kd.S_mono (Kd.S_told (Kd.S_oldK (IsS116.apartS (show IsS116 w _ g448 t446 t452 from by repeat (first | (with_reducible first | exact HI448.out | apply IsS116.alloc | apply IsS116.drewN | apply IsS116.drew | apply IsS116.set_1) | exact HI448.out)) (by (with_reducible repeat (first | apply Kd.S_alloc | apply Kd.S_drewN | apply Kd.S_drew)); exact HO451.out) (by decide)) hk) (Kd.Q_base ho0)) (fun _ h_ => h_.1)); have n1_ := Aside0.mk (Kd.Q_lower ho0 (below_size (by repeat (first | (with_reducible first | exact HB.out | apply below_alloc | apply pw_below_drewN | apply below_drew1 | refine below_set ?_ (IsS116.ge HI448.out)) | exact HB.out)))); have n2_ := Aside0.mk (hb); have n3_ := Aside0.mk (hi); clear HO451; clear HB; clear HI448; have HO451 := n0_; have HO455 := n1_; have HB := n2_; have HI448 := n3_; clear n0_ n1_ n2_ n3_; (try clear hb); (try clear hb2); (try clear hk); (try clear hi); (try clear ho0)))
  go_ret2
  exact ⟨_, _, by first | rfl | (simp [errW_none, errW_some] <;> rfl) | (simp [*, errW_none, errW_some] <;> rfl), by (with_reducible repeat (first | apply Kd.S_alloc | apply Kd.S_drewN | apply Kd.S_drew)); exact Kd.S_mono HO451.out (fun _ hk => hk.2), by (with_reducible repeat (first | apply Kd.Q_alloc | apply Kd.Q_drewN | apply Kd.Q_drew)); exact HO455.out, by repeat (first | (with_reducible first | exact HB.out | apply below_alloc | apply pw_below_drewN | apply below_drew1 | refine below_set ?_ (IsS116.ge HI448.out)) | exact HB.out)⟩
noncomputable def spec_DrawProgressOf.f (k : Nat) (l0 : List Int) : Option ((List (S48)) × List Int) := (spec_DrawValidDone.f k l0).bind fun bt457 => (some (bt457.1, bt457.2))
theorem spec_DrawProgressOf.mono : ∀ a0 k, LeO (spec_DrawProgressOf.f k a0) (spec_DrawProgressOf.f (k + 1) a0) := by
  intro a0 k
  unfold spec_DrawProgressOf.f
  repeat' first
      | (with_reducible exact spec_DrawValidDone.mono _ _)
      | (with_reducible exact LeO.refl _)
      | (with_reducible exact LeO.none _)
      | (with_reducible refine LeO.ite ?_ ?_)
      | (with_reducible refine LeO.bind ?_ (fun _ => ?_))
      | exact spec_DrawValidDone.mono _ _
      | exact LeO.none _
      | refine LeO.ite ?_ ?_
      | refine LeO.bind ?_ (fun _ => ?_)
set_option maxHeartbeats 8000000 in
set_option maxRecDepth 100000 in
theorem spec_DrawProgressOf.calls (k : Nat) (A0 : Option Addr) (c0 : Nat) (l0 : List Int) (r1 : List (S48)) (r2 : List Int) (w : World) (hr0 : Kd.C (Kd.int .u8) w A0 l0.length l0) (hc0 : l0.length ≤ c0) (h : spec_DrawProgressOf.f k l0 = some (r1, r2)) :
    Calls Tryd.prog 25 #[.slice A0 l0.length c0] w fun e w' => ∃ v0_ v1_ : Value, e = .returned (.tuple #[v0_, v1_]) ∧ Kd.S k48 48 w' w.heap.size (fun k_ => some k_ ≠ (v1_ : Value).ownBlock) v0_ r1 ∧ Kd.Q (Kd.int .i64) 3 w' w.heap.size (fun _ => True) v1_ r2 ∧ Below w.heap.size w w' := by
  have HR0 := Aside0.mk hr0
  have HC0 := Aside0.mk hc0
  clear hr0 hc0
  have HB := Aside0.mk (Below.refl w.heap.size w)
  have H : ((spec_DrawValidDone.f k l0).bind fun bt457 => (some (bt457.1, bt457.2))) = some (r1, r2) := h
  clear h
  replace H := Option.bind_eq_some_iff.mp H
  obtain ⟨⟨t457, t458⟩, A20, H⟩ := H
  replace H : (some (t457, t458)) = some (r1, r2) := H
  have A2 := Aside0.mk A20
  clear A20
  simp only [Option.some.injEq, Prod.mk.injEq] at H
  obtain ⟨rfl, rfl⟩ := H
  go_enter Tryd.func25, Tryd.ntmps25
  go_wp2_with (first | ((with_reducible refine gate_callee (f := 69) rfl ?_); refine goesL_ (some 5) rfl rfl Tryd.func69 (by kernel_rfl) rfl #[.slice A0 l0.length c0] rfl (by (try simp only [List.map_toArray, List.map_cons, List.map_nil]); first | done | rfl | (simp only [List.length_drop, List.length_take]; rfl)) ?_; (with_reducible refine (spec_DrawValidDone.calls k _ _ l0 t457 t458 _ ?side1 ?side2 A2.out).mono ?_); (case side1 => repeat (first | exact HR0.out | (with_reducible refine Kd.C_alloc ?_ _) | (with_reducible refine Kd.C_drewN ?_ _) | (with_reducible refine Kd.C_drew ?_))); (case side2 => exact HC0.out); rintro e w3 ⟨v459, v461, rfl, ho0, ho1, hb⟩; refine ⟨_, rfl, ?_⟩; have n0_ := Aside0.mk (Kd.S_lower ho0 (below_size (by repeat (first | (with_reducible first | exact HB.out | apply below_alloc | apply pw_below_drewN | apply below_drew1) | exact HB.out)))); have n1_ := Aside0.mk (Kd.Q_lower ho1 (below_size (by repeat (first | (with_reducible first | exact HB.out | apply below_alloc | apply pw_below_drewN | apply below_drew1) | exact HB.out)))); have n2_ := Aside0.mk (below_step (by repeat (first | (with_reducible first | exact HB.out | apply below_alloc | apply pw_below_drewN | apply below_drew1) | exact HB.out)) hb); clear HB; have HO460 := n0_; have HO462 := n1_; have HB := n2_; clear n0_ n1_ n2_; (try clear hb); (try clear hb2); (try clear hk); (try clear hi); (try clear ho0); (try clear ho1)))
  go_ret2
  exact ⟨_, _, by first | rfl | (simp [errW_none, errW_some] <;> rfl) | (simp [*, errW_none, errW_some] <;> rfl), by (with_reducible repeat (first | apply Kd.S_alloc | apply Kd.S_drewN | apply Kd.S_drew)); exact HO460.out, by (with_reducible repeat (first | apply Kd.Q_alloc | apply Kd.Q_drewN | apply Kd.Q_drew)); exact HO462.out, by repeat (first | (with_reducible first | exact HB.out | apply below_alloc | apply pw_below_drewN | apply below_drew1) | exact HB.out)⟩
def spec_toInt.f (a0 : Bool) : Option (Int) := if a0 = true then (some 1) else (some 0)
set_option maxHeartbeats 8000000 in
set_option maxRecDepth 100000 in
theorem spec_toInt.calls (a0 : Bool) (r : Int) (w : World) (h : spec_toInt.f a0 = some r) :
    Calls Tryd.prog 74 #[.bool a0] w fun e w' => e = .returned (.int .i64 r) ∧ Drawn0 w w' := by
  have H : (if a0 = true then (some 1) else (some 0)) = some r := h
  clear h
  by_cases c2 : a0 = true
  · subst c2
    have H1 : (some 1) = some r := by rw [if_pos rfl] at H; exact H
    clear H
    have H := H1
    clear H1
    obtain rfl := Option.some.inj H
    go_enter Tryd.func74, Tryd.ntmps74
    go_wp2
    go_ret
    exact ⟨by first | rfl | (simp; done) | (simp [*]; done), by repeat (first | exact Drawn0.refl _ | apply Drawn0.step)⟩
  · replace c2 := Bool.eq_false_iff.mpr c2
    subst c2
    have H1 : (some 0) = some r := by rw [if_neg (show ¬ (false = true) by decide)] at H; exact H
    clear H
    have H := H1
    clear H1
    obtain rfl := Option.some.inj H
    go_enter Tryd.func74, Tryd.ntmps74
    go_wp2
    go_ret
    exact ⟨by first | rfl | (simp; done) | (simp [*]; done), by repeat (first | exact Drawn0.refl _ | apply Drawn0.step)⟩
end Go.Proofs.YtpibdjkajgfgjaaDoor.P
end
section
namespace Go.Proofs.YtpibdjkajgfgjaaDoor.P
open Go.RowKit Go.Proofs.YtpibdjkajgfgjaaDoorW.PrintWords Go.Proofs.YtpibdjkajgfgjaaDoorW.PrintLast Go.Proofs.YtpibdjkajgfgjaaDoorW.PrintMore
attribute [local go_sem] max2_int min2_int max_two min_two max_three min_three max_four min_four   -- for this text's walks alone
set_option linter.unusedVariables false
set_option linter.unusedSimpArgs false
def spec_ProgressOf.l0 : Nat → List (S48) → List Int → Int → Int → Int → Option (Int)
  | 0, _, _, _, _, _ => none
  | k + 1, x0, x1, x5, x6, x7 => if x7 < (x0.length : Int) then (if 0 ≤ x7 then ((spec_isIn.f k x1 x7).bind fun t466 => ((spec_toInt.f t466).bind fun t467 => (spec_ProgressOf.l0 k x0 x1 (wrap64 (x5 + (wrap64 (((rd_T48 x0 x7).f0) * t467)))) (wrap64 (x6 + ((rd_T48 x0 x7).f0))) (wrap64 (x7 + 1))))) else (none)) else (if x6 = 0 then (some 1000) else (some (wrap64 (Int.tdiv (wrap64 (1000 * x5)) x6))))
def spec_ProgressOf.f (k : Nat) (l0 : List (S48)) (l1 : List Int) : Option (Int) := (spec_validDone.f k l0 l1).bind fun t463 => (if t463 = true then (spec_ProgressOf.l0 k l0 l1 0 0 0) else (some (-1)))
theorem spec_ProgressOf.mono_l : ∀ k, (∀ y0 y1 y2 y3 y4, LeO (spec_ProgressOf.l0 k y0 y1 y2 y3 y4) (spec_ProgressOf.l0 (k + 1) y0 y1 y2 y3 y4))
  | 0 => fun _ _ _ _ _ r h => by simp [spec_ProgressOf.l0] at h
  | k + 1 => by
    have ih0 := spec_ProgressOf.mono_l k
    · intro y0 y1 y2 y3 y4
      unfold spec_ProgressOf.l0
      repeat' first
      | (with_reducible exact ih0 _ _ _ _ _)
      | (with_reducible exact spec_isIn.mono _ _ _)
      | (with_reducible exact spec_validDone.mono _ _ _)
      | (with_reducible exact LeO.refl _)
      | (with_reducible exact LeO.none _)
      | (with_reducible refine LeO.ite ?_ ?_)
      | (with_reducible refine LeO.bind ?_ (fun _ => ?_))
      | exact ih0 _ _ _ _ _
      | exact spec_isIn.mono _ _ _
      | exact spec_validDone.mono _ _ _
      | exact LeO.none _
      | refine LeO.ite ?_ ?_
      | refine LeO.bind ?_ (fun _ => ?_)
theorem spec_ProgressOf.mono : ∀ a0 a1 k, LeO (spec_ProgressOf.f k a0 a1) (spec_ProgressOf.f (k + 1) a0 a1) := by
  intro a0 a1 k
  have ih0 := spec_ProgressOf.mono_l k
  unfold spec_ProgressOf.f
  repeat' first
      | (with_reducible exact ih0 _ _ _ _ _)
      | (with_reducible exact spec_isIn.mono _ _ _)
      | (with_reducible exact spec_validDone.mono _ _ _)
      | (with_reducible exact LeO.refl _)
      | (with_reducible exact LeO.none _)
      | (with_reducible refine LeO.ite ?_ ?_)
      | (with_reducible refine LeO.bind ?_ (fun _ => ?_))
      | exact ih0 _ _ _ _ _
      | exact spec_isIn.mono _ _ _
      | exact spec_validDone.mono _ _ _
      | exact LeO.none _
      | refine LeO.ite ?_ ?_
      | refine LeO.bind ?_ (fun _ => ?_)
set_option maxHeartbeats 8000000 in
set_option maxRecDepth 100000 in
theorem spec_ProgressOf.calls (k : Nat) (A0 : Option Addr) (c0 : Nat) (l0 : List (S48)) (A1 : Option Addr) (c1 : Nat) (l1 : List Int) (r : Int) (w : World) (hr0 : Kd.C k48 w A0 l0.length l0) (hc0 : l0.length ≤ c0) (hr1 : Kd.C (Kd.int .i64) w A1 l1.length l1) (hc1 : l1.length ≤ c1) (h : spec_ProgressOf.f k l0 l1 = some r) :
    Calls Tryd.prog 27 #[.slice A0 l0.length c0, .slice A1 l1.length c1] w fun e w' => e = .returned (.int .i64 r) ∧ Below w.heap.size w w' := by
  have HR0 := Aside0.mk hr0
  have HC0 := Aside0.mk hc0
  clear hr0 hc0
  have HR1 := Aside0.mk hr1
  have HC1 := Aside0.mk hc1
  clear hr1 hc1
  have HB := Aside0.mk (Below.refl w.heap.size w)
  have H : ((spec_validDone.f k l0 l1).bind fun t463 => (if t463 = true then (spec_ProgressOf.l0 k l0 l1 0 0 0) else (some (-1)))) = some r := h
  clear h
  replace H := Option.bind_eq_some_iff.mp H
  obtain ⟨t463, A30, H⟩ := H
  replace H : (if t463 = true then (spec_ProgressOf.l0 k l0 l1 0 0 0) else (some (-1))) = some r := H
  have A3 := Aside0.mk A30
  clear A30
  by_cases c4 : t463 = true
  · subst c4
    have H1 : (spec_ProgressOf.l0 k l0 l1 0 0 0) = some r := by rw [if_pos rfl] at H; exact H
    clear H
    have H := H1
    clear H1
    have H' := Aside0.mk H
    clear H
    go_enter Tryd.func27, Tryd.ntmps27
    go_wp2_with (first | (go_at_call 73; (with_reducible refine (spec_validDone.calls k _ _ l0 _ _ l1 true _ ?side1 ?side2 ?side3 ?side4 A3.out).mono ?_); (case side1 => repeat (first | exact HR0.out | (with_reducible refine Kd.C_alloc ?_ _) | (with_reducible refine Kd.C_drewN ?_ _) | (with_reducible refine Kd.C_drew ?_))); (case side2 => exact HC0.out); (case side3 => repeat (first | exact HR1.out | (with_reducible refine Kd.C_alloc ?_ _) | (with_reducible refine Kd.C_drewN ?_ _) | (with_reducible refine Kd.C_drew ?_))); (case side4 => exact HC1.out); rintro e w5 ⟨rfl, hb⟩; have n0_ := Aside0.mk (below_step (by repeat (first | (with_reducible first | exact HB.out | apply below_alloc | apply pw_below_drewN | apply below_drew1) | exact HB.out)) hb); clear HB; have HB := n0_; clear n0_; (try clear hb); (try clear hb2); (try clear hk); (try clear hi)))
    repeat (go_quiet (first | (go_at_call 73; (with_reducible refine (spec_validDone.calls k _ _ l0 _ _ l1 true _ ?side1 ?side2 ?side3 ?side4 A3.out).mono ?_); (case side1 => repeat (first | exact HR0.out | (with_reducible refine Kd.C_alloc ?_ _) | (with_reducible refine Kd.C_drewN ?_ _) | (with_reducible refine Kd.C_drew ?_))); (case side2 => exact HC0.out); (case side3 => repeat (first | exact HR1.out | (with_reducible refine Kd.C_alloc ?_ _) | (with_reducible refine Kd.C_drewN ?_ _) | (with_reducible refine Kd.C_drew ?_))); (case side4 => exact HC1.out); rintro e w5 ⟨rfl, hb⟩; have n0_ := Aside0.mk (below_step (by repeat (first | (with_reducible first | exact HB.out | apply below_alloc | apply pw_below_drewN | apply below_drew1) | exact HB.out)) hb); clear HB; have HB := n0_; clear n0_; (try clear hb); (try clear hb2); (try clear hk); (try clear hi))); try go_wp2_with (first | (go_at_call 73; (with_reducible refine (spec_validDone.calls k _ _ l0 _ _ l1 true _ ?side1 ?side2 ?side3 ?side4 A3.out).mono ?_); (case side1 => repeat (first | exact HR0.out | (with_reducible refine Kd.C_alloc ?_ _) | (with_reducible refine Kd.C_drewN ?_ _) | (with_reducible refine Kd.C_drew ?_))); (case side2 => exact HC0.out); (case side3 => repeat (first | exact HR1.out | (with_reducible refine Kd.C_alloc ?_ _) | (with_reducible refine Kd.C_drewN ?_ _) | (with_reducible refine Kd.C_drew ?_))); (case side4 => exact HC1.out); rintro e w5 ⟨rfl, hb⟩; have n0_ := Aside0.mk (below_step (by repeat (first | (with_reducible first | exact HB.out | apply below_alloc | apply pw_below_drewN | apply below_drew1) | exact HB.out)) hb); clear HB; have HB := n0_; clear n0_; (try clear hb); (try clear hb2); (try clear hk); (try clear hi))))
    go_loopg [5, 6, 7] k (fun kq v5 v6 v7 w' => ∃ (x5_1 : Int) (x6_1 : Int) (x7_1 : Int), v5 = .int .i64 x5_1 ∧ v6 = .int .i64 x6_1 ∧ v7 = .int .i64 x7_1 ∧ Aside0 (spec_ProgressOf.l0 kq l0 l1 x5_1 x6_1 x7_1 = some r) ∧ Aside0 (kq ≤ k) ∧ Aside0 (Below w.heap.size w w'))
    case atStart => exact ⟨(0), (0), (0), (by first | rfl | (simp; done) | (simp [*]; done)), (by first | rfl | (simp; done) | (simp [*]; done)), (by first | rfl | (simp; done) | (simp [*]; done)), H', ⟨Nat.le_refl _⟩, ⟨by repeat (first | (with_reducible first | exact HB.out | apply below_alloc | apply pw_below_drewN | apply below_drew1) | exact HB.out)⟩⟩
    case round =>
      clear H'
      try clear c1
      try clear c2
      try clear p2
      try clear c4
      obtain ⟨x5_1, x6_1, x7_1, rfl, rfl, rfl, HA, HK1, HB⟩ := hrel
      cases gk with
      | zero => exact absurd HA.out (by simp [spec_ProgressOf.l0])
      | succ k1 =>
        have H := HA.out
        clear HA
        simp only [spec_ProgressOf.l0] at H
        by_cases c6 : x7_1 < (l0.length : Int)
        · rw [if_pos c6] at H
          have c6b0 : decide (x7_1 < (l0.length : Int)) = true := decide_eq_true c6
          clear c6
          by_cases c7 : 0 ≤ x7_1
          · rw [if_pos c7] at H
            have c7b0 : decide (0 ≤ x7_1) = true := decide_eq_true c7
            clear c7
            replace H := Option.bind_eq_some_iff.mp H
            obtain ⟨t466, A80, H⟩ := H
            replace H : ((spec_toInt.f t466).bind fun t467 => (spec_ProgressOf.l0 k1 l0 l1 (wrap64 (x5_1 + (wrap64 (((rd_T48 l0 x7_1).f0) * t467)))) (wrap64 (x6_1 + ((rd_T48 l0 x7_1).f0))) (wrap64 (x7_1 + 1)))) = some r := H
            have A8 := Aside0.mk A80
            clear A80
            replace H := Option.bind_eq_some_iff.mp H
            obtain ⟨t467, A90, H⟩ := H
            replace H : (spec_ProgressOf.l0 k1 l0 l1 (wrap64 (x5_1 + (wrap64 (((rd_T48 l0 x7_1).f0) * t467)))) (wrap64 (x6_1 + ((rd_T48 l0 x7_1).f0))) (wrap64 (x7_1 + 1))) = some r := H
            have A9 := Aside0.mk A90
            clear A90
            have H' := Aside0.mk H
            clear H
            have p464 : 0 ≤ (x7_1 : Int) := of_decide_eq_true (by first | (with_reducible assumption) | assumption)
            have q464 : x7_1 < (l0.length : Int) := of_decide_eq_true (by first | (with_reducible assumption) | assumption)
            obtain ⟨ad464, A464_1, c464_1, e464, hx464_0, hx464_1, hx464_2, hx464_3, hl464_1, hi464_1⟩ := at_T48 HR0.out x7_1 p464 q464
            cases e464
            replace hx464_0 := (HB.out.cell (World.block_lt_of_cell? w _ hx464_0)).trans hx464_0
            replace hx464_1 := (HB.out.cell (World.block_lt_of_cell? w _ hx464_1)).trans hx464_1
            replace hx464_2 := (HB.out.cell (World.block_lt_of_cell? w _ hx464_2)).trans hx464_2
            replace hx464_3 := (HB.out.cell (World.block_lt_of_cell? w _ hx464_3)).trans hx464_3
            have HR464_1 := Aside0.mk hi464_1
            have HC464_1 := Aside0.mk hl464_1
            clear hi464_1 hl464_1
            replace p464 := eq_true p464
            replace q464 := eq_true q464
            have p465 : 0 ≤ (x7_1 : Int) := of_decide_eq_true (by first | (with_reducible assumption) | assumption)
            have q465 : x7_1 < (l0.length : Int) := of_decide_eq_true (by first | (with_reducible assumption) | assumption)
            obtain ⟨ad465, A465_1, c465_1, e465, hx465_0, hx465_1, hx465_2, hx465_3, hl465_1, hi465_1⟩ := at_T48 HR0.out x7_1 p465 q465
            obtain rfl : ad464 = ad465 := (by injection e465)
            replace hx465_0 := (HB.out.cell (World.block_lt_of_cell? w _ hx465_0)).trans hx465_0
            replace hx465_1 := (HB.out.cell (World.block_lt_of_cell? w _ hx465_1)).trans hx465_1
            replace hx465_2 := (HB.out.cell (World.block_lt_of_cell? w _ hx465_2)).trans hx465_2
            replace hx465_3 := (HB.out.cell (World.block_lt_of_cell? w _ hx465_3)).trans hx465_3
            have HR465_1 := Aside0.mk hi465_1
            have HC465_1 := Aside0.mk hl465_1
            clear hi465_1 hl465_1
            replace p465 := eq_true p465
            replace q465 := eq_true q465
            have ea_ := Option.some.inj (hx464_1.symm.trans hx465_1)
            injection ea_ with ea_ en_ ec_
            subst ea_
            subst ec_
            clear en_
            go_wp2_with (first | (go_at_call 56; (with_reducible refine (spec_isIn.calls k1 _ _ l1 x7_1 t466 _ ?side1 ?side2 A8.out).mono ?_); (case side1 => repeat (first | exact (Kd.C_below HR1.out HB.out) | (with_reducible refine Kd.C_alloc ?_ _) | (with_reducible refine Kd.C_drewN ?_ _) | (with_reducible refine Kd.C_drew ?_))); (case side2 => exact HC1.out); rintro e w' ⟨rfl, ⟨nd, rfl⟩⟩; (try first | exact ⟨rfl, _, World.drewN_drewN _ _ _⟩ | exact ⟨rfl, _, Eq.trans (World.drewN_drewN _ _ _) (congrArg (World.drewN _) (Nat.add_assoc _ _ _))⟩)) | (go_at_call 74; (with_reducible refine (spec_toInt.calls t466 t467 _ A9.out).mono ?_); rintro e w' ⟨rfl, ⟨nd, rfl⟩⟩; (try first | exact ⟨rfl, _, World.drewN_drewN _ _ _⟩ | exact ⟨rfl, _, Eq.trans (World.drewN_drewN _ _ _) (congrArg (World.drewN _) (Nat.add_assoc _ _ _))⟩)))
            repeat (go_quiet (first | (go_at_call 56; (with_reducible refine (spec_isIn.calls k1 _ _ l1 x7_1 t466 _ ?side1 ?side2 A8.out).mono ?_); (case side1 => repeat (first | exact (Kd.C_below HR1.out HB.out) | (with_reducible refine Kd.C_alloc ?_ _) | (with_reducible refine Kd.C_drewN ?_ _) | (with_reducible refine Kd.C_drew ?_))); (case side2 => exact HC1.out); rintro e w' ⟨rfl, ⟨nd, rfl⟩⟩; (try first | exact ⟨rfl, _, World.drewN_drewN _ _ _⟩ | exact ⟨rfl, _, Eq.trans (World.drewN_drewN _ _ _) (congrArg (World.drewN _) (Nat.add_assoc _ _ _))⟩)) | (go_at_call 74; (with_reducible refine (spec_toInt.calls t466 t467 _ A9.out).mono ?_); rintro e w' ⟨rfl, ⟨nd, rfl⟩⟩; (try first | exact ⟨rfl, _, World.drewN_drewN _ _ _⟩ | exact ⟨rfl, _, Eq.trans (World.drewN_drewN _ _ _) (congrArg (World.drewN _) (Nat.add_assoc _ _ _))⟩))); try go_wp2_with (first | (go_at_call 56; (with_reducible refine (spec_isIn.calls k1 _ _ l1 x7_1 t466 _ ?side1 ?side2 A8.out).mono ?_); (case side1 => repeat (first | exact (Kd.C_below HR1.out HB.out) | (with_reducible refine Kd.C_alloc ?_ _) | (with_reducible refine Kd.C_drewN ?_ _) | (with_reducible refine Kd.C_drew ?_))); (case side2 => exact HC1.out); rintro e w' ⟨rfl, ⟨nd, rfl⟩⟩; (try first | exact ⟨rfl, _, World.drewN_drewN _ _ _⟩ | exact ⟨rfl, _, Eq.trans (World.drewN_drewN _ _ _) (congrArg (World.drewN _) (Nat.add_assoc _ _ _))⟩)) | (go_at_call 74; (with_reducible refine (spec_toInt.calls t466 t467 _ A9.out).mono ?_); rintro e w' ⟨rfl, ⟨nd, rfl⟩⟩; (try first | exact ⟨rfl, _, World.drewN_drewN _ _ _⟩ | exact ⟨rfl, _, Eq.trans (World.drewN_drewN _ _ _) (congrArg (World.drewN _) (Nat.add_assoc _ _ _))⟩))))
            go_roundg k1
            case measure => have := HK1.out; omega
            case rel => exact ⟨(wrap64 (x5_1 + (wrap64 (((rd_T48 l0 x7_1).f0) * t467)))), (wrap64 (x6_1 + ((rd_T48 l0 x7_1).f0))), (wrap64 (x7_1 + 1)), (by first | rfl | (simp; done) | (simp [*]; done)), (by first | rfl | (simp; done) | (simp [*]; done)), (by first | rfl | (simp; done) | (simp [*]; done)), H', ⟨by have := HK1.out; omega⟩, ⟨by repeat (first | (with_reducible first | exact HB.out | apply below_alloc | apply pw_below_drewN | apply below_drew1) | exact HB.out)⟩⟩
          · rw [if_neg c7] at H
            exact absurd H (by simp)
        · rw [if_neg c6] at H
          have c6b0 : decide (x7_1 < (l0.length : Int)) = false := decide_eq_false c6
          clear c6
          by_cases c10 : x6_1 = 0
          · rw [if_pos c10] at H
            have c10b0 : (x6_1 == 0) = true := beq_iff_eq.mpr c10
            have c10b1 : (x6_1 != 0) = false := bne_eq_false_iff_eq.mpr c10
            clear c10
            obtain rfl := Option.some.inj H
            go_wp2
            repeat (go_quiet (fail); try go_wp2)
            go_ret
            exact ⟨by first | rfl | (simp [errW_none, errW_some] <;> rfl) | (simp [*, errW_none, errW_some] <;> rfl), by repeat (first | (with_reducible first | exact HB.out | apply below_alloc | apply pw_below_drewN | apply below_drew1) | exact HB.out)⟩
          · rw [if_neg c10] at H
            have c10b0 : (x6_1 == 0) = false := beq_eq_false_iff_ne.mpr c10
            have c10b1 : (x6_1 != 0) = true := bne_iff_ne.mpr c10
            obtain rfl := Option.some.inj H
            go_wp2
            repeat (go_quiet (fail); try go_wp2)
            go_ret
            exact ⟨by first | rfl | (simp [errW_none, errW_some] <;> rfl) | (simp [*, errW_none, errW_some] <;> rfl), by repeat (first | (with_reducible first | exact HB.out | apply below_alloc | apply pw_below_drewN | apply below_drew1) | exact HB.out)⟩
  · replace c4 := Bool.eq_false_iff.mpr c4
    subst c4
    have H1 : (some (-1)) = some r := by rw [if_neg (show ¬ (false = true) by decide)] at H; exact H
    clear H
    have H := H1
    clear H1
    obtain rfl := Option.some.inj H
    go_enter Tryd.func27, Tryd.ntmps27
    go_wp2_with (first | (go_at_call 73; (with_reducible refine (spec_validDone.calls k _ _ l0 _ _ l1 false _ ?side1 ?side2 ?side3 ?side4 A3.out).mono ?_); (case side1 => repeat (first | exact HR0.out | (with_reducible refine Kd.C_alloc ?_ _) | (with_reducible refine Kd.C_drewN ?_ _) | (with_reducible refine Kd.C_drew ?_))); (case side2 => exact HC0.out); (case side3 => repeat (first | exact HR1.out | (with_reducible refine Kd.C_alloc ?_ _) | (with_reducible refine Kd.C_drewN ?_ _) | (with_reducible refine Kd.C_drew ?_))); (case side4 => exact HC1.out); rintro e w11 ⟨rfl, hb⟩; have n0_ := Aside0.mk (below_step (by repeat (first | (with_reducible first | exact HB.out | apply below_alloc | apply pw_below_drewN | apply below_drew1) | exact HB.out)) hb); clear HB; have HB := n0_; clear n0_; (try clear hb); (try clear hb2); (try clear hk); (try clear hi)))
    repeat (go_quiet (first | (go_at_call 73; (with_reducible refine (spec_validDone.calls k _ _ l0 _ _ l1 false _ ?side1 ?side2 ?side3 ?side4 A3.out).mono ?_); (case side1 => repeat (first | exact HR0.out | (with_reducible refine Kd.C_alloc ?_ _) | (with_reducible refine Kd.C_drewN ?_ _) | (with_reducible refine Kd.C_drew ?_))); (case side2 => exact HC0.out); (case side3 => repeat (first | exact HR1.out | (with_reducible refine Kd.C_alloc ?_ _) | (with_reducible refine Kd.C_drewN ?_ _) | (with_reducible refine Kd.C_drew ?_))); (case side4 => exact HC1.out); rintro e w11 ⟨rfl, hb⟩; have n0_ := Aside0.mk (below_step (by repeat (first | (with_reducible first | exact HB.out | apply below_alloc | apply pw_below_drewN | apply below_drew1) | exact HB.out)) hb); clear HB; have HB := n0_; clear n0_; (try clear hb); (try clear hb2); (try clear hk); (try clear hi))); try go_wp2_with (first | (go_at_call 73; (with_reducible refine (spec_validDone.calls k _ _ l0 _ _ l1 false _ ?side1 ?side2 ?side3 ?side4 A3.out).mono ?_); (case side1 => repeat (first | exact HR0.out | (with_reducible refine Kd.C_alloc ?_ _) | (with_reducible refine Kd.C_drewN ?_ _) | (with_reducible refine Kd.C_drew ?_))); (case side2 => exact HC0.out); (case side3 => repeat (first | exact HR1.out | (with_reducible refine Kd.C_alloc ?_ _) | (with_reducible refine Kd.C_drewN ?_ _) | (with_reducible refine Kd.C_drew ?_))); (case side4 => exact HC1.out); rintro e w11 ⟨rfl, hb⟩; have n0_ := Aside0.mk (below_step (by repeat (first | (with_reducible first | exact HB.out | apply below_alloc | apply pw_below_drewN | apply below_drew1) | exact HB.out)) hb); clear HB; have HB := n0_; clear n0_; (try clear hb); (try clear hb2); (try clear hk); (try clear hi))))
    go_ret
    exact ⟨by first | rfl | (simp [errW_none, errW_some] <;> rfl) | (simp [*, errW_none, errW_some] <;> rfl), by repeat (first | (with_reducible first | exact HB.out | apply below_alloc | apply pw_below_drewN | apply below_drew1) | exact HB.out)⟩
end Go.Proofs.YtpibdjkajgfgjaaDoor.P
end
section
set_option linter.unusedVariables false
set_option linter.unusedSimpArgs false
namespace Go.Proofs.YtpibdjkajgfgjaaDoor.Core
open Go Go.RowKit Go.Shelf Go.Proofs.YtpibdjkajgfgjaaDoorW.PrintWords Go.Proofs.YtpibdjkajgfgjaaDoorW.PrintMore Go.Proofs.YtpibdjkajgfgjaaDoor.P
attribute [local go_sem] Oper.semAt_some wide_fn wide_depth
theorem needsGo_taskOk {n : Nat} : ∀ {r : List Tk} {N : List Nat}, needsGo n r = some N → ∀ t ∈ r, taskOk t
  | [], _, _, t, ht => by cases ht
  | a :: r, N, h, t, ht => by
    rw [needsGo] at h
    cases he : setD n a.f1 with
    | none => rw [he] at h; cases h
    | some s =>
      rw [he] at h
      by_cases hok : taskOk a
      · simp only [hok, if_true] at h
        cases hg : needsGo n r with
        | none => rw [hg] at h; cases h
        | some M =>
          rcases List.mem_cons.1 ht with rfl | ht
          · exact hok
          · exact needsGo_taskOk hg t ht
      · simp [hok] at h
theorem graphD_taskOk {g : List Tk} {G : GD} (h : graphD g = some G) : ∀ t ∈ g, taskOk t := by
  obtain ⟨N, hN, _, _⟩ := graphD_spec h
  unfold needsD at hN
  by_cases h8 : g.length ≤ 8
  · rw [if_pos h8] at hN; exact needsGo_taskOk hN
  · rw [if_neg h8] at hN; cases hN
theorem within_is (x a b : Int) (t : Bool) (w : World) (h : decide (a ≤ x ∧ x ≤ b) = t) :
    Calls Tryd.prog 64 #[.int .i64 x, .int .i64 a, .int .i64 b] w fun e w' => e = .returned (.bool t) ∧ Below w.heap.size w w' :=
  (impl_within.calls x a b t w (by rw [within_eq, h])).mono fun e w' h => ⟨h.1, drawn_below h.2⟩
end Go.Proofs.YtpibdjkajgfgjaaDoor.Core
end
section
set_option linter.unusedVariables false
set_option linter.unusedSimpArgs false
namespace Go.Proofs.YtpibdjkajgfgjaaDoor.Core
open Go Go.RowKit Go.Proofs.YtpibdjkajgfgjaaDoorW.PrintWords Go.Proofs.YtpibdjkajgfgjaaDoorW.PrintMore Go.Proofs.YtpibdjkajgfgjaaDoor.P
/-- The time of a task. -/
def tmN (g : List Tk) (i : Nat) : Nat := (g.getD i z48).f0.toNat
theorem getD_set_ne {L : List Nat} {i j x : Nat} (h : j ≠ i) : (L.set i x).getD j 0 = L.getD j 0 := by
  rw [List.getD_eq_getElem?_getD, List.getElem?_set_ne (Ne.symm h), ← List.getD_eq_getElem?_getD]
def tm20 (g : List Tk) : Prop := ∀ i, tmN g i ≤ 20
end Go.Proofs.YtpibdjkajgfgjaaDoor.Core
end
section
set_option linter.unusedVariables false
set_option linter.unusedSimpArgs false
namespace Go.Proofs.YtpibdjkajgfgjaaDoor.Core
open Go Go.RowKit Go.Proofs.YtpibdjkajgfgjaaDoorW.PrintWords Go.Proofs.YtpibdjkajgfgjaaDoorW.PrintMore Go.Proofs.YtpibdjkajgfgjaaDoor.P
theorem i64_w' (n : Int) : IntKind.i64.wrap n = Go.RowKit.wrap64 n := by unfold Go.RowKit.wrap64; exact IntKind.wrap_i64 n
theorem tm20_of {g : List Tk} (h : ∀ t ∈ g, taskOk t) : tm20 g := by
  intro i
  unfold tmN
  rw [List.getD_eq_getElem?_getD]
  cases e : g[i]? with
  | none => simp [z48]
  | some t =>
    have := (h t (List.mem_of_getElem? e)).1
    simp only [Option.getD_some]
    omega
theorem tm_int {g : List Tk} (h : ∀ t ∈ g, taskOk t) {i : Nat} (hi : i < g.length) : (g.getD i z48).f0 = (tmN g i : Int) ∧ 1 ≤ tmN g i ∧ tmN g i ≤ 20 := by
  have hm : g.getD i z48 ∈ g := by
    rw [List.getD_eq_getElem?_getD, List.getElem?_eq_getElem hi]
    exact List.getElem_mem hi
  have := (h _ hm).1
  unfold tmN
  omega
/-- Sums and greatest ones of small numbers, as the program reckons them. -/
theorem wadd {a b : Nat} (ha : a ≤ 100000) (hb : b ≤ 100000) : wrap64 ((a : Int) + (b : Int)) = ((a + b : Nat) : Int) ∧ IntKind.i64.wrap ((a : Int) + (b : Int)) = ((a + b : Nat) : Int) := by
  have h : wrap64 ((a : Int) + (b : Int)) = ((a + b : Nat) : Int) := by rw [w64 (by omega) (by omega)]; omega
  exact ⟨h, by rw [i64_w']; exact h⟩
end Go.Proofs.YtpibdjkajgfgjaaDoor.Core
end
section
set_option linter.unusedVariables false
set_option linter.unusedSimpArgs false
namespace Go.Proofs.YtpibdjkajgfgjaaDoor.Core
open Go Go.RowKit Go.Shelf Go.Proofs.YtpibdjkajgfgjaaDoorW.PrintWords Go.Proofs.YtpibdjkajgfgjaaDoorW.PrintLast Go.Proofs.YtpibdjkajgfgjaaDoorW.PrintMore Go.Proofs.YtpibdjkajgfgjaaDoor.P
attribute [local go_sem] Oper.semAt_some wide_fn wide_depth
def totL (g : List Tk) (L : List Nat) : Nat := (L.map (tmN g)).sum
def totalN (g : List Tk) (s : Nat) : Nat := totL g (elemsN s)
theorem totL_snoc (g : List Tk) (L : List Nat) (i : Nat) : totL g (L ++ [i]) = totL g L + tmN g i := by simp [totL]
theorem totL_le {g : List Tk} (h : tm20 g) : ∀ L, totL g L ≤ L.length * 20
  | [] => by simp [totL]
  | i :: L => by
    have := totL_le h L
    have := h i
    simp only [totL, List.map_cons, List.sum_cons, List.length_cons] at *
    omega
set_option maxRecDepth 100000 in
set_option maxHeartbeats 2000000 in
theorem total_calls (b : Nat) (G : GD) (s : Nat) (w : World) (hT : Tab w) (hg : IsG w b G) (h8 : G.tasks.length ≤ 8) (htk : ∀ t ∈ G.tasks, taskOk t) (hs : s < 2 ^ G.tasks.length) :
    Calls Tryd.prog 71 #[.pointer (some ⟨b, 0, none⟩), .int .u16 (s : Int)] w fun e w' => e = .returned (.int .i64 ((totalN G.tasks s : Nat) : Int)) ∧ Below w.heap.size w w' := by
  have hs256 : s < 256 := Nat.lt_of_lt_of_le hs (pow8 h8)
  refine calls_marks Tryd.func71 rfl ?_
  simp only [Tryd.ntmps71, List.size_toArray, List.length_cons, List.length_nil, Nat.reduceAdd, Nat.reduceSub, Array.replicate_succ, Array.replicate_zero, List.push_toArray, List.append_toArray, List.nil_append, List.cons_append]
  go_wp2_with (go_at_call 79; refine (all_calls s _).mono ?_; rintro e w' ⟨rfl, rfl⟩)
  have o1 : (w.alloc (.cells #[.pointer (some ⟨b, 0, none⟩)] 63)).heap.size = w.heap.size + 1 := by simp
  have x1 := Boxed.new w 63 (.pointer (some ⟨b, 0, none⟩))
  have B1 := (Below.refl w.heap.size w).alloc (Nat.le_refl _) (.cells #[.pointer (some ⟨b, 0, none⟩)] 63)
  revert o1 x1 B1
  generalize w.alloc (.cells #[.pointer (some ⟨b, 0, none⟩)] 63) = w1
  intro o1 x1 B1
  have u2 := Boxed.new w1 3 (.int .i64 0)
  rw [o1] at u2
  have o2 : (w1.alloc (.cells #[.int .i64 0] 3)).heap.size = w.heap.size + 1 + 1 := by simp [o1]
  have x2 := x1.alloc (.cells #[.int .i64 0] 3)
  have B2 := B1.alloc (by omega) (.cells #[.int .i64 0] 3)
  revert u2 o2 x2 B2
  generalize w1.alloc (.cells #[.int .i64 0] 3) = w2
  intro u2 o2 x2 B2
  clear o1 B1 x1
  have s3 := Boxed.new w2 67 (.int .u16 (s : Int))
  rw [o2] at s3
  have o3 : (w2.alloc (.cells #[.int .u16 (s : Int)] 67)).heap.size = w.heap.size + 1 + 1 + 1 := by simp [o2]
  have x3 := x2.alloc (.cells #[.int .u16 (s : Int)] 67)
  have u3 := u2.alloc (.cells #[.int .u16 (s : Int)] 67)
  have B3 := B2.alloc (by omega) (.cells #[.int .u16 (s : Int)] 67)
  revert s3 o3 x3 u3 B3
  generalize w2.alloc (.cells #[.int .u16 (s : Int)] 67) = w3
  intro s3 o3 x3 u3 B3
  clear o2 B2 x2 u2
  have hle : w.heap.size ≤ w3.heap.size := B3.size
  have htot : totalN G.tasks s = totL G.tasks (elemsN s) := rfl
  refine wp_rangeSet Tab.tame (w := w3) (w0 := w3) (p := 9) (d := 6) rfl (enters_of Tryd.func111 (by kernel_rfl) rfl)
    (all_seq (w.heap.size + 1 + 1) s hs256 w3 (hT.of B3) s3.cell) (Below.refl _ _) (by simp)
    (fun ys W' => ∃ zs : List Nat, ys = up zs ∧ Boxed W' (w.heap.size + 1) 3 (.int .i64 ((totL G.tasks zs : Nat) : Int)) ∧ Boxed W' w.heap.size 63 (.pointer (some ⟨b, 0, none⟩)) ∧ Below w.heap.size w W' ∧ w3.heap.size ≤ W'.heap.size) (fun _ _ _ => False)
    (ownFrom_tame (fun ys W' W'' ht ⟨zs, a, c, d, e, f⟩ => ⟨zs, a, ht.boxed c, ht.boxed d, ht.below e (Nat.le_refl _) hle, Nat.le_trans f ht.size⟩)) (fun _ => ownFrom_tame (fun _ _ _ _ h => h))
    ⟨[], rfl, u3, x3, B3, Nat.le_refl _⟩ (fun ys W' ⟨_, _, _, _, h, _⟩ => hT.of h) ?body ?done (fun _ _ _ _ _ h _ => h.elim)
  case body =>
    rintro l pre1 x W1 hx ⟨zs, rfl, hu, hxb, hB, hsz⟩ hlt1
    gi_wp2
    obtain ⟨k0, hxk, hk8, _⟩ := mem_elems.1 hx
    have hkn : k0 < G.tasks.length := by have := elems_lt hs hx; omega
    have hzl : zs.length < 16 := by rwa [up_length] at hlt1
    refine wpIn_still_tail 10 rfl (by kernel_rfl) (by kernel_rfl) (fun ⟨_, _, h⟩ => h) ?_
    change wpStill _ _ W1.drew (fun a' => wpList _ _ _ _ a' W1.drew) _ _
    have hdr : Below W1.heap.size W1 W1.drew := below_drew (Below.refl _ _)
    have hko := KeepsOthers.drew W1
    revert hdr hko
    generalize W1.drew = Wd
    intro hdr hko
    have hu4 : Boxed Wd (w.heap.size + 1) 3 (.int .i64 ((totL G.tasks zs : Nat) : Int)) := (hdr.block _ hu.lt).trans hu
    have hxb4 : Boxed Wd w.heap.size 63 (.pointer (some ⟨b, 0, none⟩)) := (hdr.block _ hxb.lt).trans hxb
    have hBd := below_step hB hdr
    have hgd := hg.move hBd
    obtain ⟨A, c, hc0, hcl, hC⟩ := hgd.tasks
    have p0 : 0 ≤ x := by omega
    have q0 : x < (G.tasks.length : Int) := by omega
    obtain ⟨ad, A1, c1, e0, h0, h1, h2, h3, h4, h5⟩ := at_T48 hC x p0 q0
    subst e0
    have hrd : rd_T48 G.tasks x = G.tasks.getD k0 z48 := by rw [hxk]; simp [rd_T48]
    have htm := tm_int htk hkn
    rw [hrd, htm.1] at h0
    have hle1 := totL_le (tm20_of htk) zs
    have hstep := totL_snoc G.tasks zs k0
    have hadd : IntKind.i64.wrap (((totL G.tasks zs : Nat) : Int) + (tmN G.tasks k0 : Int)) = ((totL G.tasks (zs ++ [k0]) : Nat) : Int) := by rw [i64_w, w64 (by omega) (by omega), hstep]; omega
    have hadd2 : wrap64 (((totL G.tasks zs : Nat) : Int) + (tmN G.tasks k0 : Int)) = ((totL G.tasks (zs ++ [k0]) : Nat) : Int) := by rw [w64 (by omega) (by omega), hstep]; omega
    generalize ((totL G.tasks zs : Nat) : Int) = tz at hu4 hadd hadd2
    generalize htz2 : ((totL G.tasks (zs ++ [k0]) : Nat) : Int) = tz2 at hadd hadd2
    have HTZ := Aside0.mk htz2
    clear htz2
    generalize (tmN G.tasks k0 : Int) = tm at h0 hadd hadd2
    replace p0 := eq_true p0
    replace q0 := eq_true q0
    have hcu := hu4.cell
    have hfu := hu4.frozen
    have hcx := hxb4.cell
    have HX := Aside0.mk hxk
    clear hxk hx hgd hC hlt1 h1 h2 h3 h4 h5 hrd htm hle1 hstep hcl hzl hkn
    simp only [List.take_succ_cons, List.take_zero, List.drop_succ_cons, List.drop_zero]
    repeat still_step
    refine wpStill_nil ?_
    go_wp2
    have hgr := grownBy_setCell' Wd (w.heap.size + 1) (.int .i64 tz2)
    refine ⟨(hko.trans (KeepsOthers.setCell _ _ _)).from _, zs ++ [k0], ?_, ?_, ?_, ?_, ?_⟩
    · rw [HX.out]; simp [up]
    · rw [HTZ.out]; exact hu4.set _
    · exact hxb4.kept hgr (fun e => by injection e with e; omega)
    · exact below_put hgr hBd (Nat.le_refl _) (by omega)
    · have h1 := hgr.size; have h3 := hdr.size; omega
  case done =>
    rintro D W2 hD ⟨zs, hzs, hu, hxb, hB, hsz⟩ hk
    obtain rfl : elemsN s = zs := up_inj hzs
    have hm := (Marks.nil w.heap.size w3.heap.size W2).cons hD (by omega) hk
    rw [← htot] at hu
    have hcu := hu.cell
    clear hzs hk htot
    go_wp2
    refine leave_ret hm (fun W => results_tmp rfl _ _ _) ?_
    intro W' ht
    exact ⟨rfl, ht.below hB (Nat.le_refl _) (Nat.le_refl _)⟩
end Go.Proofs.YtpibdjkajgfgjaaDoor.Core
end
section
set_option linter.unusedVariables false
set_option linter.unusedSimpArgs false
namespace Go.Proofs.YtpibdjkajgfgjaaDoor.Core
open Go Go.RowKit Go.Shelf Go.Proofs.YtpibdjkajgfgjaaDoorW.PrintWords Go.Proofs.YtpibdjkajgfgjaaDoorW.PrintLast Go.Proofs.YtpibdjkajgfgjaaDoorW.PrintMore Go.Proofs.YtpibdjkajgfgjaaDoor.P
attribute [local go_sem] Oper.semAt_some wide_fn wide_depth
/-- The slice lies in its box, and its row in the world. -/
def BwT (Bn : Nat) (A : Option Addr) (c : Nat) (xs : List Int) (W : World) : Prop := Boxed W Bn 23 (.slice A xs.length c) ∧ (Kd.int .i64).C W A xs.length xs
theorem BwT.tame {Bn : Nat} {A : Option Addr} {c : Nat} {xs : List Int} {B : Nat} {W W' : World} (hB : ∀ W W', Tame B W W' → (Kd.int .i64).C W A xs.length xs → (Kd.int .i64).C W' A xs.length xs) (h : BwT Bn A c xs W) (ht : Tame B W W') : BwT Bn A c xs W' :=
  ⟨ht.boxed h.1, hB W W' ht h.2⟩
theorem Tame.cell {B : Nat} {W W' : World} {a : Addr} {v : Value} (h : Tame B W W') (hc : W.cell? a = some v) : W'.cell? a = some v := by
  obtain ⟨o, ho, hoc⟩ := cells_of_cell hc
  cases o with
  | cells cs t fr => exact (World.cell?_of_block (w := W) (w' := W') (a := a) (h.block _ (World.block_lt_of_cell? W _ hc) (.inr ⟨_, _, _, ho⟩))).trans hc
  | _ => cases hoc
theorem Tame.alloc (B : Nat) (W : World) (o : Obj) : Tame B W (W.alloc o) := ⟨rfl, rfl, rfl, (KeepsOthers.alloc W o).size, fun k hk _ => (World.grownBy_alloc W o none).block k hk (by simp)⟩
end Go.Proofs.YtpibdjkajgfgjaaDoor.Core
end
section
set_option linter.unusedVariables false
set_option linter.unusedSimpArgs false
namespace Go.Proofs.YtpibdjkajgfgjaaDoor.Core
open Go Go.RowKit Go.Shelf Go.Proofs.YtpibdjkajgfgjaaDoorW.PrintWords Go.Proofs.YtpibdjkajgfgjaaDoorW.PrintLast Go.Proofs.YtpibdjkajgfgjaaDoorW.PrintMore Go.Proofs.YtpibdjkajgfgjaaDoor.P
attribute [local go_sem] Oper.semAt_some wide_fn wide_depth max2_int max_two
def icells (L : List Nat) : Array Value := (L.map fun (x : Nat) => Value.int .i64 (x : Int)).toArray
theorem iset {W : World} {p t : Nat} {L : List Nat} (h : W.heap[p]? = some (.cells (icells L) t (0, 0))) (i x : Nat) : (W.setCell ⟨p, i, none⟩ (.int .i64 (x : Int))).heap[p]? = some (.cells (icells (L.set i x)) t (0, 0)) := by
  rw [blk_set h i _]
  congr 2
  apply Array.ext'
  simp [icells, List.map_set]
/-- What the loops hold: the row, its variable; the rest as it was. -/
structure SI (w0 : World) (p pO n : Nat) (W : World) (L : List Nat) : Prop where
  row : W.heap[p]? = some (.cells (icells L) 3 (0, 0))
  box : Boxed W pO 23 (.slice (some ⟨p, 0, none⟩) n n)
  below : Below w0.heap.size w0 W
theorem SI.tame {w0 W W' : World} {p pO n B : Nat} {L : List Nat} (h : SI w0 p pO n W L) (hb : w0.heap.size ≤ B) (ht : Tame B W W') : SI w0 p pO n W' L := ⟨ht.cells h.row, ht.boxed h.box, ht.below h.below (Nat.le_refl _) hb⟩
theorem SI.move {w0 W W' : World} {p pO n : Nat} {L : List Nat} (h : SI w0 p pO n W L) (hb : Below W.heap.size W W') : SI w0 p pO n W' L := ⟨(hb.block _ (cells_lt h.row)).trans h.row, (hb.block _ h.box.lt).trans h.box, below_step h.below hb⟩
theorem SI.alloc {w0 W : World} {p pO n : Nat} {L : List Nat} (h : SI w0 p pO n W L) (o : Obj) : SI w0 p pO n (W.alloc o) L := h.move ((Below.refl W.heap.size W).alloc (Nat.le_refl _) o)
theorem SI.set {w0 W : World} {p pO n : Nat} {L : List Nat} (h : SI w0 p pO n W L) (hp : w0.heap.size ≤ p) (hne : pO ≠ p) (i x : Nat) : SI w0 p pO n (W.setCell ⟨p, i, none⟩ (.int .i64 (x : Int))) (L.set i x) := ⟨iset h.row i x, (sother _ hne).trans h.box, h.below.setCell (p := ⟨p, i, none⟩) hp _⟩
end Go.Proofs.YtpibdjkajgfgjaaDoor.Core
end
