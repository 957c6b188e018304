/- The law FnTimeLeft holds of the given program: the proof's own part, with its row and its card, part 2 of 7. -/
import Derived.Test.YtpibdjkajgfgjaaDoorZFnTimeLeft1
import Derived.Laws.BitsAllLaws
import Derived.KernelRfl
import Derived.RangeFuncNested
import Derived.RangeFuncBound
import Derived.RangeFuncCalls
import Derived.RangeFuncLeaves
import Derived.Shelf.Abstract
import Derived.Shelf.RegionOpen
import Derived.WalkKit
import Derived.OwnWalkIn
import Derived.TacticsInMore
import Derived.LoopNIn
import Derived.LoopIn
import Derived.StillTailTactics
import Derived.OrdersIn
import Derived.Test.YtpibdjkajgfgjaaDoorProg
import Derived.Laws.BitsLemmas
import Derived.Lib.Hide
section
set_option linter.unusedVariables false
set_option linter.unusedSimpArgs false
namespace Go.Proofs.YtpibdjkajgfgjaaDoor.Core
open Go
end Go.Proofs.YtpibdjkajgfgjaaDoor.Core
namespace Go.Proofs.YtpibdjkajgfgjaaDoor.Core
open Go Go.RowKit Go.Shelf
attribute [local go_sem] Oper.semAt_some
end Go.Proofs.YtpibdjkajgfgjaaDoor.Core
namespace Go.Proofs.YtpibdjkajgfgjaaDoor.Core
open Go Go.RowKit Go.Shelf
attribute [local go_sem] Oper.semAt_some wide_fn wide_depth
end Go.Proofs.YtpibdjkajgfgjaaDoor.Core
namespace Go.Proofs.YtpibdjkajgfgjaaDoor.Core
open Go Go.RowKit Go.Proofs.YtpibdjkajgfgjaaDoorW.PrintWords
theorem _root_.Go.Proofs.YtpibdjkajgfgjaaDoorW.PrintWords.Kd.R_ownTyped {α : Type} {d : Kd α} {e : Nat} {w : World} {base : Nat} {ok : Nat → Prop} {v : Value} {xs : List α} (h : d.R e w base ok v xs) : ∀ k, v.ownBlock = some k → ∃ cs t, w.heap[k]? = some (.cells cs t (0, 0)) := fun k hk => by
  obtain ⟨_, ho⟩ := Kd.R_own h
  obtain ⟨cs, hc⟩ := own_typed ho k hk
  exact ⟨cs, e, hc⟩
end Go.Proofs.YtpibdjkajgfgjaaDoor.Core
end
section
namespace Go.Proofs.YtpibdjkajgfgjaaDoor.P
open Go.RowKit Go.Proofs.YtpibdjkajgfgjaaDoorW.PrintWords Go.Proofs.YtpibdjkajgfgjaaDoorW.PrintLast Go.Proofs.YtpibdjkajgfgjaaDoorW.PrintMore
attribute [local go_sem] max2_int min2_int max_two min_two max_three min_three max_four min_four   -- for this text's walks alone
set_option linter.unusedVariables false
set_option linter.unusedSimpArgs false
def impl_longest.l0 : Nat → Int → List Int → Int → Int → Option (Int)
  | 0, _, _, _, _ => none
  | k + 1, x3, x6, x7, x8 => if x8 < x7 then (if 0 ≤ x8 then (if x8 < (x6.length : Int) then (impl_longest.l0 k (mx x3 (rd x6 x8)) x6 x7 (wrap64 (x8 + 1))) else (none)) else (none)) else (some x3)
def impl_longest.f (k : Nat) (l0 : List Int) : Option (Int) := impl_longest.l0 k 0 l0 (l0.length : Int) 0
set_option maxHeartbeats 8000000 in
set_option maxRecDepth 100000 in
theorem impl_longest.calls (k : Nat) (A0 : Option Addr) (c0 : Nat) (l0 : List Int) (r : Int) (w : World) (hr0 : Kd.C (Kd.int .i64) w A0 l0.length l0) (hc0 : l0.length ≤ c0) (h : impl_longest.f k l0 = some r) :
    Calls Tryd.prog 95 #[.slice A0 l0.length c0] w fun e w' => e = .returned (.int .i64 r) ∧ Below w.heap.size w w' := by
  have HR0 := Aside0.mk hr0
  have HC0 := Aside0.mk hc0
  clear hr0 hc0
  have HB := Aside0.mk (Below.refl w.heap.size w)
  have H : (impl_longest.l0 k 0 l0 (l0.length : Int) 0) = some r := h
  clear h
  have H' := Aside0.mk H
  clear H
  go_enter Tryd.func95, Tryd.ntmps95
  go_wp2
  go_loopg [3, 8] k (fun kq v3 v8 w' => ∃ (x3_1 : Int) (x8_1 : Int), v3 = .int .i64 x3_1 ∧ v8 = .int .i64 x8_1 ∧ Aside0 (impl_longest.l0 kq x3_1 l0 (l0.length : Int) x8_1 = some r) ∧ Aside0 (kq ≤ k) ∧ Aside0 (Below w.heap.size w w'))
  case atStart => exact ⟨(0), (0), (by first | rfl | (simp; done) | (simp [*]; done)), (by first | rfl | (simp; done) | (simp [*]; done)), H', ⟨Nat.le_refl _⟩, ⟨by repeat (first | (with_reducible first | exact HB.out | apply below_alloc | apply pw_below_drewN | apply below_drew1) | exact HB.out)⟩⟩
  case round =>
    clear H'
    obtain ⟨x3_1, x8_1, rfl, rfl, HA, HK1, HB⟩ := hrel
    cases gk with
    | zero => exact absurd HA.out (by simp [impl_longest.l0])
    | succ k1 =>
      have H := HA.out
      clear HA
      simp only [impl_longest.l0] at H
      by_cases c2 : x8_1 < (l0.length : Int)
      · rw [if_pos c2] at H
        have c2b0 : decide (x8_1 < (l0.length : Int)) = true := decide_eq_true c2
        clear c2
        by_cases c3 : 0 ≤ x8_1
        · rw [if_pos c3] at H
          have c3b0 : decide (0 ≤ x8_1) = true := decide_eq_true c3
          clear c3
          by_cases c4 : x8_1 < (l0.length : Int)
          · rw [if_pos c4] at H
            have c4b0 : decide (x8_1 < (l0.length : Int)) = true := decide_eq_true c4
            clear c4
            obtain ⟨ji5, hji5⟩ : ∃ j_ : Int, (mx x3_1 (rd l0 x8_1)) = j_ := ⟨_, rfl⟩
            replace H : (impl_longest.l0 k1 ji5 l0 (l0.length : Int) (wrap64 (x8_1 + 1))) = some r := by first | (rw [hji5] at H; exact H) | (simp only [hji5] at H ⊢; exact H)
            have hji5_ : (if x3_1 < (rd l0 x8_1) then (rd l0 x8_1) else x3_1) = ji5 := hji5
            have H' := Aside0.mk H
            clear H
            have p890 : 0 ≤ (x8_1 : Int) := of_decide_eq_true (by first | (with_reducible assumption) | assumption)
            have q890 : x8_1 < (l0.length : Int) := of_decide_eq_true (by first | (with_reducible assumption) | assumption)
            obtain ⟨ad890, e890, hx890_0⟩ := Kd.at_int HR0.out x8_1 p890 q890
            cases e890
            replace hx890_0 := (HB.out.cell (World.block_lt_of_cell? w _ hx890_0)).trans hx890_0
            replace p890 := eq_true p890
            replace q890 := eq_true q890
            go_wp2
            go_roundg k1
            case measure => have := HK1.out; omega
            case rel => exact ⟨(ji5), (wrap64 (x8_1 + 1)), (by first | rfl | (simp; done) | (simp only [← hji5] <;> (first | rfl | simp)) | (simp [*]; done)), (by first | rfl | (simp; done) | (simp [*]; done)), H', ⟨by have := HK1.out; omega⟩, ⟨by repeat (first | (with_reducible first | exact HB.out | apply below_alloc | apply pw_below_drewN | apply below_drew1) | exact HB.out)⟩⟩
          · rw [if_neg c4] at H
            exact absurd H (by simp)
        · rw [if_neg c3] at H
          exact absurd H (by simp)
      · rw [if_neg c2] at H
        have c2b0 : decide (x8_1 < (l0.length : Int)) = false := decide_eq_false c2
        clear c2
        obtain rfl := Option.some.inj H
        go_wp2
        go_ret
        exact ⟨by first | rfl | (simp [errW_none, errW_some] <;> rfl) | (simp [*, errW_none, errW_some] <;> rfl), by repeat (first | (with_reducible first | exact HB.out | apply below_alloc | apply pw_below_drewN | apply below_drew1) | exact HB.out)⟩
end Go.Proofs.YtpibdjkajgfgjaaDoor.P
end
section
namespace Go.Proofs.YtpibdjkajgfgjaaDoor.P
open Go.RowKit Go.Proofs.YtpibdjkajgfgjaaDoorW.PrintWords Go.Proofs.YtpibdjkajgfgjaaDoorW.PrintLast Go.Proofs.YtpibdjkajgfgjaaDoorW.PrintMore
attribute [local go_sem] max2_int min2_int max_two min_two max_three min_three max_four min_four   -- for this text's walks alone
set_option linter.unusedVariables false
set_option linter.unusedSimpArgs false
mutual
def spec_tails.l0 : Nat → List (S48) → List Int → List Int → Int → Option (List Int)
  | 0, _, _, _, _ => none
  | k + 1, x0, x3, x4, x5 => if x5 ≥ 0 then (if 0 ≤ x5 then (if x5 < (x4.length : Int) then (spec_tails.l1 k x0 x3 x4 x5 (rd x4 x5) 0 0) else (none)) else (none)) else (some x3)
def spec_tails.l1 : Nat → List (S48) → List Int → List Int → Int → Int → Int → Int → Option (List Int)
  | 0, _, _, _, _, _, _, _ => none
  | k + 1, x0, x3, x4, x5, x6, x7, x8 => if x8 < (x0.length : Int) then (if 0 ≤ x8 then ((spec_isIn.f k ((rd_T48 x0 x8).f1) x6).bind fun t575 => (if t575 = true then (if x8 < (x3.length : Int) then (spec_tails.l1 k x0 x3 x4 x5 x6 (mx x7 (rd x3 x8)) (wrap64 (x8 + 1))) else (none)) else (spec_tails.l1 k x0 x3 x4 x5 x6 x7 (wrap64 (x8 + 1))))) else (none)) else (if 0 ≤ x6 then (if x6 < (x0.length : Int) then (if x6 < (x3.length : Int) then (spec_tails.l0 k x0 (x3.set (x6 : Int).toNat (wrap64 (x7 + ((rd_T48 x0 x6).f0)))) x4 (wrap64 (x5 - 1))) else (none)) else (none)) else (none))
end
def spec_tails.f (k : Nat) (l0 : List (S48)) : Option (List Int) := if 0 ≤ (l0.length : Int) then (if ((l0.length : Int) : Int).toNat ≤ 35184372088832 then ((spec_topOrder.f k l0).bind fun t570 => (spec_tails.l0 k l0 (List.replicate ((l0.length : Int) : Int).toNat 0) t570 (wrap64 ((t570.length : Int) - 1)))) else (none)) else (none)
theorem spec_tails.mono_l : ∀ k, (∀ y0 y1 y2 y3, LeO (spec_tails.l0 k y0 y1 y2 y3) (spec_tails.l0 (k + 1) y0 y1 y2 y3)) ∧ (∀ y0 y1 y2 y3 y4 y5 y6, LeO (spec_tails.l1 k y0 y1 y2 y3 y4 y5 y6) (spec_tails.l1 (k + 1) y0 y1 y2 y3 y4 y5 y6))
  | 0 => ⟨fun _ _ _ _ r h => by simp [spec_tails.l0] at h, fun _ _ _ _ _ _ _ r h => by simp [spec_tails.l1] at h⟩
  | k + 1 => by
    obtain ⟨ih0, ih1⟩ := spec_tails.mono_l k
    refine ⟨?_, ?_⟩
    · intro y0 y1 y2 y3
      unfold spec_tails.l0
      repeat' first
      | (with_reducible exact ih0 _ _ _ _)
      | (with_reducible exact ih1 _ _ _ _ _ _ _)
      | (with_reducible exact spec_isIn.mono _ _ _)
      | (with_reducible exact spec_topOrder.mono _ _)
      | (with_reducible exact LeO.refl _)
      | (with_reducible exact LeO.none _)
      | (with_reducible refine LeO.ite ?_ ?_)
      | (with_reducible refine LeO.bind ?_ (fun _ => ?_))
      | exact ih0 _ _ _ _
      | exact ih1 _ _ _ _ _ _ _
      | exact spec_isIn.mono _ _ _
      | exact spec_topOrder.mono _ _
      | exact LeO.none _
      | refine LeO.ite ?_ ?_
      | refine LeO.bind ?_ (fun _ => ?_)
    · intro y0 y1 y2 y3 y4 y5 y6
      unfold spec_tails.l1
      repeat' first
      | (with_reducible exact ih0 _ _ _ _)
      | (with_reducible exact ih1 _ _ _ _ _ _ _)
      | (with_reducible exact spec_isIn.mono _ _ _)
      | (with_reducible exact spec_topOrder.mono _ _)
      | (with_reducible exact LeO.refl _)
      | (with_reducible exact LeO.none _)
      | (with_reducible refine LeO.ite ?_ ?_)
      | (with_reducible refine LeO.bind ?_ (fun _ => ?_))
      | exact ih0 _ _ _ _
      | exact ih1 _ _ _ _ _ _ _
      | exact spec_isIn.mono _ _ _
      | exact spec_topOrder.mono _ _
      | exact LeO.none _
      | refine LeO.ite ?_ ?_
      | refine LeO.bind ?_ (fun _ => ?_)
theorem spec_tails.mono : ∀ a0 k, LeO (spec_tails.f k a0) (spec_tails.f (k + 1) a0) := by
  intro a0 k
  obtain ⟨ih0, ih1⟩ := spec_tails.mono_l k
  unfold spec_tails.f
  repeat' first
      | (with_reducible exact ih0 _ _ _ _)
      | (with_reducible exact ih1 _ _ _ _ _ _ _)
      | (with_reducible exact spec_isIn.mono _ _ _)
      | (with_reducible exact spec_topOrder.mono _ _)
      | (with_reducible exact LeO.refl _)
      | (with_reducible exact LeO.none _)
      | (with_reducible refine LeO.ite ?_ ?_)
      | (with_reducible refine LeO.bind ?_ (fun _ => ?_))
      | exact ih0 _ _ _ _
      | exact ih1 _ _ _ _ _ _ _
      | exact spec_isIn.mono _ _ _
      | exact spec_topOrder.mono _ _
      | exact LeO.none _
      | refine LeO.ite ?_ ?_
      | refine LeO.bind ?_ (fun _ => ?_)
set_option maxHeartbeats 8000000 in
set_option maxRecDepth 100000 in
theorem spec_tails.calls (k : Nat) (A0 : Option Addr) (c0 : Nat) (l0 : List (S48)) (r : List Int) (w : World) (hr0 : Kd.C k48 w A0 l0.length l0) (hc0 : l0.length ≤ c0) (h : spec_tails.f k l0 = some r) :
    Calls Tryd.prog 113 #[.slice A0 l0.length c0] w fun e w' => ∃ v0_ : Value, e = .returned (v0_) ∧ Kd.R (Kd.int .i64) 3 w' w.heap.size (fun _ => True) v0_ r ∧ Below w.heap.size w w' := by
  have HR0 := Aside0.mk hr0
  have HC0 := Aside0.mk hc0
  clear hr0 hc0
  have HB := Aside0.mk (Below.refl w.heap.size w)
  have H : (if 0 ≤ (l0.length : Int) then (if ((l0.length : Int) : Int).toNat ≤ 35184372088832 then ((spec_topOrder.f k l0).bind fun t570 => (spec_tails.l0 k l0 (List.replicate ((l0.length : Int) : Int).toNat 0) t570 (wrap64 ((t570.length : Int) - 1)))) else (none)) else (none)) = some r := h
  clear h
  by_cases c2 : 0 ≤ (l0.length : Int)
  · rw [if_pos c2] at H
    have c2b0 := eq_true c2
    have c2b1 : decide (0 ≤ (l0.length : Int)) = true := decide_eq_true c2
    clear c2
    by_cases c3 : ((l0.length : Int) : Int).toNat ≤ 35184372088832
    · rw [if_pos c3] at H
      have c3b0 := eq_true c3
      have c3b1 : decide (((l0.length : Int) : Int).toNat ≤ 35184372088832) = true := decide_eq_true c3
      clear c3
      obtain ⟨y567, hy567⟩ : ∃ y_ : List Int, y_ = (List.replicate ((l0.length : Int) : Int).toNat 0) := ⟨_, rfl⟩
      replace H : ((spec_topOrder.f k l0).bind fun t570 => (spec_tails.l0 k l0 y567 t570 (wrap64 ((t570.length : Int) - 1)))) = some r := by first | (rw [hy567]; with_reducible exact H) | (have H2_ := (Option.bind_some _ _).symm.trans H; rw [hy567]; with_reducible exact H2_) | (have H2_ := (Option.bind_some _ _).symm.trans H; with_reducible exact H2_) | with_reducible exact H | (rw [hy567]; exact H) | exact H
      have Ny567 := Aside0.mk hy567
      clear hy567
      replace H := Option.bind_eq_some_iff.mp H
      obtain ⟨t570, A40, H⟩ := H
      replace H : (spec_tails.l0 k l0 y567 t570 (wrap64 ((t570.length : Int) - 1))) = some r := H
      have A4 := Aside0.mk A40
      clear A40
      have H' := Aside0.mk H
      clear H
      go_enter Tryd.func113, Tryd.ntmps113
      go_wp2_with (first | ((with_reducible refine gate_dst (N := 11) rfl ?_); refine Kd.R_make (Kd.int .i64) _ 3 rfl (N := 11) rfl 23 _ _ rfl (l0.length : Int) rfl rfl Tryd.underlying23 (.int .i64 0) 8 info3 rfl (by decide) (by omega) 0 (ok := fun _ => True) (okp := fun _ => True) rfl (fun _ hk => hk) trivial (of_decide_eq_true (by first | (with_reducible assumption) | assumption)) (Nat.le_trans (Nat.mul_le_mul_right _ (of_decide_eq_true (by first | (with_reducible assumption) | assumption) : (l0.length : Int).toNat ≤ 35184372088832)) (by omega)) (Below.refl _ _) (Nat.le_refl _) ?_; intro v568 w5 ho6 hb hg_ hnew_; clear hg_ hnew_; (first | rw [← Ny567.out] at ho6 | (simp only [Int.reduceToNat] at ho6; rw [← Ny567.out] at ho6)); have n0_ := Aside0.mk (Kd.R_lower ho6 (below_size (by repeat (first | (with_reducible first | exact HB.out | apply below_alloc | apply pw_below_drewN | apply below_drew1) | exact HB.out)))); have n1_ := Aside0.mk (below_step (by repeat (first | (with_reducible first | exact HB.out | apply below_alloc | apply pw_below_drewN | apply below_drew1) | exact HB.out)) hb); clear HB; have HO569 := n0_; have HB := n1_; clear n0_ n1_; clear hb ho6) | ((with_reducible refine gate_callee (f := 116) rfl ?_); refine goesL_ (some 13) rfl rfl Tryd.func116 (by kernel_rfl) rfl #[.slice A0 l0.length c0] rfl (by (try simp only [List.map_toArray, List.map_cons, List.map_nil]); first | done | rfl | (simp only [List.length_drop, List.length_take]; rfl)) ?_; (with_reducible refine (spec_topOrder.calls k _ _ l0 t570 _ ?side1 ?side2 A4.out).mono ?_); (case side1 => repeat (first | exact (Kd.C_below HR0.out HB.out) | (with_reducible refine Kd.C_alloc ?_ _) | (with_reducible refine Kd.C_drewN ?_ _) | (with_reducible refine Kd.C_drew ?_))); (case side2 => exact HC0.out); rintro e w7 ⟨v571, rfl, ho0, hb⟩; refine ⟨_, rfl, ?_⟩; have n0_ := Aside0.mk (Kd.R_elder' (by (with_reducible repeat (first | apply Kd.R_alloc | apply Kd.R_drewN | apply Kd.R_drew)); exact HO569.out) (Kd.R_base ho0) hb); have n1_ := Aside0.mk (Kd.R_lower (Kd.R_new' ho0 (Kd.R_lt (by (with_reducible repeat (first | apply Kd.R_alloc | apply Kd.R_drewN | apply Kd.R_drew)); exact HO569.out))) (below_size (by repeat (first | (with_reducible first | exact HB.out | apply below_alloc | apply pw_below_drewN | apply below_drew1) | exact HB.out)))); have n2_ := Aside0.mk (below_step (by repeat (first | (with_reducible first | exact HB.out | apply below_alloc | apply pw_below_drewN | apply below_drew1) | exact HB.out)) hb); clear HO569; clear HB; have HO569 := n0_; have HO572 := n1_; have HB := n2_; clear n0_ n1_ n2_; (try clear hb); (try clear hb2); (try clear hk); (try clear hi); (try clear ho0); obtain ⟨Ao8, co8, eo8⟩ := Kd.R_slice HO572.out; subst eo8))
      go_loopg [5] k (fun kq v5 w' => ∃ (x3_1 : List Int) (x5_1 : Int), v5 = .int .i64 x5_1 ∧ Aside0 (spec_tails.l0 kq l0 x3_1 t570 x5_1 = some r) ∧ Aside0 (kq ≤ k) ∧ Aside0 (Kd.R (Kd.int .i64) 3 w' w.heap.size (fun k_ => some k_ ≠ ((.slice Ao8 t570.length co8) : Value).ownBlock) v568 x3_1) ∧ Aside0 (Kd.R (Kd.int .i64) 3 w' w.heap.size (fun k_ => some k_ ≠ (v568 : Value).ownBlock) (.slice Ao8 t570.length co8) t570) ∧ Aside0 (Below w.heap.size w w'))
      case atStart => exact ⟨(y567), (wrap64 ((t570.length : Int) - 1)), (by first | rfl | (simp; done) | (simp [*]; done)), H', ⟨Nat.le_refl _⟩, ⟨by (with_reducible repeat (first | apply Kd.R_alloc | apply Kd.R_drewN | apply Kd.R_drew)); exact Kd.R_mono HO569.out (fun _ hk => hk.2)⟩, ⟨by (with_reducible repeat (first | apply Kd.R_alloc | apply Kd.R_drewN | apply Kd.R_drew)); exact Kd.R_mono HO572.out (fun _ hk => hk.2)⟩, ⟨by repeat (first | (with_reducible first | exact HB.out | apply below_alloc | apply pw_below_drewN | apply below_drew1) | exact HB.out)⟩⟩
      case round =>
        clear H'
        try clear c1
        try clear c2
        try clear c2b0
        try clear c2b1
        try clear p2
        try clear c3
        try clear c3b0
        try clear c3b1
        try clear p6
        obtain ⟨x3_1, x5_1, rfl, HA, HK1, HO_3, HO_4, HB⟩ := hrel
        cases gk with
        | zero => exact absurd HA.out (by simp [spec_tails.l0])
        | succ k1 =>
          have H := HA.out
          clear HA
          simp only [spec_tails.l0] at H
          by_cases c9 : x5_1 ≥ 0
          · rw [if_pos c9] at H
            have c9b0 : decide (0 ≤ x5_1) = true := decide_eq_true c9
            clear c9
            by_cases c10 : 0 ≤ x5_1
            · rw [if_pos c10] at H
              have c10b0 : decide (0 ≤ x5_1) = true := decide_eq_true c10
              clear c10
              by_cases c11 : x5_1 < (t570.length : Int)
              · rw [if_pos c11] at H
                have c11b0 : decide (x5_1 < (t570.length : Int)) = true := decide_eq_true c11
                clear c11
                have H' := Aside0.mk H
                clear H
                have p573 : 0 ≤ (x5_1 : Int) := of_decide_eq_true (by first | (with_reducible assumption) | assumption)
                have q573 : x5_1 < (t570.length : Int) := of_decide_eq_true (by first | (with_reducible assumption) | assumption)
                obtain ⟨ad573, e573, hx573_0⟩ := Kd.at_int (Kd.R_reads' HO_4.out).2.2 x5_1 p573 q573
                cases e573
                replace p573 := eq_true p573
                replace q573 := eq_true q573
                go_wp2
                go_loopg [7, 8] k1 (fun kq v7 v8 w' => ∃ (x7_2 : Int) (x8_2 : Int), v7 = .int .i64 x7_2 ∧ v8 = .int .i64 x8_2 ∧ Aside0 (spec_tails.l1 kq l0 x3_1 t570 x5_1 (rd t570 x5_1) x7_2 x8_2 = some r) ∧ Aside0 (kq ≤ k1) ∧ Aside0 (Kd.R (Kd.int .i64) 3 w' w.heap.size (fun k_ => some k_ ≠ ((.slice (some ad573) t570.length co8) : Value).ownBlock) v568 x3_1) ∧ Aside0 (Kd.R (Kd.int .i64) 3 w' w.heap.size (fun k_ => some k_ ≠ (v568 : Value).ownBlock) (.slice (some ad573) t570.length co8) t570) ∧ Aside0 (Below w.heap.size w w'))
                case atStart => exact ⟨(0), (0), (by first | rfl | (simp; done) | (simp [*]; done)), (by first | rfl | (simp; done) | (simp [*]; done)), H', ⟨Nat.le_refl _⟩, ⟨by (with_reducible repeat (first | apply Kd.R_alloc | apply Kd.R_drewN | apply Kd.R_drew)); exact HO_3.out⟩, ⟨by (with_reducible repeat (first | apply Kd.R_alloc | apply Kd.R_drewN | apply Kd.R_drew)); exact HO_4.out⟩, ⟨by repeat (first | (with_reducible first | exact HB.out | apply below_alloc | apply pw_below_drewN | apply below_drew1) | exact HB.out)⟩⟩
                case round =>
                  clear H'
                  try clear c1
                  try clear c2
                  try clear c2b0
                  try clear c2b1
                  try clear p2
                  try clear c3
                  try clear c3b0
                  try clear c3b1
                  try clear p5
                  try clear q5
                  try clear hx5
                  try clear p6
                  try clear c9
                  try clear c9b0
                  try clear c10
                  try clear c10b0
                  try clear c11
                  try clear c11b0
                  try clear hx573_0
                  try clear p2
                  try clear p573
                  try clear p6
                  try clear q573
                  obtain ⟨x7_2, x8_2, rfl, rfl, HA, HK2, HO_3, HO_4, HB⟩ := hrel
                  cases gk with
                  | zero => exact absurd HA.out (by simp [spec_tails.l1])
                  | succ k2 =>
                    have H := HA.out
                    clear HA
                    simp only [spec_tails.l1] at H
                    by_cases c12 : x8_2 < (l0.length : Int)
                    · rw [if_pos c12] at H
                      have c12b0 : decide (x8_2 < (l0.length : Int)) = true := decide_eq_true c12
                      clear c12
                      by_cases c13 : 0 ≤ x8_2
                      · rw [if_pos c13] at H
                        have c13b0 : decide (0 ≤ x8_2) = true := decide_eq_true c13
                        clear c13
                        replace H := Option.bind_eq_some_iff.mp H
                        obtain ⟨t575, A140, H⟩ := H
                        replace H : (if t575 = true then (if x8_2 < (x3_1.length : Int) then (spec_tails.l1 k2 l0 x3_1 t570 x5_1 (rd t570 x5_1) (mx x7_2 (rd x3_1 x8_2)) (wrap64 (x8_2 + 1))) else (none)) else (spec_tails.l1 k2 l0 x3_1 t570 x5_1 (rd t570 x5_1) x7_2 (wrap64 (x8_2 + 1)))) = some r := H
                        have A14 := Aside0.mk A140
                        clear A140
                        by_cases c15 : t575 = true
                        · subst c15
                          have H1 : (if x8_2 < (x3_1.length : Int) then (spec_tails.l1 k2 l0 x3_1 t570 x5_1 (rd t570 x5_1) (mx x7_2 (rd x3_1 x8_2)) (wrap64 (x8_2 + 1))) else (none)) = some r := by rw [if_pos rfl] at H; exact H
                          clear H
                          have H := H1
                          clear H1
                          by_cases c16 : x8_2 < (x3_1.length : Int)
                          · rw [if_pos c16] at H
                            have c16b0 : decide (x8_2 < (x3_1.length : Int)) = true := decide_eq_true c16
                            clear c16
                            obtain ⟨ji17, hji17⟩ : ∃ j_ : Int, (mx x7_2 (rd x3_1 x8_2)) = j_ := ⟨_, rfl⟩
                            replace H : (spec_tails.l1 k2 l0 x3_1 t570 x5_1 (rd t570 x5_1) ji17 (wrap64 (x8_2 + 1))) = some r := by first | (rw [hji17] at H; exact H) | (simp only [hji17] at H ⊢; exact H)
                            (try rw [hji17] at A14)
                            have hji17_ : (if x7_2 < (rd x3_1 x8_2) then (rd x3_1 x8_2) else x7_2) = ji17 := hji17
                            have H' := Aside0.mk H
                            clear H
                            have p574 : 0 ≤ (x8_2 : Int) := of_decide_eq_true (by first | (with_reducible assumption) | assumption)
                            have q574 : x8_2 < (l0.length : Int) := of_decide_eq_true (by first | (with_reducible assumption) | assumption)
                            obtain ⟨ad574, A574_1, c574_1, e574, hx574_0, hx574_1, hx574_2, hx574_3, hl574_1, hi574_1⟩ := at_T48 HR0.out x8_2 p574 q574
                            cases e574
                            replace hx574_0 := (HB.out.cell (World.block_lt_of_cell? w _ hx574_0)).trans hx574_0
                            replace hx574_1 := (HB.out.cell (World.block_lt_of_cell? w _ hx574_1)).trans hx574_1
                            replace hx574_2 := (HB.out.cell (World.block_lt_of_cell? w _ hx574_2)).trans hx574_2
                            replace hx574_3 := (HB.out.cell (World.block_lt_of_cell? w _ hx574_3)).trans hx574_3
                            have HR574_1 := Aside0.mk hi574_1
                            have HC574_1 := Aside0.mk hl574_1
                            clear hi574_1 hl574_1
                            replace p574 := eq_true p574
                            replace q574 := eq_true q574
                            go_wp2_with (first | ((with_reducible refine gate_callee (f := 56) rfl ?_); refine goesL_ (some 37) rfl rfl Tryd.func56 (by kernel_rfl) rfl #[.slice A574_1 ((rd_T48 l0 x8_2).f1).length c574_1, .int .i64 (rd t570 x5_1)] rfl (by (try simp only [List.map_toArray, List.map_cons, List.map_nil]); first | done | rfl | (simp only [List.length_drop, List.length_take]; rfl)) ?_; (with_reducible refine (spec_isIn.calls k2 _ _ ((rd_T48 l0 x8_2).f1) (rd t570 x5_1) true _ ?side1 ?side2 A14.out).mono ?_); (case side1 => repeat (first | exact (Kd.C_below HR574_1.out HB.out) | (with_reducible refine Kd.C_alloc ?_ _) | (with_reducible refine Kd.C_drewN ?_ _) | (with_reducible refine Kd.C_drew ?_))); (case side2 => exact HC574_1.out); rintro e w' ⟨rfl, ⟨nd, rfl⟩⟩; refine ⟨_, rfl, ?_⟩; obtain ⟨Ao18, co18, eo18⟩ := Kd.R_slice HO_3.out; subst eo18; have p576 : 0 ≤ (x8_2 : Int) := of_decide_eq_true (by first | (with_reducible assumption) | assumption); have q576 : x8_2 < (x3_1.length : Int) := of_decide_eq_true (by first | (with_reducible assumption) | assumption); obtain ⟨ad576, e576, hx576_0⟩ := Kd.at_int (Kd.R_reads' HO_3.out).2.2 x8_2 p576 q576; cases e576; replace p576 := eq_true p576; replace q576 := eq_true q576))
                            go_roundg k2
                            case measure => have := HK1.out; have := HK2.out; omega
                            case rel => exact ⟨(ji17), (wrap64 (x8_2 + 1)), (by first | rfl | (simp; done) | (simp only [← hji17] <;> (first | rfl | simp)) | (simp [*]; done)), (by first | rfl | (simp; done) | (simp [*]; done)), H', ⟨by have := HK1.out; have := HK2.out; omega⟩, ⟨by (with_reducible repeat (first | apply Kd.R_alloc | apply Kd.R_drewN | apply Kd.R_drew)); exact HO_3.out⟩, ⟨by (with_reducible repeat (first | apply Kd.R_alloc | apply Kd.R_drewN | apply Kd.R_drew)); exact HO_4.out⟩, ⟨by repeat (first | (with_reducible first | exact HB.out | apply below_alloc | apply pw_below_drewN | apply below_drew1) | exact HB.out)⟩⟩
                          · rw [if_neg c16] at H
                            exact absurd H (by simp)
                        · replace c15 := Bool.eq_false_iff.mpr c15
                          subst c15
                          have H1 : (spec_tails.l1 k2 l0 x3_1 t570 x5_1 (rd t570 x5_1) x7_2 (wrap64 (x8_2 + 1))) = some r := by rw [if_neg (show ¬ (false = true) by decide)] at H; exact H
                          clear H
                          have H := H1
                          clear H1
                          have H' := Aside0.mk H
                          clear H
                          have p574 : 0 ≤ (x8_2 : Int) := of_decide_eq_true (by first | (with_reducible assumption) | assumption)
                          have q574 : x8_2 < (l0.length : Int) := of_decide_eq_true (by first | (with_reducible assumption) | assumption)
                          obtain ⟨ad574, A574_1, c574_1, e574, hx574_0, hx574_1, hx574_2, hx574_3, hl574_1, hi574_1⟩ := at_T48 HR0.out x8_2 p574 q574
                          cases e574
                          replace hx574_0 := (HB.out.cell (World.block_lt_of_cell? w _ hx574_0)).trans hx574_0
                          replace hx574_1 := (HB.out.cell (World.block_lt_of_cell? w _ hx574_1)).trans hx574_1
                          replace hx574_2 := (HB.out.cell (World.block_lt_of_cell? w _ hx574_2)).trans hx574_2
                          replace hx574_3 := (HB.out.cell (World.block_lt_of_cell? w _ hx574_3)).trans hx574_3
                          have HR574_1 := Aside0.mk hi574_1
                          have HC574_1 := Aside0.mk hl574_1
                          clear hi574_1 hl574_1
                          replace p574 := eq_true p574
                          replace q574 := eq_true q574
                          go_wp2_with (first | ((with_reducible refine gate_callee (f := 56) rfl ?_); refine goesL_ (some 37) rfl rfl Tryd.func56 (by kernel_rfl) rfl #[.slice A574_1 ((rd_T48 l0 x8_2).f1).length c574_1, .int .i64 (rd t570 x5_1)] rfl (by (try simp only [List.map_toArray, List.map_cons, List.map_nil]); first | done | rfl | (simp only [List.length_drop, List.length_take]; rfl)) ?_; (with_reducible refine (spec_isIn.calls k2 _ _ ((rd_T48 l0 x8_2).f1) (rd t570 x5_1) false _ ?side1 ?side2 A14.out).mono ?_); (case side1 => repeat (first | exact (Kd.C_below HR574_1.out HB.out) | (with_reducible refine Kd.C_alloc ?_ _) | (with_reducible refine Kd.C_drewN ?_ _) | (with_reducible refine Kd.C_drew ?_))); (case side2 => exact HC574_1.out); rintro e w' ⟨rfl, ⟨nd, rfl⟩⟩; refine ⟨_, rfl, ?_⟩))
                          go_roundg k2
                          case measure => have := HK1.out; have := HK2.out; omega
                          case rel => exact ⟨(x7_2), (wrap64 (x8_2 + 1)), (by first | rfl | (simp; done) | (simp [*]; done)), (by first | rfl | (simp; done) | (simp [*]; done)), H', ⟨by have := HK1.out; have := HK2.out; omega⟩, ⟨by (with_reducible repeat (first | apply Kd.R_alloc | apply Kd.R_drewN | apply Kd.R_drew)); exact HO_3.out⟩, ⟨by (with_reducible repeat (first | apply Kd.R_alloc | apply Kd.R_drewN | apply Kd.R_drew)); exact HO_4.out⟩, ⟨by repeat (first | (with_reducible first | exact HB.out | apply below_alloc | apply pw_below_drewN | apply below_drew1) | exact HB.out)⟩⟩
                      · rw [if_neg c13] at H
                        exact absurd H (by simp)
                    · rw [if_neg c12] at H
                      have c12b0 : decide (x8_2 < (l0.length : Int)) = false := decide_eq_false c12
                      clear c12
                      by_cases c19 : 0 ≤ (rd t570 x5_1)
                      · rw [if_pos c19] at H
                        have c19b0 : decide (0 ≤ (rd t570 x5_1)) = true := decide_eq_true c19
                        clear c19
                        by_cases c20 : (rd t570 x5_1) < (l0.length : Int)
                        · rw [if_pos c20] at H
                          have c20b0 : decide ((rd t570 x5_1) < (l0.length : Int)) = true := decide_eq_true c20
                          clear c20
                          by_cases c21 : (rd t570 x5_1) < (x3_1.length : Int)
                          · rw [if_pos c21] at H
                            have c21b0 : decide ((rd t570 x5_1) < (x3_1.length : Int)) = true := decide_eq_true c21
                            clear c21
                            obtain ⟨y578, hy578⟩ : ∃ y_ : List Int, y_ = (x3_1.set ((rd t570 x5_1) : Int).toNat (wrap64 (x7_2 + ((rd_T48 l0 (rd t570 x5_1)).f0)))) := ⟨_, rfl⟩
                            replace H : (spec_tails.l0 k2 l0 y578 t570 (wrap64 (x5_1 - 1))) = some r := by first | (rw [hy578]; with_reducible exact H) | (have H2_ := (Option.bind_some _ _).symm.trans H; rw [hy578]; with_reducible exact H2_) | (have H2_ := (Option.bind_some _ _).symm.trans H; with_reducible exact H2_) | with_reducible exact H | (rw [hy578]; exact H) | exact H
                            have Ny578 := Aside0.mk hy578
                            clear hy578
                            have H' := Aside0.mk H
                            clear H
                            have p577 : 0 ≤ ((rd t570 x5_1) : Int) := of_decide_eq_true (by first | (with_reducible assumption) | assumption)
                            have q577 : (rd t570 x5_1) < (l0.length : Int) := of_decide_eq_true (by first | (with_reducible assumption) | assumption)
                            obtain ⟨ad577, A577_1, c577_1, e577, hx577_0, hx577_1, hx577_2, hx577_3, hl577_1, hi577_1⟩ := at_T48 HR0.out (rd t570 x5_1) p577 q577
                            cases e577
                            replace hx577_0 := (HB.out.cell (World.block_lt_of_cell? w _ hx577_0)).trans hx577_0
                            replace hx577_1 := (HB.out.cell (World.block_lt_of_cell? w _ hx577_1)).trans hx577_1
                            replace hx577_2 := (HB.out.cell (World.block_lt_of_cell? w _ hx577_2)).trans hx577_2
                            replace hx577_3 := (HB.out.cell (World.block_lt_of_cell? w _ hx577_3)).trans hx577_3
                            have HR577_1 := Aside0.mk hi577_1
                            have HC577_1 := Aside0.mk hl577_1
                            clear hi577_1 hl577_1
                            replace p577 := eq_true p577
                            replace q577 := eq_true q577
                            have p22 : 0 ≤ ((rd t570 x5_1) : Int) := of_decide_eq_true (by first | (with_reducible assumption) | assumption)
                            have q22 : ((rd t570 x5_1) : Int) < ((x3_1.length : Int) : Int) := of_decide_eq_true (by first | (with_reducible assumption) | assumption)
                            obtain ⟨go22, co22, eo22, gb22, gl22, cl22, HG22⟩ := Kd.R_form HO_3.out (by omega)
                            (first | cases eo22 | (injection eo22 with ea_ en_ ec_; (first | subst ea_ | (injection ea_ with ea_; subst ea_)); subst ec_; clear en_))
                            have GB22 := Aside0.mk gb22
                            have GG22 := Aside0.mk HG22
                            clear gb22 gl22 HG22
                            obtain ⟨hx22_0, hf22_0⟩ := Kd.R_celln 0 HO_3.out ((rd t570 x5_1) : Int) p22 q22
                            replace p22 := eq_true p22
                            replace q22 := eq_true q22
                            have HP23 := Kd.R_putg HO_3.out ((rd t570 x5_1) : Int) (wrap64 (x7_2 + ((rd_T48 l0 (rd t570 x5_1)).f0)))
                            go_wp2_with (first | ((with_reducible refine gate_store (t := 3) (p := 53) rfl ?_); refine store_event (t := 3) (p := 53) (v := ?vo_w24) (w1 := (wr.setCell ⟨go22, ((rd t570 x5_1) : Int).toNat, none⟩ (.int .i64 (wrap64 (x7_2 + ((rd_T48 l0 (rd t570 x5_1)).f0)))))) ?hg ?ho ?hn ?hr ?_; (case ho => rfl); (case hg => rfl); (case hn => rfl); (case hr => (first | (go_simp; done) | (go_simp; rfl))); intro w24 hw; have hg : wr.grownBy w24 (some go22) := (by rw [hw]; exact HP23.2); have hp_ : Kd.R (Kd.int .i64) 3 w24 w.heap.size (fun k_ => some k_ ≠ (.slice (some ad573) t570.length co8 : Value).ownBlock) (.slice (some ⟨go22, 0, none⟩) x3_1.length co22) y578 := (by rw [hw, Ny578.out]; exact HP23.1); clear HP23; have n0_ := Aside0.mk (hp_); have n1_ := Aside0.mk (Kd.R_after (v := (.slice (some ⟨go22, 0, none⟩) x3_1.length co22)) (v1 := (.slice (some ⟨go22, 0, none⟩) x3_1.length co22)) (ok := (fun _ => True)) (by (with_reducible repeat (first | apply Kd.R_alloc | apply Kd.R_drewN | apply Kd.R_drew)); exact Kd.R_mono HO_4.out (fun _ hk => ⟨trivial, hk⟩)) hg (.inl rfl)); have n2_ := Aside0.mk ((by rw [hw]; exact below_set (HB.out) GB22.out : Below w.heap.size w w24)); clear HO_3; clear HO_4; clear HB; have HO_3 := n0_; have HO_4 := n1_; have HB := n2_; clear n0_ n1_ n2_; clear hg hw hp_))
                            go_roundg k2
                            case measure => have := HK1.out; have := HK2.out; omega
                            case rel => exact ⟨(y578), (wrap64 (x5_1 - 1)), (by first | rfl | (simp; done) | (simp [*]; done)), H', ⟨by have := HK1.out; have := HK2.out; omega⟩, ⟨by (with_reducible repeat (first | apply Kd.R_alloc | apply Kd.R_drewN | apply Kd.R_drew)); exact HO_3.out⟩, ⟨by (with_reducible repeat (first | apply Kd.R_alloc | apply Kd.R_drewN | apply Kd.R_drew)); exact Kd.R_mono HO_4.out (fun _ hk => hk.2)⟩, ⟨by repeat (first | (with_reducible first | exact HB.out | apply below_alloc | apply pw_below_drewN | apply below_drew1) | exact HB.out)⟩⟩
                          · rw [if_neg c21] at H
                            exact absurd H (by simp)
                        · rw [if_neg c20] at H
                          exact absurd H (by simp)
                      · rw [if_neg c19] at H
                        exact absurd H (by simp)
              · rw [if_neg c11] at H
                exact absurd H (by simp)
            · rw [if_neg c10] at H
              exact absurd H (by simp)
          · rw [if_neg c9] at H
            have c9b0 : decide (0 ≤ x5_1) = false := decide_eq_false c9
            clear c9
            obtain rfl := Option.some.inj H
            go_wp2
            go_ret
            exact ⟨_, by first | rfl | (simp [errW_none, errW_some] <;> rfl) | (simp [*, errW_none, errW_some] <;> rfl), by (with_reducible repeat (first | apply Kd.R_alloc | apply Kd.R_drewN | apply Kd.R_drew)); exact Kd.R_mono HO_3.out (fun _ hk => trivial), by repeat (first | (with_reducible first | exact HB.out | apply below_alloc | apply pw_below_drewN | apply below_drew1) | exact HB.out)⟩
    · rw [if_neg c3] at H
      exact absurd H (by simp)
  · rw [if_neg c2] at H
    exact absurd H (by simp)
end Go.Proofs.YtpibdjkajgfgjaaDoor.P
end
section
namespace Go.Proofs.YtpibdjkajgfgjaaDoor.P
open Go.RowKit Go.Proofs.YtpibdjkajgfgjaaDoorW.PrintWords Go.Proofs.YtpibdjkajgfgjaaDoorW.PrintLast Go.Proofs.YtpibdjkajgfgjaaDoorW.PrintMore
attribute [local go_sem] max2_int min2_int max_two min_two max_three min_three max_four min_four   -- for this text's walks alone
set_option linter.unusedVariables false
set_option linter.unusedSimpArgs false
def spec_timeLeft.l0 : Nat → Int → List Int → List Int → Int → Option (Int)
  | 0, _, _, _, _ => none
  | k + 1, x5, x6, x7, x8 => if x8 < (x7.length : Int) then (if 0 ≤ x8 then (if 0 ≤ (rd x7 x8) then (if (rd x7 x8) < (x6.length : Int) then (spec_timeLeft.l0 k (mx x5 (rd x6 (rd x7 x8))) x6 x7 (wrap64 (x8 + 1))) else (none)) else (none)) else (none)) else (some x5)
def spec_timeLeft.f (k : Nat) (l0 : List (S48)) (l1 : List Int) : Option (Int) := (spec_tails.f k l0).bind fun t579 => ((spec_ready.f k l0 l1).bind fun t582 => (spec_timeLeft.l0 k 0 t579 t582 0))
theorem spec_timeLeft.mono_l : ∀ k, (∀ y0 y1 y2 y3, LeO (spec_timeLeft.l0 k y0 y1 y2 y3) (spec_timeLeft.l0 (k + 1) y0 y1 y2 y3))
  | 0 => fun _ _ _ _ r h => by simp [spec_timeLeft.l0] at h
  | k + 1 => by
    have ih0 := spec_timeLeft.mono_l k
    · intro y0 y1 y2 y3
      unfold spec_timeLeft.l0
      repeat' first
      | (with_reducible exact ih0 _ _ _ _)
      | (with_reducible exact spec_ready.mono _ _ _)
      | (with_reducible exact spec_tails.mono _ _)
      | (with_reducible exact LeO.refl _)
      | (with_reducible exact LeO.none _)
      | (with_reducible refine LeO.ite ?_ ?_)
      | (with_reducible refine LeO.bind ?_ (fun _ => ?_))
      | exact ih0 _ _ _ _
      | exact spec_ready.mono _ _ _
      | exact spec_tails.mono _ _
      | exact LeO.none _
      | refine LeO.ite ?_ ?_
      | refine LeO.bind ?_ (fun _ => ?_)
theorem spec_timeLeft.mono : ∀ a0 a1 k, LeO (spec_timeLeft.f k a0 a1) (spec_timeLeft.f (k + 1) a0 a1) := by
  intro a0 a1 k
  have ih0 := spec_timeLeft.mono_l k
  unfold spec_timeLeft.f
  repeat' first
      | (with_reducible exact ih0 _ _ _ _)
      | (with_reducible exact spec_ready.mono _ _ _)
      | (with_reducible exact spec_tails.mono _ _)
      | (with_reducible exact LeO.refl _)
      | (with_reducible exact LeO.none _)
      | (with_reducible refine LeO.ite ?_ ?_)
      | (with_reducible refine LeO.bind ?_ (fun _ => ?_))
      | exact ih0 _ _ _ _
      | exact spec_ready.mono _ _ _
      | exact spec_tails.mono _ _
      | exact LeO.none _
      | refine LeO.ite ?_ ?_
      | refine LeO.bind ?_ (fun _ => ?_)
set_option maxHeartbeats 8000000 in
set_option maxRecDepth 100000 in
theorem spec_timeLeft.calls (k : Nat) (A0 : Option Addr) (c0 : Nat) (l0 : List (S48)) (A1 : Option Addr) (c1 : Nat) (l1 : List Int) (r : Int) (w : World) (hr0 : Kd.C k48 w A0 l0.length l0) (hc0 : l0.length ≤ c0) (hr1 : Kd.C (Kd.int .i64) w A1 l1.length l1) (hc1 : l1.length ≤ c1) (h : spec_timeLeft.f k l0 l1 = some r) :
    Calls Tryd.prog 80 #[.slice A0 l0.length c0, .slice A1 l1.length c1] w fun e w' => e = .returned (.int .i64 r) ∧ Below w.heap.size w w' := by
  have HR0 := Aside0.mk hr0
  have HC0 := Aside0.mk hc0
  clear hr0 hc0
  have HR1 := Aside0.mk hr1
  have HC1 := Aside0.mk hc1
  clear hr1 hc1
  have HB := Aside0.mk (Below.refl w.heap.size w)
  have H : ((spec_tails.f k l0).bind fun t579 => ((spec_ready.f k l0 l1).bind fun t582 => (spec_timeLeft.l0 k 0 t579 t582 0))) = some r := h
  clear h
  replace H := Option.bind_eq_some_iff.mp H
  obtain ⟨t579, A30, H⟩ := H
  replace H : ((spec_ready.f k l0 l1).bind fun t582 => (spec_timeLeft.l0 k 0 t579 t582 0)) = some r := H
  have A3 := Aside0.mk A30
  clear A30
  replace H := Option.bind_eq_some_iff.mp H
  obtain ⟨t582, A40, H⟩ := H
  replace H : (spec_timeLeft.l0 k 0 t579 t582 0) = some r := H
  have A4 := Aside0.mk A40
  clear A40
  have H' := Aside0.mk H
  clear H
  go_enter Tryd.func80, Tryd.ntmps80
  go_wp2_with (first | ((with_reducible refine gate_callee (f := 113) rfl ?_); refine goesL_ (some 10) rfl rfl Tryd.func113 (by kernel_rfl) rfl #[.slice A0 l0.length c0] rfl (by (try simp only [List.map_toArray, List.map_cons, List.map_nil]); first | done | rfl | (simp only [List.length_drop, List.length_take]; rfl)) ?_; (with_reducible refine (spec_tails.calls k _ _ l0 t579 _ ?side1 ?side2 A3.out).mono ?_); (case side1 => repeat (first | exact HR0.out | (with_reducible refine Kd.C_alloc ?_ _) | (with_reducible refine Kd.C_drewN ?_ _) | (with_reducible refine Kd.C_drew ?_))); (case side2 => exact HC0.out); rintro e w5 ⟨v580, rfl, ho0, hb⟩; refine ⟨_, rfl, ?_⟩; have n0_ := Aside0.mk (Kd.R_lower ho0 (below_size (by repeat (first | (with_reducible first | exact HB.out | apply below_alloc | apply pw_below_drewN | apply below_drew1) | exact HB.out)))); have n1_ := Aside0.mk (below_step (by repeat (first | (with_reducible first | exact HB.out | apply below_alloc | apply pw_below_drewN | apply below_drew1) | exact HB.out)) hb); clear HB; have HO581 := n0_; have HB := n1_; clear n0_ n1_; (try clear hb); (try clear hb2); (try clear hk); (try clear hi); (try clear ho0)) | ((with_reducible refine gate_callee (f := 97) rfl ?_); refine goesL_ (some 13) rfl rfl Tryd.func97 (by kernel_rfl) rfl #[.slice A0 l0.length c0, .slice A1 l1.length c1] rfl (by (try simp only [List.map_toArray, List.map_cons, List.map_nil]); first | done | rfl | (simp only [List.length_drop, List.length_take]; rfl)) ?_; (with_reducible refine (spec_ready.calls k _ _ l0 _ _ l1 t582 _ ?side1 ?side2 ?side3 ?side4 A4.out).mono ?_); (case side1 => repeat (first | exact (Kd.C_below HR0.out HB.out) | (with_reducible refine Kd.C_alloc ?_ _) | (with_reducible refine Kd.C_drewN ?_ _) | (with_reducible refine Kd.C_drew ?_))); (case side2 => exact HC0.out); (case side3 => repeat (first | exact (Kd.C_below HR1.out HB.out) | (with_reducible refine Kd.C_alloc ?_ _) | (with_reducible refine Kd.C_drewN ?_ _) | (with_reducible refine Kd.C_drew ?_))); (case side4 => exact HC1.out); rintro e w6 ⟨v583, rfl, ho0, hb⟩; refine ⟨_, rfl, ?_⟩; have n0_ := Aside0.mk (Kd.R_elder' (by (with_reducible repeat (first | apply Kd.R_alloc | apply Kd.R_drewN | apply Kd.R_drew)); exact HO581.out) (Kd.R_base ho0) hb); have n1_ := Aside0.mk (Kd.R_lower (Kd.R_new' ho0 (Kd.R_lt (by (with_reducible repeat (first | apply Kd.R_alloc | apply Kd.R_drewN | apply Kd.R_drew)); exact HO581.out))) (below_size (by repeat (first | (with_reducible first | exact HB.out | apply below_alloc | apply pw_below_drewN | apply below_drew1) | exact HB.out)))); have n2_ := Aside0.mk (below_step (by repeat (first | (with_reducible first | exact HB.out | apply below_alloc | apply pw_below_drewN | apply below_drew1) | exact HB.out)) hb); clear HO581; clear HB; have HO581 := n0_; have HO584 := n1_; have HB := n2_; clear n0_ n1_ n2_; (try clear hb); (try clear hb2); (try clear hk); (try clear hi); (try clear ho0)))
  go_loopg [5, 8] k (fun kq v5 v8 w' => ∃ (x5_1 : Int) (x8_1 : Int), v5 = .int .i64 x5_1 ∧ v8 = .int .i64 x8_1 ∧ Aside0 (spec_timeLeft.l0 kq x5_1 t579 t582 x8_1 = some r) ∧ Aside0 (kq ≤ k) ∧ Aside0 (Kd.R (Kd.int .i64) 3 w' w.heap.size (fun k_ => some k_ ≠ (v583 : Value).ownBlock) v580 t579) ∧ Aside0 (Kd.R (Kd.int .i64) 3 w' w.heap.size (fun k_ => some k_ ≠ (v580 : Value).ownBlock) v583 t582) ∧ Aside0 (Below w.heap.size w w'))
  case atStart => exact ⟨(0), (0), (by first | rfl | (simp; done) | (simp [*]; done)), (by first | rfl | (simp; done) | (simp [*]; done)), H', ⟨Nat.le_refl _⟩, ⟨by (with_reducible repeat (first | apply Kd.R_alloc | apply Kd.R_drewN | apply Kd.R_drew)); exact Kd.R_mono HO581.out (fun _ hk => hk.2)⟩, ⟨by (with_reducible repeat (first | apply Kd.R_alloc | apply Kd.R_drewN | apply Kd.R_drew)); exact Kd.R_mono HO584.out (fun _ hk => hk.2)⟩, ⟨by repeat (first | (with_reducible first | exact HB.out | apply below_alloc | apply pw_below_drewN | apply below_drew1) | exact HB.out)⟩⟩
  case round =>
    clear H'
    try clear c1
    try clear p2
    obtain ⟨x5_1, x8_1, rfl, rfl, HA, HK1, HO_6, HO_7, HB⟩ := hrel
    cases gk with
    | zero => exact absurd HA.out (by simp [spec_timeLeft.l0])
    | succ k1 =>
      have H := HA.out
      clear HA
      simp only [spec_timeLeft.l0] at H
      by_cases c7 : x8_1 < (t582.length : Int)
      · rw [if_pos c7] at H
        have c7b0 : decide (x8_1 < (t582.length : Int)) = true := decide_eq_true c7
        clear c7
        by_cases c8 : 0 ≤ x8_1
        · rw [if_pos c8] at H
          have c8b0 : decide (0 ≤ x8_1) = true := decide_eq_true c8
          clear c8
          by_cases c9 : 0 ≤ (rd t582 x8_1)
          · rw [if_pos c9] at H
            have c9b0 : decide (0 ≤ (rd t582 x8_1)) = true := decide_eq_true c9
            clear c9
            by_cases c10 : (rd t582 x8_1) < (t579.length : Int)
            · rw [if_pos c10] at H
              have c10b0 : decide ((rd t582 x8_1) < (t579.length : Int)) = true := decide_eq_true c10
              clear c10
              obtain ⟨ji11, hji11⟩ : ∃ j_ : Int, (mx x5_1 (rd t579 (rd t582 x8_1))) = j_ := ⟨_, rfl⟩
              replace H : (spec_timeLeft.l0 k1 ji11 t579 t582 (wrap64 (x8_1 + 1))) = some r := by first | (rw [hji11] at H; exact H) | (simp only [hji11] at H ⊢; exact H)
              have hji11_ : (if x5_1 < (rd t579 (rd t582 x8_1)) then (rd t579 (rd t582 x8_1)) else x5_1) = ji11 := hji11
              have H' := Aside0.mk H
              clear H
              obtain ⟨Ao12, co12, eo12⟩ := Kd.R_slice HO_7.out
              subst eo12
              have p585 : 0 ≤ (x8_1 : Int) := of_decide_eq_true (by first | (with_reducible assumption) | assumption)
              have q585 : x8_1 < (t582.length : Int) := of_decide_eq_true (by first | (with_reducible assumption) | assumption)
              obtain ⟨ad585, e585, hx585_0⟩ := Kd.at_int (Kd.R_reads' HO_7.out).2.2 x8_1 p585 q585
              cases e585
              replace p585 := eq_true p585
              replace q585 := eq_true q585
              obtain ⟨Ao13, co13, eo13⟩ := Kd.R_slice HO_6.out
              subst eo13
              have p586 : 0 ≤ ((rd t582 x8_1) : Int) := of_decide_eq_true (by first | (with_reducible assumption) | assumption)
              have q586 : (rd t582 x8_1) < (t579.length : Int) := of_decide_eq_true (by first | (with_reducible assumption) | assumption)
              obtain ⟨ad586, e586, hx586_0⟩ := Kd.at_int (Kd.R_reads' HO_6.out).2.2 (rd t582 x8_1) p586 q586
              cases e586
              replace p586 := eq_true p586
              replace q586 := eq_true q586
              go_wp2
              go_roundg k1
              case measure => have := HK1.out; omega
              case rel => exact ⟨(ji11), (wrap64 (x8_1 + 1)), (by first | rfl | (simp; done) | (simp only [← hji11] <;> (first | rfl | simp)) | (simp [*]; done)), (by first | rfl | (simp; done) | (simp [*]; done)), H', ⟨by have := HK1.out; omega⟩, ⟨by (with_reducible repeat (first | apply Kd.R_alloc | apply Kd.R_drewN | apply Kd.R_drew)); exact HO_6.out⟩, ⟨by (with_reducible repeat (first | apply Kd.R_alloc | apply Kd.R_drewN | apply Kd.R_drew)); exact HO_7.out⟩, ⟨by repeat (first | (with_reducible first | exact HB.out | apply below_alloc | apply pw_below_drewN | apply below_drew1) | exact HB.out)⟩⟩
            · rw [if_neg c10] at H
              exact absurd H (by simp)
          · rw [if_neg c9] at H
            exact absurd H (by simp)
        · rw [if_neg c8] at H
          exact absurd H (by simp)
      · rw [if_neg c7] at H
        have c7b0 : decide (x8_1 < (t582.length : Int)) = false := decide_eq_false c7
        clear c7
        obtain rfl := Option.some.inj H
        obtain ⟨Ao14, co14, eo14⟩ := Kd.R_slice HO_7.out
        subst eo14
        go_wp2
        go_ret
        exact ⟨by first | rfl | (simp [errW_none, errW_some] <;> rfl) | (simp [*, errW_none, errW_some] <;> rfl), by repeat (first | (with_reducible first | exact HB.out | apply below_alloc | apply pw_below_drewN | apply below_drew1) | exact HB.out)⟩
end Go.Proofs.YtpibdjkajgfgjaaDoor.P
end
section
namespace Go.Proofs.YtpibdjkajgfgjaaDoor.P
open Go.RowKit Go.Proofs.YtpibdjkajgfgjaaDoorW.PrintWords Go.Proofs.YtpibdjkajgfgjaaDoorW.PrintLast Go.Proofs.YtpibdjkajgfgjaaDoorW.PrintMore
attribute [local go_sem] max2_int min2_int max_two min_two max_three min_three max_four min_four   -- for this text's walks alone
set_option linter.unusedVariables false
set_option linter.unusedSimpArgs false
def spec_TimeLeft.f (k : Nat) (l0 : List (S48)) (l1 : List Int) : Option (Int) := (spec_validDone.f k l0 l1).bind fun t587 => (if t587 = true then ((spec_timeLeft.f k l0 l1).bind fun t588 => (some t588)) else (some (-1)))
theorem spec_TimeLeft.mono : ∀ a0 a1 k, LeO (spec_TimeLeft.f k a0 a1) (spec_TimeLeft.f (k + 1) a0 a1) := by
  intro a0 a1 k
  unfold spec_TimeLeft.f
  repeat' first
      | (with_reducible exact spec_timeLeft.mono _ _ _)
      | (with_reducible exact spec_validDone.mono _ _ _)
      | (with_reducible exact LeO.refl _)
      | (with_reducible exact LeO.none _)
      | (with_reducible refine LeO.ite ?_ ?_)
      | (with_reducible refine LeO.bind ?_ (fun _ => ?_))
      | exact spec_timeLeft.mono _ _ _
      | exact spec_validDone.mono _ _ _
      | exact LeO.none _
      | refine LeO.ite ?_ ?_
      | refine LeO.bind ?_ (fun _ => ?_)
set_option maxHeartbeats 8000000 in
set_option maxRecDepth 100000 in
theorem spec_TimeLeft.calls (k : Nat) (A0 : Option Addr) (c0 : Nat) (l0 : List (S48)) (A1 : Option Addr) (c1 : Nat) (l1 : List Int) (r : Int) (w : World) (hr0 : Kd.C k48 w A0 l0.length l0) (hc0 : l0.length ≤ c0) (hr1 : Kd.C (Kd.int .i64) w A1 l1.length l1) (hc1 : l1.length ≤ c1) (h : spec_TimeLeft.f k l0 l1 = some r) :
    Calls Tryd.prog 38 #[.slice A0 l0.length c0, .slice A1 l1.length c1] w fun e w' => e = .returned (.int .i64 r) ∧ Below w.heap.size w w' := by
  have HR0 := Aside0.mk hr0
  have HC0 := Aside0.mk hc0
  clear hr0 hc0
  have HR1 := Aside0.mk hr1
  have HC1 := Aside0.mk hc1
  clear hr1 hc1
  have HB := Aside0.mk (Below.refl w.heap.size w)
  have H : ((spec_validDone.f k l0 l1).bind fun t587 => (if t587 = true then ((spec_timeLeft.f k l0 l1).bind fun t588 => (some t588)) else (some (-1)))) = some r := h
  clear h
  replace H := Option.bind_eq_some_iff.mp H
  obtain ⟨t587, A30, H⟩ := H
  replace H : (if t587 = true then ((spec_timeLeft.f k l0 l1).bind fun t588 => (some t588)) else (some (-1))) = some r := H
  have A3 := Aside0.mk A30
  clear A30
  by_cases c4 : t587 = true
  · subst c4
    have H1 : ((spec_timeLeft.f k l0 l1).bind fun t588 => (some t588)) = some r := by rw [if_pos rfl] at H; exact H
    clear H
    have H := H1
    clear H1
    replace H := Option.bind_eq_some_iff.mp H
    obtain ⟨t588, A50, H⟩ := H
    replace H : (some t588) = some r := H
    have A5 := Aside0.mk A50
    clear A50
    obtain rfl := Option.some.inj H
    go_enter Tryd.func38, Tryd.ntmps38
    go_wp2_with (first | ((with_reducible refine gate_callee (f := 73) rfl ?_); refine goesL_ (some 7) rfl rfl Tryd.func73 (by kernel_rfl) rfl #[.slice A0 l0.length c0, .slice A1 l1.length c1] rfl (by (try simp only [List.map_toArray, List.map_cons, List.map_nil]); first | done | rfl | (simp only [List.length_drop, List.length_take]; rfl)) ?_; (with_reducible refine (spec_validDone.calls k _ _ l0 _ _ l1 true _ ?side1 ?side2 ?side3 ?side4 A3.out).mono ?_); (case side1 => repeat (first | exact HR0.out | (with_reducible refine Kd.C_alloc ?_ _) | (with_reducible refine Kd.C_drewN ?_ _) | (with_reducible refine Kd.C_drew ?_))); (case side2 => exact HC0.out); (case side3 => repeat (first | exact HR1.out | (with_reducible refine Kd.C_alloc ?_ _) | (with_reducible refine Kd.C_drewN ?_ _) | (with_reducible refine Kd.C_drew ?_))); (case side4 => exact HC1.out); rintro e w6 ⟨rfl, hb⟩; refine ⟨_, rfl, ?_⟩; have n0_ := Aside0.mk (below_step (by repeat (first | (with_reducible first | exact HB.out | apply below_alloc | apply pw_below_drewN | apply below_drew1) | exact HB.out)) hb); clear HB; have HB := n0_; clear n0_; (try clear hb); (try clear hb2); (try clear hk); (try clear hi)) | ((with_reducible refine gate_callee (f := 80) rfl ?_); refine goesL_ (some 11) rfl rfl Tryd.func80 (by kernel_rfl) rfl #[.slice A0 l0.length c0, .slice A1 l1.length c1] rfl (by (try simp only [List.map_toArray, List.map_cons, List.map_nil]); first | done | rfl | (simp only [List.length_drop, List.length_take]; rfl)) ?_; (with_reducible refine (spec_timeLeft.calls k _ _ l0 _ _ l1 t588 _ ?side1 ?side2 ?side3 ?side4 A5.out).mono ?_); (case side1 => repeat (first | exact (Kd.C_below HR0.out HB.out) | (with_reducible refine Kd.C_alloc ?_ _) | (with_reducible refine Kd.C_drewN ?_ _) | (with_reducible refine Kd.C_drew ?_))); (case side2 => exact HC0.out); (case side3 => repeat (first | exact (Kd.C_below HR1.out HB.out) | (with_reducible refine Kd.C_alloc ?_ _) | (with_reducible refine Kd.C_drewN ?_ _) | (with_reducible refine Kd.C_drew ?_))); (case side4 => exact HC1.out); rintro e w7 ⟨rfl, hb⟩; refine ⟨_, rfl, ?_⟩; have n0_ := Aside0.mk (below_step (by repeat (first | (with_reducible first | exact HB.out | apply below_alloc | apply pw_below_drewN | apply below_drew1) | exact HB.out)) hb); clear HB; have HB := n0_; clear n0_; (try clear hb); (try clear hb2); (try clear hk); (try clear hi)))
    go_ret
    exact ⟨by first | rfl | (simp [errW_none, errW_some] <;> rfl) | (simp [*, errW_none, errW_some] <;> rfl), by repeat (first | (with_reducible first | exact HB.out | apply below_alloc | apply pw_below_drewN | apply below_drew1) | exact HB.out)⟩
  · replace c4 := Bool.eq_false_iff.mpr c4
    subst c4
    have H1 : (some (-1)) = some r := by rw [if_neg (show ¬ (false = true) by decide)] at H; exact H
    clear H
    have H := H1
    clear H1
    obtain rfl := Option.some.inj H
    go_enter Tryd.func38, Tryd.ntmps38
    go_wp2_with (first | ((with_reducible refine gate_callee (f := 73) rfl ?_); refine goesL_ (some 7) rfl rfl Tryd.func73 (by kernel_rfl) rfl #[.slice A0 l0.length c0, .slice A1 l1.length c1] rfl (by (try simp only [List.map_toArray, List.map_cons, List.map_nil]); first | done | rfl | (simp only [List.length_drop, List.length_take]; rfl)) ?_; (with_reducible refine (spec_validDone.calls k _ _ l0 _ _ l1 false _ ?side1 ?side2 ?side3 ?side4 A3.out).mono ?_); (case side1 => repeat (first | exact HR0.out | (with_reducible refine Kd.C_alloc ?_ _) | (with_reducible refine Kd.C_drewN ?_ _) | (with_reducible refine Kd.C_drew ?_))); (case side2 => exact HC0.out); (case side3 => repeat (first | exact HR1.out | (with_reducible refine Kd.C_alloc ?_ _) | (with_reducible refine Kd.C_drewN ?_ _) | (with_reducible refine Kd.C_drew ?_))); (case side4 => exact HC1.out); rintro e w8 ⟨rfl, hb⟩; refine ⟨_, rfl, ?_⟩; have n0_ := Aside0.mk (below_step (by repeat (first | (with_reducible first | exact HB.out | apply below_alloc | apply pw_below_drewN | apply below_drew1) | exact HB.out)) hb); clear HB; have HB := n0_; clear n0_; (try clear hb); (try clear hb2); (try clear hk); (try clear hi)))
    go_ret
    exact ⟨by first | rfl | (simp [errW_none, errW_some] <;> rfl) | (simp [*, errW_none, errW_some] <;> rfl), by repeat (first | (with_reducible first | exact HB.out | apply below_alloc | apply pw_below_drewN | apply below_drew1) | exact HB.out)⟩
end Go.Proofs.YtpibdjkajgfgjaaDoor.P
end
section
namespace Go.Proofs.YtpibdjkajgfgjaaDoor.P
open Go.RowKit Go.Proofs.YtpibdjkajgfgjaaDoorW.PrintWords Go.Proofs.YtpibdjkajgfgjaaDoorW.PrintLast Go.Proofs.YtpibdjkajgfgjaaDoorW.PrintMore
attribute [local go_sem] max2_int min2_int max_two min_two max_three min_three max_four min_four   -- for this text's walks alone
set_option linter.unusedVariables false
set_option linter.unusedSimpArgs false
noncomputable def spec_DrawValidDone.f (k : Nat) (l0 : List Int) : Option ((List (S48)) × List Int) := (spec_newReader.f l0).bind fun bt446 => ((spec_anyGraph.f bt446.1 bt446.2).bind fun bt449 => ((spec_someDone.f k bt446.1 bt449.2 bt449.1).bind fun bt453 => (some (bt449.1, bt453.1))))
theorem spec_DrawValidDone.mono : ∀ a0 k, LeO (spec_DrawValidDone.f k a0) (spec_DrawValidDone.f (k + 1) a0) := by
  intro a0 k
  unfold spec_DrawValidDone.f
  repeat' first
      | (with_reducible exact spec_someDone.mono _ _ _ _)
      | (with_reducible exact LeO.refl _)
      | (with_reducible exact LeO.none _)
      | (with_reducible refine LeO.ite ?_ ?_)
      | (with_reducible refine LeO.bind ?_ (fun _ => ?_))
      | exact spec_someDone.mono _ _ _ _
      | exact LeO.none _
      | refine LeO.ite ?_ ?_
      | refine LeO.bind ?_ (fun _ => ?_)
set_option maxHeartbeats 8000000 in
set_option maxRecDepth 100000 in
theorem spec_DrawValidDone.calls (k : Nat) (A0 : Option Addr) (c0 : Nat) (l0 : List Int) (r1 : List (S48)) (r2 : List Int) (w : World) (hr0 : Kd.C (Kd.int .u8) w A0 l0.length l0) (hc0 : l0.length ≤ c0) (h : spec_DrawValidDone.f k l0 = some (r1, r2)) :
    Calls Tryd.prog 69 #[.slice A0 l0.length c0] w fun e w' => ∃ v0_ v1_ : Value, e = .returned (.tuple #[v0_, v1_]) ∧ Kd.S k48 48 w' w.heap.size (fun k_ => some k_ ≠ (v1_ : Value).ownBlock) v0_ r1 ∧ Kd.Q (Kd.int .i64) 3 w' w.heap.size (fun _ => True) v1_ r2 ∧ Below w.heap.size w w' := by
  have HR0 := Aside0.mk hr0
  have HC0 := Aside0.mk hc0
  clear hr0 hc0
  have HB := Aside0.mk (Below.refl w.heap.size w)
  have H : ((spec_newReader.f l0).bind fun bt446 => ((spec_anyGraph.f bt446.1 bt446.2).bind fun bt449 => ((spec_someDone.f k bt446.1 bt449.2 bt449.1).bind fun bt453 => (some (bt449.1, bt453.1))))) = some (r1, r2) := h
  clear h
  replace H := Option.bind_eq_some_iff.mp H
  obtain ⟨⟨t446, t447⟩, A20, H⟩ := H
  replace H : ((spec_anyGraph.f t446 t447).bind fun bt449 => ((spec_someDone.f k t446 bt449.2 bt449.1).bind fun bt453 => (some (bt449.1, bt453.1)))) = some (r1, r2) := H
  have A2 := Aside0.mk A20
  clear A20
  replace H := Option.bind_eq_some_iff.mp H
  obtain ⟨⟨t449, t452⟩, A30, H⟩ := H
  replace H : ((spec_someDone.f k t446 t452 t449).bind fun bt453 => (some (t449, bt453.1))) = some (r1, r2) := H
  have A3 := Aside0.mk A30
  clear A30
  replace H := Option.bind_eq_some_iff.mp H
  obtain ⟨⟨t453, t456⟩, A40, H⟩ := H
  replace H : (some (t449, t453)) = some (r1, r2) := H
  have A4 := Aside0.mk A40
  clear A40
  simp only [Option.some.injEq, Prod.mk.injEq] at H
  obtain ⟨rfl, rfl⟩ := H
  go_enter Tryd.func69, Tryd.ntmps69
  go_wp2_with (first | ((with_reducible refine gate_callee (f := 82) rfl ?_); refine goesL_ (some 7) rfl rfl Tryd.func82 (by kernel_rfl) rfl #[.slice A0 l0.length c0] rfl (by (try simp only [List.map_toArray, List.map_cons, List.map_nil]); first | done | rfl | (simp only [List.length_drop, List.length_take]; rfl)) ?_; (with_reducible refine (spec_newReader.calls _ _ l0 t446 t447 w _ ?side1 ?side2 ?side3 A2.out).mono ?_); (case side1 => repeat (first | (with_reducible first | exact HB.out | apply below_alloc | apply pw_below_drewN | apply below_drew1) | exact HB.out)); (case side2 => exact HR0.out); (case side3 => exact HC0.out); rintro e w5 ⟨g448, rfl, hi, hb, hb2⟩; refine ⟨_, rfl, ?_⟩; have n0_ := Aside0.mk (hb); have n1_ := Aside0.mk (hi); clear HB; have HB := n0_; have HI448 := n1_; clear n0_ n1_; (try clear hb); (try clear hb2); (try clear hk); (try clear hi)) | ((with_reducible refine gate_callee (f := 81) rfl ?_); refine goesL_ (some 9) rfl rfl Tryd.func81 (by kernel_rfl) rfl #[.pointer (some ⟨g448, 0, none⟩)] rfl (by (try simp only [List.map_toArray, List.map_cons, List.map_nil]); first | done | rfl | (simp only [List.length_drop, List.length_take]; rfl)) ?_; (with_reducible refine (spec_anyGraph.calls g448 t446 t447 t449 t452 w _ ?side1 ?side2 A3.out).mono ?_); (case side1 => repeat (first | (with_reducible first | exact HI448.out | apply IsS116.alloc | apply IsS116.drewN | apply IsS116.drew | apply IsS116.set_1) | exact HI448.out)); (case side2 => repeat (first | (with_reducible first | exact HB.out | apply below_alloc | apply pw_below_drewN | apply below_drew1 | refine below_set ?_ (IsS116.ge HI448.out)) | exact HB.out)); rintro e w6 ⟨v450, rfl, ho0, hi, hb, hk⟩; refine ⟨_, rfl, ?_⟩; have n0_ := Aside0.mk (Kd.S_lower ho0 (below_size (by repeat (first | (with_reducible first | exact HB.out | apply below_alloc | apply pw_below_drewN | apply below_drew1 | refine below_set ?_ (IsS116.ge HI448.out)) | exact HB.out)))); have n1_ := Aside0.mk (hb); have n2_ := Aside0.mk (hi); clear HB; clear HI448; have HO451 := n0_; have HB := n1_; have HI448 := n2_; clear n0_ n1_ n2_; (try clear hb); (try clear hb2); (try clear hk); (try clear hi); (try clear ho0); obtain ⟨Ao7, co7, eo7⟩ := Kd.S_slice HO451.out; subst eo7) | ((with_reducible refine gate_callee (f := 107) rfl ?_); refine goesL_ (some 13) rfl rfl Tryd.func107 (by kernel_rfl) rfl #[.pointer (some ⟨g448, 0, none⟩), .slice Ao7 t449.length co7] rfl (by (try simp only [List.map_toArray, List.map_cons, List.map_nil]); first | done | rfl | (simp only [List.length_drop, List.length_take]; rfl)) ?_; (with_reducible refine (spec_someDone.calls k g448 t446 t452 _ _ t449 t453 t456 w _ ?side1 ?side2 ?side3 ?side4 A4.out).mono ?_); (case side1 => repeat (first | (with_reducible first | exact HI448.out | apply IsS116.alloc | apply IsS116.drewN | apply IsS116.drew | apply IsS116.set_1) | exact HI448.out)); (case side2 => repeat (first | (with_reducible first | exact HB.out | apply below_alloc | apply pw_below_drewN | apply below_drew1 | refine below_set ?_ (IsS116.ge HI448.out)) | exact HB.out)); (case side3 => exact Kd.C_foot_own ((Kd.S_R (IsS116.apartS (show IsS116 w _ g448 t446 t452 from by repeat (first | (with_reducible first | exact HI448.out | apply IsS116.alloc | apply IsS116.drewN | apply IsS116.drew | apply IsS116.set_1) | exact HI448.out)) (by (with_reducible repeat (first | apply Kd.S_alloc | apply Kd.S_drewN | apply Kd.S_drew)); exact HO451.out) (by decide)))) (fun _ h_ => h_.2)); (case side4 => exact (Kd.S_reads' HO451.out).2.1); rintro e w8 ⟨v454, rfl, ho0, hi, hb, hk⟩; refine ⟨_, rfl, ?_⟩; have n0_ := Aside0.mk (Kd.S_mono (Kd.S_told (Kd.S_oldK (IsS116.apartS (show IsS116 w _ g448 t446 t452 from by repeat (first | (with_reducible first | exact HI448.out | apply IsS116.alloc | apply IsS116.drewN | apply IsS116.drew | apply IsS116.set_1) | exact HI448.out)) (by (with_reducible repeat (first | apply Kd.S_alloc | apply Kd.S_drewN | apply Kd.S_drew)); exact HO451.out) (by decide)) hk) (Kd.Q_base ho0)) (fun _ h_ => h_.1)); have n1_ := Aside0.mk (Kd.Q_lower ho0 (below_size (by repeat (first | (with_reducible first | exact HB.out | apply below_alloc | apply pw_below_drewN | apply below_drew1 | refine below_set ?_ (IsS116.ge HI448.out)) | exact HB.out)))); have n2_ := Aside0.mk (hb); have n3_ := Aside0.mk (hi); clear HO451; clear HB; clear HI448; have HO451 := n0_; have HO455 := n1_; have HB := n2_; have HI448 := n3_; clear n0_ n1_ n2_ n3_; (try clear hb); (try clear hb2); (try clear hk); (try clear hi); (try clear ho0)))
  go_ret2
  exact ⟨_, _, by first | rfl | (simp [errW_none, errW_some] <;> rfl) | (simp [*, errW_none, errW_some] <;> rfl), by (with_reducible repeat (first | apply Kd.S_alloc | apply Kd.S_drewN | apply Kd.S_drew)); exact Kd.S_mono HO451.out (fun _ hk => hk.2), by (with_reducible repeat (first | apply Kd.Q_alloc | apply Kd.Q_drewN | apply Kd.Q_drew)); exact HO455.out, by repeat (first | (with_reducible first | exact HB.out | apply below_alloc | apply pw_below_drewN | apply below_drew1 | refine below_set ?_ (IsS116.ge HI448.out)) | exact HB.out)⟩
end Go.Proofs.YtpibdjkajgfgjaaDoor.P
end
section
namespace Go.Proofs.YtpibdjkajgfgjaaDoor.P
open Go.RowKit Go.Proofs.YtpibdjkajgfgjaaDoorW.PrintWords Go.Proofs.YtpibdjkajgfgjaaDoorW.PrintLast Go.Proofs.YtpibdjkajgfgjaaDoorW.PrintMore
attribute [local go_sem] max2_int min2_int max_two min_two max_three min_three max_four min_four   -- for this text's walks alone
set_option linter.unusedVariables false
set_option linter.unusedSimpArgs false
noncomputable def spec_DrawTimeLeft.f (k : Nat) (l0 : List Int) : Option ((List (S48)) × List Int) := (spec_DrawValidDone.f k l0).bind fun bt561 => (some (bt561.1, bt561.2))
theorem spec_DrawTimeLeft.mono : ∀ a0 k, LeO (spec_DrawTimeLeft.f k a0) (spec_DrawTimeLeft.f (k + 1) a0) := by
  intro a0 k
  unfold spec_DrawTimeLeft.f
  repeat' first
      | (with_reducible exact spec_DrawValidDone.mono _ _)
      | (with_reducible exact LeO.refl _)
      | (with_reducible exact LeO.none _)
      | (with_reducible refine LeO.ite ?_ ?_)
      | (with_reducible refine LeO.bind ?_ (fun _ => ?_))
      | exact spec_DrawValidDone.mono _ _
      | exact LeO.none _
      | refine LeO.ite ?_ ?_
      | refine LeO.bind ?_ (fun _ => ?_)
set_option maxHeartbeats 8000000 in
set_option maxRecDepth 100000 in
theorem spec_DrawTimeLeft.calls (k : Nat) (A0 : Option Addr) (c0 : Nat) (l0 : List Int) (r1 : List (S48)) (r2 : List Int) (w : World) (hr0 : Kd.C (Kd.int .u8) w A0 l0.length l0) (hc0 : l0.length ≤ c0) (h : spec_DrawTimeLeft.f k l0 = some (r1, r2)) :
    Calls Tryd.prog 36 #[.slice A0 l0.length c0] w fun e w' => ∃ v0_ v1_ : Value, e = .returned (.tuple #[v0_, v1_]) ∧ Kd.S k48 48 w' w.heap.size (fun k_ => some k_ ≠ (v1_ : Value).ownBlock) v0_ r1 ∧ Kd.Q (Kd.int .i64) 3 w' w.heap.size (fun _ => True) v1_ r2 ∧ Below w.heap.size w w' := by
  have HR0 := Aside0.mk hr0
  have HC0 := Aside0.mk hc0
  clear hr0 hc0
  have HB := Aside0.mk (Below.refl w.heap.size w)
  have H : ((spec_DrawValidDone.f k l0).bind fun bt561 => (some (bt561.1, bt561.2))) = some (r1, r2) := h
  clear h
  replace H := Option.bind_eq_some_iff.mp H
  obtain ⟨⟨t561, t562⟩, A20, H⟩ := H
  replace H : (some (t561, t562)) = some (r1, r2) := H
  have A2 := Aside0.mk A20
  clear A20
  simp only [Option.some.injEq, Prod.mk.injEq] at H
  obtain ⟨rfl, rfl⟩ := H
  go_enter Tryd.func36, Tryd.ntmps36
  go_wp2_with (first | ((with_reducible refine gate_callee (f := 69) rfl ?_); refine goesL_ (some 5) rfl rfl Tryd.func69 (by kernel_rfl) rfl #[.slice A0 l0.length c0] rfl (by (try simp only [List.map_toArray, List.map_cons, List.map_nil]); first | done | rfl | (simp only [List.length_drop, List.length_take]; rfl)) ?_; (with_reducible refine (spec_DrawValidDone.calls k _ _ l0 t561 t562 _ ?side1 ?side2 A2.out).mono ?_); (case side1 => repeat (first | exact HR0.out | (with_reducible refine Kd.C_alloc ?_ _) | (with_reducible refine Kd.C_drewN ?_ _) | (with_reducible refine Kd.C_drew ?_))); (case side2 => exact HC0.out); rintro e w3 ⟨v563, v565, rfl, ho0, ho1, hb⟩; refine ⟨_, rfl, ?_⟩; have n0_ := Aside0.mk (Kd.S_lower ho0 (below_size (by repeat (first | (with_reducible first | exact HB.out | apply below_alloc | apply pw_below_drewN | apply below_drew1) | exact HB.out)))); have n1_ := Aside0.mk (Kd.Q_lower ho1 (below_size (by repeat (first | (with_reducible first | exact HB.out | apply below_alloc | apply pw_below_drewN | apply below_drew1) | exact HB.out)))); have n2_ := Aside0.mk (below_step (by repeat (first | (with_reducible first | exact HB.out | apply below_alloc | apply pw_below_drewN | apply below_drew1) | exact HB.out)) hb); clear HB; have HO564 := n0_; have HO566 := n1_; have HB := n2_; clear n0_ n1_ n2_; (try clear hb); (try clear hb2); (try clear hk); (try clear hi); (try clear ho0); (try clear ho1)))
  go_ret2
  exact ⟨_, _, by first | rfl | (simp [errW_none, errW_some] <;> rfl) | (simp [*, errW_none, errW_some] <;> rfl), by (with_reducible repeat (first | apply Kd.S_alloc | apply Kd.S_drewN | apply Kd.S_drew)); exact HO564.out, by (with_reducible repeat (first | apply Kd.Q_alloc | apply Kd.Q_drewN | apply Kd.Q_drew)); exact HO566.out, by repeat (first | (with_reducible first | exact HB.out | apply below_alloc | apply pw_below_drewN | apply below_drew1) | exact HB.out)⟩
end Go.Proofs.YtpibdjkajgfgjaaDoor.P
end
section
set_option linter.unusedVariables false
set_option linter.unusedSimpArgs false
namespace Go.Proofs.YtpibdjkajgfgjaaDoor.Core
open Go Go.RowKit Go.Proofs.YtpibdjkajgfgjaaDoorW.PrintWords Go.Proofs.YtpibdjkajgfgjaaDoorW.PrintMore Go.Proofs.YtpibdjkajgfgjaaDoor.P
theorem full_of_bits {n p : Nat} (hp : p < 2 ^ n) (h : ∀ i, i < n → p.testBit i = true) : p = 2 ^ n - 1 := by
  refine Nat.eq_of_testBit_eq fun i => ?_
  rw [Nat.testBit_two_pow_sub_one]
  by_cases hi : i < n
  · rw [h i hi]; simp [hi]
  · rw [Nat.testBit_lt_two_pow (Nat.lt_of_lt_of_le hp (Nat.pow_le_pow_right (by omega) (by omega)))]
    simp [hi]
theorem VG.mem {g : List Tk} {G : GD} (v : VG g G) {i : Nat} : i ∈ G.order ↔ i < g.length := by
  rw [← v.ord.set i, Nat.testBit_two_pow_sub_one]
  simp
/-- There is a next task as long as not all are done. -/
theorem VG.next {g : List Tk} {G : GD} (v : VG g G) {p : Nat} (hp : p < 2 ^ g.length) (hne : p ≠ 2 ^ g.length - 1) : ∃ i, i < g.length ∧ p.testBit i = false ∧ sub (G.needs.getD i 0) p = 0 := by
  have h256 : 2 ^ g.length ≤ 256 := pow8 v.n8
  have key : ∀ (suf pre : List Nat), G.order = pre ++ suf → (∀ i ∈ pre, p.testBit i = true) → (∃ i ∈ suf, p.testBit i = false) → ∃ i, i < g.length ∧ p.testBit i = false ∧ sub (G.needs.getD i 0) p = 0 := by
    intro suf
    induction suf with
    | nil => rintro pre _ _ ⟨i, hi, _⟩; cases hi
    | cons j suf ih =>
      intro pre ho hpre hex
      by_cases hj : p.testBit j = true
      · refine ih (pre ++ [j]) (by rw [ho]; simp) (fun i hi => ?_) ?_
        · rcases List.mem_append.1 hi with hi | hi
          · exact hpre i hi
          · rw [List.mem_singleton.1 hi]; exact hj
        · obtain ⟨i, hi, hb⟩ := hex
          rcases List.mem_cons.1 hi with rfl | hi
          · rw [hj] at hb; cases hb
          · exact ⟨i, hi, hb⟩
      · have hjl : j < g.length := v.mem.1 (by rw [ho]; simp)
        refine ⟨j, hjl, by simpa using hj, ?_⟩
        have hNj := getD_lt v.nb j
        refine (sub_zero (by omega) (by omega)).2 fun k hk => ?_
        exact hpre k (v.ord.needs pre j suf ho k hk)
  refine key G.order [] rfl (by simp) ?_
  refine Decidable.byContradiction fun hno => hne (full_of_bits hp fun i hi => ?_)
  cases hb : p.testBit i with
  | true => rfl
  | false => exact absurd ⟨i, v.mem.2 hi, hb⟩ hno
theorem zb_count (p : Nat) : ∀ n, zb n p = ((List.range n).filter (fun i => !p.testBit i)).length
  | 0 => rfl
  | n + 1 => by
    rw [zb, zb_count p n, List.range_succ, List.filter_append, List.length_append]
    congr 1
    by_cases h : p.testBit n = true
    · simp [h]
    · simp [h]
end Go.Proofs.YtpibdjkajgfgjaaDoor.Core
end
section
set_option linter.unusedVariables false
set_option linter.unusedSimpArgs false
namespace Go.Proofs.YtpibdjkajgfgjaaDoor.Core
open Go Go.RowKit Go.Proofs.YtpibdjkajgfgjaaDoorW.PrintWords Go.Proofs.YtpibdjkajgfgjaaDoorW.PrintMore Go.Proofs.YtpibdjkajgfgjaaDoor.P
theorem fold_b (i : Nat) : ∀ (ks : List Nat) (B : List Nat), i < B.length → (∀ m ∈ ks, m ≠ i) →
    (∀ j, j ≠ i → (ks.foldl (bStep i) B).getD j 0 = B.getD j 0) ∧ ∀ k, ((ks.foldl (bStep i) B).getD i 0).testBit k = true ↔ (B.getD i 0).testBit k = true ∨ ∃ m ∈ ks, k = m ∨ (B.getD m 0).testBit k = true
  | [], B, hi, hk => ⟨fun _ _ => rfl, fun k => by simp⟩
  | m :: ks, B, hi, hk => by
    have hm : m ≠ i := hk m List.mem_cons_self
    obtain ⟨h1, h2⟩ := fold_b i ks (bStep i B m) (by rw [bStep_length]; exact hi) (fun x hx => hk x (List.mem_cons_of_mem _ hx))
    have e1 : ∀ j, j ≠ i → (bStep i B m).getD j 0 = B.getD j 0 := by
      intro j hj
      unfold bStep
      rw [List.getD_eq_getElem?_getD, List.getElem?_set_ne (Ne.symm hj), ← List.getD_eq_getElem?_getD]
    have e2 : (bStep i B m).getD i 0 = B.getD i 0 ||| (B.getD m 0 ||| 2 ^ m) := by
      unfold bStep
      rw [List.getD_eq_getElem?_getD, List.getElem?_set_self hi]
      rfl
    refine ⟨fun j hj => (h1 j hj).trans (e1 j hj), fun k => ?_⟩
    rw [List.foldl_cons, h2, e2, Nat.testBit_or, or_bit]
    constructor
    · rintro (h | ⟨x, hx, h⟩)
      · simp only [Bool.or_eq_true, decide_eq_true_eq] at h
        rcases h with h | h | h
        · exact .inl h
        · exact .inr ⟨m, List.mem_cons_self, .inr h⟩
        · exact .inr ⟨m, List.mem_cons_self, .inl h.symm⟩
      · refine .inr ⟨x, List.mem_cons_of_mem _ hx, h.imp_right fun h => ?_⟩
        rw [← e1 x (hk x (List.mem_cons_of_mem _ hx))]; exact h
    · rintro (h | ⟨x, hx, h⟩)
      · exact .inl (by simp only [Bool.or_eq_true, decide_eq_true_eq]; exact .inl h)
      · rcases List.mem_cons.1 hx with rfl | hx
        · refine .inl ?_
          simp only [Bool.or_eq_true, decide_eq_true_eq]
          rcases h with h | h
          · exact .inr (.inr h.symm)
          · exact .inr (.inl h)
        · refine .inr ⟨x, hx, h.imp_right fun h => ?_⟩
          rw [e1 x (hk x (List.mem_cons_of_mem _ hx))]; exact h
/-- What the tables hold behind the first tasks of the order. -/
def BInv (N : List Nat) (n : Nat) (pre : List Nat) (B : List Nat) : Prop :=
  B.length = n ∧ (∀ i, i ∉ pre → B.getD i 0 = 0) ∧ ∀ i ∈ pre, ∀ k, (B.getD i 0).testBit k = true ↔ ∃ m, (N.getD i 0).testBit m = true ∧ (k = m ∨ (B.getD m 0).testBit k = true)
theorem binv_fold {N L : List Nat} {n : Nat} (hn : n ≤ 8) (hb : below1 n N) (hnd : L.Nodup) (hlt : ∀ i ∈ L, i < n) (hnx : ∀ pre i suf, L = pre ++ i :: suf → ∀ k, (N.getD i 0).testBit k = true → k ∈ pre) :
    ∀ (suf pre : List Nat) (LU : List Nat × List Nat), L = pre ++ suf → BInv N n pre LU.1 → BInv N n L (suf.foldl (rStep N) LU).1
  | [], pre, LU, hL, h => by rw [List.append_nil] at hL; rw [hL]; exact h
  | i :: suf, pre, LU, hL, h => by
    obtain ⟨hlen, h0, hI⟩ := h
    have hni : i ∉ pre := by
      intro hm
      rw [hL, List.nodup_append] at hnd
      exact hnd.2.2 i hm i List.mem_cons_self rfl
    have hil : i < n := hlt i (by rw [hL]; simp)
    have hneed := hnx pre i suf hL
    have hel : ∀ m, m ∈ elemsN (N.getD i 0) ↔ (N.getD i 0).testBit m = true := by
      intro m
      rw [mem_elemsN]
      refine ⟨fun h => h.2, fun h => ⟨?_, h⟩⟩
      have := hlt m (by rw [hL]; exact List.mem_append_left _ (hneed m h))
      omega
    obtain ⟨f1, f2⟩ := fold_b i (elemsN (N.getD i 0)) LU.1 (by rw [hlen]; exact hil) (fun m hm e => hni (e ▸ hneed m ((hel m).1 hm)))
    refine binv_fold hn hb hnd hlt hnx suf (pre ++ [i]) (rStep N LU i) (by rw [hL]; simp) ⟨?_, ?_, ?_⟩
    · show ((elemsN (N.getD i 0)).foldl (bStep i) LU.1).length = n
      rw [fold_len (bStep_length i), hlen]
    · intro j hj
      simp only [List.mem_append, List.mem_singleton, not_or] at hj
      exact (f1 j hj.2).trans (h0 j hj.1)
    · intro j hj k
      show ((((elemsN (N.getD i 0)).foldl (bStep i) LU.1).getD j 0).testBit k = true ↔ ∃ m, (N.getD j 0).testBit m = true ∧ (k = m ∨ (((elemsN (N.getD i 0)).foldl (bStep i) LU.1).getD m 0).testBit k = true))
      rcases List.mem_append.1 hj with hj | hj
      · have hji : j ≠ i := fun e => hni (e ▸ hj)
        rw [f1 j hji, hI j hj k]
        have hjm : ∀ m, (N.getD j 0).testBit m = true → m ≠ i := by
          intro m hm e
          obtain ⟨a, b, hab⟩ := List.append_of_mem hj
          have := hnx a j (b ++ i :: suf) (by rw [hL, hab]; simp) m hm
          exact hni (by rw [← e, hab]; exact List.mem_append_left _ this)
        constructor
        · rintro ⟨m, h1, h2⟩
          exact ⟨m, h1, by rw [f1 m (hjm m h1)]; exact h2⟩
        · rintro ⟨m, h1, h2⟩
          exact ⟨m, h1, by rw [f1 m (hjm m h1)] at h2; exact h2⟩
      · rw [List.mem_singleton.1 hj, f2 k, h0 i hni]
        have hmi : ∀ m, (N.getD i 0).testBit m = true → m ≠ i := fun m hm e => hni (e ▸ hneed m hm)
        constructor
        · rintro (h | ⟨m, hm, h⟩)
          · simp at h
          · exact ⟨m, (hel m).1 hm, by rw [f1 m (hmi m ((hel m).1 hm))]; exact h⟩
        · rintro ⟨m, hm, h⟩
          exact .inr ⟨m, (hel m).2 hm, by rw [f1 m (hmi m hm)] at h; exact h⟩
theorem below_bits {g : List Tk} {G : GD} (hG : graphD g = some G) {i : Nat} (hi : i < g.length) (k : Nat) : (G.below.getD i 0).testBit k = true ↔ ∃ m, (G.needs.getD i 0).testBit m = true ∧ (k = m ∨ (G.below.getD m 0).testBit k = true) := by
  have v := vg_of hG
  obtain ⟨N, hN, hf, rfl⟩ := graphD_spec hG
  have h := binv_fold (N := N) (L := (orderD N).1) v.n8 v.nb v.ord.nodup (fun i hi => v.mem.1 hi) v.ord.needs (orderD N).1 [] (List.replicate g.length 0, List.replicate g.length 0) rfl
    ⟨by simp, fun i _ => by show (List.replicate g.length 0).getD i 0 = 0; rw [List.getD_eq_getElem?_getD, List.getElem?_replicate]; split <;> rfl, fun i hi => by cases hi⟩
  exact h.2.2 i (v.mem.2 hi) k
end Go.Proofs.YtpibdjkajgfgjaaDoor.Core
end
section
set_option linter.unusedVariables false
set_option linter.unusedSimpArgs false
namespace Go.Proofs.YtpibdjkajgfgjaaDoor.Core
open Go Go.RowKit Go.Proofs.YtpibdjkajgfgjaaDoorW.PrintWords Go.Proofs.YtpibdjkajgfgjaaDoorW.PrintMore Go.Proofs.YtpibdjkajgfgjaaDoor.P
theorem VG.need_lt {g : List Tk} {G : GD} (v : VG g G) {i m : Nat} (h : (G.needs.getD i 0).testBit m = true) : m < g.length := by
  have h1 := getD_lt v.nb i
  have h2 := Nat.ge_two_pow_of_testBit h
  have h3 : 2 ^ m < 2 ^ g.length := Nat.lt_of_le_of_lt h2 h1
  exact (Nat.pow_lt_pow_iff_right (by omega)).1 h3
/-- From the needs to the task. -/
theorem VG.ind {g : List Tk} {G : GD} (v : VG g G) {Q : Nat → Prop} (h : ∀ i, i < g.length → (∀ m, (G.needs.getD i 0).testBit m = true → Q m) → Q i) : ∀ i, i < g.length → Q i := by
  have key : ∀ (suf pre : List Nat), G.order = pre ++ suf → (∀ i ∈ pre, Q i) → ∀ i ∈ G.order, Q i := by
    intro suf
    induction suf with
    | nil => intro pre ho hp i hi; rw [ho, List.append_nil] at hi; exact hp i hi
    | cons a s ih =>
      intro pre ho hp
      refine ih (pre ++ [a]) (by rw [ho]; simp) fun i hi => ?_
      rcases List.mem_append.1 hi with hi | hi
      · exact hp i hi
      · rw [List.mem_singleton.1 hi]
        exact h a (v.mem.1 (by rw [ho]; simp)) fun m hm => hp m (v.ord.needs pre a s ho m hm)
  exact fun i hi => key G.order [] rfl (by simp) i (v.mem.2 hi)
theorem VG.below_before {g : List Tk} {G : GD} (v : VG g G) (hG : graphD g = some G) : ∀ i, i < g.length → ∀ k, (G.below.getD i 0).testBit k = true → ∀ pre suf, G.order = pre ++ i :: suf → k ∈ pre := by
  refine v.ind (Q := fun i => ∀ k, (G.below.getD i 0).testBit k = true → ∀ pre suf, G.order = pre ++ i :: suf → k ∈ pre) fun i hi ih k hk pre suf ho => ?_
  obtain ⟨m, hm, h⟩ := (below_bits hG hi k).1 hk
  have hmp := v.ord.needs pre i suf ho m hm
  rcases h with rfl | h
  · exact hmp
  · obtain ⟨a, b, rfl⟩ := List.append_of_mem hmp
    exact List.mem_append_left _ (ih m hm k h a (b ++ i :: suf) (by rw [ho]; simp))
/-- From what is above to the task. -/
theorem VG.rind {g : List Tk} {G : GD} (v : VG g G) (hG : graphD g = some G) {Q : Nat → Prop} (h : ∀ k, k < g.length → (∀ m, m < g.length → (G.below.getD m 0).testBit k = true → Q m) → Q k) : ∀ k, k < g.length → Q k := by
  have hn := v.ord.nodup
  have key : ∀ (n : Nat) (pre suf : List Nat), pre.length = n → G.order = pre ++ suf → (∀ i ∈ suf, Q i) → ∀ i ∈ G.order, Q i := by
    intro n
    induction n with
    | zero =>
      intro pre suf hl ho hs i hi
      have : pre = [] := List.length_eq_zero_iff.1 hl
      rw [ho, this, List.nil_append] at hi
      exact hs i hi
    | succ n ih =>
      intro pre suf hl ho hs
      obtain ⟨pre0, k, rfl⟩ : ∃ t z, pre = t ++ [z] := by
        have hne : pre ≠ [] := by intro h; rw [h] at hl; simp at hl
        exact ⟨pre.dropLast, pre.getLast hne, (List.dropLast_concat_getLast hne).symm⟩
      have ho' : G.order = pre0 ++ k :: suf := by rw [ho]; simp
      refine ih pre0 (k :: suf) (by simp at hl; omega) ho' fun i hi => ?_
      rcases List.mem_cons.1 hi with rfl | hi
      · refine h i (v.mem.1 (by rw [ho']; simp)) fun m hm hb => ?_
        have hmo := v.mem.2 hm
        rw [ho'] at hmo hn
        rw [List.nodup_append] at hn
        rcases List.mem_append.1 hmo with hmo | hmo
        · obtain ⟨a, c, hac⟩ := List.append_of_mem hmo
          have := v.below_before hG m hm i hb a (c ++ i :: suf) (by rw [ho', hac]; simp)
          exact absurd rfl (hn.2.2 i (by rw [hac]; exact List.mem_append_left _ this) i List.mem_cons_self)
        · rcases List.mem_cons.1 hmo with hmo | hmo
          · rw [hmo] at hb
            have := v.below_before hG i (v.mem.1 (by rw [ho']; simp)) i hb pre0 suf ho'
            exact absurd rfl (hn.2.2 i this i List.mem_cons_self)
          · exact hs m hmo
      · exact hs i hi
  exact fun k hk => key G.order.length G.order [] rfl (by simp) (by simp) k (v.mem.2 hk)
end Go.Proofs.YtpibdjkajgfgjaaDoor.Core
end
section
set_option linter.unusedVariables false
set_option linter.unusedSimpArgs false
namespace Go.Proofs.YtpibdjkajgfgjaaDoor.Core
open Go Go.RowKit Go.Shelf Go.Proofs.YtpibdjkajgfgjaaDoorW.PrintWords Go.Proofs.YtpibdjkajgfgjaaDoorW.PrintMore Go.Proofs.YtpibdjkajgfgjaaDoor.P
attribute [local go_sem] Oper.semAt_some wide_fn wide_depth
theorem needsGo_taskOk {n : Nat} : ∀ {r : List Tk} {N : List Nat}, needsGo n r = some N → ∀ t ∈ r, taskOk t
  | [], _, _, t, ht => by cases ht
  | a :: r, N, h, t, ht => by
    rw [needsGo] at h
    cases he : setD n a.f1 with
    | none => rw [he] at h; cases h
    | some s =>
      rw [he] at h
      by_cases hok : taskOk a
      · simp only [hok, if_true] at h
        cases hg : needsGo n r with
        | none => rw [hg] at h; cases h
        | some M =>
          rcases List.mem_cons.1 ht with rfl | ht
          · exact hok
          · exact needsGo_taskOk hg t ht
      · simp [hok] at h
theorem graphD_taskOk {g : List Tk} {G : GD} (h : graphD g = some G) : ∀ t ∈ g, taskOk t := by
  obtain ⟨N, hN, _, _⟩ := graphD_spec h
  unfold needsD at hN
  by_cases h8 : g.length ≤ 8
  · rw [if_pos h8] at hN; exact needsGo_taskOk hN
  · rw [if_neg h8] at hN; cases hN
theorem graphOf_row (A0 : Option Addr) (c0 : Nat) (l0 : List Tk) (G : GD) (w : World) (hT : Tab w) (hr0 : k48.C w A0 l0.length l0) (hc0 : l0.length ≤ c0) (hg : graphD l0 = some G) :
    Calls Tryd.prog 60 #[.slice A0 l0.length c0] w fun e w' => ∃ (b : Nat) (v : Value), e = .returned (.tuple #[.pointer (some ⟨b, 0, none⟩), .bool true]) ∧ Below w.heap.size w w' ∧ w.heap.size ≤ b ∧ IsG w' b G ∧ w'.cell? ⟨b, 2, none⟩ = some v ∧ (Kd.int .i64).R 3 w' w.heap.size (fun _ => True) v (up G.order) :=
  (graphOf_calls A0 c0 l0 w hT hr0 hc0).mono fun e w' h => by
    unfold graphPost at h
    rw [hg] at h
    obtain ⟨b, v, h1, h2, h3, h4, h5, h6, _⟩ := h
    exact ⟨b, v, h1, h2, h3, h4, h5, h6⟩
theorem graphOf_some (A0 : Option Addr) (c0 : Nat) (l0 : List Tk) (G : GD) (w : World) (hT : Tab w) (hr0 : k48.C w A0 l0.length l0) (hc0 : l0.length ≤ c0) (hg : graphD l0 = some G) :
    Calls Tryd.prog 60 #[.slice A0 l0.length c0] w fun e w' => ∃ b : Nat, e = .returned (.tuple #[.pointer (some ⟨b, 0, none⟩), .bool true]) ∧ Below w.heap.size w w' ∧ IsG w' b G :=
  (graphOf_row A0 c0 l0 G w hT hr0 hc0 hg).mono fun e w' ⟨b, v, h1, h2, _, h3, _⟩ => ⟨b, h1, h2, h3⟩
theorem within_is (x a b : Int) (t : Bool) (w : World) (h : decide (a ≤ x ∧ x ≤ b) = t) :
    Calls Tryd.prog 64 #[.int .i64 x, .int .i64 a, .int .i64 b] w fun e w' => e = .returned (.bool t) ∧ Below w.heap.size w w' :=
  (impl_within.calls x a b t w (by rw [within_eq, h])).mono fun e w' h => ⟨h.1, drawn_below h.2⟩
end Go.Proofs.YtpibdjkajgfgjaaDoor.Core
end
section
set_option linter.unusedVariables false
set_option linter.unusedSimpArgs false
namespace Go.Proofs.YtpibdjkajgfgjaaDoor.Core
open Go Go.RowKit Go.Proofs.YtpibdjkajgfgjaaDoorW.PrintWords Go.Proofs.YtpibdjkajgfgjaaDoorW.PrintMore Go.Proofs.YtpibdjkajgfgjaaDoor.P
/-- The time of a task. -/
def tmN (g : List Tk) (i : Nat) : Nat := (g.getD i z48).f0.toNat
/-- One need of a task: what lies behind it. -/
def tStep (i : Nat) (L : List Nat) (k : Nat) : List Nat := L.set k (max (L.getD k 0) (L.getD i 0))
def tOne (g : List Tk) (N : List Nat) (L : List Nat) (i : Nat) : List Nat := (elemsN (N.getD i 0)).foldl (tStep i) (L.set i (L.getD i 0 + tmN g i))
/-- The tails behind some tasks, the last ones of the order first. -/
def tTo (g : List Tk) (N : List Nat) (n : Nat) (O : List Nat) : List Nat := O.foldl (tOne g N) (List.replicate n 0)
def tailsN (G : GD) : List Nat := tTo G.tasks G.needs G.tasks.length G.order.reverse
theorem getD_set_ne {L : List Nat} {i j x : Nat} (h : j ≠ i) : (L.set i x).getD j 0 = L.getD j 0 := by
  rw [List.getD_eq_getElem?_getD, List.getElem?_set_ne (Ne.symm h), ← List.getD_eq_getElem?_getD]
theorem getD_set_self {L : List Nat} {i x : Nat} (h : i < L.length) : (L.set i x).getD i 0 = x := by
  rw [List.getD_eq_getElem?_getD, List.getElem?_set_self h]; rfl
theorem getD_repl (n i : Nat) : (List.replicate n 0).getD i 0 = 0 := by
  rw [List.getD_eq_getElem?_getD, List.getElem?_replicate]; split <;> rfl
theorem tStep_length (i : Nat) (L : List Nat) (k : Nat) : (tStep i L k).length = L.length := by simp [tStep]
theorem tfold_length (i : Nat) : ∀ (ks : List Nat) (L : List Nat), (ks.foldl (tStep i) L).length = L.length
  | [], _ => rfl
  | k :: ks, L => by rw [List.foldl_cons, tfold_length i ks, tStep_length]
theorem tOne_length (g : List Tk) (N L : List Nat) (i : Nat) : (tOne g N L i).length = L.length := by unfold tOne; rw [tfold_length, List.length_set]
theorem tTo_length (g : List Tk) (N : List Nat) (n : Nat) (O : List Nat) : (tTo g N n O).length = n := by
  have : ∀ (O : List Nat) (L : List Nat), L.length = n → (O.foldl (tOne g N) L).length = n := by
    intro O
    induction O with
    | nil => intro L h; exact h
    | cons i O ih => intro L h; exact ih _ (by rw [tOne_length]; exact h)
  exact this O _ (by simp)
theorem tTo_snoc (g : List Tk) (N : List Nat) (n : Nat) (O : List Nat) (i : Nat) : tTo g N n (O ++ [i]) = tOne g N (tTo g N n O) i := by unfold tTo; rw [List.foldl_append]; rfl
def leB (b : Nat) (L : List Nat) : Prop := ∀ i, L.getD i 0 ≤ b
theorem leB_mono {a b : Nat} {L : List Nat} (h : leB a L) (hab : a ≤ b) : leB b L := fun i => Nat.le_trans (h i) hab
theorem leB_set {b i x : Nat} {L : List Nat} (h : leB b L) (hx : x ≤ b) : leB b (L.set i x) := by
  intro j
  by_cases e : j = i
  · subst e
    by_cases hl : j < L.length
    · rw [getD_set_self hl]; exact hx
    · rw [List.set_eq_of_length_le (by omega)]; exact h j
  · rw [getD_set_ne e]; exact h j
theorem tStep_le {b i : Nat} {L : List Nat} (h : leB b L) (k : Nat) : leB b (tStep i L k) := leB_set h (by have := h k; have := h i; omega)
theorem tfold_le {b i : Nat} : ∀ (ks : List Nat) (L : List Nat), leB b L → leB b (ks.foldl (tStep i) L)
  | [], _, h => h
  | k :: ks, L, h => tfold_le ks _ (tStep_le h k)
def tm20 (g : List Tk) : Prop := ∀ i, tmN g i ≤ 20
theorem tOne_le {g : List Tk} {b : Nat} {N L : List Nat} (ht : tm20 g) (h : leB b L) (i : Nat) : leB (b + 20) (tOne g N L i) :=
  tfold_le _ _ (leB_set (leB_mono h (by omega)) (by have := h i; have := ht i; omega))
theorem tTo_le {g : List Tk} (ht : tm20 g) (N : List Nat) (n : Nat) (O : List Nat) : leB (O.length * 20) (tTo g N n O) := by
  have : ∀ (O : List Nat) (b : Nat) (L : List Nat), leB b L → leB (b + O.length * 20) (O.foldl (tOne g N) L) := by
    intro O
    induction O with
    | nil => intro b L h; simpa using h
    | cons i O ih =>
      intro b L h
      have := ih (b + 20) _ (tOne_le (N := N) ht h i)
      rw [List.length_cons, show b + (O.length + 1) * 20 = b + 20 + O.length * 20 by omega]
      exact this
  have := this O 0 (List.replicate n 0) (fun i => by rw [getD_repl]; exact Nat.le_refl _)
  simpa [tTo] using this
end Go.Proofs.YtpibdjkajgfgjaaDoor.Core
end
section
set_option linter.unusedVariables false
set_option linter.unusedSimpArgs false
namespace Go.Proofs.YtpibdjkajgfgjaaDoor.Core
open Go Go.RowKit Go.Proofs.YtpibdjkajgfgjaaDoorW.PrintWords Go.Proofs.YtpibdjkajgfgjaaDoorW.PrintMore Go.Proofs.YtpibdjkajgfgjaaDoor.P
theorem i64_w' (n : Int) : IntKind.i64.wrap n = Go.RowKit.wrap64 n := by unfold Go.RowKit.wrap64; exact IntKind.wrap_i64 n
theorem tm20_of {g : List Tk} (h : ∀ t ∈ g, taskOk t) : tm20 g := by
  intro i
  unfold tmN
  rw [List.getD_eq_getElem?_getD]
  cases e : g[i]? with
  | none => simp [z48]
  | some t =>
    have := (h t (List.mem_of_getElem? e)).1
    simp only [Option.getD_some]
    omega
theorem tm_int {g : List Tk} (h : ∀ t ∈ g, taskOk t) {i : Nat} (hi : i < g.length) : (g.getD i z48).f0 = (tmN g i : Int) ∧ 1 ≤ tmN g i ∧ tmN g i ≤ 20 := by
  have hm : g.getD i z48 ∈ g := by
    rw [List.getD_eq_getElem?_getD, List.getElem?_eq_getElem hi]
    exact List.getElem_mem hi
  have := (h _ hm).1
  unfold tmN
  omega
/-- Sums and greatest ones of small numbers, as the program reckons them. -/
theorem wadd {a b : Nat} (ha : a ≤ 100000) (hb : b ≤ 100000) : wrap64 ((a : Int) + (b : Int)) = ((a + b : Nat) : Int) ∧ IntKind.i64.wrap ((a : Int) + (b : Int)) = ((a + b : Nat) : Int) := by
  have h : wrap64 ((a : Int) + (b : Int)) = ((a + b : Nat) : Int) := by rw [w64 (by omega) (by omega)]; omega
  exact ⟨h, by rw [i64_w']; exact h⟩
theorem wmax (a b : Nat) : (if (a : Int) < (b : Int) then (b : Int) else (a : Int)) = ((max a b : Nat) : Int) := by split <;> omega
end Go.Proofs.YtpibdjkajgfgjaaDoor.Core
end
section
set_option linter.unusedVariables false
set_option linter.unusedSimpArgs false
namespace Go.Proofs.YtpibdjkajgfgjaaDoor.Core
open Go Go.RowKit Go.Shelf Go.Proofs.YtpibdjkajgfgjaaDoorW.PrintWords Go.Proofs.YtpibdjkajgfgjaaDoorW.PrintLast Go.Proofs.YtpibdjkajgfgjaaDoorW.PrintMore Go.Proofs.YtpibdjkajgfgjaaDoor.P
attribute [local go_sem] Oper.semAt_some wide_fn wide_depth
/-- What slices.Backward hands to a round: a place and what stands there. -/
abbrev Pl (xs : List Int) := { j : Nat // j < xs.length }
def bwEnc (xs : List Int) (j : Pl xs) : Array Value := #[.int .i64 (j.1 : Int), .int .i64 (rd xs (j.1 : Int))]
/-- The slice lies in its box, and its row in the world. -/
def BwT (Bn : Nat) (A : Option Addr) (c : Nat) (xs : List Int) (W : World) : Prop := Boxed W Bn 23 (.slice A xs.length c) ∧ (Kd.int .i64).C W A xs.length xs
theorem range_rev (m : Nat) : (List.range (m + 1)).reverse = m :: (List.range m).reverse := by rw [List.range_succ, List.reverse_append]; rfl
set_option maxRecDepth 100000 in
set_option maxHeartbeats 1000000 in
theorem bw1 (l Bn : Nat) (A : Option Addr) (c : Nat) (xs : List Int) (hn : xs.length ≤ 8) (J Jx : List (Pl xs) → World → Prop)
    (hY : ∀ pre j W, J pre W → pre.length < 16 → YieldAt Fence.wide 1 Tryd.prog l (bwEnc xs j) W fun e W' =>
      (e = .returned (.bool true) ∧ J (pre ++ [j]) W' ∧ (BwT Bn A c xs W → BwT Bn A c xs W')) ∨ (e = .returned (.bool false) ∧ Jx (pre ++ [j]) W'))
    (W : World) (hT : BwT Bn A c xs W) (h0 : J [] W) :
    CallsIn Fence.wide 2 Tryd.prog 124 #[.func (.yield l) #[] #[], .pointer (some ⟨Bn, 0, none⟩)] W fun e W' => (∃ v, e = .returned v) ∧
      ((∃ ys : List (Pl xs), ys.map (·.1) = (List.range xs.length).reverse ∧ J ys W') ∨ (∃ pre, True ∧ Jx pre W')) := by
  have hc0 := hT.1.cell
  refine callsIn_of_wp Tryd.func124 rfl trivial ?_ rfl
  simp only [Tryd.ntmps124, List.size_toArray, List.length_cons, List.length_nil, Nat.reduceAdd, Nat.reduceSub, Array.replicate_succ, Array.replicate_zero, List.push_toArray, List.append_toArray, List.nil_append, List.cons_append]
  gi_wp2
  clear hc0
  gi_loopw [3] (fun p wr => ∃ (pre : List (Pl xs)) (m : Nat) (i : Int), p = .int .i64 i ∧ Aside0 (i = (m : Int) - 1 ∧ m ≤ xs.length ∧ pre.map (·.1) ++ (List.range m).reverse = (List.range xs.length).reverse) ∧ BwT Bn A c xs wr ∧ J pre wr)
    (fun p wr => (intOf p + 1).toNat)
  case atStart =>
    refine ⟨[], xs.length, _, rfl, ⟨?_, Nat.le_refl _, rfl⟩, hT, h0⟩
    first | rfl | (rw [w64 (by omega) (by omega)])
  case round =>
    obtain ⟨pre, m, i, rfl, hm, hT1, hj⟩ := hrel
    cases m with
    | zero =>
      have hlt : decide (0 ≤ i) = false := decide_eq_false (by have := hm.out.1; omega)
      clear hY
      gi_wp2
      go_end0
      exact ⟨⟨_, rfl⟩, .inl ⟨pre, by simpa using hm.out.2.2, hj⟩⟩
    | succ m =>
      have hi := hm.out.1
      have hml := hm.out.2.1
      have hlt : decide (0 ≤ i) = true := decide_eq_true (by omega)
      have p0 : 0 ≤ i := by omega
      have q0 : i < (xs.length : Int) := by omega
      obtain ⟨ad, e0, hx0⟩ := Kd.at_int hT1.2 i p0 q0
      have hpl : pre.length < 16 := by
        have h1 := congrArg List.length hm.out.2.2
        simp at h1
        omega
      obtain ⟨fn, tmps, assign, body, hy, hR⟩ := hY pre ⟨m, hml⟩ wr hj hpl
      dsimp only [bwEnc] at hy
      rw [show ((m : Nat) : Int) = i by omega] at hy
      have hc1 := hT1.1.cell
      replace p0 := eq_true p0
      replace q0 := eq_true q0
      subst e0
      generalize rd xs i = x at hx0 hy
      have HT1 := Aside0.mk hT1
      clear hY hi hpl hj hT1
      gi_wp2
      refine hR.mono ?_
      rintro e W3 (⟨rfl, hJ3, hk3⟩ | ⟨rfl, hJx3⟩)
      · have hT3 := hk3 HT1.out
        gi_wp2
        go_roundw
        case rel =>
          have h1 := hm.out
          refine ⟨pre ++ [⟨m, hml⟩], m, _, rfl, ⟨?_, by omega, ?_⟩, hT3, hJ3⟩
          · first | omega | (rw [w64 (by omega) (by omega)]; omega) | (rw [i64_w, w64 (by omega) (by omega)]; omega)
          · rw [← h1.2.2, range_rev]; simp
        case measure =>
          have h1 := hm.out
          have hw : wrap64 (i - 1) = i - 1 := w64 (by omega) (by omega)
          simp only [intOf]
          first | omega | (rw [hw]; omega) | (rw [i64_w, hw]; omega)
      · gi_wp2
        refine bodyPost_ret (results_none rfl _ _ _) rfl ?_
        exact ⟨⟨_, rfl⟩, .inr ⟨_, trivial, hJx3⟩⟩
set_option maxHeartbeats 1000000 in
/-- slices.Backward: the slice is boxed; the function value captures the box. -/
theorem backward_calls (v : Value) (hv : ∃ A n c, v = .slice A n c) (w : World) :
    Calls Tryd.prog 110 #[v] w fun e w' => e = .returned (.func (.func 124) #[] #[.pointer (some ⟨w.heap.size, 0, none⟩)]) ∧ w.alloc (.cells #[v] 23) = w' := by
  obtain ⟨A, n, c, rfl⟩ := hv
  go_enter Tryd.func110, Tryd.ntmps110
  go_wp2
  go_ret
  exact ⟨rfl, rfl⟩
theorem bw_seq (Bn : Nat) (A : Option Addr) (c : Nat) (xs : List Int) (hn : xs.length ≤ 8) (w : World) (hT : ∀ W, Below w.heap.size w W → BwT Bn A c xs W) :
    SeqStopsK Fence.wide 2 Tryd.prog 124 #[.pointer (some ⟨Bn, 0, none⟩)] (bwEnc xs) (fun W W' => BwT Bn A c xs W → BwT Bn A c xs W') (fun ys : List (Pl xs) => ys.map (·.1) = (List.range xs.length).reverse) (fun _ => True) 16 w :=
  fun l J Jx W hW _ _ hY h0 => bw1 l Bn A c xs hn J Jx hY W (hT W hW) h0
theorem BwT.tame {Bn : Nat} {A : Option Addr} {c : Nat} {xs : List Int} {B : Nat} {W W' : World} (hB : ∀ W W', Tame B W W' → (Kd.int .i64).C W A xs.length xs → (Kd.int .i64).C W' A xs.length xs) (h : BwT Bn A c xs W) (ht : Tame B W W') : BwT Bn A c xs W' :=
  ⟨ht.boxed h.1, hB W W' ht h.2⟩
theorem Tame.cell {B : Nat} {W W' : World} {a : Addr} {v : Value} (h : Tame B W W') (hc : W.cell? a = some v) : W'.cell? a = some v := by
  obtain ⟨o, ho, hoc⟩ := cells_of_cell hc
  cases o with
  | cells cs t fr => exact (World.cell?_of_block (w := W) (w' := W') (a := a) (h.block _ (World.block_lt_of_cell? W _ hc) (.inr ⟨_, _, _, ho⟩))).trans hc
  | _ => cases hoc
/-- A row of cells stays, whatever else a loop's book-keeping turns. -/
theorem C_tame {A : Option Addr} {xs : List Int} {B : Nat} {W W' : World} (h : Tame B W W') (hC : (Kd.int .i64).C W A xs.length xs) : (Kd.int .i64).C W' A xs.length xs := by
  obtain ⟨h1, h2, h3⟩ := hC
  refine ⟨h1, h2, fun h0 => ?_⟩
  obtain ⟨ad, hA, hx⟩ := h3 h0
  refine ⟨ad, hA, fun j x hj => ?_⟩
  obtain ⟨cs, hl, hk, hc⟩ := hx j x hj
  exact ⟨cs, hl, hk, fun i u hu => h.cell (hc i u hu)⟩
theorem Tame.alloc (B : Nat) (W : World) (o : Obj) : Tame B W (W.alloc o) := ⟨rfl, rfl, rfl, (KeepsOthers.alloc W o).size, fun k hk _ => (World.grownBy_alloc W o none).block k hk (by simp)⟩
/-- How a round's body may be left: as rsPost, for places. -/
def bwPost (B : Nat) (I : List Nat → World → Prop) (ys : List Nat) (W : World) : Exit → Act → World → Prop
  | .normal, _, W' => KeepsFrom B W W' ∧ I ys W'
  | _, _, _ => False
/-- A range over slices.Backward whose loop variable is boxed. -/
theorem wp_rangeBack {g : Operand} {p q d rid : Nat} {t : TypeId} {pos1 pos2 : String} {af : Array Edge} {body : Code} {Q : Exit → Act → World → Prop} {a : Act} {w : World} {Bn c : Nat} {A : Option Addr} {xs : List Int}
    (hg : a.eval g = .func (.func 124) #[] #[.pointer (some ⟨Bn, 0, none⟩)]) (hn : xs.length ≤ 8) (hT0 : ∀ W, Below w.heap.size w W → BwT Bn A c xs W) (hp : q < a.tmps.size) (hd : d < a.tmps.size)
    (I : List Nat → World → Prop) (hI : OwnFrom w.heap.size I) (h0 : I [] w) (hT : ∀ ys W, I ys W → BwT Bn A c xs W) (hIa : ∀ ys W o, I ys W → I ys (W.alloc o)) (hIs : ∀ ys W, I ys W → w.heap.size ≤ W.heap.size)
    (hassign : ∀ (l j : Nat) (W : World) (K : Act → World → Prop), K { tmps := (((a.tmps.setIfInBounds p (.int .i64 (j : Int))).setIfInBounds q (.int .i64 (rd xs (j : Int)))).setIfInBounds d (.pointer (some ⟨W.heap.size, 0, none⟩))), defers := [] } (W.alloc (.cells #[.int .i64 (rd xs (j : Int))] 3)) →
      (Code.region rid #[{ dst := some d, op := .alloc 3, type := 0, pos := pos1, after := #[], guard := none }, { dst := none, op := .store 3 (.tmp d) (.tmp q), type := t, pos := pos2, after := af, guard := none }] false).wpIn (Fence.wide.inRound l) 1 Tryd.prog (Exit.then K (fun _ _ _ => False)) { tmps := (a.tmps.setIfInBounds p (.int .i64 (j : Int))).setIfInBounds q (.int .i64 (rd xs (j : Int))), defers := [] } W)
    (hbody : ∀ (l : Nat) (pre : List Nat) (j Bx : Nat) (W : World), j < xs.length → w.heap.size ≤ l → (∃ r, W.heap[l]? = some (.loop r)) → I pre W → pre.length < 16 → w.heap.size ≤ Bx → Boxed W Bx 3 (.int .i64 (rd xs (j : Int))) →
      body.wpIn (Fence.wide.inRound l) 1 Tryd.prog (bwPost w.heap.size I (pre ++ [j]) W) { tmps := (((a.tmps.setIfInBounds p (.int .i64 (j : Int))).setIfInBounds q (.int .i64 (rd xs (j : Int)))).setIfInBounds d (.pointer (some ⟨Bx, 0, none⟩))), defers := [] } W)
    (hdone : ∀ (D : Nat) (W : World), w.heap.size ≤ D → I (List.range xs.length).reverse W → W.heap[D]? = some (.deferred (some [])) → Q .normal { a with defers := { target := .collected D, args := #[] } :: a.defers } W) :
    (Code.rangeFunc g #[p, q] (.region rid #[{ dst := some d, op := .alloc 3, type := 0, pos := pos1, after := #[], guard := none }, { dst := none, op := .store 3 (.tmp d) (.tmp q), type := t, pos := pos2, after := af, guard := none }] false) body).wp Tryd.prog Q a w := by
  refine wpIn_wide.1 (wpIn_rangeFunc_ownH (n := 3) rfl (by decide) hg trivial (enters_of Tryd.func124 (by kernel_rfl) rfl) (bw_seq Bn A c xs hn w hT0) (fun h k x => k (h x)) (fun W l o o' hl ho hc _ hT => hT.tame (fun _ _ => C_tame) (Tame.of_own (B := w.heap.size) (grownBy_putObj' W l o') (fun r e => by cases e; exact ⟨hl, o, ho, hc⟩))) (Below.refl _ _) (fun _ => rfl)
    (fun ys => I (ys.map (·.1))) (fun _ _ _ => False) (fun s W W' row hs hg hr => hI _ W W' row hs hg hr) (fun _ => ownFrom_tame (fun _ _ _ _ h => h)) h0 (fun j a' W => ∃ Bx, w.heap.size ≤ Bx ∧ Boxed W Bx 3 (.int .i64 (rd xs (j.1 : Int))) ∧ a' = { tmps := (((a.tmps.setIfInBounds p (.int .i64 (j.1 : Int))).setIfInBounds q (.int .i64 (rd xs (j.1 : Int)))).setIfInBounds d (.pointer (some ⟨Bx, 0, none⟩))), defers := [] }) ?_ ?_ ?_ ?_ ?_)
  · exact fun j a' => ownFrom_tame (fun _ W W' ht ⟨Bx, h1, h2, h3⟩ => ⟨Bx, h1, ht.boxed h2, h3⟩)
  · intro l pre j W K hi hK
    have h := hassign l j.1 W K (hK _ _ ((KeepsOthers.alloc _ _).from _) (fun hT => hT.tame (fun _ _ => C_tame) (Tame.alloc w.heap.size W _)) (hIa _ _ _ hi) ⟨W.heap.size, hIs _ _ hi, Boxed.new W _ _, rfl⟩)
    simpa [bwEnc] using h
  · rintro l pre j a' W hl hr hi ⟨Bx, hBx, hb, rfl⟩ hlt
    refine wpIn_mono (hbody l _ j.1 Bx W j.2 hl hr hi (by simpa using hlt) hBx hb) ?_
    intro e a'' W' h
    rw [show pre.map (·.1) ++ [j.1] = (pre ++ [j]).map (·.1) by simp] at h
    cases e with
    | normal => exact ⟨h.1, fun _ => hT _ _ h.2, h.2⟩
    | _ => exact h.elim
  · intro D ys W hD hS hI' hk
    exact hdone D W hD (by rw [← hS]; exact hI') hk
  · intro D c pre W hD _ hI' hk
    exact hI'.elim
/-- A range over a set's numbers within a round. -/
theorem wpIn_rangeSetN {T : World → Prop} (hTt : ∀ B W W', Tame B W W' → T W → T W') {P : Program} {g : Operand} {p d rid l0 : Nat} {r0 : Loop} {t : TypeId} {pos : String} {body : Code} {Q : Exit → Act → World → Prop} {a : Act} {w w0 : World} {gf : Nat} {lb : Array Value} {xs : List Int}
    (hl0 : w.heap[l0]? = some (.loop r0)) (hg : a.eval g = .func (.func gf) #[] lb) (eg : ∀ args w, (callFunc gf args).run P w = .ok (.enter gf args) w)
    (hseq : SetSeq T P gf lb xs w0) (hb0 : Below w0.heap.size w0 w) (hp : p < a.tmps.size)
    (I : List Int → World → Prop) (hI : OwnFrom w.heap.size I) (h0 : I [] w) (hT : ∀ ys W, I ys W → T W)
    (hbody : ∀ (l : Nat) (pre : List Int) (x : Int) (W : World), x ∈ xs → I pre W → pre.length < 16 →
      body.wpIn (Fence.wide.inRound l) 0 P (rsPost w.heap.size I (fun _ _ _ => False) (pre ++ [x]) W) { tmps := (a.tmps.setIfInBounds p (.int .i64 x)).setIfInBounds d (.int .i64 x), defers := [] } W)
    (hdone : ∀ (W : World), I xs W → Q .normal a W) :
    (Code.rangeFunc g #[p] (.region rid #[{ dst := some d, op := .assign (.tmp p), type := t, pos := pos, after := #[], guard := none }] false) body).wpIn (Fence.wide.inRound l0) 1 P Q a w := by
  refine wpIn_rangeFunc_ownN (n := 1) (l₀ := l0) (r₀ := r0) rfl hl0 (Nat.le_refl _) hg trivial eg (SeqStopsK.inRound l0 hseq) (fun h k x => k (h x)) (fun W l o o' hl ho hc _ => hTt w.heap.size _ _ (Tame.of_own (grownBy_putObj' W l o') (fun r e => by cases e; exact ⟨hl, o, ho, hc⟩))) hb0 (fun _ => rfl)
    (fun ys => I (ys.map (·.1))) (fun c ys W => False) (fun s W W' row hs hg hr => hI _ W W' row hs hg hr) (fun c s W W' row hs hg hr => hs) h0
    (fun x a' _ => a' = { tmps := (a.tmps.setIfInBounds p (.int .i64 x.1)).setIfInBounds d (.int .i64 x.1), defers := [] }) (fun _ _ => ownFrom_tame (fun _ _ _ _ h => h)) ?_ ?_ ?_ ?_
  · intro l pre x W K hi hK
    refine wpIn_region_list ?_
    gi_wp2
    have := hK _ _ (KeepsFrom.refl _ _) (fun h => h) hi rfl
    simpa [eltEnc, Act.eval, hp] using this
  · rintro l pre x a' W _ _ hi rfl hlt
    refine wpIn_mono (hbody l _ x.1 W x.2 hi (by simpa using hlt)) ?_
    intro e a' W' h
    rw [show pre.map (·.1) ++ [x.1] = (pre ++ [x]).map (·.1) by simp] at h
    cases e with
    | normal => exact ⟨h.1, fun _ => hT _ _ h.2, h.2⟩
    | ret => exact h
    | exit id => exact h
    | goto t => exact h
    | panic c => exact h
    | outgrown => exact h
  · intro ys W hS hI'
    exact hdone W (by rw [← hS]; exact hI')
  · intro c pre W _ hI'
    exact hI'.elim
end Go.Proofs.YtpibdjkajgfgjaaDoor.Core
end
section
set_option linter.unusedVariables false
set_option linter.unusedSimpArgs false
namespace Go.Proofs.YtpibdjkajgfgjaaDoor.Core
open Go Go.RowKit Go.Shelf Go.Proofs.YtpibdjkajgfgjaaDoorW.PrintWords Go.Proofs.YtpibdjkajgfgjaaDoorW.PrintLast Go.Proofs.YtpibdjkajgfgjaaDoorW.PrintMore Go.Proofs.YtpibdjkajgfgjaaDoor.P
attribute [local go_sem] Oper.semAt_some wide_fn wide_depth max2_int max_two
def icells (L : List Nat) : Array Value := (L.map fun (x : Nat) => Value.int .i64 (x : Int)).toArray
theorem icell {W : World} {p t : Nat} {L : List Nat} (h : W.heap[p]? = some (.cells (icells L) t (0, 0))) (i : Nat) (hi : i < L.length) : W.cell? ⟨p, i, none⟩ = some (.int .i64 ((L.getD i 0 : Nat) : Int)) := by
  simp [World.cell?, h, icells, hi]
theorem ifrozen {W : World} {p t : Nat} {L : List Nat} (h : W.heap[p]? = some (.cells (icells L) t (0, 0))) (i : Nat) : W.frozen? ⟨p, i, none⟩ = false := by
  simp [World.frozen?, h]
theorem iset {W : World} {p t : Nat} {L : List Nat} (h : W.heap[p]? = some (.cells (icells L) t (0, 0))) (i x : Nat) : (W.setCell ⟨p, i, none⟩ (.int .i64 (x : Int))).heap[p]? = some (.cells (icells (L.set i x)) t (0, 0)) := by
  rw [blk_set h i _]
  congr 2
  apply Array.ext'
  simp [icells, List.map_set]
/-- What the loops hold: the row, its variable; the rest as it was. -/
structure SI (w0 : World) (p pO n : Nat) (W : World) (L : List Nat) : Prop where
  row : W.heap[p]? = some (.cells (icells L) 3 (0, 0))
  box : Boxed W pO 23 (.slice (some ⟨p, 0, none⟩) n n)
  below : Below w0.heap.size w0 W
theorem SI.tame {w0 W W' : World} {p pO n B : Nat} {L : List Nat} (h : SI w0 p pO n W L) (hb : w0.heap.size ≤ B) (ht : Tame B W W') : SI w0 p pO n W' L := ⟨ht.cells h.row, ht.boxed h.box, ht.below h.below (Nat.le_refl _) hb⟩
theorem SI.move {w0 W W' : World} {p pO n : Nat} {L : List Nat} (h : SI w0 p pO n W L) (hb : Below W.heap.size W W') : SI w0 p pO n W' L := ⟨(hb.block _ (cells_lt h.row)).trans h.row, (hb.block _ h.box.lt).trans h.box, below_step h.below hb⟩
theorem SI.alloc {w0 W : World} {p pO n : Nat} {L : List Nat} (h : SI w0 p pO n W L) (o : Obj) : SI w0 p pO n (W.alloc o) L := h.move ((Below.refl W.heap.size W).alloc (Nat.le_refl _) o)
theorem SI.set {w0 W : World} {p pO n : Nat} {L : List Nat} (h : SI w0 p pO n W L) (hp : w0.heap.size ≤ p) (hne : pO ≠ p) (i x : Nat) : SI w0 p pO n (W.setCell ⟨p, i, none⟩ (.int .i64 (x : Int))) (L.set i x) := ⟨iset h.row i x, (sother _ hne).trans h.box, h.below.setCell (p := ⟨p, i, none⟩) hp _⟩
theorem infoI : (Tryd.prog.info? 3).map (fun i => (i.zero, i.size, i.bytes)) = some (some (.int .i64 0), 1, 8) := by kernel_rfl
theorem run_make_ints (n : Nat) (hn : n ≤ 8) (W : World) : (Instr.makeSlice 23 (.int .i64 (n : Int)) (.int .i64 (n : Int))).run Tryd.prog W = .ok (.slice (some ⟨W.heap.size, 0, none⟩) n n) (W.alloc (.cells (icells (List.replicate n 0)) 3)) := by
  obtain ⟨i0, hi, hz0, hz1, hz2⟩ := info_parts infoI
  have hr := run_make (P := Tryd.prog) W 23 3 i0 (.int .i64 0) Tryd.underlying23 hi hz0 .i64 .i64 (n : Int) (n : Int) (by omega) (by omega) (by rw [hz2]; omega) (by omega)
  rw [hz1] at hr
  simp only [Int.toNat_natCast, Nat.mul_one] at hr
  rw [hr]
  rw [show madeCells (Value.cells (.int .i64 0)) n = icells (List.replicate n 0) from (madeCells1 _ n).trans (by simp [icells])]
end Go.Proofs.YtpibdjkajgfgjaaDoor.Core
end
section
set_option linter.unusedVariables false
set_option linter.unusedSimpArgs false
namespace Go.Proofs.YtpibdjkajgfgjaaDoor.Core
open Go Go.RowKit Go.Shelf Go.Proofs.YtpibdjkajgfgjaaDoorW.PrintWords Go.Proofs.YtpibdjkajgfgjaaDoorW.PrintLast Go.Proofs.YtpibdjkajgfgjaaDoorW.PrintMore Go.Proofs.YtpibdjkajgfgjaaDoor.P
attribute [local go_sem] Oper.semAt_some wide_fn wide_depth max2_int max_two
set_option maxRecDepth 100000 in
set_option maxHeartbeats 2000000 in
theorem tails_row (b : Nat) (G : GD) (w : World) (hT : Tab w) (hg : IsG w b G) (ok : GOk G) (htk : ∀ t ∈ G.tasks, taskOk t) :
    Calls Tryd.prog 78 #[.pointer (some ⟨b, 0, none⟩)] w fun e w' => ∃ p, e = .returned (.slice (some ⟨p, 0, none⟩) G.tasks.length G.tasks.length) ∧ w.heap.size ≤ p ∧ w'.heap[p]? = some (.cells (icells (tailsN G)) 3 (0, 0)) ∧ Below w.heap.size w w' := by
  have h8 := ok.n8
  have hmk := run_make_ints G.tasks.length h8
  have x1 := Boxed.new w 63 (.pointer (some ⟨b, 0, none⟩))
  have B1 := (Below.refl w.heap.size w).alloc (Nat.le_refl _) (.cells #[.pointer (some ⟨b, 0, none⟩)] 63)
  have o1 : (w.alloc (.cells #[.pointer (some ⟨b, 0, none⟩)] 63)).heap.size = w.heap.size + 1 := by simp
  obtain ⟨w1, hw1⟩ : ∃ w1, w1 = w.alloc (.cells #[.pointer (some ⟨b, 0, none⟩)] 63) := ⟨_, rfl⟩
  rw [← hw1] at x1 B1 o1
  have hg1 := hg.move B1
  have hsz := (size_calls b G w1 hg1).mono (R' := fun e w' => e = .returned (.int .i64 (G.tasks.length : Int)) ∧ w' = w1) (fun _ _ h => ⟨h.1, h.2.symm⟩)
  have hcx1 := x1.cell
  obtain ⟨w3, hw3⟩ : ∃ w3, w3 = ((w1.alloc (.cells (icells (List.replicate G.tasks.length 0)) 3)).alloc (.cells #[.slice (some ⟨w.heap.size + 1, 0, none⟩) G.tasks.length G.tasks.length] 23)) := ⟨_, rfl⟩
  have HS : SI w (w.heap.size + 1) (w.heap.size + 1 + 1) G.tasks.length w3 (List.replicate G.tasks.length 0) := by
    rw [hw3]
    refine ⟨cells_alloc (by rw [← o1]; exact cells_new w1 _) _, ?_, (B1.alloc (by omega) _).alloc (by simp; omega) _⟩
    have h := Boxed.new (w1.alloc (.cells (icells (List.replicate G.tasks.length 0)) 3)) 23 (.slice (some ⟨w.heap.size + 1, 0, none⟩) G.tasks.length G.tasks.length)
    rw [show (w1.alloc (.cells (icells (List.replicate G.tasks.length 0)) 3)).heap.size = w.heap.size + 1 + 1 by simp [o1]] at h
    exact h
  have x3 : Boxed w3 w.heap.size 63 (.pointer (some ⟨b, 0, none⟩)) := by rw [hw3]; exact (x1.alloc _).alloc _
  have o3 : w3.heap.size = w.heap.size + 1 + 1 + 1 := by rw [hw3]; simp [o1]
  obtain ⟨Ao, co, hco0, -, hCo⟩ := hg.order
  have hco := (HS.below.cell (World.block_lt_of_cell? _ _ hco0)).trans hco0
  rw [← up_length G.order] at hCo
  clear hco0
  have hcx3 := x3.cell
  have HW3 := Aside0.mk hw3
  rw [hw3] at hco hcx3
  have HCo := Aside0.mk hCo
  have Hg := Aside0.mk hg
  have HT := Aside0.mk hT
  have OK := Aside0.mk ok
  have HTK := Aside0.mk htk
  have HSS := Aside0.mk HS
  have HX3 := Aside0.mk x3
  have HO3 := Aside0.mk o3
  have HW1 := Aside0.mk hw1
  clear hw1 hw3 hg hT ok htk hCo HS x3 o3 hg1 B1 x1
  refine calls_marks Tryd.func78 rfl ?_
  simp only [Tryd.ntmps78, List.size_toArray, List.length_cons, List.length_nil, Nat.reduceAdd, Nat.reduceSub, Array.replicate_succ, Array.replicate_zero, List.push_toArray, List.append_toArray, List.nil_append, List.cons_append]
  go_wp2_with (first | (go_at_call 62; rw [← HW1.out]; refine hsz.mono ?_; rintro e w' ⟨rfl, hw⟩; rw [hw]; clear hw w') | (go_at_call 110; rw [← HW3.out]; refine (backward_calls _ ⟨_, _, _, rfl⟩ w3).mono ?_; rintro e w' ⟨rfl, rfl⟩))
  clear hmk hsz hcx1 hcx3 hco
  have hol : (up G.order).length = G.order.length := up_length _
  have hol8 : (up G.order).length ≤ 8 := by have := OK.out.ol; omega
  have ev : Value.slice Ao G.order.length co = .slice Ao (up G.order).length co := by rw [hol]
  rw [ev]
  have hbx := Boxed.new w3 23 (.slice Ao (up G.order).length co)
  rw [HO3.out] at hbx
  have o4 : (w3.alloc (.cells #[.slice Ao (up G.order).length co] 23)).heap.size = w.heap.size + 1 + 1 + 1 + 1 := by simp [HO3.out]
  have hS4 := HSS.out.alloc (.cells #[.slice Ao (up G.order).length co] 23)
  have x4 := HX3.out.alloc (.cells #[.slice Ao (up G.order).length co] 23)
  rw [HO3.out]
  have HO1 := Aside0.mk o1
  clear o1 ev
  revert hbx o4 hS4 x4
  generalize w3.alloc (.cells #[.slice Ao (up G.order).length co] 23) = w4
  intro hbx o4 hS4 x4
  have HT0 : ∀ W, Below w4.heap.size w4 W → BwT (w.heap.size + 1 + 1 + 1) Ao co (up G.order) W := fun W hB => ⟨(hB.block _ hbx.lt).trans hbx, Kd.C_below HCo.out (below_step hS4.below hB)⟩
  have hle4 : w.heap.size ≤ w4.heap.size := by omega
  have htm20 := tm20_of HTK.out
  have H256 := Aside0.mk (pow8 h8)
  have HOL := Aside0.mk hol
  clear hol
  refine wp_rangeBack (w := w4) (Bn := w.heap.size + 1 + 1 + 1) (c := co) (A := Ao) (xs := up G.order) (p := 15) (q := 16) (d := 5) rfl hol8 HT0 (by simp) (by simp)
    (fun ys W => SI w (w.heap.size + 1) (w.heap.size + 1 + 1) G.tasks.length W (tTo G.tasks G.needs G.tasks.length (ys.map fun j => G.order.getD j 0)) ∧ Boxed W w.heap.size 63 (.pointer (some ⟨b, 0, none⟩)) ∧ BwT (w.heap.size + 1 + 1 + 1) Ao co (up G.order) W ∧ w4.heap.size ≤ W.heap.size)
    (ownFrom_tame (fun ys W W' ht ⟨a1, a2, a3, a4⟩ => ⟨a1.tame hle4 ht, ht.boxed a2, a3.tame (fun _ _ => C_tame) ht, Nat.le_trans a4 ht.size⟩))
    ⟨hS4, x4, HT0 w4 (Below.refl _ _), Nat.le_refl _⟩ (fun ys W h => h.2.2.1) (fun ys W o ⟨a1, a2, a3, a4⟩ => ⟨a1.alloc o, a2.alloc o, a3.tame (fun _ _ => C_tame) (Tame.alloc w4.heap.size W o), Nat.le_trans a4 (Tame.alloc w4.heap.size W o).size⟩) (fun ys W h => h.2.2.2) ?assign ?body ?done
  case assign =>
    intro l j W K hK
    generalize rd (up G.order) ((j : Nat) : Int) = xj at hK ⊢
    generalize ((j : Nat) : Int) = ji at hK ⊢
    gi_wp2
    exact hK
  case body =>
    rintro l pre j Bx W1 hj hl ⟨r, hr⟩ ⟨hSI, hxb, hbw, hsz⟩ hlt hBx hbi
    have hro : rd (up G.order) ((j : Nat) : Int) = ((G.order.getD j 0 : Nat) : Int) := rd_up rfl
    rw [hro] at hbi ⊢
    have hjo : j < G.order.length := by rw [HOL.out] at hj; exact hj
    have hil : G.order.getD j 0 < G.tasks.length := OK.out.ob _ (by rw [List.getD_eq_getElem?_getD, List.getElem?_eq_getElem hjo]; exact List.getElem_mem hjo)
    have hsnoc := tTo_snoc G.tasks G.needs G.tasks.length (pre.map fun j => G.order.getD j 0) (G.order.getD j 0)
    have hlen := tTo_length G.tasks G.needs G.tasks.length (pre.map fun j => G.order.getD j 0)
    have hbd := tTo_le htm20 G.needs G.tasks.length (pre.map fun j => G.order.getD j 0)
    rw [List.length_map] at hbd
    have hpm : ∀ R : List Nat, R = tOne G.tasks G.needs (tTo G.tasks G.needs G.tasks.length (pre.map fun j => G.order.getD j 0)) (G.order.getD j 0) → tTo G.tasks G.needs G.tasks.length ((pre ++ [j]).map fun j => G.order.getD j 0) = R := fun R h => by rw [h, ← hsnoc, List.map_append]; rfl
    generalize tTo G.tasks G.needs G.tasks.length (pre.map fun j => G.order.getD j 0) = L at hSI hlen hbd hpm
    generalize G.order.getD j 0 = i at hbi hil hpm ⊢
    clear hsnoc hro hjo hj
    generalize hxi : ((i : Nat) : Int) = xi at hbi ⊢
    generalize ((j : Nat) : Int) = ji
    gi_wp2
    refine wpIn_still_tail 14 rfl (by kernel_rfl) (by kernel_rfl) (fun ⟨_, _, h⟩ => h) ?_
    change wpStill _ _ W1.drew (fun a' => wpList _ _ _ _ a' W1.drew) _ _
    have hdr : Below W1.heap.size W1 W1.drew := below_drew (Below.refl _ _)
    have hko := KeepsOthers.drew W1
    revert hdr hko
    generalize W1.drew = Wd
    intro hdr hko
    have hSI2 := hSI.move hdr
    have hxb2 : Boxed Wd w.heap.size 63 (.pointer (some ⟨b, 0, none⟩)) := (hdr.block _ hxb.lt).trans hxb
    have hbi2 : Boxed Wd Bx 3 (.int .i64 xi) := (hdr.block _ hbi.lt).trans hbi
    have hbw2 : BwT (w.heap.size + 1 + 1 + 1) Ao co (up G.order) Wd := ⟨(hdr.block _ hbw.1.lt).trans hbw.1, Kd.C_below hbw.2 hdr⟩
    have hsz2 : w4.heap.size ≤ Wd.heap.size := Nat.le_trans hsz hdr.size
    have hgd := Hg.out.move hSI2.below
    obtain ⟨A, c, hc0, hcl, hC⟩ := hgd.tasks
    have p0 : 0 ≤ xi := by omega
    have q0 : xi < (G.tasks.length : Int) := by omega
    obtain ⟨ad, A1, c1, e0, h0, h1, h2, h3, h4, h5⟩ := at_T48 hC xi p0 q0
    subst e0
    have hrd : rd_T48 G.tasks xi = G.tasks.getD i z48 := by rw [← hxi]; simp [rd_T48]
    have htm := tm_int HTK.out hil
    rw [hrd, htm.1] at h0
    obtain ⟨ad5, had5⟩ : ∃ ad5 : Addr, ad5 = ⟨w.heap.size + 1, 0, none⟩ := ⟨_, rfl⟩
    have hc10 : Wd.cell? ⟨w.heap.size + 1 + 1, 0, none⟩ = some (.slice (some ad5) G.tasks.length G.tasks.length) := by rw [had5]; exact hSI2.box.cell
    have hci := hbi2.cell
    have hcx := hxb2.cell
    have hLi := icell hSI2.row i (by omega)
    have hfi := ifrozen hSI2.row i
    have hit : xi.toNat = i := by omega
    have hli := hbd i
    have hone : tOne G.tasks G.needs L i = (elemsN (G.needs.getD i 0)).foldl (tStep i) (L.set i (L.getD i 0 + tmN G.tasks i)) := rfl
    have hl320 : L.getD i 0 ≤ 320 := Nat.le_trans hli (by omega)
    have ht20 := htm.2.2
    obtain ⟨hadd, hadd2⟩ := wadd (a := L.getD i 0) (b := tmN G.tasks i) (Nat.le_trans hl320 (by decide)) (Nat.le_trans ht20 (by decide))
    have hbd2 : leB 1000 (L.set i (L.getD i 0 + tmN G.tasks i)) := leB_set (leB_mono hbd (show pre.length * 20 ≤ 1000 by omega)) (Nat.le_trans (Nat.add_le_add hl320 ht20) (by decide))
    rw [hone] at hpm
    generalize hsum : L.getD i 0 + tmN G.tasks i = sm at hadd hadd2 hpm hbd2
    generalize hsmi : ((sm : Nat) : Int) = smI at hadd hadd2
    generalize ((L.getD i 0 : Nat) : Int) = li at hLi hadd hadd2
    generalize (tmN G.tasks i : Int) = tmi at h0 hadd hadd2
    rw [← add_own, ← had5, ← hit] at hLi hfi
    have HH := Aside0.mk (show xi.toNat = i ∧ ad5 = ⟨w.heap.size + 1, 0, none⟩ ∧ smI = ((sm : Nat) : Int) ∧ ((i : Nat) : Int) = xi from ⟨hit, had5, hsmi.symm, hxi⟩)
    have HPM := Aside0.mk hpm
    have HBD := Aside0.mk hbd2
    have HLEN := Aside0.mk hlen
    have HIL := Aside0.mk hil
    have HSI2 := Aside0.mk hSI2
    have HLT := Aside0.mk hlt
    have hro2 := hko.same l _ hr rfl
    replace p0 := eq_true p0
    replace q0 := eq_true q0
    clear hl320 ht20 hit had5 hsmi hxi hpm hbd2 hlen hil hSI2 hlt hone hsum htm hrd h1 h2 h3 h4 h5 hC hcl hgd hbd hli hSI hxb hbi hbw
    have hr0 := hr
    clear hr
    simp only [List.take_succ_cons, List.take_zero, List.drop_succ_cons, List.drop_zero]
    repeat still_step
    refine wpStill_nil ?_
    go_wp2
    obtain ⟨hit, had5, hsmi, hxi⟩ := HH.out
    have hadr : ad5.add xi.toNat = ⟨w.heap.size + 1, i, none⟩ := by rw [had5, add_own, hit]
    rw [hadr, hsmi]
    have hko3 := hko.trans (KeepsOthers.setCell Wd ⟨w.heap.size + 1, i, none⟩ (.int .i64 ((sm : Nat) : Int)))
    have hs3 := HSI2.out.set (by omega) (by omega) i sm
    have hgr := grownBy_setCell'' Wd (w.heap.size + 1) i (.int .i64 ((sm : Nat) : Int))
    have hxb3 : Boxed (Wd.setCell ⟨w.heap.size + 1, i, none⟩ (.int .i64 ((sm : Nat) : Int))) w.heap.size 63 (.pointer (some ⟨b, 0, none⟩)) := (sother _ (by omega)).trans hxb2
    have hbi3 : Boxed (Wd.setCell ⟨w.heap.size + 1, i, none⟩ (.int .i64 ((sm : Nat) : Int))) Bx 3 (.int .i64 xi) := (sother _ (by omega)).trans hbi2
    have hbw3 : BwT (w.heap.size + 1 + 1 + 1) Ao co (up G.order) (Wd.setCell ⟨w.heap.size + 1, i, none⟩ (.int .i64 ((sm : Nat) : Int))) := ⟨(sother _ (by omega)).trans hbw2.1, Kd.C_below HCo.out hs3.below⟩
    have hro3 := hko3.same l _ hr0 rfl
    have hsz3 : w4.heap.size ≤ (Wd.setCell ⟨w.heap.size + 1, i, none⟩ (.int .i64 ((sm : Nat) : Int))).heap.size := Nat.le_trans hsz2 hgr.size
    revert hko3 hs3 hxb3 hbi3 hbw3 hro3 hsz3
    clear hgr hro2 hadr hfi hLi h0 hc10 hci hcx hc0 hdr hko hxb2 hbi2 hbw2 hsz2
    generalize Wd.setCell ⟨w.heap.size + 1, i, none⟩ (.int .i64 ((sm : Nat) : Int)) = W3
    intro hko3 hs3 hxb3 hbi3 hbw3 hro3 hsz3
    refine wpIn_seq ?_
    refine wpIn_still_tail 7 rfl (by kernel_rfl) (by kernel_rfl) (fun ⟨_, _, h⟩ => h) ?_
    change wpStill _ _ W3.drew (fun a' => wpList _ _ _ _ a' W3.drew) _ _
    have hdr : Below W3.heap.size W3 W3.drew := below_drew (Below.refl _ _)
    have hko := KeepsOthers.drew W3
    revert hdr hko
    generalize W3.drew = W4
    intro hdr hko
    have hs4 := hs3.move hdr
    have hxb4 : Boxed W4 w.heap.size 63 (.pointer (some ⟨b, 0, none⟩)) := (hdr.block _ hxb3.lt).trans hxb3
    have hbi4 : Boxed W4 Bx 3 (.int .i64 xi) := (hdr.block _ hbi3.lt).trans hbi3
    have hbw4 : BwT (w.heap.size + 1 + 1 + 1) Ao co (up G.order) W4 := ⟨(hdr.block _ hbw3.1.lt).trans hbw3.1, Kd.C_below HCo.out hs4.below⟩
    have hko4 := hko3.trans hko
    have hsz4 : w4.heap.size ≤ W4.heap.size := Nat.le_trans hsz3 hdr.size
    clear hro3 hdr hko hko3 hxb3 hbi3 hbw3 hsz3 hs3
    have hgd := Hg.out.move hs4.below
    obtain ⟨An, cn, hcn, _, hCn⟩ := hgd.needs
    have hnl := OK.out.nl
    have hil := HIL.out
    have p1 : 0 ≤ xi := by omega
    have q1 : xi < (G.needs.length : Int) := by omega
    obtain ⟨adn, e1, hxn⟩ := Kd.at_int hCn xi p1 q1
    subst e1
    rw [rd_up (i := i) hxi.symm] at hxn
    have hNi : G.needs.getD i 0 < 2 ^ G.tasks.length := getD_lt OK.out.nb i
    have HPM2 := Aside0.mk HPM.out
    clear HPM
    generalize hs_ : G.needs.getD i 0 = s at hxn hNi HPM2
    have hs8 : s < 256 := Nat.lt_of_lt_of_le hNi H256.out
    have hcx := hxb4.cell
    have hci := hbi4.cell
    replace p1 := eq_true p1
    replace q1 := eq_true q1
    clear hnl hCn hs_ hit had5 hsmi hxi hgd hil
    simp only [List.take_succ_cons, List.take_zero, List.drop_succ_cons, List.drop_zero]
    repeat still_step
    refine wpStill_nil ?_
    go_wp2_with (go_at_call 79; refine (all_calls s _).mono ?_; rintro e w' ⟨rfl, rfl⟩)
    clear hcn hxn hcx hci p1 q1
    have hs5 := Boxed.new W4 67 (.int .u16 (s : Int))
    have hS5 := hs4.alloc (.cells #[.int .u16 (s : Int)] 67)
    have hxb5 := hxb4.alloc (.cells #[.int .u16 (s : Int)] 67)
    have hbi5 := hbi4.alloc (.cells #[.int .u16 (s : Int)] 67)
    have hbw5 : BwT (w.heap.size + 1 + 1 + 1) Ao co (up G.order) (W4.alloc (.cells #[.int .u16 (s : Int)] 67)) := ⟨hbw4.1.alloc _, Kd.C_below HCo.out hS5.below⟩
    have hko5 := hko4.trans (KeepsOthers.alloc W4 (.cells #[.int .u16 (s : Int)] 67))
    have hsz5 : (W4.alloc (.cells #[.int .u16 (s : Int)] 67)).heap.size = W4.heap.size + 1 := by simp
    revert hs5 hS5 hxb5 hbi5 hbw5 hko5 hsz5
    generalize W4.alloc (.cells #[.int .u16 (s : Int)] 67) = W5
    intro hs5 hS5 hxb5 hbi5 hbw5 hko5 hsz5
    have hro5 := hko5.same l _ hr0 rfl
    have hle5 : w.heap.size ≤ W5.heap.size := hS5.below.size
    gi_wp2
    refine wpIn_rangeSetN Tab.tame (w := W5) (w0 := W5) (p := 39) (d := 6) hro5 rfl (enters_of Tryd.func111 (by kernel_rfl) rfl)
      (all_seq W4.heap.size s hs8 W5 (HT.out.of hS5.below) hs5.cell) (Below.refl _ _) (by simp)
      (fun ys W' => (∃ zs : List Nat, (∀ z ∈ zs, z < G.tasks.length) ∧ ys = up zs ∧ SI w (w.heap.size + 1) (w.heap.size + 1 + 1) G.tasks.length W' (zs.foldl (tStep i) (L.set i sm)) ∧ Boxed W' Bx 3 (.int .i64 xi) ∧ Boxed W' w.heap.size 63 (.pointer (some ⟨b, 0, none⟩)) ∧ BwT (w.heap.size + 1 + 1 + 1) Ao co (up G.order) W' ∧ W5.heap.size ≤ W'.heap.size) ∧ KeepsFrom w4.heap.size W1 W')
      (OwnFrom.and (ownFrom_tame (fun ys W' W'' ht ⟨zs, z, a1, a2, a3, a4, a5, a6⟩ => ⟨zs, z, a1, a2.tame hle5 ht, ht.boxed a3, ht.boxed a4, a5.tame (fun _ _ => C_tame) ht, Nat.le_trans a6 ht.size⟩)) (ownFrom_keepsFrom hko5.size))
      ⟨⟨[], by simp, rfl, hS5, hbi5, hxb5, hbw5, Nat.le_refl _⟩, hko5.from _⟩ (fun ys W' ⟨⟨_, _, _, h, _⟩, _⟩ => HT.out.of h.below) ?body2 ?done2
    case body2 =>
      rintro l2 pre2 x W6 hx ⟨⟨zs, hzl, rfl, hS6, hbi6, hxb6, hbw6, hsz6⟩, hkf6⟩ hlt2
      gi_wp2
      obtain ⟨k0, hxk, hk0, _⟩ := mem_elems.1 hx
      have hkn : k0 < G.tasks.length := by have := elems_lt hNi hx; omega
      have hL1 : (zs.foldl (tStep i) (L.set i sm)).length = G.tasks.length := by rw [tfold_length, List.length_set, HLEN.out]
      have hil := HIL.out
      have hstep : (zs ++ [k0]).foldl (tStep i) (L.set i sm) = (zs.foldl (tStep i) (L.set i sm)).set k0 (max ((zs.foldl (tStep i) (L.set i sm)).getD k0 0) ((zs.foldl (tStep i) (L.set i sm)).getD i 0)) := by rw [List.foldl_append]; rfl
      refine wpIn_still_tail 12 rfl (by kernel_rfl) (by kernel_rfl) (fun ⟨_, _, h⟩ => h) ?_
      change wpStill _ _ W6.drew (fun a' => wpList _ _ _ _ a' W6.drew) _ _
      have hdr : Below W6.heap.size W6 W6.drew := below_drew (Below.refl _ _)
      have hko := KeepsOthers.drew W6
      revert hdr hko
      generalize W6.drew = Wd
      intro hdr hko
      have hS7 := hS6.move hdr
      have hbi7 : Boxed Wd Bx 3 (.int .i64 xi) := (hdr.block _ hbi6.lt).trans hbi6
      have hxb7 : Boxed Wd w.heap.size 63 (.pointer (some ⟨b, 0, none⟩)) := (hdr.block _ hxb6.lt).trans hxb6
      have hbw7 : BwT (w.heap.size + 1 + 1 + 1) Ao co (up G.order) Wd := ⟨(hdr.block _ hbw6.1.lt).trans hbw6.1, Kd.C_below HCo.out hS7.below⟩
      obtain ⟨ad7, had7⟩ : ∃ ad7 : Addr, ad7 = ⟨w.heap.size + 1, 0, none⟩ := ⟨_, rfl⟩
      have hc10 : Wd.cell? ⟨w.heap.size + 1 + 1, 0, none⟩ = some (.slice (some ad7) G.tasks.length G.tasks.length) := by rw [had7]; exact hS7.box.cell
      have hci := hbi7.cell
      have hLi := icell hS7.row i (by omega)
      have hLk := icell hS7.row k0 (by omega)
      have hfk := ifrozen hS7.row k0
      obtain ⟨hit, -, -, hxi⟩ := HH.out
      have hkt : x.toNat = k0 := by omega
      have hmx := wmax ((zs.foldl (tStep i) (L.set i sm)).getD k0 0) ((zs.foldl (tStep i) (L.set i sm)).getD i 0)
      generalize (zs.foldl (tStep i) (L.set i sm)).getD i 0 = si at hLi hstep hmx
      generalize (zs.foldl (tStep i) (L.set i sm)).getD k0 0 = sk at hLk hstep hmx
      generalize hsI : ((si : Nat) : Int) = sI at hLi hmx
      generalize hsK : ((sk : Nat) : Int) = sK at hLk hmx
      rw [← add_own, ← had7, ← hit] at hLi
      rw [← add_own, ← had7, ← hkt] at hLk hfk
      have p2 : (0 ≤ x) = True := eq_true (by omega)
      have q2 : (x < (G.tasks.length : Int)) = True := eq_true (by omega)
      have p3 : (0 ≤ xi) = True := eq_true (by omega)
      have q3 : (xi < (G.tasks.length : Int)) = True := eq_true (by omega)
      have HH2 := Aside0.mk (show x = (k0 : Int) ∧ x.toNat = k0 ∧ ad7 = ⟨w.heap.size + 1, 0, none⟩ from ⟨hxk, hkt, had7⟩)
      have HSTEP := Aside0.mk hstep
      have HMX := Aside0.mk hmx
      have HKN := Aside0.mk hkn
      clear hxk hkt had7 hsI hsK hx hstep hmx hlt2 hit hxi hL1 hil hkn
      simp only [List.take_succ_cons, List.take_zero, List.drop_succ_cons, List.drop_zero]
      repeat still_step
      rw [HMX.out]
      refine wpStill_nil ?_
      go_wp2
      gi_wp2
      obtain ⟨hxk, hkt, had7⟩ := HH2.out
      rw [show ad7.add x.toNat = ⟨w.heap.size + 1, k0, none⟩ by rw [had7, add_own, hkt]]
      have hkoS := hko.trans (KeepsOthers.setCell Wd ⟨w.heap.size + 1, k0, none⟩ (.int .i64 ((max sk si : Nat) : Int)))
      have hS8 := hS7.set (by omega) (by omega) k0 (max sk si)
      refine ⟨hkoS.from _, ⟨zs ++ [k0], ?_, ?_, ?_, ?_, ?_, ?_, ?_⟩, hkf6.trans (hkoS.from _)⟩
      · intro z hz
        rcases List.mem_append.1 hz with hz | hz
        · exact hzl z hz
        · rw [List.mem_singleton.1 hz]; exact HKN.out
      · rw [hxk]; simp [up]
      · rw [HSTEP.out]; exact hS8
      · exact (sother _ (by omega)).trans hbi7
      · exact (sother _ (by omega)).trans hxb7
      · exact ⟨(sother _ (by omega)).trans hbw7.1, Kd.C_below HCo.out hS8.below⟩
      · exact Nat.le_trans hsz6 (Nat.le_trans hdr.size (KeepsOthers.setCell _ _ _).size)
    case done2 =>
      rintro W6 ⟨⟨zs, hzl, hzs, hS6, hbi6, hxb6, hbw6, hsz6⟩, hkf6⟩
      obtain rfl : elemsN s = zs := up_inj hzs
      clear hzs
      gi_wp2
      exact ⟨hkf6, by rw [HPM2.out _ rfl]; exact hS6, hxb6, hbw6, by have := hS5.below.size; have := hko5.size; omega⟩
  case done =>
    rintro D W2 hD ⟨hSI, hxb, hbw, hsz⟩ hk
    have hm := (Marks.nil w.heap.size w4.heap.size W2).cons hD hle4 hk
    have hcb := hSI.box.cell
    clear hk
    go_wp2
    refine leave_ret hm (fun W => results_tmp rfl _ _ _) ?_
    intro W' ht
    have hG := hSI.tame (Nat.le_refl _) ht
    refine ⟨_, rfl, by omega, ?_, hG.below⟩
    have hrow := hG.row
    have hrev : ((List.range (up G.order).length).reverse.map fun j => G.order.getD j 0) = G.order.reverse := by
      rw [List.map_reverse]
      congr 1
      rw [HOL.out]
      refine List.ext_getElem (by simp) fun k h1 h2 => ?_
      simp only [List.getElem_map, List.getElem_range]
      rw [List.getD_eq_getElem?_getD, List.getElem?_eq_getElem h2]
      rfl
    rw [hrev] at hrow
    exact hrow
/-- A block of numbers, told as a row. -/
theorem icells_R {w : World} {base p n : Nat} {L : List Nat} (hp : base ≤ p) (hrow : w.heap[p]? = some (.cells (icells L) 3 (0, 0))) (hl : L.length = n) (hn : n ≤ 8) : (Kd.int .i64).R 3 w base (fun _ => True) (.slice (some ⟨p, 0, none⟩) n n) (up L) := by
  have hl' : (up L).length = n := by rw [up_length]; exact hl
  exact row_R (k := .i64) (xs := up L) ⟨by simp [encs], .inr ⟨p, n, icells L, by rw [hl'], hp, hrow, by rw [hl']; exact Nat.le_refl _, by unfold maxLen; omega, by simp [icells]; exact hl, by rw [hl']; simp [icells, encs, up]; exact List.take_of_length_le (by rw [List.length_map]; exact Nat.le_of_eq hl)⟩⟩
theorem tailsN_le {G : GD} (ok : GOk G) (ht : tm20 G.tasks) : leB 160 (tailsN G) := leB_mono (tTo_le ht _ _ _) (by rw [List.length_reverse]; have := ok.ol; have := ok.n8; omega)
theorem tailsN_length (G : GD) : (tailsN G).length = G.tasks.length := tTo_length _ _ _ _
theorem tails_calls (b : Nat) (G : GD) (w : World) (hT : Tab w) (hg : IsG w b G) (ok : GOk G) (htk : ∀ t ∈ G.tasks, taskOk t) :
    Calls Tryd.prog 78 #[.pointer (some ⟨b, 0, none⟩)] w fun e w' => ∃ v, e = .returned v ∧ (Kd.int .i64).R 3 w' w.heap.size (fun _ => True) v (up (tailsN G)) ∧ Below w.heap.size w w' :=
  (tails_row b G w hT hg ok htk).mono fun e w' ⟨p, h1, h2, h3, h4⟩ => ⟨_, h1, icells_R h2 h3 (tailsN_length G) ok.n8, h4⟩
end Go.Proofs.YtpibdjkajgfgjaaDoor.Core
end
section
set_option linter.unusedVariables false
set_option linter.unusedSimpArgs false
namespace Go.Proofs.YtpibdjkajgfgjaaDoor.Core
open Go Go.RowKit Go.Proofs.YtpibdjkajgfgjaaDoorW.PrintWords Go.Proofs.YtpibdjkajgfgjaaDoorW.PrintMore Go.Proofs.YtpibdjkajgfgjaaDoor.P
theorem VG.uind {g : List Tk} {G : GD} (v : VG g G) (hG : graphD g = some G) {Q : Nat → Prop} (h : ∀ k, k < g.length → (∀ m, m < g.length → (G.needs.getD m 0).testBit k = true → Q m) → Q k) : ∀ k, k < g.length → Q k :=
  v.rind hG fun k hk ih => h k hk fun m hm hb => ih m hm ((below_bits hG hm k).2 ⟨k, hb, .inl rfl⟩)
/-- What tails are. -/
def TailOk (g : List Tk) (N B : List Nat) : Prop := B.length = g.length ∧ ∀ i, i < g.length → (∀ k, k < g.length → (N.getD k 0).testBit i = true → B.getD k 0 + tmN g i ≤ B.getD i 0) ∧ (B.getD i 0 = tmN g i ∨ ∃ k, k < g.length ∧ (N.getD k 0).testBit i = true ∧ B.getD i 0 = B.getD k 0 + tmN g i)
theorem TailOk.self {g : List Tk} {N B : List Nat} (h : TailOk g N B) {i : Nat} (hi : i < g.length) : tmN g i ≤ B.getD i 0 := by
  rcases (h.2 i hi).2 with h1 | ⟨k, _, _, h1⟩ <;> omega
theorem tail_uniq {g : List Tk} {G : GD} (v : VG g G) (hG : graphD g = some G) {B C : List Nat} (hB : TailOk g G.needs B) (hC : TailOk g G.needs C) : B = C := by
  have key : ∀ i, i < g.length → B.getD i 0 = C.getD i 0 := v.uind hG (Q := fun i => B.getD i 0 = C.getD i 0) fun i hi ih => by
    obtain ⟨b1, b2⟩ := hB.2 i hi
    obtain ⟨c1, c2⟩ := hC.2 i hi
    have sb := hB.self hi
    have sc := hC.self hi
    have h1 : B.getD i 0 ≤ C.getD i 0 := by
      rcases b2 with h | ⟨k, hk, hb, h⟩
      · omega
      · have := c1 k hk hb; have := ih k hk hb; omega
    have h2 : C.getD i 0 ≤ B.getD i 0 := by
      rcases c2 with h | ⟨k, hk, hb, h⟩
      · omega
      · have := b1 k hk hb; have := ih k hk hb; omega
    omega
  refine List.ext_getElem (by rw [hB.1, hC.1]) fun i h1 h2 => ?_
  have := key i (by rw [← hB.1]; exact h1)
  rw [List.getD_eq_getElem?_getD, List.getD_eq_getElem?_getD, List.getElem?_eq_getElem h1, List.getElem?_eq_getElem h2] at this
  exact this
theorem fold_t (i : Nat) : ∀ (ks B : List Nat), i ∉ ks → (∀ k ∈ ks, k < B.length) → (∀ j, j ∉ ks → (ks.foldl (tStep i) B).getD j 0 = B.getD j 0) ∧ ∀ k ∈ ks, (ks.foldl (tStep i) B).getD k 0 = max (B.getD k 0) (B.getD i 0)
  | [], B, _, _ => ⟨fun _ _ => rfl, fun _ h => by cases h⟩
  | m :: ks, B, hi, hl => by
    have hmi : i ≠ m := fun e => hi (by rw [e]; exact List.mem_cons_self)
    have hml := hl m List.mem_cons_self
    obtain ⟨h1, h2⟩ := fold_t i ks (tStep i B m) (fun h => hi (List.mem_cons_of_mem _ h)) (fun k hk => by rw [tStep_length]; exact hl k (List.mem_cons_of_mem _ hk))
    have e1 : ∀ j, j ≠ m → (tStep i B m).getD j 0 = B.getD j 0 := fun j hj => getD_set_ne hj
    have e2 : (tStep i B m).getD m 0 = max (B.getD m 0) (B.getD i 0) := getD_set_self hml
    rw [List.foldl_cons]
    refine ⟨fun j hj => ?_, fun k hk => ?_⟩
    · simp only [List.mem_cons, not_or] at hj
      rw [h1 j hj.2, e1 j hj.1]
    · by_cases hks : k ∈ ks
      · rw [h2 k hks, e1 i hmi]
        by_cases e : k = m
        · rw [e, e2]; omega
        · rw [e1 k e]
      · have e : k = m := (List.mem_cons.1 hk).resolve_right hks
        rw [h1 k hks, e, e2]
/-- What the table holds behind the first ones of the turned order. -/
def TInv (g : List Tk) (N : List Nat) (pre B : List Nat) : Prop := B.length = g.length ∧
  (∀ i ∈ pre, (∀ k ∈ pre, (N.getD k 0).testBit i = true → B.getD k 0 + tmN g i ≤ B.getD i 0) ∧ (B.getD i 0 = tmN g i ∨ ∃ k ∈ pre, (N.getD k 0).testBit i = true ∧ B.getD i 0 = B.getD k 0 + tmN g i)) ∧
  (∀ i, i ∉ pre → (∀ k ∈ pre, (N.getD k 0).testBit i = true → B.getD k 0 ≤ B.getD i 0) ∧ (B.getD i 0 = 0 ∨ ∃ k ∈ pre, (N.getD k 0).testBit i = true ∧ B.getD i 0 = B.getD k 0))
theorem tinv_step {g : List Tk} {N pre B : List Nat} {i : Nat} (h : TInv g N pre B) (hi : i < g.length) (hip : i ∉ pre) (hel : ∀ m, m ∈ elemsN (N.getD i 0) ↔ (N.getD i 0).testBit m = true) (hl : ∀ k, (N.getD i 0).testBit k = true → k < g.length ∧ k ≠ i ∧ k ∉ pre) : TInv g N (pre ++ [i]) (tOne g N B i) := by
  obtain ⟨hlen, hb, hc⟩ := h
  have hnk : i ∉ elemsN (N.getD i 0) := fun hm => (hl i ((hel i).1 hm)).2.1 rfl
  obtain ⟨f1, f2⟩ := fold_t i (elemsN (N.getD i 0)) (B.set i (B.getD i 0 + tmN g i)) hnk (fun k hk => by rw [List.length_set, hlen]; exact (hl k ((hel k).1 hk)).1)
  have s1 : (B.set i (B.getD i 0 + tmN g i)).getD i 0 = B.getD i 0 + tmN g i := getD_set_self (by omega)
  have s2 : ∀ j, j ≠ i → (B.set i (B.getD i 0 + tmN g i)).getD j 0 = B.getD j 0 := fun j hj => getD_set_ne hj
  have ti : (tOne g N B i).getD i 0 = B.getD i 0 + tmN g i := (f1 i hnk).trans s1
  have tp : ∀ j ∈ pre, (tOne g N B i).getD j 0 = B.getD j 0 := fun j hj => by
    have hji : j ≠ i := fun e => hip (e ▸ hj)
    exact (f1 j (fun hm => (hl j ((hel j).1 hm)).2.2 hj)).trans (s2 j hji)
  refine ⟨by rw [tOne_length, hlen], fun j hj => ?_, fun j hj => ?_⟩
  · rcases List.mem_append.1 hj with hj | hj
    · rw [tp j hj]
      refine ⟨fun k hk hkb => ?_, (hb j hj).2.imp_right ?_⟩
      · rcases List.mem_append.1 hk with hk | hk
        · rw [tp k hk]; exact (hb j hj).1 k hk hkb
        · rw [List.mem_singleton.1 hk] at hkb
          exact absurd hj (hl j hkb).2.2
      · rintro ⟨k, hk, h1, h2⟩
        exact ⟨k, List.mem_append_left _ hk, h1, by rw [tp k hk]; exact h2⟩
    · rw [List.mem_singleton.1 hj, ti]
      obtain ⟨c1, c2⟩ := hc i hip
      refine ⟨fun k hk hkb => ?_, ?_⟩
      · rcases List.mem_append.1 hk with hk | hk
        · rw [tp k hk]; have := c1 k hk hkb; omega
        · rw [List.mem_singleton.1 hk] at hkb
          exact absurd rfl (hl i hkb).2.1
      · rcases c2 with h0 | ⟨k, hk, h1, h2⟩
        · left; omega
        · exact .inr ⟨k, List.mem_append_left _ hk, h1, by rw [tp k hk]; omega⟩
  · simp only [List.mem_append, List.mem_singleton, not_or] at hj
    obtain ⟨c1, c2⟩ := hc j hj.1
    by_cases hm : j ∈ elemsN (N.getD i 0)
    · have e : (tOne g N B i).getD j 0 = max (B.getD j 0) (B.getD i 0 + tmN g i) := by
        have := f2 j hm
        rw [s1, s2 j hj.2] at this
        exact this
      rw [e]
      refine ⟨fun k hk hkb => ?_, ?_⟩
      · rcases List.mem_append.1 hk with hk | hk
        · rw [tp k hk]; have := c1 k hk hkb; omega
        · rw [List.mem_singleton.1 hk, ti]; omega
      · by_cases hle : B.getD i 0 + tmN g i ≤ B.getD j 0
        · rcases c2 with h0 | ⟨k, hk, h1, h2⟩
          · left; omega
          · exact .inr ⟨k, List.mem_append_left _ hk, h1, by rw [tp k hk]; omega⟩
        · exact .inr ⟨i, by simp, (hel j).1 hm, by rw [ti]; omega⟩
    · have e : (tOne g N B i).getD j 0 = B.getD j 0 := (f1 j hm).trans (s2 j hj.2)
      rw [e]
      refine ⟨fun k hk hkb => ?_, c2.imp_right ?_⟩
      · rcases List.mem_append.1 hk with hk | hk
        · rw [tp k hk]; exact c1 k hk hkb
        · rw [List.mem_singleton.1 hk] at hkb
          exact absurd ((hel j).2 hkb) hm
      · rintro ⟨k, hk, h1, h2⟩
        exact ⟨k, List.mem_append_left _ hk, h1, by rw [tp k hk]; exact h2⟩
/-- The needs of a task come ahead of it: in the turned order behind it. -/
theorem VG.turned {g : List Tk} {G : GD} (v : VG g G) {pre suf : List Nat} {i : Nat} (ho : G.order.reverse = pre ++ i :: suf) : i < g.length ∧ i ∉ pre ∧ (∀ m, m ∈ elemsN (G.needs.getD i 0) ↔ (G.needs.getD i 0).testBit m = true) ∧ ∀ k, (G.needs.getD i 0).testBit k = true → k < g.length ∧ k ≠ i ∧ k ∉ pre := by
  have ho2 : G.order = suf.reverse ++ i :: pre.reverse := by
    have := congrArg List.reverse ho
    simpa using this
  have hnd := v.ord.nodup
  have hil := v.mem.1 (show i ∈ G.order by rw [ho2]; simp)
  rw [ho2, List.nodup_append] at hnd
  have hnd2 := List.nodup_cons.1 hnd.2.1
  refine ⟨hil, fun h => hnd2.1 (List.mem_reverse.2 h), fun m => ?_, fun k hk => ?_⟩
  · rw [mem_elemsN]
    exact ⟨fun h => h.2, fun h => ⟨by have := v.need_lt h; have := v.n8; omega, h⟩⟩
  · have hks := v.ord.needs _ i _ ho2 k hk
    refine ⟨v.need_lt hk, fun e => ?_, fun hp => ?_⟩
    · exact hnd.2.2 k hks i List.mem_cons_self e
    · exact hnd.2.2 k hks k (List.mem_cons_of_mem _ (List.mem_reverse.2 hp)) rfl
theorem tails_ok {g : List Tk} {G : GD} (v : VG g G) : TailOk g G.needs (tailsN G) := by
  have key : ∀ (suf pre : List Nat), G.order.reverse = pre ++ suf → TInv g G.needs pre (tTo g G.needs g.length pre) → TInv g G.needs G.order.reverse (tTo g G.needs g.length G.order.reverse) := by
    intro suf
    induction suf with
    | nil => intro pre ho h; rw [List.append_nil] at ho; rw [ho]; exact h
    | cons i suf ih =>
      intro pre ho h
      obtain ⟨h1, h2, h3, h4⟩ := v.turned ho
      refine ih (pre ++ [i]) (by rw [ho]; simp) ?_
      rw [tTo_snoc]
      exact tinv_step h h1 h2 h3 h4
  have h := key G.order.reverse [] rfl ⟨tTo_length _ _ _ _, (fun i h => absurd h List.not_mem_nil), fun i _ => ⟨(fun k h => absurd h List.not_mem_nil), .inl (getD_repl _ _)⟩⟩
  have hin : ∀ i, i < g.length → i ∈ G.order.reverse := fun i hi => List.mem_reverse.2 (v.mem.2 hi)
  have e : tailsN G = tTo g G.needs g.length G.order.reverse := by unfold tailsN; rw [v.tasks]
  rw [e]
  refine ⟨h.1, fun i hi => ⟨fun k hk hb => (h.2.1 i (hin i hi)).1 k (hin k hk) hb, (h.2.1 i (hin i hi)).2.imp_right ?_⟩⟩
  rintro ⟨k, hk, h1, h2⟩
  exact ⟨k, v.mem.1 (List.mem_reverse.1 hk), h1, h2⟩
end Go.Proofs.YtpibdjkajgfgjaaDoor.Core
end
section
set_option linter.unusedVariables false
set_option linter.unusedSimpArgs false
namespace Go.Proofs.YtpibdjkajgfgjaaDoor.Core
open Go Go.RowKit Go.Proofs.YtpibdjkajgfgjaaDoorW.PrintWords Go.Proofs.YtpibdjkajgfgjaaDoorW.PrintMore Go.Proofs.YtpibdjkajgfgjaaDoor.P
/-- The greatest one of the tails of those that need a task, among some. -/
def mst (N L : List Nat) (i : Nat) (l : List Nat) (m : Nat) : Nat := l.foldl (fun m k => if (N.getD k 0).testBit i = true then max m (L.getD k 0) else m) m
theorem mst_spec (N L : List Nat) (i : Nat) : ∀ (l : List Nat) (m : Nat), m ≤ mst N L i l m ∧ (∀ k ∈ l, (N.getD k 0).testBit i = true → L.getD k 0 ≤ mst N L i l m) ∧ (mst N L i l m = m ∨ ∃ k ∈ l, (N.getD k 0).testBit i = true ∧ mst N L i l m = L.getD k 0)
  | [], m => ⟨Nat.le_refl _, (fun _ h => by cases h), .inl rfl⟩
  | x :: l, m => by
    obtain ⟨h1, h2, h3⟩ := mst_spec N L i l (if (N.getD x 0).testBit i = true then max m (L.getD x 0) else m)
    have e : mst N L i (x :: l) m = mst N L i l (if (N.getD x 0).testBit i = true then max m (L.getD x 0) else m) := rfl
    rw [e]
    by_cases hb : (N.getD x 0).testBit i = true
    · rw [if_pos hb] at h1 h2 h3 ⊢
      refine ⟨by omega, fun k hk hkb => ?_, ?_⟩
      · rcases List.mem_cons.1 hk with rfl | hk
        · omega
        · exact h2 k hk hkb
      · rcases h3 with h3 | ⟨k, hk, hkb, h3⟩
        · by_cases hle : L.getD x 0 ≤ m
          · left; omega
          · exact .inr ⟨x, List.mem_cons_self, hb, by omega⟩
        · exact .inr ⟨k, List.mem_cons_of_mem _ hk, hkb, h3⟩
    · rw [if_neg hb] at h1 h2 h3 ⊢
      refine ⟨h1, fun k hk hkb => ?_, ?_⟩
      · rcases List.mem_cons.1 hk with rfl | hk
        · exact absurd hkb hb
        · exact h2 k hk hkb
      · rcases h3 with h3 | ⟨k, hk, hkb, h3⟩
        · exact .inl h3
        · exact .inr ⟨k, List.mem_cons_of_mem _ hk, hkb, h3⟩
def sOne (g : List Tk) (N L : List Nat) (i : Nat) : List Nat := L.set i (mst N L i (List.range g.length) 0 + tmN g i)
def sTo (g : List Tk) (N O : List Nat) : List Nat := O.foldl (sOne g N) (List.replicate g.length 0)
theorem sTo_snoc (g : List Tk) (N O : List Nat) (i : Nat) : sTo g N (O ++ [i]) = sOne g N (sTo g N O) i := by unfold sTo; rw [List.foldl_append]; rfl
theorem sTo_length (g : List Tk) (N O : List Nat) : (sTo g N O).length = g.length := by
  have : ∀ (O L : List Nat), L.length = g.length → (O.foldl (sOne g N) L).length = g.length := by
    intro O
    induction O with
    | nil => intro L h; exact h
    | cons i O ih => intro L h; exact ih _ (by unfold sOne; rw [List.length_set]; exact h)
  exact this O _ (by simp)
theorem mst_le {N L : List Nat} {i b : Nat} (h : leB b L) : ∀ (l : List Nat) (m : Nat), m ≤ b → mst N L i l m ≤ b
  | [], m, hm => hm
  | x :: l, m, hm => mst_le h l _ (by have := h x; show (if (N.getD x 0).testBit i = true then max m (L.getD x 0) else m) ≤ b; split <;> omega)
theorem sTo_le {g : List Tk} (ht : tm20 g) (N O : List Nat) : leB (O.length * 20) (sTo g N O) := by
  have : ∀ (O : List Nat) (b : Nat) (L : List Nat), leB b L → leB (b + O.length * 20) (O.foldl (sOne g N) L) := by
    intro O
    induction O with
    | nil => intro b L h; simpa using h
    | cons i O ih =>
      intro b L h
      have := ih (b + 20) (sOne g N L i) (leB_set (leB_mono h (by omega)) (by have := mst_le (N := N) (i := i) h (List.range g.length) 0 (by omega); have := ht i; omega))
      rw [List.length_cons, show b + (O.length + 1) * 20 = b + 20 + O.length * 20 by omega]
      exact this
  have := this O 0 (List.replicate g.length 0) (fun i => by rw [getD_repl]; exact Nat.le_refl _)
  simpa [sTo] using this
theorem sTo_ok {g : List Tk} {G : GD} (v : VG g G) : TailOk g G.needs (sTo g G.needs G.order.reverse) := by
  have hall : ∀ k, k < g.length → k ∈ G.order.reverse := fun i hi => List.mem_reverse.2 (v.mem.2 hi)
  have key : ∀ (suf pre : List Nat), G.order.reverse = pre ++ suf → ((∀ i, i ∉ pre → (sTo g G.needs pre).getD i 0 = 0) ∧ ∀ i ∈ pre, (∀ k ∈ pre, (G.needs.getD k 0).testBit i = true → (sTo g G.needs pre).getD k 0 + tmN g i ≤ (sTo g G.needs pre).getD i 0) ∧ ((sTo g G.needs pre).getD i 0 = tmN g i ∨ ∃ k ∈ pre, (G.needs.getD k 0).testBit i = true ∧ (sTo g G.needs pre).getD i 0 = (sTo g G.needs pre).getD k 0 + tmN g i)) →
      (∀ i ∈ G.order.reverse, (∀ k ∈ G.order.reverse, (G.needs.getD k 0).testBit i = true → (sTo g G.needs G.order.reverse).getD k 0 + tmN g i ≤ (sTo g G.needs G.order.reverse).getD i 0) ∧ ((sTo g G.needs G.order.reverse).getD i 0 = tmN g i ∨ ∃ k ∈ G.order.reverse, (G.needs.getD k 0).testBit i = true ∧ (sTo g G.needs G.order.reverse).getD i 0 = (sTo g G.needs G.order.reverse).getD k 0 + tmN g i)) := by
    intro suf
    induction suf with
    | nil => intro pre ho h; rw [List.append_nil] at ho; rw [ho]; exact h.2
    | cons i suf ih =>
      intro pre ho h
      obtain ⟨hz, hb⟩ := h
      obtain ⟨h1, h2, h3, h4⟩ := v.turned ho
      refine ih (pre ++ [i]) (by rw [ho]; simp) ?_
      rw [sTo_snoc]
      generalize hB : sTo g G.needs pre = B at hz hb
      have hlen : B.length = g.length := by rw [← hB]; exact sTo_length _ _ _
      have ti : (sOne g G.needs B i).getD i 0 = mst G.needs B i (List.range g.length) 0 + tmN g i := getD_set_self (by omega)
      have tj : ∀ j, j ≠ i → (sOne g G.needs B i).getD j 0 = B.getD j 0 := fun j hj => getD_set_ne hj
      have tp : ∀ j ∈ pre, (sOne g G.needs B i).getD j 0 = B.getD j 0 := fun j hj => tj j (fun e => h2 (e ▸ hj))
      obtain ⟨m1, m2, m3⟩ := mst_spec G.needs B i (List.range g.length) 0
      refine ⟨fun j hj => ?_, fun j hj => ?_⟩
      · simp only [List.mem_append, List.mem_singleton, not_or] at hj
        rw [tj j hj.2]; exact hz j hj.1
      · rcases List.mem_append.1 hj with hj | hj
        · rw [tp j hj]
          refine ⟨fun k hk hkb => ?_, (hb j hj).2.imp_right ?_⟩
          · rcases List.mem_append.1 hk with hk | hk
            · rw [tp k hk]; exact (hb j hj).1 k hk hkb
            · rw [List.mem_singleton.1 hk] at hkb
              exact absurd hj (h4 j hkb).2.2
          · rintro ⟨k, hk, e1, e2⟩
            exact ⟨k, List.mem_append_left _ hk, e1, by rw [tp k hk]; exact e2⟩
        · rw [List.mem_singleton.1 hj, ti]
          refine ⟨fun k hk hkb => ?_, ?_⟩
          · rcases List.mem_append.1 hk with hk | hk
            · rw [tp k hk]
              have := m2 k (List.mem_range.2 (v.mem.1 (List.mem_reverse.1 (by rw [ho]; exact List.mem_append_left _ hk)))) hkb
              omega
            · rw [List.mem_singleton.1 hk] at hkb
              exact absurd rfl (h4 i hkb).2.1
          · rcases m3 with m3 | ⟨k, hk, hkb, m3⟩
            · left; omega
            · by_cases hkp : k ∈ pre
              · exact .inr ⟨k, List.mem_append_left _ hkp, hkb, by rw [tp k hkp]; omega⟩
              · left; rw [hz k hkp] at m3; omega
  have h := key G.order.reverse [] rfl ⟨fun i _ => getD_repl _ _, fun i h => by cases h⟩
  refine ⟨sTo_length _ _ _, fun i hi => ⟨fun k hk hb => (h i (hall i hi)).1 k (hall k hk) hb, (h i (hall i hi)).2.imp_right ?_⟩⟩
  rintro ⟨k, hk, h1, h2⟩
  exact ⟨k, v.mem.1 (List.mem_reverse.1 hk), h1, h2⟩
theorem sTo_tails {g : List Tk} {G : GD} (v : VG g G) (hG : graphD g = some G) : sTo g G.needs G.order.reverse = tailsN G := tail_uniq v hG (sTo_ok v) (tails_ok v)
theorem mx_nat (a b : Nat) : mx (a : Int) (b : Int) = ((max a b : Nat) : Int) := by unfold mx; split <;> omega
theorem up_set' (L : List Nat) (i x : Nat) : (up L).set i (x : Int) = up (L.set i x) := by unfold up; rw [List.map_set]; rfl
theorem ev_tl1 {g : List Tk} (hg : Fits g) {G : GD} (v : VG g G) {L : List Nat} (hl : L.length = g.length) {b : Nat} (hb : leB b L) (hb2 : b ≤ 100000) {order : List Int} {x5 : Int} {i : Nat} (hi : i < g.length) {R : List Int}
    (h : Ev (fun k => spec_tails.l0 k g (up (sOne g G.needs L i)) order (wrap64 (x5 - 1))) R) : ∀ (d j m : Nat), j + d = g.length → m ≤ b → mst G.needs L i (List.range' j d) m = mst G.needs L i (List.range g.length) 0 → Ev (fun k => spec_tails.l1 k g (up L) order x5 (i : Int) (m : Int) (j : Int)) R
  | 0, j, m, hd, hm, he => by
    have htm := tm_int (fun t ht => (v.fine.1 t ht).1) hi
    have hm2 : m = mst G.needs L i (List.range g.length) 0 := he
    have hw := (wadd (a := m) (b := tmN g i) (by omega) (by omega)).1
    refine Ev.succ ?_
    simp only [spec_tails.l1, rdT_nat, htm.1, hw, Int.toNat_natCast, up_set']
    refine Ev.neg (by omega) (Ev.pos (by omega) (Ev.pos (by omega) (Ev.pos (by rw [up_length]; omega) ?_)))
    rw [hm2]
    exact h
  | d + 1, j, m, hd, hm, he => by
    have hj : j < g.length := by omega
    have h8 := v.n8
    have hin := ev_isIn (L := (g.getD j z48).f1) (hg.2 _ (getD_mem hj)) (i : Int)
    rw [← v.bits j hj i] at hin
    have hw : wrap64 ((j : Int) + 1) = ((j + 1 : Nat) : Int) := w64s (by unfold big; omega)
    have hrk : rd (up L) (j : Int) = ((L.getD j 0 : Nat) : Int) := rd_up rfl
    rw [List.range'_succ] at he
    refine Ev.succ ?_
    simp only [spec_tails.l1, rdT_nat, hw, hrk, mx_nat]
    refine Ev.pos (by omega) (Ev.pos (by omega) (Ev.bind hin ?_))
    cases hbit : (G.needs.getD j 0).testBit i with
    | true =>
      have he2 : mst G.needs L i (List.range' (j + 1) d) (max m (L.getD j 0)) = mst G.needs L i (List.range g.length) 0 := by
        rw [← he]
        show _ = mst G.needs L i (List.range' (j + 1) d) (if (G.needs.getD j 0).testBit i = true then max m (L.getD j 0) else m)
        rw [if_pos hbit]
      exact Ev.pos rfl (Ev.pos (by rw [up_length]; omega) (ev_tl1 hg v hl hb hb2 hi h d (j + 1) _ (by omega) (by have := hb j; omega) he2))
    | false =>
      have he2 : mst G.needs L i (List.range' (j + 1) d) m = mst G.needs L i (List.range g.length) 0 := by
        rw [← he]
        show _ = mst G.needs L i (List.range' (j + 1) d) (if (G.needs.getD j 0).testBit i = true then max m (L.getD j 0) else m)
        rw [hbit]; rfl
      exact Ev.neg (by simp) (ev_tl1 hg v hl hb hb2 hi h d (j + 1) m (by omega) hm he2)
theorem ev_tl0 {g : List Tk} (hg : Fits g) {G : GD} (v : VG g G) : ∀ (n : Nat) (a b : List Nat), a.length = n → G.order = a ++ b → Ev (fun k => spec_tails.l0 k g (up (sTo g G.needs b.reverse)) (up G.order) ((n : Int) - 1)) (up (sTo g G.needs G.order.reverse))
  | 0, a, b, hn, ho => by
    have ha : a = [] := List.length_eq_zero_iff.1 hn
    rw [ha, List.nil_append] at ho
    refine Ev.succ ?_
    simp only [spec_tails.l0]
    refine Ev.neg (by omega) ?_
    rw [ho]
    exact Ev.const _
  | n + 1, a, b, hn, ho => by
    obtain ⟨a0, i, rfl⟩ : ∃ t z, a = t ++ [z] := by
      have hne : a ≠ [] := by intro h; rw [h] at hn; simp at hn
      exact ⟨a.dropLast, a.getLast hne, (List.dropLast_concat_getLast hne).symm⟩
    have hn0 : a0.length = n := by simpa using hn
    have ho2 : G.order = a0 ++ i :: b := by rw [ho]; simp
    have hi : i < g.length := v.mem.1 (by rw [ho2]; simp)
    have h8 := v.n8
    have hol : G.order.length = g.length := by
      have := v.ord.len
      rw [v.nl, zb_full _ _ (Nat.le_refl _)] at this
      omega
    have hlen : G.order.length = n + 1 + b.length := by rw [ho]; simp [hn0]; omega
    have ih := ev_tl0 hg v n a0 (i :: b) hn0 ho2
    rw [List.reverse_cons, sTo_snoc] at ih
    have hle := sTo_le (tm20_of (fun t ht => (v.fine.1 t ht).1)) G.needs b.reverse
    rw [List.length_reverse] at hle
    have hx : ((n + 1 : Nat) : Int) - 1 = (n : Int) := by omega
    have hrd : rd (up G.order) (n : Int) = (i : Int) := by rw [rd_up (i := n) rfl, ho2]; simp [← hn0]
    have hw : wrap64 ((n : Int) - 1) = (n : Int) - 1 := w64 (by omega) (by omega)
    have h1 := ev_tl1 hg v (sTo_length g G.needs b.reverse) hle (by omega) (order := up G.order) (x5 := (n : Int)) hi (R := up (sTo g G.needs G.order.reverse)) (by rw [hw]; exact ih) g.length 0 0 (by omega) (by omega) (by rw [List.range_eq_range'])
    rw [hx]
    refine Ev.succ ?_
    simp only [spec_tails.l0, hrd]
    exact Ev.pos (by omega) (Ev.pos (by omega) (Ev.pos (by rw [up_length]; omega) h1))
theorem ev_tails {g : List Tk} (hg : Fits g) {G : GD} (hG : graphD g = some G) : Ev (fun k => spec_tails.f k g) (up (tailsN G)) := by
  have v := vg_of hG
  have h8 := v.n8
  have ht := ev_topOrder hg v.needsD
  have ho : (orderD G.needs).1 = G.order := by
    obtain ⟨N, hN, hf, rfl⟩ := graphD_spec hG
    rfl
  rw [ho] at ht
  unfold spec_tails.f
  refine Ev.pos (by omega) (Ev.pos (by omega) (Ev.bind ht ?_))
  have hol : G.order.length ≤ 8 := by
    have := v.ord.len
    rw [v.nl] at this
    omega
  have hw : wrap64 (((up G.order).length : Int) - 1) = (G.order.length : Int) - 1 := by rw [up_length, w64 (by omega) (by omega)]
  rw [hw]
  have key := ev_tl0 hg v G.order.length G.order [] rfl (by simp)
  rw [sTo_tails v hG] at key
  have e : List.replicate ((g.length : Int) : Int).toNat (0 : Int) = up (sTo g G.needs [].reverse) := by simp [sTo, up]
  rw [e]
  exact key
end Go.Proofs.YtpibdjkajgfgjaaDoor.Core
end
