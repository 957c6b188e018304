/- The law FnWaitsForAll holds of the given program: the proof's own part, with its row and its card, part 2 of 3. -/
import Derived.Test.YtekajandipdlhaaDoorZFnWaitsForAll1
import Derived.Laws.BitsAllLaws
import Derived.KernelRfl
import Derived.RangeFuncNested
import Derived.RangeFuncBound
import Derived.RangeFuncCalls
import Derived.RangeFuncLeaves
import Derived.Shelf.Abstract
import Derived.Shelf.RegionOpen
import Derived.WalkKit
import Derived.OwnWalkIn
import Derived.TacticsInMore
import Derived.LoopNIn
import Derived.LoopIn
import Derived.StillTailTactics
import Derived.OrdersIn
import Derived.Test.YtekajandipdlhaaDoorProg
import Derived.Laws.BitsLemmas
import Derived.Lib.Hide
section
set_option linter.unusedVariables false
set_option linter.unusedSimpArgs false
namespace Go.Proofs.YtekajandipdlhaaDoor.Core
open Go
theorem sub_lt {a b n : Nat} (ha : a < n) : sub a b < n := Nat.lt_of_le_of_lt Nat.and_le_left ha
end Go.Proofs.YtekajandipdlhaaDoor.Core
namespace Go.Proofs.YtekajandipdlhaaDoor.Core
open Go Go.RowKit Go.Shelf
attribute [local go_sem] Oper.semAt_some
end Go.Proofs.YtekajandipdlhaaDoor.Core
namespace Go.Proofs.YtekajandipdlhaaDoor.Core
open Go Go.RowKit Go.Shelf
attribute [local go_sem] Oper.semAt_some wide_fn wide_depth
end Go.Proofs.YtekajandipdlhaaDoor.Core
namespace Go.Proofs.YtekajandipdlhaaDoor.Core
open Go Go.RowKit Go.Proofs.YtekajandipdlhaaDoorW.PrintWords
end Go.Proofs.YtekajandipdlhaaDoor.Core
end
section
namespace Go.Proofs.YtekajandipdlhaaDoor.P
open Go.RowKit Go.Proofs.YtekajandipdlhaaDoorW.PrintWords Go.Proofs.YtekajandipdlhaaDoorW.PrintLast Go.Proofs.YtekajandipdlhaaDoorW.PrintMore
attribute [local go_sem] max2_int min2_int max_two min_two max_three min_three max_four min_four   -- for this text's walks alone
set_option linter.unusedVariables false
set_option linter.unusedSimpArgs false
theorem IsS101.apartQ {w0 W : World} {g : Nat} {f0 : List Int} {f1 : Int} {α : Type} {d : Kd α} {e : Nat} {base : Nat} {ok : Nat → Prop} {v : Value} {xs : List α} (h : IsS101 w0 W g f0 f1) (ho : d.Q e W base ok v xs) (ht : ∀ q, q ∈ e :: d.E → q ≠ 101) : d.Q e W base (fun k => ok k ∧ k ≠ g) v xs := by
  obtain ⟨A0, c0, hb, hg, hr0⟩ := h
  exact Kd.Q_types ho hb ht
end Go.Proofs.YtekajandipdlhaaDoor.P
end
section
namespace Go.Proofs.YtekajandipdlhaaDoor.P
open Go.RowKit Go.Proofs.YtekajandipdlhaaDoorW.PrintWords Go.Proofs.YtekajandipdlhaaDoorW.PrintLast Go.Proofs.YtekajandipdlhaaDoorW.PrintMore
attribute [local go_sem] max2_int min2_int max_two min_two max_three min_three max_four min_four   -- for this text's walks alone
set_option linter.unusedVariables false
set_option linter.unusedSimpArgs false
def spec_someAt.f (k : Nat) (s0_0 : List Int) (s0_1 : Int) (l1 : List (S37)) : Option (Int × Int) := (spec_reader_pick.f k s0_0 s0_1 10).bind fun bt594 => (if bt594.1 = 0 then ((spec_reader_one.f k s0_0 bt594.2 (([(-1), (l1.length : Int), 0] : List Int))).bind fun bt599 => (some (bt599.1, bt599.2))) else ((spec_reader_pick.f k s0_0 bt594.2 (mx 1 (l1.length : Int))).bind fun bt601 => (some (bt601.1, bt601.2))))
theorem spec_someAt.mono : ∀ a0 a1 a2 k, LeO (spec_someAt.f k a0 a1 a2) (spec_someAt.f (k + 1) a0 a1 a2) := by
  intro a0 a1 a2 k
  unfold spec_someAt.f
  repeat' first
      | (with_reducible exact spec_reader_one.mono _ _ _ _)
      | (with_reducible exact spec_reader_pick.mono _ _ _ _)
      | (with_reducible exact LeO.refl _)
      | (with_reducible exact LeO.none _)
      | (with_reducible refine LeO.ite ?_ ?_)
      | (with_reducible refine LeO.bind ?_ (fun _ => ?_))
      | exact spec_reader_one.mono _ _ _ _
      | exact spec_reader_pick.mono _ _ _ _
      | exact LeO.none _
      | refine LeO.ite ?_ ?_
      | refine LeO.bind ?_ (fun _ => ?_)
set_option maxHeartbeats 8000000 in
set_option maxRecDepth 100000 in
theorem spec_someAt.calls (k : Nat) (g : Nat) (s0_0 : List Int) (s0_1 : Int) (A1 : Option Addr) (c1 : Nat) (l1 : List (S37)) (r1 : Int) (r2 : Int) (w0 w : World) (hI : IsS101 w0 w g s0_0 s0_1) (hB : Below w0.heap.size w0 w) (hr1 : ∀ W_, KeepBut w W_ g none → Kd.C k37 W_ A1 l1.length l1) (hc1 : l1.length ≤ c1) (h : spec_someAt.f k s0_0 s0_1 l1 = some (r1, r2)) :
    Calls Tryd.prog 85 #[.pointer (some ⟨g, 0, none⟩), .slice A1 l1.length c1] w fun e w' => e = .returned (.int .i64 r1) ∧ IsS101 w0 w' g s0_0 r2 ∧ Below w0.heap.size w0 w' ∧ KeepBut w w' g none := by
  have HR1 := Aside0.mk hr1
  have HC1 := Aside0.mk hc1
  clear hr1 hc1
  have HI0 := Aside0.mk hI
  have HK := Aside0.mk (KeepBut.refl w g none)
  have HL := Aside0.mk hB.size
  clear hI
  have HW0 := Aside0.mk hB.size
  have HB := Aside0.mk hB
  clear hB
  have H : ((spec_reader_pick.f k s0_0 s0_1 10).bind fun bt594 => (if bt594.1 = 0 then ((spec_reader_one.f k s0_0 bt594.2 (([(-1), (l1.length : Int), 0] : List Int))).bind fun bt599 => (some (bt599.1, bt599.2))) else ((spec_reader_pick.f k s0_0 bt594.2 (mx 1 (l1.length : Int))).bind fun bt601 => (some (bt601.1, bt601.2))))) = some (r1, r2) := h
  clear h
  replace H := Option.bind_eq_some_iff.mp H
  obtain ⟨⟨t594, t595⟩, A30, H⟩ := H
  replace H : (if t594 = 0 then ((spec_reader_one.f k s0_0 t595 (([(-1), (l1.length : Int), 0] : List Int))).bind fun bt599 => (some (bt599.1, bt599.2))) else ((spec_reader_pick.f k s0_0 t595 (mx 1 (l1.length : Int))).bind fun bt601 => (some (bt601.1, bt601.2)))) = some (r1, r2) := H
  have A3 := Aside0.mk A30
  clear A30
  by_cases c4 : t594 = 0
  · rw [if_pos c4] at H
    have c4b0 : (t594 == 0) = true := beq_iff_eq.mpr c4
    have c4b1 : (t594 != 0) = false := bne_eq_false_iff_eq.mpr c4
    clear c4
    obtain ⟨y596, hy596⟩ : ∃ y_ : List Int, y_ = (([(-1), (l1.length : Int), 0] : List Int)) := ⟨_, rfl⟩
    replace H : ((spec_reader_one.f k s0_0 t595 y596).bind fun bt599 => (some (bt599.1, bt599.2))) = some (r1, r2) := by first | (rw [hy596]; with_reducible exact H) | (have H2_ := (Option.bind_some _ _).symm.trans H; rw [hy596]; with_reducible exact H2_) | (have H2_ := (Option.bind_some _ _).symm.trans H; with_reducible exact H2_) | with_reducible exact H | (rw [hy596]; exact H) | exact H
    have Ny596 := Aside0.mk hy596
    clear hy596
    replace H := Option.bind_eq_some_iff.mp H
    obtain ⟨⟨t599, t600⟩, A50, H⟩ := H
    replace H : (some (t599, t600)) = some (r1, r2) := H
    have A5 := Aside0.mk A50
    clear A50
    simp only [Option.some.injEq, Prod.mk.injEq] at H
    obtain ⟨rfl, rfl⟩ := H
    go_enter Tryd.func85, Tryd.ntmps85
    go_wp2_with (first | ((with_reducible refine gate_callee (f := 104) rfl ?_); refine goesL_ (some 6) rfl rfl Tryd.func104 (by kernel_rfl) rfl #[.pointer (some ⟨g, 0, none⟩), .int .i64 10] rfl (by (try simp only [List.map_toArray, List.map_cons, List.map_nil]); first | done | rfl | (simp only [List.length_drop, List.length_take]; rfl)) ?_; (with_reducible refine (spec_reader_pick.calls k g s0_0 s0_1 10 t594 t595 w0 _ ?side1 ?side2 A3.out).mono ?_); (case side1 => repeat (first | (with_reducible first | exact HI0.out | apply IsS101.alloc | apply IsS101.drewN | apply IsS101.drew | apply IsS101.set_1) | exact HI0.out)); (case side2 => repeat (first | (with_reducible first | exact HB.out | apply below_alloc | apply pw_below_drewN | apply below_drew1 | refine below_set ?_ (IsS101.ge HI0.out)) | exact HB.out)); rintro e w6 ⟨rfl, hi, hb, hk⟩; refine ⟨_, rfl, ?_⟩; have n0_ := Aside0.mk (KeepBut.trans (by repeat (first | (with_reducible first | exact HK.out | apply KeepBut.set_ | apply keep_drewN | apply keep_drew | apply keep_alloc) | exact HK.out)) hk (.inl rfl)); have n1_ := Aside0.mk (hb); have n2_ := Aside0.mk (hi); clear HK; clear HB; clear HI0; have HK := n0_; have HB := n1_; have HI0 := n2_; clear n0_ n1_ n2_; (try clear hb); (try clear hb2); (try clear hk); (try clear hi)) | ((with_reducible refine gate_dst (N := 11) rfl ?_); refine Kd.R_lit (Kd.int .i64) _ 3 ?hg (N := 11) ?hd (xs := ([(-1), (l1.length : Int), 0] : List Int)) (inner := [.int .i64 (-1), .int .i64 (l1.length : Int), .int .i64 0]) (ok := fun _ => True) (okp := fun _ => True) ?hr ?hp (fun _ hk => hk) trivial (Below.refl _ _) (Nat.le_refl _) (by simp) ?_; (case hd => rfl); (case hg => rfl); (case hr => first | (go_simp; done) | (go_simp; rfl)); (case hp => exact (Reps.one (show Kd.M (Kd.int .i64) _ _ _ (-1) [.int .i64 (-1)] from rfl) (Reps.one (show Kd.M (Kd.int .i64) _ _ _ (l1.length : Int) [.int .i64 (l1.length : Int)] from rfl) (Reps.one (show Kd.M (Kd.int .i64) _ _ _ 0 [.int .i64 0] from rfl) (Reps.none _ _))))); intro v597 w7 ho8 hb hg_ hnew_; clear hg_ hnew_; (first | rw [← Ny596.out] at ho8 | (simp only [Int.reduceToNat] at ho8; rw [← Ny596.out] at ho8)); have n0_ := Aside0.mk (Kd.R_lower ho8 (keep_size (w := w) (g := g) (row := none) (by repeat (first | (with_reducible first | exact HK.out | apply KeepBut.set_ | apply keep_drewN | apply keep_drew | apply keep_alloc) | exact HK.out)))); have n1_ := Aside0.mk (IsS101.below (by repeat (first | (with_reducible first | exact HI0.out | apply IsS101.alloc | apply IsS101.drewN | apply IsS101.drew | apply IsS101.set_1) | exact HI0.out)) hb); have n2_ := Aside0.mk (KeepBut.trans (by repeat (first | (with_reducible first | exact HK.out | apply KeepBut.set_ | apply keep_drewN | apply keep_drew | apply keep_alloc) | exact HK.out)) (KeepBut.of_below hb g none) (.inl rfl)); have n3_ := Aside0.mk (below_step (by repeat (first | (with_reducible first | exact HB.out | apply below_alloc | apply pw_below_drewN | apply below_drew1 | refine below_set ?_ (IsS101.ge HI0.out)) | exact HB.out)) hb); clear HI0; clear HK; clear HB; have HO598 := n0_; have HI0 := n1_; have HK := n2_; have HB := n3_; clear n0_ n1_ n2_ n3_; clear hb ho8; obtain ⟨Ao9, co9, eo9⟩ := Kd.R_slice HO598.out; subst eo9) | ((with_reducible refine gate_callee (f := 105) rfl ?_); refine goesL_ (some 12) rfl rfl Tryd.func105 (by kernel_rfl) rfl #[.pointer (some ⟨g, 0, none⟩), .slice Ao9 y596.length co9] rfl (by (try simp only [List.map_toArray, List.map_cons, List.map_nil]); first | done | rfl | (simp only [List.length_drop, List.length_take]; rfl)) ?_; (with_reducible refine (spec_reader_one.calls k g s0_0 t595 _ _ y596 t599 t600 w0 _ ?side1 ?side2 ?side3 ?side4 ?side5 A5.out).mono ?_); (case side1 => repeat (first | (with_reducible first | exact HI0.out | apply IsS101.alloc | apply IsS101.drewN | apply IsS101.drew | apply IsS101.set_1) | exact HI0.out)); (case side2 => repeat (first | (with_reducible first | exact HB.out | apply below_alloc | apply pw_below_drewN | apply below_drew1 | refine below_set ?_ (IsS101.ge HI0.out)) | exact HB.out)); (case side3 => repeat (first | exact (Kd.R_reads' HO598.out).2.2 | (with_reducible refine Kd.C_alloc ?_ _) | (with_reducible refine Kd.C_drewN ?_ _) | (with_reducible refine Kd.C_drew ?_))); (case side4 => exact (Kd.R_reads' HO598.out).2.1); (case side5 => exact far_slice (IsS101.own_ne HI0.out HO598.out (by decide))); rintro e w10 ⟨rfl, hi, hb, hk⟩; refine ⟨_, rfl, ?_⟩; have n0_ := Aside0.mk (Kd.R_mono (Kd.R_keep (IsS101.apart (show IsS101 w0 _ g s0_0 t595 from by repeat (first | (with_reducible first | exact HI0.out | apply IsS101.alloc | apply IsS101.drewN | apply IsS101.drew | apply IsS101.set_1) | exact HI0.out)) (by (with_reducible repeat (first | apply Kd.R_alloc | apply Kd.R_drewN | apply Kd.R_drew)); exact HO598.out) (by decide)) hk (fun _ h => h.2)) (fun _ h => h.1)); have n1_ := Aside0.mk (KeepBut.trans (by repeat (first | (with_reducible first | exact HK.out | apply KeepBut.set_ | apply keep_drewN | apply keep_drew | apply keep_alloc) | exact HK.out)) hk (.inl rfl)); have n2_ := Aside0.mk (hb); have n3_ := Aside0.mk (hi); clear HO598; clear HK; clear HB; clear HI0; have HO598 := n0_; have HK := n1_; have HB := n2_; have HI0 := n3_; clear n0_ n1_ n2_ n3_; (try clear hb); (try clear hb2); (try clear hk); (try clear hi)))
    go_ret
    exact ⟨by first | rfl | (simp [errW_none, errW_some] <;> rfl) | (simp [*, errW_none, errW_some] <;> rfl), by repeat (first | (with_reducible first | exact HI0.out | apply IsS101.alloc | apply IsS101.drewN | apply IsS101.drew | apply IsS101.set_1) | exact HI0.out), by repeat (first | (with_reducible first | exact HB.out | apply below_alloc | apply pw_below_drewN | apply below_drew1 | refine below_set ?_ (IsS101.ge HI0.out)) | exact HB.out), by repeat (first | (with_reducible first | exact HK.out | apply KeepBut.set_ | apply keep_drewN | apply keep_drew | apply keep_alloc) | exact HK.out)⟩
  · rw [if_neg c4] at H
    have c4b0 : (t594 == 0) = false := beq_eq_false_iff_ne.mpr c4
    have c4b1 : (t594 != 0) = true := bne_iff_ne.mpr c4
    obtain ⟨ji11, hji11⟩ : ∃ j_ : Int, (mx 1 (l1.length : Int)) = j_ := ⟨_, rfl⟩
    replace H : ((spec_reader_pick.f k s0_0 t595 (ji11)).bind fun bt601 => (some (bt601.1, bt601.2))) = some (r1, r2) := by first | (rw [hji11] at H; exact H) | (simp only [hji11] at H ⊢; exact H)
    (try rw [hji11] at A3)
    (try (have hji11l : 1 ≤ ji11 := by (rw [← hji11]; unfold mx; (repeat' split) <;> omega)))
    (try (have hji11m : 0 ≤ ji11 := by omega))
    have hji11_ : (if 1 < (l1.length : Int) then (l1.length : Int) else 1) = ji11 := hji11
    replace H := Option.bind_eq_some_iff.mp H
    obtain ⟨⟨t601, t602⟩, A120, H⟩ := H
    replace H : (some (t601, t602)) = some (r1, r2) := H
    have A12 := Aside0.mk A120
    clear A120
    simp only [Option.some.injEq, Prod.mk.injEq] at H
    obtain ⟨rfl, rfl⟩ := H
    go_enter Tryd.func85, Tryd.ntmps85
    go_wp2_with (first | ((with_reducible refine gate_callee (f := 104) rfl ?_); refine goesL_ (some 6) rfl rfl Tryd.func104 (by kernel_rfl) rfl #[.pointer (some ⟨g, 0, none⟩), .int .i64 10] rfl (by (try simp only [List.map_toArray, List.map_cons, List.map_nil]); first | done | rfl | (simp only [List.length_drop, List.length_take]; rfl)) ?_; (with_reducible refine (spec_reader_pick.calls k g s0_0 s0_1 10 t594 t595 w0 _ ?side1 ?side2 A3.out).mono ?_); (case side1 => repeat (first | (with_reducible first | exact HI0.out | apply IsS101.alloc | apply IsS101.drewN | apply IsS101.drew | apply IsS101.set_1) | exact HI0.out)); (case side2 => repeat (first | (with_reducible first | exact HB.out | apply below_alloc | apply pw_below_drewN | apply below_drew1 | refine below_set ?_ (IsS101.ge HI0.out)) | exact HB.out)); rintro e w13 ⟨rfl, hi, hb, hk⟩; refine ⟨_, rfl, ?_⟩; have n0_ := Aside0.mk (KeepBut.trans (by repeat (first | (with_reducible first | exact HK.out | apply KeepBut.set_ | apply keep_drewN | apply keep_drew | apply keep_alloc) | exact HK.out)) hk (.inl rfl)); have n1_ := Aside0.mk (hb); have n2_ := Aside0.mk (hi); clear HK; clear HB; clear HI0; have HK := n0_; have HB := n1_; have HI0 := n2_; clear n0_ n1_ n2_; (try clear hb); (try clear hb2); (try clear hk); (try clear hi)) | ((with_reducible refine gate_callee (f := 104) rfl ?_); refine goesL_ (some 17) rfl rfl Tryd.func104 (by kernel_rfl) rfl #[.pointer (some ⟨g, 0, none⟩), .int .i64 ji11] rfl (by (try simp only [List.map_toArray, List.map_cons, List.map_nil]); first | done | (simp only [hji11]; rfl) | rfl | (simp only [List.length_drop, List.length_take]; rfl)) ?_; (with_reducible refine (spec_reader_pick.calls k g s0_0 t595 ji11 t601 t602 w0 _ ?side1 ?side2 A12.out).mono ?_); (case side1 => repeat (first | (with_reducible first | exact HI0.out | apply IsS101.alloc | apply IsS101.drewN | apply IsS101.drew | apply IsS101.set_1) | exact HI0.out)); (case side2 => repeat (first | (with_reducible first | exact HB.out | apply below_alloc | apply pw_below_drewN | apply below_drew1 | refine below_set ?_ (IsS101.ge HI0.out)) | exact HB.out)); rintro e w14 ⟨rfl, hi, hb, hk⟩; refine ⟨_, rfl, ?_⟩; have n0_ := Aside0.mk (KeepBut.trans (by repeat (first | (with_reducible first | exact HK.out | apply KeepBut.set_ | apply keep_drewN | apply keep_drew | apply keep_alloc) | exact HK.out)) hk (.inl rfl)); have n1_ := Aside0.mk (hb); have n2_ := Aside0.mk (hi); clear HK; clear HB; clear HI0; have HK := n0_; have HB := n1_; have HI0 := n2_; clear n0_ n1_ n2_; (try clear hb); (try clear hb2); (try clear hk); (try clear hi)))
    go_ret
    exact ⟨by first | rfl | (simp [errW_none, errW_some] <;> rfl) | (simp only [← hji11]; first | rfl | (simp [errW_none, errW_some] <;> rfl)) | (simp [*, errW_none, errW_some] <;> rfl), by repeat (first | (with_reducible first | exact HI0.out | apply IsS101.alloc | apply IsS101.drewN | apply IsS101.drew | apply IsS101.set_1) | exact HI0.out), by repeat (first | (with_reducible first | exact HB.out | apply below_alloc | apply pw_below_drewN | apply below_drew1 | refine below_set ?_ (IsS101.ge HI0.out)) | exact HB.out), by repeat (first | (with_reducible first | exact HK.out | apply KeepBut.set_ | apply keep_drewN | apply keep_drew | apply keep_alloc) | exact HK.out)⟩
end Go.Proofs.YtekajandipdlhaaDoor.P
end
section
namespace Go.Proofs.YtekajandipdlhaaDoor.P
open Go.RowKit Go.Proofs.YtekajandipdlhaaDoorW.PrintWords Go.Proofs.YtekajandipdlhaaDoorW.PrintLast Go.Proofs.YtekajandipdlhaaDoorW.PrintMore
attribute [local go_sem] max2_int min2_int max_two min_two max_three min_three max_four min_four   -- for this text's walks alone
set_option linter.unusedVariables false
set_option linter.unusedSimpArgs false
mutual
def spec_WaitsFor.j0 : Nat → List (S37) → List Int → Int → List Int → Bool → Option (List Int)
  | 0, _, _, _, _, _ => none
  | k + 1, x0, x1, x2, x7, x21 => if x21 = true then (some ([] : List Int)) else (spec_WaitsFor.l0 k x0 x1 x2 x7 0)
def spec_WaitsFor.l0 : Nat → List (S37) → List Int → Int → List Int → Int → Option (List Int)
  | 0, _, _, _, _, _ => none
  | k + 1, x0, x1, x2, x7, x8 => if 0 ≤ x2 then (if x2 < (x0.length : Int) then (if x8 < (((rd_T37 x0 x2).f1).length : Int) then (if 0 ≤ x8 then ((spec_isIn.f k x1 (rd ((rd_T37 x0 x2).f1) x8)).bind fun t631 => (if t631 = true then (spec_WaitsFor.l0 k x0 x1 x2 x7 (wrap64 (x8 + 1))) else (if x7.length < 17592186044416 then (spec_WaitsFor.l0 k x0 x1 x2 (x7 ++ [rd ((rd_T37 x0 x2).f1) x8]) (wrap64 (x8 + 1))) else (none)))) else (none)) else (some x7)) else (none)) else (none)
end
def spec_WaitsFor.f (k : Nat) (l0 : List (S37)) (l1 : List Int) (a2 : Int) : Option (List Int) := (some (([] : List Int) : List Int)).bind fun y623 => ((spec_validDone.f k l0 l1).bind fun t626 => (if t626 = true then ((spec_inRange.f a2 0 (wrap64 ((l0.length : Int) - 1))).bind fun t627 => (spec_WaitsFor.j0 k l0 l1 a2 y623 (!t627))) else (spec_WaitsFor.j0 k l0 l1 a2 y623 true)))
theorem spec_WaitsFor.mono_l : ∀ k, (∀ y0 y1 y2 y3 y4, LeO (spec_WaitsFor.j0 k y0 y1 y2 y3 y4) (spec_WaitsFor.j0 (k + 1) y0 y1 y2 y3 y4)) ∧ (∀ y0 y1 y2 y3 y4, LeO (spec_WaitsFor.l0 k y0 y1 y2 y3 y4) (spec_WaitsFor.l0 (k + 1) y0 y1 y2 y3 y4))
  | 0 => ⟨fun _ _ _ _ _ r h => by simp [spec_WaitsFor.j0] at h, fun _ _ _ _ _ r h => by simp [spec_WaitsFor.l0] at h⟩
  | k + 1 => by
    obtain ⟨ih0, ih1⟩ := spec_WaitsFor.mono_l k
    refine ⟨?_, ?_⟩
    · intro y0 y1 y2 y3 y4
      unfold spec_WaitsFor.j0
      repeat' first
      | (with_reducible exact ih0 _ _ _ _ _)
      | (with_reducible exact ih1 _ _ _ _ _)
      | (with_reducible exact spec_isIn.mono _ _ _)
      | (with_reducible exact spec_validDone.mono _ _ _)
      | (with_reducible exact LeO.refl _)
      | (with_reducible exact LeO.none _)
      | (with_reducible refine LeO.ite ?_ ?_)
      | (with_reducible refine LeO.bind ?_ (fun _ => ?_))
      | exact ih0 _ _ _ _ _
      | exact ih1 _ _ _ _ _
      | exact spec_isIn.mono _ _ _
      | exact spec_validDone.mono _ _ _
      | exact LeO.none _
      | refine LeO.ite ?_ ?_
      | refine LeO.bind ?_ (fun _ => ?_)
    · intro y0 y1 y2 y3 y4
      unfold spec_WaitsFor.l0
      repeat' first
      | (with_reducible exact ih0 _ _ _ _ _)
      | (with_reducible exact ih1 _ _ _ _ _)
      | (with_reducible exact spec_isIn.mono _ _ _)
      | (with_reducible exact spec_validDone.mono _ _ _)
      | (with_reducible exact LeO.refl _)
      | (with_reducible exact LeO.none _)
      | (with_reducible refine LeO.ite ?_ ?_)
      | (with_reducible refine LeO.bind ?_ (fun _ => ?_))
      | exact ih0 _ _ _ _ _
      | exact ih1 _ _ _ _ _
      | exact spec_isIn.mono _ _ _
      | exact spec_validDone.mono _ _ _
      | exact LeO.none _
      | refine LeO.ite ?_ ?_
      | refine LeO.bind ?_ (fun _ => ?_)
theorem spec_WaitsFor.mono : ∀ a0 a1 a2 k, LeO (spec_WaitsFor.f k a0 a1 a2) (spec_WaitsFor.f (k + 1) a0 a1 a2) := by
  intro a0 a1 a2 k
  obtain ⟨ih0, ih1⟩ := spec_WaitsFor.mono_l k
  unfold spec_WaitsFor.f
  repeat' first
      | (with_reducible exact ih0 _ _ _ _ _)
      | (with_reducible exact ih1 _ _ _ _ _)
      | (with_reducible exact spec_isIn.mono _ _ _)
      | (with_reducible exact spec_validDone.mono _ _ _)
      | (with_reducible exact LeO.refl _)
      | (with_reducible exact LeO.none _)
      | (with_reducible refine LeO.ite ?_ ?_)
      | (with_reducible refine LeO.bind ?_ (fun _ => ?_))
      | exact ih0 _ _ _ _ _
      | exact ih1 _ _ _ _ _
      | exact spec_isIn.mono _ _ _
      | exact spec_validDone.mono _ _ _
      | exact LeO.none _
      | refine LeO.ite ?_ ?_
      | refine LeO.bind ?_ (fun _ => ?_)
set_option maxHeartbeats 8000000 in
set_option maxRecDepth 100000 in
theorem spec_WaitsFor.calls (k : Nat) (A0 : Option Addr) (c0 : Nat) (l0 : List (S37)) (A1 : Option Addr) (c1 : Nat) (l1 : List Int) (a2 : Int) (r : List Int) (w : World) (hr0 : Kd.C k37 w A0 l0.length l0) (hc0 : l0.length ≤ c0) (hr1 : Kd.C (Kd.int .i64) w A1 l1.length l1) (hc1 : l1.length ≤ c1) (h : spec_WaitsFor.f k l0 l1 a2 = some r) :
    Calls Tryd.prog 43 #[.slice A0 l0.length c0, .slice A1 l1.length c1, .int .i64 a2] w fun e w' => ∃ v0_ : Value, e = .returned (v0_) ∧ Kd.R (Kd.int .i64) 3 w' w.heap.size (fun _ => True) v0_ r ∧ Below w.heap.size w w' := by
  have HR0 := Aside0.mk hr0
  have HC0 := Aside0.mk hc0
  clear hr0 hc0
  have HR1 := Aside0.mk hr1
  have HC1 := Aside0.mk hc1
  clear hr1 hc1
  have HB := Aside0.mk (Below.refl w.heap.size w)
  have H : ((some (([] : List Int) : List Int)).bind fun y623 => ((spec_validDone.f k l0 l1).bind fun t626 => (if t626 = true then ((spec_inRange.f a2 0 (wrap64 ((l0.length : Int) - 1))).bind fun t627 => (spec_WaitsFor.j0 k l0 l1 a2 y623 (!t627))) else (spec_WaitsFor.j0 k l0 l1 a2 y623 true)))) = some r := h
  clear h
  obtain ⟨y623, hy623⟩ : ∃ y_ : List Int, y_ = (([] : List Int)) := ⟨_, rfl⟩
  replace H : ((spec_validDone.f k l0 l1).bind fun t626 => (if t626 = true then ((spec_inRange.f a2 0 (wrap64 ((l0.length : Int) - 1))).bind fun t627 => (spec_WaitsFor.j0 k l0 l1 a2 y623 (!t627))) else (spec_WaitsFor.j0 k l0 l1 a2 y623 true))) = some r := by first | (rw [hy623]; with_reducible exact H) | (have H2_ := (Option.bind_some _ _).symm.trans H; rw [hy623]; with_reducible exact H2_) | (have H2_ := (Option.bind_some _ _).symm.trans H; with_reducible exact H2_) | with_reducible exact H | (rw [hy623]; exact H) | exact H
  have Ny623 := Aside0.mk hy623
  clear hy623
  have HC4 := Aside0.mk H
  clear H
  go_enter Tryd.func43, Tryd.ntmps43
  go_upto_region 2 with (first | ((with_reducible refine gate_dst (N := 9) rfl ?_); (try (refine gate_guard (by rfl) ?_; dsimp only)); refine Kd.R_lit (Kd.int .i64) _ 3 ?hg (N := 9) ?hd (xs := ([] : List Int)) (inner := []) (ok := fun _ => True) (okp := fun _ => True) ?hr ?hp (fun _ hk => hk) trivial (Below.refl _ _) (Nat.le_refl _) (by simp) ?_; (case hd => rfl); (case hg => rfl); (case hr => first | (go_simp; done) | (go_simp; rfl)); (case hp => exact (Reps.none _ _)); intro v624 w5 ho6 hb hg_ hnew_; clear hg_ hnew_; (first | rw [← Ny623.out] at ho6 | (simp only [Int.reduceToNat] at ho6; rw [← Ny623.out] at ho6)); have n0_ := Aside0.mk (Kd.R_lower ho6 (below_size (by repeat (first | (with_reducible first | exact HB.out | apply below_alloc | apply pw_below_drewN | apply below_drew1) | exact HB.out)))); have n1_ := Aside0.mk (below_step (by repeat (first | (with_reducible first | exact HB.out | apply below_alloc | apply pw_below_drewN | apply below_drew1) | exact HB.out)) hb); clear HB; have HO625 := n0_; have HB := n1_; clear n0_ n1_; clear hb ho6))
  (try simp only [Act.put, List.setIfInBounds_toArray, List.set_cons_zero, List.set_cons_succ])
  go_cut [21] (fun v21 wc => ∃ (kq : Nat) (x21_3 : Bool), v21 = .bool x21_3 ∧ Aside0 (spec_WaitsFor.j0 kq l0 l1 a2 y623 x21_3 = some r) ∧ Aside0 (kq ≤ k) ∧ Aside0 (Kd.R (Kd.int .i64) 3 wc w.heap.size (fun _ => True) v624 y623) ∧ Aside0 (Below w.heap.size w wc))
  case first =>
    have H := HC4.out
    clear HC4
    replace H := Option.bind_eq_some_iff.mp H
    obtain ⟨t626, A70, H⟩ := H
    replace H : (if t626 = true then ((spec_inRange.f a2 0 (wrap64 ((l0.length : Int) - 1))).bind fun t627 => (spec_WaitsFor.j0 k l0 l1 a2 y623 (!t627))) else (spec_WaitsFor.j0 k l0 l1 a2 y623 true)) = some r := H
    have A7 := Aside0.mk A70
    clear A70
    by_cases c8 : t626 = true
    · subst c8
      have H1 : ((spec_inRange.f a2 0 (wrap64 ((l0.length : Int) - 1))).bind fun t627 => (spec_WaitsFor.j0 k l0 l1 a2 y623 (!t627))) = some r := by rw [if_pos rfl] at H; exact H
      clear H
      have H := H1
      clear H1
      replace H := Option.bind_eq_some_iff.mp H
      obtain ⟨t627, A90, H⟩ := H
      replace H : (spec_WaitsFor.j0 k l0 l1 a2 y623 (!t627)) = some r := H
      have A9 := Aside0.mk A90
      clear A90
      have H' := Aside0.mk H
      clear H
      go_wp2_with (first | ((with_reducible refine gate_callee (f := 82) rfl ?_); refine goesL_ (some 12) rfl rfl Tryd.func82 (by kernel_rfl) rfl #[.slice A0 l0.length c0, .slice A1 l1.length c1] rfl (by (try simp only [List.map_toArray, List.map_cons, List.map_nil]); first | done | rfl | (simp only [List.length_drop, List.length_take]; rfl)) ?_; (with_reducible refine (spec_validDone.calls k _ _ l0 _ _ l1 true _ ?side1 ?side2 ?side3 ?side4 A7.out).mono ?_); (case side1 => repeat (first | exact (Kd.C_below HR0.out HB.out) | (with_reducible refine Kd.C_alloc ?_ _) | (with_reducible refine Kd.C_drewN ?_ _) | (with_reducible refine Kd.C_drew ?_))); (case side2 => exact HC0.out); (case side3 => repeat (first | exact (Kd.C_below HR1.out HB.out) | (with_reducible refine Kd.C_alloc ?_ _) | (with_reducible refine Kd.C_drewN ?_ _) | (with_reducible refine Kd.C_drew ?_))); (case side4 => exact HC1.out); rintro e w10 ⟨rfl, hb⟩; refine ⟨_, rfl, ?_⟩; have n0_ := Aside0.mk (Kd.R_below (by (with_reducible repeat (first | apply Kd.R_alloc | apply Kd.R_drewN | apply Kd.R_drew)); exact HO625.out) hb); have n1_ := Aside0.mk (below_step (by repeat (first | (with_reducible first | exact HB.out | apply below_alloc | apply pw_below_drewN | apply below_drew1) | exact HB.out)) hb); clear HO625; clear HB; have HO625 := n0_; have HB := n1_; clear n0_ n1_; (try clear hb); (try clear hb2); (try clear hk); (try clear hi)) | (go_at_call 75; (with_reducible refine (spec_inRange.calls a2 0 (wrap64 ((l0.length : Int) - 1)) t627 _ A9.out).mono ?_); rintro e w' ⟨rfl, ⟨nd, rfl⟩⟩))
      go_meet
      case rel => exact ⟨_, (!t627), (by first | rfl | (simp; done) | (simp [*]; done)), H', ⟨by first | omega | exact Nat.le_refl _⟩, ⟨by (with_reducible repeat (first | apply Kd.R_alloc | apply Kd.R_drewN | apply Kd.R_drew)); exact HO625.out⟩, ⟨by repeat (first | (with_reducible first | exact HB.out | apply below_alloc | apply pw_below_drewN | apply below_drew1) | exact HB.out)⟩⟩
    · replace c8 := Bool.eq_false_iff.mpr c8
      subst c8
      have H1 : (spec_WaitsFor.j0 k l0 l1 a2 y623 true) = some r := by rw [if_neg (show ¬ (false = true) by decide)] at H; exact H
      clear H
      have H := H1
      clear H1
      have H' := Aside0.mk H
      clear H
      go_wp2_with (first | ((with_reducible refine gate_callee (f := 82) rfl ?_); refine goesL_ (some 12) rfl rfl Tryd.func82 (by kernel_rfl) rfl #[.slice A0 l0.length c0, .slice A1 l1.length c1] rfl (by (try simp only [List.map_toArray, List.map_cons, List.map_nil]); first | done | rfl | (simp only [List.length_drop, List.length_take]; rfl)) ?_; (with_reducible refine (spec_validDone.calls k _ _ l0 _ _ l1 false _ ?side1 ?side2 ?side3 ?side4 A7.out).mono ?_); (case side1 => repeat (first | exact (Kd.C_below HR0.out HB.out) | (with_reducible refine Kd.C_alloc ?_ _) | (with_reducible refine Kd.C_drewN ?_ _) | (with_reducible refine Kd.C_drew ?_))); (case side2 => exact HC0.out); (case side3 => repeat (first | exact (Kd.C_below HR1.out HB.out) | (with_reducible refine Kd.C_alloc ?_ _) | (with_reducible refine Kd.C_drewN ?_ _) | (with_reducible refine Kd.C_drew ?_))); (case side4 => exact HC1.out); rintro e w11 ⟨rfl, hb⟩; refine ⟨_, rfl, ?_⟩; have n0_ := Aside0.mk (Kd.R_below (by (with_reducible repeat (first | apply Kd.R_alloc | apply Kd.R_drewN | apply Kd.R_drew)); exact HO625.out) hb); have n1_ := Aside0.mk (below_step (by repeat (first | (with_reducible first | exact HB.out | apply below_alloc | apply pw_below_drewN | apply below_drew1) | exact HB.out)) hb); clear HO625; clear HB; have HO625 := n0_; have HB := n1_; clear n0_ n1_; (try clear hb); (try clear hb2); (try clear hk); (try clear hi)))
      go_meet
      case rel => exact ⟨_, (true), (by first | rfl | (simp; done) | (simp [*]; done)), H', ⟨by first | omega | exact Nat.le_refl _⟩, ⟨by (with_reducible repeat (first | apply Kd.R_alloc | apply Kd.R_drewN | apply Kd.R_drew)); exact HO625.out⟩, ⟨by repeat (first | (with_reducible first | exact HB.out | apply below_alloc | apply pw_below_drewN | apply below_drew1) | exact HB.out)⟩⟩
  case rest =>
    clear HC4
    try clear c1
    try clear p2
    try clear c4
    try clear p6
    try clear c8
    obtain ⟨kq, x21_3, rfl, HA, HJ3, HO_7, HB⟩ := hcut
    cases kq with
    | zero => exact absurd HA.out (by simp [spec_WaitsFor.j0])
    | succ kj3 =>
      have H := HA.out
      clear HA
      simp only [spec_WaitsFor.j0] at H
      by_cases c12 : x21_3 = true
      · subst c12
        have H1 : (some ([] : List Int)) = some r := by rw [if_pos rfl] at H; exact H
        clear H
        have H := H1
        clear H1
        obtain rfl := Option.some.inj H
        go_wp2
        go_ret
        exact ⟨_, by first | rfl | (simp [errW_none, errW_some] <;> rfl) | (simp [*, errW_none, errW_some] <;> rfl), by first | exact Kd.R_nil _ _ _ _ _ | exact Kd.N_nil _ _ _ _ _ | exact Kd.V_nil _ _ _ _ _ | exact Kd.Q_nil _ _ _ _ _ | exact Kd.S_nil _ _ _ _ _, by repeat (first | (with_reducible first | exact HB.out | apply below_alloc | apply pw_below_drewN | apply below_drew1) | exact HB.out)⟩
      · replace c12 := Bool.eq_false_iff.mpr c12
        subst c12
        have H1 : (spec_WaitsFor.l0 kj3 l0 l1 a2 y623 0) = some r := by rw [if_neg (show ¬ (false = true) by decide)] at H; exact H
        clear H
        have H := H1
        clear H1
        have H' := Aside0.mk H
        clear H
        go_wp2
        go_loopg [7, 8] kj3 (fun kq v7 v8 w' => ∃ (x7_2 : List Int) (x8_2 : Int), v8 = .int .i64 x8_2 ∧ Aside0 (spec_WaitsFor.l0 kq l0 l1 a2 x7_2 x8_2 = some r) ∧ Aside0 (kq ≤ kj3) ∧ Aside0 (Kd.R (Kd.int .i64) 3 w' w.heap.size (fun _ => True) v7 x7_2) ∧ Aside0 (Below w.heap.size w w'))
        case atStart => exact ⟨(y623), (0), (by first | rfl | (simp; done) | (simp [*]; done)), H', ⟨Nat.le_refl _⟩, ⟨by (with_reducible repeat (first | apply Kd.R_alloc | apply Kd.R_drewN | apply Kd.R_drew)); exact HO_7.out⟩, ⟨by repeat (first | (with_reducible first | exact HB.out | apply below_alloc | apply pw_below_drewN | apply below_drew1) | exact HB.out)⟩⟩
        case round =>
          clear H'
          try clear c1
          try clear p2
          try clear c4
          try clear p6
          try clear c8
          try clear c12
          try clear p2
          try clear p6
          obtain ⟨x7_2, x8_2, rfl, HA, HK2, HO_7, HB⟩ := hrel
          cases gk with
          | zero => exact absurd HA.out (by simp [spec_WaitsFor.l0])
          | succ k2 =>
            have H := HA.out
            clear HA
            simp only [spec_WaitsFor.l0] at H
            by_cases c13 : 0 ≤ a2
            · rw [if_pos c13] at H
              have c13b0 : decide (0 ≤ a2) = true := decide_eq_true c13
              clear c13
              by_cases c14 : a2 < (l0.length : Int)
              · rw [if_pos c14] at H
                have c14b0 : decide (a2 < (l0.length : Int)) = true := decide_eq_true c14
                clear c14
                by_cases c15 : x8_2 < (((rd_T37 l0 a2).f1).length : Int)
                · rw [if_pos c15] at H
                  have c15b0 : decide (x8_2 < (((rd_T37 l0 a2).f1).length : Int)) = true := decide_eq_true c15
                  clear c15
                  by_cases c16 : 0 ≤ x8_2
                  · rw [if_pos c16] at H
                    have c16b0 : decide (0 ≤ x8_2) = true := decide_eq_true c16
                    clear c16
                    replace H := Option.bind_eq_some_iff.mp H
                    obtain ⟨t631, A170, H⟩ := H
                    replace H : (if t631 = true then (spec_WaitsFor.l0 k2 l0 l1 a2 x7_2 (wrap64 (x8_2 + 1))) else (if x7_2.length < 17592186044416 then (spec_WaitsFor.l0 k2 l0 l1 a2 (x7_2 ++ [rd ((rd_T37 l0 a2).f1) x8_2]) (wrap64 (x8_2 + 1))) else (none))) = some r := H
                    have A17 := Aside0.mk A170
                    clear A170
                    by_cases c18 : t631 = true
                    · subst c18
                      have H1 : (spec_WaitsFor.l0 k2 l0 l1 a2 x7_2 (wrap64 (x8_2 + 1))) = some r := by rw [if_pos rfl] at H; exact H
                      clear H
                      have H := H1
                      clear H1
                      have H' := Aside0.mk H
                      clear H
                      have p628 : 0 ≤ (a2 : Int) := of_decide_eq_true (by first | (with_reducible assumption) | assumption)
                      have q628 : a2 < (l0.length : Int) := of_decide_eq_true (by first | (with_reducible assumption) | assumption)
                      obtain ⟨ad628, A628_1, c628_1, e628, hx628_0, hx628_1, hx628_2, hx628_3, hl628_1, hi628_1⟩ := at_T37 HR0.out a2 p628 q628
                      cases e628
                      replace hx628_0 := (HB.out.cell (World.block_lt_of_cell? w _ hx628_0)).trans hx628_0
                      replace hx628_1 := (HB.out.cell (World.block_lt_of_cell? w _ hx628_1)).trans hx628_1
                      replace hx628_2 := (HB.out.cell (World.block_lt_of_cell? w _ hx628_2)).trans hx628_2
                      replace hx628_3 := (HB.out.cell (World.block_lt_of_cell? w _ hx628_3)).trans hx628_3
                      have HR628_1 := Aside0.mk hi628_1
                      have HC628_1 := Aside0.mk hl628_1
                      clear hi628_1 hl628_1
                      replace p628 := eq_true p628
                      replace q628 := eq_true q628
                      have p629 : 0 ≤ (a2 : Int) := of_decide_eq_true (by first | (with_reducible assumption) | assumption)
                      have q629 : a2 < (l0.length : Int) := of_decide_eq_true (by first | (with_reducible assumption) | assumption)
                      obtain ⟨ad629, A629_1, c629_1, e629, hx629_0, hx629_1, hx629_2, hx629_3, hl629_1, hi629_1⟩ := at_T37 HR0.out a2 p629 q629
                      obtain rfl : ad628 = ad629 := (by injection e629)
                      replace hx629_0 := (HB.out.cell (World.block_lt_of_cell? w _ hx629_0)).trans hx629_0
                      replace hx629_1 := (HB.out.cell (World.block_lt_of_cell? w _ hx629_1)).trans hx629_1
                      replace hx629_2 := (HB.out.cell (World.block_lt_of_cell? w _ hx629_2)).trans hx629_2
                      replace hx629_3 := (HB.out.cell (World.block_lt_of_cell? w _ hx629_3)).trans hx629_3
                      have HR629_1 := Aside0.mk hi629_1
                      have HC629_1 := Aside0.mk hl629_1
                      clear hi629_1 hl629_1
                      replace p629 := eq_true p629
                      replace q629 := eq_true q629
                      have ea_ := Option.some.inj (hx628_1.symm.trans hx629_1)
                      injection ea_ with ea_ en_ ec_
                      subst ea_
                      subst ec_
                      clear en_
                      have p630 : 0 ≤ (x8_2 : Int) := of_decide_eq_true (by first | (with_reducible assumption) | assumption)
                      have q630 : x8_2 < (((rd_T37 l0 a2).f1).length : Int) := of_decide_eq_true (by first | (with_reducible assumption) | assumption)
                      obtain ⟨ad630, e630, hx630_0⟩ := Kd.at_int HR629_1.out x8_2 p630 q630
                      cases e630
                      replace hx630_0 := (HB.out.cell (World.block_lt_of_cell? w _ hx630_0)).trans hx630_0
                      replace p630 := eq_true p630
                      replace q630 := eq_true q630
                      go_wp2_with (first | ((with_reducible refine gate_callee (f := 83) rfl ?_); refine goesL_ (some 41) rfl rfl Tryd.func83 (by kernel_rfl) rfl #[.slice A1 l1.length c1, .int .i64 (rd ((rd_T37 l0 a2).f1) x8_2)] rfl (by (try simp only [List.map_toArray, List.map_cons, List.map_nil]); first | done | rfl | (simp only [List.length_drop, List.length_take]; rfl)) ?_; (with_reducible refine (spec_isIn.calls k2 _ _ l1 (rd ((rd_T37 l0 a2).f1) x8_2) true _ ?side1 ?side2 A17.out).mono ?_); (case side1 => repeat (first | exact (Kd.C_below HR1.out HB.out) | (with_reducible refine Kd.C_alloc ?_ _) | (with_reducible refine Kd.C_drewN ?_ _) | (with_reducible refine Kd.C_drew ?_))); (case side2 => exact HC1.out); rintro e w' ⟨rfl, ⟨nd, rfl⟩⟩; refine ⟨_, rfl, ?_⟩))
                      go_roundg k2
                      case measure => have := HJ3.out; have := HK2.out; omega
                      case rel => exact ⟨(x7_2), (wrap64 (x8_2 + 1)), (by first | rfl | (simp; done) | (simp [*]; done)), H', ⟨by have := HJ3.out; have := HK2.out; omega⟩, ⟨by (with_reducible repeat (first | apply Kd.R_alloc | apply Kd.R_drewN | apply Kd.R_drew)); exact HO_7.out⟩, ⟨by repeat (first | (with_reducible first | exact HB.out | apply below_alloc | apply pw_below_drewN | apply below_drew1) | exact HB.out)⟩⟩
                    · replace c18 := Bool.eq_false_iff.mpr c18
                      subst c18
                      have H1 : (if x7_2.length < 17592186044416 then (spec_WaitsFor.l0 k2 l0 l1 a2 (x7_2 ++ [rd ((rd_T37 l0 a2).f1) x8_2]) (wrap64 (x8_2 + 1))) else (none)) = some r := by rw [if_neg (show ¬ (false = true) by decide)] at H; exact H
                      clear H
                      have H := H1
                      clear H1
                      by_cases c19 : x7_2.length < 17592186044416
                      · rw [if_pos c19] at H
                        have LMc19 := Aside0.mk c19
                        clear c19
                        obtain ⟨y634, hy634⟩ : ∃ y_ : List Int, y_ = (x7_2 ++ [rd ((rd_T37 l0 a2).f1) x8_2]) := ⟨_, rfl⟩
                        replace H : (spec_WaitsFor.l0 k2 l0 l1 a2 y634 (wrap64 (x8_2 + 1))) = some r := by first | (rw [hy634]; with_reducible exact H) | (have H2_ := (Option.bind_some _ _).symm.trans H; rw [hy634]; with_reducible exact H2_) | (have H2_ := (Option.bind_some _ _).symm.trans H; with_reducible exact H2_) | with_reducible exact H | (rw [hy634]; exact H) | exact H
                        have Ny634 := Aside0.mk hy634
                        clear hy634
                        have H' := Aside0.mk H
                        clear H
                        have p628 : 0 ≤ (a2 : Int) := of_decide_eq_true (by first | (with_reducible assumption) | assumption)
                        have q628 : a2 < (l0.length : Int) := of_decide_eq_true (by first | (with_reducible assumption) | assumption)
                        obtain ⟨ad628, A628_1, c628_1, e628, hx628_0, hx628_1, hx628_2, hx628_3, hl628_1, hi628_1⟩ := at_T37 HR0.out a2 p628 q628
                        cases e628
                        replace hx628_0 := (HB.out.cell (World.block_lt_of_cell? w _ hx628_0)).trans hx628_0
                        replace hx628_1 := (HB.out.cell (World.block_lt_of_cell? w _ hx628_1)).trans hx628_1
                        replace hx628_2 := (HB.out.cell (World.block_lt_of_cell? w _ hx628_2)).trans hx628_2
                        replace hx628_3 := (HB.out.cell (World.block_lt_of_cell? w _ hx628_3)).trans hx628_3
                        have HR628_1 := Aside0.mk hi628_1
                        have HC628_1 := Aside0.mk hl628_1
                        clear hi628_1 hl628_1
                        replace p628 := eq_true p628
                        replace q628 := eq_true q628
                        have p629 : 0 ≤ (a2 : Int) := of_decide_eq_true (by first | (with_reducible assumption) | assumption)
                        have q629 : a2 < (l0.length : Int) := of_decide_eq_true (by first | (with_reducible assumption) | assumption)
                        obtain ⟨ad629, A629_1, c629_1, e629, hx629_0, hx629_1, hx629_2, hx629_3, hl629_1, hi629_1⟩ := at_T37 HR0.out a2 p629 q629
                        obtain rfl : ad628 = ad629 := (by injection e629)
                        replace hx629_0 := (HB.out.cell (World.block_lt_of_cell? w _ hx629_0)).trans hx629_0
                        replace hx629_1 := (HB.out.cell (World.block_lt_of_cell? w _ hx629_1)).trans hx629_1
                        replace hx629_2 := (HB.out.cell (World.block_lt_of_cell? w _ hx629_2)).trans hx629_2
                        replace hx629_3 := (HB.out.cell (World.block_lt_of_cell? w _ hx629_3)).trans hx629_3
                        have HR629_1 := Aside0.mk hi629_1
                        have HC629_1 := Aside0.mk hl629_1
                        clear hi629_1 hl629_1
                        replace p629 := eq_true p629
                        replace q629 := eq_true q629
                        have ea_ := Option.some.inj (hx628_1.symm.trans hx629_1)
                        injection ea_ with ea_ en_ ec_
                        subst ea_
                        subst ec_
                        clear en_
                        have p630 : 0 ≤ (x8_2 : Int) := of_decide_eq_true (by first | (with_reducible assumption) | assumption)
                        have q630 : x8_2 < (((rd_T37 l0 a2).f1).length : Int) := of_decide_eq_true (by first | (with_reducible assumption) | assumption)
                        obtain ⟨ad630, e630, hx630_0⟩ := Kd.at_int HR629_1.out x8_2 p630 q630
                        cases e630
                        replace hx630_0 := (HB.out.cell (World.block_lt_of_cell? w _ hx630_0)).trans hx630_0
                        replace p630 := eq_true p630
                        replace q630 := eq_true q630
                        go_wp2_with (first | ((with_reducible refine gate_callee (f := 83) rfl ?_); refine goesL_ (some 41) rfl rfl Tryd.func83 (by kernel_rfl) rfl #[.slice A1 l1.length c1, .int .i64 (rd ((rd_T37 l0 a2).f1) x8_2)] rfl (by (try simp only [List.map_toArray, List.map_cons, List.map_nil]); first | done | rfl | (simp only [List.length_drop, List.length_take]; rfl)) ?_; (with_reducible refine (spec_isIn.calls k2 _ _ l1 (rd ((rd_T37 l0 a2).f1) x8_2) false _ ?side1 ?side2 A17.out).mono ?_); (case side1 => repeat (first | exact (Kd.C_below HR1.out HB.out) | (with_reducible refine Kd.C_alloc ?_ _) | (with_reducible refine Kd.C_drewN ?_ _) | (with_reducible refine Kd.C_drew ?_))); (case side2 => exact HC1.out); rintro e w' ⟨rfl, ⟨nd, rfl⟩⟩; refine ⟨_, rfl, ?_⟩; have p632 : 0 ≤ (a2 : Int) := of_decide_eq_true (by first | (with_reducible assumption) | assumption); have q632 : a2 < (l0.length : Int) := of_decide_eq_true (by first | (with_reducible assumption) | assumption); obtain ⟨ad632, A632_1, c632_1, e632, hx632_0, hx632_1, hx632_2, hx632_3, hl632_1, hi632_1⟩ := at_T37 HR0.out a2 p632 q632; obtain rfl : ad628 = ad632 := (by injection e632); replace hx632_0 := (HB.out.cell (World.block_lt_of_cell? w _ hx632_0)).trans hx632_0; replace hx632_1 := (HB.out.cell (World.block_lt_of_cell? w _ hx632_1)).trans hx632_1; replace hx632_2 := (HB.out.cell (World.block_lt_of_cell? w _ hx632_2)).trans hx632_2; replace hx632_3 := (HB.out.cell (World.block_lt_of_cell? w _ hx632_3)).trans hx632_3; have HR632_1 := Aside0.mk hi632_1; have HC632_1 := Aside0.mk hl632_1; clear hi632_1 hl632_1; replace p632 := eq_true p632; replace q632 := eq_true q632; have ea_ := Option.some.inj (hx628_1.symm.trans hx632_1); injection ea_ with ea_ en_ ec_; subst ea_; subst ec_; clear en_; have p633 : 0 ≤ (x8_2 : Int) := of_decide_eq_true (by first | (with_reducible assumption) | assumption); have q633 : x8_2 < (((rd_T37 l0 a2).f1).length : Int) := of_decide_eq_true (by first | (with_reducible assumption) | assumption); obtain ⟨ad633, e633, hx633_0⟩ := Kd.at_int HR632_1.out x8_2 p633 q633; cases e633; replace hx633_0 := (HB.out.cell (World.block_lt_of_cell? w _ hx633_0)).trans hx633_0; replace p633 := eq_true p633; replace q633 := eq_true q633) | ((with_reducible refine gate_builtin (b := .append) (xs := #[.tmp 43, .tmp 52]) rfl ?_); (try (refine gate_guard (by rfl) ?_; dsimp only)); at_builtin; refine Kd.R_append (Kd.int .i64) (w0 := w) w.heap.size rfl (.tmp 43) (.tmp 52) 35 3 (.int .i64 0) 8 rfl Tryd.underlying35 info3 rfl (by decide) (by omega) u7 x7_2 (rd ((rd_T37 l0 a2).f1) x8_2) [.int .i64 (rd ((rd_T37 l0 a2).f1) x8_2)] (fun _ => True) (fun _ => False) rfl rfl ?aP (fun _ hk => hk.elim) ?aF ?aO ?aB ?aS ?aL ?_; (case aP => exact rfl); (case aB => exact (by repeat (first | (with_reducible first | exact HB.out | apply below_alloc | apply pw_below_drewN | apply below_drew1) | exact HB.out))); (case aF => exact (fun _ _ => trivial)); (case aO => exact (by (with_reducible repeat (first | apply Kd.R_alloc | apply Kd.R_drewN | apply Kd.R_drew)); exact HO_7.out)); (case aS => exact (below_size (by repeat (first | (with_reducible first | exact HB.out | apply below_alloc | apply pw_below_drewN | apply below_drew1) | exact HB.out)))); (case aL => have := LMc19.out; omega); intro v635 w20 ho hb hg hat; rw [← Ny634.out] at ho; have n0_ := Aside0.mk (hb); have n1_ := Aside0.mk (ho); clear HB; clear HO_7; have HB := n0_; have HO636 := n1_; clear n0_ n1_; clear ho hb hg hat))
                        go_roundg k2
                        case measure => have := HJ3.out; have := HK2.out; omega
                        case rel => exact ⟨(y634), (wrap64 (x8_2 + 1)), (by first | rfl | (simp; done) | (simp [*]; done)), H', ⟨by have := HJ3.out; have := HK2.out; omega⟩, ⟨by (with_reducible repeat (first | apply Kd.R_alloc | apply Kd.R_drewN | apply Kd.R_drew)); exact HO636.out⟩, ⟨by repeat (first | (with_reducible first | exact HB.out | apply below_alloc | apply pw_below_drewN | apply below_drew1) | exact HB.out)⟩⟩
                      · rw [if_neg c19] at H
                        exact absurd H (by simp)
                  · rw [if_neg c16] at H
                    exact absurd H (by simp)
                · rw [if_neg c15] at H
                  have c15b0 : decide (x8_2 < (((rd_T37 l0 a2).f1).length : Int)) = false := decide_eq_false c15
                  clear c15
                  obtain rfl := Option.some.inj H
                  have p628 : 0 ≤ (a2 : Int) := of_decide_eq_true (by first | (with_reducible assumption) | assumption)
                  have q628 : a2 < (l0.length : Int) := of_decide_eq_true (by first | (with_reducible assumption) | assumption)
                  obtain ⟨ad628, A628_1, c628_1, e628, hx628_0, hx628_1, hx628_2, hx628_3, hl628_1, hi628_1⟩ := at_T37 HR0.out a2 p628 q628
                  cases e628
                  replace hx628_0 := (HB.out.cell (World.block_lt_of_cell? w _ hx628_0)).trans hx628_0
                  replace hx628_1 := (HB.out.cell (World.block_lt_of_cell? w _ hx628_1)).trans hx628_1
                  replace hx628_2 := (HB.out.cell (World.block_lt_of_cell? w _ hx628_2)).trans hx628_2
                  replace hx628_3 := (HB.out.cell (World.block_lt_of_cell? w _ hx628_3)).trans hx628_3
                  have HR628_1 := Aside0.mk hi628_1
                  have HC628_1 := Aside0.mk hl628_1
                  clear hi628_1 hl628_1
                  replace p628 := eq_true p628
                  replace q628 := eq_true q628
                  go_wp2
                  go_ret
                  exact ⟨_, by first | rfl | (simp [errW_none, errW_some] <;> rfl) | (simp [*, errW_none, errW_some] <;> rfl), by (with_reducible repeat (first | apply Kd.R_alloc | apply Kd.R_drewN | apply Kd.R_drew)); exact HO_7.out, by repeat (first | (with_reducible first | exact HB.out | apply below_alloc | apply pw_below_drewN | apply below_drew1) | exact HB.out)⟩
              · rw [if_neg c14] at H
                exact absurd H (by simp)
            · rw [if_neg c13] at H
              exact absurd H (by simp)
end Go.Proofs.YtekajandipdlhaaDoor.P
end
section
namespace Go.Proofs.YtekajandipdlhaaDoor.P
open Go.RowKit Go.Proofs.YtekajandipdlhaaDoorW.PrintWords Go.Proofs.YtekajandipdlhaaDoorW.PrintLast Go.Proofs.YtekajandipdlhaaDoorW.PrintMore
attribute [local go_sem] max2_int min2_int max_two min_two max_three min_three max_four min_four   -- for this text's walks alone
set_option linter.unusedVariables false
set_option linter.unusedSimpArgs false
noncomputable def spec_DrawFinishTask.f (k : Nat) (l0 : List Int) : Option ((List (S37)) × List Int × Int) := (spec_newReader.f l0).bind fun bt603 => ((spec_anyGraph.f bt603.1 bt603.2).bind fun bt606 => ((spec_someDone.f k bt603.1 bt606.2 bt606.1).bind fun bt610 => ((spec_someAt.f k bt603.1 bt610.2 bt606.1).bind fun bt614 => (some (bt606.1, bt610.1, bt614.1)))))
theorem spec_DrawFinishTask.mono : ∀ a0 k, LeO (spec_DrawFinishTask.f k a0) (spec_DrawFinishTask.f (k + 1) a0) := by
  intro a0 k
  unfold spec_DrawFinishTask.f
  repeat' first
      | (with_reducible exact spec_someAt.mono _ _ _ _)
      | (with_reducible exact spec_someDone.mono _ _ _ _)
      | (with_reducible exact LeO.refl _)
      | (with_reducible exact LeO.none _)
      | (with_reducible refine LeO.ite ?_ ?_)
      | (with_reducible refine LeO.bind ?_ (fun _ => ?_))
      | exact spec_someAt.mono _ _ _ _
      | exact spec_someDone.mono _ _ _ _
      | exact LeO.none _
      | refine LeO.ite ?_ ?_
      | refine LeO.bind ?_ (fun _ => ?_)
set_option maxHeartbeats 8000000 in
set_option maxRecDepth 100000 in
theorem spec_DrawFinishTask.calls (k : Nat) (A0 : Option Addr) (c0 : Nat) (l0 : List Int) (r1 : List (S37)) (r2 : List Int) (r3 : Int) (w : World) (hr0 : Kd.C (Kd.int .u8) w A0 l0.length l0) (hc0 : l0.length ≤ c0) (h : spec_DrawFinishTask.f k l0 = some (r1, r2, r3)) :
    Calls Tryd.prog 44 #[.slice A0 l0.length c0] w fun e w' => ∃ v0_ v1_ : Value, e = .returned (.tuple #[v0_, v1_, .int .i64 r3]) ∧ Kd.S k37 37 w' w.heap.size (fun k_ => some k_ ≠ (v1_ : Value).ownBlock) v0_ r1 ∧ Kd.Q (Kd.int .i64) 3 w' w.heap.size (fun _ => True) v1_ r2 ∧ Below w.heap.size w w' := by
  have HR0 := Aside0.mk hr0
  have HC0 := Aside0.mk hc0
  clear hr0 hc0
  have HB := Aside0.mk (Below.refl w.heap.size w)
  have H : ((spec_newReader.f l0).bind fun bt603 => ((spec_anyGraph.f bt603.1 bt603.2).bind fun bt606 => ((spec_someDone.f k bt603.1 bt606.2 bt606.1).bind fun bt610 => ((spec_someAt.f k bt603.1 bt610.2 bt606.1).bind fun bt614 => (some (bt606.1, bt610.1, bt614.1)))))) = some (r1, r2, r3) := h
  clear h
  replace H := Option.bind_eq_some_iff.mp H
  obtain ⟨⟨t603, t604⟩, A20, H⟩ := H
  replace H : ((spec_anyGraph.f t603 t604).bind fun bt606 => ((spec_someDone.f k t603 bt606.2 bt606.1).bind fun bt610 => ((spec_someAt.f k t603 bt610.2 bt606.1).bind fun bt614 => (some (bt606.1, bt610.1, bt614.1))))) = some (r1, r2, r3) := H
  have A2 := Aside0.mk A20
  clear A20
  replace H := Option.bind_eq_some_iff.mp H
  obtain ⟨⟨t606, t609⟩, A30, H⟩ := H
  replace H : ((spec_someDone.f k t603 t609 t606).bind fun bt610 => ((spec_someAt.f k t603 bt610.2 t606).bind fun bt614 => (some (t606, bt610.1, bt614.1)))) = some (r1, r2, r3) := H
  have A3 := Aside0.mk A30
  clear A30
  replace H := Option.bind_eq_some_iff.mp H
  obtain ⟨⟨t610, t613⟩, A40, H⟩ := H
  replace H : ((spec_someAt.f k t603 t613 t606).bind fun bt614 => (some (t606, t610, bt614.1))) = some (r1, r2, r3) := H
  have A4 := Aside0.mk A40
  clear A40
  replace H := Option.bind_eq_some_iff.mp H
  obtain ⟨⟨t614, t615⟩, A50, H⟩ := H
  replace H : (some (t606, t610, t614)) = some (r1, r2, r3) := H
  have A5 := Aside0.mk A50
  clear A50
  simp only [Option.some.injEq, Prod.mk.injEq] at H
  obtain ⟨rfl, rfl, rfl⟩ := H
  go_enter Tryd.func44, Tryd.ntmps44
  go_wp2_with (first | ((with_reducible refine gate_callee (f := 68) rfl ?_); refine goesL_ (some 9) rfl rfl Tryd.func68 (by kernel_rfl) rfl #[.slice A0 l0.length c0] rfl (by (try simp only [List.map_toArray, List.map_cons, List.map_nil]); first | done | rfl | (simp only [List.length_drop, List.length_take]; rfl)) ?_; (with_reducible refine (spec_newReader.calls _ _ l0 t603 t604 w _ ?side1 ?side2 ?side3 A2.out).mono ?_); (case side1 => repeat (first | (with_reducible first | exact HB.out | apply below_alloc | apply pw_below_drewN | apply below_drew1) | exact HB.out)); (case side2 => exact HR0.out); (case side3 => exact HC0.out); rintro e w6 ⟨g605, rfl, hi, hb, hb2⟩; refine ⟨_, rfl, ?_⟩; have n0_ := Aside0.mk (hb); have n1_ := Aside0.mk (hi); clear HB; have HB := n0_; have HI605 := n1_; clear n0_ n1_; (try clear hb); (try clear hb2); (try clear hk); (try clear hi)) | ((with_reducible refine gate_callee (f := 67) rfl ?_); refine goesL_ (some 11) rfl rfl Tryd.func67 (by kernel_rfl) rfl #[.pointer (some ⟨g605, 0, none⟩)] rfl (by (try simp only [List.map_toArray, List.map_cons, List.map_nil]); first | done | rfl | (simp only [List.length_drop, List.length_take]; rfl)) ?_; (with_reducible refine (spec_anyGraph.calls g605 t603 t604 t606 t609 w _ ?side1 ?side2 A3.out).mono ?_); (case side1 => repeat (first | (with_reducible first | exact HI605.out | apply IsS101.alloc | apply IsS101.drewN | apply IsS101.drew | apply IsS101.set_1) | exact HI605.out)); (case side2 => repeat (first | (with_reducible first | exact HB.out | apply below_alloc | apply pw_below_drewN | apply below_drew1 | refine below_set ?_ (IsS101.ge HI605.out)) | exact HB.out)); rintro e w7 ⟨v607, rfl, ho0, hi, hb, hk⟩; refine ⟨_, rfl, ?_⟩; have n0_ := Aside0.mk (Kd.S_lower ho0 (below_size (by repeat (first | (with_reducible first | exact HB.out | apply below_alloc | apply pw_below_drewN | apply below_drew1 | refine below_set ?_ (IsS101.ge HI605.out)) | exact HB.out)))); have n1_ := Aside0.mk (hb); have n2_ := Aside0.mk (hi); clear HB; clear HI605; have HO608 := n0_; have HB := n1_; have HI605 := n2_; clear n0_ n1_ n2_; (try clear hb); (try clear hb2); (try clear hk); (try clear hi); (try clear ho0); obtain ⟨Ao8, co8, eo8⟩ := Kd.S_slice HO608.out; subst eo8) | ((with_reducible refine gate_callee (f := 84) rfl ?_); refine goesL_ (some 14) rfl rfl Tryd.func84 (by kernel_rfl) rfl #[.pointer (some ⟨g605, 0, none⟩), .slice Ao8 t606.length co8] rfl (by (try simp only [List.map_toArray, List.map_cons, List.map_nil]); first | done | rfl | (simp only [List.length_drop, List.length_take]; rfl)) ?_; (with_reducible refine (spec_someDone.calls k g605 t603 t609 _ _ t606 t610 t613 w _ ?side1 ?side2 ?side3 ?side4 A4.out).mono ?_); (case side1 => repeat (first | (with_reducible first | exact HI605.out | apply IsS101.alloc | apply IsS101.drewN | apply IsS101.drew | apply IsS101.set_1) | exact HI605.out)); (case side2 => repeat (first | (with_reducible first | exact HB.out | apply below_alloc | apply pw_below_drewN | apply below_drew1 | refine below_set ?_ (IsS101.ge HI605.out)) | exact HB.out)); (case side3 => exact Kd.C_foot_own ((Kd.S_R (IsS101.apartS (show IsS101 w _ g605 t603 t609 from by repeat (first | (with_reducible first | exact HI605.out | apply IsS101.alloc | apply IsS101.drewN | apply IsS101.drew | apply IsS101.set_1) | exact HI605.out)) (by (with_reducible repeat (first | apply Kd.S_alloc | apply Kd.S_drewN | apply Kd.S_drew)); exact HO608.out) (by decide)))) (fun _ h_ => h_.2)); (case side4 => exact (Kd.S_reads' HO608.out).2.1); rintro e w9 ⟨v611, rfl, ho0, hi, hb, hk⟩; refine ⟨_, rfl, ?_⟩; have n0_ := Aside0.mk (Kd.S_mono (Kd.S_told (Kd.S_oldK (IsS101.apartS (show IsS101 w _ g605 t603 t609 from by repeat (first | (with_reducible first | exact HI605.out | apply IsS101.alloc | apply IsS101.drewN | apply IsS101.drew | apply IsS101.set_1) | exact HI605.out)) (by (with_reducible repeat (first | apply Kd.S_alloc | apply Kd.S_drewN | apply Kd.S_drew)); exact HO608.out) (by decide)) hk) (Kd.Q_base ho0)) (fun _ h_ => h_.1)); have n1_ := Aside0.mk (Kd.Q_lower ho0 (below_size (by repeat (first | (with_reducible first | exact HB.out | apply below_alloc | apply pw_below_drewN | apply below_drew1 | refine below_set ?_ (IsS101.ge HI605.out)) | exact HB.out)))); have n2_ := Aside0.mk (hb); have n3_ := Aside0.mk (hi); clear HO608; clear HB; clear HI605; have HO608 := n0_; have HO612 := n1_; have HB := n2_; have HI605 := n3_; clear n0_ n1_ n2_ n3_; (try clear hb); (try clear hb2); (try clear hk); (try clear hi); (try clear ho0)) | ((with_reducible refine gate_callee (f := 85) rfl ?_); refine goesL_ (some 19) rfl rfl Tryd.func85 (by kernel_rfl) rfl #[.pointer (some ⟨g605, 0, none⟩), .slice Ao8 t606.length co8] rfl (by (try simp only [List.map_toArray, List.map_cons, List.map_nil]); first | done | rfl | (simp only [List.length_drop, List.length_take]; rfl)) ?_; (with_reducible refine (spec_someAt.calls k g605 t603 t613 _ _ t606 t614 t615 w _ ?side1 ?side2 ?side3 ?side4 A5.out).mono ?_); (case side1 => repeat (first | (with_reducible first | exact HI605.out | apply IsS101.alloc | apply IsS101.drewN | apply IsS101.drew | apply IsS101.set_1) | exact HI605.out)); (case side2 => repeat (first | (with_reducible first | exact HB.out | apply below_alloc | apply pw_below_drewN | apply below_drew1 | refine below_set ?_ (IsS101.ge HI605.out)) | exact HB.out)); (case side3 => exact Kd.C_foot_own ((Kd.S_R (IsS101.apartS (show IsS101 w _ g605 t603 t613 from by repeat (first | (with_reducible first | exact HI605.out | apply IsS101.alloc | apply IsS101.drewN | apply IsS101.drew | apply IsS101.set_1) | exact HI605.out)) (by (with_reducible repeat (first | apply Kd.S_alloc | apply Kd.S_drewN | apply Kd.S_drew)); exact HO608.out) (by decide)))) (fun _ h_ => h_.2)); (case side4 => exact (Kd.S_reads' HO608.out).2.1); rintro e w10 ⟨rfl, hi, hb, hk⟩; refine ⟨_, rfl, ?_⟩; have n0_ := Aside0.mk (Kd.S_mono (Kd.S_keep (IsS101.apartS (show IsS101 w _ g605 t603 t613 from by repeat (first | (with_reducible first | exact HI605.out | apply IsS101.alloc | apply IsS101.drewN | apply IsS101.drew | apply IsS101.set_1) | exact HI605.out)) (by (with_reducible repeat (first | apply Kd.S_alloc | apply Kd.S_drewN | apply Kd.S_drew)); exact HO608.out) (by decide)) hk (fun _ h => h.2)) (fun _ h => h.1)); have n1_ := Aside0.mk (Kd.Q_mono (Kd.Q_keep (IsS101.apartQ (show IsS101 w _ g605 t603 t613 from by repeat (first | (with_reducible first | exact HI605.out | apply IsS101.alloc | apply IsS101.drewN | apply IsS101.drew | apply IsS101.set_1) | exact HI605.out)) (by (with_reducible repeat (first | apply Kd.Q_alloc | apply Kd.Q_drewN | apply Kd.Q_drew)); exact HO612.out) (by decide)) hk (fun _ h => h.2)) (fun _ h => h.1)); have n2_ := Aside0.mk (hb); have n3_ := Aside0.mk (hi); clear HO608; clear HO612; clear HB; clear HI605; have HO608 := n0_; have HO612 := n1_; have HB := n2_; have HI605 := n3_; clear n0_ n1_ n2_ n3_; (try clear hb); (try clear hb2); (try clear hk); (try clear hi)))
  go_ret3
  exact ⟨_, _, by first | rfl | (simp [errW_none, errW_some] <;> rfl) | (simp [*, errW_none, errW_some] <;> rfl), by (with_reducible repeat (first | apply Kd.S_alloc | apply Kd.S_drewN | apply Kd.S_drew)); exact Kd.S_mono HO608.out (fun _ hk => hk.2), by (with_reducible repeat (first | apply Kd.Q_alloc | apply Kd.Q_drewN | apply Kd.Q_drew)); exact HO612.out, by repeat (first | (with_reducible first | exact HB.out | apply below_alloc | apply pw_below_drewN | apply below_drew1 | refine below_set ?_ (IsS101.ge HI605.out)) | exact HB.out)⟩
noncomputable def spec_DrawWaitsFor.f (k : Nat) (l0 : List Int) : Option ((List (S37)) × List Int × Int) := (spec_DrawFinishTask.f k l0).bind fun bt616 => (some (bt616.1, bt616.2.1, bt616.2.2))
theorem spec_DrawWaitsFor.mono : ∀ a0 k, LeO (spec_DrawWaitsFor.f k a0) (spec_DrawWaitsFor.f (k + 1) a0) := by
  intro a0 k
  unfold spec_DrawWaitsFor.f
  repeat' first
      | (with_reducible exact spec_DrawFinishTask.mono _ _)
      | (with_reducible exact LeO.refl _)
      | (with_reducible exact LeO.none _)
      | (with_reducible refine LeO.ite ?_ ?_)
      | (with_reducible refine LeO.bind ?_ (fun _ => ?_))
      | exact spec_DrawFinishTask.mono _ _
      | exact LeO.none _
      | refine LeO.ite ?_ ?_
      | refine LeO.bind ?_ (fun _ => ?_)
set_option maxHeartbeats 8000000 in
set_option maxRecDepth 100000 in
theorem spec_DrawWaitsFor.calls (k : Nat) (A0 : Option Addr) (c0 : Nat) (l0 : List Int) (r1 : List (S37)) (r2 : List Int) (r3 : Int) (w : World) (hr0 : Kd.C (Kd.int .u8) w A0 l0.length l0) (hc0 : l0.length ≤ c0) (h : spec_DrawWaitsFor.f k l0 = some (r1, r2, r3)) :
    Calls Tryd.prog 41 #[.slice A0 l0.length c0] w fun e w' => ∃ v0_ v1_ : Value, e = .returned (.tuple #[v0_, v1_, .int .i64 r3]) ∧ Kd.S k37 37 w' w.heap.size (fun k_ => some k_ ≠ (v1_ : Value).ownBlock) v0_ r1 ∧ Kd.Q (Kd.int .i64) 3 w' w.heap.size (fun _ => True) v1_ r2 ∧ Below w.heap.size w w' := by
  have HR0 := Aside0.mk hr0
  have HC0 := Aside0.mk hc0
  clear hr0 hc0
  have HB := Aside0.mk (Below.refl w.heap.size w)
  have H : ((spec_DrawFinishTask.f k l0).bind fun bt616 => (some (bt616.1, bt616.2.1, bt616.2.2))) = some (r1, r2, r3) := h
  clear h
  replace H := Option.bind_eq_some_iff.mp H
  obtain ⟨⟨t616, t617, t618⟩, A20, H⟩ := H
  replace H : (some (t616, t617, t618)) = some (r1, r2, r3) := H
  have A2 := Aside0.mk A20
  clear A20
  simp only [Option.some.injEq, Prod.mk.injEq] at H
  obtain ⟨rfl, rfl, rfl⟩ := H
  go_enter Tryd.func41, Tryd.ntmps41
  go_wp2_with (first | ((with_reducible refine gate_callee (f := 44) rfl ?_); refine goesL_ (some 6) rfl rfl Tryd.func44 (by kernel_rfl) rfl #[.slice A0 l0.length c0] rfl (by (try simp only [List.map_toArray, List.map_cons, List.map_nil]); first | done | rfl | (simp only [List.length_drop, List.length_take]; rfl)) ?_; (with_reducible refine (spec_DrawFinishTask.calls k _ _ l0 t616 t617 t618 _ ?side1 ?side2 A2.out).mono ?_); (case side1 => repeat (first | exact HR0.out | (with_reducible refine Kd.C_alloc ?_ _) | (with_reducible refine Kd.C_drewN ?_ _) | (with_reducible refine Kd.C_drew ?_))); (case side2 => exact HC0.out); rintro e w3 ⟨v619, v621, rfl, ho0, ho1, hb⟩; refine ⟨_, rfl, ?_⟩; have n0_ := Aside0.mk (Kd.S_lower ho0 (below_size (by repeat (first | (with_reducible first | exact HB.out | apply below_alloc | apply pw_below_drewN | apply below_drew1) | exact HB.out)))); have n1_ := Aside0.mk (Kd.Q_lower ho1 (below_size (by repeat (first | (with_reducible first | exact HB.out | apply below_alloc | apply pw_below_drewN | apply below_drew1) | exact HB.out)))); have n2_ := Aside0.mk (below_step (by repeat (first | (with_reducible first | exact HB.out | apply below_alloc | apply pw_below_drewN | apply below_drew1) | exact HB.out)) hb); clear HB; have HO620 := n0_; have HO622 := n1_; have HB := n2_; clear n0_ n1_ n2_; (try clear hb); (try clear hb2); (try clear hk); (try clear hi); (try clear ho0); (try clear ho1)))
  go_ret3
  exact ⟨_, _, by first | rfl | (simp [errW_none, errW_some] <;> rfl) | (simp [*, errW_none, errW_some] <;> rfl), by (with_reducible repeat (first | apply Kd.S_alloc | apply Kd.S_drewN | apply Kd.S_drew)); exact HO620.out, by (with_reducible repeat (first | apply Kd.Q_alloc | apply Kd.Q_drewN | apply Kd.Q_drew)); exact HO622.out, by repeat (first | (with_reducible first | exact HB.out | apply below_alloc | apply pw_below_drewN | apply below_drew1) | exact HB.out)⟩
end Go.Proofs.YtekajandipdlhaaDoor.P
end
section
set_option linter.unusedVariables false
set_option linter.unusedSimpArgs false
namespace Go.Proofs.YtekajandipdlhaaDoor.Core
open Go Go.RowKit Go.Proofs.YtekajandipdlhaaDoorW.PrintWords Go.Proofs.YtekajandipdlhaaDoorW.PrintMore Go.Proofs.YtekajandipdlhaaDoor.P
theorem VG.need_lt {g : List Tk} {G : GD} (v : VG g G) {i m : Nat} (h : (G.needs.getD i 0).testBit m = true) : m < g.length := by
  have h1 := getD_lt v.nb i
  have h2 := Nat.ge_two_pow_of_testBit h
  have h3 : 2 ^ m < 2 ^ g.length := Nat.lt_of_le_of_lt h2 h1
  exact (Nat.pow_lt_pow_iff_right (by omega)).1 h3
theorem VG.list {g : List Tk} {G : GD} (v : VG g G) {i : Nat} (hi : i < g.length) : (g.getD i z37).f1 = up (elemsN (G.needs.getD i 0)) := by
  have hg : g.getD i z37 ∈ g := by
    rw [List.getD_eq_getElem?_getD, List.getElem?_eq_getElem hi]
    exact List.getElem_mem hi
  have hf := (v.fine.1 _ hg).2
  refine asc_ext hf.2 (asc_elems _) (fun x => ?_)
  show _ ↔ x ∈ elems _
  rw [mem_elems]
  constructor
  · intro hx
    have hb := hf.1 x hx
    have h8 := v.n8
    refine ⟨x.toNat, by omega, by omega, ?_⟩
    rw [v.bits i hi, decide_eq_true_eq, show ((x.toNat : Nat) : Int) = x by omega]
    exact hx
  · rintro ⟨k, rfl, _, hk⟩
    rw [v.bits i hi, decide_eq_true_eq] at hk
    exact hk
end Go.Proofs.YtekajandipdlhaaDoor.Core
end
section
set_option linter.unusedVariables false
set_option linter.unusedSimpArgs false
namespace Go.Proofs.YtekajandipdlhaaDoor.Core
open Go Go.RowKit Go.Shelf Go.Proofs.YtekajandipdlhaaDoorW.PrintWords Go.Proofs.YtekajandipdlhaaDoorW.PrintMore Go.Proofs.YtekajandipdlhaaDoor.P
attribute [local go_sem] Oper.semAt_some wide_fn wide_depth
theorem graphOf_row (A0 : Option Addr) (c0 : Nat) (l0 : List Tk) (G : GD) (w : World) (hT : Tab w) (hr0 : k37.C w A0 l0.length l0) (hc0 : l0.length ≤ c0) (hg : graphD l0 = some G) :
    Calls Tryd.prog 60 #[.slice A0 l0.length c0] w fun e w' => ∃ (b : Nat) (v : Value), e = .returned (.tuple #[.pointer (some ⟨b, 0, none⟩), .bool true]) ∧ Below w.heap.size w w' ∧ w.heap.size ≤ b ∧ IsG w' b G ∧ w'.cell? ⟨b, 2, none⟩ = some v ∧ (Kd.int .i64).R 3 w' w.heap.size (fun _ => True) v (up G.order) :=
  (graphOf_calls A0 c0 l0 w hT hr0 hc0).mono fun e w' h => by
    unfold graphPost at h
    rw [hg] at h
    obtain ⟨b, v, h1, h2, h3, h4, h5, h6, _⟩ := h
    exact ⟨b, v, h1, h2, h3, h4, h5, h6⟩
theorem graphOf_some (A0 : Option Addr) (c0 : Nat) (l0 : List Tk) (G : GD) (w : World) (hT : Tab w) (hr0 : k37.C w A0 l0.length l0) (hc0 : l0.length ≤ c0) (hg : graphD l0 = some G) :
    Calls Tryd.prog 60 #[.slice A0 l0.length c0] w fun e w' => ∃ b : Nat, e = .returned (.tuple #[.pointer (some ⟨b, 0, none⟩), .bool true]) ∧ Below w.heap.size w w' ∧ IsG w' b G :=
  (graphOf_row A0 c0 l0 G w hT hr0 hc0 hg).mono fun e w' ⟨b, v, h1, h2, _, h3, _⟩ => ⟨b, h1, h2, h3⟩
end Go.Proofs.YtekajandipdlhaaDoor.Core
end
section
set_option linter.unusedVariables false
set_option linter.unusedSimpArgs false
namespace Go.Proofs.YtekajandipdlhaaDoor.P
open Go Go.RowKit Go.Shelf Go.Proofs.YtekajandipdlhaaDoorW.PrintWords Go.Proofs.YtekajandipdlhaaDoorW.PrintMore Go.Proofs.YtekajandipdlhaaDoor.Core
attribute [local go_sem] Oper.semAt_some wide_fn wide_depth
def impl_ValidGraph.f (l0 : List S37) : Option Bool := some (graphD l0).isSome
set_option maxRecDepth 100000 in
set_option maxHeartbeats 4000000 in
theorem impl_ValidGraph.calls (A0 : Option Addr) (c0 : Nat) (l0 : List S37) (r : Bool) (w : World) (hr0 : Kd.C k37 w A0 l0.length l0) (hc0 : l0.length ≤ c0) (hT : Tab w) (h : impl_ValidGraph.f l0 = some r) :
    Calls Tryd.prog 34 #[.slice A0 l0.length c0] w fun e w' => e = .returned (.bool r) ∧ Below w.heap.size w w' := by
  have hr : r = (graphD l0).isSome := (Option.some.inj h).symm
  subst hr
  clear h
  cases hg : graphD l0 with
  | none =>
    have HG := Aside0.mk (graphOf_none A0 c0 l0 w hT hr0 hc0 hg)
    clear hr0 hT hg
    go_enter Tryd.func34, Tryd.ntmps34
    go_wp2_with (go_at_call 60; refine HG.out.mono ?_; rintro e w' ⟨rfl, hB⟩)
    go_ret
    exact ⟨rfl, hB⟩
  | some G =>
    have HG := Aside0.mk (graphOf_some A0 c0 l0 G w hT hr0 hc0 hg)
    clear hr0 hT hg
    go_enter Tryd.func34, Tryd.ntmps34
    go_wp2_with (go_at_call 60; refine HG.out.mono ?_; rintro e w' ⟨b, rfl, hB, _⟩)
    go_ret
    exact ⟨rfl, hB⟩
end Go.Proofs.YtekajandipdlhaaDoor.P
end
section
set_option linter.unusedVariables false
set_option linter.unusedSimpArgs false
namespace Go.Proofs.YtekajandipdlhaaDoor.Core
open Go Go.RowKit Go.Proofs.YtekajandipdlhaaDoorW.PrintWords Go.Proofs.YtekajandipdlhaaDoorW.PrintMore Go.Proofs.YtekajandipdlhaaDoor.P
theorem elemsN_range' {s n : Nat} (hn : n ≤ 8) (hs : s < 2 ^ n) : elemsN s = (List.range n).filter (fun i => s.testBit i) := by
  have e8 : List.range 8 = List.range n ++ (List.range (8 - n)).map (n + ·) := by rw [← List.range_add]; congr 1; omega
  unfold elemsN
  rw [e8, List.filter_append]
  have e2 : ((List.range (8 - n)).map (n + ·)).filter (fun i => s.testBit i) = [] := by
    rw [List.filter_eq_nil_iff]
    intro y hy hb
    obtain ⟨z, _, rfl⟩ := List.mem_map.1 hy
    rw [Nat.testBit_lt_two_pow (Nat.lt_of_lt_of_le hs (Nat.pow_le_pow_right (by omega) (by omega)))] at hb
    cases hb
  rw [e2, List.append_nil]
theorem elemsN_full {n : Nat} (hn : n ≤ 8) : elemsN (2 ^ n - 1) = List.range n := by
  have hp : 2 ^ n - 1 < 2 ^ n := by have := Nat.two_pow_pos n; omega
  rw [elemsN_range' hn hp, List.filter_eq_self]
  intro i hi
  rw [Nat.testBit_two_pow_sub_one]
  simpa using hi
end Go.Proofs.YtekajandipdlhaaDoor.Core
end
section
set_option linter.unusedVariables false
set_option linter.unusedSimpArgs false
namespace Go.Proofs.YtekajandipdlhaaDoor.Core
open Go Go.RowKit Go.Proofs.YtekajandipdlhaaDoorW.PrintWords Go.Proofs.YtekajandipdlhaaDoorW.PrintMore Go.Proofs.YtekajandipdlhaaDoor.P
theorem ev_someAt {s0 : List Int} {N p : Int} (h : RS s0 N p) (hN : N + 100 < 100000) {g : List Tk} (h16 : g.length ≤ 16) : EvP (fun k => spec_someAt.f k s0 p g) (fun r => (-1 ≤ r.1 ∧ r.1 ≤ 16) ∧ RS s0 (N + 100) r.2) := by
  unfold spec_someAt.f
  refine (ev_pick h (by omega)).bind fun a ha => ?_
  refine EvP.ite (fun _ => ?_) (fun _ => ?_)
  · refine (ev_one ha.2.2 (by omega) _ (by simp)).bind fun b hb => EvP.ret ⟨?_, hb.2.mono (by omega) (by omega)⟩
    have := hb.1
    simp only [List.mem_cons, List.not_mem_nil, or_false] at this
    show -1 ≤ b.1 ∧ b.1 ≤ 16
    omega
  · refine (ev_pick ha.2.2 (by omega)).bind fun b hb => EvP.ret ⟨?_, hb.2.2.mono (by omega) (by omega)⟩
    have h1 : 1 ≤ mx 1 (g.length : Int) ∧ mx 1 (g.length : Int) ≤ 16 := by unfold mx; split <;> omega
    have := hb.2.1 h1.1
    show -1 ≤ b.1 ∧ b.1 ≤ 16
    omega
theorem ev_DrawFinishTask {l : List Int} (h : Bytes l) : EvP (fun k => spec_DrawFinishTask.f k l) (fun r => GSmall 16 10 r.1 ∧ r.2.1.length ≤ 9 ∧ -1 ≤ r.2.2 ∧ r.2.2 ≤ 16) := by
  unfold spec_DrawFinishTask.f
  refine (ev_newReader h).bind fun a ha => ?_
  refine (ev_anyGraph ha (by omega)).bind fun b hb => ?_
  refine (ev_someDone hb.2 (by omega) (hb.1.fits (by unfold big; omega) (by unfold big; omega)) hb.1.1).bind fun d hd => ?_
  refine (ev_someAt hd.2 (by omega) hb.1.1).bind fun e he => ?_
  exact EvP.ret ⟨hb.1, hd.1, he.1⟩
end Go.Proofs.YtekajandipdlhaaDoor.Core
end
section
set_option linter.unusedVariables false
set_option linter.unusedSimpArgs false
namespace Go.Proofs.YtekajandipdlhaaDoor.Core
open Go Go.RowKit Go.Proofs.YtekajandipdlhaaDoorW.PrintWords Go.Proofs.YtekajandipdlhaaDoorW.PrintMore Go.Proofs.YtekajandipdlhaaDoor.P
theorem ev_DrawWaitsFor {l : List Int} (h : Bytes l) : EvP (fun k => spec_DrawWaitsFor.f k l) (fun r => GSmall 16 10 r.1 ∧ r.2.1.length ≤ 9 ∧ -1 ≤ r.2.2 ∧ r.2.2 ≤ 16) := by
  unfold spec_DrawWaitsFor.f
  exact (ev_DrawFinishTask h).bind fun a ha => EvP.ret ha
end Go.Proofs.YtekajandipdlhaaDoor.Core
end
section
set_option linter.unusedVariables false
set_option linter.unusedSimpArgs false
namespace Go.Proofs.YtekajandipdlhaaDoor.Core
open Go Go.RowKit Go.Proofs.YtekajandipdlhaaDoor.P
def waitsD (g : List Tk) (done : List Int) (x : Int) : List Int := match doneD g done with
  | none => []
  | some (G, s) => if 0 ≤ x ∧ x ≤ (G.tasks.length : Int) - 1 then elems (sub (G.needs.getD x.toNat 0) s) else []
end Go.Proofs.YtekajandipdlhaaDoor.Core
namespace Go.Proofs.YtekajandipdlhaaDoor.P
open Go Go.RowKit Go.Shelf Go.Proofs.YtekajandipdlhaaDoorW.PrintWords Go.Proofs.YtekajandipdlhaaDoorW.PrintLast Go.Proofs.YtekajandipdlhaaDoorW.PrintMore Go.Proofs.YtekajandipdlhaaDoor.Core
attribute [local go_sem] Oper.semAt_some wide_fn wide_depth
def impl_WaitsFor.f (l0 : List S37) (l1 : List Int) (a2 : Int) : Option (List Int) := some (waitsD l0 l1 a2)
set_option maxRecDepth 100000 in
set_option maxHeartbeats 1000000 in
theorem impl_WaitsFor.calls (A0 : Option Addr) (c0 : Nat) (l0 : List S37) (A1 : Option Addr) (c1 : Nat) (l1 : List Int) (a2 : Int) (r : List Int) (w : World) (hr0 : Kd.C k37 w A0 l0.length l0) (hc0 : l0.length ≤ c0) (hr1 : Kd.C (Kd.int .i64) w A1 l1.length l1) (hc1 : l1.length ≤ c1) (hT : Tab w) (h : impl_WaitsFor.f l0 l1 a2 = some r) :
    Calls Tryd.prog 42 #[.slice A0 l0.length c0, .slice A1 l1.length c1, .int .i64 a2] w fun e w' => ∃ v0_ : Value, e = .returned v0_ ∧ Kd.R (Kd.int .i64) 3 w' w.heap.size (fun _ => True) v0_ r ∧ Below w.heap.size w w' := by
  have hr : waitsD l0 l1 a2 = r := Option.some.inj h
  clear h
  cases hg : doneD l0 l1 with
  | none =>
    obtain rfl : [] = r := by unfold waitsD at hr; rw [hg] at hr; exact hr
    have HG := Aside0.mk (doneIn_none A0 c0 l0 A1 c1 l1 w hT hr0 hc0 hr1 hc1 hg)
    clear hr0 hr1 hT hg hr
    go_enter Tryd.func42, Tryd.ntmps42
    go_wp2_with (go_at_call 80; refine HG.out.mono ?_; rintro e w1 ⟨rfl, hB⟩)
    go_ret
    exact ⟨_, rfl, Kd.R_nil _ _ _ _ _, hB⟩
  | some GS =>
    obtain ⟨G, s⟩ := GS
    have HG := Aside0.mk (doneIn_some A0 c0 l0 A1 c1 l1 G s w hT hr0 hc0 hr1 hc1 hg)
    obtain ⟨ok, hsl, hs8, hrl, hr8, -⟩ := done_facts hg
    have h8 := ok.n8
    have hnl := ok.nl
    have hcd : (if 0 ≤ a2 ∧ a2 ≤ (G.tasks.length : Int) - 1 then elems (sub (G.needs.getD a2.toNat 0) s) else []) = r := by unfold waitsD at hr; rw [hg] at hr; exact hr
    have HT := Aside0.mk hT
    have hv : G.needs.getD a2.toNat 0 < 256 := Nat.lt_of_lt_of_le (getD_lt ok.nb _) (pow8 h8)
    have hwi := fun W (t : Bool) (ht : decide (0 ≤ a2 ∧ a2 ≤ (G.tasks.length : Int) - 1) = t) => within_is a2 0 ((G.tasks.length : Int) - 1) t W ht
    clear hr0 hr1 hT hg hr ok hrl hr8 hsl
    have hw2 : wrap64 ((G.tasks.length : Int) - 1) = (G.tasks.length : Int) - 1 := w64 (by omega) (by omega)
    have hw1 : IntKind.i64.wrap ((G.tasks.length : Int) - 1) = (G.tasks.length : Int) - 1 := by rw [i64_w, w64 (by omega) (by omega)]
    by_cases hx : 0 ≤ a2 ∧ a2 ≤ (G.tasks.length : Int) - 1
    · have HW2 := Aside0.mk (fun W => hwi W true (decide_eq_true hx))
      rw [if_pos hx] at hcd
      have hq : a2 < (G.needs.length : Int) := by omega
      have HAT := Aside0.mk (fun (W : World) b (hg : IsG W b G) => (show ∃ (ad : Addr) (c : Nat), W.cell? ⟨b, 1, none⟩ = some (.slice (some ad) G.needs.length c) ∧ W.cell? (ad.add a2.toNat) = some (.int .u16 ((G.needs.getD a2.toNat 0 : Nat) : Int)) from by
        obtain ⟨A, c, h1, -, h2⟩ := hg.needs
        obtain ⟨ad, e0, h⟩ := Kd.at_int h2 a2 hx.1 hq
        subst e0
        rw [rd_up (i := a2.toNat) (by omega)] at h
        exact ⟨ad, c, h1, h⟩))
      have p0 := eq_true hx.1
      have q0 := eq_true hq
      generalize G.needs.getD a2.toNat 0 = n0 at hcd hv HAT
      have hand := andNot_eq hv hs8
      have hlt : sub n0 s < 256 := sub_lt hv
      generalize sub n0 s = s2 at hcd hand hlt
      subst hcd
      have HLT := Aside0.mk hlt
      clear hx hwi hq hv hlt hnl
      go_enter Tryd.func42, Tryd.ntmps42
      go_wp2_with (first | (go_at_call 80; refine HG.out.mono ?_; rintro e w1 ⟨b, rfl, hB, hgr⟩) | (go_at_call 78; refine (size_calls b G _ hgr).mono ?_; rintro e w' ⟨rfl, rfl⟩) | (go_at_call 81; refine (HW2.out _).mono ?_; rintro e w2 ⟨rfl, hB2⟩; replace hgr := hgr.move hB2; replace hB := below_step hB hB2; obtain ⟨adn, cn, hcn, hxn⟩ := HAT.out _ b hgr) | (go_at_call 71; refine (list_calls s2 HLT.out _ (HT.out.of hB)).mono ?_; rintro e w3 ⟨v, rfl, hR, hB3⟩))
      go_ret
      exact ⟨_, rfl, Kd.R_mono (Kd.R_lower hR hB.size) (fun _ _ => trivial), below_step hB hB3⟩
    · rw [if_neg hx] at hcd
      subst hcd
      have HW2 := Aside0.mk (fun W => hwi W false (decide_eq_false hx))
      clear hx hwi hv hnl
      go_enter Tryd.func42, Tryd.ntmps42
      go_wp2_with (first | (go_at_call 80; refine HG.out.mono ?_; rintro e w1 ⟨b, rfl, hB, hgr⟩) | (go_at_call 78; refine (size_calls b G _ hgr).mono ?_; rintro e w' ⟨rfl, rfl⟩) | (go_at_call 81; refine (HW2.out _).mono ?_; rintro e w2 ⟨rfl, hB2⟩; replace hB := below_step hB hB2))
      go_ret
      exact ⟨_, rfl, Kd.R_nil _ _ _ _ _, hB⟩
end Go.Proofs.YtekajandipdlhaaDoor.P
end
section
namespace Go.Proofs.YtekajandipdlhaaDoor.P
open Go.Proofs.YtekajandipdlhaaDoor.Core (Tab Tab.of)
open Go.RowKit Go.Proofs.YtekajandipdlhaaDoorW.PrintWords Go.Proofs.YtekajandipdlhaaDoorW.PrintLast Go.Proofs.YtekajandipdlhaaDoorW.PrintMore
attribute [local go_sem] max2_int min2_int max_two min_two max_three min_three max_four min_four   -- for this text's walks alone
set_option linter.unusedVariables false
set_option linter.unusedSimpArgs false
mutual
noncomputable def laws_FnWaitsForAll.j0 : Nat → List (S37) → List Int → Int → List Int → Bool → Option (Bool)
  | 0, _, _, _, _, _ => none
  | k + 1, x3, x4, x5, x6, x43 => if x43 = true then ((spec_WaitsFor.f k x3 x4 x5).bind fun t652 => ((laws_equalInts.f k x6 t652).bind fun t655 => (some t655))) else (laws_FnWaitsForAll.l0 k x3 x5 (([] : List Int)) 0)
noncomputable def laws_FnWaitsForAll.l0 : Nat → List (S37) → Int → List Int → Int → Option (Bool)
  | 0, _, _, _, _ => none
  | k + 1, x3, x5, x7, x8 => if x8 < (x3.length : Int) then (if x7.length < 17592186044416 then (laws_FnWaitsForAll.l0 k x3 x5 (x7 ++ [x8]) (wrap64 (x8 + 1))) else (none)) else ((impl_WaitsFor.f x3 ([] : List Int) x5).bind fun t662 => (if 0 ≤ x5 then (if x5 < (x3.length : Int) then ((laws_equalInts.f k t662 ((rd_T37 x3 x5).f1)).bind fun t666 => (if t666 = true then ((impl_WaitsFor.f x3 x7 x5).bind fun t667 => (some ((t667.length : Int) == 0))) else (some false))) else (none)) else (none)))
end
noncomputable def laws_FnWaitsForAll.f (k : Nat) (l0 : List Int) : Option (Bool) := if (l0.length : Int) > 1048576 then (some true) else ((spec_DrawWaitsFor.f k l0).bind fun bt637 => ((impl_WaitsFor.f bt637.1 bt637.2.1 bt637.2.2).bind fun t644 => ((spec_WaitsFor.f k bt637.1 bt637.2.1 bt637.2.2).bind fun t647 => ((laws_equalInts.f k t644 t647).bind fun t650 => (if t650 = true then ((impl_ValidGraph.f bt637.1).bind fun t651 => (if t651 = true then (if bt637.2.2 < 0 then (laws_FnWaitsForAll.j0 k bt637.1 bt637.2.1 bt637.2.2 t644 true) else (laws_FnWaitsForAll.j0 k bt637.1 bt637.2.1 bt637.2.2 t644 (decide (bt637.2.2 ≥ (bt637.1.length : Int))))) else (laws_FnWaitsForAll.j0 k bt637.1 bt637.2.1 bt637.2.2 t644 true))) else (laws_FnWaitsForAll.j0 k bt637.1 bt637.2.1 bt637.2.2 t644 true))))))
theorem laws_FnWaitsForAll.mono_l : ∀ k, (∀ y0 y1 y2 y3 y4, LeO (laws_FnWaitsForAll.j0 k y0 y1 y2 y3 y4) (laws_FnWaitsForAll.j0 (k + 1) y0 y1 y2 y3 y4)) ∧ (∀ y0 y1 y2 y3, LeO (laws_FnWaitsForAll.l0 k y0 y1 y2 y3) (laws_FnWaitsForAll.l0 (k + 1) y0 y1 y2 y3))
  | 0 => ⟨fun _ _ _ _ _ r h => by simp [laws_FnWaitsForAll.j0] at h, fun _ _ _ _ r h => by simp [laws_FnWaitsForAll.l0] at h⟩
  | k + 1 => by
    obtain ⟨ih0, ih1⟩ := laws_FnWaitsForAll.mono_l k
    refine ⟨?_, ?_⟩
    · intro y0 y1 y2 y3 y4
      unfold laws_FnWaitsForAll.j0
      repeat' first
      | (with_reducible exact ih0 _ _ _ _ _)
      | (with_reducible exact ih1 _ _ _ _)
      | (with_reducible exact laws_equalInts.mono _ _ _)
      | (with_reducible exact spec_DrawWaitsFor.mono _ _)
      | (with_reducible exact spec_WaitsFor.mono _ _ _ _)
      | (with_reducible exact LeO.refl _)
      | (with_reducible exact LeO.none _)
      | (with_reducible refine LeO.ite ?_ ?_)
      | (with_reducible refine LeO.bind ?_ (fun _ => ?_))
      | exact ih0 _ _ _ _ _
      | exact ih1 _ _ _ _
      | exact laws_equalInts.mono _ _ _
      | exact spec_DrawWaitsFor.mono _ _
      | exact spec_WaitsFor.mono _ _ _ _
      | exact LeO.none _
      | refine LeO.ite ?_ ?_
      | refine LeO.bind ?_ (fun _ => ?_)
    · intro y0 y1 y2 y3
      unfold laws_FnWaitsForAll.l0
      repeat' first
      | (with_reducible exact ih0 _ _ _ _ _)
      | (with_reducible exact ih1 _ _ _ _)
      | (with_reducible exact laws_equalInts.mono _ _ _)
      | (with_reducible exact spec_DrawWaitsFor.mono _ _)
      | (with_reducible exact spec_WaitsFor.mono _ _ _ _)
      | (with_reducible exact LeO.refl _)
      | (with_reducible exact LeO.none _)
      | (with_reducible refine LeO.ite ?_ ?_)
      | (with_reducible refine LeO.bind ?_ (fun _ => ?_))
      | exact ih0 _ _ _ _ _
      | exact ih1 _ _ _ _
      | exact laws_equalInts.mono _ _ _
      | exact spec_DrawWaitsFor.mono _ _
      | exact spec_WaitsFor.mono _ _ _ _
      | exact LeO.none _
      | refine LeO.ite ?_ ?_
      | refine LeO.bind ?_ (fun _ => ?_)
theorem laws_FnWaitsForAll.mono : ∀ a0 k, LeO (laws_FnWaitsForAll.f k a0) (laws_FnWaitsForAll.f (k + 1) a0) := by
  intro a0 k
  obtain ⟨ih0, ih1⟩ := laws_FnWaitsForAll.mono_l k
  unfold laws_FnWaitsForAll.f
  repeat' first
      | (with_reducible exact ih0 _ _ _ _ _)
      | (with_reducible exact ih1 _ _ _ _)
      | (with_reducible exact laws_equalInts.mono _ _ _)
      | (with_reducible exact spec_DrawWaitsFor.mono _ _)
      | (with_reducible exact spec_WaitsFor.mono _ _ _ _)
      | (with_reducible exact LeO.refl _)
      | (with_reducible exact LeO.none _)
      | (with_reducible refine LeO.ite ?_ ?_)
      | (with_reducible refine LeO.bind ?_ (fun _ => ?_))
      | exact ih0 _ _ _ _ _
      | exact ih1 _ _ _ _
      | exact laws_equalInts.mono _ _ _
      | exact spec_DrawWaitsFor.mono _ _
      | exact spec_WaitsFor.mono _ _ _ _
      | exact LeO.none _
      | refine LeO.ite ?_ ?_
      | refine LeO.bind ?_ (fun _ => ?_)
noncomputable def laws_FnWaitsForAll.T12 : Bool × List (List Nat × List Nat) := (true, [([], []), ([], []), ([0, 1], [0, 1]), ([], []), ([], []), ([3, 4], [3, 4]), ([5], [5]), ([6], [6]), ([2, 7, 2], [2, 7]), ([8, 8], [8]), ([9], [9]), ([9], [9]), ([9], [9]), ([10, 11, 12, 9, 9], [9, 10, 11, 12]), ([13, 9], [9, 13]), ([14, 9], [9, 14]), ([9, 15], [9, 15]), ([16, 13, 0, 1, 2, 3, 4, 5, 6, 7, 8, 9, 10, 11, 12, 13, 14, 15, 16], [16])])
noncomputable def laws_FnWaitsForAll.B12 : List Nat := [0, 0, 3, 0, 0, 24, 56, 120, 255, 511, 1023, 1023, 1023, 8191, 16383, 32767, 65535, 131071]
theorem laws_FnWaitsForAll.tab12 : rtab .any (opsOf Tryd.f9 12) = laws_FnWaitsForAll.T12 := by kernel_rfl
theorem laws_FnWaitsForAll.bits12 : waitsOk laws_FnWaitsForAll.T12.2 laws_FnWaitsForAll.B12 = true := by kernel_rfl
set_option maxHeartbeats 8000000 in
set_option maxRecDepth 100000 in
theorem laws_FnWaitsForAll.calls (k : Nat) (A0 : Option Addr) (c0 : Nat) (l0 : List Int) (r : Bool) (w : World) (hr0 : Kd.C (Kd.int .u8) w A0 l0.length l0) (hc0 : l0.length ≤ c0) (hT : Tab w) (h : laws_FnWaitsForAll.f k l0 = some r) :
    Calls Tryd.prog 9 #[.slice A0 l0.length c0] w fun e w' => e = .returned (.bool r) ∧ Below w.heap.size w w' := by
  have HT := Aside0.mk hT
  clear hT
  have HR0 := Aside0.mk hr0
  have HC0 := Aside0.mk hc0
  clear hr0 hc0
  have HB := Aside0.mk (Below.refl w.heap.size w)
  have H : (if (l0.length : Int) > 1048576 then (some true) else ((spec_DrawWaitsFor.f k l0).bind fun bt637 => ((impl_WaitsFor.f bt637.1 bt637.2.1 bt637.2.2).bind fun t644 => ((spec_WaitsFor.f k bt637.1 bt637.2.1 bt637.2.2).bind fun t647 => ((laws_equalInts.f k t644 t647).bind fun t650 => (if t650 = true then ((impl_ValidGraph.f bt637.1).bind fun t651 => (if t651 = true then (if bt637.2.2 < 0 then (laws_FnWaitsForAll.j0 k bt637.1 bt637.2.1 bt637.2.2 t644 true) else (laws_FnWaitsForAll.j0 k bt637.1 bt637.2.1 bt637.2.2 t644 (decide (bt637.2.2 ≥ (bt637.1.length : Int))))) else (laws_FnWaitsForAll.j0 k bt637.1 bt637.2.1 bt637.2.2 t644 true))) else (laws_FnWaitsForAll.j0 k bt637.1 bt637.2.1 bt637.2.2 t644 true))))))) = some r := h
  clear h
  by_cases c2 : (l0.length : Int) > 1048576
  · rw [if_pos c2] at H
    have c2b0 : decide (1048576 < (l0.length : Int)) = true := decide_eq_true c2
    have c2b1 : decide (1048576 < l0.length) = true := decide_eq_true (by omega)
    clear c2
    obtain rfl := Option.some.inj H
    go_enter Tryd.func9, Tryd.ntmps9
    go_wp2
    go_ret
    exact ⟨by first | rfl | (simp [errW_none, errW_some] <;> rfl) | (simp [*, errW_none, errW_some] <;> rfl), by repeat (first | (with_reducible first | exact HB.out | apply below_alloc | apply pw_below_drewN | apply below_drew1) | exact HB.out)⟩
  · rw [if_neg c2] at H
    have c2b0 : decide (1048576 < (l0.length : Int)) = false := decide_eq_false c2
    have c2b1 : decide (1048576 < l0.length) = false := decide_eq_false (by omega)
    clear c2
    replace H := Option.bind_eq_some_iff.mp H
    obtain ⟨⟨t637, t638, t639⟩, A30, H⟩ := H
    replace H : ((impl_WaitsFor.f t637 t638 t639).bind fun t644 => ((spec_WaitsFor.f k t637 t638 t639).bind fun t647 => ((laws_equalInts.f k t644 t647).bind fun t650 => (if t650 = true then ((impl_ValidGraph.f t637).bind fun t651 => (if t651 = true then (if t639 < 0 then (laws_FnWaitsForAll.j0 k t637 t638 t639 t644 true) else (laws_FnWaitsForAll.j0 k t637 t638 t639 t644 (decide (t639 ≥ (t637.length : Int))))) else (laws_FnWaitsForAll.j0 k t637 t638 t639 t644 true))) else (laws_FnWaitsForAll.j0 k t637 t638 t639 t644 true))))) = some r := H
    have A3 := Aside0.mk A30
    clear A30
    replace H := Option.bind_eq_some_iff.mp H
    obtain ⟨t644, A40, H⟩ := H
    replace H : ((spec_WaitsFor.f k t637 t638 t639).bind fun t647 => ((laws_equalInts.f k t644 t647).bind fun t650 => (if t650 = true then ((impl_ValidGraph.f t637).bind fun t651 => (if t651 = true then (if t639 < 0 then (laws_FnWaitsForAll.j0 k t637 t638 t639 t644 true) else (laws_FnWaitsForAll.j0 k t637 t638 t639 t644 (decide (t639 ≥ (t637.length : Int))))) else (laws_FnWaitsForAll.j0 k t637 t638 t639 t644 true))) else (laws_FnWaitsForAll.j0 k t637 t638 t639 t644 true)))) = some r := H
    have A4 := Aside0.mk A40
    clear A40
    have HC5 := Aside0.mk H
    clear H
    go_enter Tryd.func9, Tryd.ntmps9
    go_upto_region 5 with (first | ((with_reducible refine gate_callee (f := 41) rfl ?_); refine goesL_ (some 14) rfl rfl Tryd.func41 (by kernel_rfl) rfl #[.slice A0 l0.length c0] rfl (by (try simp only [List.map_toArray, List.map_cons, List.map_nil]); first | done | rfl | (simp only [List.length_drop, List.length_take]; rfl)) ?_; (with_reducible refine (spec_DrawWaitsFor.calls k _ _ l0 t637 t638 t639 _ ?side1 ?side2 A3.out).mono ?_); (case side1 => repeat (first | exact HR0.out | (with_reducible refine Kd.C_alloc ?_ _) | (with_reducible refine Kd.C_drewN ?_ _) | (with_reducible refine Kd.C_drew ?_))); (case side2 => exact HC0.out); rintro e w6 ⟨v640, v642, rfl, ho0, ho1, hb⟩; refine ⟨_, rfl, ?_⟩; have n0_ := Aside0.mk (Kd.S_lower ho0 (below_size (by repeat (first | (with_reducible first | exact HB.out | apply below_alloc | apply pw_below_drewN | apply below_drew1) | exact HB.out)))); have n1_ := Aside0.mk (Kd.Q_lower ho1 (below_size (by repeat (first | (with_reducible first | exact HB.out | apply below_alloc | apply pw_below_drewN | apply below_drew1) | exact HB.out)))); have n2_ := Aside0.mk (below_step (by repeat (first | (with_reducible first | exact HB.out | apply below_alloc | apply pw_below_drewN | apply below_drew1) | exact HB.out)) hb); clear HB; have HO641 := n0_; have HO643 := n1_; have HB := n2_; clear n0_ n1_ n2_; (try clear hb); (try clear hb2); (try clear hk); (try clear hi); (try clear ho0); (try clear ho1); obtain ⟨Ao7, co7, eo7⟩ := Kd.S_slice HO641.out; subst eo7; obtain ⟨Ao8, co8, eo8, _⟩ := Kd.Q_slice HO643.out; subst eo8) | ((with_reducible refine gate_callee (f := 42) rfl ?_); refine goesL_ (some 21) rfl rfl Tryd.func42 (by kernel_rfl) rfl #[.slice Ao7 t637.length co7, .slice Ao8 t638.length co8, .int .i64 t639] rfl (by (try simp only [List.map_toArray, List.map_cons, List.map_nil]); first | done | rfl | (simp only [List.length_drop, List.length_take]; rfl)) ?_; (with_reducible refine (impl_WaitsFor.calls _ _ t637 _ _ t638 t639 t644 _ ?side1 ?side2 ?side3 ?side4 ?side5 A4.out).mono ?_); (case side1 => repeat (first | exact (Kd.S_reads' HO641.out).2.2 | (with_reducible refine Kd.C_alloc ?_ _) | (with_reducible refine Kd.C_drewN ?_ _) | (with_reducible refine Kd.C_drew ?_))); (case side2 => exact (Kd.S_reads' HO641.out).2.1); (case side3 => repeat (first | exact (Kd.Q_reads' HO643.out).2.2 | (with_reducible refine Kd.C_alloc ?_ _) | (with_reducible refine Kd.C_drewN ?_ _) | (with_reducible refine Kd.C_drew ?_))); (case side4 => exact (Kd.Q_reads' HO643.out).2.1); (case side5 => exact Tab.of HT.out (by repeat (first | (with_reducible first | exact HB.out | apply below_alloc | apply pw_below_drewN | apply below_drew1) | exact HB.out))); rintro e w9 ⟨v645, rfl, ho0, hb⟩; refine ⟨_, rfl, ?_⟩; have n0_ := Aside0.mk (Kd.S_elder' (by (with_reducible repeat (first | apply Kd.S_alloc | apply Kd.S_drewN | apply Kd.S_drew)); exact HO641.out) (Kd.R_base ho0) hb); have n1_ := Aside0.mk (Kd.Q_elder' (by (with_reducible repeat (first | apply Kd.Q_alloc | apply Kd.Q_drewN | apply Kd.Q_drew)); exact HO643.out) (Kd.R_base ho0) hb); have n2_ := Aside0.mk (Kd.R_lower (Kd.R_new' ho0 (Kd.Q_lt (by (with_reducible repeat (first | apply Kd.Q_alloc | apply Kd.Q_drewN | apply Kd.Q_drew)); exact HO643.out))) (below_size (by repeat (first | (with_reducible first | exact HB.out | apply below_alloc | apply pw_below_drewN | apply below_drew1) | exact HB.out)))); have n3_ := Aside0.mk (below_step (by repeat (first | (with_reducible first | exact HB.out | apply below_alloc | apply pw_below_drewN | apply below_drew1) | exact HB.out)) hb); clear HO641; clear HO643; clear HB; have HO641 := n0_; have HO643 := n1_; have HO646 := n2_; have HB := n3_; clear n0_ n1_ n2_ n3_; (try clear hb); (try clear hb2); (try clear hk); (try clear hi); (try clear ho0)))
    (try simp only [Act.put, List.setIfInBounds_toArray, List.set_cons_zero, List.set_cons_succ])
    go_cut [43] (fun v43 wc => ∃ (kq : Nat) (x43_4 : Bool), v43 = .bool x43_4 ∧ Aside0 (laws_FnWaitsForAll.j0 kq t637 t638 t639 t644 x43_4 = some r) ∧ Aside0 (kq ≤ k) ∧ Aside0 (Kd.S k37 37 wc w.heap.size (fun k_ => some k_ ≠ ((.slice Ao8 t638.length co8) : Value).ownBlock ∧ some k_ ≠ (v645 : Value).ownBlock) (.slice Ao7 t637.length co7) t637) ∧ Aside0 (Kd.Q (Kd.int .i64) 3 wc w.heap.size (fun k_ => some k_ ≠ (v645 : Value).ownBlock) (.slice Ao8 t638.length co8) t638) ∧ Aside0 (Kd.R (Kd.int .i64) 3 wc w.heap.size (fun k_ => some k_ ≠ ((.slice Ao8 t638.length co8) : Value).ownBlock) v645 t644) ∧ Aside0 (Below w.heap.size w wc))
    case first =>
      have H := HC5.out
      clear HC5
      replace H := Option.bind_eq_some_iff.mp H
      obtain ⟨t647, A100, H⟩ := H
      replace H : ((laws_equalInts.f k t644 t647).bind fun t650 => (if t650 = true then ((impl_ValidGraph.f t637).bind fun t651 => (if t651 = true then (if t639 < 0 then (laws_FnWaitsForAll.j0 k t637 t638 t639 t644 true) else (laws_FnWaitsForAll.j0 k t637 t638 t639 t644 (decide (t639 ≥ (t637.length : Int))))) else (laws_FnWaitsForAll.j0 k t637 t638 t639 t644 true))) else (laws_FnWaitsForAll.j0 k t637 t638 t639 t644 true))) = some r := H
      have A10 := Aside0.mk A100
      clear A100
      replace H := Option.bind_eq_some_iff.mp H
      obtain ⟨t650, A110, H⟩ := H
      replace H : (if t650 = true then ((impl_ValidGraph.f t637).bind fun t651 => (if t651 = true then (if t639 < 0 then (laws_FnWaitsForAll.j0 k t637 t638 t639 t644 true) else (laws_FnWaitsForAll.j0 k t637 t638 t639 t644 (decide (t639 ≥ (t637.length : Int))))) else (laws_FnWaitsForAll.j0 k t637 t638 t639 t644 true))) else (laws_FnWaitsForAll.j0 k t637 t638 t639 t644 true)) = some r := H
      have A11 := Aside0.mk A110
      clear A110
      by_cases c12 : t650 = true
      · subst c12
        have H1 : ((impl_ValidGraph.f t637).bind fun t651 => (if t651 = true then (if t639 < 0 then (laws_FnWaitsForAll.j0 k t637 t638 t639 t644 true) else (laws_FnWaitsForAll.j0 k t637 t638 t639 t644 (decide (t639 ≥ (t637.length : Int))))) else (laws_FnWaitsForAll.j0 k t637 t638 t639 t644 true))) = some r := by rw [if_pos rfl] at H; exact H
        clear H
        have H := H1
        clear H1
        replace H := Option.bind_eq_some_iff.mp H
        obtain ⟨t651, A130, H⟩ := H
        replace H : (if t651 = true then (if t639 < 0 then (laws_FnWaitsForAll.j0 k t637 t638 t639 t644 true) else (laws_FnWaitsForAll.j0 k t637 t638 t639 t644 (decide (t639 ≥ (t637.length : Int))))) else (laws_FnWaitsForAll.j0 k t637 t638 t639 t644 true)) = some r := H
        have A13 := Aside0.mk A130
        clear A130
        by_cases c14 : t651 = true
        · subst c14
          have H1 : (if t639 < 0 then (laws_FnWaitsForAll.j0 k t637 t638 t639 t644 true) else (laws_FnWaitsForAll.j0 k t637 t638 t639 t644 (decide (t639 ≥ (t637.length : Int))))) = some r := by rw [if_pos rfl] at H; exact H
          clear H
          have H := H1
          clear H1
          by_cases c15 : t639 < 0
          · rw [if_pos c15] at H
            have c15b0 : decide (t639 < 0) = true := decide_eq_true c15
            clear c15
            (first | rw [c15b0] | (simp only [i64_w, i32_w]; rw [c15b0]) | skip)
            have H' := Aside0.mk H
            clear H
            go_wp2_with (first | ((with_reducible refine gate_callee (f := 43) rfl ?_); refine goesL_ (some 26) rfl rfl Tryd.func43 (by kernel_rfl) rfl #[.slice Ao7 t637.length co7, .slice Ao8 t638.length co8, .int .i64 t639] rfl (by (try simp only [List.map_toArray, List.map_cons, List.map_nil]); first | done | rfl | (simp only [List.length_drop, List.length_take]; rfl)) ?_; (with_reducible refine (spec_WaitsFor.calls k _ _ t637 _ _ t638 t639 t647 _ ?side1 ?side2 ?side3 ?side4 A10.out).mono ?_); (case side1 => repeat (first | exact (Kd.S_reads' HO641.out).2.2 | (with_reducible refine Kd.C_alloc ?_ _) | (with_reducible refine Kd.C_drewN ?_ _) | (with_reducible refine Kd.C_drew ?_))); (case side2 => exact (Kd.S_reads' HO641.out).2.1); (case side3 => repeat (first | exact (Kd.Q_reads' HO643.out).2.2 | (with_reducible refine Kd.C_alloc ?_ _) | (with_reducible refine Kd.C_drewN ?_ _) | (with_reducible refine Kd.C_drew ?_))); (case side4 => exact (Kd.Q_reads' HO643.out).2.1); rintro e w16 ⟨v648, rfl, ho0, hb⟩; refine ⟨_, rfl, ?_⟩; have n0_ := Aside0.mk (Kd.S_elder' (by (with_reducible repeat (first | apply Kd.S_alloc | apply Kd.S_drewN | apply Kd.S_drew)); exact HO641.out) (Kd.R_base ho0) hb); have n1_ := Aside0.mk (Kd.Q_elder' (by (with_reducible repeat (first | apply Kd.Q_alloc | apply Kd.Q_drewN | apply Kd.Q_drew)); exact HO643.out) (Kd.R_base ho0) hb); have n2_ := Aside0.mk (Kd.R_elder' (by (with_reducible repeat (first | apply Kd.R_alloc | apply Kd.R_drewN | apply Kd.R_drew)); exact HO646.out) (Kd.R_base ho0) hb); have n3_ := Aside0.mk (Kd.R_lower (Kd.R_new' (Kd.R_new' ho0 (Kd.Q_lt (by (with_reducible repeat (first | apply Kd.Q_alloc | apply Kd.Q_drewN | apply Kd.Q_drew)); exact HO643.out))) (Kd.R_lt (by (with_reducible repeat (first | apply Kd.R_alloc | apply Kd.R_drewN | apply Kd.R_drew)); exact HO646.out))) (below_size (by repeat (first | (with_reducible first | exact HB.out | apply below_alloc | apply pw_below_drewN | apply below_drew1) | exact HB.out)))); have n4_ := Aside0.mk (below_step (by repeat (first | (with_reducible first | exact HB.out | apply below_alloc | apply pw_below_drewN | apply below_drew1) | exact HB.out)) hb); clear HO641; clear HO643; clear HO646; clear HB; have HO641 := n0_; have HO643 := n1_; have HO646 := n2_; have HO649 := n3_; have HB := n4_; clear n0_ n1_ n2_ n3_ n4_; (try clear hb); (try clear hb2); (try clear hk); (try clear hi); (try clear ho0); obtain ⟨Ao17, co17, eo17⟩ := Kd.R_slice HO646.out; subst eo17; obtain ⟨Ao18, co18, eo18⟩ := Kd.R_slice HO649.out; subst eo18) | ((with_reducible refine gate_callee (f := 33) rfl ?_); refine goesL_ (some 27) rfl rfl Tryd.func33 (by kernel_rfl) rfl #[.slice Ao17 t644.length co17, .slice Ao18 t647.length co18] rfl (by (try simp only [List.map_toArray, List.map_cons, List.map_nil]); first | done | rfl | (simp only [List.length_drop, List.length_take]; rfl)) ?_; (with_reducible refine (laws_equalInts.calls k _ _ t644 _ _ t647 true _ ?side1 ?side2 ?side3 ?side4 A11.out).mono ?_); (case side1 => repeat (first | exact (Kd.R_reads' HO646.out).2.2 | (with_reducible refine Kd.C_alloc ?_ _) | (with_reducible refine Kd.C_drewN ?_ _) | (with_reducible refine Kd.C_drew ?_))); (case side2 => exact (Kd.R_reads' HO646.out).2.1); (case side3 => repeat (first | exact (Kd.R_reads' HO649.out).2.2 | (with_reducible refine Kd.C_alloc ?_ _) | (with_reducible refine Kd.C_drewN ?_ _) | (with_reducible refine Kd.C_drew ?_))); (case side4 => exact (Kd.R_reads' HO649.out).2.1); rintro e w' ⟨rfl, ⟨nd, rfl⟩⟩; refine ⟨_, rfl, ?_⟩) | (go_at_call 34; (with_reducible refine (impl_ValidGraph.calls _ _ t637 true _ ?side1 ?side2 ?side3 A13.out).mono ?_); (case side1 => repeat (first | exact (Kd.S_reads' HO641.out).2.2 | (with_reducible refine Kd.C_alloc ?_ _) | (with_reducible refine Kd.C_drewN ?_ _) | (with_reducible refine Kd.C_drew ?_))); (case side2 => exact (Kd.S_reads' HO641.out).2.1); (case side3 => exact Tab.of HT.out (by repeat (first | (with_reducible first | exact HB.out | apply below_alloc | apply pw_below_drewN | apply below_drew1) | exact HB.out))); rintro e w19 ⟨rfl, hb⟩; have n0_ := Aside0.mk (Kd.S_below (by (with_reducible repeat (first | apply Kd.S_alloc | apply Kd.S_drewN | apply Kd.S_drew)); exact HO641.out) hb); have n1_ := Aside0.mk (Kd.Q_below (by (with_reducible repeat (first | apply Kd.Q_alloc | apply Kd.Q_drewN | apply Kd.Q_drew)); exact HO643.out) hb); have n2_ := Aside0.mk (Kd.R_below (by (with_reducible repeat (first | apply Kd.R_alloc | apply Kd.R_drewN | apply Kd.R_drew)); exact HO646.out) hb); have n3_ := Aside0.mk (Kd.R_below (by (with_reducible repeat (first | apply Kd.R_alloc | apply Kd.R_drewN | apply Kd.R_drew)); exact HO649.out) hb); have n4_ := Aside0.mk (below_step (by repeat (first | (with_reducible first | exact HB.out | apply below_alloc | apply pw_below_drewN | apply below_drew1) | exact HB.out)) hb); clear HO641; clear HO643; clear HO646; clear HO649; clear HB; have HO641 := n0_; have HO643 := n1_; have HO646 := n2_; have HO649 := n3_; have HB := n4_; clear n0_ n1_ n2_ n3_ n4_; (try clear hb); (try clear hb2); (try clear hk); (try clear hi)))
            go_meet
            case rel => exact ⟨_, (true), (by first | rfl | (simp; done) | (simp [*]; done)), H', ⟨by first | omega | exact Nat.le_refl _⟩, ⟨by (with_reducible repeat (first | apply Kd.S_alloc | apply Kd.S_drewN | apply Kd.S_drew)); exact Kd.S_mono HO641.out (fun _ hk => ⟨hk.1.1, hk.1.2⟩)⟩, ⟨by (with_reducible repeat (first | apply Kd.Q_alloc | apply Kd.Q_drewN | apply Kd.Q_drew)); exact Kd.Q_mono HO643.out (fun _ hk => hk.1.2)⟩, ⟨by (with_reducible repeat (first | apply Kd.R_alloc | apply Kd.R_drewN | apply Kd.R_drew)); exact Kd.R_mono HO646.out (fun _ hk => hk.1.2)⟩, ⟨by repeat (first | (with_reducible first | exact HB.out | apply below_alloc | apply pw_below_drewN | apply below_drew1) | exact HB.out)⟩⟩
          · rw [if_neg c15] at H
            have c15b0 : decide (t639 < 0) = false := decide_eq_false c15
            clear c15
            (first | rw [c15b0] | (simp only [i64_w, i32_w]; rw [c15b0]) | skip)
            have H' := Aside0.mk H
            clear H
            go_wp2_with (first | ((with_reducible refine gate_callee (f := 43) rfl ?_); refine goesL_ (some 26) rfl rfl Tryd.func43 (by kernel_rfl) rfl #[.slice Ao7 t637.length co7, .slice Ao8 t638.length co8, .int .i64 t639] rfl (by (try simp only [List.map_toArray, List.map_cons, List.map_nil]); first | done | rfl | (simp only [List.length_drop, List.length_take]; rfl)) ?_; (with_reducible refine (spec_WaitsFor.calls k _ _ t637 _ _ t638 t639 t647 _ ?side1 ?side2 ?side3 ?side4 A10.out).mono ?_); (case side1 => repeat (first | exact (Kd.S_reads' HO641.out).2.2 | (with_reducible refine Kd.C_alloc ?_ _) | (with_reducible refine Kd.C_drewN ?_ _) | (with_reducible refine Kd.C_drew ?_))); (case side2 => exact (Kd.S_reads' HO641.out).2.1); (case side3 => repeat (first | exact (Kd.Q_reads' HO643.out).2.2 | (with_reducible refine Kd.C_alloc ?_ _) | (with_reducible refine Kd.C_drewN ?_ _) | (with_reducible refine Kd.C_drew ?_))); (case side4 => exact (Kd.Q_reads' HO643.out).2.1); rintro e w20 ⟨v648, rfl, ho0, hb⟩; refine ⟨_, rfl, ?_⟩; have n0_ := Aside0.mk (Kd.S_elder' (by (with_reducible repeat (first | apply Kd.S_alloc | apply Kd.S_drewN | apply Kd.S_drew)); exact HO641.out) (Kd.R_base ho0) hb); have n1_ := Aside0.mk (Kd.Q_elder' (by (with_reducible repeat (first | apply Kd.Q_alloc | apply Kd.Q_drewN | apply Kd.Q_drew)); exact HO643.out) (Kd.R_base ho0) hb); have n2_ := Aside0.mk (Kd.R_elder' (by (with_reducible repeat (first | apply Kd.R_alloc | apply Kd.R_drewN | apply Kd.R_drew)); exact HO646.out) (Kd.R_base ho0) hb); have n3_ := Aside0.mk (Kd.R_lower (Kd.R_new' (Kd.R_new' ho0 (Kd.Q_lt (by (with_reducible repeat (first | apply Kd.Q_alloc | apply Kd.Q_drewN | apply Kd.Q_drew)); exact HO643.out))) (Kd.R_lt (by (with_reducible repeat (first | apply Kd.R_alloc | apply Kd.R_drewN | apply Kd.R_drew)); exact HO646.out))) (below_size (by repeat (first | (with_reducible first | exact HB.out | apply below_alloc | apply pw_below_drewN | apply below_drew1) | exact HB.out)))); have n4_ := Aside0.mk (below_step (by repeat (first | (with_reducible first | exact HB.out | apply below_alloc | apply pw_below_drewN | apply below_drew1) | exact HB.out)) hb); clear HO641; clear HO643; clear HO646; clear HB; have HO641 := n0_; have HO643 := n1_; have HO646 := n2_; have HO649 := n3_; have HB := n4_; clear n0_ n1_ n2_ n3_ n4_; (try clear hb); (try clear hb2); (try clear hk); (try clear hi); (try clear ho0); obtain ⟨Ao21, co21, eo21⟩ := Kd.R_slice HO646.out; subst eo21; obtain ⟨Ao22, co22, eo22⟩ := Kd.R_slice HO649.out; subst eo22) | ((with_reducible refine gate_callee (f := 33) rfl ?_); refine goesL_ (some 27) rfl rfl Tryd.func33 (by kernel_rfl) rfl #[.slice Ao21 t644.length co21, .slice Ao22 t647.length co22] rfl (by (try simp only [List.map_toArray, List.map_cons, List.map_nil]); first | done | rfl | (simp only [List.length_drop, List.length_take]; rfl)) ?_; (with_reducible refine (laws_equalInts.calls k _ _ t644 _ _ t647 true _ ?side1 ?side2 ?side3 ?side4 A11.out).mono ?_); (case side1 => repeat (first | exact (Kd.R_reads' HO646.out).2.2 | (with_reducible refine Kd.C_alloc ?_ _) | (with_reducible refine Kd.C_drewN ?_ _) | (with_reducible refine Kd.C_drew ?_))); (case side2 => exact (Kd.R_reads' HO646.out).2.1); (case side3 => repeat (first | exact (Kd.R_reads' HO649.out).2.2 | (with_reducible refine Kd.C_alloc ?_ _) | (with_reducible refine Kd.C_drewN ?_ _) | (with_reducible refine Kd.C_drew ?_))); (case side4 => exact (Kd.R_reads' HO649.out).2.1); rintro e w' ⟨rfl, ⟨nd, rfl⟩⟩; refine ⟨_, rfl, ?_⟩) | (go_at_call 34; (with_reducible refine (impl_ValidGraph.calls _ _ t637 true _ ?side1 ?side2 ?side3 A13.out).mono ?_); (case side1 => repeat (first | exact (Kd.S_reads' HO641.out).2.2 | (with_reducible refine Kd.C_alloc ?_ _) | (with_reducible refine Kd.C_drewN ?_ _) | (with_reducible refine Kd.C_drew ?_))); (case side2 => exact (Kd.S_reads' HO641.out).2.1); (case side3 => exact Tab.of HT.out (by repeat (first | (with_reducible first | exact HB.out | apply below_alloc | apply pw_below_drewN | apply below_drew1) | exact HB.out))); rintro e w23 ⟨rfl, hb⟩; have n0_ := Aside0.mk (Kd.S_below (by (with_reducible repeat (first | apply Kd.S_alloc | apply Kd.S_drewN | apply Kd.S_drew)); exact HO641.out) hb); have n1_ := Aside0.mk (Kd.Q_below (by (with_reducible repeat (first | apply Kd.Q_alloc | apply Kd.Q_drewN | apply Kd.Q_drew)); exact HO643.out) hb); have n2_ := Aside0.mk (Kd.R_below (by (with_reducible repeat (first | apply Kd.R_alloc | apply Kd.R_drewN | apply Kd.R_drew)); exact HO646.out) hb); have n3_ := Aside0.mk (Kd.R_below (by (with_reducible repeat (first | apply Kd.R_alloc | apply Kd.R_drewN | apply Kd.R_drew)); exact HO649.out) hb); have n4_ := Aside0.mk (below_step (by repeat (first | (with_reducible first | exact HB.out | apply below_alloc | apply pw_below_drewN | apply below_drew1) | exact HB.out)) hb); clear HO641; clear HO643; clear HO646; clear HO649; clear HB; have HO641 := n0_; have HO643 := n1_; have HO646 := n2_; have HO649 := n3_; have HB := n4_; clear n0_ n1_ n2_ n3_ n4_; (try clear hb); (try clear hb2); (try clear hk); (try clear hi)))
            go_meet
            case rel => exact ⟨_, (decide (t639 ≥ (t637.length : Int))), (by first | rfl | (simp; done) | (simp [*]; done)), H', ⟨by first | omega | exact Nat.le_refl _⟩, ⟨by (with_reducible repeat (first | apply Kd.S_alloc | apply Kd.S_drewN | apply Kd.S_drew)); exact Kd.S_mono HO641.out (fun _ hk => ⟨hk.1.1, hk.1.2⟩)⟩, ⟨by (with_reducible repeat (first | apply Kd.Q_alloc | apply Kd.Q_drewN | apply Kd.Q_drew)); exact Kd.Q_mono HO643.out (fun _ hk => hk.1.2)⟩, ⟨by (with_reducible repeat (first | apply Kd.R_alloc | apply Kd.R_drewN | apply Kd.R_drew)); exact Kd.R_mono HO646.out (fun _ hk => hk.1.2)⟩, ⟨by repeat (first | (with_reducible first | exact HB.out | apply below_alloc | apply pw_below_drewN | apply below_drew1) | exact HB.out)⟩⟩
        · replace c14 := Bool.eq_false_iff.mpr c14
          subst c14
          have H1 : (laws_FnWaitsForAll.j0 k t637 t638 t639 t644 true) = some r := by rw [if_neg (show ¬ (false = true) by decide)] at H; exact H
          clear H
          have H := H1
          clear H1
          have H' := Aside0.mk H
          clear H
          go_wp2_with (first | ((with_reducible refine gate_callee (f := 43) rfl ?_); refine goesL_ (some 26) rfl rfl Tryd.func43 (by kernel_rfl) rfl #[.slice Ao7 t637.length co7, .slice Ao8 t638.length co8, .int .i64 t639] rfl (by (try simp only [List.map_toArray, List.map_cons, List.map_nil]); first | done | rfl | (simp only [List.length_drop, List.length_take]; rfl)) ?_; (with_reducible refine (spec_WaitsFor.calls k _ _ t637 _ _ t638 t639 t647 _ ?side1 ?side2 ?side3 ?side4 A10.out).mono ?_); (case side1 => repeat (first | exact (Kd.S_reads' HO641.out).2.2 | (with_reducible refine Kd.C_alloc ?_ _) | (with_reducible refine Kd.C_drewN ?_ _) | (with_reducible refine Kd.C_drew ?_))); (case side2 => exact (Kd.S_reads' HO641.out).2.1); (case side3 => repeat (first | exact (Kd.Q_reads' HO643.out).2.2 | (with_reducible refine Kd.C_alloc ?_ _) | (with_reducible refine Kd.C_drewN ?_ _) | (with_reducible refine Kd.C_drew ?_))); (case side4 => exact (Kd.Q_reads' HO643.out).2.1); rintro e w24 ⟨v648, rfl, ho0, hb⟩; refine ⟨_, rfl, ?_⟩; have n0_ := Aside0.mk (Kd.S_elder' (by (with_reducible repeat (first | apply Kd.S_alloc | apply Kd.S_drewN | apply Kd.S_drew)); exact HO641.out) (Kd.R_base ho0) hb); have n1_ := Aside0.mk (Kd.Q_elder' (by (with_reducible repeat (first | apply Kd.Q_alloc | apply Kd.Q_drewN | apply Kd.Q_drew)); exact HO643.out) (Kd.R_base ho0) hb); have n2_ := Aside0.mk (Kd.R_elder' (by (with_reducible repeat (first | apply Kd.R_alloc | apply Kd.R_drewN | apply Kd.R_drew)); exact HO646.out) (Kd.R_base ho0) hb); have n3_ := Aside0.mk (Kd.R_lower (Kd.R_new' (Kd.R_new' ho0 (Kd.Q_lt (by (with_reducible repeat (first | apply Kd.Q_alloc | apply Kd.Q_drewN | apply Kd.Q_drew)); exact HO643.out))) (Kd.R_lt (by (with_reducible repeat (first | apply Kd.R_alloc | apply Kd.R_drewN | apply Kd.R_drew)); exact HO646.out))) (below_size (by repeat (first | (with_reducible first | exact HB.out | apply below_alloc | apply pw_below_drewN | apply below_drew1) | exact HB.out)))); have n4_ := Aside0.mk (below_step (by repeat (first | (with_reducible first | exact HB.out | apply below_alloc | apply pw_below_drewN | apply below_drew1) | exact HB.out)) hb); clear HO641; clear HO643; clear HO646; clear HB; have HO641 := n0_; have HO643 := n1_; have HO646 := n2_; have HO649 := n3_; have HB := n4_; clear n0_ n1_ n2_ n3_ n4_; (try clear hb); (try clear hb2); (try clear hk); (try clear hi); (try clear ho0); obtain ⟨Ao25, co25, eo25⟩ := Kd.R_slice HO646.out; subst eo25; obtain ⟨Ao26, co26, eo26⟩ := Kd.R_slice HO649.out; subst eo26) | ((with_reducible refine gate_callee (f := 33) rfl ?_); refine goesL_ (some 27) rfl rfl Tryd.func33 (by kernel_rfl) rfl #[.slice Ao25 t644.length co25, .slice Ao26 t647.length co26] rfl (by (try simp only [List.map_toArray, List.map_cons, List.map_nil]); first | done | rfl | (simp only [List.length_drop, List.length_take]; rfl)) ?_; (with_reducible refine (laws_equalInts.calls k _ _ t644 _ _ t647 true _ ?side1 ?side2 ?side3 ?side4 A11.out).mono ?_); (case side1 => repeat (first | exact (Kd.R_reads' HO646.out).2.2 | (with_reducible refine Kd.C_alloc ?_ _) | (with_reducible refine Kd.C_drewN ?_ _) | (with_reducible refine Kd.C_drew ?_))); (case side2 => exact (Kd.R_reads' HO646.out).2.1); (case side3 => repeat (first | exact (Kd.R_reads' HO649.out).2.2 | (with_reducible refine Kd.C_alloc ?_ _) | (with_reducible refine Kd.C_drewN ?_ _) | (with_reducible refine Kd.C_drew ?_))); (case side4 => exact (Kd.R_reads' HO649.out).2.1); rintro e w' ⟨rfl, ⟨nd, rfl⟩⟩; refine ⟨_, rfl, ?_⟩) | (go_at_call 34; (with_reducible refine (impl_ValidGraph.calls _ _ t637 false _ ?side1 ?side2 ?side3 A13.out).mono ?_); (case side1 => repeat (first | exact (Kd.S_reads' HO641.out).2.2 | (with_reducible refine Kd.C_alloc ?_ _) | (with_reducible refine Kd.C_drewN ?_ _) | (with_reducible refine Kd.C_drew ?_))); (case side2 => exact (Kd.S_reads' HO641.out).2.1); (case side3 => exact Tab.of HT.out (by repeat (first | (with_reducible first | exact HB.out | apply below_alloc | apply pw_below_drewN | apply below_drew1) | exact HB.out))); rintro e w27 ⟨rfl, hb⟩; have n0_ := Aside0.mk (Kd.S_below (by (with_reducible repeat (first | apply Kd.S_alloc | apply Kd.S_drewN | apply Kd.S_drew)); exact HO641.out) hb); have n1_ := Aside0.mk (Kd.Q_below (by (with_reducible repeat (first | apply Kd.Q_alloc | apply Kd.Q_drewN | apply Kd.Q_drew)); exact HO643.out) hb); have n2_ := Aside0.mk (Kd.R_below (by (with_reducible repeat (first | apply Kd.R_alloc | apply Kd.R_drewN | apply Kd.R_drew)); exact HO646.out) hb); have n3_ := Aside0.mk (Kd.R_below (by (with_reducible repeat (first | apply Kd.R_alloc | apply Kd.R_drewN | apply Kd.R_drew)); exact HO649.out) hb); have n4_ := Aside0.mk (below_step (by repeat (first | (with_reducible first | exact HB.out | apply below_alloc | apply pw_below_drewN | apply below_drew1) | exact HB.out)) hb); clear HO641; clear HO643; clear HO646; clear HO649; clear HB; have HO641 := n0_; have HO643 := n1_; have HO646 := n2_; have HO649 := n3_; have HB := n4_; clear n0_ n1_ n2_ n3_ n4_; (try clear hb); (try clear hb2); (try clear hk); (try clear hi)))
          go_meet
          case rel => exact ⟨_, (true), (by first | rfl | (simp; done) | (simp [*]; done)), H', ⟨by first | omega | exact Nat.le_refl _⟩, ⟨by (with_reducible repeat (first | apply Kd.S_alloc | apply Kd.S_drewN | apply Kd.S_drew)); exact Kd.S_mono HO641.out (fun _ hk => ⟨hk.1.1, hk.1.2⟩)⟩, ⟨by (with_reducible repeat (first | apply Kd.Q_alloc | apply Kd.Q_drewN | apply Kd.Q_drew)); exact Kd.Q_mono HO643.out (fun _ hk => hk.1.2)⟩, ⟨by (with_reducible repeat (first | apply Kd.R_alloc | apply Kd.R_drewN | apply Kd.R_drew)); exact Kd.R_mono HO646.out (fun _ hk => hk.1.2)⟩, ⟨by repeat (first | (with_reducible first | exact HB.out | apply below_alloc | apply pw_below_drewN | apply below_drew1) | exact HB.out)⟩⟩
      · replace c12 := Bool.eq_false_iff.mpr c12
        subst c12
        have H1 : (laws_FnWaitsForAll.j0 k t637 t638 t639 t644 true) = some r := by rw [if_neg (show ¬ (false = true) by decide)] at H; exact H
        clear H
        have H := H1
        clear H1
        have H' := Aside0.mk H
        clear H
        go_wp2_with (first | ((with_reducible refine gate_callee (f := 43) rfl ?_); refine goesL_ (some 26) rfl rfl Tryd.func43 (by kernel_rfl) rfl #[.slice Ao7 t637.length co7, .slice Ao8 t638.length co8, .int .i64 t639] rfl (by (try simp only [List.map_toArray, List.map_cons, List.map_nil]); first | done | rfl | (simp only [List.length_drop, List.length_take]; rfl)) ?_; (with_reducible refine (spec_WaitsFor.calls k _ _ t637 _ _ t638 t639 t647 _ ?side1 ?side2 ?side3 ?side4 A10.out).mono ?_); (case side1 => repeat (first | exact (Kd.S_reads' HO641.out).2.2 | (with_reducible refine Kd.C_alloc ?_ _) | (with_reducible refine Kd.C_drewN ?_ _) | (with_reducible refine Kd.C_drew ?_))); (case side2 => exact (Kd.S_reads' HO641.out).2.1); (case side3 => repeat (first | exact (Kd.Q_reads' HO643.out).2.2 | (with_reducible refine Kd.C_alloc ?_ _) | (with_reducible refine Kd.C_drewN ?_ _) | (with_reducible refine Kd.C_drew ?_))); (case side4 => exact (Kd.Q_reads' HO643.out).2.1); rintro e w28 ⟨v648, rfl, ho0, hb⟩; refine ⟨_, rfl, ?_⟩; have n0_ := Aside0.mk (Kd.S_elder' (by (with_reducible repeat (first | apply Kd.S_alloc | apply Kd.S_drewN | apply Kd.S_drew)); exact HO641.out) (Kd.R_base ho0) hb); have n1_ := Aside0.mk (Kd.Q_elder' (by (with_reducible repeat (first | apply Kd.Q_alloc | apply Kd.Q_drewN | apply Kd.Q_drew)); exact HO643.out) (Kd.R_base ho0) hb); have n2_ := Aside0.mk (Kd.R_elder' (by (with_reducible repeat (first | apply Kd.R_alloc | apply Kd.R_drewN | apply Kd.R_drew)); exact HO646.out) (Kd.R_base ho0) hb); have n3_ := Aside0.mk (Kd.R_lower (Kd.R_new' (Kd.R_new' ho0 (Kd.Q_lt (by (with_reducible repeat (first | apply Kd.Q_alloc | apply Kd.Q_drewN | apply Kd.Q_drew)); exact HO643.out))) (Kd.R_lt (by (with_reducible repeat (first | apply Kd.R_alloc | apply Kd.R_drewN | apply Kd.R_drew)); exact HO646.out))) (below_size (by repeat (first | (with_reducible first | exact HB.out | apply below_alloc | apply pw_below_drewN | apply below_drew1) | exact HB.out)))); have n4_ := Aside0.mk (below_step (by repeat (first | (with_reducible first | exact HB.out | apply below_alloc | apply pw_below_drewN | apply below_drew1) | exact HB.out)) hb); clear HO641; clear HO643; clear HO646; clear HB; have HO641 := n0_; have HO643 := n1_; have HO646 := n2_; have HO649 := n3_; have HB := n4_; clear n0_ n1_ n2_ n3_ n4_; (try clear hb); (try clear hb2); (try clear hk); (try clear hi); (try clear ho0); obtain ⟨Ao29, co29, eo29⟩ := Kd.R_slice HO646.out; subst eo29; obtain ⟨Ao30, co30, eo30⟩ := Kd.R_slice HO649.out; subst eo30) | ((with_reducible refine gate_callee (f := 33) rfl ?_); refine goesL_ (some 27) rfl rfl Tryd.func33 (by kernel_rfl) rfl #[.slice Ao29 t644.length co29, .slice Ao30 t647.length co30] rfl (by (try simp only [List.map_toArray, List.map_cons, List.map_nil]); first | done | rfl | (simp only [List.length_drop, List.length_take]; rfl)) ?_; (with_reducible refine (laws_equalInts.calls k _ _ t644 _ _ t647 false _ ?side1 ?side2 ?side3 ?side4 A11.out).mono ?_); (case side1 => repeat (first | exact (Kd.R_reads' HO646.out).2.2 | (with_reducible refine Kd.C_alloc ?_ _) | (with_reducible refine Kd.C_drewN ?_ _) | (with_reducible refine Kd.C_drew ?_))); (case side2 => exact (Kd.R_reads' HO646.out).2.1); (case side3 => repeat (first | exact (Kd.R_reads' HO649.out).2.2 | (with_reducible refine Kd.C_alloc ?_ _) | (with_reducible refine Kd.C_drewN ?_ _) | (with_reducible refine Kd.C_drew ?_))); (case side4 => exact (Kd.R_reads' HO649.out).2.1); rintro e w' ⟨rfl, ⟨nd, rfl⟩⟩; refine ⟨_, rfl, ?_⟩))
        go_meet
        case rel => exact ⟨_, (true), (by first | rfl | (simp; done) | (simp [*]; done)), H', ⟨by first | omega | exact Nat.le_refl _⟩, ⟨by (with_reducible repeat (first | apply Kd.S_alloc | apply Kd.S_drewN | apply Kd.S_drew)); exact Kd.S_mono HO641.out (fun _ hk => ⟨hk.1.1, hk.1.2⟩)⟩, ⟨by (with_reducible repeat (first | apply Kd.Q_alloc | apply Kd.Q_drewN | apply Kd.Q_drew)); exact Kd.Q_mono HO643.out (fun _ hk => hk.1.2)⟩, ⟨by (with_reducible repeat (first | apply Kd.R_alloc | apply Kd.R_drewN | apply Kd.R_drew)); exact Kd.R_mono HO646.out (fun _ hk => hk.1.2)⟩, ⟨by repeat (first | (with_reducible first | exact HB.out | apply below_alloc | apply pw_below_drewN | apply below_drew1) | exact HB.out)⟩⟩
    case rest =>
      clear HC5
      try clear c1
      try clear c2
      try clear c2b0
      try clear c2b1
      try clear p2
      try clear c3
      try clear c4
      try clear c9
      try clear c12
      try clear c14
      try clear c15
      try clear c15b0
      obtain ⟨kq, x43_4, rfl, HA, HJ4, HO_3, HO_4, HO_6, HB⟩ := hcut
      cases kq with
      | zero => exact absurd HA.out (by simp [laws_FnWaitsForAll.j0])
      | succ kj4 =>
        have H := HA.out
        clear HA
        simp only [laws_FnWaitsForAll.j0] at H
        by_cases c31 : x43_4 = true
        · subst c31
          have H1 : ((spec_WaitsFor.f kj4 t637 t638 t639).bind fun t652 => ((laws_equalInts.f kj4 t644 t652).bind fun t655 => (some t655))) = some r := by rw [if_pos rfl] at H; exact H
          clear H
          have H := H1
          clear H1
          replace H := Option.bind_eq_some_iff.mp H
          obtain ⟨t652, A320, H⟩ := H
          replace H : ((laws_equalInts.f kj4 t644 t652).bind fun t655 => (some t655)) = some r := H
          have A32 := Aside0.mk A320
          clear A320
          replace H := Option.bind_eq_some_iff.mp H
          obtain ⟨t655, A330, H⟩ := H
          replace H : (some t655) = some r := H
          have A33 := Aside0.mk A330
          clear A330
          obtain rfl := Option.some.inj H
          go_wp2_with (first | ((with_reducible refine gate_callee (f := 43) rfl ?_); refine goesL_ (some 48) rfl rfl Tryd.func43 (by kernel_rfl) rfl #[.slice Ao7 t637.length co7, .slice Ao8 t638.length co8, .int .i64 t639] rfl (by (try simp only [List.map_toArray, List.map_cons, List.map_nil]); first | done | rfl | (simp only [List.length_drop, List.length_take]; rfl)) ?_; (with_reducible refine (spec_WaitsFor.calls kj4 _ _ t637 _ _ t638 t639 t652 _ ?side1 ?side2 ?side3 ?side4 A32.out).mono ?_); (case side1 => repeat (first | exact (Kd.S_reads' HO_3.out).2.2 | (with_reducible refine Kd.C_alloc ?_ _) | (with_reducible refine Kd.C_drewN ?_ _) | (with_reducible refine Kd.C_drew ?_))); (case side2 => exact (Kd.S_reads' HO_3.out).2.1); (case side3 => repeat (first | exact (Kd.Q_reads' HO_4.out).2.2 | (with_reducible refine Kd.C_alloc ?_ _) | (with_reducible refine Kd.C_drewN ?_ _) | (with_reducible refine Kd.C_drew ?_))); (case side4 => exact (Kd.Q_reads' HO_4.out).2.1); rintro e w34 ⟨v653, rfl, ho0, hb⟩; refine ⟨_, rfl, ?_⟩; have n0_ := Aside0.mk (Kd.S_elder' (by (with_reducible repeat (first | apply Kd.S_alloc | apply Kd.S_drewN | apply Kd.S_drew)); exact HO_3.out) (Kd.R_base ho0) hb); have n1_ := Aside0.mk (Kd.Q_elder' (by (with_reducible repeat (first | apply Kd.Q_alloc | apply Kd.Q_drewN | apply Kd.Q_drew)); exact HO_4.out) (Kd.R_base ho0) hb); have n2_ := Aside0.mk (Kd.R_elder' (by (with_reducible repeat (first | apply Kd.R_alloc | apply Kd.R_drewN | apply Kd.R_drew)); exact HO_6.out) (Kd.R_base ho0) hb); have n3_ := Aside0.mk (Kd.R_lower (Kd.R_new' (Kd.R_new' ho0 (Kd.Q_lt (by (with_reducible repeat (first | apply Kd.Q_alloc | apply Kd.Q_drewN | apply Kd.Q_drew)); exact HO_4.out))) (Kd.R_lt (by (with_reducible repeat (first | apply Kd.R_alloc | apply Kd.R_drewN | apply Kd.R_drew)); exact HO_6.out))) (below_size (by repeat (first | (with_reducible first | exact HB.out | apply below_alloc | apply pw_below_drewN | apply below_drew1) | exact HB.out)))); have n4_ := Aside0.mk (below_step (by repeat (first | (with_reducible first | exact HB.out | apply below_alloc | apply pw_below_drewN | apply below_drew1) | exact HB.out)) hb); clear HO_3; clear HO_4; clear HO_6; clear HB; have HO_3 := n0_; have HO_4 := n1_; have HO_6 := n2_; have HO654 := n3_; have HB := n4_; clear n0_ n1_ n2_ n3_ n4_; (try clear hb); (try clear hb2); (try clear hk); (try clear hi); (try clear ho0); obtain ⟨Ao35, co35, eo35⟩ := Kd.R_slice HO_6.out; subst eo35; obtain ⟨Ao36, co36, eo36⟩ := Kd.R_slice HO654.out; subst eo36) | ((with_reducible refine gate_callee (f := 33) rfl ?_); refine goesL_ (some 49) rfl rfl Tryd.func33 (by kernel_rfl) rfl #[.slice Ao35 t644.length co35, .slice Ao36 t652.length co36] rfl (by (try simp only [List.map_toArray, List.map_cons, List.map_nil]); first | done | rfl | (simp only [List.length_drop, List.length_take]; rfl)) ?_; (with_reducible refine (laws_equalInts.calls kj4 _ _ t644 _ _ t652 t655 _ ?side1 ?side2 ?side3 ?side4 A33.out).mono ?_); (case side1 => repeat (first | exact (Kd.R_reads' HO_6.out).2.2 | (with_reducible refine Kd.C_alloc ?_ _) | (with_reducible refine Kd.C_drewN ?_ _) | (with_reducible refine Kd.C_drew ?_))); (case side2 => exact (Kd.R_reads' HO_6.out).2.1); (case side3 => repeat (first | exact (Kd.R_reads' HO654.out).2.2 | (with_reducible refine Kd.C_alloc ?_ _) | (with_reducible refine Kd.C_drewN ?_ _) | (with_reducible refine Kd.C_drew ?_))); (case side4 => exact (Kd.R_reads' HO654.out).2.1); rintro e w' ⟨rfl, ⟨nd, rfl⟩⟩; refine ⟨_, rfl, ?_⟩))
          go_ret
          exact ⟨by first | rfl | (simp [errW_none, errW_some] <;> rfl) | (simp [*, errW_none, errW_some] <;> rfl), by repeat (first | (with_reducible first | exact HB.out | apply below_alloc | apply pw_below_drewN | apply below_drew1) | exact HB.out)⟩
        · replace c31 := Bool.eq_false_iff.mpr c31
          subst c31
          have H1 : (laws_FnWaitsForAll.l0 kj4 t637 t639 (([] : List Int)) 0) = some r := by rw [if_neg (show ¬ (false = true) by decide)] at H; exact H
          clear H
          have H := H1
          clear H1
          obtain ⟨y656, hy656⟩ : ∃ y_ : List Int, y_ = (([] : List Int)) := ⟨_, rfl⟩
          replace H : (laws_FnWaitsForAll.l0 kj4 t637 t639 y656 0) = some r := by first | (rw [hy656]; with_reducible exact H) | (have H2_ := (Option.bind_some _ _).symm.trans H; rw [hy656]; with_reducible exact H2_) | (have H2_ := (Option.bind_some _ _).symm.trans H; with_reducible exact H2_) | with_reducible exact H | (rw [hy656]; exact H) | exact H
          have Ny656 := Aside0.mk hy656
          clear hy656
          have H' := Aside0.mk H
          clear H
          go_wp2_with (first | ((with_reducible refine gate_dst (N := 50) rfl ?_); (try (refine gate_guard (by rfl) ?_; dsimp only)); refine Kd.R_lit (Kd.int .i64) _ 3 ?hg (N := 50) ?hd (xs := ([] : List Int)) (inner := []) (ok := fun _ => True) (okp := fun _ => True) ?hr ?hp (fun _ hk => hk) trivial (Below.refl _ _) (Nat.le_refl _) (by simp) ?_; (case hd => rfl); (case hg => rfl); (case hr => first | (go_simp; done) | (go_simp; rfl)); (case hp => exact (Reps.none _ _)); intro v657 w37 ho38 hb hg_ hnew_; clear hg_ hnew_; (first | rw [← Ny656.out] at ho38 | (simp only [Int.reduceToNat] at ho38; rw [← Ny656.out] at ho38)); have n0_ := Aside0.mk (Kd.S_elder' (by (with_reducible repeat (first | apply Kd.S_alloc | apply Kd.S_drewN | apply Kd.S_drew)); exact HO_3.out) (Kd.R_base ho38) hb); have n1_ := Aside0.mk (Kd.Q_elder' (by (with_reducible repeat (first | apply Kd.Q_alloc | apply Kd.Q_drewN | apply Kd.Q_drew)); exact HO_4.out) (Kd.R_base ho38) hb); have n2_ := Aside0.mk (Kd.R_elder' (by (with_reducible repeat (first | apply Kd.R_alloc | apply Kd.R_drewN | apply Kd.R_drew)); exact HO_6.out) (Kd.R_base ho38) hb); have n3_ := Aside0.mk (Kd.R_lower (Kd.R_new' (Kd.R_new' ho38 (Kd.Q_lt (by (with_reducible repeat (first | apply Kd.Q_alloc | apply Kd.Q_drewN | apply Kd.Q_drew)); exact HO_4.out))) (Kd.R_lt (by (with_reducible repeat (first | apply Kd.R_alloc | apply Kd.R_drewN | apply Kd.R_drew)); exact HO_6.out))) (below_size (by repeat (first | (with_reducible first | exact HB.out | apply below_alloc | apply pw_below_drewN | apply below_drew1) | exact HB.out)))); have n4_ := Aside0.mk (below_step (by repeat (first | (with_reducible first | exact HB.out | apply below_alloc | apply pw_below_drewN | apply below_drew1) | exact HB.out)) hb); clear HO_3; clear HO_4; clear HO_6; clear HB; have HO_3 := n0_; have HO_4 := n1_; have HO_6 := n2_; have HO658 := n3_; have HB := n4_; clear n0_ n1_ n2_ n3_ n4_; clear hb ho38))
          go_loopg [7, 8] kj4 (fun kq v7 v8 w' => ∃ (x7_2 : List Int) (x8_2 : Int), v8 = .int .i64 x8_2 ∧ Aside0 (laws_FnWaitsForAll.l0 kq t637 t639 x7_2 x8_2 = some r) ∧ Aside0 (kq ≤ kj4) ∧ Aside0 (Kd.S k37 37 w' w.heap.size (fun k_ => some k_ ≠ (v7 : Value).ownBlock) (.slice Ao7 t637.length co7) t637) ∧ Aside0 (Kd.R (Kd.int .i64) 3 w' w.heap.size (fun _ => True) v7 x7_2) ∧ Aside0 (Below w.heap.size w w'))
          case atStart => exact ⟨(y656), (0), (by first | rfl | (simp; done) | (simp [*]; done)), H', ⟨Nat.le_refl _⟩, ⟨by (with_reducible repeat (first | apply Kd.S_alloc | apply Kd.S_drewN | apply Kd.S_drew)); exact Kd.S_mono HO_3.out (fun _ hk => hk.2)⟩, ⟨by (with_reducible repeat (first | apply Kd.R_alloc | apply Kd.R_drewN | apply Kd.R_drew)); exact Kd.R_mono HO658.out (fun _ hk => trivial)⟩, ⟨by repeat (first | (with_reducible first | exact HB.out | apply below_alloc | apply pw_below_drewN | apply below_drew1) | exact HB.out)⟩⟩
          case round =>
            clear H'
            try clear c1
            try clear c2
            try clear c2b0
            try clear c2b1
            try clear p2
            try clear c3
            try clear c4
            try clear c9
            try clear c12
            try clear c14
            try clear c15
            try clear c15b0
            try clear c31
            try clear c33
            try clear p2
            obtain ⟨x7_2, x8_2, rfl, HA, HK2, HO_3, HO_7, HB⟩ := hrel
            cases gk with
            | zero => exact absurd HA.out (by simp [laws_FnWaitsForAll.l0])
            | succ k2 =>
              have H := HA.out
              clear HA
              simp only [laws_FnWaitsForAll.l0] at H
              by_cases c39 : x8_2 < (t637.length : Int)
              · rw [if_pos c39] at H
                have c39b0 : decide (x8_2 < (t637.length : Int)) = true := decide_eq_true c39
                clear c39
                by_cases c40 : x7_2.length < 17592186044416
                · rw [if_pos c40] at H
                  have LMc40 := Aside0.mk c40
                  clear c40
                  obtain ⟨y659, hy659⟩ : ∃ y_ : List Int, y_ = (x7_2 ++ [x8_2]) := ⟨_, rfl⟩
                  replace H : (laws_FnWaitsForAll.l0 k2 t637 t639 y659 (wrap64 (x8_2 + 1))) = some r := by first | (rw [hy659]; with_reducible exact H) | (have H2_ := (Option.bind_some _ _).symm.trans H; rw [hy659]; with_reducible exact H2_) | (have H2_ := (Option.bind_some _ _).symm.trans H; with_reducible exact H2_) | with_reducible exact H | (rw [hy659]; exact H) | exact H
                  have Ny659 := Aside0.mk hy659
                  clear hy659
                  have H' := Aside0.mk H
                  clear H
                  go_wp2_with (first | ((with_reducible refine gate_builtin (b := .append) (xs := #[.tmp 57, .tmp 59]) rfl ?_); (try (refine gate_guard (by rfl) ?_; dsimp only)); at_builtin; refine Kd.R_append (Kd.int .i64) (w0 := w) w.heap.size rfl (.tmp 57) (.tmp 59) 35 3 (.int .i64 0) 8 rfl Tryd.underlying35 info3 rfl (by decide) (by omega) u7 x7_2 x8_2 [.int .i64 x8_2] (fun _ => True) (fun _ => False) rfl rfl ?aP (fun _ hk => hk.elim) ?aF ?aO ?aB ?aS ?aL ?_; (case aP => exact rfl); (case aB => exact (by repeat (first | (with_reducible first | exact HB.out | apply below_alloc | apply pw_below_drewN | apply below_drew1) | exact HB.out))); (case aF => exact (fun _ _ => trivial)); (case aO => exact (by (with_reducible repeat (first | apply Kd.R_alloc | apply Kd.R_drewN | apply Kd.R_drew)); exact HO_7.out)); (case aS => exact (below_size (by repeat (first | (with_reducible first | exact HB.out | apply below_alloc | apply pw_below_drewN | apply below_drew1) | exact HB.out)))); (case aL => have := LMc40.out; omega); intro v660 w41 ho hb hg hat; rw [← Ny659.out] at ho; have n0_ := Aside0.mk (Kd.S_after (ok := (fun _ => True)) (by (with_reducible repeat (first | apply Kd.S_alloc | apply Kd.S_drewN | apply Kd.S_drew)); exact Kd.S_mono HO_3.out (fun _ hk => ⟨trivial, hk⟩)) hg hat); have n1_ := Aside0.mk (hb); have n2_ := Aside0.mk (ho); clear HO_3; clear HB; clear HO_7; have HO_3 := n0_; have HB := n1_; have HO661 := n2_; clear n0_ n1_ n2_; clear ho hb hg hat))
                  go_roundg k2
                  case measure => have := HJ4.out; have := HK2.out; omega
                  case rel => exact ⟨(y659), (wrap64 (x8_2 + 1)), (by first | rfl | (simp; done) | (simp [*]; done)), H', ⟨by have := HJ4.out; have := HK2.out; omega⟩, ⟨by (with_reducible repeat (first | apply Kd.S_alloc | apply Kd.S_drewN | apply Kd.S_drew)); exact Kd.S_mono HO_3.out (fun _ hk => hk.2)⟩, ⟨by (with_reducible repeat (first | apply Kd.R_alloc | apply Kd.R_drewN | apply Kd.R_drew)); exact HO661.out⟩, ⟨by repeat (first | (with_reducible first | exact HB.out | apply below_alloc | apply pw_below_drewN | apply below_drew1) | exact HB.out)⟩⟩
                · rw [if_neg c40] at H
                  exact absurd H (by simp)
              · rw [if_neg c39] at H
                have c39b0 : decide (x8_2 < (t637.length : Int)) = false := decide_eq_false c39
                clear c39
                replace H := Option.bind_eq_some_iff.mp H
                obtain ⟨t662, A420, H⟩ := H
                replace H : (if 0 ≤ t639 then (if t639 < (t637.length : Int) then ((laws_equalInts.f k2 t662 ((rd_T37 t637 t639).f1)).bind fun t666 => (if t666 = true then ((impl_WaitsFor.f t637 x7_2 t639).bind fun t667 => (some ((t667.length : Int) == 0))) else (some false))) else (none)) else (none)) = some r := H
                have A42 := Aside0.mk A420
                clear A420
                by_cases c43 : 0 ≤ t639
                · rw [if_pos c43] at H
                  have c43b0 : decide (0 ≤ t639) = true := decide_eq_true c43
                  clear c43
                  by_cases c44 : t639 < (t637.length : Int)
                  · rw [if_pos c44] at H
                    have c44b0 : decide (t639 < (t637.length : Int)) = true := decide_eq_true c44
                    clear c44
                    replace H := Option.bind_eq_some_iff.mp H
                    obtain ⟨t666, A450, H⟩ := H
                    replace H : (if t666 = true then ((impl_WaitsFor.f t637 x7_2 t639).bind fun t667 => (some ((t667.length : Int) == 0))) else (some false)) = some r := H
                    have A45 := Aside0.mk A450
                    clear A450
                    by_cases c46 : t666 = true
                    · subst c46
                      have H1 : ((impl_WaitsFor.f t637 x7_2 t639).bind fun t667 => (some ((t667.length : Int) == 0))) = some r := by rw [if_pos rfl] at H; exact H
                      clear H
                      have H := H1
                      clear H1
                      replace H := Option.bind_eq_some_iff.mp H
                      obtain ⟨t667, A470, H⟩ := H
                      replace H : (some ((t667.length : Int) == 0)) = some r := H
                      have A47 := Aside0.mk A470
                      clear A470
                      obtain rfl := Option.some.inj H
                      try go_wp2
                      have n0_ := Aside0.mk (Kd.S_drew HO_3.out)
                      have n1_ := Aside0.mk (Kd.R_drew HO_7.out)
                      have n2_ := Aside0.mk (below_drew1 HB.out)
                      clear HO_3
                      clear HO_7
                      clear HB
                      have HO_3 := n0_
                      have HO_7 := n1_
                      have HB := n2_
                      clear n0_ n1_ n2_
                      have p665 : 0 ≤ (t639 : Int) := of_decide_eq_true (by first | (with_reducible assumption) | assumption)
                      have q665 : t639 < (t637.length : Int) := of_decide_eq_true (by first | (with_reducible assumption) | assumption)
                      obtain ⟨ad665, A665_1, c665_1, e665, hx665_0, hx665_1, hx665_2, hx665_3, hl665_1, hi665_1⟩ := at_T37 (Kd.S_reads' HO_3.out).2.2 t639 p665 q665
                      cases e665
                      obtain ⟨ce665, hce665, hMe665, hcc665⟩ := Kd.S_get HO_3.out z37 t639 p665 (by first | exact q665 | exact of_decide_eq_true (by first | (with_reducible assumption) | assumption) | (have e_ := (Kd.S_reads' HO_3.out).1; omega))
                      obtain ⟨ve665_1, rfl, ge665_1⟩ := k37_openM hMe665
                      have hv665_1 := hcc665 1 _ rfl
                      rw [add_field _ _ 1 (by omega)] at hv665_1
                      replace hv665_1 := Option.some.inj (hv665_1.symm.trans hx665_1)
                      rw [hv665_1] at ge665_1
                      have HL665_1 := Aside0.mk (show Kd.Q (Kd.int .i64) 3 _ _ _ _ ((rd_T37 t637 t639).f1) from ge665_1)
                      clear hv665_1 ge665_1
                      clear hcc665 hce665
                      have HR665_1 := Aside0.mk hi665_1
                      have HC665_1 := Aside0.mk hl665_1
                      clear hi665_1 hl665_1
                      replace p665 := eq_true p665
                      replace q665 := eq_true q665
                      refine start_ (n := 18) (S := fun w' => w'.cell? (ad665.add ((t639).toNat * 4)) = some (.int .i64 ((rd_T37 t637 t639).f0)) ∧ w'.cell? ⟨(ad665.add ((t639).toNat * 4)).block, (ad665.add ((t639).toNat * 4)).off + 1, none⟩ = some (.slice A665_1 ((rd_T37 t637 t639).f1).length c665_1) ∧ w'.cell? ⟨(ad665.add ((t639).toNat * 4)).block, (ad665.add ((t639).toNat * 4)).off + 2, none⟩ = some (.int .i64 ((rd_T37 t637 t639).f2)) ∧ w'.cell? ⟨(ad665.add ((t639).toNat * 4)).block, (ad665.add ((t639).toNat * 4)).off + 3, none⟩ = some (.int .i64 ((rd_T37 t637 t639).f3))) (ds := []) #[false, false, false, false, false, false, false, false, false, false, false, false, false, false, false, false, false, false] (by kernel_rfl) rfl rfl ⟨hx665_0, hx665_1, hx665_2, hx665_3⟩ (fun hHeld => ?_); refine with_tabW laws_FnWaitsForAll.tab12 laws_FnWaitsForAll.bits12 (fun HT_ HW_ => ?_)
                      generalize wr.drew = w48 at HO_3 HO_7 HB HL665_1 HR665_1 hx665_0 hx665_1 hx665_2 hx665_3 hHeld ⊢
                      refine pure_ (i := 0) (N := some 61) (v := ?_) (a' := ?_) #[true, false, false, false, false, false, false, false, false, false, false, false, false, false, false, false, false, false] rfl rfl (any_of HT_.out (by kernel_rfl)) (fun _ _ _ h => h) (Or.inl ⟨by rfl, ?_⟩) ?_ ?_
                      rotate_left
                      · intro w'
                        go_simp
                        with_reducible rfl
                      rotate_left
                      · simp only [Act.put, List.setIfInBounds_toArray, List.set_cons_zero, List.set_cons_succ, i64_w, i32_w]
                        rfl
                      refine pure_ (i := 1) (N := some 62) (v := ?_) (a' := ?_) #[true, true, false, false, false, false, false, false, false, false, false, false, false, false, false, false, false, false] rfl rfl (any_of HT_.out (by kernel_rfl)) (fun _ _ _ h => h) (Or.inl ⟨by rfl, ?_⟩) ?_ ?_
                      rotate_left
                      · intro w'
                        go_simp
                        with_reducible rfl
                      rotate_left
                      · simp only [Act.put, List.setIfInBounds_toArray, List.set_cons_zero, List.set_cons_succ, i64_w, i32_w]
                        rfl
                      refine pure_ (i := 3) (N := some 64) (v := ?_) (a' := ?_) #[true, true, false, true, false, false, false, false, false, false, false, false, false, false, false, false, false, false] rfl rfl (any_of HT_.out (by kernel_rfl)) (fun _ _ _ h => h) (Or.inl ⟨by rfl, ?_⟩) ?_ ?_
                      rotate_left
                      · intro w'
                        go_simp
                        with_reducible rfl
                      rotate_left
                      · simp only [Act.put, List.setIfInBounds_toArray, List.set_cons_zero, List.set_cons_succ, i64_w, i32_w]
                        rfl
                      refine pure_ (i := 4) (N := some 65) (v := ?_) (a' := ?_) #[true, true, false, true, true, false, false, false, false, false, false, false, false, false, false, false, false, false] rfl rfl (any_of HT_.out (by kernel_rfl)) (fun _ _ _ h => h) (Or.inl ⟨by rfl, ?_⟩) ?_ ?_
                      rotate_left
                      · intro w'
                        go_simp
                        with_reducible rfl
                      rotate_left
                      · simp only [Act.put, List.setIfInBounds_toArray, List.set_cons_zero, List.set_cons_succ, i64_w, i32_w]
                        rfl
                      refine pure_ (i := 5) (N := some 66) (v := ?_) (a' := ?_) #[true, true, false, true, true, true, false, false, false, false, false, false, false, false, false, false, false, false] rfl rfl (any_of HT_.out (by kernel_rfl)) (fun _ _ _ h => h) (Or.inl ⟨by rfl, ?_⟩) ?_ ?_
                      rotate_left
                      · intro w'
                        go_simp
                        with_reducible rfl
                      rotate_left
                      · simp only [Act.put, List.setIfInBounds_toArray, List.set_cons_zero, List.set_cons_succ, i64_w, i32_w]
                        rfl
                      refine pure_ (i := 6) (N := some 67) (v := ?_) (a' := ?_) #[true, true, false, true, true, true, true, false, false, false, false, false, false, false, false, false, false, false] rfl rfl (any_of HT_.out (by kernel_rfl)) (fun _ _ _ h => h) (Or.inl ⟨by rfl, ?_⟩) ?_ ?_
                      rotate_left
                      · intro w'
                        go_simp
                        with_reducible rfl
                      rotate_left
                      · simp only [Act.put, List.setIfInBounds_toArray, List.set_cons_zero, List.set_cons_succ, i64_w, i32_w]
                        rfl
                      refine take_ (i := 7) (N := some 68) (v := ?_) (a' := ?_) #[true, true, false, true, true, true, true, true, false, false, false, false, false, false, false, false, false, false] rfl rfl (take_ofW HT_.out HW_.out (by kernel_rfl)) (fun _ _ _ h => h) (Or.inl ⟨by rfl, ?_⟩) hHeld ?_ ?_
                      rotate_left
                      · rintro w' ⟨s0, s1, s2, s3⟩
                        go_simp
                        with_reducible rfl
                      rotate_left
                      · simp only [Act.put, List.setIfInBounds_toArray, List.set_cons_zero, List.set_cons_succ, i64_w, i32_w]
                        rfl
                      refine one_ (i := 2) (N := some 63) #[true, true, true, true, true, true, true, true, false, false, false, false, false, false, false, false, false, false] rfl rfl (one_of HT_.out (by kernel_rfl)) (by decide) (fun K hK => ?_)
                      refine goes_ Tryd.func42 (by kernel_rfl) rfl #[.slice (some ad665) t637.length co7, .slice none 0 0, .int .i64 t639] (by rfl) rfl rfl (by (try simp only [List.map_toArray, List.map_cons, List.map_nil]); first | done | rfl | (simp only [List.length_drop, List.length_take]; rfl)) ?_
                      refine (impl_WaitsFor.calls _ _ t637 _ _ ([] : List Int) t639 t662 _ ?side1 ?side2 ?side3 ?side4 ?side5 A42.out).mono ?_
                      (case side1 => repeat (first | exact (Kd.S_reads' HO_3.out).2.2 | (with_reducible refine Kd.C_alloc ?_ _) | (with_reducible refine Kd.C_drewN ?_ _) | (with_reducible refine Kd.C_drew ?_)))
                      (case side2 => exact (Kd.S_reads' HO_3.out).2.1)
                      (case side3 => exact Kd.C_nil _ _)
                      (case side4 => exact Nat.le_refl _)
                      (case side5 => exact Tab.of HT.out (by repeat (first | (with_reducible first | exact HB.out | apply below_alloc | apply pw_below_drewN | apply below_drew1) | exact HB.out)))
                      rintro e w49 ⟨v663, rfl, ho0, hb⟩
                      have HS0_ := (hb.cell (World.block_lt_of_cell? _ _ (hHeld.1))).trans (hHeld.1)
                      have HS1_ := (hb.cell (World.block_lt_of_cell? _ _ (hHeld.2.1))).trans (hHeld.2.1)
                      have HS2_ := (hb.cell (World.block_lt_of_cell? _ _ (hHeld.2.2.1))).trans (hHeld.2.2.1)
                      have HS3_ := (hb.cell (World.block_lt_of_cell? _ _ (hHeld.2.2.2))).trans (hHeld.2.2.2)
                      refine ⟨_, rfl, ?_⟩
                      have n0_ := Aside0.mk (Kd.S_elder' (by (with_reducible repeat (first | apply Kd.S_alloc | apply Kd.S_drewN | apply Kd.S_drew)); exact HO_3.out) (Kd.R_base ho0) hb)
                      have n1_ := Aside0.mk (Kd.R_elder' (by (with_reducible repeat (first | apply Kd.R_alloc | apply Kd.R_drewN | apply Kd.R_drew)); exact HO_7.out) (Kd.R_base ho0) hb)
                      have n2_ := Aside0.mk (Kd.Q_elder' (by (with_reducible repeat (first | apply Kd.Q_alloc | apply Kd.Q_drewN | apply Kd.Q_drew)); exact HL665_1.out) (Kd.R_base ho0) hb)
                      have n3_ := Aside0.mk (Kd.R_lower (Kd.R_new' (Kd.R_new' ho0 (Kd.R_lt (by (with_reducible repeat (first | apply Kd.Q_alloc | apply Kd.Q_drewN | apply Kd.Q_drew)); exact HO_7.out))) (Kd.Q_lt (by (with_reducible repeat (first | apply Kd.Q_alloc | apply Kd.Q_drewN | apply Kd.Q_drew)); exact HL665_1.out))) (below_size (by repeat (first | (with_reducible first | exact HB.out | apply below_alloc | apply pw_below_drewN | apply below_drew1) | exact HB.out))))
                      have n4_ := Aside0.mk (Kd.C_below (by repeat (first | (with_reducible exact HR665_1.out) | (with_reducible refine Kd.C_alloc ?_ _) | (with_reducible refine Kd.C_drewN ?_ _) | (with_reducible refine Kd.C_drew ?_) | exact HR665_1.out)) hb)
                      have n5_ := Aside0.mk (below_step (by repeat (first | (with_reducible first | exact HB.out | apply below_alloc | apply pw_below_drewN | apply below_drew1) | exact HB.out)) hb)
                      clear HO_3
                      clear HO_7
                      clear HL665_1
                      clear HR665_1
                      clear HB
                      have HO_3 := n0_
                      have HO_7 := n1_
                      have HL665_1 := n2_
                      have HO664 := n3_
                      have HR665_1 := n4_
                      have HB := n5_
                      clear n0_ n1_ n2_ n3_ n4_ n5_
                      (try clear hb)
                      (try clear hb2)
                      (try clear hk)
                      (try clear hi)
                      (try clear ho0)
                      obtain ⟨Ao50, co50, eo50⟩ := Kd.R_slice HO664.out
                      (first | subst eo50 | (injection eo50 with f1_ f2_ f3_; have f4_ := f1_.symm; have f5_ := f3_.symm; clear f1_ f2_ f3_; subst f4_; subst f5_))
                      refine hK.out _ _ ⟨HS0_, HS1_, HS2_, HS3_⟩ (fun hHeld => ?_)
                      clear hK K
                      refine norm_ (a' := ?_) ?_ ?_
                      rotate_left
                      · show Act.put _ (some 63) _ = _
                        simp only [Act.put, List.setIfInBounds_toArray, List.set_cons_zero, List.set_cons_succ, i64_w, i32_w]
                        rfl
                      refine one_ (i := 8) (N := some 69) #[true, true, true, true, true, true, true, true, true, false, false, false, false, false, false, false, false, false] rfl rfl (one_of HT_.out (by kernel_rfl)) (by decide) (fun K hK => ?_)
                      refine goes_ Tryd.func33 (by kernel_rfl) rfl #[.slice Ao50 t662.length co50, .slice A665_1 ((rd_T37 t637 t639).f1).length c665_1] (by rfl) rfl rfl (by (try simp only [List.map_toArray, List.map_cons, List.map_nil]); first | done | rfl | (simp only [List.length_drop, List.length_take]; rfl)) ?_
                      with_reducible refine (laws_equalInts.calls k2 _ _ t662 _ _ ((rd_T37 t637 t639).f1) true _ ?side1 ?side2 ?side3 ?side4 A45.out).mono ?_
                      (case side1 => repeat (first | exact (Kd.R_reads' HO664.out).2.2 | (with_reducible refine Kd.C_alloc ?_ _) | (with_reducible refine Kd.C_drewN ?_ _) | (with_reducible refine Kd.C_drew ?_)))
                      (case side2 => exact (Kd.R_reads' HO664.out).2.1)
                      (case side3 => repeat (first | exact (by repeat (first | (with_reducible exact HR665_1.out) | (with_reducible refine Kd.C_alloc ?_ _) | (with_reducible refine Kd.C_drewN ?_ _) | (with_reducible refine Kd.C_drew ?_) | exact HR665_1.out)) | (with_reducible refine Kd.C_alloc ?_ _) | (with_reducible refine Kd.C_drewN ?_ _) | (with_reducible refine Kd.C_drew ?_)))
                      (case side4 => exact HC665_1.out)
                      rintro e w' ⟨rfl, ⟨nd, rfl⟩⟩
                      refine ⟨_, rfl, ?_⟩
                      obtain ⟨Ao51, co51, eo51⟩ := Kd.R_slice HO_7.out
                      (first | subst eo51 | (injection eo51 with f1_ f2_ f3_; have f4_ := f1_.symm; have f5_ := f3_.symm; clear f1_ f2_ f3_; subst f4_; subst f5_))
                      refine hK.out _ _ ⟨hHeld.1, hHeld.2.1, hHeld.2.2.1, hHeld.2.2.2⟩ (fun hHeld => ?_)
                      clear hK K
                      refine norm_ (a' := ?_) ?_ ?_
                      rotate_left
                      · show Act.put _ (some 69) _ = _
                        simp only [Act.put, List.setIfInBounds_toArray, List.set_cons_zero, List.set_cons_succ, i64_w, i32_w]
                        rfl
                      refine pure_ (i := 9) (N := some 70) (v := ?_) (a' := ?_) #[true, true, true, true, true, true, true, true, true, true, false, false, false, false, false, false, false, false] rfl rfl (any_of HT_.out (by kernel_rfl)) (fun _ _ _ h => h) (Or.inl ⟨by rfl, ?_⟩) ?_ ?_
                      rotate_left
                      · intro w'
                        go_simp
                        with_reducible rfl
                      rotate_left
                      · simp only [Act.put, List.setIfInBounds_toArray, List.set_cons_zero, List.set_cons_succ, i64_w, i32_w]
                        rfl
                      refine pure_ (i := 10) (N := some 71) (v := ?_) (a' := ?_) #[true, true, true, true, true, true, true, true, true, true, true, false, false, false, false, false, false, false] rfl rfl (any_of HT_.out (by kernel_rfl)) (fun _ _ _ h => h) (Or.inl ⟨by rfl, ?_⟩) ?_ ?_
                      rotate_left
                      · intro w'
                        go_simp
                        with_reducible rfl
                      rotate_left
                      · simp only [Act.put, List.setIfInBounds_toArray, List.set_cons_zero, List.set_cons_succ, i64_w, i32_w]
                        rfl
                      refine pure_ (i := 11) (N := some 72) (v := ?_) (a' := ?_) #[true, true, true, true, true, true, true, true, true, true, true, true, false, false, false, false, false, false] rfl rfl (any_of HT_.out (by kernel_rfl)) (fun _ _ _ h => h) (Or.inl ⟨by rfl, ?_⟩) ?_ ?_
                      rotate_left
                      · intro w'
                        go_simp
                        with_reducible rfl
                      rotate_left
                      · simp only [Act.put, List.setIfInBounds_toArray, List.set_cons_zero, List.set_cons_succ, i64_w, i32_w]
                        rfl
                      refine pure_ (i := 12) (N := some 73) (v := ?_) (a' := ?_) #[true, true, true, true, true, true, true, true, true, true, true, true, true, false, false, false, false, false] rfl rfl (any_of HT_.out (by kernel_rfl)) (fun _ _ _ h => h) (Or.inl ⟨by rfl, ?_⟩) ?_ ?_
                      rotate_left
                      · intro w'
                        go_simp
                        with_reducible rfl
                      rotate_left
                      · simp only [Act.put, List.setIfInBounds_toArray, List.set_cons_zero, List.set_cons_succ, i64_w, i32_w]
                        rfl
                      refine one_ (i := 13) (N := some 74) #[true, true, true, true, true, true, true, true, true, true, true, true, true, true, false, false, false, false] rfl rfl (one_of HT_.out (by kernel_rfl)) (by decide) (fun K hK => ?_)
                      refine goes_ Tryd.func42 (by kernel_rfl) rfl #[.slice (some ad665) t637.length co7, .slice Ao51 x7_2.length co51, .int .i64 t639] (by rfl) rfl rfl (by (try simp only [List.map_toArray, List.map_cons, List.map_nil]); first | done | rfl | (simp only [List.length_drop, List.length_take]; rfl)) ?_
                      with_reducible refine (impl_WaitsFor.calls _ _ t637 _ _ x7_2 t639 t667 _ ?side1 ?side2 ?side3 ?side4 ?side5 A47.out).mono ?_
                      (case side1 => repeat (first | exact (Kd.S_reads' HO_3.out).2.2 | (with_reducible refine Kd.C_alloc ?_ _) | (with_reducible refine Kd.C_drewN ?_ _) | (with_reducible refine Kd.C_drew ?_)))
                      (case side2 => exact (Kd.S_reads' HO_3.out).2.1)
                      (case side3 => repeat (first | exact (Kd.R_reads' HO_7.out).2.2 | (with_reducible refine Kd.C_alloc ?_ _) | (with_reducible refine Kd.C_drewN ?_ _) | (with_reducible refine Kd.C_drew ?_)))
                      (case side4 => exact (Kd.R_reads' HO_7.out).2.1)
                      (case side5 => exact Tab.of HT.out (by repeat (first | (with_reducible first | exact HB.out | apply below_alloc | apply pw_below_drewN | apply below_drew1) | exact HB.out)))
                      rintro e w52 ⟨v668, rfl, ho0, hb⟩
                      have HS0_ := (hb.cell (World.block_lt_of_cell? _ _ (hHeld.1))).trans (hHeld.1)
                      have HS1_ := (hb.cell (World.block_lt_of_cell? _ _ (hHeld.2.1))).trans (hHeld.2.1)
                      have HS2_ := (hb.cell (World.block_lt_of_cell? _ _ (hHeld.2.2.1))).trans (hHeld.2.2.1)
                      have HS3_ := (hb.cell (World.block_lt_of_cell? _ _ (hHeld.2.2.2))).trans (hHeld.2.2.2)
                      refine ⟨_, rfl, ?_⟩
                      have n0_ := Aside0.mk (Kd.S_elder' (by (with_reducible repeat (first | apply Kd.S_alloc | apply Kd.S_drewN | apply Kd.S_drew)); exact HO_3.out) (Kd.R_base ho0) hb)
                      have n1_ := Aside0.mk (Kd.R_elder' (by (with_reducible repeat (first | apply Kd.R_alloc | apply Kd.R_drewN | apply Kd.R_drew)); exact HO_7.out) (Kd.R_base ho0) hb)
                      have n2_ := Aside0.mk (Kd.Q_elder' (by (with_reducible repeat (first | apply Kd.Q_alloc | apply Kd.Q_drewN | apply Kd.Q_drew)); exact HL665_1.out) (Kd.R_base ho0) hb)
                      have n3_ := Aside0.mk (Kd.R_elder' (by (with_reducible repeat (first | apply Kd.R_alloc | apply Kd.R_drewN | apply Kd.R_drew)); exact HO664.out) (Kd.R_base ho0) hb)
                      have n4_ := Aside0.mk (Kd.R_lower (Kd.R_new' (Kd.R_new' (Kd.R_new' ho0 (Kd.R_lt (by (with_reducible repeat (first | apply Kd.Q_alloc | apply Kd.Q_drewN | apply Kd.Q_drew)); exact HO_7.out))) (Kd.Q_lt (by (with_reducible repeat (first | apply Kd.Q_alloc | apply Kd.Q_drewN | apply Kd.Q_drew)); exact HL665_1.out))) (Kd.R_lt (by (with_reducible repeat (first | apply Kd.Q_alloc | apply Kd.Q_drewN | apply Kd.Q_drew)); exact HO664.out))) (below_size (by repeat (first | (with_reducible first | exact HB.out | apply below_alloc | apply pw_below_drewN | apply below_drew1) | exact HB.out))))
                      have n5_ := Aside0.mk (Kd.C_below (by repeat (first | (with_reducible exact HR665_1.out) | (with_reducible refine Kd.C_alloc ?_ _) | (with_reducible refine Kd.C_drewN ?_ _) | (with_reducible refine Kd.C_drew ?_) | exact HR665_1.out)) hb)
                      have n6_ := Aside0.mk (below_step (by repeat (first | (with_reducible first | exact HB.out | apply below_alloc | apply pw_below_drewN | apply below_drew1) | exact HB.out)) hb)
                      clear HO_3
                      clear HO_7
                      clear HL665_1
                      clear HO664
                      clear HR665_1
                      clear HB
                      have HO_3 := n0_
                      have HO_7 := n1_
                      have HL665_1 := n2_
                      have HO664 := n3_
                      have HO669 := n4_
                      have HR665_1 := n5_
                      have HB := n6_
                      clear n0_ n1_ n2_ n3_ n4_ n5_ n6_
                      (try clear hb)
                      (try clear hb2)
                      (try clear hk)
                      (try clear hi)
                      (try clear ho0)
                      obtain ⟨Ao53, co53, eo53⟩ := Kd.R_slice HO669.out
                      (first | subst eo53 | (injection eo53 with f1_ f2_ f3_; have f4_ := f1_.symm; have f5_ := f3_.symm; clear f1_ f2_ f3_; subst f4_; subst f5_))
                      refine hK.out _ _ ⟨HS0_, HS1_, HS2_, HS3_⟩ (fun hHeld => ?_)
                      clear hK K
                      refine norm_ (a' := ?_) ?_ ?_
                      rotate_left
                      · show Act.put _ (some 74) _ = _
                        simp only [Act.put, List.setIfInBounds_toArray, List.set_cons_zero, List.set_cons_succ, i64_w, i32_w]
                        rfl
                      refine pure_ (i := 14) (N := some 75) (v := ?_) (a' := ?_) #[true, true, true, true, true, true, true, true, true, true, true, true, true, true, true, false, false, false] rfl rfl (any_of HT_.out (by kernel_rfl)) (fun _ _ _ h => h) (Or.inl ⟨by rfl, ?_⟩) ?_ ?_
                      rotate_left
                      · intro w'
                        go_simp
                        with_reducible rfl
                      rotate_left
                      · simp only [Act.put, List.setIfInBounds_toArray, List.set_cons_zero, List.set_cons_succ, i64_w, i32_w]
                        rfl
                      refine pure_ (i := 15) (N := some 76) (v := ?_) (a' := ?_) #[true, true, true, true, true, true, true, true, true, true, true, true, true, true, true, true, false, false] rfl rfl (any_of HT_.out (by kernel_rfl)) (fun _ _ _ h => h) (Or.inl ⟨by rfl, ?_⟩) ?_ ?_
                      rotate_left
                      · intro w'
                        go_simp
                        with_reducible rfl
                      rotate_left
                      · simp only [Act.put, List.setIfInBounds_toArray, List.set_cons_zero, List.set_cons_succ, i64_w, i32_w]
                        rfl
                      refine pure_ (i := 16) (N := some 77) (v := ?_) (a' := ?_) #[true, true, true, true, true, true, true, true, true, true, true, true, true, true, true, true, true, false] rfl rfl (any_of HT_.out (by kernel_rfl)) (fun _ _ _ h => h) (Or.inl ⟨by rfl, ?_⟩) ?_ ?_
                      rotate_left
                      · intro w'
                        go_simp
                        with_reducible rfl
                      rotate_left
                      · simp only [Act.put, List.setIfInBounds_toArray, List.set_cons_zero, List.set_cons_succ, i64_w, i32_w]
                        rfl
                      refine pure_ (i := 17) (N := some 2) (v := ?_) (a' := ?_) #[true, true, true, true, true, true, true, true, true, true, true, true, true, true, true, true, true, true] rfl rfl (any_of HT_.out (by kernel_rfl)) (fun _ _ _ h => h) (Or.inl ⟨by rfl, ?_⟩) ?_ ?_
                      rotate_left
                      · intro w'
                        go_simp
                        with_reducible rfl
                      rotate_left
                      · simp only [Act.put, List.setIfInBounds_toArray, List.set_cons_zero, List.set_cons_succ, i64_w, i32_w]
                        rfl
                      refine done_ (done_of HT_.out (by kernel_rfl)) ?_
                      try go_wp2
                      go_ret
                      exact ⟨by first | rfl | (simp [errW_none, errW_some] <;> rfl) | (simp [*, errW_none, errW_some] <;> rfl), by repeat (first | (with_reducible first | exact HB.out | apply below_alloc | apply pw_below_drewN | apply below_drew1) | exact HB.out)⟩
                    · replace c46 := Bool.eq_false_iff.mpr c46
                      subst c46
                      have H1 : (some false) = some r := by rw [if_neg (show ¬ (false = true) by decide)] at H; exact H
                      clear H
                      have H := H1
                      clear H1
                      obtain rfl := Option.some.inj H
                      try go_wp2
                      have n0_ := Aside0.mk (Kd.S_drew HO_3.out)
                      have n1_ := Aside0.mk (Kd.R_drew HO_7.out)
                      have n2_ := Aside0.mk (below_drew1 HB.out)
                      clear HO_3
                      clear HO_7
                      clear HB
                      have HO_3 := n0_
                      have HO_7 := n1_
                      have HB := n2_
                      clear n0_ n1_ n2_
                      have p665 : 0 ≤ (t639 : Int) := of_decide_eq_true (by first | (with_reducible assumption) | assumption)
                      have q665 : t639 < (t637.length : Int) := of_decide_eq_true (by first | (with_reducible assumption) | assumption)
                      obtain ⟨ad665, A665_1, c665_1, e665, hx665_0, hx665_1, hx665_2, hx665_3, hl665_1, hi665_1⟩ := at_T37 (Kd.S_reads' HO_3.out).2.2 t639 p665 q665
                      cases e665
                      obtain ⟨ce665, hce665, hMe665, hcc665⟩ := Kd.S_get HO_3.out z37 t639 p665 (by first | exact q665 | exact of_decide_eq_true (by first | (with_reducible assumption) | assumption) | (have e_ := (Kd.S_reads' HO_3.out).1; omega))
                      obtain ⟨ve665_1, rfl, ge665_1⟩ := k37_openM hMe665
                      have hv665_1 := hcc665 1 _ rfl
                      rw [add_field _ _ 1 (by omega)] at hv665_1
                      replace hv665_1 := Option.some.inj (hv665_1.symm.trans hx665_1)
                      rw [hv665_1] at ge665_1
                      have HL665_1 := Aside0.mk (show Kd.Q (Kd.int .i64) 3 _ _ _ _ ((rd_T37 t637 t639).f1) from ge665_1)
                      clear hv665_1 ge665_1
                      clear hcc665 hce665
                      have HR665_1 := Aside0.mk hi665_1
                      have HC665_1 := Aside0.mk hl665_1
                      clear hi665_1 hl665_1
                      replace p665 := eq_true p665
                      replace q665 := eq_true q665
                      refine start_ (n := 18) (S := fun w' => w'.cell? (ad665.add ((t639).toNat * 4)) = some (.int .i64 ((rd_T37 t637 t639).f0)) ∧ w'.cell? ⟨(ad665.add ((t639).toNat * 4)).block, (ad665.add ((t639).toNat * 4)).off + 1, none⟩ = some (.slice A665_1 ((rd_T37 t637 t639).f1).length c665_1) ∧ w'.cell? ⟨(ad665.add ((t639).toNat * 4)).block, (ad665.add ((t639).toNat * 4)).off + 2, none⟩ = some (.int .i64 ((rd_T37 t637 t639).f2)) ∧ w'.cell? ⟨(ad665.add ((t639).toNat * 4)).block, (ad665.add ((t639).toNat * 4)).off + 3, none⟩ = some (.int .i64 ((rd_T37 t637 t639).f3))) (ds := []) #[false, false, false, false, false, false, false, false, false, false, false, false, false, false, false, false, false, false] (by kernel_rfl) rfl rfl ⟨hx665_0, hx665_1, hx665_2, hx665_3⟩ (fun hHeld => ?_); refine with_tabW laws_FnWaitsForAll.tab12 laws_FnWaitsForAll.bits12 (fun HT_ HW_ => ?_)
                      generalize wr.drew = w54 at HO_3 HO_7 HB HL665_1 HR665_1 hx665_0 hx665_1 hx665_2 hx665_3 hHeld ⊢
                      refine pure_ (i := 0) (N := some 61) (v := ?_) (a' := ?_) #[true, false, false, false, false, false, false, false, false, false, false, false, false, false, false, false, false, false] rfl rfl (any_of HT_.out (by kernel_rfl)) (fun _ _ _ h => h) (Or.inl ⟨by rfl, ?_⟩) ?_ ?_
                      rotate_left
                      · intro w'
                        go_simp
                        with_reducible rfl
                      rotate_left
                      · simp only [Act.put, List.setIfInBounds_toArray, List.set_cons_zero, List.set_cons_succ, i64_w, i32_w]
                        rfl
                      refine pure_ (i := 1) (N := some 62) (v := ?_) (a' := ?_) #[true, true, false, false, false, false, false, false, false, false, false, false, false, false, false, false, false, false] rfl rfl (any_of HT_.out (by kernel_rfl)) (fun _ _ _ h => h) (Or.inl ⟨by rfl, ?_⟩) ?_ ?_
                      rotate_left
                      · intro w'
                        go_simp
                        with_reducible rfl
                      rotate_left
                      · simp only [Act.put, List.setIfInBounds_toArray, List.set_cons_zero, List.set_cons_succ, i64_w, i32_w]
                        rfl
                      refine pure_ (i := 3) (N := some 64) (v := ?_) (a' := ?_) #[true, true, false, true, false, false, false, false, false, false, false, false, false, false, false, false, false, false] rfl rfl (any_of HT_.out (by kernel_rfl)) (fun _ _ _ h => h) (Or.inl ⟨by rfl, ?_⟩) ?_ ?_
                      rotate_left
                      · intro w'
                        go_simp
                        with_reducible rfl
                      rotate_left
                      · simp only [Act.put, List.setIfInBounds_toArray, List.set_cons_zero, List.set_cons_succ, i64_w, i32_w]
                        rfl
                      refine pure_ (i := 4) (N := some 65) (v := ?_) (a' := ?_) #[true, true, false, true, true, false, false, false, false, false, false, false, false, false, false, false, false, false] rfl rfl (any_of HT_.out (by kernel_rfl)) (fun _ _ _ h => h) (Or.inl ⟨by rfl, ?_⟩) ?_ ?_
                      rotate_left
                      · intro w'
                        go_simp
                        with_reducible rfl
                      rotate_left
                      · simp only [Act.put, List.setIfInBounds_toArray, List.set_cons_zero, List.set_cons_succ, i64_w, i32_w]
                        rfl
                      refine pure_ (i := 5) (N := some 66) (v := ?_) (a' := ?_) #[true, true, false, true, true, true, false, false, false, false, false, false, false, false, false, false, false, false] rfl rfl (any_of HT_.out (by kernel_rfl)) (fun _ _ _ h => h) (Or.inl ⟨by rfl, ?_⟩) ?_ ?_
                      rotate_left
                      · intro w'
                        go_simp
                        with_reducible rfl
                      rotate_left
                      · simp only [Act.put, List.setIfInBounds_toArray, List.set_cons_zero, List.set_cons_succ, i64_w, i32_w]
                        rfl
                      refine pure_ (i := 6) (N := some 67) (v := ?_) (a' := ?_) #[true, true, false, true, true, true, true, false, false, false, false, false, false, false, false, false, false, false] rfl rfl (any_of HT_.out (by kernel_rfl)) (fun _ _ _ h => h) (Or.inl ⟨by rfl, ?_⟩) ?_ ?_
                      rotate_left
                      · intro w'
                        go_simp
                        with_reducible rfl
                      rotate_left
                      · simp only [Act.put, List.setIfInBounds_toArray, List.set_cons_zero, List.set_cons_succ, i64_w, i32_w]
                        rfl
                      refine take_ (i := 7) (N := some 68) (v := ?_) (a' := ?_) #[true, true, false, true, true, true, true, true, false, false, false, false, false, false, false, false, false, false] rfl rfl (take_ofW HT_.out HW_.out (by kernel_rfl)) (fun _ _ _ h => h) (Or.inl ⟨by rfl, ?_⟩) hHeld ?_ ?_
                      rotate_left
                      · rintro w' ⟨s0, s1, s2, s3⟩
                        go_simp
                        with_reducible rfl
                      rotate_left
                      · simp only [Act.put, List.setIfInBounds_toArray, List.set_cons_zero, List.set_cons_succ, i64_w, i32_w]
                        rfl
                      refine one_ (i := 2) (N := some 63) #[true, true, true, true, true, true, true, true, false, false, false, false, false, false, false, false, false, false] rfl rfl (one_of HT_.out (by kernel_rfl)) (by decide) (fun K hK => ?_)
                      refine goes_ Tryd.func42 (by kernel_rfl) rfl #[.slice (some ad665) t637.length co7, .slice none 0 0, .int .i64 t639] (by rfl) rfl rfl (by (try simp only [List.map_toArray, List.map_cons, List.map_nil]); first | done | rfl | (simp only [List.length_drop, List.length_take]; rfl)) ?_
                      refine (impl_WaitsFor.calls _ _ t637 _ _ ([] : List Int) t639 t662 _ ?side1 ?side2 ?side3 ?side4 ?side5 A42.out).mono ?_
                      (case side1 => repeat (first | exact (Kd.S_reads' HO_3.out).2.2 | (with_reducible refine Kd.C_alloc ?_ _) | (with_reducible refine Kd.C_drewN ?_ _) | (with_reducible refine Kd.C_drew ?_)))
                      (case side2 => exact (Kd.S_reads' HO_3.out).2.1)
                      (case side3 => exact Kd.C_nil _ _)
                      (case side4 => exact Nat.le_refl _)
                      (case side5 => exact Tab.of HT.out (by repeat (first | (with_reducible first | exact HB.out | apply below_alloc | apply pw_below_drewN | apply below_drew1) | exact HB.out)))
                      rintro e w55 ⟨v663, rfl, ho0, hb⟩
                      have HS0_ := (hb.cell (World.block_lt_of_cell? _ _ (hHeld.1))).trans (hHeld.1)
                      have HS1_ := (hb.cell (World.block_lt_of_cell? _ _ (hHeld.2.1))).trans (hHeld.2.1)
                      have HS2_ := (hb.cell (World.block_lt_of_cell? _ _ (hHeld.2.2.1))).trans (hHeld.2.2.1)
                      have HS3_ := (hb.cell (World.block_lt_of_cell? _ _ (hHeld.2.2.2))).trans (hHeld.2.2.2)
                      refine ⟨_, rfl, ?_⟩
                      have n0_ := Aside0.mk (Kd.S_elder' (by (with_reducible repeat (first | apply Kd.S_alloc | apply Kd.S_drewN | apply Kd.S_drew)); exact HO_3.out) (Kd.R_base ho0) hb)
                      have n1_ := Aside0.mk (Kd.R_elder' (by (with_reducible repeat (first | apply Kd.R_alloc | apply Kd.R_drewN | apply Kd.R_drew)); exact HO_7.out) (Kd.R_base ho0) hb)
                      have n2_ := Aside0.mk (Kd.Q_elder' (by (with_reducible repeat (first | apply Kd.Q_alloc | apply Kd.Q_drewN | apply Kd.Q_drew)); exact HL665_1.out) (Kd.R_base ho0) hb)
                      have n3_ := Aside0.mk (Kd.R_lower (Kd.R_new' (Kd.R_new' ho0 (Kd.R_lt (by (with_reducible repeat (first | apply Kd.Q_alloc | apply Kd.Q_drewN | apply Kd.Q_drew)); exact HO_7.out))) (Kd.Q_lt (by (with_reducible repeat (first | apply Kd.Q_alloc | apply Kd.Q_drewN | apply Kd.Q_drew)); exact HL665_1.out))) (below_size (by repeat (first | (with_reducible first | exact HB.out | apply below_alloc | apply pw_below_drewN | apply below_drew1) | exact HB.out))))
                      have n4_ := Aside0.mk (Kd.C_below (by repeat (first | (with_reducible exact HR665_1.out) | (with_reducible refine Kd.C_alloc ?_ _) | (with_reducible refine Kd.C_drewN ?_ _) | (with_reducible refine Kd.C_drew ?_) | exact HR665_1.out)) hb)
                      have n5_ := Aside0.mk (below_step (by repeat (first | (with_reducible first | exact HB.out | apply below_alloc | apply pw_below_drewN | apply below_drew1) | exact HB.out)) hb)
                      clear HO_3
                      clear HO_7
                      clear HL665_1
                      clear HR665_1
                      clear HB
                      have HO_3 := n0_
                      have HO_7 := n1_
                      have HL665_1 := n2_
                      have HO664 := n3_
                      have HR665_1 := n4_
                      have HB := n5_
                      clear n0_ n1_ n2_ n3_ n4_ n5_
                      (try clear hb)
                      (try clear hb2)
                      (try clear hk)
                      (try clear hi)
                      (try clear ho0)
                      obtain ⟨Ao56, co56, eo56⟩ := Kd.R_slice HO664.out
                      (first | subst eo56 | (injection eo56 with f1_ f2_ f3_; have f4_ := f1_.symm; have f5_ := f3_.symm; clear f1_ f2_ f3_; subst f4_; subst f5_))
                      refine hK.out _ _ ⟨HS0_, HS1_, HS2_, HS3_⟩ (fun hHeld => ?_)
                      clear hK K
                      refine norm_ (a' := ?_) ?_ ?_
                      rotate_left
                      · show Act.put _ (some 63) _ = _
                        simp only [Act.put, List.setIfInBounds_toArray, List.set_cons_zero, List.set_cons_succ, i64_w, i32_w]
                        rfl
                      refine one_ (i := 8) (N := some 69) #[true, true, true, true, true, true, true, true, true, false, false, false, false, false, false, false, false, false] rfl rfl (one_of HT_.out (by kernel_rfl)) (by decide) (fun K hK => ?_)
                      refine goes_ Tryd.func33 (by kernel_rfl) rfl #[.slice Ao56 t662.length co56, .slice A665_1 ((rd_T37 t637 t639).f1).length c665_1] (by rfl) rfl rfl (by (try simp only [List.map_toArray, List.map_cons, List.map_nil]); first | done | rfl | (simp only [List.length_drop, List.length_take]; rfl)) ?_
                      with_reducible refine (laws_equalInts.calls k2 _ _ t662 _ _ ((rd_T37 t637 t639).f1) false _ ?side1 ?side2 ?side3 ?side4 A45.out).mono ?_
                      (case side1 => repeat (first | exact (Kd.R_reads' HO664.out).2.2 | (with_reducible refine Kd.C_alloc ?_ _) | (with_reducible refine Kd.C_drewN ?_ _) | (with_reducible refine Kd.C_drew ?_)))
                      (case side2 => exact (Kd.R_reads' HO664.out).2.1)
                      (case side3 => repeat (first | exact (by repeat (first | (with_reducible exact HR665_1.out) | (with_reducible refine Kd.C_alloc ?_ _) | (with_reducible refine Kd.C_drewN ?_ _) | (with_reducible refine Kd.C_drew ?_) | exact HR665_1.out)) | (with_reducible refine Kd.C_alloc ?_ _) | (with_reducible refine Kd.C_drewN ?_ _) | (with_reducible refine Kd.C_drew ?_)))
                      (case side4 => exact HC665_1.out)
                      rintro e w' ⟨rfl, ⟨nd, rfl⟩⟩
                      refine ⟨_, rfl, ?_⟩
                      refine hK.out _ _ ⟨hHeld.1, hHeld.2.1, hHeld.2.2.1, hHeld.2.2.2⟩ (fun hHeld => ?_)
                      clear hK K
                      refine norm_ (a' := ?_) ?_ ?_
                      rotate_left
                      · show Act.put _ (some 69) _ = _
                        simp only [Act.put, List.setIfInBounds_toArray, List.set_cons_zero, List.set_cons_succ, i64_w, i32_w]
                        rfl
                      refine pure_ (i := 9) (N := some 70) (v := ?_) (a' := ?_) #[true, true, true, true, true, true, true, true, true, true, false, false, false, false, false, false, false, false] rfl rfl (any_of HT_.out (by kernel_rfl)) (fun _ _ _ h => h) (Or.inl ⟨by rfl, ?_⟩) ?_ ?_
                      rotate_left
                      · intro w'
                        go_simp
                        with_reducible rfl
                      rotate_left
                      · simp only [Act.put, List.setIfInBounds_toArray, List.set_cons_zero, List.set_cons_succ, i64_w, i32_w]
                        rfl
                      refine pure_ (i := 10) (N := some 71) (v := undef) (a' := ?_) #[true, true, true, true, true, true, true, true, true, true, true, false, false, false, false, false, false, false] rfl rfl (any_of HT_.out (by kernel_rfl)) (fun _ _ _ h => h) (Or.inr ⟨by rfl, rfl⟩) ?_ ?_
                      rotate_left
                      · simp only [Act.put, List.setIfInBounds_toArray, List.set_cons_zero, List.set_cons_succ, i64_w, i32_w]
                        rfl
                      refine pure_ (i := 11) (N := some 72) (v := undef) (a' := ?_) #[true, true, true, true, true, true, true, true, true, true, true, true, false, false, false, false, false, false] rfl rfl (any_of HT_.out (by kernel_rfl)) (fun _ _ _ h => h) (Or.inr ⟨by rfl, rfl⟩) ?_ ?_
                      rotate_left
                      · simp only [Act.put, List.setIfInBounds_toArray, List.set_cons_zero, List.set_cons_succ, i64_w, i32_w]
                        rfl
                      refine pure_ (i := 12) (N := some 73) (v := undef) (a' := ?_) #[true, true, true, true, true, true, true, true, true, true, true, true, true, false, false, false, false, false] rfl rfl (any_of HT_.out (by kernel_rfl)) (fun _ _ _ h => h) (Or.inr ⟨by rfl, rfl⟩) ?_ ?_
                      rotate_left
                      · simp only [Act.put, List.setIfInBounds_toArray, List.set_cons_zero, List.set_cons_succ, i64_w, i32_w]
                        rfl
                      refine pure_ (i := 13) (N := some 74) (v := undef) (a' := ?_) #[true, true, true, true, true, true, true, true, true, true, true, true, true, true, false, false, false, false] rfl rfl (any_of HT_.out (by kernel_rfl)) (fun _ _ _ h => h) (Or.inr ⟨by rfl, rfl⟩) ?_ ?_
                      rotate_left
                      · simp only [Act.put, List.setIfInBounds_toArray, List.set_cons_zero, List.set_cons_succ, i64_w, i32_w]
                        rfl
                      refine pure_ (i := 14) (N := some 75) (v := undef) (a' := ?_) #[true, true, true, true, true, true, true, true, true, true, true, true, true, true, true, false, false, false] rfl rfl (any_of HT_.out (by kernel_rfl)) (fun _ _ _ h => h) (Or.inr ⟨by rfl, rfl⟩) ?_ ?_
                      rotate_left
                      · simp only [Act.put, List.setIfInBounds_toArray, List.set_cons_zero, List.set_cons_succ, i64_w, i32_w]
                        rfl
                      refine pure_ (i := 15) (N := some 76) (v := undef) (a' := ?_) #[true, true, true, true, true, true, true, true, true, true, true, true, true, true, true, true, false, false] rfl rfl (any_of HT_.out (by kernel_rfl)) (fun _ _ _ h => h) (Or.inr ⟨by rfl, rfl⟩) ?_ ?_
                      rotate_left
                      · simp only [Act.put, List.setIfInBounds_toArray, List.set_cons_zero, List.set_cons_succ, i64_w, i32_w]
                        rfl
                      refine pure_ (i := 16) (N := some 77) (v := ?_) (a' := ?_) #[true, true, true, true, true, true, true, true, true, true, true, true, true, true, true, true, true, false] rfl rfl (any_of HT_.out (by kernel_rfl)) (fun _ _ _ h => h) (Or.inl ⟨by rfl, ?_⟩) ?_ ?_
                      rotate_left
                      · intro w'
                        go_simp
                        with_reducible rfl
                      rotate_left
                      · simp only [Act.put, List.setIfInBounds_toArray, List.set_cons_zero, List.set_cons_succ, i64_w, i32_w]
                        rfl
                      refine pure_ (i := 17) (N := some 2) (v := ?_) (a' := ?_) #[true, true, true, true, true, true, true, true, true, true, true, true, true, true, true, true, true, true] rfl rfl (any_of HT_.out (by kernel_rfl)) (fun _ _ _ h => h) (Or.inl ⟨by rfl, ?_⟩) ?_ ?_
                      rotate_left
                      · intro w'
                        go_simp
                        with_reducible rfl
                      rotate_left
                      · simp only [Act.put, List.setIfInBounds_toArray, List.set_cons_zero, List.set_cons_succ, i64_w, i32_w]
                        rfl
                      refine done_ (done_of HT_.out (by kernel_rfl)) ?_
                      try go_wp2
                      go_ret
                      exact ⟨by first | rfl | (simp [errW_none, errW_some] <;> rfl) | (simp [*, errW_none, errW_some] <;> rfl), by repeat (first | (with_reducible first | exact HB.out | apply below_alloc | apply pw_below_drewN | apply below_drew1) | exact HB.out)⟩
                  · rw [if_neg c44] at H
                    exact absurd H (by simp)
                · rw [if_neg c43] at H
                  exact absurd H (by simp)
end Go.Proofs.YtekajandipdlhaaDoor.P
end
section
set_option linter.unusedVariables false
set_option linter.unusedSimpArgs false
namespace Go.Proofs.YtekajandipdlhaaDoor.Core
open Go Go.RowKit Go.Proofs.YtekajandipdlhaaDoorW.PrintWords Go.Proofs.YtekajandipdlhaaDoorW.PrintMore Go.Proofs.YtekajandipdlhaaDoor.P
theorem waitsD_length (g : List Tk) (l : List Int) (x : Int) : (waitsD g l x).length ≤ 8 := by
  unfold waitsD
  cases doneD g l with
  | none => simp
  | some GS =>
    simp only []
    split
    · rw [show elems (sub (GS.1.needs.getD x.toNat 0) GS.2) = up (elemsN (sub (GS.1.needs.getD x.toNat 0) GS.2)) from rfl, up_length]; exact elemsN_length _
    · simp
theorem waitsD_some {g : List Tk} {l : List Int} {G : GD} {s i : Nat} (h : doneD g l = some (G, s)) (hi : i < g.length) : waitsD g l (i : Int) = up (elemsN (sub (G.needs.getD i 0) s)) := by
  obtain ⟨v, -⟩ := done_list h
  unfold waitsD
  rw [h]
  simp only []
  rw [if_pos (by rw [v.tasks]; omega), Int.toNat_natCast]
  rfl
theorem elemsN_sub {a b : Nat} (ha : a < 256) (hb : b < 256) : elemsN (sub a b) = (elemsN a).filter (fun i => !b.testBit i) := by
  unfold elemsN
  rw [List.filter_filter]
  refine List.filter_congr fun i _ => ?_
  rw [sub_testBit ha hb, Bool.and_comm]
theorem ev_waits_from {g : List Tk} {x : Nat} (hx : x < g.length) (L : List Nat) (hf : (g.getD x z37).f1 = up L) (hL8 : L.length ≤ 8) (D : List Nat) (d : Nat) (hD : D.length ≤ 100) (hd : ∀ i, d.testBit i = true ↔ i ∈ D) :
    ∀ (r pre : List Nat), L = pre ++ r → Ev (fun k => spec_WaitsFor.l0 k g (up D) (x : Int) (up (pre.filter (fun i => !d.testBit i))) (pre.length : Int)) (up (L.filter (fun i => !d.testBit i)))
  | [], pre, hp => by
    rw [List.append_nil] at hp
    subst hp
    refine Ev.succ ?_
    simp only [spec_WaitsFor.l0, rdT_nat, hf]
    exact Ev.pos (by omega) (Ev.pos (by omega) (Ev.neg (by rw [up_length]; omega) (Ev.const _)))
  | i :: r, pre, hp => by
    have hlen2 : L.length = pre.length + (r.length + 1) := by rw [hp]; simp
    have hrd : rd (up L) (pre.length : Int) = (i : Int) := by rw [rd_up (i := pre.length) rfl, hp]; simp
    have hw : wrap64 ((pre.length : Int) + 1) = ((pre ++ [i]).length : Int) := by rw [w64s (by unfold big; omega)]; simp
    have hin := ev_isIn (L := up D) (by rw [up_length]; unfold big; omega) (i : Int)
    have e1 : decide ((i : Int) ∈ up D) = d.testBit i := by rw [Bool.eq_iff_iff, decide_eq_true_eq, mem_up, hd]
    rw [e1] at hin
    have hnext := ev_waits_from hx L hf hL8 D d hD hd r (pre ++ [i]) (by rw [hp]; simp)
    rw [List.filter_append] at hnext
    have hfl := List.length_filter_le (fun i => !d.testBit i) pre
    refine Ev.succ ?_
    simp only [spec_WaitsFor.l0, rdT_nat, hf, hrd, hw]
    refine Ev.pos (by omega) (Ev.pos (by omega) (Ev.pos (by rw [up_length]; omega) (Ev.pos (by omega) (Ev.bind hin ?_))))
    cases hb : d.testBit i with
    | true =>
      rw [List.filter_cons_of_neg (by simp [hb]), List.filter_nil, List.append_nil] at hnext
      exact Ev.pos rfl hnext
    | false =>
      rw [List.filter_cons_of_pos (by simp [hb]), List.filter_nil] at hnext
      have e3 : up (pre.filter (fun i => !d.testBit i) ++ [i]) = up (pre.filter (fun i => !d.testBit i)) ++ [(i : Int)] := by simp [up]
      rw [e3] at hnext
      exact Ev.neg (by simp) (Ev.pos (by rw [up_length]; omega) hnext)
theorem ev_WaitsFor {g : List Tk} (hg : Fits g) {l : List Int} (hl : l.length < big) (x : Int) : Ev (fun k => spec_WaitsFor.f k g l x) (waitsD g l x) := by
  unfold spec_WaitsFor.f waitsD
  refine Ev.bind (Ev.const _) (Ev.bind (ev_validDone hg hl) ?_)
  cases h : doneD g l with
  | none =>
    refine Ev.neg (by simp) (Ev.succ ?_)
    simp only [spec_WaitsFor.j0]
    exact Ev.pos (by first | rfl | trivial) (Ev.const _)
  | some GS =>
    obtain ⟨G, s⟩ := GS
    obtain ⟨v, hG, hs, rfl, _, _⟩ := done_list h
    have h8 := v.n8
    have hw : wrap64 ((g.length : Int) - 1) = (g.length : Int) - 1 := w64 (by omega) (by omega)
    simp only [hw, inRange_eq]
    refine Ev.pos (by first | rfl | trivial) (Ev.bind (Ev.const (decide (0 ≤ x ∧ x ≤ (g.length : Int) - 1))) (Ev.succ ?_))
    simp only [spec_WaitsFor.j0]
    rw [v.tasks]
    by_cases hx : 0 ≤ x ∧ x ≤ (g.length : Int) - 1
    · rw [if_pos hx, decide_eq_true hx]
      obtain ⟨i, rfl⟩ := Int.eq_ofNat_of_zero_le hx.1
      have hi : i < g.length := by omega
      refine Ev.neg (by simp) ?_
      have h256 := pow8 h8
      have hnb := Nat.lt_of_lt_of_le (getD_lt (graphD_ok hG).nb i) (by rw [v.tasks]; exact h256)
      have key := ev_waits_from hi (elemsN (G.needs.getD i 0)) (v.list hi) (elemsN_length _) (elemsN s) s (by have := elemsN_length s; omega) (v.list_bit hs) (elemsN (G.needs.getD i 0)) [] rfl
      rw [← elemsN_sub hnb (Nat.lt_of_lt_of_le hs h256)] at key
      rw [Int.toNat_natCast]
      exact key
    · rw [if_neg hx, decide_eq_false hx]
      exact Ev.pos (by first | rfl | trivial) (Ev.const _)
end Go.Proofs.YtekajandipdlhaaDoor.Core
end
section
set_option linter.unusedVariables false
set_option linter.unusedSimpArgs false
namespace Go.Proofs.YtekajandipdlhaaDoor.Core
open Go Go.RowKit Go.Proofs.YtekajandipdlhaaDoorW.PrintWords Go.Proofs.YtekajandipdlhaaDoorW.PrintMore Go.Proofs.YtekajandipdlhaaDoor.P
theorem FnWaitsForAll_pure (l0 : List Int) (hW : Bytes l0) : ∃ k, laws_FnWaitsForAll.f k l0 = some true := by
  refine Ev.one (f := fun k => laws_FnWaitsForAll.f k l0) (EvP.ev ?_)
  unfold laws_FnWaitsForAll.f
  refine EvP.ite (fun _ => EvP.ret rfl) (fun hlen => ?_)
  refine (ev_DrawWaitsFor hW).bind fun ⟨g, l, x⟩ hg => ?_
  obtain ⟨hg, hl, hx1, hx2⟩ := hg
  dsimp only at hg hl hx1 hx2 ⊢
  have hf := hg.fits (by unfold big; omega) (by unfold big; omega)
  have hs := ev_WaitsFor hf (l := l) (by unfold big; omega) x
  have hl8 := waitsD_length g l x
  have he := ev_equalInts (a := waitsD g l x) (b := waitsD g l x) (by omega)
  rw [decide_eq_true rfl] at he
  have hno : EvP (fun k => laws_FnWaitsForAll.j0 k g l x (waitsD g l x) true) (fun x => x = true) := by
    refine EvP.succ ?_
    simp only [laws_FnWaitsForAll.j0]
    exact EvP.pos (by first | rfl | trivial) (Ev.bindP hs (Ev.bindP he (EvP.ret rfl)))
  refine Ev.bindP (Ev.const (waitsD g l x)) (Ev.bindP hs (Ev.bindP he (EvP.pos rfl (Ev.bindP (Ev.const (graphD g).isSome) ?_))))
  cases hG : graphD g with
  | none => exact EvP.neg (by simp) hno
  | some G =>
    refine EvP.pos (by first | rfl | trivial) (EvP.ite (fun _ => hno) (fun hx0 => ?_))
    by_cases hxg : x ≥ (g.length : Int)
    · rw [decide_eq_true hxg]; exact hno
    rw [decide_eq_false hxg]
    have v := vg_of hG
    have h8 := v.n8
    obtain ⟨i, rfl⟩ := Int.eq_ofNat_of_zero_le (show 0 ≤ x by omega)
    have hi : i < g.length := by omega
    have hz : 0 < 2 ^ g.length := Nat.two_pow_pos _
    have d0 : doneD g [] = some (G, 0) := doneD_mk hG hz ((v.closed_iff hz).2 (fun i hi => by simp at hi))
    have hfl : 2 ^ g.length - 1 < 2 ^ g.length := by omega
    have d1 : doneD g (up (List.range g.length)) = some (G, 2 ^ g.length - 1) := by
      rw [← elemsN_full h8]
      refine doneD_mk hG hfl ((v.closed_iff hfl).2 fun i hi j hj => ?_)
      rw [Nat.testBit_two_pow_sub_one]
      simpa using v.need_lt hj
    have h256 := pow8 h8
    have hnb := Nat.lt_of_lt_of_le (getD_lt (graphD_ok hG).nb i) (by rw [v.tasks]; exact h256)
    have w0 : waitsD g [] (i : Int) = (g.getD i z37).f1 := by
      rw [waitsD_some d0 hi, elemsN_sub hnb (by decide), v.list hi, List.filter_eq_self.2 (fun a _ => by simp)]
    have w1 : waitsD g (up (List.range g.length)) (i : Int) = [] := by
      rw [waitsD_some d1 hi, elemsN_sub hnb (Nat.lt_of_lt_of_le hfl h256)]
      rw [List.filter_eq_nil_iff.2]
      · rfl
      · intro a ha
        rw [Nat.testBit_two_pow_sub_one]
        have := v.need_lt (mem_elemsN.1 ha).2
        simp [this]
    have he2 := ev_equalInts (a := waitsD g [] (i : Int)) (b := waitsD g [] (i : Int)) (by have := waitsD_length g [] (i : Int); omega)
    rw [decide_eq_true rfl] at he2
    clear hfl hz h256 d0 d1 hnb
    refine EvP.succ ?_
    simp only [laws_FnWaitsForAll.j0]
    refine EvP.neg (by simp) ?_
    have key : ∀ (m j : Nat), j + m = g.length → EvP (fun k => laws_FnWaitsForAll.l0 k g (i : Int) (up (List.range j)) (j : Int)) (fun x => x = true) := by
      intro m
      induction m with
      | zero =>
        intro j hj
        have : j = g.length := by omega
        subst this
        refine EvP.succ ?_
        simp only [laws_FnWaitsForAll.l0, rdT_nat]
        refine EvP.neg (by omega) (Ev.bindP (Ev.const (waitsD g [] (i : Int))) (EvP.pos (by omega) (EvP.pos (by omega) ?_)))
        rw [← w0]
        exact Ev.bindP he2 (EvP.pos rfl (Ev.bindP (Ev.const (waitsD g (up (List.range g.length)) (i : Int))) (EvP.ret (by rw [w1]; rfl))))
      | succ m ih =>
        intro j hj
        have hw : wrap64 ((j : Int) + 1) = ((j + 1 : Nat) : Int) := w64s (by unfold big; omega)
        have e : up (List.range j) ++ [(j : Int)] = up (List.range (j + 1)) := by rw [List.range_succ]; simp [up]
        refine EvP.succ ?_
        simp only [laws_FnWaitsForAll.l0, hw, e]
        exact EvP.pos (by omega) (EvP.pos (by rw [up_length, List.length_range]; omega) (ih (j + 1) (by omega)))
    exact key g.length 0 (by omega)
end Go.Proofs.YtekajandipdlhaaDoor.Core
end
