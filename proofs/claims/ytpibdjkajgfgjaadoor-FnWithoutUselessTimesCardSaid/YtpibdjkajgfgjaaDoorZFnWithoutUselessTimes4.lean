/- The law FnWithoutUselessTimes holds of the given program: the proof's own part, with its row and its card, part 4 of 11. -/
import Derived.Test.YtpibdjkajgfgjaaDoorZFnWithoutUselessTimes3
namespace Go.Proofs.YtpibdjkajgfgjaaDoor.P
abbrev T4q : Bool := true
abbrev F4q : Bool := false
end Go.Proofs.YtpibdjkajgfgjaaDoor.P
section
namespace Go.Proofs.YtpibdjkajgfgjaaDoor.P
open Go.RowKit Go.Proofs.YtpibdjkajgfgjaaDoorW.PrintWords Go.Proofs.YtpibdjkajgfgjaaDoorW.PrintLast Go.Proofs.YtpibdjkajgfgjaaDoorW.PrintMore
attribute [local go_sem] max2_int min2_int max_two min_two max_three min_three max_four min_four   -- for this text's walks alone
set_option linter.unusedVariables false
set_option linter.unusedSimpArgs false
def laws_equalTasks.l0 : Nat → List (S48) → List (S48) → Int → Option (Bool)
 | 0, _, _, _ => none
 | k + 1, x0, x1, x5 => if x5 < (x0.length : Int) then (if 0 ≤ x5 then (if x5 < (x1.length : Int) then (if ((rd_T48 x0 x5).f0) = ((rd_T48 x1 x5).f0) then (if ((rd_T48 x0 x5).f2) = ((rd_T48 x1 x5).f2) then (if ((rd_T48 x0 x5).f3) = ((rd_T48 x1 x5).f3) then ((laws_equalInts.f k ((rd_T48 x0 x5).f1) ((rd_T48 x1 x5).f1)).bind fun t615 => (if t615 = true then (laws_equalTasks.l0 k x0 x1 (wrap64 (x5 + 1))) else (some false))) else (some false)) else (some false)) else (some false)) else (none)) else (none)) else (some true)
def laws_equalTasks.f (k : Nat) (l0 : List (S48)) (l1 : List (S48)) : Option (Bool) := if (l0.length : Int) = (l1.length : Int) then (laws_equalTasks.l0 k l0 l1 0) else (some false)
theorem laws_equalTasks.mono_l : ∀ k, (∀ y0 y1 y2, LeO (laws_equalTasks.l0 k y0 y1 y2) (laws_equalTasks.l0 (k + 1) y0 y1 y2))
 | 0 => fun _ _ _ r h => by simp [laws_equalTasks.l0] at h
 | k + 1 => by
  have ih0 := laws_equalTasks.mono_l k
  ·intro y0 y1 y2
   unfold laws_equalTasks.l0
   repeat' first
   | (with_reducible exact ih0 _ _ _)
   | (with_reducible exact laws_equalInts.mono _ _ _)
   | (with_reducible exact LeO.refl _)
   | (with_reducible exact LeO.none _)
   | (with_reducible refine LeO.ite ?_ ?_)
   | (with_reducible refine LeO.bind ?_ (fun _ => ?_))
   | exact ih0 _ _ _
   | exact laws_equalInts.mono _ _ _
   | exact LeO.none _
   | refine LeO.ite ?_ ?_
   | refine LeO.bind ?_ (fun _ => ?_)
theorem laws_equalTasks.mono : ∀ a0 a1 k, LeO (laws_equalTasks.f k a0 a1) (laws_equalTasks.f (k + 1) a0 a1) := by
 intro a0 a1 k
 have ih0 := laws_equalTasks.mono_l k
 unfold laws_equalTasks.f
 repeat' first
   | (with_reducible exact ih0 _ _ _)
   | (with_reducible exact laws_equalInts.mono _ _ _)
   | (with_reducible exact LeO.refl _)
   | (with_reducible exact LeO.none _)
   | (with_reducible refine LeO.ite ?_ ?_)
   | (with_reducible refine LeO.bind ?_ (fun _ => ?_))
   | exact ih0 _ _ _
   | exact laws_equalInts.mono _ _ _
   | exact LeO.none _
   | refine LeO.ite ?_ ?_
   | refine LeO.bind ?_ (fun _ => ?_)
def laws_equalTasks.T6 : Bool × List (List Nat × List Nat) := (true, [([], []), ([], []), ([0, 1], [0, 1]), ([2], [2]), ([3], [3]), ([], []), ([], []), ([5, 6], [5, 6]), ([7], [7]), ([8], [8]), ([4, 9], [4, 9]), ([10], [10]), ([11], [11]), ([11], [11]), ([12, 13, 11], [11, 12, 13]), ([14, 11], [11, 14]), ([15, 11], [11, 15]), ([11], [11]), ([11], [11]), ([17, 18, 11], [11, 17, 18]), ([19, 11], [11, 19]), ([20, 11], [11, 20]), ([16, 21, 11], [11, 16, 21]), ([11, 22], [11, 22]), ([23, 11], [23]), ([24], [24]), ([24], [24]), ([25, 26, 24], [24, 25, 26]), ([27, 24], [24, 27]), ([28, 24], [24, 28]), ([24], [24]), ([24], [24]), ([30, 31, 24], [24, 30, 31]), ([32, 24], [24, 32]), ([33, 24], [24, 33]), ([29, 34, 24], [24, 29, 34]), ([24, 35], [24, 35]), ([36, 24], [36]), ([37], [37]), ([37], [37]), ([38, 39, 37], [37, 38, 39]), ([40, 37], [37, 40]), ([41, 37], [37, 41]), ([37], [37]), ([37], [37]), ([43, 44, 37], [37, 43, 44]), ([45, 37], [37, 45]), ([46, 37], [37, 46]), ([42, 47, 37, 37], [37, 42, 47]), ([48, 37], [37, 48]), ([37, 49], [37, 49])])
def laws_equalTasks.B6 : List Nat := [0, 0, 3, 7, 15, 0, 0, 96, 224, 480, 1023, 2047, 4095, 4095, 16383, 32767, 65535, 4095, 4095, 397311, 921599, 1970175, 4194303, 8388607, 16777215, 33554431, 33554431, 134217727, 268435455, 536870911, 33554431, 33554431, 3254779903, 7549747199, 16139681791, 34359738367, 68719476735, 137438953471, 274877906943, 274877906943, 1099511627775, 2199023255551, 4398046511103, 274877906943, 274877906943, 26663156973567, 61847529062399, 132216273240063, 281474976710655, 562949953421311, 1125899906842623]
theorem laws_equalTasks.tab6 : rtab .any (opsOf Tryd.f41 6) = laws_equalTasks.T6 := by kernel_rfl
theorem laws_equalTasks.bits6 : waitsOk laws_equalTasks.T6.2 laws_equalTasks.B6 = true := by kernel_rfl
set_option maxHeartbeats 8000000 in
set_option maxRecDepth 100000 in
theorem laws_equalTasks.calls (k : Nat) (A0 : Option Addr) (c0 : Nat) (l0 : List (S48)) (A1 : Option Addr) (c1 : Nat) (l1 : List (S48)) (r : Bool) (w : World) (hr0 : Kd.C k48 w A0 l0.length l0) (hc0 : l0.length ≤ c0) (hr1 : Kd.C k48 w A1 l1.length l1) (hc1 : l1.length ≤ c1) (h : laws_equalTasks.f k l0 l1 = some r) :
  Calls Tryd.prog 41 #[.slice A0 l0.length c0, .slice A1 l1.length c1] w fun e w' => e = .returned (.bool r) ∧ Below w.heap.size w w' := by
 have HR0 := Aside0.mk hr0
 have HC0 := Aside0.mk hc0
 clear hr0 hc0
 have HR1 := Aside0.mk hr1
 have HC1 := Aside0.mk hc1
 clear hr1 hc1
 have HB := Aside0.mk (Below.refl w.heap.size w)
 have H : (if (l0.length : Int) = (l1.length : Int) then (laws_equalTasks.l0 k l0 l1 0) else (some false)) = some r := h
 clear h
 by_cases c3 : (l0.length : Int) = (l1.length : Int)
 ·rw [if_pos c3] at H
  have c3b0 : ((l0.length : Int) == (l1.length : Int)) = true := beq_iff_eq.mpr c3
  have c3b1 : ((l0.length : Int) != (l1.length : Int)) = false := bne_eq_false_iff_eq.mpr c3
  have c3b2 : (l0.length == l1.length) = true := by first | simpa using c3 | (simp at c3 ⊢; omega)
  clear c3
  have H' := Aside0.mk H
  clear H
  go_enter Tryd.func41, Tryd.ntmps41
  go_wp2
  go_loopg [5] k (fun kq v5 w' => ∃ (x5_1 : Int), v5 = .int .i64 x5_1 ∧ Aside0 (laws_equalTasks.l0 kq l0 l1 x5_1 = some r) ∧ Aside0 (kq ≤ k) ∧ Aside0 (Below w.heap.size w w'))
  case atStart => exact ⟨(0), (by first | rfl | (simp; done) | (simp [*]; done)), H', ⟨Nat.le_refl _⟩, ⟨by repeat (first | (with_reducible first | exact HB.out | apply below_alloc | apply pw_below_drewN | apply below_drew1) | exact HB.out)⟩⟩
  case round =>
   clear H'
   try clear c1
   try clear p2
   try clear c3
   try clear c3b0
   try clear c3b1
   try clear c3b2
   obtain ⟨x5_1, rfl, HA, HK1, HB⟩ := hrel
   cases gk with
   | zero => exact absurd HA.out (by simp [laws_equalTasks.l0])
   | succ k1 =>
    have H := HA.out
    clear HA
    simp only [laws_equalTasks.l0] at H
    by_cases c4 : x5_1 < (l0.length : Int)
    ·rw [if_pos c4] at H
     have c4b0 : decide (x5_1 < (l0.length : Int)) = true := decide_eq_true c4
     clear c4
     by_cases c5 : 0 ≤ x5_1
     ·rw [if_pos c5] at H
      have c5b0 : decide (0 ≤ x5_1) = true := decide_eq_true c5
      clear c5
      by_cases c6 : x5_1 < (l1.length : Int)
      ·rw [if_pos c6] at H
       have c6b0 : decide (x5_1 < (l1.length : Int)) = true := decide_eq_true c6
       clear c6
       by_cases c7 : ((rd_T48 l0 x5_1).f0) = ((rd_T48 l1 x5_1).f0)
       ·rw [if_pos c7] at H
        have c7b0 : (((rd_T48 l0 x5_1).f0) == ((rd_T48 l1 x5_1).f0)) = true := beq_iff_eq.mpr c7
        have c7b1 : (((rd_T48 l0 x5_1).f0) != ((rd_T48 l1 x5_1).f0)) = false := bne_eq_false_iff_eq.mpr c7
        clear c7
        by_cases c8 : ((rd_T48 l0 x5_1).f2) = ((rd_T48 l1 x5_1).f2)
        ·rw [if_pos c8] at H
         have c8b0 : (((rd_T48 l0 x5_1).f2) == ((rd_T48 l1 x5_1).f2)) = true := beq_iff_eq.mpr c8
         have c8b1 : (((rd_T48 l0 x5_1).f2) != ((rd_T48 l1 x5_1).f2)) = false := bne_eq_false_iff_eq.mpr c8
         clear c8
         by_cases c9 : ((rd_T48 l0 x5_1).f3) = ((rd_T48 l1 x5_1).f3)
         ·rw [if_pos c9] at H
          have c9b0 : (((rd_T48 l0 x5_1).f3) == ((rd_T48 l1 x5_1).f3)) = true := beq_iff_eq.mpr c9
          have c9b1 : (((rd_T48 l0 x5_1).f3) != ((rd_T48 l1 x5_1).f3)) = false := bne_eq_false_iff_eq.mpr c9
          clear c9
          replace H := Option.bind_eq_some_iff.mp H
          obtain ⟨t615, A100, H⟩ := H
          replace H : (if t615 = true then (laws_equalTasks.l0 k1 l0 l1 (wrap64 (x5_1 + 1))) else (some false)) = some r := H
          have A10 := Aside0.mk A100
          clear A100
          by_cases c11 : t615 = true
          ·subst c11
           have H1 : (laws_equalTasks.l0 k1 l0 l1 (wrap64 (x5_1 + 1))) = some r := by rw [if_pos rfl] at H; exact H
           clear H
           have H := H1
           clear H1
           have H' := Aside0.mk H
           clear H
           try go_wp2
           have n0_ := Aside0.mk (below_drew1 HB.out)
           clear HB
           have HB := n0_
           clear n0_
           have p607 : 0 ≤ (x5_1 : Int) := of_decide_eq_true (by first | (with_reducible assumption) | assumption)
           have q607 : x5_1 < (l0.length : Int) := of_decide_eq_true (by first | (with_reducible assumption) | assumption)
           obtain ⟨ad607, A607_1, c607_1, e607, hx607_0, hx607_1, hx607_2, hx607_3, hl607_1, hi607_1⟩ := at_T48 HR0.out x5_1 p607 q607
           have hw607_3 := hx607_3
           have hw607_2 := hx607_2
           have hw607_1 := hx607_1
           have hw607_0 := hx607_0
           cases e607
           (try replace hx607_0 := (HB.out.cell (World.block_lt_of_cell? w _ hx607_0)).trans hx607_0)
           (try replace hx607_1 := (HB.out.cell (World.block_lt_of_cell? w _ hx607_1)).trans hx607_1)
           (try replace hx607_2 := (HB.out.cell (World.block_lt_of_cell? w _ hx607_2)).trans hx607_2)
           (try replace hx607_3 := (HB.out.cell (World.block_lt_of_cell? w _ hx607_3)).trans hx607_3)
           have HR607_1 := Aside0.mk hi607_1
           have HC607_1 := Aside0.mk hl607_1
           clear hi607_1 hl607_1
           replace p607 := eq_true p607
           replace q607 := eq_true q607
           have p608 : 0 ≤ (x5_1 : Int) := of_decide_eq_true (by first | (with_reducible assumption) | assumption)
           have q608 : x5_1 < (l1.length : Int) := of_decide_eq_true (by first | (with_reducible assumption) | assumption)
           obtain ⟨ad608, A608_1, c608_1, e608, hx608_0, hx608_1, hx608_2, hx608_3, hl608_1, hi608_1⟩ := at_T48 HR1.out x5_1 p608 q608
           have hw608_3 := hx608_3
           have hw608_2 := hx608_2
           have hw608_1 := hx608_1
           have hw608_0 := hx608_0
           cases e608
           (try replace hx608_0 := (HB.out.cell (World.block_lt_of_cell? w _ hx608_0)).trans hx608_0)
           (try replace hx608_1 := (HB.out.cell (World.block_lt_of_cell? w _ hx608_1)).trans hx608_1)
           (try replace hx608_2 := (HB.out.cell (World.block_lt_of_cell? w _ hx608_2)).trans hx608_2)
           (try replace hx608_3 := (HB.out.cell (World.block_lt_of_cell? w _ hx608_3)).trans hx608_3)
           have HR608_1 := Aside0.mk hi608_1
           have HC608_1 := Aside0.mk hl608_1
           clear hi608_1 hl608_1
           replace p608 := eq_true p608
           replace q608 := eq_true q608
           have p609 : 0 ≤ (x5_1 : Int) := of_decide_eq_true (by first | (with_reducible assumption) | assumption)
           have q609 : x5_1 < (l0.length : Int) := of_decide_eq_true (by first | (with_reducible assumption) | assumption)
           obtain ⟨ad609, A609_1, c609_1, e609, hx609_0, hx609_1, hx609_2, hx609_3, hl609_1, hi609_1⟩ := at_T48 HR0.out x5_1 p609 q609
           have hw609_3 := hx609_3
           have hw609_2 := hx609_2
           have hw609_1 := hx609_1
           have hw609_0 := hx609_0
           obtain rfl : ad607 = ad609 := (by injection e609)
           (try replace hx609_0 := (HB.out.cell (World.block_lt_of_cell? w _ hx609_0)).trans hx609_0)
           (try replace hx609_1 := (HB.out.cell (World.block_lt_of_cell? w _ hx609_1)).trans hx609_1)
           (try replace hx609_2 := (HB.out.cell (World.block_lt_of_cell? w _ hx609_2)).trans hx609_2)
           (try replace hx609_3 := (HB.out.cell (World.block_lt_of_cell? w _ hx609_3)).trans hx609_3)
           have HR609_1 := Aside0.mk hi609_1
           have HC609_1 := Aside0.mk hl609_1
           clear hi609_1 hl609_1
           replace p609 := eq_true p609
           replace q609 := eq_true q609
           have ea_ := Option.some.inj (hx607_1.symm.trans hx609_1)
           injection ea_ with ea_ en_ ec_
           subst ea_
           subst ec_
           clear en_
           have p610 : 0 ≤ (x5_1 : Int) := of_decide_eq_true (by first | (with_reducible assumption) | assumption)
           have q610 : x5_1 < (l1.length : Int) := of_decide_eq_true (by first | (with_reducible assumption) | assumption)
           obtain ⟨ad610, A610_1, c610_1, e610, hx610_0, hx610_1, hx610_2, hx610_3, hl610_1, hi610_1⟩ := at_T48 HR1.out x5_1 p610 q610
           have hw610_3 := hx610_3
           have hw610_2 := hx610_2
           have hw610_1 := hx610_1
           have hw610_0 := hx610_0
           obtain rfl : ad608 = ad610 := (by injection e610)
           (try replace hx610_0 := (HB.out.cell (World.block_lt_of_cell? w _ hx610_0)).trans hx610_0)
           (try replace hx610_1 := (HB.out.cell (World.block_lt_of_cell? w _ hx610_1)).trans hx610_1)
           (try replace hx610_2 := (HB.out.cell (World.block_lt_of_cell? w _ hx610_2)).trans hx610_2)
           (try replace hx610_3 := (HB.out.cell (World.block_lt_of_cell? w _ hx610_3)).trans hx610_3)
           have HR610_1 := Aside0.mk hi610_1
           have HC610_1 := Aside0.mk hl610_1
           clear hi610_1 hl610_1
           replace p610 := eq_true p610
           replace q610 := eq_true q610
           have ea_ := Option.some.inj (hx608_1.symm.trans hx610_1)
           injection ea_ with ea_ en_ ec_
           subst ea_
           subst ec_
           clear en_
           have p611 : 0 ≤ (x5_1 : Int) := of_decide_eq_true (by first | (with_reducible assumption) | assumption)
           have q611 : x5_1 < (l0.length : Int) := of_decide_eq_true (by first | (with_reducible assumption) | assumption)
           obtain ⟨ad611, A611_1, c611_1, e611, hx611_0, hx611_1, hx611_2, hx611_3, hl611_1, hi611_1⟩ := at_T48 HR0.out x5_1 p611 q611
           have hw611_3 := hx611_3
           have hw611_2 := hx611_2
           have hw611_1 := hx611_1
           have hw611_0 := hx611_0
           obtain rfl : ad607 = ad611 := (by injection e611)
           (try replace hx611_0 := (HB.out.cell (World.block_lt_of_cell? w _ hx611_0)).trans hx611_0)
           (try replace hx611_1 := (HB.out.cell (World.block_lt_of_cell? w _ hx611_1)).trans hx611_1)
           (try replace hx611_2 := (HB.out.cell (World.block_lt_of_cell? w _ hx611_2)).trans hx611_2)
           (try replace hx611_3 := (HB.out.cell (World.block_lt_of_cell? w _ hx611_3)).trans hx611_3)
           have HR611_1 := Aside0.mk hi611_1
           have HC611_1 := Aside0.mk hl611_1
           clear hi611_1 hl611_1
           replace p611 := eq_true p611
           replace q611 := eq_true q611
           have ea_ := Option.some.inj (hx607_1.symm.trans hx611_1)
           injection ea_ with ea_ en_ ec_
           subst ea_
           subst ec_
           clear en_
           have p612 : 0 ≤ (x5_1 : Int) := of_decide_eq_true (by first | (with_reducible assumption) | assumption)
           have q612 : x5_1 < (l1.length : Int) := of_decide_eq_true (by first | (with_reducible assumption) | assumption)
           obtain ⟨ad612, A612_1, c612_1, e612, hx612_0, hx612_1, hx612_2, hx612_3, hl612_1, hi612_1⟩ := at_T48 HR1.out x5_1 p612 q612
           have hw612_3 := hx612_3
           have hw612_2 := hx612_2
           have hw612_1 := hx612_1
           have hw612_0 := hx612_0
           obtain rfl : ad608 = ad612 := (by injection e612)
           (try replace hx612_0 := (HB.out.cell (World.block_lt_of_cell? w _ hx612_0)).trans hx612_0)
           (try replace hx612_1 := (HB.out.cell (World.block_lt_of_cell? w _ hx612_1)).trans hx612_1)
           (try replace hx612_2 := (HB.out.cell (World.block_lt_of_cell? w _ hx612_2)).trans hx612_2)
           (try replace hx612_3 := (HB.out.cell (World.block_lt_of_cell? w _ hx612_3)).trans hx612_3)
           have HR612_1 := Aside0.mk hi612_1
           have HC612_1 := Aside0.mk hl612_1
           clear hi612_1 hl612_1
           replace p612 := eq_true p612
           replace q612 := eq_true q612
           have ea_ := Option.some.inj (hx608_1.symm.trans hx612_1)
           injection ea_ with ea_ en_ ec_
           subst ea_
           subst ec_
           clear en_
           have p613 : 0 ≤ (x5_1 : Int) := of_decide_eq_true (by first | (with_reducible assumption) | assumption)
           have q613 : x5_1 < (l0.length : Int) := of_decide_eq_true (by first | (with_reducible assumption) | assumption)
           obtain ⟨ad613, A613_1, c613_1, e613, hx613_0, hx613_1, hx613_2, hx613_3, hl613_1, hi613_1⟩ := at_T48 HR0.out x5_1 p613 q613
           have hw613_3 := hx613_3
           have hw613_2 := hx613_2
           have hw613_1 := hx613_1
           have hw613_0 := hx613_0
           obtain rfl : ad607 = ad613 := (by injection e613)
           (try replace hx613_0 := (HB.out.cell (World.block_lt_of_cell? w _ hx613_0)).trans hx613_0)
           (try replace hx613_1 := (HB.out.cell (World.block_lt_of_cell? w _ hx613_1)).trans hx613_1)
           (try replace hx613_2 := (HB.out.cell (World.block_lt_of_cell? w _ hx613_2)).trans hx613_2)
           (try replace hx613_3 := (HB.out.cell (World.block_lt_of_cell? w _ hx613_3)).trans hx613_3)
           have HR613_1 := Aside0.mk hi613_1
           have HC613_1 := Aside0.mk hl613_1
           clear hi613_1 hl613_1
           replace p613 := eq_true p613
           replace q613 := eq_true q613
           have ea_ := Option.some.inj (hx607_1.symm.trans hx613_1)
           injection ea_ with ea_ en_ ec_
           subst ea_
           subst ec_
           clear en_
           have p614 : 0 ≤ (x5_1 : Int) := of_decide_eq_true (by first | (with_reducible assumption) | assumption)
           have q614 : x5_1 < (l1.length : Int) := of_decide_eq_true (by first | (with_reducible assumption) | assumption)
           obtain ⟨ad614, A614_1, c614_1, e614, hx614_0, hx614_1, hx614_2, hx614_3, hl614_1, hi614_1⟩ := at_T48 HR1.out x5_1 p614 q614
           have hw614_3 := hx614_3
           have hw614_2 := hx614_2
           have hw614_1 := hx614_1
           have hw614_0 := hx614_0
           obtain rfl : ad608 = ad614 := (by injection e614)
           (try replace hx614_0 := (HB.out.cell (World.block_lt_of_cell? w _ hx614_0)).trans hx614_0)
           (try replace hx614_1 := (HB.out.cell (World.block_lt_of_cell? w _ hx614_1)).trans hx614_1)
           (try replace hx614_2 := (HB.out.cell (World.block_lt_of_cell? w _ hx614_2)).trans hx614_2)
           (try replace hx614_3 := (HB.out.cell (World.block_lt_of_cell? w _ hx614_3)).trans hx614_3)
           have HR614_1 := Aside0.mk hi614_1
           have HC614_1 := Aside0.mk hl614_1
           clear hi614_1 hl614_1
           replace p614 := eq_true p614
           replace q614 := eq_true q614
           have ea_ := Option.some.inj (hx608_1.symm.trans hx614_1)
           injection ea_ with ea_ en_ ec_
           subst ea_
           subst ec_
           clear en_
           refine start_ (n := 51) (S := fun w' => w'.cell? (ad607.add ((x5_1).toNat * 4)) = some (.int .i64 ((rd_T48 l0 x5_1).f0)) ∧ w'.cell? ⟨(ad607.add ((x5_1).toNat * 4)).block, (ad607.add ((x5_1).toNat * 4)).off + 1, none⟩ = some (.slice A607_1 ((rd_T48 l0 x5_1).f1).length c607_1) ∧ w'.cell? ⟨(ad607.add ((x5_1).toNat * 4)).block, (ad607.add ((x5_1).toNat * 4)).off + 2, none⟩ = some (.int .i64 ((rd_T48 l0 x5_1).f2)) ∧ w'.cell? ⟨(ad607.add ((x5_1).toNat * 4)).block, (ad607.add ((x5_1).toNat * 4)).off + 3, none⟩ = some (.int .i64 ((rd_T48 l0 x5_1).f3)) ∧ w'.cell? (ad608.add ((x5_1).toNat * 4)) = some (.int .i64 ((rd_T48 l1 x5_1).f0)) ∧ w'.cell? ⟨(ad608.add ((x5_1).toNat * 4)).block, (ad608.add ((x5_1).toNat * 4)).off + 1, none⟩ = some (.slice A608_1 ((rd_T48 l1 x5_1).f1).length c608_1) ∧ w'.cell? ⟨(ad608.add ((x5_1).toNat * 4)).block, (ad608.add ((x5_1).toNat * 4)).off + 2, none⟩ = some (.int .i64 ((rd_T48 l1 x5_1).f2)) ∧ w'.cell? ⟨(ad608.add ((x5_1).toNat * 4)).block, (ad608.add ((x5_1).toNat * 4)).off + 3, none⟩ = some (.int .i64 ((rd_T48 l1 x5_1).f3)) ∧ w'.cell? (ad607.add ((x5_1).toNat * 4)) = some (.int .i64 ((rd_T48 l0 x5_1).f0)) ∧ w'.cell? ⟨(ad607.add ((x5_1).toNat * 4)).block, (ad607.add ((x5_1).toNat * 4)).off + 1, none⟩ = some (.slice A607_1 ((rd_T48 l0 x5_1).f1).length c607_1) ∧ w'.cell? ⟨(ad607.add ((x5_1).toNat * 4)).block, (ad607.add ((x5_1).toNat * 4)).off + 2, none⟩ = some (.int .i64 ((rd_T48 l0 x5_1).f2)) ∧ w'.cell? ⟨(ad607.add ((x5_1).toNat * 4)).block, (ad607.add ((x5_1).toNat * 4)).off + 3, none⟩ = some (.int .i64 ((rd_T48 l0 x5_1).f3)) ∧ w'.cell? (ad608.add ((x5_1).toNat * 4)) = some (.int .i64 ((rd_T48 l1 x5_1).f0)) ∧ w'.cell? ⟨(ad608.add ((x5_1).toNat * 4)).block, (ad608.add ((x5_1).toNat * 4)).off + 1, none⟩ = some (.slice A608_1 ((rd_T48 l1 x5_1).f1).length c608_1) ∧ w'.cell? ⟨(ad608.add ((x5_1).toNat * 4)).block, (ad608.add ((x5_1).toNat * 4)).off + 2, none⟩ = some (.int .i64 ((rd_T48 l1 x5_1).f2)) ∧ w'.cell? ⟨(ad608.add ((x5_1).toNat * 4)).block, (ad608.add ((x5_1).toNat * 4)).off + 3, none⟩ = some (.int .i64 ((rd_T48 l1 x5_1).f3)) ∧ w'.cell? (ad607.add ((x5_1).toNat * 4)) = some (.int .i64 ((rd_T48 l0 x5_1).f0)) ∧ w'.cell? ⟨(ad607.add ((x5_1).toNat * 4)).block, (ad607.add ((x5_1).toNat * 4)).off + 1, none⟩ = some (.slice A607_1 ((rd_T48 l0 x5_1).f1).length c607_1) ∧ w'.cell? ⟨(ad607.add ((x5_1).toNat * 4)).block, (ad607.add ((x5_1).toNat * 4)).off + 2, none⟩ = some (.int .i64 ((rd_T48 l0 x5_1).f2)) ∧ w'.cell? ⟨(ad607.add ((x5_1).toNat * 4)).block, (ad607.add ((x5_1).toNat * 4)).off + 3, none⟩ = some (.int .i64 ((rd_T48 l0 x5_1).f3)) ∧ w'.cell? (ad608.add ((x5_1).toNat * 4)) = some (.int .i64 ((rd_T48 l1 x5_1).f0)) ∧ w'.cell? ⟨(ad608.add ((x5_1).toNat * 4)).block, (ad608.add ((x5_1).toNat * 4)).off + 1, none⟩ = some (.slice A608_1 ((rd_T48 l1 x5_1).f1).length c608_1) ∧ w'.cell? ⟨(ad608.add ((x5_1).toNat * 4)).block, (ad608.add ((x5_1).toNat * 4)).off + 2, none⟩ = some (.int .i64 ((rd_T48 l1 x5_1).f2)) ∧ w'.cell? ⟨(ad608.add ((x5_1).toNat * 4)).block, (ad608.add ((x5_1).toNat * 4)).off + 3, none⟩ = some (.int .i64 ((rd_T48 l1 x5_1).f3)) ∧ w'.cell? (ad607.add ((x5_1).toNat * 4)) = some (.int .i64 ((rd_T48 l0 x5_1).f0)) ∧ w'.cell? ⟨(ad607.add ((x5_1).toNat * 4)).block, (ad607.add ((x5_1).toNat * 4)).off + 1, none⟩ = some (.slice A607_1 ((rd_T48 l0 x5_1).f1).length c607_1) ∧ w'.cell? ⟨(ad607.add ((x5_1).toNat * 4)).block, (ad607.add ((x5_1).toNat * 4)).off + 2, none⟩ = some (.int .i64 ((rd_T48 l0 x5_1).f2)) ∧ w'.cell? ⟨(ad607.add ((x5_1).toNat * 4)).block, (ad607.add ((x5_1).toNat * 4)).off + 3, none⟩ = some (.int .i64 ((rd_T48 l0 x5_1).f3)) ∧ w'.cell? (ad608.add ((x5_1).toNat * 4)) = some (.int .i64 ((rd_T48 l1 x5_1).f0)) ∧ w'.cell? ⟨(ad608.add ((x5_1).toNat * 4)).block, (ad608.add ((x5_1).toNat * 4)).off + 1, none⟩ = some (.slice A608_1 ((rd_T48 l1 x5_1).f1).length c608_1) ∧ w'.cell? ⟨(ad608.add ((x5_1).toNat * 4)).block, (ad608.add ((x5_1).toNat * 4)).off + 2, none⟩ = some (.int .i64 ((rd_T48 l1 x5_1).f2)) ∧ w'.cell? ⟨(ad608.add ((x5_1).toNat * 4)).block, (ad608.add ((x5_1).toNat * 4)).off + 3, none⟩ = some (.int .i64 ((rd_T48 l1 x5_1).f3))) (ds := []) #[F4q,F4q,F4q,F4q,F4q,F4q,F4q,F4q,F4q,F4q,F4q,F4q,F4q,F4q,F4q,F4q,F4q,F4q,F4q,F4q,F4q,F4q,F4q,F4q,F4q,F4q,F4q,F4q,F4q,F4q,F4q,F4q,F4q,F4q,F4q,F4q,F4q,F4q,F4q,F4q,F4q,F4q,F4q,F4q,F4q,F4q,F4q,F4q,F4q,F4q,F4q] (by kernel_rfl) rfl rfl ⟨(by first | exact ((HB.out.cell (World.block_lt_of_cell? w _ hw607_0)).trans hw607_0) | exact HS0_ | exact hHeld.1 | exact hw607_0), (by first | exact ((HB.out.cell (World.block_lt_of_cell? w _ hw607_1)).trans hw607_1) | exact HS0_ | exact hHeld.1 | exact hw607_1), (by first | exact ((HB.out.cell (World.block_lt_of_cell? w _ hw607_2)).trans hw607_2) | exact HS0_ | exact hHeld.1 | exact hw607_2), (by first | exact ((HB.out.cell (World.block_lt_of_cell? w _ hw607_3)).trans hw607_3) | exact HS0_ | exact hHeld.1 | exact hw607_3), (by first | exact ((HB.out.cell (World.block_lt_of_cell? w _ hw608_0)).trans hw608_0) | exact HS0_ | exact hHeld.1 | exact hw608_0), (by first | exact ((HB.out.cell (World.block_lt_of_cell? w _ hw608_1)).trans hw608_1) | exact HS0_ | exact hHeld.1 | exact hw608_1), (by first | exact ((HB.out.cell (World.block_lt_of_cell? w _ hw608_2)).trans hw608_2) | exact HS0_ | exact hHeld.1 | exact hw608_2), (by first | exact ((HB.out.cell (World.block_lt_of_cell? w _ hw608_3)).trans hw608_3) | exact HS0_ | exact hHeld.1 | exact hw608_3), (by first | exact ((HB.out.cell (World.block_lt_of_cell? w _ hw609_0)).trans hw609_0) | exact HS0_ | exact hHeld.1 | exact hw609_0), (by first | exact ((HB.out.cell (World.block_lt_of_cell? w _ hw609_1)).trans hw609_1) | exact HS0_ | exact hHeld.1 | exact hw609_1), (by first | exact ((HB.out.cell (World.block_lt_of_cell? w _ hw609_2)).trans hw609_2) | exact HS0_ | exact hHeld.1 | exact hw609_2), (by first | exact ((HB.out.cell (World.block_lt_of_cell? w _ hw609_3)).trans hw609_3) | exact HS0_ | exact hHeld.1 | exact hw609_3), (by first | exact ((HB.out.cell (World.block_lt_of_cell? w _ hw610_0)).trans hw610_0) | exact HS0_ | exact hHeld.1 | exact hw610_0), (by first | exact ((HB.out.cell (World.block_lt_of_cell? w _ hw610_1)).trans hw610_1) | exact HS0_ | exact hHeld.1 | exact hw610_1), (by first | exact ((HB.out.cell (World.block_lt_of_cell? w _ hw610_2)).trans hw610_2) | exact HS0_ | exact hHeld.1 | exact hw610_2), (by first | exact ((HB.out.cell (World.block_lt_of_cell? w _ hw610_3)).trans hw610_3) | exact HS0_ | exact hHeld.1 | exact hw610_3), (by first | exact ((HB.out.cell (World.block_lt_of_cell? w _ hw611_0)).trans hw611_0) | exact HS0_ | exact hHeld.1 | exact hw611_0), (by first | exact ((HB.out.cell (World.block_lt_of_cell? w _ hw611_1)).trans hw611_1) | exact HS0_ | exact hHeld.1 | exact hw611_1), (by first | exact ((HB.out.cell (World.block_lt_of_cell? w _ hw611_2)).trans hw611_2) | exact HS0_ | exact hHeld.1 | exact hw611_2), (by first | exact ((HB.out.cell (World.block_lt_of_cell? w _ hw611_3)).trans hw611_3) | exact HS0_ | exact hHeld.1 | exact hw611_3), (by first | exact ((HB.out.cell (World.block_lt_of_cell? w _ hw612_0)).trans hw612_0) | exact HS0_ | exact hHeld.1 | exact hw612_0), (by first | exact ((HB.out.cell (World.block_lt_of_cell? w _ hw612_1)).trans hw612_1) | exact HS0_ | exact hHeld.1 | exact hw612_1), (by first | exact ((HB.out.cell (World.block_lt_of_cell? w _ hw612_2)).trans hw612_2) | exact HS0_ | exact hHeld.1 | exact hw612_2), (by first | exact ((HB.out.cell (World.block_lt_of_cell? w _ hw612_3)).trans hw612_3) | exact HS0_ | exact hHeld.1 | exact hw612_3), (by first | exact ((HB.out.cell (World.block_lt_of_cell? w _ hw613_0)).trans hw613_0) | exact HS0_ | exact hHeld.1 | exact hw613_0), (by first | exact ((HB.out.cell (World.block_lt_of_cell? w _ hw613_1)).trans hw613_1) | exact HS0_ | exact hHeld.1 | exact hw613_1), (by first | exact ((HB.out.cell (World.block_lt_of_cell? w _ hw613_2)).trans hw613_2) | exact HS0_ | exact hHeld.1 | exact hw613_2), (by first | exact ((HB.out.cell (World.block_lt_of_cell? w _ hw613_3)).trans hw613_3) | exact HS0_ | exact hHeld.1 | exact hw613_3), (by first | exact ((HB.out.cell (World.block_lt_of_cell? w _ hw614_0)).trans hw614_0) | exact HS0_ | exact hHeld.1 | exact hw614_0), (by first | exact ((HB.out.cell (World.block_lt_of_cell? w _ hw614_1)).trans hw614_1) | exact HS0_ | exact hHeld.1 | exact hw614_1), (by first | exact ((HB.out.cell (World.block_lt_of_cell? w _ hw614_2)).trans hw614_2) | exact HS0_ | exact hHeld.1 | exact hw614_2), (by first | exact ((HB.out.cell (World.block_lt_of_cell? w _ hw614_3)).trans hw614_3) | exact HS0_ | exact hHeld.1 | exact hw614_3)⟩ (fun hHeld => ?_); refine with_tabW laws_equalTasks.tab6 laws_equalTasks.bits6 (fun HT_ HW_ => ?_)
           generalize wr.drew = w12 at HB HR607_1 HR608_1 HR609_1 HR610_1 HR611_1 HR612_1 HR613_1 HR614_1 hx607_0 hx607_1 hx607_2 hx607_3 hx608_0 hx608_1 hx608_2 hx608_3 hx609_0 hx609_1 hx609_2 hx609_3 hx610_0 hx610_1 hx610_2 hx610_3 hx611_0 hx611_1 hx611_2 hx611_3 hx612_0 hx612_1 hx612_2 hx612_3 hx613_0 hx613_1 hx613_2 hx613_3 hx614_0 hx614_1 hx614_2 hx614_3 hHeld ⊢
           refine pure_ (i := 0) (N := some 17) (v := ?_) (a' := ?_) #[T4q,F4q,F4q,F4q,F4q,F4q,F4q,F4q,F4q,F4q,F4q,F4q,F4q,F4q,F4q,F4q,F4q,F4q,F4q,F4q,F4q,F4q,F4q,F4q,F4q,F4q,F4q,F4q,F4q,F4q,F4q,F4q,F4q,F4q,F4q,F4q,F4q,F4q,F4q,F4q,F4q,F4q,F4q,F4q,F4q,F4q,F4q,F4q,F4q,F4q,F4q] rfl rfl (any_of HT_.out (by kernel_rfl)) (fun _ _ _ h => h) (Or.inl ⟨by rfl, ?_⟩) ?_ ?_
           rotate_left
           ·intro w'
            go_simp
            with_reducible rfl
           rotate_left
           ·simp only [Act.put, List.setIfInBounds_toArray, List.set_cons_zero, List.set_cons_succ, i64_w, i32_w]
            rfl
           refine pure_ (i := 1) (N := some 18) (v := ?_) (a' := ?_) #[T4q,T4q,F4q,F4q,F4q,F4q,F4q,F4q,F4q,F4q,F4q,F4q,F4q,F4q,F4q,F4q,F4q,F4q,F4q,F4q,F4q,F4q,F4q,F4q,F4q,F4q,F4q,F4q,F4q,F4q,F4q,F4q,F4q,F4q,F4q,F4q,F4q,F4q,F4q,F4q,F4q,F4q,F4q,F4q,F4q,F4q,F4q,F4q,F4q,F4q,F4q] rfl rfl (any_of HT_.out (by kernel_rfl)) (fun _ _ _ h => h) (Or.inl ⟨by rfl, ?_⟩) ?_ ?_
           rotate_left
           ·intro w'
            go_simp
            with_reducible rfl
           rotate_left
           ·simp only [Act.put, List.setIfInBounds_toArray, List.set_cons_zero, List.set_cons_succ, i64_w, i32_w]
            rfl
           refine pure_ (i := 2) (N := some 19) (v := ?_) (a' := ?_) #[T4q,T4q,T4q,F4q,F4q,F4q,F4q,F4q,F4q,F4q,F4q,F4q,F4q,F4q,F4q,F4q,F4q,F4q,F4q,F4q,F4q,F4q,F4q,F4q,F4q,F4q,F4q,F4q,F4q,F4q,F4q,F4q,F4q,F4q,F4q,F4q,F4q,F4q,F4q,F4q,F4q,F4q,F4q,F4q,F4q,F4q,F4q,F4q,F4q,F4q,F4q] rfl rfl (any_of HT_.out (by kernel_rfl)) (fun _ _ _ h => h) (Or.inl ⟨by rfl, ?_⟩) ?_ ?_
           rotate_left
           ·intro w'
            go_simp
            with_reducible rfl
           rotate_left
           ·simp only [Act.put, List.setIfInBounds_toArray, List.set_cons_zero, List.set_cons_succ, i64_w, i32_w]
            rfl
           refine pure_ (i := 3) (N := some 20) (v := ?_) (a' := ?_) #[T4q,T4q,T4q,T4q,F4q,F4q,F4q,F4q,F4q,F4q,F4q,F4q,F4q,F4q,F4q,F4q,F4q,F4q,F4q,F4q,F4q,F4q,F4q,F4q,F4q,F4q,F4q,F4q,F4q,F4q,F4q,F4q,F4q,F4q,F4q,F4q,F4q,F4q,F4q,F4q,F4q,F4q,F4q,F4q,F4q,F4q,F4q,F4q,F4q,F4q,F4q] rfl rfl (any_of HT_.out (by kernel_rfl)) (fun _ _ _ h => h) (Or.inl ⟨by rfl, ?_⟩) ?_ ?_
           rotate_left
           ·intro w'
            go_simp
            with_reducible rfl
           rotate_left
           ·simp only [Act.put, List.setIfInBounds_toArray, List.set_cons_zero, List.set_cons_succ, i64_w, i32_w]
            rfl
           refine pure_ (i := 5) (N := some 22) (v := ?_) (a' := ?_) #[T4q,T4q,T4q,T4q,F4q,T4q,F4q,F4q,F4q,F4q,F4q,F4q,F4q,F4q,F4q,F4q,F4q,F4q,F4q,F4q,F4q,F4q,F4q,F4q,F4q,F4q,F4q,F4q,F4q,F4q,F4q,F4q,F4q,F4q,F4q,F4q,F4q,F4q,F4q,F4q,F4q,F4q,F4q,F4q,F4q,F4q,F4q,F4q,F4q,F4q,F4q] rfl rfl (any_of HT_.out (by kernel_rfl)) (fun _ _ _ h => h) (Or.inl ⟨by rfl, ?_⟩) ?_ ?_
           rotate_left
           ·intro w'
            go_simp
            with_reducible rfl
           rotate_left
           ·simp only [Act.put, List.setIfInBounds_toArray, List.set_cons_zero, List.set_cons_succ, i64_w, i32_w]
            rfl
           refine pure_ (i := 6) (N := some 23) (v := ?_) (a' := ?_) #[T4q,T4q,T4q,T4q,F4q,T4q,T4q,F4q,F4q,F4q,F4q,F4q,F4q,F4q,F4q,F4q,F4q,F4q,F4q,F4q,F4q,F4q,F4q,F4q,F4q,F4q,F4q,F4q,F4q,F4q,F4q,F4q,F4q,F4q,F4q,F4q,F4q,F4q,F4q,F4q,F4q,F4q,F4q,F4q,F4q,F4q,F4q,F4q,F4q,F4q,F4q] rfl rfl (any_of HT_.out (by kernel_rfl)) (fun _ _ _ h => h) (Or.inl ⟨by rfl, ?_⟩) ?_ ?_
           rotate_left
           ·intro w'
            go_simp
            with_reducible rfl
           rotate_left
           ·simp only [Act.put, List.setIfInBounds_toArray, List.set_cons_zero, List.set_cons_succ, i64_w, i32_w]
            rfl
           refine pure_ (i := 7) (N := some 24) (v := ?_) (a' := ?_) #[T4q,T4q,T4q,T4q,F4q,T4q,T4q,T4q,F4q,F4q,F4q,F4q,F4q,F4q,F4q,F4q,F4q,F4q,F4q,F4q,F4q,F4q,F4q,F4q,F4q,F4q,F4q,F4q,F4q,F4q,F4q,F4q,F4q,F4q,F4q,F4q,F4q,F4q,F4q,F4q,F4q,F4q,F4q,F4q,F4q,F4q,F4q,F4q,F4q,F4q,F4q] rfl rfl (any_of HT_.out (by kernel_rfl)) (fun _ _ _ h => h) (Or.inl ⟨by rfl, ?_⟩) ?_ ?_
           rotate_left
           ·intro w'
            go_simp
            with_reducible rfl
           rotate_left
           ·simp only [Act.put, List.setIfInBounds_toArray, List.set_cons_zero, List.set_cons_succ, i64_w, i32_w]
            rfl
           refine pure_ (i := 8) (N := some 25) (v := ?_) (a' := ?_) #[T4q,T4q,T4q,T4q,F4q,T4q,T4q,T4q,T4q,F4q,F4q,F4q,F4q,F4q,F4q,F4q,F4q,F4q,F4q,F4q,F4q,F4q,F4q,F4q,F4q,F4q,F4q,F4q,F4q,F4q,F4q,F4q,F4q,F4q,F4q,F4q,F4q,F4q,F4q,F4q,F4q,F4q,F4q,F4q,F4q,F4q,F4q,F4q,F4q,F4q,F4q] rfl rfl (any_of HT_.out (by kernel_rfl)) (fun _ _ _ h => h) (Or.inl ⟨by rfl, ?_⟩) ?_ ?_
           rotate_left
           ·intro w'
            go_simp
            with_reducible rfl
           rotate_left
           ·simp only [Act.put, List.setIfInBounds_toArray, List.set_cons_zero, List.set_cons_succ, i64_w, i32_w]
            rfl
           refine take_ (i := 4) (N := some 21) (v := ?_) (a' := ?_) #[T4q,T4q,T4q,T4q,T4q,T4q,T4q,T4q,T4q,F4q,F4q,F4q,F4q,F4q,F4q,F4q,F4q,F4q,F4q,F4q,F4q,F4q,F4q,F4q,F4q,F4q,F4q,F4q,F4q,F4q,F4q,F4q,F4q,F4q,F4q,F4q,F4q,F4q,F4q,F4q,F4q,F4q,F4q,F4q,F4q,F4q,F4q,F4q,F4q,F4q,F4q] rfl rfl (take_ofW HT_.out HW_.out (by kernel_rfl)) (fun _ _ _ h => h) (Or.inl ⟨by rfl, ?_⟩) hHeld ?_ ?_
           rotate_left
           ·rintro w' ⟨s0, s1, s2, s3, s4, s5, s6, s7, s8, s9, s10, s11, s12, s13, s14, s15, s16, s17, s18, s19, s20, s21, s22, s23, s24, s25, s26, s27, s28, s29, s30, s31⟩
            go_simp
            with_reducible rfl
           rotate_left
           ·simp only [Act.put, List.setIfInBounds_toArray, List.set_cons_zero, List.set_cons_succ, i64_w, i32_w]
            rfl
           refine take_ (i := 9) (N := some 26) (v := ?_) (a' := ?_) #[T4q,T4q,T4q,T4q,T4q,T4q,T4q,T4q,T4q,T4q,F4q,F4q,F4q,F4q,F4q,F4q,F4q,F4q,F4q,F4q,F4q,F4q,F4q,F4q,F4q,F4q,F4q,F4q,F4q,F4q,F4q,F4q,F4q,F4q,F4q,F4q,F4q,F4q,F4q,F4q,F4q,F4q,F4q,F4q,F4q,F4q,F4q,F4q,F4q,F4q,F4q] rfl rfl (take_ofW HT_.out HW_.out (by kernel_rfl)) (fun _ _ _ h => h) (Or.inl ⟨by rfl, ?_⟩) hHeld ?_ ?_
           rotate_left
           ·rintro w' ⟨s0, s1, s2, s3, s4, s5, s6, s7, s8, s9, s10, s11, s12, s13, s14, s15, s16, s17, s18, s19, s20, s21, s22, s23, s24, s25, s26, s27, s28, s29, s30, s31⟩
            go_simp
            with_reducible rfl
           rotate_left
           ·simp only [Act.put, List.setIfInBounds_toArray, List.set_cons_zero, List.set_cons_succ, i64_w, i32_w]
            rfl
           refine pure_ (i := 10) (N := some 27) (v := ?_) (a' := ?_) #[T4q,T4q,T4q,T4q,T4q,T4q,T4q,T4q,T4q,T4q,T4q,F4q,F4q,F4q,F4q,F4q,F4q,F4q,F4q,F4q,F4q,F4q,F4q,F4q,F4q,F4q,F4q,F4q,F4q,F4q,F4q,F4q,F4q,F4q,F4q,F4q,F4q,F4q,F4q,F4q,F4q,F4q,F4q,F4q,F4q,F4q,F4q,F4q,F4q,F4q,F4q] rfl rfl (any_of HT_.out (by kernel_rfl)) (fun _ _ _ h => h) (Or.inl ⟨by rfl, ?_⟩) ?_ ?_
           rotate_left
           ·intro w'
            go_simp
            with_reducible rfl
           rotate_left
           ·simp only [Act.put, List.setIfInBounds_toArray, List.set_cons_zero, List.set_cons_succ, i64_w, i32_w]
            rfl
           refine pure_ (i := 11) (N := some 28) (v := ?_) (a' := ?_) #[T4q,T4q,T4q,T4q,T4q,T4q,T4q,T4q,T4q,T4q,T4q,T4q,F4q,F4q,F4q,F4q,F4q,F4q,F4q,F4q,F4q,F4q,F4q,F4q,F4q,F4q,F4q,F4q,F4q,F4q,F4q,F4q,F4q,F4q,F4q,F4q,F4q,F4q,F4q,F4q,F4q,F4q,F4q,F4q,F4q,F4q,F4q,F4q,F4q,F4q,F4q] rfl rfl (any_of HT_.out (by kernel_rfl)) (fun _ _ _ h => h) (Or.inl ⟨by rfl, ?_⟩) ?_ ?_
           rotate_left
           ·intro w'
            go_simp
            with_reducible rfl
           rotate_left
           ·simp only [Act.put, List.setIfInBounds_toArray, List.set_cons_zero, List.set_cons_succ, i64_w, i32_w]
            rfl
           refine pure_ (i := 12) (N := some 29) (v := ?_) (a' := ?_) #[T4q,T4q,T4q,T4q,T4q,T4q,T4q,T4q,T4q,T4q,T4q,T4q,T4q,F4q,F4q,F4q,F4q,F4q,F4q,F4q,F4q,F4q,F4q,F4q,F4q,F4q,F4q,F4q,F4q,F4q,F4q,F4q,F4q,F4q,F4q,F4q,F4q,F4q,F4q,F4q,F4q,F4q,F4q,F4q,F4q,F4q,F4q,F4q,F4q,F4q,F4q] rfl rfl (any_of HT_.out (by kernel_rfl)) (fun _ _ _ h => h) (Or.inl ⟨by rfl, ?_⟩) ?_ ?_
           rotate_left
           ·intro w'
            go_simp
            with_reducible rfl
           rotate_left
           ·simp only [Act.put, List.setIfInBounds_toArray, List.set_cons_zero, List.set_cons_succ, i64_w, i32_w]
            rfl
           refine pure_ (i := 13) (N := some 30) (v := ?_) (a' := ?_) #[T4q,T4q,T4q,T4q,T4q,T4q,T4q,T4q,T4q,T4q,T4q,T4q,T4q,T4q,F4q,F4q,F4q,F4q,F4q,F4q,F4q,F4q,F4q,F4q,F4q,F4q,F4q,F4q,F4q,F4q,F4q,F4q,F4q,F4q,F4q,F4q,F4q,F4q,F4q,F4q,F4q,F4q,F4q,F4q,F4q,F4q,F4q,F4q,F4q,F4q,F4q] rfl rfl (any_of HT_.out (by kernel_rfl)) (fun _ _ _ h => h) (Or.inl ⟨by rfl, ?_⟩) ?_ ?_
           rotate_left
           ·intro w'
            go_simp
            with_reducible rfl
           rotate_left
           ·simp only [Act.put, List.setIfInBounds_toArray, List.set_cons_zero, List.set_cons_succ, i64_w, i32_w]
            rfl
           refine pure_ (i := 14) (N := some 31) (v := ?_) (a' := ?_) #[T4q,T4q,T4q,T4q,T4q,T4q,T4q,T4q,T4q,T4q,T4q,T4q,T4q,T4q,T4q,F4q,F4q,F4q,F4q,F4q,F4q,F4q,F4q,F4q,F4q,F4q,F4q,F4q,F4q,F4q,F4q,F4q,F4q,F4q,F4q,F4q,F4q,F4q,F4q,F4q,F4q,F4q,F4q,F4q,F4q,F4q,F4q,F4q,F4q,F4q,F4q] rfl rfl (any_of HT_.out (by kernel_rfl)) (fun _ _ _ h => h) (Or.inl ⟨by rfl, ?_⟩) ?_ ?_
           rotate_left
           ·intro w'
            go_simp
            with_reducible rfl
           rotate_left
           ·simp only [Act.put, List.setIfInBounds_toArray, List.set_cons_zero, List.set_cons_succ, i64_w, i32_w]
            rfl
           refine pure_ (i := 15) (N := some 32) (v := ?_) (a' := ?_) #[T4q,T4q,T4q,T4q,T4q,T4q,T4q,T4q,T4q,T4q,T4q,T4q,T4q,T4q,T4q,T4q,F4q,F4q,F4q,F4q,F4q,F4q,F4q,F4q,F4q,F4q,F4q,F4q,F4q,F4q,F4q,F4q,F4q,F4q,F4q,F4q,F4q,F4q,F4q,F4q,F4q,F4q,F4q,F4q,F4q,F4q,F4q,F4q,F4q,F4q,F4q] rfl rfl (any_of HT_.out (by kernel_rfl)) (fun _ _ _ h => h) (Or.inl ⟨by rfl, ?_⟩) ?_ ?_
           rotate_left
           ·intro w'
            go_simp
            with_reducible rfl
           rotate_left
           ·simp only [Act.put, List.setIfInBounds_toArray, List.set_cons_zero, List.set_cons_succ, i64_w, i32_w]
            rfl
           refine pure_ (i := 17) (N := some 34) (v := ?_) (a' := ?_) #[T4q,T4q,T4q,T4q,T4q,T4q,T4q,T4q,T4q,T4q,T4q,T4q,T4q,T4q,T4q,T4q,F4q,T4q,F4q,F4q,F4q,F4q,F4q,F4q,F4q,F4q,F4q,F4q,F4q,F4q,F4q,F4q,F4q,F4q,F4q,F4q,F4q,F4q,F4q,F4q,F4q,F4q,F4q,F4q,F4q,F4q,F4q,F4q,F4q,F4q,F4q] rfl rfl (any_of HT_.out (by kernel_rfl)) (fun _ _ _ h => h) (Or.inl ⟨by rfl, ?_⟩) ?_ ?_
           rotate_left
           ·intro w'
            go_simp
            with_reducible rfl
           rotate_left
           ·simp only [Act.put, List.setIfInBounds_toArray, List.set_cons_zero, List.set_cons_succ, i64_w, i32_w]
            rfl
           refine pure_ (i := 18) (N := some 35) (v := ?_) (a' := ?_) #[T4q,T4q,T4q,T4q,T4q,T4q,T4q,T4q,T4q,T4q,T4q,T4q,T4q,T4q,T4q,T4q,F4q,T4q,T4q,F4q,F4q,F4q,F4q,F4q,F4q,F4q,F4q,F4q,F4q,F4q,F4q,F4q,F4q,F4q,F4q,F4q,F4q,F4q,F4q,F4q,F4q,F4q,F4q,F4q,F4q,F4q,F4q,F4q,F4q,F4q,F4q] rfl rfl (any_of HT_.out (by kernel_rfl)) (fun _ _ _ h => h) (Or.inl ⟨by rfl, ?_⟩) ?_ ?_
           rotate_left
           ·intro w'
            go_simp
            with_reducible rfl
           rotate_left
           ·simp only [Act.put, List.setIfInBounds_toArray, List.set_cons_zero, List.set_cons_succ, i64_w, i32_w]
            rfl
           refine pure_ (i := 19) (N := some 36) (v := ?_) (a' := ?_) #[T4q,T4q,T4q,T4q,T4q,T4q,T4q,T4q,T4q,T4q,T4q,T4q,T4q,T4q,T4q,T4q,F4q,T4q,T4q,T4q,F4q,F4q,F4q,F4q,F4q,F4q,F4q,F4q,F4q,F4q,F4q,F4q,F4q,F4q,F4q,F4q,F4q,F4q,F4q,F4q,F4q,F4q,F4q,F4q,F4q,F4q,F4q,F4q,F4q,F4q,F4q] rfl rfl (any_of HT_.out (by kernel_rfl)) (fun _ _ _ h => h) (Or.inl ⟨by rfl, ?_⟩) ?_ ?_
           rotate_left
           ·intro w'
            go_simp
            with_reducible rfl
           rotate_left
           ·simp only [Act.put, List.setIfInBounds_toArray, List.set_cons_zero, List.set_cons_succ, i64_w, i32_w]
            rfl
           refine pure_ (i := 20) (N := some 37) (v := ?_) (a' := ?_) #[T4q,T4q,T4q,T4q,T4q,T4q,T4q,T4q,T4q,T4q,T4q,T4q,T4q,T4q,T4q,T4q,F4q,T4q,T4q,T4q,T4q,F4q,F4q,F4q,F4q,F4q,F4q,F4q,F4q,F4q,F4q,F4q,F4q,F4q,F4q,F4q,F4q,F4q,F4q,F4q,F4q,F4q,F4q,F4q,F4q,F4q,F4q,F4q,F4q,F4q,F4q] rfl rfl (any_of HT_.out (by kernel_rfl)) (fun _ _ _ h => h) (Or.inl ⟨by rfl, ?_⟩) ?_ ?_
           rotate_left
           ·intro w'
            go_simp
            with_reducible rfl
           rotate_left
           ·simp only [Act.put, List.setIfInBounds_toArray, List.set_cons_zero, List.set_cons_succ, i64_w, i32_w]
            rfl
           refine take_ (i := 16) (N := some 33) (v := ?_) (a' := ?_) #[T4q,T4q,T4q,T4q,T4q,T4q,T4q,T4q,T4q,T4q,T4q,T4q,T4q,T4q,T4q,T4q,T4q,T4q,T4q,T4q,T4q,F4q,F4q,F4q,F4q,F4q,F4q,F4q,F4q,F4q,F4q,F4q,F4q,F4q,F4q,F4q,F4q,F4q,F4q,F4q,F4q,F4q,F4q,F4q,F4q,F4q,F4q,F4q,F4q,F4q,F4q] rfl rfl (take_ofW HT_.out HW_.out (by kernel_rfl)) (fun _ _ _ h => h) (Or.inl ⟨by rfl, ?_⟩) hHeld ?_ ?_
           rotate_left
           ·rintro w' ⟨s0, s1, s2, s3, s4, s5, s6, s7, s8, s9, s10, s11, s12, s13, s14, s15, s16, s17, s18, s19, s20, s21, s22, s23, s24, s25, s26, s27, s28, s29, s30, s31⟩
            go_simp
            with_reducible rfl
           rotate_left
           ·simp only [Act.put, List.setIfInBounds_toArray, List.set_cons_zero, List.set_cons_succ, i64_w, i32_w]
            rfl
           refine take_ (i := 21) (N := some 38) (v := ?_) (a' := ?_) #[T4q,T4q,T4q,T4q,T4q,T4q,T4q,T4q,T4q,T4q,T4q,T4q,T4q,T4q,T4q,T4q,T4q,T4q,T4q,T4q,T4q,T4q,F4q,F4q,F4q,F4q,F4q,F4q,F4q,F4q,F4q,F4q,F4q,F4q,F4q,F4q,F4q,F4q,F4q,F4q,F4q,F4q,F4q,F4q,F4q,F4q,F4q,F4q,F4q,F4q,F4q] rfl rfl (take_ofW HT_.out HW_.out (by kernel_rfl)) (fun _ _ _ h => h) (Or.inl ⟨by rfl, ?_⟩) hHeld ?_ ?_
           rotate_left
           ·rintro w' ⟨s0, s1, s2, s3, s4, s5, s6, s7, s8, s9, s10, s11, s12, s13, s14, s15, s16, s17, s18, s19, s20, s21, s22, s23, s24, s25, s26, s27, s28, s29, s30, s31⟩
            go_simp
            with_reducible rfl
           rotate_left
           ·simp only [Act.put, List.setIfInBounds_toArray, List.set_cons_zero, List.set_cons_succ, i64_w, i32_w]
            rfl
           refine pure_ (i := 22) (N := some 39) (v := ?_) (a' := ?_) #[T4q,T4q,T4q,T4q,T4q,T4q,T4q,T4q,T4q,T4q,T4q,T4q,T4q,T4q,T4q,T4q,T4q,T4q,T4q,T4q,T4q,T4q,T4q,F4q,F4q,F4q,F4q,F4q,F4q,F4q,F4q,F4q,F4q,F4q,F4q,F4q,F4q,F4q,F4q,F4q,F4q,F4q,F4q,F4q,F4q,F4q,F4q,F4q,F4q,F4q,F4q] rfl rfl (any_of HT_.out (by kernel_rfl)) (fun _ _ _ h => h) (Or.inl ⟨by rfl, ?_⟩) ?_ ?_
           rotate_left
           ·intro w'
            go_simp
            with_reducible rfl
           rotate_left
           ·simp only [Act.put, List.setIfInBounds_toArray, List.set_cons_zero, List.set_cons_succ, i64_w, i32_w]
            rfl
           refine pure_ (i := 23) (N := some 40) (v := ?_) (a' := ?_) #[T4q,T4q,T4q,T4q,T4q,T4q,T4q,T4q,T4q,T4q,T4q,T4q,T4q,T4q,T4q,T4q,T4q,T4q,T4q,T4q,T4q,T4q,T4q,T4q,F4q,F4q,F4q,F4q,F4q,F4q,F4q,F4q,F4q,F4q,F4q,F4q,F4q,F4q,F4q,F4q,F4q,F4q,F4q,F4q,F4q,F4q,F4q,F4q,F4q,F4q,F4q] rfl rfl (any_of HT_.out (by kernel_rfl)) (fun _ _ _ h => h) (Or.inl ⟨by rfl, ?_⟩) ?_ ?_
           rotate_left
           ·intro w'
            go_simp
            with_reducible rfl
           rotate_left
           ·simp only [Act.put, List.setIfInBounds_toArray, List.set_cons_zero, List.set_cons_succ, i64_w, i32_w]
            rfl
           refine pure_ (i := 24) (N := some 41) (v := ?_) (a' := ?_) #[T4q,T4q,T4q,T4q,T4q,T4q,T4q,T4q,T4q,T4q,T4q,T4q,T4q,T4q,T4q,T4q,T4q,T4q,T4q,T4q,T4q,T4q,T4q,T4q,T4q,F4q,F4q,F4q,F4q,F4q,F4q,F4q,F4q,F4q,F4q,F4q,F4q,F4q,F4q,F4q,F4q,F4q,F4q,F4q,F4q,F4q,F4q,F4q,F4q,F4q,F4q] rfl rfl (any_of HT_.out (by kernel_rfl)) (fun _ _ _ h => h) (Or.inl ⟨by rfl, ?_⟩) ?_ ?_
           rotate_left
           ·intro w'
            go_simp
            with_reducible rfl
           rotate_left
           ·simp only [Act.put, List.setIfInBounds_toArray, List.set_cons_zero, List.set_cons_succ, i64_w, i32_w]
            rfl
           refine pure_ (i := 25) (N := some 42) (v := ?_) (a' := ?_) #[T4q,T4q,T4q,T4q,T4q,T4q,T4q,T4q,T4q,T4q,T4q,T4q,T4q,T4q,T4q,T4q,T4q,T4q,T4q,T4q,T4q,T4q,T4q,T4q,T4q,T4q,F4q,F4q,F4q,F4q,F4q,F4q,F4q,F4q,F4q,F4q,F4q,F4q,F4q,F4q,F4q,F4q,F4q,F4q,F4q,F4q,F4q,F4q,F4q,F4q,F4q] rfl rfl (any_of HT_.out (by kernel_rfl)) (fun _ _ _ h => h) (Or.inl ⟨by rfl, ?_⟩) ?_ ?_
           rotate_left
           ·intro w'
            go_simp
            with_reducible rfl
           rotate_left
           ·simp only [Act.put, List.setIfInBounds_toArray, List.set_cons_zero, List.set_cons_succ, i64_w, i32_w]
            rfl
           refine pure_ (i := 26) (N := some 43) (v := ?_) (a' := ?_) #[T4q,T4q,T4q,T4q,T4q,T4q,T4q,T4q,T4q,T4q,T4q,T4q,T4q,T4q,T4q,T4q,T4q,T4q,T4q,T4q,T4q,T4q,T4q,T4q,T4q,T4q,T4q,F4q,F4q,F4q,F4q,F4q,F4q,F4q,F4q,F4q,F4q,F4q,F4q,F4q,F4q,F4q,F4q,F4q,F4q,F4q,F4q,F4q,F4q,F4q,F4q] rfl rfl (any_of HT_.out (by kernel_rfl)) (fun _ _ _ h => h) (Or.inl ⟨by rfl, ?_⟩) ?_ ?_
           rotate_left
           ·intro w'
            go_simp
            with_reducible rfl
           rotate_left
           ·simp only [Act.put, List.setIfInBounds_toArray, List.set_cons_zero, List.set_cons_succ, i64_w, i32_w]
            rfl
           refine pure_ (i := 27) (N := some 44) (v := ?_) (a' := ?_) #[T4q,T4q,T4q,T4q,T4q,T4q,T4q,T4q,T4q,T4q,T4q,T4q,T4q,T4q,T4q,T4q,T4q,T4q,T4q,T4q,T4q,T4q,T4q,T4q,T4q,T4q,T4q,T4q,F4q,F4q,F4q,F4q,F4q,F4q,F4q,F4q,F4q,F4q,F4q,F4q,F4q,F4q,F4q,F4q,F4q,F4q,F4q,F4q,F4q,F4q,F4q] rfl rfl (any_of HT_.out (by kernel_rfl)) (fun _ _ _ h => h) (Or.inl ⟨by rfl, ?_⟩) ?_ ?_
           rotate_left
           ·intro w'
            go_simp
            with_reducible rfl
           rotate_left
           ·simp only [Act.put, List.setIfInBounds_toArray, List.set_cons_zero, List.set_cons_succ, i64_w, i32_w]
            rfl
           refine pure_ (i := 28) (N := some 45) (v := ?_) (a' := ?_) #[T4q,T4q,T4q,T4q,T4q,T4q,T4q,T4q,T4q,T4q,T4q,T4q,T4q,T4q,T4q,T4q,T4q,T4q,T4q,T4q,T4q,T4q,T4q,T4q,T4q,T4q,T4q,T4q,T4q,F4q,F4q,F4q,F4q,F4q,F4q,F4q,F4q,F4q,F4q,F4q,F4q,F4q,F4q,F4q,F4q,F4q,F4q,F4q,F4q,F4q,F4q] rfl rfl (any_of HT_.out (by kernel_rfl)) (fun _ _ _ h => h) (Or.inl ⟨by rfl, ?_⟩) ?_ ?_
           rotate_left
           ·intro w'
            go_simp
            with_reducible rfl
           rotate_left
           ·simp only [Act.put, List.setIfInBounds_toArray, List.set_cons_zero, List.set_cons_succ, i64_w, i32_w]
            rfl
           refine pure_ (i := 30) (N := some 47) (v := ?_) (a' := ?_) #[T4q,T4q,T4q,T4q,T4q,T4q,T4q,T4q,T4q,T4q,T4q,T4q,T4q,T4q,T4q,T4q,T4q,T4q,T4q,T4q,T4q,T4q,T4q,T4q,T4q,T4q,T4q,T4q,T4q,F4q,T4q,F4q,F4q,F4q,F4q,F4q,F4q,F4q,F4q,F4q,F4q,F4q,F4q,F4q,F4q,F4q,F4q,F4q,F4q,F4q,F4q] rfl rfl (any_of HT_.out (by kernel_rfl)) (fun _ _ _ h => h) (Or.inl ⟨by rfl, ?_⟩) ?_ ?_
           rotate_left
           ·intro w'
            go_simp
            with_reducible rfl
           rotate_left
           ·simp only [Act.put, List.setIfInBounds_toArray, List.set_cons_zero, List.set_cons_succ, i64_w, i32_w]
            rfl
           refine pure_ (i := 31) (N := some 48) (v := ?_) (a' := ?_) #[T4q,T4q,T4q,T4q,T4q,T4q,T4q,T4q,T4q,T4q,T4q,T4q,T4q,T4q,T4q,T4q,T4q,T4q,T4q,T4q,T4q,T4q,T4q,T4q,T4q,T4q,T4q,T4q,T4q,F4q,T4q,T4q,F4q,F4q,F4q,F4q,F4q,F4q,F4q,F4q,F4q,F4q,F4q,F4q,F4q,F4q,F4q,F4q,F4q,F4q,F4q] rfl rfl (any_of HT_.out (by kernel_rfl)) (fun _ _ _ h => h) (Or.inl ⟨by rfl, ?_⟩) ?_ ?_
           rotate_left
           ·intro w'
            go_simp
            with_reducible rfl
           rotate_left
           ·simp only [Act.put, List.setIfInBounds_toArray, List.set_cons_zero, List.set_cons_succ, i64_w, i32_w]
            rfl
           refine pure_ (i := 32) (N := some 49) (v := ?_) (a' := ?_) #[T4q,T4q,T4q,T4q,T4q,T4q,T4q,T4q,T4q,T4q,T4q,T4q,T4q,T4q,T4q,T4q,T4q,T4q,T4q,T4q,T4q,T4q,T4q,T4q,T4q,T4q,T4q,T4q,T4q,F4q,T4q,T4q,T4q,F4q,F4q,F4q,F4q,F4q,F4q,F4q,F4q,F4q,F4q,F4q,F4q,F4q,F4q,F4q,F4q,F4q,F4q] rfl rfl (any_of HT_.out (by kernel_rfl)) (fun _ _ _ h => h) (Or.inl ⟨by rfl, ?_⟩) ?_ ?_
           rotate_left
           ·intro w'
            go_simp
            with_reducible rfl
           rotate_left
           ·simp only [Act.put, List.setIfInBounds_toArray, List.set_cons_zero, List.set_cons_succ, i64_w, i32_w]
            rfl
           refine pure_ (i := 33) (N := some 50) (v := ?_) (a' := ?_) #[T4q,T4q,T4q,T4q,T4q,T4q,T4q,T4q,T4q,T4q,T4q,T4q,T4q,T4q,T4q,T4q,T4q,T4q,T4q,T4q,T4q,T4q,T4q,T4q,T4q,T4q,T4q,T4q,T4q,F4q,T4q,T4q,T4q,T4q,F4q,F4q,F4q,F4q,F4q,F4q,F4q,F4q,F4q,F4q,F4q,F4q,F4q,F4q,F4q,F4q,F4q] rfl rfl (any_of HT_.out (by kernel_rfl)) (fun _ _ _ h => h) (Or.inl ⟨by rfl, ?_⟩) ?_ ?_
           rotate_left
           ·intro w'
            go_simp
            with_reducible rfl
           rotate_left
           ·simp only [Act.put, List.setIfInBounds_toArray, List.set_cons_zero, List.set_cons_succ, i64_w, i32_w]
            rfl
           refine take_ (i := 29) (N := some 46) (v := ?_) (a' := ?_) #[T4q,T4q,T4q,T4q,T4q,T4q,T4q,T4q,T4q,T4q,T4q,T4q,T4q,T4q,T4q,T4q,T4q,T4q,T4q,T4q,T4q,T4q,T4q,T4q,T4q,T4q,T4q,T4q,T4q,T4q,T4q,T4q,T4q,T4q,F4q,F4q,F4q,F4q,F4q,F4q,F4q,F4q,F4q,F4q,F4q,F4q,F4q,F4q,F4q,F4q,F4q] rfl rfl (take_ofW HT_.out HW_.out (by kernel_rfl)) (fun _ _ _ h => h) (Or.inl ⟨by rfl, ?_⟩) hHeld ?_ ?_
           rotate_left
           ·rintro w' ⟨s0, s1, s2, s3, s4, s5, s6, s7, s8, s9, s10, s11, s12, s13, s14, s15, s16, s17, s18, s19, s20, s21, s22, s23, s24, s25, s26, s27, s28, s29, s30, s31⟩
            go_simp
            with_reducible rfl
           rotate_left
           ·simp only [Act.put, List.setIfInBounds_toArray, List.set_cons_zero, List.set_cons_succ, i64_w, i32_w]
            rfl
           refine take_ (i := 34) (N := some 51) (v := ?_) (a' := ?_) #[T4q,T4q,T4q,T4q,T4q,T4q,T4q,T4q,T4q,T4q,T4q,T4q,T4q,T4q,T4q,T4q,T4q,T4q,T4q,T4q,T4q,T4q,T4q,T4q,T4q,T4q,T4q,T4q,T4q,T4q,T4q,T4q,T4q,T4q,T4q,F4q,F4q,F4q,F4q,F4q,F4q,F4q,F4q,F4q,F4q,F4q,F4q,F4q,F4q,F4q,F4q] rfl rfl (take_ofW HT_.out HW_.out (by kernel_rfl)) (fun _ _ _ h => h) (Or.inl ⟨by rfl, ?_⟩) hHeld ?_ ?_
           rotate_left
           ·rintro w' ⟨s0, s1, s2, s3, s4, s5, s6, s7, s8, s9, s10, s11, s12, s13, s14, s15, s16, s17, s18, s19, s20, s21, s22, s23, s24, s25, s26, s27, s28, s29, s30, s31⟩
            go_simp
            with_reducible rfl
           rotate_left
           ·simp only [Act.put, List.setIfInBounds_toArray, List.set_cons_zero, List.set_cons_succ, i64_w, i32_w]
            rfl
           refine pure_ (i := 35) (N := some 52) (v := ?_) (a' := ?_) #[T4q,T4q,T4q,T4q,T4q,T4q,T4q,T4q,T4q,T4q,T4q,T4q,T4q,T4q,T4q,T4q,T4q,T4q,T4q,T4q,T4q,T4q,T4q,T4q,T4q,T4q,T4q,T4q,T4q,T4q,T4q,T4q,T4q,T4q,T4q,T4q,F4q,F4q,F4q,F4q,F4q,F4q,F4q,F4q,F4q,F4q,F4q,F4q,F4q,F4q,F4q] rfl rfl (any_of HT_.out (by kernel_rfl)) (fun _ _ _ h => h) (Or.inl ⟨by rfl, ?_⟩) ?_ ?_
           rotate_left
           ·intro w'
            go_simp
            with_reducible rfl
           rotate_left
           ·simp only [Act.put, List.setIfInBounds_toArray, List.set_cons_zero, List.set_cons_succ, i64_w, i32_w]
            rfl
           refine pure_ (i := 36) (N := some 53) (v := ?_) (a' := ?_) #[T4q,T4q,T4q,T4q,T4q,T4q,T4q,T4q,T4q,T4q,T4q,T4q,T4q,T4q,T4q,T4q,T4q,T4q,T4q,T4q,T4q,T4q,T4q,T4q,T4q,T4q,T4q,T4q,T4q,T4q,T4q,T4q,T4q,T4q,T4q,T4q,T4q,F4q,F4q,F4q,F4q,F4q,F4q,F4q,F4q,F4q,F4q,F4q,F4q,F4q,F4q] rfl rfl (any_of HT_.out (by kernel_rfl)) (fun _ _ _ h => h) (Or.inl ⟨by rfl, ?_⟩) ?_ ?_
           rotate_left
           ·intro w'
            go_simp
            with_reducible rfl
           rotate_left
           ·simp only [Act.put, List.setIfInBounds_toArray, List.set_cons_zero, List.set_cons_succ, i64_w, i32_w]
            rfl
           refine pure_ (i := 37) (N := some 54) (v := ?_) (a' := ?_) #[T4q,T4q,T4q,T4q,T4q,T4q,T4q,T4q,T4q,T4q,T4q,T4q,T4q,T4q,T4q,T4q,T4q,T4q,T4q,T4q,T4q,T4q,T4q,T4q,T4q,T4q,T4q,T4q,T4q,T4q,T4q,T4q,T4q,T4q,T4q,T4q,T4q,T4q,F4q,F4q,F4q,F4q,F4q,F4q,F4q,F4q,F4q,F4q,F4q,F4q,F4q] rfl rfl (any_of HT_.out (by kernel_rfl)) (fun _ _ _ h => h) (Or.inl ⟨by rfl, ?_⟩) ?_ ?_
           rotate_left
           ·intro w'
            go_simp
            with_reducible rfl
           rotate_left
           ·simp only [Act.put, List.setIfInBounds_toArray, List.set_cons_zero, List.set_cons_succ, i64_w, i32_w]
            rfl
           refine pure_ (i := 38) (N := some 55) (v := ?_) (a' := ?_) #[T4q,T4q,T4q,T4q,T4q,T4q,T4q,T4q,T4q,T4q,T4q,T4q,T4q,T4q,T4q,T4q,T4q,T4q,T4q,T4q,T4q,T4q,T4q,T4q,T4q,T4q,T4q,T4q,T4q,T4q,T4q,T4q,T4q,T4q,T4q,T4q,T4q,T4q,T4q,F4q,F4q,F4q,F4q,F4q,F4q,F4q,F4q,F4q,F4q,F4q,F4q] rfl rfl (any_of HT_.out (by kernel_rfl)) (fun _ _ _ h => h) (Or.inl ⟨by rfl, ?_⟩) ?_ ?_
           rotate_left
           ·intro w'
            go_simp
            with_reducible rfl
           rotate_left
           ·simp only [Act.put, List.setIfInBounds_toArray, List.set_cons_zero, List.set_cons_succ, i64_w, i32_w]
            rfl
           refine pure_ (i := 39) (N := some 56) (v := ?_) (a' := ?_) #[T4q,T4q,T4q,T4q,T4q,T4q,T4q,T4q,T4q,T4q,T4q,T4q,T4q,T4q,T4q,T4q,T4q,T4q,T4q,T4q,T4q,T4q,T4q,T4q,T4q,T4q,T4q,T4q,T4q,T4q,T4q,T4q,T4q,T4q,T4q,T4q,T4q,T4q,T4q,T4q,F4q,F4q,F4q,F4q,F4q,F4q,F4q,F4q,F4q,F4q,F4q] rfl rfl (any_of HT_.out (by kernel_rfl)) (fun _ _ _ h => h) (Or.inl ⟨by rfl, ?_⟩) ?_ ?_
           rotate_left
           ·intro w'
            go_simp
            with_reducible rfl
           rotate_left
           ·simp only [Act.put, List.setIfInBounds_toArray, List.set_cons_zero, List.set_cons_succ, i64_w, i32_w]
            rfl
           refine pure_ (i := 40) (N := some 57) (v := ?_) (a' := ?_) #[T4q,T4q,T4q,T4q,T4q,T4q,T4q,T4q,T4q,T4q,T4q,T4q,T4q,T4q,T4q,T4q,T4q,T4q,T4q,T4q,T4q,T4q,T4q,T4q,T4q,T4q,T4q,T4q,T4q,T4q,T4q,T4q,T4q,T4q,T4q,T4q,T4q,T4q,T4q,T4q,T4q,F4q,F4q,F4q,F4q,F4q,F4q,F4q,F4q,F4q,F4q] rfl rfl (any_of HT_.out (by kernel_rfl)) (fun _ _ _ h => h) (Or.inl ⟨by rfl, ?_⟩) ?_ ?_
           rotate_left
           ·intro w'
            go_simp
            with_reducible rfl
           rotate_left
           ·simp only [Act.put, List.setIfInBounds_toArray, List.set_cons_zero, List.set_cons_succ, i64_w, i32_w]
            rfl
           refine pure_ (i := 41) (N := some 58) (v := ?_) (a' := ?_) #[T4q,T4q,T4q,T4q,T4q,T4q,T4q,T4q,T4q,T4q,T4q,T4q,T4q,T4q,T4q,T4q,T4q,T4q,T4q,T4q,T4q,T4q,T4q,T4q,T4q,T4q,T4q,T4q,T4q,T4q,T4q,T4q,T4q,T4q,T4q,T4q,T4q,T4q,T4q,T4q,T4q,T4q,F4q,F4q,F4q,F4q,F4q,F4q,F4q,F4q,F4q] rfl rfl (any_of HT_.out (by kernel_rfl)) (fun _ _ _ h => h) (Or.inl ⟨by rfl, ?_⟩) ?_ ?_
           rotate_left
           ·intro w'
            go_simp
            with_reducible rfl
           rotate_left
           ·simp only [Act.put, List.setIfInBounds_toArray, List.set_cons_zero, List.set_cons_succ, i64_w, i32_w]
            rfl
           refine pure_ (i := 43) (N := some 60) (v := ?_) (a' := ?_) #[T4q,T4q,T4q,T4q,T4q,T4q,T4q,T4q,T4q,T4q,T4q,T4q,T4q,T4q,T4q,T4q,T4q,T4q,T4q,T4q,T4q,T4q,T4q,T4q,T4q,T4q,T4q,T4q,T4q,T4q,T4q,T4q,T4q,T4q,T4q,T4q,T4q,T4q,T4q,T4q,T4q,T4q,F4q,T4q,F4q,F4q,F4q,F4q,F4q,F4q,F4q] rfl rfl (any_of HT_.out (by kernel_rfl)) (fun _ _ _ h => h) (Or.inl ⟨by rfl, ?_⟩) ?_ ?_
           rotate_left
           ·intro w'
            go_simp
            with_reducible rfl
           rotate_left
           ·simp only [Act.put, List.setIfInBounds_toArray, List.set_cons_zero, List.set_cons_succ, i64_w, i32_w]
            rfl
           refine pure_ (i := 44) (N := some 61) (v := ?_) (a' := ?_) #[T4q,T4q,T4q,T4q,T4q,T4q,T4q,T4q,T4q,T4q,T4q,T4q,T4q,T4q,T4q,T4q,T4q,T4q,T4q,T4q,T4q,T4q,T4q,T4q,T4q,T4q,T4q,T4q,T4q,T4q,T4q,T4q,T4q,T4q,T4q,T4q,T4q,T4q,T4q,T4q,T4q,T4q,F4q,T4q,T4q,F4q,F4q,F4q,F4q,F4q,F4q] rfl rfl (any_of HT_.out (by kernel_rfl)) (fun _ _ _ h => h) (Or.inl ⟨by rfl, ?_⟩) ?_ ?_
           rotate_left
           ·intro w'
            go_simp
            with_reducible rfl
           rotate_left
           ·simp only [Act.put, List.setIfInBounds_toArray, List.set_cons_zero, List.set_cons_succ, i64_w, i32_w]
            rfl
           refine pure_ (i := 45) (N := some 62) (v := ?_) (a' := ?_) #[T4q,T4q,T4q,T4q,T4q,T4q,T4q,T4q,T4q,T4q,T4q,T4q,T4q,T4q,T4q,T4q,T4q,T4q,T4q,T4q,T4q,T4q,T4q,T4q,T4q,T4q,T4q,T4q,T4q,T4q,T4q,T4q,T4q,T4q,T4q,T4q,T4q,T4q,T4q,T4q,T4q,T4q,F4q,T4q,T4q,T4q,F4q,F4q,F4q,F4q,F4q] rfl rfl (any_of HT_.out (by kernel_rfl)) (fun _ _ _ h => h) (Or.inl ⟨by rfl, ?_⟩) ?_ ?_
           rotate_left
           ·intro w'
            go_simp
            with_reducible rfl
           rotate_left
           ·simp only [Act.put, List.setIfInBounds_toArray, List.set_cons_zero, List.set_cons_succ, i64_w, i32_w]
            rfl
           refine pure_ (i := 46) (N := some 63) (v := ?_) (a' := ?_) #[T4q,T4q,T4q,T4q,T4q,T4q,T4q,T4q,T4q,T4q,T4q,T4q,T4q,T4q,T4q,T4q,T4q,T4q,T4q,T4q,T4q,T4q,T4q,T4q,T4q,T4q,T4q,T4q,T4q,T4q,T4q,T4q,T4q,T4q,T4q,T4q,T4q,T4q,T4q,T4q,T4q,T4q,F4q,T4q,T4q,T4q,T4q,F4q,F4q,F4q,F4q] rfl rfl (any_of HT_.out (by kernel_rfl)) (fun _ _ _ h => h) (Or.inl ⟨by rfl, ?_⟩) ?_ ?_
           rotate_left
           ·intro w'
            go_simp
            with_reducible rfl
           rotate_left
           ·simp only [Act.put, List.setIfInBounds_toArray, List.set_cons_zero, List.set_cons_succ, i64_w, i32_w]
            rfl
           refine take_ (i := 42) (N := some 59) (v := ?_) (a' := ?_) #[T4q,T4q,T4q,T4q,T4q,T4q,T4q,T4q,T4q,T4q,T4q,T4q,T4q,T4q,T4q,T4q,T4q,T4q,T4q,T4q,T4q,T4q,T4q,T4q,T4q,T4q,T4q,T4q,T4q,T4q,T4q,T4q,T4q,T4q,T4q,T4q,T4q,T4q,T4q,T4q,T4q,T4q,T4q,T4q,T4q,T4q,T4q,F4q,F4q,F4q,F4q] rfl rfl (take_ofW HT_.out HW_.out (by kernel_rfl)) (fun _ _ _ h => h) (Or.inl ⟨by rfl, ?_⟩) hHeld ?_ ?_
           rotate_left
           ·rintro w' ⟨s0, s1, s2, s3, s4, s5, s6, s7, s8, s9, s10, s11, s12, s13, s14, s15, s16, s17, s18, s19, s20, s21, s22, s23, s24, s25, s26, s27, s28, s29, s30, s31⟩
            go_simp
            with_reducible rfl
           rotate_left
           ·simp only [Act.put, List.setIfInBounds_toArray, List.set_cons_zero, List.set_cons_succ, i64_w, i32_w]
            rfl
           refine take_ (i := 47) (N := some 64) (v := ?_) (a' := ?_) #[T4q,T4q,T4q,T4q,T4q,T4q,T4q,T4q,T4q,T4q,T4q,T4q,T4q,T4q,T4q,T4q,T4q,T4q,T4q,T4q,T4q,T4q,T4q,T4q,T4q,T4q,T4q,T4q,T4q,T4q,T4q,T4q,T4q,T4q,T4q,T4q,T4q,T4q,T4q,T4q,T4q,T4q,T4q,T4q,T4q,T4q,T4q,T4q,F4q,F4q,F4q] rfl rfl (take_ofW HT_.out HW_.out (by kernel_rfl)) (fun _ _ _ h => h) (Or.inl ⟨by rfl, ?_⟩) hHeld ?_ ?_
           rotate_left
           ·rintro w' ⟨s0, s1, s2, s3, s4, s5, s6, s7, s8, s9, s10, s11, s12, s13, s14, s15, s16, s17, s18, s19, s20, s21, s22, s23, s24, s25, s26, s27, s28, s29, s30, s31⟩
            go_simp
            with_reducible rfl
           rotate_left
           ·simp only [Act.put, List.setIfInBounds_toArray, List.set_cons_zero, List.set_cons_succ, i64_w, i32_w]
            rfl
           refine one_ (i := 48) (N := some 65) #[T4q,T4q,T4q,T4q,T4q,T4q,T4q,T4q,T4q,T4q,T4q,T4q,T4q,T4q,T4q,T4q,T4q,T4q,T4q,T4q,T4q,T4q,T4q,T4q,T4q,T4q,T4q,T4q,T4q,T4q,T4q,T4q,T4q,T4q,T4q,T4q,T4q,T4q,T4q,T4q,T4q,T4q,T4q,T4q,T4q,T4q,T4q,T4q,T4q,F4q,F4q] rfl rfl (one_of HT_.out (by kernel_rfl)) (by decide) (fun K hK => ?_)
           refine goes_ Tryd.func32 (by kernel_rfl) rfl #[.slice A607_1 ((rd_T48 l0 x5_1).f1).length c607_1, .slice A608_1 ((rd_T48 l1 x5_1).f1).length c608_1] (by rfl) rfl rfl (by (try simp only [List.map_toArray, List.map_cons, List.map_nil]); first | done | rfl | (simp only [List.length_drop, List.length_take]; rfl)) ?_
           with_reducible refine (laws_equalInts.calls k1 _ _ ((rd_T48 l0 x5_1).f1) _ _ ((rd_T48 l1 x5_1).f1) true _ ?side1 ?side2 ?side3 ?side4 A10.out).mono ?_
           (case side1 => repeat (first | exact (Kd.C_below HR613_1.out HB.out) | exact HR613_1.out | (with_reducible refine Kd.C_alloc ?_ _) | (with_reducible refine Kd.C_drewN ?_ _) | (with_reducible refine Kd.C_drew ?_)))
           (case side2 => exact HC613_1.out)
           (case side3 => repeat (first | exact (Kd.C_below HR614_1.out HB.out) | exact HR614_1.out | (with_reducible refine Kd.C_alloc ?_ _) | (with_reducible refine Kd.C_drewN ?_ _) | (with_reducible refine Kd.C_drew ?_)))
           (case side4 => exact HC614_1.out)
           rintro e w' ⟨rfl, ⟨nd, rfl⟩⟩
           refine ⟨_, rfl, ?_⟩
           refine hK.out _ _ ⟨(by first | exact ((HB.out.cell (World.block_lt_of_cell? w _ hw607_0)).trans hw607_0) | exact HS0_ | exact hHeld.1 | exact hw607_0), (by first | exact ((HB.out.cell (World.block_lt_of_cell? w _ hw607_1)).trans hw607_1) | exact HS0_ | exact hHeld.1 | exact hw607_1), (by first | exact ((HB.out.cell (World.block_lt_of_cell? w _ hw607_2)).trans hw607_2) | exact HS0_ | exact hHeld.1 | exact hw607_2), (by first | exact ((HB.out.cell (World.block_lt_of_cell? w _ hw607_3)).trans hw607_3) | exact HS0_ | exact hHeld.1 | exact hw607_3), (by first | exact ((HB.out.cell (World.block_lt_of_cell? w _ hw608_0)).trans hw608_0) | exact HS0_ | exact hHeld.1 | exact hw608_0), (by first | exact ((HB.out.cell (World.block_lt_of_cell? w _ hw608_1)).trans hw608_1) | exact HS0_ | exact hHeld.1 | exact hw608_1), (by first | exact ((HB.out.cell (World.block_lt_of_cell? w _ hw608_2)).trans hw608_2) | exact HS0_ | exact hHeld.1 | exact hw608_2), (by first | exact ((HB.out.cell (World.block_lt_of_cell? w _ hw608_3)).trans hw608_3) | exact HS0_ | exact hHeld.1 | exact hw608_3), (by first | exact ((HB.out.cell (World.block_lt_of_cell? w _ hw609_0)).trans hw609_0) | exact HS0_ | exact hHeld.1 | exact hw609_0), (by first | exact ((HB.out.cell (World.block_lt_of_cell? w _ hw609_1)).trans hw609_1) | exact HS0_ | exact hHeld.1 | exact hw609_1), (by first | exact ((HB.out.cell (World.block_lt_of_cell? w _ hw609_2)).trans hw609_2) | exact HS0_ | exact hHeld.1 | exact hw609_2), (by first | exact ((HB.out.cell (World.block_lt_of_cell? w _ hw609_3)).trans hw609_3) | exact HS0_ | exact hHeld.1 | exact hw609_3), (by first | exact ((HB.out.cell (World.block_lt_of_cell? w _ hw610_0)).trans hw610_0) | exact HS0_ | exact hHeld.1 | exact hw610_0), (by first | exact ((HB.out.cell (World.block_lt_of_cell? w _ hw610_1)).trans hw610_1) | exact HS0_ | exact hHeld.1 | exact hw610_1), (by first | exact ((HB.out.cell (World.block_lt_of_cell? w _ hw610_2)).trans hw610_2) | exact HS0_ | exact hHeld.1 | exact hw610_2), (by first | exact ((HB.out.cell (World.block_lt_of_cell? w _ hw610_3)).trans hw610_3) | exact HS0_ | exact hHeld.1 | exact hw610_3), (by first | exact ((HB.out.cell (World.block_lt_of_cell? w _ hw611_0)).trans hw611_0) | exact HS0_ | exact hHeld.1 | exact hw611_0), (by first | exact ((HB.out.cell (World.block_lt_of_cell? w _ hw611_1)).trans hw611_1) | exact HS0_ | exact hHeld.1 | exact hw611_1), (by first | exact ((HB.out.cell (World.block_lt_of_cell? w _ hw611_2)).trans hw611_2) | exact HS0_ | exact hHeld.1 | exact hw611_2), (by first | exact ((HB.out.cell (World.block_lt_of_cell? w _ hw611_3)).trans hw611_3) | exact HS0_ | exact hHeld.1 | exact hw611_3), (by first | exact ((HB.out.cell (World.block_lt_of_cell? w _ hw612_0)).trans hw612_0) | exact HS0_ | exact hHeld.1 | exact hw612_0), (by first | exact ((HB.out.cell (World.block_lt_of_cell? w _ hw612_1)).trans hw612_1) | exact HS0_ | exact hHeld.1 | exact hw612_1), (by first | exact ((HB.out.cell (World.block_lt_of_cell? w _ hw612_2)).trans hw612_2) | exact HS0_ | exact hHeld.1 | exact hw612_2), (by first | exact ((HB.out.cell (World.block_lt_of_cell? w _ hw612_3)).trans hw612_3) | exact HS0_ | exact hHeld.1 | exact hw612_3), (by first | exact ((HB.out.cell (World.block_lt_of_cell? w _ hw613_0)).trans hw613_0) | exact HS0_ | exact hHeld.1 | exact hw613_0), (by first | exact ((HB.out.cell (World.block_lt_of_cell? w _ hw613_1)).trans hw613_1) | exact HS0_ | exact hHeld.1 | exact hw613_1), (by first | exact ((HB.out.cell (World.block_lt_of_cell? w _ hw613_2)).trans hw613_2) | exact HS0_ | exact hHeld.1 | exact hw613_2), (by first | exact ((HB.out.cell (World.block_lt_of_cell? w _ hw613_3)).trans hw613_3) | exact HS0_ | exact hHeld.1 | exact hw613_3), (by first | exact ((HB.out.cell (World.block_lt_of_cell? w _ hw614_0)).trans hw614_0) | exact HS0_ | exact hHeld.1 | exact hw614_0), (by first | exact ((HB.out.cell (World.block_lt_of_cell? w _ hw614_1)).trans hw614_1) | exact HS0_ | exact hHeld.1 | exact hw614_1), (by first | exact ((HB.out.cell (World.block_lt_of_cell? w _ hw614_2)).trans hw614_2) | exact HS0_ | exact hHeld.1 | exact hw614_2), (by first | exact ((HB.out.cell (World.block_lt_of_cell? w _ hw614_3)).trans hw614_3) | exact HS0_ | exact hHeld.1 | exact hw614_3)⟩ (fun hHeld => ?_)
           clear hK K
           refine norm_ (a' := ?_) ?_ ?_
           rotate_left
           ·show Act.put _ (some 65) _ = _
            simp only [Act.put, List.setIfInBounds_toArray, List.set_cons_zero, List.set_cons_succ, i64_w, i32_w]
            rfl
           refine pure_ (i := 49) (N := some 66) (v := ?_) (a' := ?_) #[T4q,T4q,T4q,T4q,T4q,T4q,T4q,T4q,T4q,T4q,T4q,T4q,T4q,T4q,T4q,T4q,T4q,T4q,T4q,T4q,T4q,T4q,T4q,T4q,T4q,T4q,T4q,T4q,T4q,T4q,T4q,T4q,T4q,T4q,T4q,T4q,T4q,T4q,T4q,T4q,T4q,T4q,T4q,T4q,T4q,T4q,T4q,T4q,T4q,T4q,F4q] rfl rfl (any_of HT_.out (by kernel_rfl)) (fun _ _ _ h => h) (Or.inl ⟨by rfl, ?_⟩) ?_ ?_
           rotate_left
           ·intro w'
            go_simp
            with_reducible rfl
           rotate_left
           ·simp only [Act.put, List.setIfInBounds_toArray, List.set_cons_zero, List.set_cons_succ, i64_w, i32_w]
            rfl
           refine pure_ (i := 50) (N := some 67) (v := ?_) (a' := ?_) #[T4q,T4q,T4q,T4q,T4q,T4q,T4q,T4q,T4q,T4q,T4q,T4q,T4q,T4q,T4q,T4q,T4q,T4q,T4q,T4q,T4q,T4q,T4q,T4q,T4q,T4q,T4q,T4q,T4q,T4q,T4q,T4q,T4q,T4q,T4q,T4q,T4q,T4q,T4q,T4q,T4q,T4q,T4q,T4q,T4q,T4q,T4q,T4q,T4q,T4q,T4q] rfl rfl (any_of HT_.out (by kernel_rfl)) (fun _ _ _ h => h) (Or.inl ⟨by rfl, ?_⟩) ?_ ?_
           rotate_left
           ·intro w'
            go_simp
            with_reducible rfl
           rotate_left
           ·simp only [Act.put, List.setIfInBounds_toArray, List.set_cons_zero, List.set_cons_succ, i64_w, i32_w]
            rfl
           refine done_ (done_of HT_.out (by kernel_rfl)) ?_
           try go_wp2
           go_roundg k1
           case measure => have := HK1.out; omega
           case rel => exact ⟨(wrap64 (x5_1 + 1)), (by first | rfl | (simp; done) | (simp [*]; done)), H', ⟨by have := HK1.out; omega⟩, ⟨by repeat (first | (with_reducible first | exact HB.out | apply below_alloc | apply pw_below_drewN | apply below_drew1) | exact HB.out)⟩⟩
          ·replace c11 := Bool.eq_false_iff.mpr c11
           subst c11
           have H1 : (some false) = some r := by rw [if_neg (show ¬ (false = true) by decide)] at H; exact H
           clear H
           have H := H1
           clear H1
           obtain rfl := Option.some.inj H
           try go_wp2
           have n0_ := Aside0.mk (below_drew1 HB.out)
           clear HB
           have HB := n0_
           clear n0_
           have p607 : 0 ≤ (x5_1 : Int) := of_decide_eq_true (by first | (with_reducible assumption) | assumption)
           have q607 : x5_1 < (l0.length : Int) := of_decide_eq_true (by first | (with_reducible assumption) | assumption)
           obtain ⟨ad607, A607_1, c607_1, e607, hx607_0, hx607_1, hx607_2, hx607_3, hl607_1, hi607_1⟩ := at_T48 HR0.out x5_1 p607 q607
           have hw607_3 := hx607_3
           have hw607_2 := hx607_2
           have hw607_1 := hx607_1
           have hw607_0 := hx607_0
           cases e607
           (try replace hx607_0 := (HB.out.cell (World.block_lt_of_cell? w _ hx607_0)).trans hx607_0)
           (try replace hx607_1 := (HB.out.cell (World.block_lt_of_cell? w _ hx607_1)).trans hx607_1)
           (try replace hx607_2 := (HB.out.cell (World.block_lt_of_cell? w _ hx607_2)).trans hx607_2)
           (try replace hx607_3 := (HB.out.cell (World.block_lt_of_cell? w _ hx607_3)).trans hx607_3)
           have HR607_1 := Aside0.mk hi607_1
           have HC607_1 := Aside0.mk hl607_1
           clear hi607_1 hl607_1
           replace p607 := eq_true p607
           replace q607 := eq_true q607
           have p608 : 0 ≤ (x5_1 : Int) := of_decide_eq_true (by first | (with_reducible assumption) | assumption)
           have q608 : x5_1 < (l1.length : Int) := of_decide_eq_true (by first | (with_reducible assumption) | assumption)
           obtain ⟨ad608, A608_1, c608_1, e608, hx608_0, hx608_1, hx608_2, hx608_3, hl608_1, hi608_1⟩ := at_T48 HR1.out x5_1 p608 q608
           have hw608_3 := hx608_3
           have hw608_2 := hx608_2
           have hw608_1 := hx608_1
           have hw608_0 := hx608_0
           cases e608
           (try replace hx608_0 := (HB.out.cell (World.block_lt_of_cell? w _ hx608_0)).trans hx608_0)
           (try replace hx608_1 := (HB.out.cell (World.block_lt_of_cell? w _ hx608_1)).trans hx608_1)
           (try replace hx608_2 := (HB.out.cell (World.block_lt_of_cell? w _ hx608_2)).trans hx608_2)
           (try replace hx608_3 := (HB.out.cell (World.block_lt_of_cell? w _ hx608_3)).trans hx608_3)
           have HR608_1 := Aside0.mk hi608_1
           have HC608_1 := Aside0.mk hl608_1
           clear hi608_1 hl608_1
           replace p608 := eq_true p608
           replace q608 := eq_true q608
           have p609 : 0 ≤ (x5_1 : Int) := of_decide_eq_true (by first | (with_reducible assumption) | assumption)
           have q609 : x5_1 < (l0.length : Int) := of_decide_eq_true (by first | (with_reducible assumption) | assumption)
           obtain ⟨ad609, A609_1, c609_1, e609, hx609_0, hx609_1, hx609_2, hx609_3, hl609_1, hi609_1⟩ := at_T48 HR0.out x5_1 p609 q609
           have hw609_3 := hx609_3
           have hw609_2 := hx609_2
           have hw609_1 := hx609_1
           have hw609_0 := hx609_0
           obtain rfl : ad607 = ad609 := (by injection e609)
           (try replace hx609_0 := (HB.out.cell (World.block_lt_of_cell? w _ hx609_0)).trans hx609_0)
           (try replace hx609_1 := (HB.out.cell (World.block_lt_of_cell? w _ hx609_1)).trans hx609_1)
           (try replace hx609_2 := (HB.out.cell (World.block_lt_of_cell? w _ hx609_2)).trans hx609_2)
           (try replace hx609_3 := (HB.out.cell (World.block_lt_of_cell? w _ hx609_3)).trans hx609_3)
           have HR609_1 := Aside0.mk hi609_1
           have HC609_1 := Aside0.mk hl609_1
           clear hi609_1 hl609_1
           replace p609 := eq_true p609
           replace q609 := eq_true q609
           have ea_ := Option.some.inj (hx607_1.symm.trans hx609_1)
           injection ea_ with ea_ en_ ec_
           subst ea_
           subst ec_
           clear en_
           have p610 : 0 ≤ (x5_1 : Int) := of_decide_eq_true (by first | (with_reducible assumption) | assumption)
           have q610 : x5_1 < (l1.length : Int) := of_decide_eq_true (by first | (with_reducible assumption) | assumption)
           obtain ⟨ad610, A610_1, c610_1, e610, hx610_0, hx610_1, hx610_2, hx610_3, hl610_1, hi610_1⟩ := at_T48 HR1.out x5_1 p610 q610
           have hw610_3 := hx610_3
           have hw610_2 := hx610_2
           have hw610_1 := hx610_1
           have hw610_0 := hx610_0
           obtain rfl : ad608 = ad610 := (by injection e610)
           (try replace hx610_0 := (HB.out.cell (World.block_lt_of_cell? w _ hx610_0)).trans hx610_0)
           (try replace hx610_1 := (HB.out.cell (World.block_lt_of_cell? w _ hx610_1)).trans hx610_1)
           (try replace hx610_2 := (HB.out.cell (World.block_lt_of_cell? w _ hx610_2)).trans hx610_2)
           (try replace hx610_3 := (HB.out.cell (World.block_lt_of_cell? w _ hx610_3)).trans hx610_3)
           have HR610_1 := Aside0.mk hi610_1
           have HC610_1 := Aside0.mk hl610_1
           clear hi610_1 hl610_1
           replace p610 := eq_true p610
           replace q610 := eq_true q610
           have ea_ := Option.some.inj (hx608_1.symm.trans hx610_1)
           injection ea_ with ea_ en_ ec_
           subst ea_
           subst ec_
           clear en_
           have p611 : 0 ≤ (x5_1 : Int) := of_decide_eq_true (by first | (with_reducible assumption) | assumption)
           have q611 : x5_1 < (l0.length : Int) := of_decide_eq_true (by first | (with_reducible assumption) | assumption)
           obtain ⟨ad611, A611_1, c611_1, e611, hx611_0, hx611_1, hx611_2, hx611_3, hl611_1, hi611_1⟩ := at_T48 HR0.out x5_1 p611 q611
           have hw611_3 := hx611_3
           have hw611_2 := hx611_2
           have hw611_1 := hx611_1
           have hw611_0 := hx611_0
           obtain rfl : ad607 = ad611 := (by injection e611)
           (try replace hx611_0 := (HB.out.cell (World.block_lt_of_cell? w _ hx611_0)).trans hx611_0)
           (try replace hx611_1 := (HB.out.cell (World.block_lt_of_cell? w _ hx611_1)).trans hx611_1)
           (try replace hx611_2 := (HB.out.cell (World.block_lt_of_cell? w _ hx611_2)).trans hx611_2)
           (try replace hx611_3 := (HB.out.cell (World.block_lt_of_cell? w _ hx611_3)).trans hx611_3)
           have HR611_1 := Aside0.mk hi611_1
           have HC611_1 := Aside0.mk hl611_1
           clear hi611_1 hl611_1
           replace p611 := eq_true p611
           replace q611 := eq_true q611
           have ea_ := Option.some.inj (hx607_1.symm.trans hx611_1)
           injection ea_ with ea_ en_ ec_
           subst ea_
           subst ec_
           clear en_
           have p612 : 0 ≤ (x5_1 : Int) := of_decide_eq_true (by first | (with_reducible assumption) | assumption)
           have q612 : x5_1 < (l1.length : Int) := of_decide_eq_true (by first | (with_reducible assumption) | assumption)
           obtain ⟨ad612, A612_1, c612_1, e612, hx612_0, hx612_1, hx612_2, hx612_3, hl612_1, hi612_1⟩ := at_T48 HR1.out x5_1 p612 q612
           have hw612_3 := hx612_3
           have hw612_2 := hx612_2
           have hw612_1 := hx612_1
           have hw612_0 := hx612_0
           obtain rfl : ad608 = ad612 := (by injection e612)
           (try replace hx612_0 := (HB.out.cell (World.block_lt_of_cell? w _ hx612_0)).trans hx612_0)
           (try replace hx612_1 := (HB.out.cell (World.block_lt_of_cell? w _ hx612_1)).trans hx612_1)
           (try replace hx612_2 := (HB.out.cell (World.block_lt_of_cell? w _ hx612_2)).trans hx612_2)
           (try replace hx612_3 := (HB.out.cell (World.block_lt_of_cell? w _ hx612_3)).trans hx612_3)
           have HR612_1 := Aside0.mk hi612_1
           have HC612_1 := Aside0.mk hl612_1
           clear hi612_1 hl612_1
           replace p612 := eq_true p612
           replace q612 := eq_true q612
           have ea_ := Option.some.inj (hx608_1.symm.trans hx612_1)
           injection ea_ with ea_ en_ ec_
           subst ea_
           subst ec_
           clear en_
           have p613 : 0 ≤ (x5_1 : Int) := of_decide_eq_true (by first | (with_reducible assumption) | assumption)
           have q613 : x5_1 < (l0.length : Int) := of_decide_eq_true (by first | (with_reducible assumption) | assumption)
           obtain ⟨ad613, A613_1, c613_1, e613, hx613_0, hx613_1, hx613_2, hx613_3, hl613_1, hi613_1⟩ := at_T48 HR0.out x5_1 p613 q613
           have hw613_3 := hx613_3
           have hw613_2 := hx613_2
           have hw613_1 := hx613_1
           have hw613_0 := hx613_0
           obtain rfl : ad607 = ad613 := (by injection e613)
           (try replace hx613_0 := (HB.out.cell (World.block_lt_of_cell? w _ hx613_0)).trans hx613_0)
           (try replace hx613_1 := (HB.out.cell (World.block_lt_of_cell? w _ hx613_1)).trans hx613_1)
           (try replace hx613_2 := (HB.out.cell (World.block_lt_of_cell? w _ hx613_2)).trans hx613_2)
           (try replace hx613_3 := (HB.out.cell (World.block_lt_of_cell? w _ hx613_3)).trans hx613_3)
           have HR613_1 := Aside0.mk hi613_1
           have HC613_1 := Aside0.mk hl613_1
           clear hi613_1 hl613_1
           replace p613 := eq_true p613
           replace q613 := eq_true q613
           have ea_ := Option.some.inj (hx607_1.symm.trans hx613_1)
           injection ea_ with ea_ en_ ec_
           subst ea_
           subst ec_
           clear en_
           have p614 : 0 ≤ (x5_1 : Int) := of_decide_eq_true (by first | (with_reducible assumption) | assumption)
           have q614 : x5_1 < (l1.length : Int) := of_decide_eq_true (by first | (with_reducible assumption) | assumption)
           obtain ⟨ad614, A614_1, c614_1, e614, hx614_0, hx614_1, hx614_2, hx614_3, hl614_1, hi614_1⟩ := at_T48 HR1.out x5_1 p614 q614
           have hw614_3 := hx614_3
           have hw614_2 := hx614_2
           have hw614_1 := hx614_1
           have hw614_0 := hx614_0
           obtain rfl : ad608 = ad614 := (by injection e614)
           (try replace hx614_0 := (HB.out.cell (World.block_lt_of_cell? w _ hx614_0)).trans hx614_0)
           (try replace hx614_1 := (HB.out.cell (World.block_lt_of_cell? w _ hx614_1)).trans hx614_1)
           (try replace hx614_2 := (HB.out.cell (World.block_lt_of_cell? w _ hx614_2)).trans hx614_2)
           (try replace hx614_3 := (HB.out.cell (World.block_lt_of_cell? w _ hx614_3)).trans hx614_3)
           have HR614_1 := Aside0.mk hi614_1
           have HC614_1 := Aside0.mk hl614_1
           clear hi614_1 hl614_1
           replace p614 := eq_true p614
           replace q614 := eq_true q614
           have ea_ := Option.some.inj (hx608_1.symm.trans hx614_1)
           injection ea_ with ea_ en_ ec_
           subst ea_
           subst ec_
           clear en_
           refine start_ (n := 51) (S := fun w' => w'.cell? (ad607.add ((x5_1).toNat * 4)) = some (.int .i64 ((rd_T48 l0 x5_1).f0)) ∧ w'.cell? ⟨(ad607.add ((x5_1).toNat * 4)).block, (ad607.add ((x5_1).toNat * 4)).off + 1, none⟩ = some (.slice A607_1 ((rd_T48 l0 x5_1).f1).length c607_1) ∧ w'.cell? ⟨(ad607.add ((x5_1).toNat * 4)).block, (ad607.add ((x5_1).toNat * 4)).off + 2, none⟩ = some (.int .i64 ((rd_T48 l0 x5_1).f2)) ∧ w'.cell? ⟨(ad607.add ((x5_1).toNat * 4)).block, (ad607.add ((x5_1).toNat * 4)).off + 3, none⟩ = some (.int .i64 ((rd_T48 l0 x5_1).f3)) ∧ w'.cell? (ad608.add ((x5_1).toNat * 4)) = some (.int .i64 ((rd_T48 l1 x5_1).f0)) ∧ w'.cell? ⟨(ad608.add ((x5_1).toNat * 4)).block, (ad608.add ((x5_1).toNat * 4)).off + 1, none⟩ = some (.slice A608_1 ((rd_T48 l1 x5_1).f1).length c608_1) ∧ w'.cell? ⟨(ad608.add ((x5_1).toNat * 4)).block, (ad608.add ((x5_1).toNat * 4)).off + 2, none⟩ = some (.int .i64 ((rd_T48 l1 x5_1).f2)) ∧ w'.cell? ⟨(ad608.add ((x5_1).toNat * 4)).block, (ad608.add ((x5_1).toNat * 4)).off + 3, none⟩ = some (.int .i64 ((rd_T48 l1 x5_1).f3)) ∧ w'.cell? (ad607.add ((x5_1).toNat * 4)) = some (.int .i64 ((rd_T48 l0 x5_1).f0)) ∧ w'.cell? ⟨(ad607.add ((x5_1).toNat * 4)).block, (ad607.add ((x5_1).toNat * 4)).off + 1, none⟩ = some (.slice A607_1 ((rd_T48 l0 x5_1).f1).length c607_1) ∧ w'.cell? ⟨(ad607.add ((x5_1).toNat * 4)).block, (ad607.add ((x5_1).toNat * 4)).off + 2, none⟩ = some (.int .i64 ((rd_T48 l0 x5_1).f2)) ∧ w'.cell? ⟨(ad607.add ((x5_1).toNat * 4)).block, (ad607.add ((x5_1).toNat * 4)).off + 3, none⟩ = some (.int .i64 ((rd_T48 l0 x5_1).f3)) ∧ w'.cell? (ad608.add ((x5_1).toNat * 4)) = some (.int .i64 ((rd_T48 l1 x5_1).f0)) ∧ w'.cell? ⟨(ad608.add ((x5_1).toNat * 4)).block, (ad608.add ((x5_1).toNat * 4)).off + 1, none⟩ = some (.slice A608_1 ((rd_T48 l1 x5_1).f1).length c608_1) ∧ w'.cell? ⟨(ad608.add ((x5_1).toNat * 4)).block, (ad608.add ((x5_1).toNat * 4)).off + 2, none⟩ = some (.int .i64 ((rd_T48 l1 x5_1).f2)) ∧ w'.cell? ⟨(ad608.add ((x5_1).toNat * 4)).block, (ad608.add ((x5_1).toNat * 4)).off + 3, none⟩ = some (.int .i64 ((rd_T48 l1 x5_1).f3)) ∧ w'.cell? (ad607.add ((x5_1).toNat * 4)) = some (.int .i64 ((rd_T48 l0 x5_1).f0)) ∧ w'.cell? ⟨(ad607.add ((x5_1).toNat * 4)).block, (ad607.add ((x5_1).toNat * 4)).off + 1, none⟩ = some (.slice A607_1 ((rd_T48 l0 x5_1).f1).length c607_1) ∧ w'.cell? ⟨(ad607.add ((x5_1).toNat * 4)).block, (ad607.add ((x5_1).toNat * 4)).off + 2, none⟩ = some (.int .i64 ((rd_T48 l0 x5_1).f2)) ∧ w'.cell? ⟨(ad607.add ((x5_1).toNat * 4)).block, (ad607.add ((x5_1).toNat * 4)).off + 3, none⟩ = some (.int .i64 ((rd_T48 l0 x5_1).f3)) ∧ w'.cell? (ad608.add ((x5_1).toNat * 4)) = some (.int .i64 ((rd_T48 l1 x5_1).f0)) ∧ w'.cell? ⟨(ad608.add ((x5_1).toNat * 4)).block, (ad608.add ((x5_1).toNat * 4)).off + 1, none⟩ = some (.slice A608_1 ((rd_T48 l1 x5_1).f1).length c608_1) ∧ w'.cell? ⟨(ad608.add ((x5_1).toNat * 4)).block, (ad608.add ((x5_1).toNat * 4)).off + 2, none⟩ = some (.int .i64 ((rd_T48 l1 x5_1).f2)) ∧ w'.cell? ⟨(ad608.add ((x5_1).toNat * 4)).block, (ad608.add ((x5_1).toNat * 4)).off + 3, none⟩ = some (.int .i64 ((rd_T48 l1 x5_1).f3)) ∧ w'.cell? (ad607.add ((x5_1).toNat * 4)) = some (.int .i64 ((rd_T48 l0 x5_1).f0)) ∧ w'.cell? ⟨(ad607.add ((x5_1).toNat * 4)).block, (ad607.add ((x5_1).toNat * 4)).off + 1, none⟩ = some (.slice A607_1 ((rd_T48 l0 x5_1).f1).length c607_1) ∧ w'.cell? ⟨(ad607.add ((x5_1).toNat * 4)).block, (ad607.add ((x5_1).toNat * 4)).off + 2, none⟩ = some (.int .i64 ((rd_T48 l0 x5_1).f2)) ∧ w'.cell? ⟨(ad607.add ((x5_1).toNat * 4)).block, (ad607.add ((x5_1).toNat * 4)).off + 3, none⟩ = some (.int .i64 ((rd_T48 l0 x5_1).f3)) ∧ w'.cell? (ad608.add ((x5_1).toNat * 4)) = some (.int .i64 ((rd_T48 l1 x5_1).f0)) ∧ w'.cell? ⟨(ad608.add ((x5_1).toNat * 4)).block, (ad608.add ((x5_1).toNat * 4)).off + 1, none⟩ = some (.slice A608_1 ((rd_T48 l1 x5_1).f1).length c608_1) ∧ w'.cell? ⟨(ad608.add ((x5_1).toNat * 4)).block, (ad608.add ((x5_1).toNat * 4)).off + 2, none⟩ = some (.int .i64 ((rd_T48 l1 x5_1).f2)) ∧ w'.cell? ⟨(ad608.add ((x5_1).toNat * 4)).block, (ad608.add ((x5_1).toNat * 4)).off + 3, none⟩ = some (.int .i64 ((rd_T48 l1 x5_1).f3))) (ds := []) #[F4q,F4q,F4q,F4q,F4q,F4q,F4q,F4q,F4q,F4q,F4q,F4q,F4q,F4q,F4q,F4q,F4q,F4q,F4q,F4q,F4q,F4q,F4q,F4q,F4q,F4q,F4q,F4q,F4q,F4q,F4q,F4q,F4q,F4q,F4q,F4q,F4q,F4q,F4q,F4q,F4q,F4q,F4q,F4q,F4q,F4q,F4q,F4q,F4q,F4q,F4q] (by kernel_rfl) rfl rfl ⟨(by first | exact ((HB.out.cell (World.block_lt_of_cell? w _ hw607_0)).trans hw607_0) | exact HS0_ | exact hHeld.1 | exact hw607_0), (by first | exact ((HB.out.cell (World.block_lt_of_cell? w _ hw607_1)).trans hw607_1) | exact HS0_ | exact hHeld.1 | exact hw607_1), (by first | exact ((HB.out.cell (World.block_lt_of_cell? w _ hw607_2)).trans hw607_2) | exact HS0_ | exact hHeld.1 | exact hw607_2), (by first | exact ((HB.out.cell (World.block_lt_of_cell? w _ hw607_3)).trans hw607_3) | exact HS0_ | exact hHeld.1 | exact hw607_3), (by first | exact ((HB.out.cell (World.block_lt_of_cell? w _ hw608_0)).trans hw608_0) | exact HS0_ | exact hHeld.1 | exact hw608_0), (by first | exact ((HB.out.cell (World.block_lt_of_cell? w _ hw608_1)).trans hw608_1) | exact HS0_ | exact hHeld.1 | exact hw608_1), (by first | exact ((HB.out.cell (World.block_lt_of_cell? w _ hw608_2)).trans hw608_2) | exact HS0_ | exact hHeld.1 | exact hw608_2), (by first | exact ((HB.out.cell (World.block_lt_of_cell? w _ hw608_3)).trans hw608_3) | exact HS0_ | exact hHeld.1 | exact hw608_3), (by first | exact ((HB.out.cell (World.block_lt_of_cell? w _ hw609_0)).trans hw609_0) | exact HS0_ | exact hHeld.1 | exact hw609_0), (by first | exact ((HB.out.cell (World.block_lt_of_cell? w _ hw609_1)).trans hw609_1) | exact HS0_ | exact hHeld.1 | exact hw609_1), (by first | exact ((HB.out.cell (World.block_lt_of_cell? w _ hw609_2)).trans hw609_2) | exact HS0_ | exact hHeld.1 | exact hw609_2), (by first | exact ((HB.out.cell (World.block_lt_of_cell? w _ hw609_3)).trans hw609_3) | exact HS0_ | exact hHeld.1 | exact hw609_3), (by first | exact ((HB.out.cell (World.block_lt_of_cell? w _ hw610_0)).trans hw610_0) | exact HS0_ | exact hHeld.1 | exact hw610_0), (by first | exact ((HB.out.cell (World.block_lt_of_cell? w _ hw610_1)).trans hw610_1) | exact HS0_ | exact hHeld.1 | exact hw610_1), (by first | exact ((HB.out.cell (World.block_lt_of_cell? w _ hw610_2)).trans hw610_2) | exact HS0_ | exact hHeld.1 | exact hw610_2), (by first | exact ((HB.out.cell (World.block_lt_of_cell? w _ hw610_3)).trans hw610_3) | exact HS0_ | exact hHeld.1 | exact hw610_3), (by first | exact ((HB.out.cell (World.block_lt_of_cell? w _ hw611_0)).trans hw611_0) | exact HS0_ | exact hHeld.1 | exact hw611_0), (by first | exact ((HB.out.cell (World.block_lt_of_cell? w _ hw611_1)).trans hw611_1) | exact HS0_ | exact hHeld.1 | exact hw611_1), (by first | exact ((HB.out.cell (World.block_lt_of_cell? w _ hw611_2)).trans hw611_2) | exact HS0_ | exact hHeld.1 | exact hw611_2), (by first | exact ((HB.out.cell (World.block_lt_of_cell? w _ hw611_3)).trans hw611_3) | exact HS0_ | exact hHeld.1 | exact hw611_3), (by first | exact ((HB.out.cell (World.block_lt_of_cell? w _ hw612_0)).trans hw612_0) | exact HS0_ | exact hHeld.1 | exact hw612_0), (by first | exact ((HB.out.cell (World.block_lt_of_cell? w _ hw612_1)).trans hw612_1) | exact HS0_ | exact hHeld.1 | exact hw612_1), (by first | exact ((HB.out.cell (World.block_lt_of_cell? w _ hw612_2)).trans hw612_2) | exact HS0_ | exact hHeld.1 | exact hw612_2), (by first | exact ((HB.out.cell (World.block_lt_of_cell? w _ hw612_3)).trans hw612_3) | exact HS0_ | exact hHeld.1 | exact hw612_3), (by first | exact ((HB.out.cell (World.block_lt_of_cell? w _ hw613_0)).trans hw613_0) | exact HS0_ | exact hHeld.1 | exact hw613_0), (by first | exact ((HB.out.cell (World.block_lt_of_cell? w _ hw613_1)).trans hw613_1) | exact HS0_ | exact hHeld.1 | exact hw613_1), (by first | exact ((HB.out.cell (World.block_lt_of_cell? w _ hw613_2)).trans hw613_2) | exact HS0_ | exact hHeld.1 | exact hw613_2), (by first | exact ((HB.out.cell (World.block_lt_of_cell? w _ hw613_3)).trans hw613_3) | exact HS0_ | exact hHeld.1 | exact hw613_3), (by first | exact ((HB.out.cell (World.block_lt_of_cell? w _ hw614_0)).trans hw614_0) | exact HS0_ | exact hHeld.1 | exact hw614_0), (by first | exact ((HB.out.cell (World.block_lt_of_cell? w _ hw614_1)).trans hw614_1) | exact HS0_ | exact hHeld.1 | exact hw614_1), (by first | exact ((HB.out.cell (World.block_lt_of_cell? w _ hw614_2)).trans hw614_2) | exact HS0_ | exact hHeld.1 | exact hw614_2), (by first | exact ((HB.out.cell (World.block_lt_of_cell? w _ hw614_3)).trans hw614_3) | exact HS0_ | exact hHeld.1 | exact hw614_3)⟩ (fun hHeld => ?_); refine with_tabW laws_equalTasks.tab6 laws_equalTasks.bits6 (fun HT_ HW_ => ?_)
           generalize wr.drew = w13 at HB HR607_1 HR608_1 HR609_1 HR610_1 HR611_1 HR612_1 HR613_1 HR614_1 hx607_0 hx607_1 hx607_2 hx607_3 hx608_0 hx608_1 hx608_2 hx608_3 hx609_0 hx609_1 hx609_2 hx609_3 hx610_0 hx610_1 hx610_2 hx610_3 hx611_0 hx611_1 hx611_2 hx611_3 hx612_0 hx612_1 hx612_2 hx612_3 hx613_0 hx613_1 hx613_2 hx613_3 hx614_0 hx614_1 hx614_2 hx614_3 hHeld ⊢
           refine pure_ (i := 0) (N := some 17) (v := ?_) (a' := ?_) #[T4q,F4q,F4q,F4q,F4q,F4q,F4q,F4q,F4q,F4q,F4q,F4q,F4q,F4q,F4q,F4q,F4q,F4q,F4q,F4q,F4q,F4q,F4q,F4q,F4q,F4q,F4q,F4q,F4q,F4q,F4q,F4q,F4q,F4q,F4q,F4q,F4q,F4q,F4q,F4q,F4q,F4q,F4q,F4q,F4q,F4q,F4q,F4q,F4q,F4q,F4q] rfl rfl (any_of HT_.out (by kernel_rfl)) (fun _ _ _ h => h) (Or.inl ⟨by rfl, ?_⟩) ?_ ?_
           rotate_left
           ·intro w'
            go_simp
            with_reducible rfl
           rotate_left
           ·simp only [Act.put, List.setIfInBounds_toArray, List.set_cons_zero, List.set_cons_succ, i64_w, i32_w]
            rfl
           refine pure_ (i := 1) (N := some 18) (v := ?_) (a' := ?_) #[T4q,T4q,F4q,F4q,F4q,F4q,F4q,F4q,F4q,F4q,F4q,F4q,F4q,F4q,F4q,F4q,F4q,F4q,F4q,F4q,F4q,F4q,F4q,F4q,F4q,F4q,F4q,F4q,F4q,F4q,F4q,F4q,F4q,F4q,F4q,F4q,F4q,F4q,F4q,F4q,F4q,F4q,F4q,F4q,F4q,F4q,F4q,F4q,F4q,F4q,F4q] rfl rfl (any_of HT_.out (by kernel_rfl)) (fun _ _ _ h => h) (Or.inl ⟨by rfl, ?_⟩) ?_ ?_
           rotate_left
           ·intro w'
            go_simp
            with_reducible rfl
           rotate_left
           ·simp only [Act.put, List.setIfInBounds_toArray, List.set_cons_zero, List.set_cons_succ, i64_w, i32_w]
            rfl
           refine pure_ (i := 2) (N := some 19) (v := ?_) (a' := ?_) #[T4q,T4q,T4q,F4q,F4q,F4q,F4q,F4q,F4q,F4q,F4q,F4q,F4q,F4q,F4q,F4q,F4q,F4q,F4q,F4q,F4q,F4q,F4q,F4q,F4q,F4q,F4q,F4q,F4q,F4q,F4q,F4q,F4q,F4q,F4q,F4q,F4q,F4q,F4q,F4q,F4q,F4q,F4q,F4q,F4q,F4q,F4q,F4q,F4q,F4q,F4q] rfl rfl (any_of HT_.out (by kernel_rfl)) (fun _ _ _ h => h) (Or.inl ⟨by rfl, ?_⟩) ?_ ?_
           rotate_left
           ·intro w'
            go_simp
            with_reducible rfl
           rotate_left
           ·simp only [Act.put, List.setIfInBounds_toArray, List.set_cons_zero, List.set_cons_succ, i64_w, i32_w]
            rfl
           refine pure_ (i := 3) (N := some 20) (v := ?_) (a' := ?_) #[T4q,T4q,T4q,T4q,F4q,F4q,F4q,F4q,F4q,F4q,F4q,F4q,F4q,F4q,F4q,F4q,F4q,F4q,F4q,F4q,F4q,F4q,F4q,F4q,F4q,F4q,F4q,F4q,F4q,F4q,F4q,F4q,F4q,F4q,F4q,F4q,F4q,F4q,F4q,F4q,F4q,F4q,F4q,F4q,F4q,F4q,F4q,F4q,F4q,F4q,F4q] rfl rfl (any_of HT_.out (by kernel_rfl)) (fun _ _ _ h => h) (Or.inl ⟨by rfl, ?_⟩) ?_ ?_
           rotate_left
           ·intro w'
            go_simp
            with_reducible rfl
           rotate_left
           ·simp only [Act.put, List.setIfInBounds_toArray, List.set_cons_zero, List.set_cons_succ, i64_w, i32_w]
            rfl
           refine pure_ (i := 5) (N := some 22) (v := ?_) (a' := ?_) #[T4q,T4q,T4q,T4q,F4q,T4q,F4q,F4q,F4q,F4q,F4q,F4q,F4q,F4q,F4q,F4q,F4q,F4q,F4q,F4q,F4q,F4q,F4q,F4q,F4q,F4q,F4q,F4q,F4q,F4q,F4q,F4q,F4q,F4q,F4q,F4q,F4q,F4q,F4q,F4q,F4q,F4q,F4q,F4q,F4q,F4q,F4q,F4q,F4q,F4q,F4q] rfl rfl (any_of HT_.out (by kernel_rfl)) (fun _ _ _ h => h) (Or.inl ⟨by rfl, ?_⟩) ?_ ?_
           rotate_left
           ·intro w'
            go_simp
            with_reducible rfl
           rotate_left
           ·simp only [Act.put, List.setIfInBounds_toArray, List.set_cons_zero, List.set_cons_succ, i64_w, i32_w]
            rfl
           refine pure_ (i := 6) (N := some 23) (v := ?_) (a' := ?_) #[T4q,T4q,T4q,T4q,F4q,T4q,T4q,F4q,F4q,F4q,F4q,F4q,F4q,F4q,F4q,F4q,F4q,F4q,F4q,F4q,F4q,F4q,F4q,F4q,F4q,F4q,F4q,F4q,F4q,F4q,F4q,F4q,F4q,F4q,F4q,F4q,F4q,F4q,F4q,F4q,F4q,F4q,F4q,F4q,F4q,F4q,F4q,F4q,F4q,F4q,F4q] rfl rfl (any_of HT_.out (by kernel_rfl)) (fun _ _ _ h => h) (Or.inl ⟨by rfl, ?_⟩) ?_ ?_
           rotate_left
           ·intro w'
            go_simp
            with_reducible rfl
           rotate_left
           ·simp only [Act.put, List.setIfInBounds_toArray, List.set_cons_zero, List.set_cons_succ, i64_w, i32_w]
            rfl
           refine pure_ (i := 7) (N := some 24) (v := ?_) (a' := ?_) #[T4q,T4q,T4q,T4q,F4q,T4q,T4q,T4q,F4q,F4q,F4q,F4q,F4q,F4q,F4q,F4q,F4q,F4q,F4q,F4q,F4q,F4q,F4q,F4q,F4q,F4q,F4q,F4q,F4q,F4q,F4q,F4q,F4q,F4q,F4q,F4q,F4q,F4q,F4q,F4q,F4q,F4q,F4q,F4q,F4q,F4q,F4q,F4q,F4q,F4q,F4q] rfl rfl (any_of HT_.out (by kernel_rfl)) (fun _ _ _ h => h) (Or.inl ⟨by rfl, ?_⟩) ?_ ?_
           rotate_left
           ·intro w'
            go_simp
            with_reducible rfl
           rotate_left
           ·simp only [Act.put, List.setIfInBounds_toArray, List.set_cons_zero, List.set_cons_succ, i64_w, i32_w]
            rfl
           refine pure_ (i := 8) (N := some 25) (v := ?_) (a' := ?_) #[T4q,T4q,T4q,T4q,F4q,T4q,T4q,T4q,T4q,F4q,F4q,F4q,F4q,F4q,F4q,F4q,F4q,F4q,F4q,F4q,F4q,F4q,F4q,F4q,F4q,F4q,F4q,F4q,F4q,F4q,F4q,F4q,F4q,F4q,F4q,F4q,F4q,F4q,F4q,F4q,F4q,F4q,F4q,F4q,F4q,F4q,F4q,F4q,F4q,F4q,F4q] rfl rfl (any_of HT_.out (by kernel_rfl)) (fun _ _ _ h => h) (Or.inl ⟨by rfl, ?_⟩) ?_ ?_
           rotate_left
           ·intro w'
            go_simp
            with_reducible rfl
           rotate_left
           ·simp only [Act.put, List.setIfInBounds_toArray, List.set_cons_zero, List.set_cons_succ, i64_w, i32_w]
            rfl
           refine take_ (i := 4) (N := some 21) (v := ?_) (a' := ?_) #[T4q,T4q,T4q,T4q,T4q,T4q,T4q,T4q,T4q,F4q,F4q,F4q,F4q,F4q,F4q,F4q,F4q,F4q,F4q,F4q,F4q,F4q,F4q,F4q,F4q,F4q,F4q,F4q,F4q,F4q,F4q,F4q,F4q,F4q,F4q,F4q,F4q,F4q,F4q,F4q,F4q,F4q,F4q,F4q,F4q,F4q,F4q,F4q,F4q,F4q,F4q] rfl rfl (take_ofW HT_.out HW_.out (by kernel_rfl)) (fun _ _ _ h => h) (Or.inl ⟨by rfl, ?_⟩) hHeld ?_ ?_
           rotate_left
           ·rintro w' ⟨s0, s1, s2, s3, s4, s5, s6, s7, s8, s9, s10, s11, s12, s13, s14, s15, s16, s17, s18, s19, s20, s21, s22, s23, s24, s25, s26, s27, s28, s29, s30, s31⟩
            go_simp
            with_reducible rfl
           rotate_left
           ·simp only [Act.put, List.setIfInBounds_toArray, List.set_cons_zero, List.set_cons_succ, i64_w, i32_w]
            rfl
           refine take_ (i := 9) (N := some 26) (v := ?_) (a' := ?_) #[T4q,T4q,T4q,T4q,T4q,T4q,T4q,T4q,T4q,T4q,F4q,F4q,F4q,F4q,F4q,F4q,F4q,F4q,F4q,F4q,F4q,F4q,F4q,F4q,F4q,F4q,F4q,F4q,F4q,F4q,F4q,F4q,F4q,F4q,F4q,F4q,F4q,F4q,F4q,F4q,F4q,F4q,F4q,F4q,F4q,F4q,F4q,F4q,F4q,F4q,F4q] rfl rfl (take_ofW HT_.out HW_.out (by kernel_rfl)) (fun _ _ _ h => h) (Or.inl ⟨by rfl, ?_⟩) hHeld ?_ ?_
           rotate_left
           ·rintro w' ⟨s0, s1, s2, s3, s4, s5, s6, s7, s8, s9, s10, s11, s12, s13, s14, s15, s16, s17, s18, s19, s20, s21, s22, s23, s24, s25, s26, s27, s28, s29, s30, s31⟩
            go_simp
            with_reducible rfl
           rotate_left
           ·simp only [Act.put, List.setIfInBounds_toArray, List.set_cons_zero, List.set_cons_succ, i64_w, i32_w]
            rfl
           refine pure_ (i := 10) (N := some 27) (v := ?_) (a' := ?_) #[T4q,T4q,T4q,T4q,T4q,T4q,T4q,T4q,T4q,T4q,T4q,F4q,F4q,F4q,F4q,F4q,F4q,F4q,F4q,F4q,F4q,F4q,F4q,F4q,F4q,F4q,F4q,F4q,F4q,F4q,F4q,F4q,F4q,F4q,F4q,F4q,F4q,F4q,F4q,F4q,F4q,F4q,F4q,F4q,F4q,F4q,F4q,F4q,F4q,F4q,F4q] rfl rfl (any_of HT_.out (by kernel_rfl)) (fun _ _ _ h => h) (Or.inl ⟨by rfl, ?_⟩) ?_ ?_
           rotate_left
           ·intro w'
            go_simp
            with_reducible rfl
           rotate_left
           ·simp only [Act.put, List.setIfInBounds_toArray, List.set_cons_zero, List.set_cons_succ, i64_w, i32_w]
            rfl
           refine pure_ (i := 11) (N := some 28) (v := ?_) (a' := ?_) #[T4q,T4q,T4q,T4q,T4q,T4q,T4q,T4q,T4q,T4q,T4q,T4q,F4q,F4q,F4q,F4q,F4q,F4q,F4q,F4q,F4q,F4q,F4q,F4q,F4q,F4q,F4q,F4q,F4q,F4q,F4q,F4q,F4q,F4q,F4q,F4q,F4q,F4q,F4q,F4q,F4q,F4q,F4q,F4q,F4q,F4q,F4q,F4q,F4q,F4q,F4q] rfl rfl (any_of HT_.out (by kernel_rfl)) (fun _ _ _ h => h) (Or.inl ⟨by rfl, ?_⟩) ?_ ?_
           rotate_left
           ·intro w'
            go_simp
            with_reducible rfl
           rotate_left
           ·simp only [Act.put, List.setIfInBounds_toArray, List.set_cons_zero, List.set_cons_succ, i64_w, i32_w]
            rfl
           refine pure_ (i := 12) (N := some 29) (v := ?_) (a' := ?_) #[T4q,T4q,T4q,T4q,T4q,T4q,T4q,T4q,T4q,T4q,T4q,T4q,T4q,F4q,F4q,F4q,F4q,F4q,F4q,F4q,F4q,F4q,F4q,F4q,F4q,F4q,F4q,F4q,F4q,F4q,F4q,F4q,F4q,F4q,F4q,F4q,F4q,F4q,F4q,F4q,F4q,F4q,F4q,F4q,F4q,F4q,F4q,F4q,F4q,F4q,F4q] rfl rfl (any_of HT_.out (by kernel_rfl)) (fun _ _ _ h => h) (Or.inl ⟨by rfl, ?_⟩) ?_ ?_
           rotate_left
           ·intro w'
            go_simp
            with_reducible rfl
           rotate_left
           ·simp only [Act.put, List.setIfInBounds_toArray, List.set_cons_zero, List.set_cons_succ, i64_w, i32_w]
            rfl
           refine pure_ (i := 13) (N := some 30) (v := ?_) (a' := ?_) #[T4q,T4q,T4q,T4q,T4q,T4q,T4q,T4q,T4q,T4q,T4q,T4q,T4q,T4q,F4q,F4q,F4q,F4q,F4q,F4q,F4q,F4q,F4q,F4q,F4q,F4q,F4q,F4q,F4q,F4q,F4q,F4q,F4q,F4q,F4q,F4q,F4q,F4q,F4q,F4q,F4q,F4q,F4q,F4q,F4q,F4q,F4q,F4q,F4q,F4q,F4q] rfl rfl (any_of HT_.out (by kernel_rfl)) (fun _ _ _ h => h) (Or.inl ⟨by rfl, ?_⟩) ?_ ?_
           rotate_left
           ·intro w'
            go_simp
            with_reducible rfl
           rotate_left
           ·simp only [Act.put, List.setIfInBounds_toArray, List.set_cons_zero, List.set_cons_succ, i64_w, i32_w]
            rfl
           refine pure_ (i := 14) (N := some 31) (v := ?_) (a' := ?_) #[T4q,T4q,T4q,T4q,T4q,T4q,T4q,T4q,T4q,T4q,T4q,T4q,T4q,T4q,T4q,F4q,F4q,F4q,F4q,F4q,F4q,F4q,F4q,F4q,F4q,F4q,F4q,F4q,F4q,F4q,F4q,F4q,F4q,F4q,F4q,F4q,F4q,F4q,F4q,F4q,F4q,F4q,F4q,F4q,F4q,F4q,F4q,F4q,F4q,F4q,F4q] rfl rfl (any_of HT_.out (by kernel_rfl)) (fun _ _ _ h => h) (Or.inl ⟨by rfl, ?_⟩) ?_ ?_
           rotate_left
           ·intro w'
            go_simp
            with_reducible rfl
           rotate_left
           ·simp only [Act.put, List.setIfInBounds_toArray, List.set_cons_zero, List.set_cons_succ, i64_w, i32_w]
            rfl
           refine pure_ (i := 15) (N := some 32) (v := ?_) (a' := ?_) #[T4q,T4q,T4q,T4q,T4q,T4q,T4q,T4q,T4q,T4q,T4q,T4q,T4q,T4q,T4q,T4q,F4q,F4q,F4q,F4q,F4q,F4q,F4q,F4q,F4q,F4q,F4q,F4q,F4q,F4q,F4q,F4q,F4q,F4q,F4q,F4q,F4q,F4q,F4q,F4q,F4q,F4q,F4q,F4q,F4q,F4q,F4q,F4q,F4q,F4q,F4q] rfl rfl (any_of HT_.out (by kernel_rfl)) (fun _ _ _ h => h) (Or.inl ⟨by rfl, ?_⟩) ?_ ?_
           rotate_left
           ·intro w'
            go_simp
            with_reducible rfl
           rotate_left
           ·simp only [Act.put, List.setIfInBounds_toArray, List.set_cons_zero, List.set_cons_succ, i64_w, i32_w]
            rfl
           refine pure_ (i := 17) (N := some 34) (v := ?_) (a' := ?_) #[T4q,T4q,T4q,T4q,T4q,T4q,T4q,T4q,T4q,T4q,T4q,T4q,T4q,T4q,T4q,T4q,F4q,T4q,F4q,F4q,F4q,F4q,F4q,F4q,F4q,F4q,F4q,F4q,F4q,F4q,F4q,F4q,F4q,F4q,F4q,F4q,F4q,F4q,F4q,F4q,F4q,F4q,F4q,F4q,F4q,F4q,F4q,F4q,F4q,F4q,F4q] rfl rfl (any_of HT_.out (by kernel_rfl)) (fun _ _ _ h => h) (Or.inl ⟨by rfl, ?_⟩) ?_ ?_
           rotate_left
           ·intro w'
            go_simp
            with_reducible rfl
           rotate_left
           ·simp only [Act.put, List.setIfInBounds_toArray, List.set_cons_zero, List.set_cons_succ, i64_w, i32_w]
            rfl
           refine pure_ (i := 18) (N := some 35) (v := ?_) (a' := ?_) #[T4q,T4q,T4q,T4q,T4q,T4q,T4q,T4q,T4q,T4q,T4q,T4q,T4q,T4q,T4q,T4q,F4q,T4q,T4q,F4q,F4q,F4q,F4q,F4q,F4q,F4q,F4q,F4q,F4q,F4q,F4q,F4q,F4q,F4q,F4q,F4q,F4q,F4q,F4q,F4q,F4q,F4q,F4q,F4q,F4q,F4q,F4q,F4q,F4q,F4q,F4q] rfl rfl (any_of HT_.out (by kernel_rfl)) (fun _ _ _ h => h) (Or.inl ⟨by rfl, ?_⟩) ?_ ?_
           rotate_left
           ·intro w'
            go_simp
            with_reducible rfl
           rotate_left
           ·simp only [Act.put, List.setIfInBounds_toArray, List.set_cons_zero, List.set_cons_succ, i64_w, i32_w]
            rfl
           refine pure_ (i := 19) (N := some 36) (v := ?_) (a' := ?_) #[T4q,T4q,T4q,T4q,T4q,T4q,T4q,T4q,T4q,T4q,T4q,T4q,T4q,T4q,T4q,T4q,F4q,T4q,T4q,T4q,F4q,F4q,F4q,F4q,F4q,F4q,F4q,F4q,F4q,F4q,F4q,F4q,F4q,F4q,F4q,F4q,F4q,F4q,F4q,F4q,F4q,F4q,F4q,F4q,F4q,F4q,F4q,F4q,F4q,F4q,F4q] rfl rfl (any_of HT_.out (by kernel_rfl)) (fun _ _ _ h => h) (Or.inl ⟨by rfl, ?_⟩) ?_ ?_
           rotate_left
           ·intro w'
            go_simp
            with_reducible rfl
           rotate_left
           ·simp only [Act.put, List.setIfInBounds_toArray, List.set_cons_zero, List.set_cons_succ, i64_w, i32_w]
            rfl
           refine pure_ (i := 20) (N := some 37) (v := ?_) (a' := ?_) #[T4q,T4q,T4q,T4q,T4q,T4q,T4q,T4q,T4q,T4q,T4q,T4q,T4q,T4q,T4q,T4q,F4q,T4q,T4q,T4q,T4q,F4q,F4q,F4q,F4q,F4q,F4q,F4q,F4q,F4q,F4q,F4q,F4q,F4q,F4q,F4q,F4q,F4q,F4q,F4q,F4q,F4q,F4q,F4q,F4q,F4q,F4q,F4q,F4q,F4q,F4q] rfl rfl (any_of HT_.out (by kernel_rfl)) (fun _ _ _ h => h) (Or.inl ⟨by rfl, ?_⟩) ?_ ?_
           rotate_left
           ·intro w'
            go_simp
            with_reducible rfl
           rotate_left
           ·simp only [Act.put, List.setIfInBounds_toArray, List.set_cons_zero, List.set_cons_succ, i64_w, i32_w]
            rfl
           refine take_ (i := 16) (N := some 33) (v := ?_) (a' := ?_) #[T4q,T4q,T4q,T4q,T4q,T4q,T4q,T4q,T4q,T4q,T4q,T4q,T4q,T4q,T4q,T4q,T4q,T4q,T4q,T4q,T4q,F4q,F4q,F4q,F4q,F4q,F4q,F4q,F4q,F4q,F4q,F4q,F4q,F4q,F4q,F4q,F4q,F4q,F4q,F4q,F4q,F4q,F4q,F4q,F4q,F4q,F4q,F4q,F4q,F4q,F4q] rfl rfl (take_ofW HT_.out HW_.out (by kernel_rfl)) (fun _ _ _ h => h) (Or.inl ⟨by rfl, ?_⟩) hHeld ?_ ?_
           rotate_left
           ·rintro w' ⟨s0, s1, s2, s3, s4, s5, s6, s7, s8, s9, s10, s11, s12, s13, s14, s15, s16, s17, s18, s19, s20, s21, s22, s23, s24, s25, s26, s27, s28, s29, s30, s31⟩
            go_simp
            with_reducible rfl
           rotate_left
           ·simp only [Act.put, List.setIfInBounds_toArray, List.set_cons_zero, List.set_cons_succ, i64_w, i32_w]
            rfl
           refine take_ (i := 21) (N := some 38) (v := ?_) (a' := ?_) #[T4q,T4q,T4q,T4q,T4q,T4q,T4q,T4q,T4q,T4q,T4q,T4q,T4q,T4q,T4q,T4q,T4q,T4q,T4q,T4q,T4q,T4q,F4q,F4q,F4q,F4q,F4q,F4q,F4q,F4q,F4q,F4q,F4q,F4q,F4q,F4q,F4q,F4q,F4q,F4q,F4q,F4q,F4q,F4q,F4q,F4q,F4q,F4q,F4q,F4q,F4q] rfl rfl (take_ofW HT_.out HW_.out (by kernel_rfl)) (fun _ _ _ h => h) (Or.inl ⟨by rfl, ?_⟩) hHeld ?_ ?_
           rotate_left
           ·rintro w' ⟨s0, s1, s2, s3, s4, s5, s6, s7, s8, s9, s10, s11, s12, s13, s14, s15, s16, s17, s18, s19, s20, s21, s22, s23, s24, s25, s26, s27, s28, s29, s30, s31⟩
            go_simp
            with_reducible rfl
           rotate_left
           ·simp only [Act.put, List.setIfInBounds_toArray, List.set_cons_zero, List.set_cons_succ, i64_w, i32_w]
            rfl
           refine pure_ (i := 22) (N := some 39) (v := ?_) (a' := ?_) #[T4q,T4q,T4q,T4q,T4q,T4q,T4q,T4q,T4q,T4q,T4q,T4q,T4q,T4q,T4q,T4q,T4q,T4q,T4q,T4q,T4q,T4q,T4q,F4q,F4q,F4q,F4q,F4q,F4q,F4q,F4q,F4q,F4q,F4q,F4q,F4q,F4q,F4q,F4q,F4q,F4q,F4q,F4q,F4q,F4q,F4q,F4q,F4q,F4q,F4q,F4q] rfl rfl (any_of HT_.out (by kernel_rfl)) (fun _ _ _ h => h) (Or.inl ⟨by rfl, ?_⟩) ?_ ?_
           rotate_left
           ·intro w'
            go_simp
            with_reducible rfl
           rotate_left
           ·simp only [Act.put, List.setIfInBounds_toArray, List.set_cons_zero, List.set_cons_succ, i64_w, i32_w]
            rfl
           refine pure_ (i := 23) (N := some 40) (v := ?_) (a' := ?_) #[T4q,T4q,T4q,T4q,T4q,T4q,T4q,T4q,T4q,T4q,T4q,T4q,T4q,T4q,T4q,T4q,T4q,T4q,T4q,T4q,T4q,T4q,T4q,T4q,F4q,F4q,F4q,F4q,F4q,F4q,F4q,F4q,F4q,F4q,F4q,F4q,F4q,F4q,F4q,F4q,F4q,F4q,F4q,F4q,F4q,F4q,F4q,F4q,F4q,F4q,F4q] rfl rfl (any_of HT_.out (by kernel_rfl)) (fun _ _ _ h => h) (Or.inl ⟨by rfl, ?_⟩) ?_ ?_
           rotate_left
           ·intro w'
            go_simp
            with_reducible rfl
           rotate_left
           ·simp only [Act.put, List.setIfInBounds_toArray, List.set_cons_zero, List.set_cons_succ, i64_w, i32_w]
            rfl
           refine pure_ (i := 24) (N := some 41) (v := ?_) (a' := ?_) #[T4q,T4q,T4q,T4q,T4q,T4q,T4q,T4q,T4q,T4q,T4q,T4q,T4q,T4q,T4q,T4q,T4q,T4q,T4q,T4q,T4q,T4q,T4q,T4q,T4q,F4q,F4q,F4q,F4q,F4q,F4q,F4q,F4q,F4q,F4q,F4q,F4q,F4q,F4q,F4q,F4q,F4q,F4q,F4q,F4q,F4q,F4q,F4q,F4q,F4q,F4q] rfl rfl (any_of HT_.out (by kernel_rfl)) (fun _ _ _ h => h) (Or.inl ⟨by rfl, ?_⟩) ?_ ?_
           rotate_left
           ·intro w'
            go_simp
            with_reducible rfl
           rotate_left
           ·simp only [Act.put, List.setIfInBounds_toArray, List.set_cons_zero, List.set_cons_succ, i64_w, i32_w]
            rfl
           refine pure_ (i := 25) (N := some 42) (v := ?_) (a' := ?_) #[T4q,T4q,T4q,T4q,T4q,T4q,T4q,T4q,T4q,T4q,T4q,T4q,T4q,T4q,T4q,T4q,T4q,T4q,T4q,T4q,T4q,T4q,T4q,T4q,T4q,T4q,F4q,F4q,F4q,F4q,F4q,F4q,F4q,F4q,F4q,F4q,F4q,F4q,F4q,F4q,F4q,F4q,F4q,F4q,F4q,F4q,F4q,F4q,F4q,F4q,F4q] rfl rfl (any_of HT_.out (by kernel_rfl)) (fun _ _ _ h => h) (Or.inl ⟨by rfl, ?_⟩) ?_ ?_
           rotate_left
           ·intro w'
            go_simp
            with_reducible rfl
           rotate_left
           ·simp only [Act.put, List.setIfInBounds_toArray, List.set_cons_zero, List.set_cons_succ, i64_w, i32_w]
            rfl
           refine pure_ (i := 26) (N := some 43) (v := ?_) (a' := ?_) #[T4q,T4q,T4q,T4q,T4q,T4q,T4q,T4q,T4q,T4q,T4q,T4q,T4q,T4q,T4q,T4q,T4q,T4q,T4q,T4q,T4q,T4q,T4q,T4q,T4q,T4q,T4q,F4q,F4q,F4q,F4q,F4q,F4q,F4q,F4q,F4q,F4q,F4q,F4q,F4q,F4q,F4q,F4q,F4q,F4q,F4q,F4q,F4q,F4q,F4q,F4q] rfl rfl (any_of HT_.out (by kernel_rfl)) (fun _ _ _ h => h) (Or.inl ⟨by rfl, ?_⟩) ?_ ?_
           rotate_left
           ·intro w'
            go_simp
            with_reducible rfl
           rotate_left
           ·simp only [Act.put, List.setIfInBounds_toArray, List.set_cons_zero, List.set_cons_succ, i64_w, i32_w]
            rfl
           refine pure_ (i := 27) (N := some 44) (v := ?_) (a' := ?_) #[T4q,T4q,T4q,T4q,T4q,T4q,T4q,T4q,T4q,T4q,T4q,T4q,T4q,T4q,T4q,T4q,T4q,T4q,T4q,T4q,T4q,T4q,T4q,T4q,T4q,T4q,T4q,T4q,F4q,F4q,F4q,F4q,F4q,F4q,F4q,F4q,F4q,F4q,F4q,F4q,F4q,F4q,F4q,F4q,F4q,F4q,F4q,F4q,F4q,F4q,F4q] rfl rfl (any_of HT_.out (by kernel_rfl)) (fun _ _ _ h => h) (Or.inl ⟨by rfl, ?_⟩) ?_ ?_
           rotate_left
           ·intro w'
            go_simp
            with_reducible rfl
           rotate_left
           ·simp only [Act.put, List.setIfInBounds_toArray, List.set_cons_zero, List.set_cons_succ, i64_w, i32_w]
            rfl
           refine pure_ (i := 28) (N := some 45) (v := ?_) (a' := ?_) #[T4q,T4q,T4q,T4q,T4q,T4q,T4q,T4q,T4q,T4q,T4q,T4q,T4q,T4q,T4q,T4q,T4q,T4q,T4q,T4q,T4q,T4q,T4q,T4q,T4q,T4q,T4q,T4q,T4q,F4q,F4q,F4q,F4q,F4q,F4q,F4q,F4q,F4q,F4q,F4q,F4q,F4q,F4q,F4q,F4q,F4q,F4q,F4q,F4q,F4q,F4q] rfl rfl (any_of HT_.out (by kernel_rfl)) (fun _ _ _ h => h) (Or.inl ⟨by rfl, ?_⟩) ?_ ?_
           rotate_left
           ·intro w'
            go_simp
            with_reducible rfl
           rotate_left
           ·simp only [Act.put, List.setIfInBounds_toArray, List.set_cons_zero, List.set_cons_succ, i64_w, i32_w]
            rfl
           refine pure_ (i := 30) (N := some 47) (v := ?_) (a' := ?_) #[T4q,T4q,T4q,T4q,T4q,T4q,T4q,T4q,T4q,T4q,T4q,T4q,T4q,T4q,T4q,T4q,T4q,T4q,T4q,T4q,T4q,T4q,T4q,T4q,T4q,T4q,T4q,T4q,T4q,F4q,T4q,F4q,F4q,F4q,F4q,F4q,F4q,F4q,F4q,F4q,F4q,F4q,F4q,F4q,F4q,F4q,F4q,F4q,F4q,F4q,F4q] rfl rfl (any_of HT_.out (by kernel_rfl)) (fun _ _ _ h => h) (Or.inl ⟨by rfl, ?_⟩) ?_ ?_
           rotate_left
           ·intro w'
            go_simp
            with_reducible rfl
           rotate_left
           ·simp only [Act.put, List.setIfInBounds_toArray, List.set_cons_zero, List.set_cons_succ, i64_w, i32_w]
            rfl
           refine pure_ (i := 31) (N := some 48) (v := ?_) (a' := ?_) #[T4q,T4q,T4q,T4q,T4q,T4q,T4q,T4q,T4q,T4q,T4q,T4q,T4q,T4q,T4q,T4q,T4q,T4q,T4q,T4q,T4q,T4q,T4q,T4q,T4q,T4q,T4q,T4q,T4q,F4q,T4q,T4q,F4q,F4q,F4q,F4q,F4q,F4q,F4q,F4q,F4q,F4q,F4q,F4q,F4q,F4q,F4q,F4q,F4q,F4q,F4q] rfl rfl (any_of HT_.out (by kernel_rfl)) (fun _ _ _ h => h) (Or.inl ⟨by rfl, ?_⟩) ?_ ?_
           rotate_left
           ·intro w'
            go_simp
            with_reducible rfl
           rotate_left
           ·simp only [Act.put, List.setIfInBounds_toArray, List.set_cons_zero, List.set_cons_succ, i64_w, i32_w]
            rfl
           refine pure_ (i := 32) (N := some 49) (v := ?_) (a' := ?_) #[T4q,T4q,T4q,T4q,T4q,T4q,T4q,T4q,T4q,T4q,T4q,T4q,T4q,T4q,T4q,T4q,T4q,T4q,T4q,T4q,T4q,T4q,T4q,T4q,T4q,T4q,T4q,T4q,T4q,F4q,T4q,T4q,T4q,F4q,F4q,F4q,F4q,F4q,F4q,F4q,F4q,F4q,F4q,F4q,F4q,F4q,F4q,F4q,F4q,F4q,F4q] rfl rfl (any_of HT_.out (by kernel_rfl)) (fun _ _ _ h => h) (Or.inl ⟨by rfl, ?_⟩) ?_ ?_
           rotate_left
           ·intro w'
            go_simp
            with_reducible rfl
           rotate_left
           ·simp only [Act.put, List.setIfInBounds_toArray, List.set_cons_zero, List.set_cons_succ, i64_w, i32_w]
            rfl
           refine pure_ (i := 33) (N := some 50) (v := ?_) (a' := ?_) #[T4q,T4q,T4q,T4q,T4q,T4q,T4q,T4q,T4q,T4q,T4q,T4q,T4q,T4q,T4q,T4q,T4q,T4q,T4q,T4q,T4q,T4q,T4q,T4q,T4q,T4q,T4q,T4q,T4q,F4q,T4q,T4q,T4q,T4q,F4q,F4q,F4q,F4q,F4q,F4q,F4q,F4q,F4q,F4q,F4q,F4q,F4q,F4q,F4q,F4q,F4q] rfl rfl (any_of HT_.out (by kernel_rfl)) (fun _ _ _ h => h) (Or.inl ⟨by rfl, ?_⟩) ?_ ?_
           rotate_left
           ·intro w'
            go_simp
            with_reducible rfl
           rotate_left
           ·simp only [Act.put, List.setIfInBounds_toArray, List.set_cons_zero, List.set_cons_succ, i64_w, i32_w]
            rfl
           refine take_ (i := 29) (N := some 46) (v := ?_) (a' := ?_) #[T4q,T4q,T4q,T4q,T4q,T4q,T4q,T4q,T4q,T4q,T4q,T4q,T4q,T4q,T4q,T4q,T4q,T4q,T4q,T4q,T4q,T4q,T4q,T4q,T4q,T4q,T4q,T4q,T4q,T4q,T4q,T4q,T4q,T4q,F4q,F4q,F4q,F4q,F4q,F4q,F4q,F4q,F4q,F4q,F4q,F4q,F4q,F4q,F4q,F4q,F4q] rfl rfl (take_ofW HT_.out HW_.out (by kernel_rfl)) (fun _ _ _ h => h) (Or.inl ⟨by rfl, ?_⟩) hHeld ?_ ?_
           rotate_left
           ·rintro w' ⟨s0, s1, s2, s3, s4, s5, s6, s7, s8, s9, s10, s11, s12, s13, s14, s15, s16, s17, s18, s19, s20, s21, s22, s23, s24, s25, s26, s27, s28, s29, s30, s31⟩
            go_simp
            with_reducible rfl
           rotate_left
           ·simp only [Act.put, List.setIfInBounds_toArray, List.set_cons_zero, List.set_cons_succ, i64_w, i32_w]
            rfl
           refine take_ (i := 34) (N := some 51) (v := ?_) (a' := ?_) #[T4q,T4q,T4q,T4q,T4q,T4q,T4q,T4q,T4q,T4q,T4q,T4q,T4q,T4q,T4q,T4q,T4q,T4q,T4q,T4q,T4q,T4q,T4q,T4q,T4q,T4q,T4q,T4q,T4q,T4q,T4q,T4q,T4q,T4q,T4q,F4q,F4q,F4q,F4q,F4q,F4q,F4q,F4q,F4q,F4q,F4q,F4q,F4q,F4q,F4q,F4q] rfl rfl (take_ofW HT_.out HW_.out (by kernel_rfl)) (fun _ _ _ h => h) (Or.inl ⟨by rfl, ?_⟩) hHeld ?_ ?_
           rotate_left
           ·rintro w' ⟨s0, s1, s2, s3, s4, s5, s6, s7, s8, s9, s10, s11, s12, s13, s14, s15, s16, s17, s18, s19, s20, s21, s22, s23, s24, s25, s26, s27, s28, s29, s30, s31⟩
            go_simp
            with_reducible rfl
           rotate_left
           ·simp only [Act.put, List.setIfInBounds_toArray, List.set_cons_zero, List.set_cons_succ, i64_w, i32_w]
            rfl
           refine pure_ (i := 35) (N := some 52) (v := ?_) (a' := ?_) #[T4q,T4q,T4q,T4q,T4q,T4q,T4q,T4q,T4q,T4q,T4q,T4q,T4q,T4q,T4q,T4q,T4q,T4q,T4q,T4q,T4q,T4q,T4q,T4q,T4q,T4q,T4q,T4q,T4q,T4q,T4q,T4q,T4q,T4q,T4q,T4q,F4q,F4q,F4q,F4q,F4q,F4q,F4q,F4q,F4q,F4q,F4q,F4q,F4q,F4q,F4q] rfl rfl (any_of HT_.out (by kernel_rfl)) (fun _ _ _ h => h) (Or.inl ⟨by rfl, ?_⟩) ?_ ?_
           rotate_left
           ·intro w'
            go_simp
            with_reducible rfl
           rotate_left
           ·simp only [Act.put, List.setIfInBounds_toArray, List.set_cons_zero, List.set_cons_succ, i64_w, i32_w]
            rfl
           refine pure_ (i := 36) (N := some 53) (v := ?_) (a' := ?_) #[T4q,T4q,T4q,T4q,T4q,T4q,T4q,T4q,T4q,T4q,T4q,T4q,T4q,T4q,T4q,T4q,T4q,T4q,T4q,T4q,T4q,T4q,T4q,T4q,T4q,T4q,T4q,T4q,T4q,T4q,T4q,T4q,T4q,T4q,T4q,T4q,T4q,F4q,F4q,F4q,F4q,F4q,F4q,F4q,F4q,F4q,F4q,F4q,F4q,F4q,F4q] rfl rfl (any_of HT_.out (by kernel_rfl)) (fun _ _ _ h => h) (Or.inl ⟨by rfl, ?_⟩) ?_ ?_
           rotate_left
           ·intro w'
            go_simp
            with_reducible rfl
           rotate_left
           ·simp only [Act.put, List.setIfInBounds_toArray, List.set_cons_zero, List.set_cons_succ, i64_w, i32_w]
            rfl
           refine pure_ (i := 37) (N := some 54) (v := ?_) (a' := ?_) #[T4q,T4q,T4q,T4q,T4q,T4q,T4q,T4q,T4q,T4q,T4q,T4q,T4q,T4q,T4q,T4q,T4q,T4q,T4q,T4q,T4q,T4q,T4q,T4q,T4q,T4q,T4q,T4q,T4q,T4q,T4q,T4q,T4q,T4q,T4q,T4q,T4q,T4q,F4q,F4q,F4q,F4q,F4q,F4q,F4q,F4q,F4q,F4q,F4q,F4q,F4q] rfl rfl (any_of HT_.out (by kernel_rfl)) (fun _ _ _ h => h) (Or.inl ⟨by rfl, ?_⟩) ?_ ?_
           rotate_left
           ·intro w'
            go_simp
            with_reducible rfl
           rotate_left
           ·simp only [Act.put, List.setIfInBounds_toArray, List.set_cons_zero, List.set_cons_succ, i64_w, i32_w]
            rfl
           refine pure_ (i := 38) (N := some 55) (v := ?_) (a' := ?_) #[T4q,T4q,T4q,T4q,T4q,T4q,T4q,T4q,T4q,T4q,T4q,T4q,T4q,T4q,T4q,T4q,T4q,T4q,T4q,T4q,T4q,T4q,T4q,T4q,T4q,T4q,T4q,T4q,T4q,T4q,T4q,T4q,T4q,T4q,T4q,T4q,T4q,T4q,T4q,F4q,F4q,F4q,F4q,F4q,F4q,F4q,F4q,F4q,F4q,F4q,F4q] rfl rfl (any_of HT_.out (by kernel_rfl)) (fun _ _ _ h => h) (Or.inl ⟨by rfl, ?_⟩) ?_ ?_
           rotate_left
           ·intro w'
            go_simp
            with_reducible rfl
           rotate_left
           ·simp only [Act.put, List.setIfInBounds_toArray, List.set_cons_zero, List.set_cons_succ, i64_w, i32_w]
            rfl
           refine pure_ (i := 39) (N := some 56) (v := ?_) (a' := ?_) #[T4q,T4q,T4q,T4q,T4q,T4q,T4q,T4q,T4q,T4q,T4q,T4q,T4q,T4q,T4q,T4q,T4q,T4q,T4q,T4q,T4q,T4q,T4q,T4q,T4q,T4q,T4q,T4q,T4q,T4q,T4q,T4q,T4q,T4q,T4q,T4q,T4q,T4q,T4q,T4q,F4q,F4q,F4q,F4q,F4q,F4q,F4q,F4q,F4q,F4q,F4q] rfl rfl (any_of HT_.out (by kernel_rfl)) (fun _ _ _ h => h) (Or.inl ⟨by rfl, ?_⟩) ?_ ?_
           rotate_left
           ·intro w'
            go_simp
            with_reducible rfl
           rotate_left
           ·simp only [Act.put, List.setIfInBounds_toArray, List.set_cons_zero, List.set_cons_succ, i64_w, i32_w]
            rfl
           refine pure_ (i := 40) (N := some 57) (v := ?_) (a' := ?_) #[T4q,T4q,T4q,T4q,T4q,T4q,T4q,T4q,T4q,T4q,T4q,T4q,T4q,T4q,T4q,T4q,T4q,T4q,T4q,T4q,T4q,T4q,T4q,T4q,T4q,T4q,T4q,T4q,T4q,T4q,T4q,T4q,T4q,T4q,T4q,T4q,T4q,T4q,T4q,T4q,T4q,F4q,F4q,F4q,F4q,F4q,F4q,F4q,F4q,F4q,F4q] rfl rfl (any_of HT_.out (by kernel_rfl)) (fun _ _ _ h => h) (Or.inl ⟨by rfl, ?_⟩) ?_ ?_
           rotate_left
           ·intro w'
            go_simp
            with_reducible rfl
           rotate_left
           ·simp only [Act.put, List.setIfInBounds_toArray, List.set_cons_zero, List.set_cons_succ, i64_w, i32_w]
            rfl
           refine pure_ (i := 41) (N := some 58) (v := ?_) (a' := ?_) #[T4q,T4q,T4q,T4q,T4q,T4q,T4q,T4q,T4q,T4q,T4q,T4q,T4q,T4q,T4q,T4q,T4q,T4q,T4q,T4q,T4q,T4q,T4q,T4q,T4q,T4q,T4q,T4q,T4q,T4q,T4q,T4q,T4q,T4q,T4q,T4q,T4q,T4q,T4q,T4q,T4q,T4q,F4q,F4q,F4q,F4q,F4q,F4q,F4q,F4q,F4q] rfl rfl (any_of HT_.out (by kernel_rfl)) (fun _ _ _ h => h) (Or.inl ⟨by rfl, ?_⟩) ?_ ?_
           rotate_left
           ·intro w'
            go_simp
            with_reducible rfl
           rotate_left
           ·simp only [Act.put, List.setIfInBounds_toArray, List.set_cons_zero, List.set_cons_succ, i64_w, i32_w]
            rfl
           refine pure_ (i := 43) (N := some 60) (v := ?_) (a' := ?_) #[T4q,T4q,T4q,T4q,T4q,T4q,T4q,T4q,T4q,T4q,T4q,T4q,T4q,T4q,T4q,T4q,T4q,T4q,T4q,T4q,T4q,T4q,T4q,T4q,T4q,T4q,T4q,T4q,T4q,T4q,T4q,T4q,T4q,T4q,T4q,T4q,T4q,T4q,T4q,T4q,T4q,T4q,F4q,T4q,F4q,F4q,F4q,F4q,F4q,F4q,F4q] rfl rfl (any_of HT_.out (by kernel_rfl)) (fun _ _ _ h => h) (Or.inl ⟨by rfl, ?_⟩) ?_ ?_
           rotate_left
           ·intro w'
            go_simp
            with_reducible rfl
           rotate_left
           ·simp only [Act.put, List.setIfInBounds_toArray, List.set_cons_zero, List.set_cons_succ, i64_w, i32_w]
            rfl
           refine pure_ (i := 44) (N := some 61) (v := ?_) (a' := ?_) #[T4q,T4q,T4q,T4q,T4q,T4q,T4q,T4q,T4q,T4q,T4q,T4q,T4q,T4q,T4q,T4q,T4q,T4q,T4q,T4q,T4q,T4q,T4q,T4q,T4q,T4q,T4q,T4q,T4q,T4q,T4q,T4q,T4q,T4q,T4q,T4q,T4q,T4q,T4q,T4q,T4q,T4q,F4q,T4q,T4q,F4q,F4q,F4q,F4q,F4q,F4q] rfl rfl (any_of HT_.out (by kernel_rfl)) (fun _ _ _ h => h) (Or.inl ⟨by rfl, ?_⟩) ?_ ?_
           rotate_left
           ·intro w'
            go_simp
            with_reducible rfl
           rotate_left
           ·simp only [Act.put, List.setIfInBounds_toArray, List.set_cons_zero, List.set_cons_succ, i64_w, i32_w]
            rfl
           refine pure_ (i := 45) (N := some 62) (v := ?_) (a' := ?_) #[T4q,T4q,T4q,T4q,T4q,T4q,T4q,T4q,T4q,T4q,T4q,T4q,T4q,T4q,T4q,T4q,T4q,T4q,T4q,T4q,T4q,T4q,T4q,T4q,T4q,T4q,T4q,T4q,T4q,T4q,T4q,T4q,T4q,T4q,T4q,T4q,T4q,T4q,T4q,T4q,T4q,T4q,F4q,T4q,T4q,T4q,F4q,F4q,F4q,F4q,F4q] rfl rfl (any_of HT_.out (by kernel_rfl)) (fun _ _ _ h => h) (Or.inl ⟨by rfl, ?_⟩) ?_ ?_
           rotate_left
           ·intro w'
            go_simp
            with_reducible rfl
           rotate_left
           ·simp only [Act.put, List.setIfInBounds_toArray, List.set_cons_zero, List.set_cons_succ, i64_w, i32_w]
            rfl
           refine pure_ (i := 46) (N := some 63) (v := ?_) (a' := ?_) #[T4q,T4q,T4q,T4q,T4q,T4q,T4q,T4q,T4q,T4q,T4q,T4q,T4q,T4q,T4q,T4q,T4q,T4q,T4q,T4q,T4q,T4q,T4q,T4q,T4q,T4q,T4q,T4q,T4q,T4q,T4q,T4q,T4q,T4q,T4q,T4q,T4q,T4q,T4q,T4q,T4q,T4q,F4q,T4q,T4q,T4q,T4q,F4q,F4q,F4q,F4q] rfl rfl (any_of HT_.out (by kernel_rfl)) (fun _ _ _ h => h) (Or.inl ⟨by rfl, ?_⟩) ?_ ?_
           rotate_left
           ·intro w'
            go_simp
            with_reducible rfl
           rotate_left
           ·simp only [Act.put, List.setIfInBounds_toArray, List.set_cons_zero, List.set_cons_succ, i64_w, i32_w]
            rfl
           refine take_ (i := 42) (N := some 59) (v := ?_) (a' := ?_) #[T4q,T4q,T4q,T4q,T4q,T4q,T4q,T4q,T4q,T4q,T4q,T4q,T4q,T4q,T4q,T4q,T4q,T4q,T4q,T4q,T4q,T4q,T4q,T4q,T4q,T4q,T4q,T4q,T4q,T4q,T4q,T4q,T4q,T4q,T4q,T4q,T4q,T4q,T4q,T4q,T4q,T4q,T4q,T4q,T4q,T4q,T4q,F4q,F4q,F4q,F4q] rfl rfl (take_ofW HT_.out HW_.out (by kernel_rfl)) (fun _ _ _ h => h) (Or.inl ⟨by rfl, ?_⟩) hHeld ?_ ?_
           rotate_left
           ·rintro w' ⟨s0, s1, s2, s3, s4, s5, s6, s7, s8, s9, s10, s11, s12, s13, s14, s15, s16, s17, s18, s19, s20, s21, s22, s23, s24, s25, s26, s27, s28, s29, s30, s31⟩
            go_simp
            with_reducible rfl
           rotate_left
           ·simp only [Act.put, List.setIfInBounds_toArray, List.set_cons_zero, List.set_cons_succ, i64_w, i32_w]
            rfl
           refine take_ (i := 47) (N := some 64) (v := ?_) (a' := ?_) #[T4q,T4q,T4q,T4q,T4q,T4q,T4q,T4q,T4q,T4q,T4q,T4q,T4q,T4q,T4q,T4q,T4q,T4q,T4q,T4q,T4q,T4q,T4q,T4q,T4q,T4q,T4q,T4q,T4q,T4q,T4q,T4q,T4q,T4q,T4q,T4q,T4q,T4q,T4q,T4q,T4q,T4q,T4q,T4q,T4q,T4q,T4q,T4q,F4q,F4q,F4q] rfl rfl (take_ofW HT_.out HW_.out (by kernel_rfl)) (fun _ _ _ h => h) (Or.inl ⟨by rfl, ?_⟩) hHeld ?_ ?_
           rotate_left
           ·rintro w' ⟨s0, s1, s2, s3, s4, s5, s6, s7, s8, s9, s10, s11, s12, s13, s14, s15, s16, s17, s18, s19, s20, s21, s22, s23, s24, s25, s26, s27, s28, s29, s30, s31⟩
            go_simp
            with_reducible rfl
           rotate_left
           ·simp only [Act.put, List.setIfInBounds_toArray, List.set_cons_zero, List.set_cons_succ, i64_w, i32_w]
            rfl
           refine one_ (i := 48) (N := some 65) #[T4q,T4q,T4q,T4q,T4q,T4q,T4q,T4q,T4q,T4q,T4q,T4q,T4q,T4q,T4q,T4q,T4q,T4q,T4q,T4q,T4q,T4q,T4q,T4q,T4q,T4q,T4q,T4q,T4q,T4q,T4q,T4q,T4q,T4q,T4q,T4q,T4q,T4q,T4q,T4q,T4q,T4q,T4q,T4q,T4q,T4q,T4q,T4q,T4q,F4q,F4q] rfl rfl (one_of HT_.out (by kernel_rfl)) (by decide) (fun K hK => ?_)
           refine goes_ Tryd.func32 (by kernel_rfl) rfl #[.slice A607_1 ((rd_T48 l0 x5_1).f1).length c607_1, .slice A608_1 ((rd_T48 l1 x5_1).f1).length c608_1] (by rfl) rfl rfl (by (try simp only [List.map_toArray, List.map_cons, List.map_nil]); first | done | rfl | (simp only [List.length_drop, List.length_take]; rfl)) ?_
           with_reducible refine (laws_equalInts.calls k1 _ _ ((rd_T48 l0 x5_1).f1) _ _ ((rd_T48 l1 x5_1).f1) false _ ?side1 ?side2 ?side3 ?side4 A10.out).mono ?_
           (case side1 => repeat (first | exact (Kd.C_below HR613_1.out HB.out) | exact HR613_1.out | (with_reducible refine Kd.C_alloc ?_ _) | (with_reducible refine Kd.C_drewN ?_ _) | (with_reducible refine Kd.C_drew ?_)))
           (case side2 => exact HC613_1.out)
           (case side3 => repeat (first | exact (Kd.C_below HR614_1.out HB.out) | exact HR614_1.out | (with_reducible refine Kd.C_alloc ?_ _) | (with_reducible refine Kd.C_drewN ?_ _) | (with_reducible refine Kd.C_drew ?_)))
           (case side4 => exact HC614_1.out)
           rintro e w' ⟨rfl, ⟨nd, rfl⟩⟩
           refine ⟨_, rfl, ?_⟩
           refine hK.out _ _ ⟨(by first | exact ((HB.out.cell (World.block_lt_of_cell? w _ hw607_0)).trans hw607_0) | exact HS0_ | exact hHeld.1 | exact hw607_0), (by first | exact ((HB.out.cell (World.block_lt_of_cell? w _ hw607_1)).trans hw607_1) | exact HS0_ | exact hHeld.1 | exact hw607_1), (by first | exact ((HB.out.cell (World.block_lt_of_cell? w _ hw607_2)).trans hw607_2) | exact HS0_ | exact hHeld.1 | exact hw607_2), (by first | exact ((HB.out.cell (World.block_lt_of_cell? w _ hw607_3)).trans hw607_3) | exact HS0_ | exact hHeld.1 | exact hw607_3), (by first | exact ((HB.out.cell (World.block_lt_of_cell? w _ hw608_0)).trans hw608_0) | exact HS0_ | exact hHeld.1 | exact hw608_0), (by first | exact ((HB.out.cell (World.block_lt_of_cell? w _ hw608_1)).trans hw608_1) | exact HS0_ | exact hHeld.1 | exact hw608_1), (by first | exact ((HB.out.cell (World.block_lt_of_cell? w _ hw608_2)).trans hw608_2) | exact HS0_ | exact hHeld.1 | exact hw608_2), (by first | exact ((HB.out.cell (World.block_lt_of_cell? w _ hw608_3)).trans hw608_3) | exact HS0_ | exact hHeld.1 | exact hw608_3), (by first | exact ((HB.out.cell (World.block_lt_of_cell? w _ hw609_0)).trans hw609_0) | exact HS0_ | exact hHeld.1 | exact hw609_0), (by first | exact ((HB.out.cell (World.block_lt_of_cell? w _ hw609_1)).trans hw609_1) | exact HS0_ | exact hHeld.1 | exact hw609_1), (by first | exact ((HB.out.cell (World.block_lt_of_cell? w _ hw609_2)).trans hw609_2) | exact HS0_ | exact hHeld.1 | exact hw609_2), (by first | exact ((HB.out.cell (World.block_lt_of_cell? w _ hw609_3)).trans hw609_3) | exact HS0_ | exact hHeld.1 | exact hw609_3), (by first | exact ((HB.out.cell (World.block_lt_of_cell? w _ hw610_0)).trans hw610_0) | exact HS0_ | exact hHeld.1 | exact hw610_0), (by first | exact ((HB.out.cell (World.block_lt_of_cell? w _ hw610_1)).trans hw610_1) | exact HS0_ | exact hHeld.1 | exact hw610_1), (by first | exact ((HB.out.cell (World.block_lt_of_cell? w _ hw610_2)).trans hw610_2) | exact HS0_ | exact hHeld.1 | exact hw610_2), (by first | exact ((HB.out.cell (World.block_lt_of_cell? w _ hw610_3)).trans hw610_3) | exact HS0_ | exact hHeld.1 | exact hw610_3), (by first | exact ((HB.out.cell (World.block_lt_of_cell? w _ hw611_0)).trans hw611_0) | exact HS0_ | exact hHeld.1 | exact hw611_0), (by first | exact ((HB.out.cell (World.block_lt_of_cell? w _ hw611_1)).trans hw611_1) | exact HS0_ | exact hHeld.1 | exact hw611_1), (by first | exact ((HB.out.cell (World.block_lt_of_cell? w _ hw611_2)).trans hw611_2) | exact HS0_ | exact hHeld.1 | exact hw611_2), (by first | exact ((HB.out.cell (World.block_lt_of_cell? w _ hw611_3)).trans hw611_3) | exact HS0_ | exact hHeld.1 | exact hw611_3), (by first | exact ((HB.out.cell (World.block_lt_of_cell? w _ hw612_0)).trans hw612_0) | exact HS0_ | exact hHeld.1 | exact hw612_0), (by first | exact ((HB.out.cell (World.block_lt_of_cell? w _ hw612_1)).trans hw612_1) | exact HS0_ | exact hHeld.1 | exact hw612_1), (by first | exact ((HB.out.cell (World.block_lt_of_cell? w _ hw612_2)).trans hw612_2) | exact HS0_ | exact hHeld.1 | exact hw612_2), (by first | exact ((HB.out.cell (World.block_lt_of_cell? w _ hw612_3)).trans hw612_3) | exact HS0_ | exact hHeld.1 | exact hw612_3), (by first | exact ((HB.out.cell (World.block_lt_of_cell? w _ hw613_0)).trans hw613_0) | exact HS0_ | exact hHeld.1 | exact hw613_0), (by first | exact ((HB.out.cell (World.block_lt_of_cell? w _ hw613_1)).trans hw613_1) | exact HS0_ | exact hHeld.1 | exact hw613_1), (by first | exact ((HB.out.cell (World.block_lt_of_cell? w _ hw613_2)).trans hw613_2) | exact HS0_ | exact hHeld.1 | exact hw613_2), (by first | exact ((HB.out.cell (World.block_lt_of_cell? w _ hw613_3)).trans hw613_3) | exact HS0_ | exact hHeld.1 | exact hw613_3), (by first | exact ((HB.out.cell (World.block_lt_of_cell? w _ hw614_0)).trans hw614_0) | exact HS0_ | exact hHeld.1 | exact hw614_0), (by first | exact ((HB.out.cell (World.block_lt_of_cell? w _ hw614_1)).trans hw614_1) | exact HS0_ | exact hHeld.1 | exact hw614_1), (by first | exact ((HB.out.cell (World.block_lt_of_cell? w _ hw614_2)).trans hw614_2) | exact HS0_ | exact hHeld.1 | exact hw614_2), (by first | exact ((HB.out.cell (World.block_lt_of_cell? w _ hw614_3)).trans hw614_3) | exact HS0_ | exact hHeld.1 | exact hw614_3)⟩ (fun hHeld => ?_)
           clear hK K
           refine norm_ (a' := ?_) ?_ ?_
           rotate_left
           ·show Act.put _ (some 65) _ = _
            simp only [Act.put, List.setIfInBounds_toArray, List.set_cons_zero, List.set_cons_succ, i64_w, i32_w]
            rfl
           refine pure_ (i := 49) (N := some 66) (v := ?_) (a' := ?_) #[T4q,T4q,T4q,T4q,T4q,T4q,T4q,T4q,T4q,T4q,T4q,T4q,T4q,T4q,T4q,T4q,T4q,T4q,T4q,T4q,T4q,T4q,T4q,T4q,T4q,T4q,T4q,T4q,T4q,T4q,T4q,T4q,T4q,T4q,T4q,T4q,T4q,T4q,T4q,T4q,T4q,T4q,T4q,T4q,T4q,T4q,T4q,T4q,T4q,T4q,F4q] rfl rfl (any_of HT_.out (by kernel_rfl)) (fun _ _ _ h => h) (Or.inl ⟨by rfl, ?_⟩) ?_ ?_
           rotate_left
           ·intro w'
            go_simp
            with_reducible rfl
           rotate_left
           ·simp only [Act.put, List.setIfInBounds_toArray, List.set_cons_zero, List.set_cons_succ, i64_w, i32_w]
            rfl
           refine pure_ (i := 50) (N := some 67) (v := ?_) (a' := ?_) #[T4q,T4q,T4q,T4q,T4q,T4q,T4q,T4q,T4q,T4q,T4q,T4q,T4q,T4q,T4q,T4q,T4q,T4q,T4q,T4q,T4q,T4q,T4q,T4q,T4q,T4q,T4q,T4q,T4q,T4q,T4q,T4q,T4q,T4q,T4q,T4q,T4q,T4q,T4q,T4q,T4q,T4q,T4q,T4q,T4q,T4q,T4q,T4q,T4q,T4q,T4q] rfl rfl (any_of HT_.out (by kernel_rfl)) (fun _ _ _ h => h) (Or.inl ⟨by rfl, ?_⟩) ?_ ?_
           rotate_left
           ·intro w'
            go_simp
            with_reducible rfl
           rotate_left
           ·simp only [Act.put, List.setIfInBounds_toArray, List.set_cons_zero, List.set_cons_succ, i64_w, i32_w]
            rfl
           refine done_ (done_of HT_.out (by kernel_rfl)) ?_
           try go_wp2
           go_ret
           exact ⟨by first | rfl | (simp [errW_none, errW_some] <;> rfl) | (simp [*, errW_none, errW_some] <;> rfl), by repeat (first | (with_reducible first | exact HB.out | apply below_alloc | apply pw_below_drewN | apply below_drew1) | exact HB.out)⟩
         ·rw [if_neg c9] at H
          have c9b0 : (((rd_T48 l0 x5_1).f3) == ((rd_T48 l1 x5_1).f3)) = false := beq_eq_false_iff_ne.mpr c9
          have c9b1 : (((rd_T48 l0 x5_1).f3) != ((rd_T48 l1 x5_1).f3)) = true := bne_iff_ne.mpr c9
          obtain rfl := Option.some.inj H
          try go_wp2
          have n0_ := Aside0.mk (below_drew1 HB.out)
          clear HB
          have HB := n0_
          clear n0_
          have p607 : 0 ≤ (x5_1 : Int) := of_decide_eq_true (by first | (with_reducible assumption) | assumption)
          have q607 : x5_1 < (l0.length : Int) := of_decide_eq_true (by first | (with_reducible assumption) | assumption)
          obtain ⟨ad607, A607_1, c607_1, e607, hx607_0, hx607_1, hx607_2, hx607_3, hl607_1, hi607_1⟩ := at_T48 HR0.out x5_1 p607 q607
          have hw607_3 := hx607_3
          have hw607_2 := hx607_2
          have hw607_1 := hx607_1
          have hw607_0 := hx607_0
          cases e607
          (try replace hx607_0 := (HB.out.cell (World.block_lt_of_cell? w _ hx607_0)).trans hx607_0)
          (try replace hx607_1 := (HB.out.cell (World.block_lt_of_cell? w _ hx607_1)).trans hx607_1)
          (try replace hx607_2 := (HB.out.cell (World.block_lt_of_cell? w _ hx607_2)).trans hx607_2)
          (try replace hx607_3 := (HB.out.cell (World.block_lt_of_cell? w _ hx607_3)).trans hx607_3)
          have HR607_1 := Aside0.mk hi607_1
          have HC607_1 := Aside0.mk hl607_1
          clear hi607_1 hl607_1
          replace p607 := eq_true p607
          replace q607 := eq_true q607
          have p608 : 0 ≤ (x5_1 : Int) := of_decide_eq_true (by first | (with_reducible assumption) | assumption)
          have q608 : x5_1 < (l1.length : Int) := of_decide_eq_true (by first | (with_reducible assumption) | assumption)
          obtain ⟨ad608, A608_1, c608_1, e608, hx608_0, hx608_1, hx608_2, hx608_3, hl608_1, hi608_1⟩ := at_T48 HR1.out x5_1 p608 q608
          have hw608_3 := hx608_3
          have hw608_2 := hx608_2
          have hw608_1 := hx608_1
          have hw608_0 := hx608_0
          cases e608
          (try replace hx608_0 := (HB.out.cell (World.block_lt_of_cell? w _ hx608_0)).trans hx608_0)
          (try replace hx608_1 := (HB.out.cell (World.block_lt_of_cell? w _ hx608_1)).trans hx608_1)
          (try replace hx608_2 := (HB.out.cell (World.block_lt_of_cell? w _ hx608_2)).trans hx608_2)
          (try replace hx608_3 := (HB.out.cell (World.block_lt_of_cell? w _ hx608_3)).trans hx608_3)
          have HR608_1 := Aside0.mk hi608_1
          have HC608_1 := Aside0.mk hl608_1
          clear hi608_1 hl608_1
          replace p608 := eq_true p608
          replace q608 := eq_true q608
          have p609 : 0 ≤ (x5_1 : Int) := of_decide_eq_true (by first | (with_reducible assumption) | assumption)
          have q609 : x5_1 < (l0.length : Int) := of_decide_eq_true (by first | (with_reducible assumption) | assumption)
          obtain ⟨ad609, A609_1, c609_1, e609, hx609_0, hx609_1, hx609_2, hx609_3, hl609_1, hi609_1⟩ := at_T48 HR0.out x5_1 p609 q609
          have hw609_3 := hx609_3
          have hw609_2 := hx609_2
          have hw609_1 := hx609_1
          have hw609_0 := hx609_0
          obtain rfl : ad607 = ad609 := (by injection e609)
          (try replace hx609_0 := (HB.out.cell (World.block_lt_of_cell? w _ hx609_0)).trans hx609_0)
          (try replace hx609_1 := (HB.out.cell (World.block_lt_of_cell? w _ hx609_1)).trans hx609_1)
          (try replace hx609_2 := (HB.out.cell (World.block_lt_of_cell? w _ hx609_2)).trans hx609_2)
          (try replace hx609_3 := (HB.out.cell (World.block_lt_of_cell? w _ hx609_3)).trans hx609_3)
          have HR609_1 := Aside0.mk hi609_1
          have HC609_1 := Aside0.mk hl609_1
          clear hi609_1 hl609_1
          replace p609 := eq_true p609
          replace q609 := eq_true q609
          have ea_ := Option.some.inj (hx607_1.symm.trans hx609_1)
          injection ea_ with ea_ en_ ec_
          subst ea_
          subst ec_
          clear en_
          have p610 : 0 ≤ (x5_1 : Int) := of_decide_eq_true (by first | (with_reducible assumption) | assumption)
          have q610 : x5_1 < (l1.length : Int) := of_decide_eq_true (by first | (with_reducible assumption) | assumption)
          obtain ⟨ad610, A610_1, c610_1, e610, hx610_0, hx610_1, hx610_2, hx610_3, hl610_1, hi610_1⟩ := at_T48 HR1.out x5_1 p610 q610
          have hw610_3 := hx610_3
          have hw610_2 := hx610_2
          have hw610_1 := hx610_1
          have hw610_0 := hx610_0
          obtain rfl : ad608 = ad610 := (by injection e610)
          (try replace hx610_0 := (HB.out.cell (World.block_lt_of_cell? w _ hx610_0)).trans hx610_0)
          (try replace hx610_1 := (HB.out.cell (World.block_lt_of_cell? w _ hx610_1)).trans hx610_1)
          (try replace hx610_2 := (HB.out.cell (World.block_lt_of_cell? w _ hx610_2)).trans hx610_2)
          (try replace hx610_3 := (HB.out.cell (World.block_lt_of_cell? w _ hx610_3)).trans hx610_3)
          have HR610_1 := Aside0.mk hi610_1
          have HC610_1 := Aside0.mk hl610_1
          clear hi610_1 hl610_1
          replace p610 := eq_true p610
          replace q610 := eq_true q610
          have ea_ := Option.some.inj (hx608_1.symm.trans hx610_1)
          injection ea_ with ea_ en_ ec_
          subst ea_
          subst ec_
          clear en_
          have p611 : 0 ≤ (x5_1 : Int) := of_decide_eq_true (by first | (with_reducible assumption) | assumption)
          have q611 : x5_1 < (l0.length : Int) := of_decide_eq_true (by first | (with_reducible assumption) | assumption)
          obtain ⟨ad611, A611_1, c611_1, e611, hx611_0, hx611_1, hx611_2, hx611_3, hl611_1, hi611_1⟩ := at_T48 HR0.out x5_1 p611 q611
          have hw611_3 := hx611_3
          have hw611_2 := hx611_2
          have hw611_1 := hx611_1
          have hw611_0 := hx611_0
          obtain rfl : ad607 = ad611 := (by injection e611)
          (try replace hx611_0 := (HB.out.cell (World.block_lt_of_cell? w _ hx611_0)).trans hx611_0)
          (try replace hx611_1 := (HB.out.cell (World.block_lt_of_cell? w _ hx611_1)).trans hx611_1)
          (try replace hx611_2 := (HB.out.cell (World.block_lt_of_cell? w _ hx611_2)).trans hx611_2)
          (try replace hx611_3 := (HB.out.cell (World.block_lt_of_cell? w _ hx611_3)).trans hx611_3)
          have HR611_1 := Aside0.mk hi611_1
          have HC611_1 := Aside0.mk hl611_1
          clear hi611_1 hl611_1
          replace p611 := eq_true p611
          replace q611 := eq_true q611
          have ea_ := Option.some.inj (hx607_1.symm.trans hx611_1)
          injection ea_ with ea_ en_ ec_
          subst ea_
          subst ec_
          clear en_
          have p612 : 0 ≤ (x5_1 : Int) := of_decide_eq_true (by first | (with_reducible assumption) | assumption)
          have q612 : x5_1 < (l1.length : Int) := of_decide_eq_true (by first | (with_reducible assumption) | assumption)
          obtain ⟨ad612, A612_1, c612_1, e612, hx612_0, hx612_1, hx612_2, hx612_3, hl612_1, hi612_1⟩ := at_T48 HR1.out x5_1 p612 q612
          have hw612_3 := hx612_3
          have hw612_2 := hx612_2
          have hw612_1 := hx612_1
          have hw612_0 := hx612_0
          obtain rfl : ad608 = ad612 := (by injection e612)
          (try replace hx612_0 := (HB.out.cell (World.block_lt_of_cell? w _ hx612_0)).trans hx612_0)
          (try replace hx612_1 := (HB.out.cell (World.block_lt_of_cell? w _ hx612_1)).trans hx612_1)
          (try replace hx612_2 := (HB.out.cell (World.block_lt_of_cell? w _ hx612_2)).trans hx612_2)
          (try replace hx612_3 := (HB.out.cell (World.block_lt_of_cell? w _ hx612_3)).trans hx612_3)
          have HR612_1 := Aside0.mk hi612_1
          have HC612_1 := Aside0.mk hl612_1
          clear hi612_1 hl612_1
          replace p612 := eq_true p612
          replace q612 := eq_true q612
          have ea_ := Option.some.inj (hx608_1.symm.trans hx612_1)
          injection ea_ with ea_ en_ ec_
          subst ea_
          subst ec_
          clear en_
          refine start_ (n := 51) (S := fun w' => w'.cell? (ad607.add ((x5_1).toNat * 4)) = some (.int .i64 ((rd_T48 l0 x5_1).f0)) ∧ w'.cell? ⟨(ad607.add ((x5_1).toNat * 4)).block, (ad607.add ((x5_1).toNat * 4)).off + 1, none⟩ = some (.slice A607_1 ((rd_T48 l0 x5_1).f1).length c607_1) ∧ w'.cell? ⟨(ad607.add ((x5_1).toNat * 4)).block, (ad607.add ((x5_1).toNat * 4)).off + 2, none⟩ = some (.int .i64 ((rd_T48 l0 x5_1).f2)) ∧ w'.cell? ⟨(ad607.add ((x5_1).toNat * 4)).block, (ad607.add ((x5_1).toNat * 4)).off + 3, none⟩ = some (.int .i64 ((rd_T48 l0 x5_1).f3)) ∧ w'.cell? (ad608.add ((x5_1).toNat * 4)) = some (.int .i64 ((rd_T48 l1 x5_1).f0)) ∧ w'.cell? ⟨(ad608.add ((x5_1).toNat * 4)).block, (ad608.add ((x5_1).toNat * 4)).off + 1, none⟩ = some (.slice A608_1 ((rd_T48 l1 x5_1).f1).length c608_1) ∧ w'.cell? ⟨(ad608.add ((x5_1).toNat * 4)).block, (ad608.add ((x5_1).toNat * 4)).off + 2, none⟩ = some (.int .i64 ((rd_T48 l1 x5_1).f2)) ∧ w'.cell? ⟨(ad608.add ((x5_1).toNat * 4)).block, (ad608.add ((x5_1).toNat * 4)).off + 3, none⟩ = some (.int .i64 ((rd_T48 l1 x5_1).f3)) ∧ w'.cell? (ad607.add ((x5_1).toNat * 4)) = some (.int .i64 ((rd_T48 l0 x5_1).f0)) ∧ w'.cell? ⟨(ad607.add ((x5_1).toNat * 4)).block, (ad607.add ((x5_1).toNat * 4)).off + 1, none⟩ = some (.slice A607_1 ((rd_T48 l0 x5_1).f1).length c607_1) ∧ w'.cell? ⟨(ad607.add ((x5_1).toNat * 4)).block, (ad607.add ((x5_1).toNat * 4)).off + 2, none⟩ = some (.int .i64 ((rd_T48 l0 x5_1).f2)) ∧ w'.cell? ⟨(ad607.add ((x5_1).toNat * 4)).block, (ad607.add ((x5_1).toNat * 4)).off + 3, none⟩ = some (.int .i64 ((rd_T48 l0 x5_1).f3)) ∧ w'.cell? (ad608.add ((x5_1).toNat * 4)) = some (.int .i64 ((rd_T48 l1 x5_1).f0)) ∧ w'.cell? ⟨(ad608.add ((x5_1).toNat * 4)).block, (ad608.add ((x5_1).toNat * 4)).off + 1, none⟩ = some (.slice A608_1 ((rd_T48 l1 x5_1).f1).length c608_1) ∧ w'.cell? ⟨(ad608.add ((x5_1).toNat * 4)).block, (ad608.add ((x5_1).toNat * 4)).off + 2, none⟩ = some (.int .i64 ((rd_T48 l1 x5_1).f2)) ∧ w'.cell? ⟨(ad608.add ((x5_1).toNat * 4)).block, (ad608.add ((x5_1).toNat * 4)).off + 3, none⟩ = some (.int .i64 ((rd_T48 l1 x5_1).f3)) ∧ w'.cell? (ad607.add ((x5_1).toNat * 4)) = some (.int .i64 ((rd_T48 l0 x5_1).f0)) ∧ w'.cell? ⟨(ad607.add ((x5_1).toNat * 4)).block, (ad607.add ((x5_1).toNat * 4)).off + 1, none⟩ = some (.slice A607_1 ((rd_T48 l0 x5_1).f1).length c607_1) ∧ w'.cell? ⟨(ad607.add ((x5_1).toNat * 4)).block, (ad607.add ((x5_1).toNat * 4)).off + 2, none⟩ = some (.int .i64 ((rd_T48 l0 x5_1).f2)) ∧ w'.cell? ⟨(ad607.add ((x5_1).toNat * 4)).block, (ad607.add ((x5_1).toNat * 4)).off + 3, none⟩ = some (.int .i64 ((rd_T48 l0 x5_1).f3)) ∧ w'.cell? (ad608.add ((x5_1).toNat * 4)) = some (.int .i64 ((rd_T48 l1 x5_1).f0)) ∧ w'.cell? ⟨(ad608.add ((x5_1).toNat * 4)).block, (ad608.add ((x5_1).toNat * 4)).off + 1, none⟩ = some (.slice A608_1 ((rd_T48 l1 x5_1).f1).length c608_1) ∧ w'.cell? ⟨(ad608.add ((x5_1).toNat * 4)).block, (ad608.add ((x5_1).toNat * 4)).off + 2, none⟩ = some (.int .i64 ((rd_T48 l1 x5_1).f2)) ∧ w'.cell? ⟨(ad608.add ((x5_1).toNat * 4)).block, (ad608.add ((x5_1).toNat * 4)).off + 3, none⟩ = some (.int .i64 ((rd_T48 l1 x5_1).f3))) (ds := []) #[F4q,F4q,F4q,F4q,F4q,F4q,F4q,F4q,F4q,F4q,F4q,F4q,F4q,F4q,F4q,F4q,F4q,F4q,F4q,F4q,F4q,F4q,F4q,F4q,F4q,F4q,F4q,F4q,F4q,F4q,F4q,F4q,F4q,F4q,F4q,F4q,F4q,F4q,F4q,F4q,F4q,F4q,F4q,F4q,F4q,F4q,F4q,F4q,F4q,F4q,F4q] (by kernel_rfl) rfl rfl ⟨(by first | exact ((HB.out.cell (World.block_lt_of_cell? w _ hw607_0)).trans hw607_0) | exact HS0_ | exact hHeld.1 | exact hw607_0), (by first | exact ((HB.out.cell (World.block_lt_of_cell? w _ hw607_1)).trans hw607_1) | exact HS0_ | exact hHeld.1 | exact hw607_1), (by first | exact ((HB.out.cell (World.block_lt_of_cell? w _ hw607_2)).trans hw607_2) | exact HS0_ | exact hHeld.1 | exact hw607_2), (by first | exact ((HB.out.cell (World.block_lt_of_cell? w _ hw607_3)).trans hw607_3) | exact HS0_ | exact hHeld.1 | exact hw607_3), (by first | exact ((HB.out.cell (World.block_lt_of_cell? w _ hw608_0)).trans hw608_0) | exact HS0_ | exact hHeld.1 | exact hw608_0), (by first | exact ((HB.out.cell (World.block_lt_of_cell? w _ hw608_1)).trans hw608_1) | exact HS0_ | exact hHeld.1 | exact hw608_1), (by first | exact ((HB.out.cell (World.block_lt_of_cell? w _ hw608_2)).trans hw608_2) | exact HS0_ | exact hHeld.1 | exact hw608_2), (by first | exact ((HB.out.cell (World.block_lt_of_cell? w _ hw608_3)).trans hw608_3) | exact HS0_ | exact hHeld.1 | exact hw608_3), (by first | exact ((HB.out.cell (World.block_lt_of_cell? w _ hw609_0)).trans hw609_0) | exact HS0_ | exact hHeld.1 | exact hw609_0), (by first | exact ((HB.out.cell (World.block_lt_of_cell? w _ hw609_1)).trans hw609_1) | exact HS0_ | exact hHeld.1 | exact hw609_1), (by first | exact ((HB.out.cell (World.block_lt_of_cell? w _ hw609_2)).trans hw609_2) | exact HS0_ | exact hHeld.1 | exact hw609_2), (by first | exact ((HB.out.cell (World.block_lt_of_cell? w _ hw609_3)).trans hw609_3) | exact HS0_ | exact hHeld.1 | exact hw609_3), (by first | exact ((HB.out.cell (World.block_lt_of_cell? w _ hw610_0)).trans hw610_0) | exact HS0_ | exact hHeld.1 | exact hw610_0), (by first | exact ((HB.out.cell (World.block_lt_of_cell? w _ hw610_1)).trans hw610_1) | exact HS0_ | exact hHeld.1 | exact hw610_1), (by first | exact ((HB.out.cell (World.block_lt_of_cell? w _ hw610_2)).trans hw610_2) | exact HS0_ | exact hHeld.1 | exact hw610_2), (by first | exact ((HB.out.cell (World.block_lt_of_cell? w _ hw610_3)).trans hw610_3) | exact HS0_ | exact hHeld.1 | exact hw610_3), (by first | exact ((HB.out.cell (World.block_lt_of_cell? w _ hw611_0)).trans hw611_0) | exact HS0_ | exact hHeld.1 | exact hw611_0), (by first | exact ((HB.out.cell (World.block_lt_of_cell? w _ hw611_1)).trans hw611_1) | exact HS0_ | exact hHeld.1 | exact hw611_1), (by first | exact ((HB.out.cell (World.block_lt_of_cell? w _ hw611_2)).trans hw611_2) | exact HS0_ | exact hHeld.1 | exact hw611_2), (by first | exact ((HB.out.cell (World.block_lt_of_cell? w _ hw611_3)).trans hw611_3) | exact HS0_ | exact hHeld.1 | exact hw611_3), (by first | exact ((HB.out.cell (World.block_lt_of_cell? w _ hw612_0)).trans hw612_0) | exact HS0_ | exact hHeld.1 | exact hw612_0), (by first | exact ((HB.out.cell (World.block_lt_of_cell? w _ hw612_1)).trans hw612_1) | exact HS0_ | exact hHeld.1 | exact hw612_1), (by first | exact ((HB.out.cell (World.block_lt_of_cell? w _ hw612_2)).trans hw612_2) | exact HS0_ | exact hHeld.1 | exact hw612_2), (by first | exact ((HB.out.cell (World.block_lt_of_cell? w _ hw612_3)).trans hw612_3) | exact HS0_ | exact hHeld.1 | exact hw612_3)⟩ (fun hHeld => ?_); refine with_tabW laws_equalTasks.tab6 laws_equalTasks.bits6 (fun HT_ HW_ => ?_)
          generalize wr.drew = w14 at HB HR607_1 HR608_1 HR609_1 HR610_1 HR611_1 HR612_1 hx607_0 hx607_1 hx607_2 hx607_3 hx608_0 hx608_1 hx608_2 hx608_3 hx609_0 hx609_1 hx609_2 hx609_3 hx610_0 hx610_1 hx610_2 hx610_3 hx611_0 hx611_1 hx611_2 hx611_3 hx612_0 hx612_1 hx612_2 hx612_3 hHeld ⊢
          refine pure_ (i := 0) (N := some 17) (v := ?_) (a' := ?_) #[T4q,F4q,F4q,F4q,F4q,F4q,F4q,F4q,F4q,F4q,F4q,F4q,F4q,F4q,F4q,F4q,F4q,F4q,F4q,F4q,F4q,F4q,F4q,F4q,F4q,F4q,F4q,F4q,F4q,F4q,F4q,F4q,F4q,F4q,F4q,F4q,F4q,F4q,F4q,F4q,F4q,F4q,F4q,F4q,F4q,F4q,F4q,F4q,F4q,F4q,F4q] rfl rfl (any_of HT_.out (by kernel_rfl)) (fun _ _ _ h => h) (Or.inl ⟨by rfl, ?_⟩) ?_ ?_
          rotate_left
          ·intro w'
           go_simp
           with_reducible rfl
          rotate_left
          ·simp only [Act.put, List.setIfInBounds_toArray, List.set_cons_zero, List.set_cons_succ, i64_w, i32_w]
           rfl
          refine pure_ (i := 1) (N := some 18) (v := ?_) (a' := ?_) #[T4q,T4q,F4q,F4q,F4q,F4q,F4q,F4q,F4q,F4q,F4q,F4q,F4q,F4q,F4q,F4q,F4q,F4q,F4q,F4q,F4q,F4q,F4q,F4q,F4q,F4q,F4q,F4q,F4q,F4q,F4q,F4q,F4q,F4q,F4q,F4q,F4q,F4q,F4q,F4q,F4q,F4q,F4q,F4q,F4q,F4q,F4q,F4q,F4q,F4q,F4q] rfl rfl (any_of HT_.out (by kernel_rfl)) (fun _ _ _ h => h) (Or.inl ⟨by rfl, ?_⟩) ?_ ?_
          rotate_left
          ·intro w'
           go_simp
           with_reducible rfl
          rotate_left
          ·simp only [Act.put, List.setIfInBounds_toArray, List.set_cons_zero, List.set_cons_succ, i64_w, i32_w]
           rfl
          refine pure_ (i := 2) (N := some 19) (v := ?_) (a' := ?_) #[T4q,T4q,T4q,F4q,F4q,F4q,F4q,F4q,F4q,F4q,F4q,F4q,F4q,F4q,F4q,F4q,F4q,F4q,F4q,F4q,F4q,F4q,F4q,F4q,F4q,F4q,F4q,F4q,F4q,F4q,F4q,F4q,F4q,F4q,F4q,F4q,F4q,F4q,F4q,F4q,F4q,F4q,F4q,F4q,F4q,F4q,F4q,F4q,F4q,F4q,F4q] rfl rfl (any_of HT_.out (by kernel_rfl)) (fun _ _ _ h => h) (Or.inl ⟨by rfl, ?_⟩) ?_ ?_
          rotate_left
          ·intro w'
           go_simp
           with_reducible rfl
          rotate_left
          ·simp only [Act.put, List.setIfInBounds_toArray, List.set_cons_zero, List.set_cons_succ, i64_w, i32_w]
           rfl
          refine pure_ (i := 3) (N := some 20) (v := ?_) (a' := ?_) #[T4q,T4q,T4q,T4q,F4q,F4q,F4q,F4q,F4q,F4q,F4q,F4q,F4q,F4q,F4q,F4q,F4q,F4q,F4q,F4q,F4q,F4q,F4q,F4q,F4q,F4q,F4q,F4q,F4q,F4q,F4q,F4q,F4q,F4q,F4q,F4q,F4q,F4q,F4q,F4q,F4q,F4q,F4q,F4q,F4q,F4q,F4q,F4q,F4q,F4q,F4q] rfl rfl (any_of HT_.out (by kernel_rfl)) (fun _ _ _ h => h) (Or.inl ⟨by rfl, ?_⟩) ?_ ?_
          rotate_left
          ·intro w'
           go_simp
           with_reducible rfl
          rotate_left
          ·simp only [Act.put, List.setIfInBounds_toArray, List.set_cons_zero, List.set_cons_succ, i64_w, i32_w]
           rfl
          refine pure_ (i := 5) (N := some 22) (v := ?_) (a' := ?_) #[T4q,T4q,T4q,T4q,F4q,T4q,F4q,F4q,F4q,F4q,F4q,F4q,F4q,F4q,F4q,F4q,F4q,F4q,F4q,F4q,F4q,F4q,F4q,F4q,F4q,F4q,F4q,F4q,F4q,F4q,F4q,F4q,F4q,F4q,F4q,F4q,F4q,F4q,F4q,F4q,F4q,F4q,F4q,F4q,F4q,F4q,F4q,F4q,F4q,F4q,F4q] rfl rfl (any_of HT_.out (by kernel_rfl)) (fun _ _ _ h => h) (Or.inl ⟨by rfl, ?_⟩) ?_ ?_
          rotate_left
          ·intro w'
           go_simp
           with_reducible rfl
          rotate_left
          ·simp only [Act.put, List.setIfInBounds_toArray, List.set_cons_zero, List.set_cons_succ, i64_w, i32_w]
           rfl
          refine pure_ (i := 6) (N := some 23) (v := ?_) (a' := ?_) #[T4q,T4q,T4q,T4q,F4q,T4q,T4q,F4q,F4q,F4q,F4q,F4q,F4q,F4q,F4q,F4q,F4q,F4q,F4q,F4q,F4q,F4q,F4q,F4q,F4q,F4q,F4q,F4q,F4q,F4q,F4q,F4q,F4q,F4q,F4q,F4q,F4q,F4q,F4q,F4q,F4q,F4q,F4q,F4q,F4q,F4q,F4q,F4q,F4q,F4q,F4q] rfl rfl (any_of HT_.out (by kernel_rfl)) (fun _ _ _ h => h) (Or.inl ⟨by rfl, ?_⟩) ?_ ?_
          rotate_left
          ·intro w'
           go_simp
           with_reducible rfl
          rotate_left
          ·simp only [Act.put, List.setIfInBounds_toArray, List.set_cons_zero, List.set_cons_succ, i64_w, i32_w]
           rfl
          refine pure_ (i := 7) (N := some 24) (v := ?_) (a' := ?_) #[T4q,T4q,T4q,T4q,F4q,T4q,T4q,T4q,F4q,F4q,F4q,F4q,F4q,F4q,F4q,F4q,F4q,F4q,F4q,F4q,F4q,F4q,F4q,F4q,F4q,F4q,F4q,F4q,F4q,F4q,F4q,F4q,F4q,F4q,F4q,F4q,F4q,F4q,F4q,F4q,F4q,F4q,F4q,F4q,F4q,F4q,F4q,F4q,F4q,F4q,F4q] rfl rfl (any_of HT_.out (by kernel_rfl)) (fun _ _ _ h => h) (Or.inl ⟨by rfl, ?_⟩) ?_ ?_
          rotate_left
          ·intro w'
           go_simp
           with_reducible rfl
          rotate_left
          ·simp only [Act.put, List.setIfInBounds_toArray, List.set_cons_zero, List.set_cons_succ, i64_w, i32_w]
           rfl
          refine pure_ (i := 8) (N := some 25) (v := ?_) (a' := ?_) #[T4q,T4q,T4q,T4q,F4q,T4q,T4q,T4q,T4q,F4q,F4q,F4q,F4q,F4q,F4q,F4q,F4q,F4q,F4q,F4q,F4q,F4q,F4q,F4q,F4q,F4q,F4q,F4q,F4q,F4q,F4q,F4q,F4q,F4q,F4q,F4q,F4q,F4q,F4q,F4q,F4q,F4q,F4q,F4q,F4q,F4q,F4q,F4q,F4q,F4q,F4q] rfl rfl (any_of HT_.out (by kernel_rfl)) (fun _ _ _ h => h) (Or.inl ⟨by rfl, ?_⟩) ?_ ?_
          rotate_left
          ·intro w'
           go_simp
           with_reducible rfl
          rotate_left
          ·simp only [Act.put, List.setIfInBounds_toArray, List.set_cons_zero, List.set_cons_succ, i64_w, i32_w]
           rfl
          refine take_ (i := 4) (N := some 21) (v := ?_) (a' := ?_) #[T4q,T4q,T4q,T4q,T4q,T4q,T4q,T4q,T4q,F4q,F4q,F4q,F4q,F4q,F4q,F4q,F4q,F4q,F4q,F4q,F4q,F4q,F4q,F4q,F4q,F4q,F4q,F4q,F4q,F4q,F4q,F4q,F4q,F4q,F4q,F4q,F4q,F4q,F4q,F4q,F4q,F4q,F4q,F4q,F4q,F4q,F4q,F4q,F4q,F4q,F4q] rfl rfl (take_ofW HT_.out HW_.out (by kernel_rfl)) (fun _ _ _ h => h) (Or.inl ⟨by rfl, ?_⟩) hHeld ?_ ?_
          rotate_left
          ·rintro w' ⟨s0, s1, s2, s3, s4, s5, s6, s7, s8, s9, s10, s11, s12, s13, s14, s15, s16, s17, s18, s19, s20, s21, s22, s23⟩
           go_simp
           with_reducible rfl
          rotate_left
          ·simp only [Act.put, List.setIfInBounds_toArray, List.set_cons_zero, List.set_cons_succ, i64_w, i32_w]
           rfl
          refine take_ (i := 9) (N := some 26) (v := ?_) (a' := ?_) #[T4q,T4q,T4q,T4q,T4q,T4q,T4q,T4q,T4q,T4q,F4q,F4q,F4q,F4q,F4q,F4q,F4q,F4q,F4q,F4q,F4q,F4q,F4q,F4q,F4q,F4q,F4q,F4q,F4q,F4q,F4q,F4q,F4q,F4q,F4q,F4q,F4q,F4q,F4q,F4q,F4q,F4q,F4q,F4q,F4q,F4q,F4q,F4q,F4q,F4q,F4q] rfl rfl (take_ofW HT_.out HW_.out (by kernel_rfl)) (fun _ _ _ h => h) (Or.inl ⟨by rfl, ?_⟩) hHeld ?_ ?_
          rotate_left
          ·rintro w' ⟨s0, s1, s2, s3, s4, s5, s6, s7, s8, s9, s10, s11, s12, s13, s14, s15, s16, s17, s18, s19, s20, s21, s22, s23⟩
           go_simp
           with_reducible rfl
          rotate_left
          ·simp only [Act.put, List.setIfInBounds_toArray, List.set_cons_zero, List.set_cons_succ, i64_w, i32_w]
           rfl
          refine pure_ (i := 10) (N := some 27) (v := ?_) (a' := ?_) #[T4q,T4q,T4q,T4q,T4q,T4q,T4q,T4q,T4q,T4q,T4q,F4q,F4q,F4q,F4q,F4q,F4q,F4q,F4q,F4q,F4q,F4q,F4q,F4q,F4q,F4q,F4q,F4q,F4q,F4q,F4q,F4q,F4q,F4q,F4q,F4q,F4q,F4q,F4q,F4q,F4q,F4q,F4q,F4q,F4q,F4q,F4q,F4q,F4q,F4q,F4q] rfl rfl (any_of HT_.out (by kernel_rfl)) (fun _ _ _ h => h) (Or.inl ⟨by rfl, ?_⟩) ?_ ?_
          rotate_left
          ·intro w'
           go_simp
           with_reducible rfl
          rotate_left
          ·simp only [Act.put, List.setIfInBounds_toArray, List.set_cons_zero, List.set_cons_succ, i64_w, i32_w]
           rfl
          refine pure_ (i := 11) (N := some 28) (v := ?_) (a' := ?_) #[T4q,T4q,T4q,T4q,T4q,T4q,T4q,T4q,T4q,T4q,T4q,T4q,F4q,F4q,F4q,F4q,F4q,F4q,F4q,F4q,F4q,F4q,F4q,F4q,F4q,F4q,F4q,F4q,F4q,F4q,F4q,F4q,F4q,F4q,F4q,F4q,F4q,F4q,F4q,F4q,F4q,F4q,F4q,F4q,F4q,F4q,F4q,F4q,F4q,F4q,F4q] rfl rfl (any_of HT_.out (by kernel_rfl)) (fun _ _ _ h => h) (Or.inl ⟨by rfl, ?_⟩) ?_ ?_
          rotate_left
          ·intro w'
           go_simp
           with_reducible rfl
          rotate_left
          ·simp only [Act.put, List.setIfInBounds_toArray, List.set_cons_zero, List.set_cons_succ, i64_w, i32_w]
           rfl
          refine pure_ (i := 12) (N := some 29) (v := ?_) (a' := ?_) #[T4q,T4q,T4q,T4q,T4q,T4q,T4q,T4q,T4q,T4q,T4q,T4q,T4q,F4q,F4q,F4q,F4q,F4q,F4q,F4q,F4q,F4q,F4q,F4q,F4q,F4q,F4q,F4q,F4q,F4q,F4q,F4q,F4q,F4q,F4q,F4q,F4q,F4q,F4q,F4q,F4q,F4q,F4q,F4q,F4q,F4q,F4q,F4q,F4q,F4q,F4q] rfl rfl (any_of HT_.out (by kernel_rfl)) (fun _ _ _ h => h) (Or.inl ⟨by rfl, ?_⟩) ?_ ?_
          rotate_left
          ·intro w'
           go_simp
           with_reducible rfl
          rotate_left
          ·simp only [Act.put, List.setIfInBounds_toArray, List.set_cons_zero, List.set_cons_succ, i64_w, i32_w]
           rfl
          refine pure_ (i := 13) (N := some 30) (v := ?_) (a' := ?_) #[T4q,T4q,T4q,T4q,T4q,T4q,T4q,T4q,T4q,T4q,T4q,T4q,T4q,T4q,F4q,F4q,F4q,F4q,F4q,F4q,F4q,F4q,F4q,F4q,F4q,F4q,F4q,F4q,F4q,F4q,F4q,F4q,F4q,F4q,F4q,F4q,F4q,F4q,F4q,F4q,F4q,F4q,F4q,F4q,F4q,F4q,F4q,F4q,F4q,F4q,F4q] rfl rfl (any_of HT_.out (by kernel_rfl)) (fun _ _ _ h => h) (Or.inl ⟨by rfl, ?_⟩) ?_ ?_
          rotate_left
          ·intro w'
           go_simp
           with_reducible rfl
          rotate_left
          ·simp only [Act.put, List.setIfInBounds_toArray, List.set_cons_zero, List.set_cons_succ, i64_w, i32_w]
           rfl
          refine pure_ (i := 14) (N := some 31) (v := ?_) (a' := ?_) #[T4q,T4q,T4q,T4q,T4q,T4q,T4q,T4q,T4q,T4q,T4q,T4q,T4q,T4q,T4q,F4q,F4q,F4q,F4q,F4q,F4q,F4q,F4q,F4q,F4q,F4q,F4q,F4q,F4q,F4q,F4q,F4q,F4q,F4q,F4q,F4q,F4q,F4q,F4q,F4q,F4q,F4q,F4q,F4q,F4q,F4q,F4q,F4q,F4q,F4q,F4q] rfl rfl (any_of HT_.out (by kernel_rfl)) (fun _ _ _ h => h) (Or.inl ⟨by rfl, ?_⟩) ?_ ?_
          rotate_left
          ·intro w'
           go_simp
           with_reducible rfl
          rotate_left
          ·simp only [Act.put, List.setIfInBounds_toArray, List.set_cons_zero, List.set_cons_succ, i64_w, i32_w]
           rfl
          refine pure_ (i := 15) (N := some 32) (v := ?_) (a' := ?_) #[T4q,T4q,T4q,T4q,T4q,T4q,T4q,T4q,T4q,T4q,T4q,T4q,T4q,T4q,T4q,T4q,F4q,F4q,F4q,F4q,F4q,F4q,F4q,F4q,F4q,F4q,F4q,F4q,F4q,F4q,F4q,F4q,F4q,F4q,F4q,F4q,F4q,F4q,F4q,F4q,F4q,F4q,F4q,F4q,F4q,F4q,F4q,F4q,F4q,F4q,F4q] rfl rfl (any_of HT_.out (by kernel_rfl)) (fun _ _ _ h => h) (Or.inl ⟨by rfl, ?_⟩) ?_ ?_
          rotate_left
          ·intro w'
           go_simp
           with_reducible rfl
          rotate_left
          ·simp only [Act.put, List.setIfInBounds_toArray, List.set_cons_zero, List.set_cons_succ, i64_w, i32_w]
           rfl
          refine pure_ (i := 17) (N := some 34) (v := ?_) (a' := ?_) #[T4q,T4q,T4q,T4q,T4q,T4q,T4q,T4q,T4q,T4q,T4q,T4q,T4q,T4q,T4q,T4q,F4q,T4q,F4q,F4q,F4q,F4q,F4q,F4q,F4q,F4q,F4q,F4q,F4q,F4q,F4q,F4q,F4q,F4q,F4q,F4q,F4q,F4q,F4q,F4q,F4q,F4q,F4q,F4q,F4q,F4q,F4q,F4q,F4q,F4q,F4q] rfl rfl (any_of HT_.out (by kernel_rfl)) (fun _ _ _ h => h) (Or.inl ⟨by rfl, ?_⟩) ?_ ?_
          rotate_left
          ·intro w'
           go_simp
           with_reducible rfl
          rotate_left
          ·simp only [Act.put, List.setIfInBounds_toArray, List.set_cons_zero, List.set_cons_succ, i64_w, i32_w]
           rfl
          refine pure_ (i := 18) (N := some 35) (v := ?_) (a' := ?_) #[T4q,T4q,T4q,T4q,T4q,T4q,T4q,T4q,T4q,T4q,T4q,T4q,T4q,T4q,T4q,T4q,F4q,T4q,T4q,F4q,F4q,F4q,F4q,F4q,F4q,F4q,F4q,F4q,F4q,F4q,F4q,F4q,F4q,F4q,F4q,F4q,F4q,F4q,F4q,F4q,F4q,F4q,F4q,F4q,F4q,F4q,F4q,F4q,F4q,F4q,F4q] rfl rfl (any_of HT_.out (by kernel_rfl)) (fun _ _ _ h => h) (Or.inl ⟨by rfl, ?_⟩) ?_ ?_
          rotate_left
          ·intro w'
           go_simp
           with_reducible rfl
          rotate_left
          ·simp only [Act.put, List.setIfInBounds_toArray, List.set_cons_zero, List.set_cons_succ, i64_w, i32_w]
           rfl
          refine pure_ (i := 19) (N := some 36) (v := ?_) (a' := ?_) #[T4q,T4q,T4q,T4q,T4q,T4q,T4q,T4q,T4q,T4q,T4q,T4q,T4q,T4q,T4q,T4q,F4q,T4q,T4q,T4q,F4q,F4q,F4q,F4q,F4q,F4q,F4q,F4q,F4q,F4q,F4q,F4q,F4q,F4q,F4q,F4q,F4q,F4q,F4q,F4q,F4q,F4q,F4q,F4q,F4q,F4q,F4q,F4q,F4q,F4q,F4q] rfl rfl (any_of HT_.out (by kernel_rfl)) (fun _ _ _ h => h) (Or.inl ⟨by rfl, ?_⟩) ?_ ?_
          rotate_left
          ·intro w'
           go_simp
           with_reducible rfl
          rotate_left
          ·simp only [Act.put, List.setIfInBounds_toArray, List.set_cons_zero, List.set_cons_succ, i64_w, i32_w]
           rfl
          refine pure_ (i := 20) (N := some 37) (v := ?_) (a' := ?_) #[T4q,T4q,T4q,T4q,T4q,T4q,T4q,T4q,T4q,T4q,T4q,T4q,T4q,T4q,T4q,T4q,F4q,T4q,T4q,T4q,T4q,F4q,F4q,F4q,F4q,F4q,F4q,F4q,F4q,F4q,F4q,F4q,F4q,F4q,F4q,F4q,F4q,F4q,F4q,F4q,F4q,F4q,F4q,F4q,F4q,F4q,F4q,F4q,F4q,F4q,F4q] rfl rfl (any_of HT_.out (by kernel_rfl)) (fun _ _ _ h => h) (Or.inl ⟨by rfl, ?_⟩) ?_ ?_
          rotate_left
          ·intro w'
           go_simp
           with_reducible rfl
          rotate_left
          ·simp only [Act.put, List.setIfInBounds_toArray, List.set_cons_zero, List.set_cons_succ, i64_w, i32_w]
           rfl
          refine take_ (i := 16) (N := some 33) (v := ?_) (a' := ?_) #[T4q,T4q,T4q,T4q,T4q,T4q,T4q,T4q,T4q,T4q,T4q,T4q,T4q,T4q,T4q,T4q,T4q,T4q,T4q,T4q,T4q,F4q,F4q,F4q,F4q,F4q,F4q,F4q,F4q,F4q,F4q,F4q,F4q,F4q,F4q,F4q,F4q,F4q,F4q,F4q,F4q,F4q,F4q,F4q,F4q,F4q,F4q,F4q,F4q,F4q,F4q] rfl rfl (take_ofW HT_.out HW_.out (by kernel_rfl)) (fun _ _ _ h => h) (Or.inl ⟨by rfl, ?_⟩) hHeld ?_ ?_
          rotate_left
          ·rintro w' ⟨s0, s1, s2, s3, s4, s5, s6, s7, s8, s9, s10, s11, s12, s13, s14, s15, s16, s17, s18, s19, s20, s21, s22, s23⟩
           go_simp
           with_reducible rfl
          rotate_left
          ·simp only [Act.put, List.setIfInBounds_toArray, List.set_cons_zero, List.set_cons_succ, i64_w, i32_w]
           rfl
          refine take_ (i := 21) (N := some 38) (v := ?_) (a' := ?_) #[T4q,T4q,T4q,T4q,T4q,T4q,T4q,T4q,T4q,T4q,T4q,T4q,T4q,T4q,T4q,T4q,T4q,T4q,T4q,T4q,T4q,T4q,F4q,F4q,F4q,F4q,F4q,F4q,F4q,F4q,F4q,F4q,F4q,F4q,F4q,F4q,F4q,F4q,F4q,F4q,F4q,F4q,F4q,F4q,F4q,F4q,F4q,F4q,F4q,F4q,F4q] rfl rfl (take_ofW HT_.out HW_.out (by kernel_rfl)) (fun _ _ _ h => h) (Or.inl ⟨by rfl, ?_⟩) hHeld ?_ ?_
          rotate_left
          ·rintro w' ⟨s0, s1, s2, s3, s4, s5, s6, s7, s8, s9, s10, s11, s12, s13, s14, s15, s16, s17, s18, s19, s20, s21, s22, s23⟩
           go_simp
           with_reducible rfl
          rotate_left
          ·simp only [Act.put, List.setIfInBounds_toArray, List.set_cons_zero, List.set_cons_succ, i64_w, i32_w]
           rfl
          refine pure_ (i := 22) (N := some 39) (v := ?_) (a' := ?_) #[T4q,T4q,T4q,T4q,T4q,T4q,T4q,T4q,T4q,T4q,T4q,T4q,T4q,T4q,T4q,T4q,T4q,T4q,T4q,T4q,T4q,T4q,T4q,F4q,F4q,F4q,F4q,F4q,F4q,F4q,F4q,F4q,F4q,F4q,F4q,F4q,F4q,F4q,F4q,F4q,F4q,F4q,F4q,F4q,F4q,F4q,F4q,F4q,F4q,F4q,F4q] rfl rfl (any_of HT_.out (by kernel_rfl)) (fun _ _ _ h => h) (Or.inl ⟨by rfl, ?_⟩) ?_ ?_
          rotate_left
          ·intro w'
           go_simp
           with_reducible rfl
          rotate_left
          ·simp only [Act.put, List.setIfInBounds_toArray, List.set_cons_zero, List.set_cons_succ, i64_w, i32_w]
           rfl
          refine pure_ (i := 23) (N := some 40) (v := ?_) (a' := ?_) #[T4q,T4q,T4q,T4q,T4q,T4q,T4q,T4q,T4q,T4q,T4q,T4q,T4q,T4q,T4q,T4q,T4q,T4q,T4q,T4q,T4q,T4q,T4q,T4q,F4q,F4q,F4q,F4q,F4q,F4q,F4q,F4q,F4q,F4q,F4q,F4q,F4q,F4q,F4q,F4q,F4q,F4q,F4q,F4q,F4q,F4q,F4q,F4q,F4q,F4q,F4q] rfl rfl (any_of HT_.out (by kernel_rfl)) (fun _ _ _ h => h) (Or.inl ⟨by rfl, ?_⟩) ?_ ?_
          rotate_left
          ·intro w'
           go_simp
           with_reducible rfl
          rotate_left
          ·simp only [Act.put, List.setIfInBounds_toArray, List.set_cons_zero, List.set_cons_succ, i64_w, i32_w]
           rfl
          refine pure_ (i := 24) (N := some 41) (v := ?_) (a' := ?_) #[T4q,T4q,T4q,T4q,T4q,T4q,T4q,T4q,T4q,T4q,T4q,T4q,T4q,T4q,T4q,T4q,T4q,T4q,T4q,T4q,T4q,T4q,T4q,T4q,T4q,F4q,F4q,F4q,F4q,F4q,F4q,F4q,F4q,F4q,F4q,F4q,F4q,F4q,F4q,F4q,F4q,F4q,F4q,F4q,F4q,F4q,F4q,F4q,F4q,F4q,F4q] rfl rfl (any_of HT_.out (by kernel_rfl)) (fun _ _ _ h => h) (Or.inl ⟨by rfl, ?_⟩) ?_ ?_
          rotate_left
          ·intro w'
           go_simp
           with_reducible rfl
          rotate_left
          ·simp only [Act.put, List.setIfInBounds_toArray, List.set_cons_zero, List.set_cons_succ, i64_w, i32_w]
           rfl
          refine pure_ (i := 25) (N := some 42) (v := ?_) (a' := ?_) #[T4q,T4q,T4q,T4q,T4q,T4q,T4q,T4q,T4q,T4q,T4q,T4q,T4q,T4q,T4q,T4q,T4q,T4q,T4q,T4q,T4q,T4q,T4q,T4q,T4q,T4q,F4q,F4q,F4q,F4q,F4q,F4q,F4q,F4q,F4q,F4q,F4q,F4q,F4q,F4q,F4q,F4q,F4q,F4q,F4q,F4q,F4q,F4q,F4q,F4q,F4q] rfl rfl (any_of HT_.out (by kernel_rfl)) (fun _ _ _ h => h) (Or.inl ⟨by rfl, ?_⟩) ?_ ?_
          rotate_left
          ·intro w'
           go_simp
           with_reducible rfl
          rotate_left
          ·simp only [Act.put, List.setIfInBounds_toArray, List.set_cons_zero, List.set_cons_succ, i64_w, i32_w]
           rfl
          refine pure_ (i := 26) (N := some 43) (v := ?_) (a' := ?_) #[T4q,T4q,T4q,T4q,T4q,T4q,T4q,T4q,T4q,T4q,T4q,T4q,T4q,T4q,T4q,T4q,T4q,T4q,T4q,T4q,T4q,T4q,T4q,T4q,T4q,T4q,T4q,F4q,F4q,F4q,F4q,F4q,F4q,F4q,F4q,F4q,F4q,F4q,F4q,F4q,F4q,F4q,F4q,F4q,F4q,F4q,F4q,F4q,F4q,F4q,F4q] rfl rfl (any_of HT_.out (by kernel_rfl)) (fun _ _ _ h => h) (Or.inl ⟨by rfl, ?_⟩) ?_ ?_
          rotate_left
          ·intro w'
           go_simp
           with_reducible rfl
          rotate_left
          ·simp only [Act.put, List.setIfInBounds_toArray, List.set_cons_zero, List.set_cons_succ, i64_w, i32_w]
           rfl
          refine pure_ (i := 27) (N := some 44) (v := ?_) (a' := ?_) #[T4q,T4q,T4q,T4q,T4q,T4q,T4q,T4q,T4q,T4q,T4q,T4q,T4q,T4q,T4q,T4q,T4q,T4q,T4q,T4q,T4q,T4q,T4q,T4q,T4q,T4q,T4q,T4q,F4q,F4q,F4q,F4q,F4q,F4q,F4q,F4q,F4q,F4q,F4q,F4q,F4q,F4q,F4q,F4q,F4q,F4q,F4q,F4q,F4q,F4q,F4q] rfl rfl (any_of HT_.out (by kernel_rfl)) (fun _ _ _ h => h) (Or.inl ⟨by rfl, ?_⟩) ?_ ?_
          rotate_left
          ·intro w'
           go_simp
           with_reducible rfl
          rotate_left
          ·simp only [Act.put, List.setIfInBounds_toArray, List.set_cons_zero, List.set_cons_succ, i64_w, i32_w]
           rfl
          refine pure_ (i := 28) (N := some 45) (v := ?_) (a' := ?_) #[T4q,T4q,T4q,T4q,T4q,T4q,T4q,T4q,T4q,T4q,T4q,T4q,T4q,T4q,T4q,T4q,T4q,T4q,T4q,T4q,T4q,T4q,T4q,T4q,T4q,T4q,T4q,T4q,T4q,F4q,F4q,F4q,F4q,F4q,F4q,F4q,F4q,F4q,F4q,F4q,F4q,F4q,F4q,F4q,F4q,F4q,F4q,F4q,F4q,F4q,F4q] rfl rfl (any_of HT_.out (by kernel_rfl)) (fun _ _ _ h => h) (Or.inl ⟨by rfl, ?_⟩) ?_ ?_
          rotate_left
          ·intro w'
           go_simp
           with_reducible rfl
          rotate_left
          ·simp only [Act.put, List.setIfInBounds_toArray, List.set_cons_zero, List.set_cons_succ, i64_w, i32_w]
           rfl
          refine pure_ (i := 30) (N := some 47) (v := ?_) (a' := ?_) #[T4q,T4q,T4q,T4q,T4q,T4q,T4q,T4q,T4q,T4q,T4q,T4q,T4q,T4q,T4q,T4q,T4q,T4q,T4q,T4q,T4q,T4q,T4q,T4q,T4q,T4q,T4q,T4q,T4q,F4q,T4q,F4q,F4q,F4q,F4q,F4q,F4q,F4q,F4q,F4q,F4q,F4q,F4q,F4q,F4q,F4q,F4q,F4q,F4q,F4q,F4q] rfl rfl (any_of HT_.out (by kernel_rfl)) (fun _ _ _ h => h) (Or.inl ⟨by rfl, ?_⟩) ?_ ?_
          rotate_left
          ·intro w'
           go_simp
           with_reducible rfl
          rotate_left
          ·simp only [Act.put, List.setIfInBounds_toArray, List.set_cons_zero, List.set_cons_succ, i64_w, i32_w]
           rfl
          refine pure_ (i := 31) (N := some 48) (v := ?_) (a' := ?_) #[T4q,T4q,T4q,T4q,T4q,T4q,T4q,T4q,T4q,T4q,T4q,T4q,T4q,T4q,T4q,T4q,T4q,T4q,T4q,T4q,T4q,T4q,T4q,T4q,T4q,T4q,T4q,T4q,T4q,F4q,T4q,T4q,F4q,F4q,F4q,F4q,F4q,F4q,F4q,F4q,F4q,F4q,F4q,F4q,F4q,F4q,F4q,F4q,F4q,F4q,F4q] rfl rfl (any_of HT_.out (by kernel_rfl)) (fun _ _ _ h => h) (Or.inl ⟨by rfl, ?_⟩) ?_ ?_
          rotate_left
          ·intro w'
           go_simp
           with_reducible rfl
          rotate_left
          ·simp only [Act.put, List.setIfInBounds_toArray, List.set_cons_zero, List.set_cons_succ, i64_w, i32_w]
           rfl
          refine pure_ (i := 32) (N := some 49) (v := ?_) (a' := ?_) #[T4q,T4q,T4q,T4q,T4q,T4q,T4q,T4q,T4q,T4q,T4q,T4q,T4q,T4q,T4q,T4q,T4q,T4q,T4q,T4q,T4q,T4q,T4q,T4q,T4q,T4q,T4q,T4q,T4q,F4q,T4q,T4q,T4q,F4q,F4q,F4q,F4q,F4q,F4q,F4q,F4q,F4q,F4q,F4q,F4q,F4q,F4q,F4q,F4q,F4q,F4q] rfl rfl (any_of HT_.out (by kernel_rfl)) (fun _ _ _ h => h) (Or.inl ⟨by rfl, ?_⟩) ?_ ?_
          rotate_left
          ·intro w'
           go_simp
           with_reducible rfl
          rotate_left
          ·simp only [Act.put, List.setIfInBounds_toArray, List.set_cons_zero, List.set_cons_succ, i64_w, i32_w]
           rfl
          refine pure_ (i := 33) (N := some 50) (v := ?_) (a' := ?_) #[T4q,T4q,T4q,T4q,T4q,T4q,T4q,T4q,T4q,T4q,T4q,T4q,T4q,T4q,T4q,T4q,T4q,T4q,T4q,T4q,T4q,T4q,T4q,T4q,T4q,T4q,T4q,T4q,T4q,F4q,T4q,T4q,T4q,T4q,F4q,F4q,F4q,F4q,F4q,F4q,F4q,F4q,F4q,F4q,F4q,F4q,F4q,F4q,F4q,F4q,F4q] rfl rfl (any_of HT_.out (by kernel_rfl)) (fun _ _ _ h => h) (Or.inl ⟨by rfl, ?_⟩) ?_ ?_
          rotate_left
          ·intro w'
           go_simp
           with_reducible rfl
          rotate_left
          ·simp only [Act.put, List.setIfInBounds_toArray, List.set_cons_zero, List.set_cons_succ, i64_w, i32_w]
           rfl
          refine take_ (i := 29) (N := some 46) (v := ?_) (a' := ?_) #[T4q,T4q,T4q,T4q,T4q,T4q,T4q,T4q,T4q,T4q,T4q,T4q,T4q,T4q,T4q,T4q,T4q,T4q,T4q,T4q,T4q,T4q,T4q,T4q,T4q,T4q,T4q,T4q,T4q,T4q,T4q,T4q,T4q,T4q,F4q,F4q,F4q,F4q,F4q,F4q,F4q,F4q,F4q,F4q,F4q,F4q,F4q,F4q,F4q,F4q,F4q] rfl rfl (take_ofW HT_.out HW_.out (by kernel_rfl)) (fun _ _ _ h => h) (Or.inl ⟨by rfl, ?_⟩) hHeld ?_ ?_
          rotate_left
          ·rintro w' ⟨s0, s1, s2, s3, s4, s5, s6, s7, s8, s9, s10, s11, s12, s13, s14, s15, s16, s17, s18, s19, s20, s21, s22, s23⟩
           go_simp
           with_reducible rfl
          rotate_left
          ·simp only [Act.put, List.setIfInBounds_toArray, List.set_cons_zero, List.set_cons_succ, i64_w, i32_w]
           rfl
          refine take_ (i := 34) (N := some 51) (v := ?_) (a' := ?_) #[T4q,T4q,T4q,T4q,T4q,T4q,T4q,T4q,T4q,T4q,T4q,T4q,T4q,T4q,T4q,T4q,T4q,T4q,T4q,T4q,T4q,T4q,T4q,T4q,T4q,T4q,T4q,T4q,T4q,T4q,T4q,T4q,T4q,T4q,T4q,F4q,F4q,F4q,F4q,F4q,F4q,F4q,F4q,F4q,F4q,F4q,F4q,F4q,F4q,F4q,F4q] rfl rfl (take_ofW HT_.out HW_.out (by kernel_rfl)) (fun _ _ _ h => h) (Or.inl ⟨by rfl, ?_⟩) hHeld ?_ ?_
          rotate_left
          ·rintro w' ⟨s0, s1, s2, s3, s4, s5, s6, s7, s8, s9, s10, s11, s12, s13, s14, s15, s16, s17, s18, s19, s20, s21, s22, s23⟩
           go_simp
           with_reducible rfl
          rotate_left
          ·simp only [Act.put, List.setIfInBounds_toArray, List.set_cons_zero, List.set_cons_succ, i64_w, i32_w]
           rfl
          refine pure_ (i := 35) (N := some 52) (v := ?_) (a' := ?_) #[T4q,T4q,T4q,T4q,T4q,T4q,T4q,T4q,T4q,T4q,T4q,T4q,T4q,T4q,T4q,T4q,T4q,T4q,T4q,T4q,T4q,T4q,T4q,T4q,T4q,T4q,T4q,T4q,T4q,T4q,T4q,T4q,T4q,T4q,T4q,T4q,F4q,F4q,F4q,F4q,F4q,F4q,F4q,F4q,F4q,F4q,F4q,F4q,F4q,F4q,F4q] rfl rfl (any_of HT_.out (by kernel_rfl)) (fun _ _ _ h => h) (Or.inl ⟨by rfl, ?_⟩) ?_ ?_
          rotate_left
          ·intro w'
           go_simp
           with_reducible rfl
          rotate_left
          ·simp only [Act.put, List.setIfInBounds_toArray, List.set_cons_zero, List.set_cons_succ, i64_w, i32_w]
           rfl
          refine pure_ (i := 36) (N := some 53) (v := ?_) (a' := ?_) #[T4q,T4q,T4q,T4q,T4q,T4q,T4q,T4q,T4q,T4q,T4q,T4q,T4q,T4q,T4q,T4q,T4q,T4q,T4q,T4q,T4q,T4q,T4q,T4q,T4q,T4q,T4q,T4q,T4q,T4q,T4q,T4q,T4q,T4q,T4q,T4q,T4q,F4q,F4q,F4q,F4q,F4q,F4q,F4q,F4q,F4q,F4q,F4q,F4q,F4q,F4q] rfl rfl (any_of HT_.out (by kernel_rfl)) (fun _ _ _ h => h) (Or.inl ⟨by rfl, ?_⟩) ?_ ?_
          rotate_left
          ·intro w'
           go_simp
           with_reducible rfl
          rotate_left
          ·simp only [Act.put, List.setIfInBounds_toArray, List.set_cons_zero, List.set_cons_succ, i64_w, i32_w]
           rfl
          refine pure_ (i := 37) (N := some 54) (v := ?_) (a' := ?_) #[T4q,T4q,T4q,T4q,T4q,T4q,T4q,T4q,T4q,T4q,T4q,T4q,T4q,T4q,T4q,T4q,T4q,T4q,T4q,T4q,T4q,T4q,T4q,T4q,T4q,T4q,T4q,T4q,T4q,T4q,T4q,T4q,T4q,T4q,T4q,T4q,T4q,T4q,F4q,F4q,F4q,F4q,F4q,F4q,F4q,F4q,F4q,F4q,F4q,F4q,F4q] rfl rfl (any_of HT_.out (by kernel_rfl)) (fun _ _ _ h => h) (Or.inl ⟨by rfl, ?_⟩) ?_ ?_
          rotate_left
          ·intro w'
           go_simp
           with_reducible rfl
          rotate_left
          ·simp only [Act.put, List.setIfInBounds_toArray, List.set_cons_zero, List.set_cons_succ, i64_w, i32_w]
           rfl
          refine pure_ (i := 38) (N := some 55) (v := undef) (a' := ?_) #[T4q,T4q,T4q,T4q,T4q,T4q,T4q,T4q,T4q,T4q,T4q,T4q,T4q,T4q,T4q,T4q,T4q,T4q,T4q,T4q,T4q,T4q,T4q,T4q,T4q,T4q,T4q,T4q,T4q,T4q,T4q,T4q,T4q,T4q,T4q,T4q,T4q,T4q,T4q,F4q,F4q,F4q,F4q,F4q,F4q,F4q,F4q,F4q,F4q,F4q,F4q] rfl rfl (any_of HT_.out (by kernel_rfl)) (fun _ _ _ h => h) (Or.inr ⟨by rfl, rfl⟩) ?_ ?_
          rotate_left
          ·simp only [Act.put, List.setIfInBounds_toArray, List.set_cons_zero, List.set_cons_succ, i64_w, i32_w]
           rfl
          refine pure_ (i := 39) (N := some 56) (v := undef) (a' := ?_) #[T4q,T4q,T4q,T4q,T4q,T4q,T4q,T4q,T4q,T4q,T4q,T4q,T4q,T4q,T4q,T4q,T4q,T4q,T4q,T4q,T4q,T4q,T4q,T4q,T4q,T4q,T4q,T4q,T4q,T4q,T4q,T4q,T4q,T4q,T4q,T4q,T4q,T4q,T4q,T4q,F4q,F4q,F4q,F4q,F4q,F4q,F4q,F4q,F4q,F4q,F4q] rfl rfl (any_of HT_.out (by kernel_rfl)) (fun _ _ _ h => h) (Or.inr ⟨by rfl, rfl⟩) ?_ ?_
          rotate_left
          ·simp only [Act.put, List.setIfInBounds_toArray, List.set_cons_zero, List.set_cons_succ, i64_w, i32_w]
           rfl
          refine pure_ (i := 40) (N := some 57) (v := undef) (a' := ?_) #[T4q,T4q,T4q,T4q,T4q,T4q,T4q,T4q,T4q,T4q,T4q,T4q,T4q,T4q,T4q,T4q,T4q,T4q,T4q,T4q,T4q,T4q,T4q,T4q,T4q,T4q,T4q,T4q,T4q,T4q,T4q,T4q,T4q,T4q,T4q,T4q,T4q,T4q,T4q,T4q,T4q,F4q,F4q,F4q,F4q,F4q,F4q,F4q,F4q,F4q,F4q] rfl rfl (any_of HT_.out (by kernel_rfl)) (fun _ _ _ h => h) (Or.inr ⟨by rfl, rfl⟩) ?_ ?_
          rotate_left
          ·simp only [Act.put, List.setIfInBounds_toArray, List.set_cons_zero, List.set_cons_succ, i64_w, i32_w]
           rfl
          refine pure_ (i := 41) (N := some 58) (v := undef) (a' := ?_) #[T4q,T4q,T4q,T4q,T4q,T4q,T4q,T4q,T4q,T4q,T4q,T4q,T4q,T4q,T4q,T4q,T4q,T4q,T4q,T4q,T4q,T4q,T4q,T4q,T4q,T4q,T4q,T4q,T4q,T4q,T4q,T4q,T4q,T4q,T4q,T4q,T4q,T4q,T4q,T4q,T4q,T4q,F4q,F4q,F4q,F4q,F4q,F4q,F4q,F4q,F4q] rfl rfl (any_of HT_.out (by kernel_rfl)) (fun _ _ _ h => h) (Or.inr ⟨by rfl, rfl⟩) ?_ ?_
          rotate_left
          ·simp only [Act.put, List.setIfInBounds_toArray, List.set_cons_zero, List.set_cons_succ, i64_w, i32_w]
           rfl
          refine pure_ (i := 42) (N := some 59) (v := undef) (a' := ?_) #[T4q,T4q,T4q,T4q,T4q,T4q,T4q,T4q,T4q,T4q,T4q,T4q,T4q,T4q,T4q,T4q,T4q,T4q,T4q,T4q,T4q,T4q,T4q,T4q,T4q,T4q,T4q,T4q,T4q,T4q,T4q,T4q,T4q,T4q,T4q,T4q,T4q,T4q,T4q,T4q,T4q,T4q,T4q,F4q,F4q,F4q,F4q,F4q,F4q,F4q,F4q] rfl rfl (any_of HT_.out (by kernel_rfl)) (fun _ _ _ h => h) (Or.inr ⟨by rfl, rfl⟩) ?_ ?_
          rotate_left
          ·simp only [Act.put, List.setIfInBounds_toArray, List.set_cons_zero, List.set_cons_succ, i64_w, i32_w]
           rfl
          refine pure_ (i := 43) (N := some 60) (v := undef) (a' := ?_) #[T4q,T4q,T4q,T4q,T4q,T4q,T4q,T4q,T4q,T4q,T4q,T4q,T4q,T4q,T4q,T4q,T4q,T4q,T4q,T4q,T4q,T4q,T4q,T4q,T4q,T4q,T4q,T4q,T4q,T4q,T4q,T4q,T4q,T4q,T4q,T4q,T4q,T4q,T4q,T4q,T4q,T4q,T4q,T4q,F4q,F4q,F4q,F4q,F4q,F4q,F4q] rfl rfl (any_of HT_.out (by kernel_rfl)) (fun _ _ _ h => h) (Or.inr ⟨by rfl, rfl⟩) ?_ ?_
          rotate_left
          ·simp only [Act.put, List.setIfInBounds_toArray, List.set_cons_zero, List.set_cons_succ, i64_w, i32_w]
           rfl
          refine pure_ (i := 44) (N := some 61) (v := undef) (a' := ?_) #[T4q,T4q,T4q,T4q,T4q,T4q,T4q,T4q,T4q,T4q,T4q,T4q,T4q,T4q,T4q,T4q,T4q,T4q,T4q,T4q,T4q,T4q,T4q,T4q,T4q,T4q,T4q,T4q,T4q,T4q,T4q,T4q,T4q,T4q,T4q,T4q,T4q,T4q,T4q,T4q,T4q,T4q,T4q,T4q,T4q,F4q,F4q,F4q,F4q,F4q,F4q] rfl rfl (any_of HT_.out (by kernel_rfl)) (fun _ _ _ h => h) (Or.inr ⟨by rfl, rfl⟩) ?_ ?_
          rotate_left
          ·simp only [Act.put, List.setIfInBounds_toArray, List.set_cons_zero, List.set_cons_succ, i64_w, i32_w]
           rfl
          refine pure_ (i := 45) (N := some 62) (v := undef) (a' := ?_) #[T4q,T4q,T4q,T4q,T4q,T4q,T4q,T4q,T4q,T4q,T4q,T4q,T4q,T4q,T4q,T4q,T4q,T4q,T4q,T4q,T4q,T4q,T4q,T4q,T4q,T4q,T4q,T4q,T4q,T4q,T4q,T4q,T4q,T4q,T4q,T4q,T4q,T4q,T4q,T4q,T4q,T4q,T4q,T4q,T4q,T4q,F4q,F4q,F4q,F4q,F4q] rfl rfl (any_of HT_.out (by kernel_rfl)) (fun _ _ _ h => h) (Or.inr ⟨by rfl, rfl⟩) ?_ ?_
          rotate_left
          ·simp only [Act.put, List.setIfInBounds_toArray, List.set_cons_zero, List.set_cons_succ, i64_w, i32_w]
           rfl
          refine pure_ (i := 46) (N := some 63) (v := undef) (a' := ?_) #[T4q,T4q,T4q,T4q,T4q,T4q,T4q,T4q,T4q,T4q,T4q,T4q,T4q,T4q,T4q,T4q,T4q,T4q,T4q,T4q,T4q,T4q,T4q,T4q,T4q,T4q,T4q,T4q,T4q,T4q,T4q,T4q,T4q,T4q,T4q,T4q,T4q,T4q,T4q,T4q,T4q,T4q,T4q,T4q,T4q,T4q,T4q,F4q,F4q,F4q,F4q] rfl rfl (any_of HT_.out (by kernel_rfl)) (fun _ _ _ h => h) (Or.inr ⟨by rfl, rfl⟩) ?_ ?_
          rotate_left
          ·simp only [Act.put, List.setIfInBounds_toArray, List.set_cons_zero, List.set_cons_succ, i64_w, i32_w]
           rfl
          refine pure_ (i := 47) (N := some 64) (v := undef) (a' := ?_) #[T4q,T4q,T4q,T4q,T4q,T4q,T4q,T4q,T4q,T4q,T4q,T4q,T4q,T4q,T4q,T4q,T4q,T4q,T4q,T4q,T4q,T4q,T4q,T4q,T4q,T4q,T4q,T4q,T4q,T4q,T4q,T4q,T4q,T4q,T4q,T4q,T4q,T4q,T4q,T4q,T4q,T4q,T4q,T4q,T4q,T4q,T4q,T4q,F4q,F4q,F4q] rfl rfl (any_of HT_.out (by kernel_rfl)) (fun _ _ _ h => h) (Or.inr ⟨by rfl, rfl⟩) ?_ ?_
          rotate_left
          ·simp only [Act.put, List.setIfInBounds_toArray, List.set_cons_zero, List.set_cons_succ, i64_w, i32_w]
           rfl
          refine pure_ (i := 48) (N := some 65) (v := undef) (a' := ?_) #[T4q,T4q,T4q,T4q,T4q,T4q,T4q,T4q,T4q,T4q,T4q,T4q,T4q,T4q,T4q,T4q,T4q,T4q,T4q,T4q,T4q,T4q,T4q,T4q,T4q,T4q,T4q,T4q,T4q,T4q,T4q,T4q,T4q,T4q,T4q,T4q,T4q,T4q,T4q,T4q,T4q,T4q,T4q,T4q,T4q,T4q,T4q,T4q,T4q,F4q,F4q] rfl rfl (any_of HT_.out (by kernel_rfl)) (fun _ _ _ h => h) (Or.inr ⟨by rfl, rfl⟩) ?_ ?_
          rotate_left
          ·simp only [Act.put, List.setIfInBounds_toArray, List.set_cons_zero, List.set_cons_succ, i64_w, i32_w]
           rfl
          refine pure_ (i := 49) (N := some 66) (v := undef) (a' := ?_) #[T4q,T4q,T4q,T4q,T4q,T4q,T4q,T4q,T4q,T4q,T4q,T4q,T4q,T4q,T4q,T4q,T4q,T4q,T4q,T4q,T4q,T4q,T4q,T4q,T4q,T4q,T4q,T4q,T4q,T4q,T4q,T4q,T4q,T4q,T4q,T4q,T4q,T4q,T4q,T4q,T4q,T4q,T4q,T4q,T4q,T4q,T4q,T4q,T4q,T4q,F4q] rfl rfl (any_of HT_.out (by kernel_rfl)) (fun _ _ _ h => h) (Or.inr ⟨by rfl, rfl⟩) ?_ ?_
          rotate_left
          ·simp only [Act.put, List.setIfInBounds_toArray, List.set_cons_zero, List.set_cons_succ, i64_w, i32_w]
           rfl
          refine pure_ (i := 50) (N := some 67) (v := ?_) (a' := ?_) #[T4q,T4q,T4q,T4q,T4q,T4q,T4q,T4q,T4q,T4q,T4q,T4q,T4q,T4q,T4q,T4q,T4q,T4q,T4q,T4q,T4q,T4q,T4q,T4q,T4q,T4q,T4q,T4q,T4q,T4q,T4q,T4q,T4q,T4q,T4q,T4q,T4q,T4q,T4q,T4q,T4q,T4q,T4q,T4q,T4q,T4q,T4q,T4q,T4q,T4q,T4q] rfl rfl (any_of HT_.out (by kernel_rfl)) (fun _ _ _ h => h) (Or.inl ⟨by rfl, ?_⟩) ?_ ?_
          rotate_left
          ·intro w'
           go_simp
           with_reducible rfl
          rotate_left
          ·simp only [Act.put, List.setIfInBounds_toArray, List.set_cons_zero, List.set_cons_succ, i64_w, i32_w]
           rfl
          refine done_ (done_of HT_.out (by kernel_rfl)) ?_
          try go_wp2
          go_ret
          exact ⟨by first | rfl | (simp [errW_none, errW_some] <;> rfl) | (simp [*, errW_none, errW_some] <;> rfl), by repeat (first | (with_reducible first | exact HB.out | apply below_alloc | apply pw_below_drewN | apply below_drew1) | exact HB.out)⟩
        ·rw [if_neg c8] at H
         have c8b0 : (((rd_T48 l0 x5_1).f2) == ((rd_T48 l1 x5_1).f2)) = false := beq_eq_false_iff_ne.mpr c8
         have c8b1 : (((rd_T48 l0 x5_1).f2) != ((rd_T48 l1 x5_1).f2)) = true := bne_iff_ne.mpr c8
         obtain rfl := Option.some.inj H
         try go_wp2
         have n0_ := Aside0.mk (below_drew1 HB.out)
         clear HB
         have HB := n0_
         clear n0_
         have p607 : 0 ≤ (x5_1 : Int) := of_decide_eq_true (by first | (with_reducible assumption) | assumption)
         have q607 : x5_1 < (l0.length : Int) := of_decide_eq_true (by first | (with_reducible assumption) | assumption)
         obtain ⟨ad607, A607_1, c607_1, e607, hx607_0, hx607_1, hx607_2, hx607_3, hl607_1, hi607_1⟩ := at_T48 HR0.out x5_1 p607 q607
         have hw607_3 := hx607_3
         have hw607_2 := hx607_2
         have hw607_1 := hx607_1
         have hw607_0 := hx607_0
         cases e607
         (try replace hx607_0 := (HB.out.cell (World.block_lt_of_cell? w _ hx607_0)).trans hx607_0)
         (try replace hx607_1 := (HB.out.cell (World.block_lt_of_cell? w _ hx607_1)).trans hx607_1)
         (try replace hx607_2 := (HB.out.cell (World.block_lt_of_cell? w _ hx607_2)).trans hx607_2)
         (try replace hx607_3 := (HB.out.cell (World.block_lt_of_cell? w _ hx607_3)).trans hx607_3)
         have HR607_1 := Aside0.mk hi607_1
         have HC607_1 := Aside0.mk hl607_1
         clear hi607_1 hl607_1
         replace p607 := eq_true p607
         replace q607 := eq_true q607
         have p608 : 0 ≤ (x5_1 : Int) := of_decide_eq_true (by first | (with_reducible assumption) | assumption)
         have q608 : x5_1 < (l1.length : Int) := of_decide_eq_true (by first | (with_reducible assumption) | assumption)
         obtain ⟨ad608, A608_1, c608_1, e608, hx608_0, hx608_1, hx608_2, hx608_3, hl608_1, hi608_1⟩ := at_T48 HR1.out x5_1 p608 q608
         have hw608_3 := hx608_3
         have hw608_2 := hx608_2
         have hw608_1 := hx608_1
         have hw608_0 := hx608_0
         cases e608
         (try replace hx608_0 := (HB.out.cell (World.block_lt_of_cell? w _ hx608_0)).trans hx608_0)
         (try replace hx608_1 := (HB.out.cell (World.block_lt_of_cell? w _ hx608_1)).trans hx608_1)
         (try replace hx608_2 := (HB.out.cell (World.block_lt_of_cell? w _ hx608_2)).trans hx608_2)
         (try replace hx608_3 := (HB.out.cell (World.block_lt_of_cell? w _ hx608_3)).trans hx608_3)
         have HR608_1 := Aside0.mk hi608_1
         have HC608_1 := Aside0.mk hl608_1
         clear hi608_1 hl608_1
         replace p608 := eq_true p608
         replace q608 := eq_true q608
         have p609 : 0 ≤ (x5_1 : Int) := of_decide_eq_true (by first | (with_reducible assumption) | assumption)
         have q609 : x5_1 < (l0.length : Int) := of_decide_eq_true (by first | (with_reducible assumption) | assumption)
         obtain ⟨ad609, A609_1, c609_1, e609, hx609_0, hx609_1, hx609_2, hx609_3, hl609_1, hi609_1⟩ := at_T48 HR0.out x5_1 p609 q609
         have hw609_3 := hx609_3
         have hw609_2 := hx609_2
         have hw609_1 := hx609_1
         have hw609_0 := hx609_0
         obtain rfl : ad607 = ad609 := (by injection e609)
         (try replace hx609_0 := (HB.out.cell (World.block_lt_of_cell? w _ hx609_0)).trans hx609_0)
         (try replace hx609_1 := (HB.out.cell (World.block_lt_of_cell? w _ hx609_1)).trans hx609_1)
         (try replace hx609_2 := (HB.out.cell (World.block_lt_of_cell? w _ hx609_2)).trans hx609_2)
         (try replace hx609_3 := (HB.out.cell (World.block_lt_of_cell? w _ hx609_3)).trans hx609_3)
         have HR609_1 := Aside0.mk hi609_1
         have HC609_1 := Aside0.mk hl609_1
         clear hi609_1 hl609_1
         replace p609 := eq_true p609
         replace q609 := eq_true q609
         have ea_ := Option.some.inj (hx607_1.symm.trans hx609_1)
         injection ea_ with ea_ en_ ec_
         subst ea_
         subst ec_
         clear en_
         have p610 : 0 ≤ (x5_1 : Int) := of_decide_eq_true (by first | (with_reducible assumption) | assumption)
         have q610 : x5_1 < (l1.length : Int) := of_decide_eq_true (by first | (with_reducible assumption) | assumption)
         obtain ⟨ad610, A610_1, c610_1, e610, hx610_0, hx610_1, hx610_2, hx610_3, hl610_1, hi610_1⟩ := at_T48 HR1.out x5_1 p610 q610
         have hw610_3 := hx610_3
         have hw610_2 := hx610_2
         have hw610_1 := hx610_1
         have hw610_0 := hx610_0
         obtain rfl : ad608 = ad610 := (by injection e610)
         (try replace hx610_0 := (HB.out.cell (World.block_lt_of_cell? w _ hx610_0)).trans hx610_0)
         (try replace hx610_1 := (HB.out.cell (World.block_lt_of_cell? w _ hx610_1)).trans hx610_1)
         (try replace hx610_2 := (HB.out.cell (World.block_lt_of_cell? w _ hx610_2)).trans hx610_2)
         (try replace hx610_3 := (HB.out.cell (World.block_lt_of_cell? w _ hx610_3)).trans hx610_3)
         have HR610_1 := Aside0.mk hi610_1
         have HC610_1 := Aside0.mk hl610_1
         clear hi610_1 hl610_1
         replace p610 := eq_true p610
         replace q610 := eq_true q610
         have ea_ := Option.some.inj (hx608_1.symm.trans hx610_1)
         injection ea_ with ea_ en_ ec_
         subst ea_
         subst ec_
         clear en_
         refine start_ (n := 51) (S := fun w' => w'.cell? (ad607.add ((x5_1).toNat * 4)) = some (.int .i64 ((rd_T48 l0 x5_1).f0)) ∧ w'.cell? ⟨(ad607.add ((x5_1).toNat * 4)).block, (ad607.add ((x5_1).toNat * 4)).off + 1, none⟩ = some (.slice A607_1 ((rd_T48 l0 x5_1).f1).length c607_1) ∧ w'.cell? ⟨(ad607.add ((x5_1).toNat * 4)).block, (ad607.add ((x5_1).toNat * 4)).off + 2, none⟩ = some (.int .i64 ((rd_T48 l0 x5_1).f2)) ∧ w'.cell? ⟨(ad607.add ((x5_1).toNat * 4)).block, (ad607.add ((x5_1).toNat * 4)).off + 3, none⟩ = some (.int .i64 ((rd_T48 l0 x5_1).f3)) ∧ w'.cell? (ad608.add ((x5_1).toNat * 4)) = some (.int .i64 ((rd_T48 l1 x5_1).f0)) ∧ w'.cell? ⟨(ad608.add ((x5_1).toNat * 4)).block, (ad608.add ((x5_1).toNat * 4)).off + 1, none⟩ = some (.slice A608_1 ((rd_T48 l1 x5_1).f1).length c608_1) ∧ w'.cell? ⟨(ad608.add ((x5_1).toNat * 4)).block, (ad608.add ((x5_1).toNat * 4)).off + 2, none⟩ = some (.int .i64 ((rd_T48 l1 x5_1).f2)) ∧ w'.cell? ⟨(ad608.add ((x5_1).toNat * 4)).block, (ad608.add ((x5_1).toNat * 4)).off + 3, none⟩ = some (.int .i64 ((rd_T48 l1 x5_1).f3)) ∧ w'.cell? (ad607.add ((x5_1).toNat * 4)) = some (.int .i64 ((rd_T48 l0 x5_1).f0)) ∧ w'.cell? ⟨(ad607.add ((x5_1).toNat * 4)).block, (ad607.add ((x5_1).toNat * 4)).off + 1, none⟩ = some (.slice A607_1 ((rd_T48 l0 x5_1).f1).length c607_1) ∧ w'.cell? ⟨(ad607.add ((x5_1).toNat * 4)).block, (ad607.add ((x5_1).toNat * 4)).off + 2, none⟩ = some (.int .i64 ((rd_T48 l0 x5_1).f2)) ∧ w'.cell? ⟨(ad607.add ((x5_1).toNat * 4)).block, (ad607.add ((x5_1).toNat * 4)).off + 3, none⟩ = some (.int .i64 ((rd_T48 l0 x5_1).f3)) ∧ w'.cell? (ad608.add ((x5_1).toNat * 4)) = some (.int .i64 ((rd_T48 l1 x5_1).f0)) ∧ w'.cell? ⟨(ad608.add ((x5_1).toNat * 4)).block, (ad608.add ((x5_1).toNat * 4)).off + 1, none⟩ = some (.slice A608_1 ((rd_T48 l1 x5_1).f1).length c608_1) ∧ w'.cell? ⟨(ad608.add ((x5_1).toNat * 4)).block, (ad608.add ((x5_1).toNat * 4)).off + 2, none⟩ = some (.int .i64 ((rd_T48 l1 x5_1).f2)) ∧ w'.cell? ⟨(ad608.add ((x5_1).toNat * 4)).block, (ad608.add ((x5_1).toNat * 4)).off + 3, none⟩ = some (.int .i64 ((rd_T48 l1 x5_1).f3))) (ds := []) #[F4q,F4q,F4q,F4q,F4q,F4q,F4q,F4q,F4q,F4q,F4q,F4q,F4q,F4q,F4q,F4q,F4q,F4q,F4q,F4q,F4q,F4q,F4q,F4q,F4q,F4q,F4q,F4q,F4q,F4q,F4q,F4q,F4q,F4q,F4q,F4q,F4q,F4q,F4q,F4q,F4q,F4q,F4q,F4q,F4q,F4q,F4q,F4q,F4q,F4q,F4q] (by kernel_rfl) rfl rfl ⟨(by first | exact ((HB.out.cell (World.block_lt_of_cell? w _ hw607_0)).trans hw607_0) | exact HS0_ | exact hHeld.1 | exact hw607_0), (by first | exact ((HB.out.cell (World.block_lt_of_cell? w _ hw607_1)).trans hw607_1) | exact HS0_ | exact hHeld.1 | exact hw607_1), (by first | exact ((HB.out.cell (World.block_lt_of_cell? w _ hw607_2)).trans hw607_2) | exact HS0_ | exact hHeld.1 | exact hw607_2), (by first | exact ((HB.out.cell (World.block_lt_of_cell? w _ hw607_3)).trans hw607_3) | exact HS0_ | exact hHeld.1 | exact hw607_3), (by first | exact ((HB.out.cell (World.block_lt_of_cell? w _ hw608_0)).trans hw608_0) | exact HS0_ | exact hHeld.1 | exact hw608_0), (by first | exact ((HB.out.cell (World.block_lt_of_cell? w _ hw608_1)).trans hw608_1) | exact HS0_ | exact hHeld.1 | exact hw608_1), (by first | exact ((HB.out.cell (World.block_lt_of_cell? w _ hw608_2)).trans hw608_2) | exact HS0_ | exact hHeld.1 | exact hw608_2), (by first | exact ((HB.out.cell (World.block_lt_of_cell? w _ hw608_3)).trans hw608_3) | exact HS0_ | exact hHeld.1 | exact hw608_3), (by first | exact ((HB.out.cell (World.block_lt_of_cell? w _ hw609_0)).trans hw609_0) | exact HS0_ | exact hHeld.1 | exact hw609_0), (by first | exact ((HB.out.cell (World.block_lt_of_cell? w _ hw609_1)).trans hw609_1) | exact HS0_ | exact hHeld.1 | exact hw609_1), (by first | exact ((HB.out.cell (World.block_lt_of_cell? w _ hw609_2)).trans hw609_2) | exact HS0_ | exact hHeld.1 | exact hw609_2), (by first | exact ((HB.out.cell (World.block_lt_of_cell? w _ hw609_3)).trans hw609_3) | exact HS0_ | exact hHeld.1 | exact hw609_3), (by first | exact ((HB.out.cell (World.block_lt_of_cell? w _ hw610_0)).trans hw610_0) | exact HS0_ | exact hHeld.1 | exact hw610_0), (by first | exact ((HB.out.cell (World.block_lt_of_cell? w _ hw610_1)).trans hw610_1) | exact HS0_ | exact hHeld.1 | exact hw610_1), (by first | exact ((HB.out.cell (World.block_lt_of_cell? w _ hw610_2)).trans hw610_2) | exact HS0_ | exact hHeld.1 | exact hw610_2), (by first | exact ((HB.out.cell (World.block_lt_of_cell? w _ hw610_3)).trans hw610_3) | exact HS0_ | exact hHeld.1 | exact hw610_3)⟩ (fun hHeld => ?_); refine with_tabW laws_equalTasks.tab6 laws_equalTasks.bits6 (fun HT_ HW_ => ?_)
         generalize wr.drew = w15 at HB HR607_1 HR608_1 HR609_1 HR610_1 hx607_0 hx607_1 hx607_2 hx607_3 hx608_0 hx608_1 hx608_2 hx608_3 hx609_0 hx609_1 hx609_2 hx609_3 hx610_0 hx610_1 hx610_2 hx610_3 hHeld ⊢
         refine pure_ (i := 0) (N := some 17) (v := ?_) (a' := ?_) #[T4q,F4q,F4q,F4q,F4q,F4q,F4q,F4q,F4q,F4q,F4q,F4q,F4q,F4q,F4q,F4q,F4q,F4q,F4q,F4q,F4q,F4q,F4q,F4q,F4q,F4q,F4q,F4q,F4q,F4q,F4q,F4q,F4q,F4q,F4q,F4q,F4q,F4q,F4q,F4q,F4q,F4q,F4q,F4q,F4q,F4q,F4q,F4q,F4q,F4q,F4q] rfl rfl (any_of HT_.out (by kernel_rfl)) (fun _ _ _ h => h) (Or.inl ⟨by rfl, ?_⟩) ?_ ?_
         rotate_left
         ·intro w'
          go_simp
          with_reducible rfl
         rotate_left
         ·simp only [Act.put, List.setIfInBounds_toArray, List.set_cons_zero, List.set_cons_succ, i64_w, i32_w]
          rfl
         refine pure_ (i := 1) (N := some 18) (v := ?_) (a' := ?_) #[T4q,T4q,F4q,F4q,F4q,F4q,F4q,F4q,F4q,F4q,F4q,F4q,F4q,F4q,F4q,F4q,F4q,F4q,F4q,F4q,F4q,F4q,F4q,F4q,F4q,F4q,F4q,F4q,F4q,F4q,F4q,F4q,F4q,F4q,F4q,F4q,F4q,F4q,F4q,F4q,F4q,F4q,F4q,F4q,F4q,F4q,F4q,F4q,F4q,F4q,F4q] rfl rfl (any_of HT_.out (by kernel_rfl)) (fun _ _ _ h => h) (Or.inl ⟨by rfl, ?_⟩) ?_ ?_
         rotate_left
         ·intro w'
          go_simp
          with_reducible rfl
         rotate_left
         ·simp only [Act.put, List.setIfInBounds_toArray, List.set_cons_zero, List.set_cons_succ, i64_w, i32_w]
          rfl
         refine pure_ (i := 2) (N := some 19) (v := ?_) (a' := ?_) #[T4q,T4q,T4q,F4q,F4q,F4q,F4q,F4q,F4q,F4q,F4q,F4q,F4q,F4q,F4q,F4q,F4q,F4q,F4q,F4q,F4q,F4q,F4q,F4q,F4q,F4q,F4q,F4q,F4q,F4q,F4q,F4q,F4q,F4q,F4q,F4q,F4q,F4q,F4q,F4q,F4q,F4q,F4q,F4q,F4q,F4q,F4q,F4q,F4q,F4q,F4q] rfl rfl (any_of HT_.out (by kernel_rfl)) (fun _ _ _ h => h) (Or.inl ⟨by rfl, ?_⟩) ?_ ?_
         rotate_left
         ·intro w'
          go_simp
          with_reducible rfl
         rotate_left
         ·simp only [Act.put, List.setIfInBounds_toArray, List.set_cons_zero, List.set_cons_succ, i64_w, i32_w]
          rfl
         refine pure_ (i := 3) (N := some 20) (v := ?_) (a' := ?_) #[T4q,T4q,T4q,T4q,F4q,F4q,F4q,F4q,F4q,F4q,F4q,F4q,F4q,F4q,F4q,F4q,F4q,F4q,F4q,F4q,F4q,F4q,F4q,F4q,F4q,F4q,F4q,F4q,F4q,F4q,F4q,F4q,F4q,F4q,F4q,F4q,F4q,F4q,F4q,F4q,F4q,F4q,F4q,F4q,F4q,F4q,F4q,F4q,F4q,F4q,F4q] rfl rfl (any_of HT_.out (by kernel_rfl)) (fun _ _ _ h => h) (Or.inl ⟨by rfl, ?_⟩) ?_ ?_
         rotate_left
         ·intro w'
          go_simp
          with_reducible rfl
         rotate_left
         ·simp only [Act.put, List.setIfInBounds_toArray, List.set_cons_zero, List.set_cons_succ, i64_w, i32_w]
          rfl
         refine pure_ (i := 5) (N := some 22) (v := ?_) (a' := ?_) #[T4q,T4q,T4q,T4q,F4q,T4q,F4q,F4q,F4q,F4q,F4q,F4q,F4q,F4q,F4q,F4q,F4q,F4q,F4q,F4q,F4q,F4q,F4q,F4q,F4q,F4q,F4q,F4q,F4q,F4q,F4q,F4q,F4q,F4q,F4q,F4q,F4q,F4q,F4q,F4q,F4q,F4q,F4q,F4q,F4q,F4q,F4q,F4q,F4q,F4q,F4q] rfl rfl (any_of HT_.out (by kernel_rfl)) (fun _ _ _ h => h) (Or.inl ⟨by rfl, ?_⟩) ?_ ?_
         rotate_left
         ·intro w'
          go_simp
          with_reducible rfl
         rotate_left
         ·simp only [Act.put, List.setIfInBounds_toArray, List.set_cons_zero, List.set_cons_succ, i64_w, i32_w]
          rfl
         refine pure_ (i := 6) (N := some 23) (v := ?_) (a' := ?_) #[T4q,T4q,T4q,T4q,F4q,T4q,T4q,F4q,F4q,F4q,F4q,F4q,F4q,F4q,F4q,F4q,F4q,F4q,F4q,F4q,F4q,F4q,F4q,F4q,F4q,F4q,F4q,F4q,F4q,F4q,F4q,F4q,F4q,F4q,F4q,F4q,F4q,F4q,F4q,F4q,F4q,F4q,F4q,F4q,F4q,F4q,F4q,F4q,F4q,F4q,F4q] rfl rfl (any_of HT_.out (by kernel_rfl)) (fun _ _ _ h => h) (Or.inl ⟨by rfl, ?_⟩) ?_ ?_
         rotate_left
         ·intro w'
          go_simp
          with_reducible rfl
         rotate_left
         ·simp only [Act.put, List.setIfInBounds_toArray, List.set_cons_zero, List.set_cons_succ, i64_w, i32_w]
          rfl
         refine pure_ (i := 7) (N := some 24) (v := ?_) (a' := ?_) #[T4q,T4q,T4q,T4q,F4q,T4q,T4q,T4q,F4q,F4q,F4q,F4q,F4q,F4q,F4q,F4q,F4q,F4q,F4q,F4q,F4q,F4q,F4q,F4q,F4q,F4q,F4q,F4q,F4q,F4q,F4q,F4q,F4q,F4q,F4q,F4q,F4q,F4q,F4q,F4q,F4q,F4q,F4q,F4q,F4q,F4q,F4q,F4q,F4q,F4q,F4q] rfl rfl (any_of HT_.out (by kernel_rfl)) (fun _ _ _ h => h) (Or.inl ⟨by rfl, ?_⟩) ?_ ?_
         rotate_left
         ·intro w'
          go_simp
          with_reducible rfl
         rotate_left
         ·simp only [Act.put, List.setIfInBounds_toArray, List.set_cons_zero, List.set_cons_succ, i64_w, i32_w]
          rfl
         refine pure_ (i := 8) (N := some 25) (v := ?_) (a' := ?_) #[T4q,T4q,T4q,T4q,F4q,T4q,T4q,T4q,T4q,F4q,F4q,F4q,F4q,F4q,F4q,F4q,F4q,F4q,F4q,F4q,F4q,F4q,F4q,F4q,F4q,F4q,F4q,F4q,F4q,F4q,F4q,F4q,F4q,F4q,F4q,F4q,F4q,F4q,F4q,F4q,F4q,F4q,F4q,F4q,F4q,F4q,F4q,F4q,F4q,F4q,F4q] rfl rfl (any_of HT_.out (by kernel_rfl)) (fun _ _ _ h => h) (Or.inl ⟨by rfl, ?_⟩) ?_ ?_
         rotate_left
         ·intro w'
          go_simp
          with_reducible rfl
         rotate_left
         ·simp only [Act.put, List.setIfInBounds_toArray, List.set_cons_zero, List.set_cons_succ, i64_w, i32_w]
          rfl
         refine take_ (i := 4) (N := some 21) (v := ?_) (a' := ?_) #[T4q,T4q,T4q,T4q,T4q,T4q,T4q,T4q,T4q,F4q,F4q,F4q,F4q,F4q,F4q,F4q,F4q,F4q,F4q,F4q,F4q,F4q,F4q,F4q,F4q,F4q,F4q,F4q,F4q,F4q,F4q,F4q,F4q,F4q,F4q,F4q,F4q,F4q,F4q,F4q,F4q,F4q,F4q,F4q,F4q,F4q,F4q,F4q,F4q,F4q,F4q] rfl rfl (take_ofW HT_.out HW_.out (by kernel_rfl)) (fun _ _ _ h => h) (Or.inl ⟨by rfl, ?_⟩) hHeld ?_ ?_
         rotate_left
         ·rintro w' ⟨s0, s1, s2, s3, s4, s5, s6, s7, s8, s9, s10, s11, s12, s13, s14, s15⟩
          go_simp
          with_reducible rfl
         rotate_left
         ·simp only [Act.put, List.setIfInBounds_toArray, List.set_cons_zero, List.set_cons_succ, i64_w, i32_w]
          rfl
         refine take_ (i := 9) (N := some 26) (v := ?_) (a' := ?_) #[T4q,T4q,T4q,T4q,T4q,T4q,T4q,T4q,T4q,T4q,F4q,F4q,F4q,F4q,F4q,F4q,F4q,F4q,F4q,F4q,F4q,F4q,F4q,F4q,F4q,F4q,F4q,F4q,F4q,F4q,F4q,F4q,F4q,F4q,F4q,F4q,F4q,F4q,F4q,F4q,F4q,F4q,F4q,F4q,F4q,F4q,F4q,F4q,F4q,F4q,F4q] rfl rfl (take_ofW HT_.out HW_.out (by kernel_rfl)) (fun _ _ _ h => h) (Or.inl ⟨by rfl, ?_⟩) hHeld ?_ ?_
         rotate_left
         ·rintro w' ⟨s0, s1, s2, s3, s4, s5, s6, s7, s8, s9, s10, s11, s12, s13, s14, s15⟩
          go_simp
          with_reducible rfl
         rotate_left
         ·simp only [Act.put, List.setIfInBounds_toArray, List.set_cons_zero, List.set_cons_succ, i64_w, i32_w]
          rfl
         refine pure_ (i := 10) (N := some 27) (v := ?_) (a' := ?_) #[T4q,T4q,T4q,T4q,T4q,T4q,T4q,T4q,T4q,T4q,T4q,F4q,F4q,F4q,F4q,F4q,F4q,F4q,F4q,F4q,F4q,F4q,F4q,F4q,F4q,F4q,F4q,F4q,F4q,F4q,F4q,F4q,F4q,F4q,F4q,F4q,F4q,F4q,F4q,F4q,F4q,F4q,F4q,F4q,F4q,F4q,F4q,F4q,F4q,F4q,F4q] rfl rfl (any_of HT_.out (by kernel_rfl)) (fun _ _ _ h => h) (Or.inl ⟨by rfl, ?_⟩) ?_ ?_
         rotate_left
         ·intro w'
          go_simp
          with_reducible rfl
         rotate_left
         ·simp only [Act.put, List.setIfInBounds_toArray, List.set_cons_zero, List.set_cons_succ, i64_w, i32_w]
          rfl
         refine pure_ (i := 11) (N := some 28) (v := ?_) (a' := ?_) #[T4q,T4q,T4q,T4q,T4q,T4q,T4q,T4q,T4q,T4q,T4q,T4q,F4q,F4q,F4q,F4q,F4q,F4q,F4q,F4q,F4q,F4q,F4q,F4q,F4q,F4q,F4q,F4q,F4q,F4q,F4q,F4q,F4q,F4q,F4q,F4q,F4q,F4q,F4q,F4q,F4q,F4q,F4q,F4q,F4q,F4q,F4q,F4q,F4q,F4q,F4q] rfl rfl (any_of HT_.out (by kernel_rfl)) (fun _ _ _ h => h) (Or.inl ⟨by rfl, ?_⟩) ?_ ?_
         rotate_left
         ·intro w'
          go_simp
          with_reducible rfl
         rotate_left
         ·simp only [Act.put, List.setIfInBounds_toArray, List.set_cons_zero, List.set_cons_succ, i64_w, i32_w]
          rfl
         refine pure_ (i := 12) (N := some 29) (v := ?_) (a' := ?_) #[T4q,T4q,T4q,T4q,T4q,T4q,T4q,T4q,T4q,T4q,T4q,T4q,T4q,F4q,F4q,F4q,F4q,F4q,F4q,F4q,F4q,F4q,F4q,F4q,F4q,F4q,F4q,F4q,F4q,F4q,F4q,F4q,F4q,F4q,F4q,F4q,F4q,F4q,F4q,F4q,F4q,F4q,F4q,F4q,F4q,F4q,F4q,F4q,F4q,F4q,F4q] rfl rfl (any_of HT_.out (by kernel_rfl)) (fun _ _ _ h => h) (Or.inl ⟨by rfl, ?_⟩) ?_ ?_
         rotate_left
         ·intro w'
          go_simp
          with_reducible rfl
         rotate_left
         ·simp only [Act.put, List.setIfInBounds_toArray, List.set_cons_zero, List.set_cons_succ, i64_w, i32_w]
          rfl
         refine pure_ (i := 13) (N := some 30) (v := ?_) (a' := ?_) #[T4q,T4q,T4q,T4q,T4q,T4q,T4q,T4q,T4q,T4q,T4q,T4q,T4q,T4q,F4q,F4q,F4q,F4q,F4q,F4q,F4q,F4q,F4q,F4q,F4q,F4q,F4q,F4q,F4q,F4q,F4q,F4q,F4q,F4q,F4q,F4q,F4q,F4q,F4q,F4q,F4q,F4q,F4q,F4q,F4q,F4q,F4q,F4q,F4q,F4q,F4q] rfl rfl (any_of HT_.out (by kernel_rfl)) (fun _ _ _ h => h) (Or.inl ⟨by rfl, ?_⟩) ?_ ?_
         rotate_left
         ·intro w'
          go_simp
          with_reducible rfl
         rotate_left
         ·simp only [Act.put, List.setIfInBounds_toArray, List.set_cons_zero, List.set_cons_succ, i64_w, i32_w]
          rfl
         refine pure_ (i := 14) (N := some 31) (v := ?_) (a' := ?_) #[T4q,T4q,T4q,T4q,T4q,T4q,T4q,T4q,T4q,T4q,T4q,T4q,T4q,T4q,T4q,F4q,F4q,F4q,F4q,F4q,F4q,F4q,F4q,F4q,F4q,F4q,F4q,F4q,F4q,F4q,F4q,F4q,F4q,F4q,F4q,F4q,F4q,F4q,F4q,F4q,F4q,F4q,F4q,F4q,F4q,F4q,F4q,F4q,F4q,F4q,F4q] rfl rfl (any_of HT_.out (by kernel_rfl)) (fun _ _ _ h => h) (Or.inl ⟨by rfl, ?_⟩) ?_ ?_
         rotate_left
         ·intro w'
          go_simp
          with_reducible rfl
         rotate_left
         ·simp only [Act.put, List.setIfInBounds_toArray, List.set_cons_zero, List.set_cons_succ, i64_w, i32_w]
          rfl
         refine pure_ (i := 15) (N := some 32) (v := ?_) (a' := ?_) #[T4q,T4q,T4q,T4q,T4q,T4q,T4q,T4q,T4q,T4q,T4q,T4q,T4q,T4q,T4q,T4q,F4q,F4q,F4q,F4q,F4q,F4q,F4q,F4q,F4q,F4q,F4q,F4q,F4q,F4q,F4q,F4q,F4q,F4q,F4q,F4q,F4q,F4q,F4q,F4q,F4q,F4q,F4q,F4q,F4q,F4q,F4q,F4q,F4q,F4q,F4q] rfl rfl (any_of HT_.out (by kernel_rfl)) (fun _ _ _ h => h) (Or.inl ⟨by rfl, ?_⟩) ?_ ?_
         rotate_left
         ·intro w'
          go_simp
          with_reducible rfl
         rotate_left
         ·simp only [Act.put, List.setIfInBounds_toArray, List.set_cons_zero, List.set_cons_succ, i64_w, i32_w]
          rfl
         refine pure_ (i := 17) (N := some 34) (v := ?_) (a' := ?_) #[T4q,T4q,T4q,T4q,T4q,T4q,T4q,T4q,T4q,T4q,T4q,T4q,T4q,T4q,T4q,T4q,F4q,T4q,F4q,F4q,F4q,F4q,F4q,F4q,F4q,F4q,F4q,F4q,F4q,F4q,F4q,F4q,F4q,F4q,F4q,F4q,F4q,F4q,F4q,F4q,F4q,F4q,F4q,F4q,F4q,F4q,F4q,F4q,F4q,F4q,F4q] rfl rfl (any_of HT_.out (by kernel_rfl)) (fun _ _ _ h => h) (Or.inl ⟨by rfl, ?_⟩) ?_ ?_
         rotate_left
         ·intro w'
          go_simp
          with_reducible rfl
         rotate_left
         ·simp only [Act.put, List.setIfInBounds_toArray, List.set_cons_zero, List.set_cons_succ, i64_w, i32_w]
          rfl
         refine pure_ (i := 18) (N := some 35) (v := ?_) (a' := ?_) #[T4q,T4q,T4q,T4q,T4q,T4q,T4q,T4q,T4q,T4q,T4q,T4q,T4q,T4q,T4q,T4q,F4q,T4q,T4q,F4q,F4q,F4q,F4q,F4q,F4q,F4q,F4q,F4q,F4q,F4q,F4q,F4q,F4q,F4q,F4q,F4q,F4q,F4q,F4q,F4q,F4q,F4q,F4q,F4q,F4q,F4q,F4q,F4q,F4q,F4q,F4q] rfl rfl (any_of HT_.out (by kernel_rfl)) (fun _ _ _ h => h) (Or.inl ⟨by rfl, ?_⟩) ?_ ?_
         rotate_left
         ·intro w'
          go_simp
          with_reducible rfl
         rotate_left
         ·simp only [Act.put, List.setIfInBounds_toArray, List.set_cons_zero, List.set_cons_succ, i64_w, i32_w]
          rfl
         refine pure_ (i := 19) (N := some 36) (v := ?_) (a' := ?_) #[T4q,T4q,T4q,T4q,T4q,T4q,T4q,T4q,T4q,T4q,T4q,T4q,T4q,T4q,T4q,T4q,F4q,T4q,T4q,T4q,F4q,F4q,F4q,F4q,F4q,F4q,F4q,F4q,F4q,F4q,F4q,F4q,F4q,F4q,F4q,F4q,F4q,F4q,F4q,F4q,F4q,F4q,F4q,F4q,F4q,F4q,F4q,F4q,F4q,F4q,F4q] rfl rfl (any_of HT_.out (by kernel_rfl)) (fun _ _ _ h => h) (Or.inl ⟨by rfl, ?_⟩) ?_ ?_
         rotate_left
         ·intro w'
          go_simp
          with_reducible rfl
         rotate_left
         ·simp only [Act.put, List.setIfInBounds_toArray, List.set_cons_zero, List.set_cons_succ, i64_w, i32_w]
          rfl
         refine pure_ (i := 20) (N := some 37) (v := ?_) (a' := ?_) #[T4q,T4q,T4q,T4q,T4q,T4q,T4q,T4q,T4q,T4q,T4q,T4q,T4q,T4q,T4q,T4q,F4q,T4q,T4q,T4q,T4q,F4q,F4q,F4q,F4q,F4q,F4q,F4q,F4q,F4q,F4q,F4q,F4q,F4q,F4q,F4q,F4q,F4q,F4q,F4q,F4q,F4q,F4q,F4q,F4q,F4q,F4q,F4q,F4q,F4q,F4q] rfl rfl (any_of HT_.out (by kernel_rfl)) (fun _ _ _ h => h) (Or.inl ⟨by rfl, ?_⟩) ?_ ?_
         rotate_left
         ·intro w'
          go_simp
          with_reducible rfl
         rotate_left
         ·simp only [Act.put, List.setIfInBounds_toArray, List.set_cons_zero, List.set_cons_succ, i64_w, i32_w]
          rfl
         refine take_ (i := 16) (N := some 33) (v := ?_) (a' := ?_) #[T4q,T4q,T4q,T4q,T4q,T4q,T4q,T4q,T4q,T4q,T4q,T4q,T4q,T4q,T4q,T4q,T4q,T4q,T4q,T4q,T4q,F4q,F4q,F4q,F4q,F4q,F4q,F4q,F4q,F4q,F4q,F4q,F4q,F4q,F4q,F4q,F4q,F4q,F4q,F4q,F4q,F4q,F4q,F4q,F4q,F4q,F4q,F4q,F4q,F4q,F4q] rfl rfl (take_ofW HT_.out HW_.out (by kernel_rfl)) (fun _ _ _ h => h) (Or.inl ⟨by rfl, ?_⟩) hHeld ?_ ?_
         rotate_left
         ·rintro w' ⟨s0, s1, s2, s3, s4, s5, s6, s7, s8, s9, s10, s11, s12, s13, s14, s15⟩
          go_simp
          with_reducible rfl
         rotate_left
         ·simp only [Act.put, List.setIfInBounds_toArray, List.set_cons_zero, List.set_cons_succ, i64_w, i32_w]
          rfl
         refine take_ (i := 21) (N := some 38) (v := ?_) (a' := ?_) #[T4q,T4q,T4q,T4q,T4q,T4q,T4q,T4q,T4q,T4q,T4q,T4q,T4q,T4q,T4q,T4q,T4q,T4q,T4q,T4q,T4q,T4q,F4q,F4q,F4q,F4q,F4q,F4q,F4q,F4q,F4q,F4q,F4q,F4q,F4q,F4q,F4q,F4q,F4q,F4q,F4q,F4q,F4q,F4q,F4q,F4q,F4q,F4q,F4q,F4q,F4q] rfl rfl (take_ofW HT_.out HW_.out (by kernel_rfl)) (fun _ _ _ h => h) (Or.inl ⟨by rfl, ?_⟩) hHeld ?_ ?_
         rotate_left
         ·rintro w' ⟨s0, s1, s2, s3, s4, s5, s6, s7, s8, s9, s10, s11, s12, s13, s14, s15⟩
          go_simp
          with_reducible rfl
         rotate_left
         ·simp only [Act.put, List.setIfInBounds_toArray, List.set_cons_zero, List.set_cons_succ, i64_w, i32_w]
          rfl
         refine pure_ (i := 22) (N := some 39) (v := ?_) (a' := ?_) #[T4q,T4q,T4q,T4q,T4q,T4q,T4q,T4q,T4q,T4q,T4q,T4q,T4q,T4q,T4q,T4q,T4q,T4q,T4q,T4q,T4q,T4q,T4q,F4q,F4q,F4q,F4q,F4q,F4q,F4q,F4q,F4q,F4q,F4q,F4q,F4q,F4q,F4q,F4q,F4q,F4q,F4q,F4q,F4q,F4q,F4q,F4q,F4q,F4q,F4q,F4q] rfl rfl (any_of HT_.out (by kernel_rfl)) (fun _ _ _ h => h) (Or.inl ⟨by rfl, ?_⟩) ?_ ?_
         rotate_left
         ·intro w'
          go_simp
          with_reducible rfl
         rotate_left
         ·simp only [Act.put, List.setIfInBounds_toArray, List.set_cons_zero, List.set_cons_succ, i64_w, i32_w]
          rfl
         refine pure_ (i := 23) (N := some 40) (v := ?_) (a' := ?_) #[T4q,T4q,T4q,T4q,T4q,T4q,T4q,T4q,T4q,T4q,T4q,T4q,T4q,T4q,T4q,T4q,T4q,T4q,T4q,T4q,T4q,T4q,T4q,T4q,F4q,F4q,F4q,F4q,F4q,F4q,F4q,F4q,F4q,F4q,F4q,F4q,F4q,F4q,F4q,F4q,F4q,F4q,F4q,F4q,F4q,F4q,F4q,F4q,F4q,F4q,F4q] rfl rfl (any_of HT_.out (by kernel_rfl)) (fun _ _ _ h => h) (Or.inl ⟨by rfl, ?_⟩) ?_ ?_
         rotate_left
         ·intro w'
          go_simp
          with_reducible rfl
         rotate_left
         ·simp only [Act.put, List.setIfInBounds_toArray, List.set_cons_zero, List.set_cons_succ, i64_w, i32_w]
          rfl
         refine pure_ (i := 24) (N := some 41) (v := ?_) (a' := ?_) #[T4q,T4q,T4q,T4q,T4q,T4q,T4q,T4q,T4q,T4q,T4q,T4q,T4q,T4q,T4q,T4q,T4q,T4q,T4q,T4q,T4q,T4q,T4q,T4q,T4q,F4q,F4q,F4q,F4q,F4q,F4q,F4q,F4q,F4q,F4q,F4q,F4q,F4q,F4q,F4q,F4q,F4q,F4q,F4q,F4q,F4q,F4q,F4q,F4q,F4q,F4q] rfl rfl (any_of HT_.out (by kernel_rfl)) (fun _ _ _ h => h) (Or.inl ⟨by rfl, ?_⟩) ?_ ?_
         rotate_left
         ·intro w'
          go_simp
          with_reducible rfl
         rotate_left
         ·simp only [Act.put, List.setIfInBounds_toArray, List.set_cons_zero, List.set_cons_succ, i64_w, i32_w]
          rfl
         refine pure_ (i := 25) (N := some 42) (v := undef) (a' := ?_) #[T4q,T4q,T4q,T4q,T4q,T4q,T4q,T4q,T4q,T4q,T4q,T4q,T4q,T4q,T4q,T4q,T4q,T4q,T4q,T4q,T4q,T4q,T4q,T4q,T4q,T4q,F4q,F4q,F4q,F4q,F4q,F4q,F4q,F4q,F4q,F4q,F4q,F4q,F4q,F4q,F4q,F4q,F4q,F4q,F4q,F4q,F4q,F4q,F4q,F4q,F4q] rfl rfl (any_of HT_.out (by kernel_rfl)) (fun _ _ _ h => h) (Or.inr ⟨by rfl, rfl⟩) ?_ ?_
         rotate_left
         ·simp only [Act.put, List.setIfInBounds_toArray, List.set_cons_zero, List.set_cons_succ, i64_w, i32_w]
          rfl
         refine pure_ (i := 26) (N := some 43) (v := undef) (a' := ?_) #[T4q,T4q,T4q,T4q,T4q,T4q,T4q,T4q,T4q,T4q,T4q,T4q,T4q,T4q,T4q,T4q,T4q,T4q,T4q,T4q,T4q,T4q,T4q,T4q,T4q,T4q,T4q,F4q,F4q,F4q,F4q,F4q,F4q,F4q,F4q,F4q,F4q,F4q,F4q,F4q,F4q,F4q,F4q,F4q,F4q,F4q,F4q,F4q,F4q,F4q,F4q] rfl rfl (any_of HT_.out (by kernel_rfl)) (fun _ _ _ h => h) (Or.inr ⟨by rfl, rfl⟩) ?_ ?_
         rotate_left
         ·simp only [Act.put, List.setIfInBounds_toArray, List.set_cons_zero, List.set_cons_succ, i64_w, i32_w]
          rfl
         refine pure_ (i := 27) (N := some 44) (v := undef) (a' := ?_) #[T4q,T4q,T4q,T4q,T4q,T4q,T4q,T4q,T4q,T4q,T4q,T4q,T4q,T4q,T4q,T4q,T4q,T4q,T4q,T4q,T4q,T4q,T4q,T4q,T4q,T4q,T4q,T4q,F4q,F4q,F4q,F4q,F4q,F4q,F4q,F4q,F4q,F4q,F4q,F4q,F4q,F4q,F4q,F4q,F4q,F4q,F4q,F4q,F4q,F4q,F4q] rfl rfl (any_of HT_.out (by kernel_rfl)) (fun _ _ _ h => h) (Or.inr ⟨by rfl, rfl⟩) ?_ ?_
         rotate_left
         ·simp only [Act.put, List.setIfInBounds_toArray, List.set_cons_zero, List.set_cons_succ, i64_w, i32_w]
          rfl
         refine pure_ (i := 28) (N := some 45) (v := undef) (a' := ?_) #[T4q,T4q,T4q,T4q,T4q,T4q,T4q,T4q,T4q,T4q,T4q,T4q,T4q,T4q,T4q,T4q,T4q,T4q,T4q,T4q,T4q,T4q,T4q,T4q,T4q,T4q,T4q,T4q,T4q,F4q,F4q,F4q,F4q,F4q,F4q,F4q,F4q,F4q,F4q,F4q,F4q,F4q,F4q,F4q,F4q,F4q,F4q,F4q,F4q,F4q,F4q] rfl rfl (any_of HT_.out (by kernel_rfl)) (fun _ _ _ h => h) (Or.inr ⟨by rfl, rfl⟩) ?_ ?_
         rotate_left
         ·simp only [Act.put, List.setIfInBounds_toArray, List.set_cons_zero, List.set_cons_succ, i64_w, i32_w]
          rfl
         refine pure_ (i := 29) (N := some 46) (v := undef) (a' := ?_) #[T4q,T4q,T4q,T4q,T4q,T4q,T4q,T4q,T4q,T4q,T4q,T4q,T4q,T4q,T4q,T4q,T4q,T4q,T4q,T4q,T4q,T4q,T4q,T4q,T4q,T4q,T4q,T4q,T4q,T4q,F4q,F4q,F4q,F4q,F4q,F4q,F4q,F4q,F4q,F4q,F4q,F4q,F4q,F4q,F4q,F4q,F4q,F4q,F4q,F4q,F4q] rfl rfl (any_of HT_.out (by kernel_rfl)) (fun _ _ _ h => h) (Or.inr ⟨by rfl, rfl⟩) ?_ ?_
         rotate_left
         ·simp only [Act.put, List.setIfInBounds_toArray, List.set_cons_zero, List.set_cons_succ, i64_w, i32_w]
          rfl
         refine pure_ (i := 30) (N := some 47) (v := undef) (a' := ?_) #[T4q,T4q,T4q,T4q,T4q,T4q,T4q,T4q,T4q,T4q,T4q,T4q,T4q,T4q,T4q,T4q,T4q,T4q,T4q,T4q,T4q,T4q,T4q,T4q,T4q,T4q,T4q,T4q,T4q,T4q,T4q,F4q,F4q,F4q,F4q,F4q,F4q,F4q,F4q,F4q,F4q,F4q,F4q,F4q,F4q,F4q,F4q,F4q,F4q,F4q,F4q] rfl rfl (any_of HT_.out (by kernel_rfl)) (fun _ _ _ h => h) (Or.inr ⟨by rfl, rfl⟩) ?_ ?_
         rotate_left
         ·simp only [Act.put, List.setIfInBounds_toArray, List.set_cons_zero, List.set_cons_succ, i64_w, i32_w]
          rfl
         refine pure_ (i := 31) (N := some 48) (v := undef) (a' := ?_) #[T4q,T4q,T4q,T4q,T4q,T4q,T4q,T4q,T4q,T4q,T4q,T4q,T4q,T4q,T4q,T4q,T4q,T4q,T4q,T4q,T4q,T4q,T4q,T4q,T4q,T4q,T4q,T4q,T4q,T4q,T4q,T4q,F4q,F4q,F4q,F4q,F4q,F4q,F4q,F4q,F4q,F4q,F4q,F4q,F4q,F4q,F4q,F4q,F4q,F4q,F4q] rfl rfl (any_of HT_.out (by kernel_rfl)) (fun _ _ _ h => h) (Or.inr ⟨by rfl, rfl⟩) ?_ ?_
         rotate_left
         ·simp only [Act.put, List.setIfInBounds_toArray, List.set_cons_zero, List.set_cons_succ, i64_w, i32_w]
          rfl
         refine pure_ (i := 32) (N := some 49) (v := undef) (a' := ?_) #[T4q,T4q,T4q,T4q,T4q,T4q,T4q,T4q,T4q,T4q,T4q,T4q,T4q,T4q,T4q,T4q,T4q,T4q,T4q,T4q,T4q,T4q,T4q,T4q,T4q,T4q,T4q,T4q,T4q,T4q,T4q,T4q,T4q,F4q,F4q,F4q,F4q,F4q,F4q,F4q,F4q,F4q,F4q,F4q,F4q,F4q,F4q,F4q,F4q,F4q,F4q] rfl rfl (any_of HT_.out (by kernel_rfl)) (fun _ _ _ h => h) (Or.inr ⟨by rfl, rfl⟩) ?_ ?_
         rotate_left
         ·simp only [Act.put, List.setIfInBounds_toArray, List.set_cons_zero, List.set_cons_succ, i64_w, i32_w]
          rfl
         refine pure_ (i := 33) (N := some 50) (v := undef) (a' := ?_) #[T4q,T4q,T4q,T4q,T4q,T4q,T4q,T4q,T4q,T4q,T4q,T4q,T4q,T4q,T4q,T4q,T4q,T4q,T4q,T4q,T4q,T4q,T4q,T4q,T4q,T4q,T4q,T4q,T4q,T4q,T4q,T4q,T4q,T4q,F4q,F4q,F4q,F4q,F4q,F4q,F4q,F4q,F4q,F4q,F4q,F4q,F4q,F4q,F4q,F4q,F4q] rfl rfl (any_of HT_.out (by kernel_rfl)) (fun _ _ _ h => h) (Or.inr ⟨by rfl, rfl⟩) ?_ ?_
         rotate_left
         ·simp only [Act.put, List.setIfInBounds_toArray, List.set_cons_zero, List.set_cons_succ, i64_w, i32_w]
          rfl
         refine pure_ (i := 34) (N := some 51) (v := undef) (a' := ?_) #[T4q,T4q,T4q,T4q,T4q,T4q,T4q,T4q,T4q,T4q,T4q,T4q,T4q,T4q,T4q,T4q,T4q,T4q,T4q,T4q,T4q,T4q,T4q,T4q,T4q,T4q,T4q,T4q,T4q,T4q,T4q,T4q,T4q,T4q,T4q,F4q,F4q,F4q,F4q,F4q,F4q,F4q,F4q,F4q,F4q,F4q,F4q,F4q,F4q,F4q,F4q] rfl rfl (any_of HT_.out (by kernel_rfl)) (fun _ _ _ h => h) (Or.inr ⟨by rfl, rfl⟩) ?_ ?_
         rotate_left
         ·simp only [Act.put, List.setIfInBounds_toArray, List.set_cons_zero, List.set_cons_succ, i64_w, i32_w]
          rfl
         refine pure_ (i := 35) (N := some 52) (v := undef) (a' := ?_) #[T4q,T4q,T4q,T4q,T4q,T4q,T4q,T4q,T4q,T4q,T4q,T4q,T4q,T4q,T4q,T4q,T4q,T4q,T4q,T4q,T4q,T4q,T4q,T4q,T4q,T4q,T4q,T4q,T4q,T4q,T4q,T4q,T4q,T4q,T4q,T4q,F4q,F4q,F4q,F4q,F4q,F4q,F4q,F4q,F4q,F4q,F4q,F4q,F4q,F4q,F4q] rfl rfl (any_of HT_.out (by kernel_rfl)) (fun _ _ _ h => h) (Or.inr ⟨by rfl, rfl⟩) ?_ ?_
         rotate_left
         ·simp only [Act.put, List.setIfInBounds_toArray, List.set_cons_zero, List.set_cons_succ, i64_w, i32_w]
          rfl
         refine pure_ (i := 36) (N := some 53) (v := ?_) (a' := ?_) #[T4q,T4q,T4q,T4q,T4q,T4q,T4q,T4q,T4q,T4q,T4q,T4q,T4q,T4q,T4q,T4q,T4q,T4q,T4q,T4q,T4q,T4q,T4q,T4q,T4q,T4q,T4q,T4q,T4q,T4q,T4q,T4q,T4q,T4q,T4q,T4q,T4q,F4q,F4q,F4q,F4q,F4q,F4q,F4q,F4q,F4q,F4q,F4q,F4q,F4q,F4q] rfl rfl (any_of HT_.out (by kernel_rfl)) (fun _ _ _ h => h) (Or.inl ⟨by rfl, ?_⟩) ?_ ?_
         rotate_left
         ·intro w'
          go_simp
          with_reducible rfl
         rotate_left
         ·simp only [Act.put, List.setIfInBounds_toArray, List.set_cons_zero, List.set_cons_succ, i64_w, i32_w]
          rfl
         refine pure_ (i := 37) (N := some 54) (v := ?_) (a' := ?_) #[T4q,T4q,T4q,T4q,T4q,T4q,T4q,T4q,T4q,T4q,T4q,T4q,T4q,T4q,T4q,T4q,T4q,T4q,T4q,T4q,T4q,T4q,T4q,T4q,T4q,T4q,T4q,T4q,T4q,T4q,T4q,T4q,T4q,T4q,T4q,T4q,T4q,T4q,F4q,F4q,F4q,F4q,F4q,F4q,F4q,F4q,F4q,F4q,F4q,F4q,F4q] rfl rfl (any_of HT_.out (by kernel_rfl)) (fun _ _ _ h => h) (Or.inl ⟨by rfl, ?_⟩) ?_ ?_
         rotate_left
         ·intro w'
          go_simp
          with_reducible rfl
         rotate_left
         ·simp only [Act.put, List.setIfInBounds_toArray, List.set_cons_zero, List.set_cons_succ, i64_w, i32_w]
          rfl
         refine pure_ (i := 38) (N := some 55) (v := undef) (a' := ?_) #[T4q,T4q,T4q,T4q,T4q,T4q,T4q,T4q,T4q,T4q,T4q,T4q,T4q,T4q,T4q,T4q,T4q,T4q,T4q,T4q,T4q,T4q,T4q,T4q,T4q,T4q,T4q,T4q,T4q,T4q,T4q,T4q,T4q,T4q,T4q,T4q,T4q,T4q,T4q,F4q,F4q,F4q,F4q,F4q,F4q,F4q,F4q,F4q,F4q,F4q,F4q] rfl rfl (any_of HT_.out (by kernel_rfl)) (fun _ _ _ h => h) (Or.inr ⟨by rfl, rfl⟩) ?_ ?_
         rotate_left
         ·simp only [Act.put, List.setIfInBounds_toArray, List.set_cons_zero, List.set_cons_succ, i64_w, i32_w]
          rfl
         refine pure_ (i := 39) (N := some 56) (v := undef) (a' := ?_) #[T4q,T4q,T4q,T4q,T4q,T4q,T4q,T4q,T4q,T4q,T4q,T4q,T4q,T4q,T4q,T4q,T4q,T4q,T4q,T4q,T4q,T4q,T4q,T4q,T4q,T4q,T4q,T4q,T4q,T4q,T4q,T4q,T4q,T4q,T4q,T4q,T4q,T4q,T4q,T4q,F4q,F4q,F4q,F4q,F4q,F4q,F4q,F4q,F4q,F4q,F4q] rfl rfl (any_of HT_.out (by kernel_rfl)) (fun _ _ _ h => h) (Or.inr ⟨by rfl, rfl⟩) ?_ ?_
         rotate_left
         ·simp only [Act.put, List.setIfInBounds_toArray, List.set_cons_zero, List.set_cons_succ, i64_w, i32_w]
          rfl
         refine pure_ (i := 40) (N := some 57) (v := undef) (a' := ?_) #[T4q,T4q,T4q,T4q,T4q,T4q,T4q,T4q,T4q,T4q,T4q,T4q,T4q,T4q,T4q,T4q,T4q,T4q,T4q,T4q,T4q,T4q,T4q,T4q,T4q,T4q,T4q,T4q,T4q,T4q,T4q,T4q,T4q,T4q,T4q,T4q,T4q,T4q,T4q,T4q,T4q,F4q,F4q,F4q,F4q,F4q,F4q,F4q,F4q,F4q,F4q] rfl rfl (any_of HT_.out (by kernel_rfl)) (fun _ _ _ h => h) (Or.inr ⟨by rfl, rfl⟩) ?_ ?_
         rotate_left
         ·simp only [Act.put, List.setIfInBounds_toArray, List.set_cons_zero, List.set_cons_succ, i64_w, i32_w]
          rfl
         refine pure_ (i := 41) (N := some 58) (v := undef) (a' := ?_) #[T4q,T4q,T4q,T4q,T4q,T4q,T4q,T4q,T4q,T4q,T4q,T4q,T4q,T4q,T4q,T4q,T4q,T4q,T4q,T4q,T4q,T4q,T4q,T4q,T4q,T4q,T4q,T4q,T4q,T4q,T4q,T4q,T4q,T4q,T4q,T4q,T4q,T4q,T4q,T4q,T4q,T4q,F4q,F4q,F4q,F4q,F4q,F4q,F4q,F4q,F4q] rfl rfl (any_of HT_.out (by kernel_rfl)) (fun _ _ _ h => h) (Or.inr ⟨by rfl, rfl⟩) ?_ ?_
         rotate_left
         ·simp only [Act.put, List.setIfInBounds_toArray, List.set_cons_zero, List.set_cons_succ, i64_w, i32_w]
          rfl
         refine pure_ (i := 42) (N := some 59) (v := undef) (a' := ?_) #[T4q,T4q,T4q,T4q,T4q,T4q,T4q,T4q,T4q,T4q,T4q,T4q,T4q,T4q,T4q,T4q,T4q,T4q,T4q,T4q,T4q,T4q,T4q,T4q,T4q,T4q,T4q,T4q,T4q,T4q,T4q,T4q,T4q,T4q,T4q,T4q,T4q,T4q,T4q,T4q,T4q,T4q,T4q,F4q,F4q,F4q,F4q,F4q,F4q,F4q,F4q] rfl rfl (any_of HT_.out (by kernel_rfl)) (fun _ _ _ h => h) (Or.inr ⟨by rfl, rfl⟩) ?_ ?_
         rotate_left
         ·simp only [Act.put, List.setIfInBounds_toArray, List.set_cons_zero, List.set_cons_succ, i64_w, i32_w]
          rfl
         refine pure_ (i := 43) (N := some 60) (v := undef) (a' := ?_) #[T4q,T4q,T4q,T4q,T4q,T4q,T4q,T4q,T4q,T4q,T4q,T4q,T4q,T4q,T4q,T4q,T4q,T4q,T4q,T4q,T4q,T4q,T4q,T4q,T4q,T4q,T4q,T4q,T4q,T4q,T4q,T4q,T4q,T4q,T4q,T4q,T4q,T4q,T4q,T4q,T4q,T4q,T4q,T4q,F4q,F4q,F4q,F4q,F4q,F4q,F4q] rfl rfl (any_of HT_.out (by kernel_rfl)) (fun _ _ _ h => h) (Or.inr ⟨by rfl, rfl⟩) ?_ ?_
         rotate_left
         ·simp only [Act.put, List.setIfInBounds_toArray, List.set_cons_zero, List.set_cons_succ, i64_w, i32_w]
          rfl
         refine pure_ (i := 44) (N := some 61) (v := undef) (a' := ?_) #[T4q,T4q,T4q,T4q,T4q,T4q,T4q,T4q,T4q,T4q,T4q,T4q,T4q,T4q,T4q,T4q,T4q,T4q,T4q,T4q,T4q,T4q,T4q,T4q,T4q,T4q,T4q,T4q,T4q,T4q,T4q,T4q,T4q,T4q,T4q,T4q,T4q,T4q,T4q,T4q,T4q,T4q,T4q,T4q,T4q,F4q,F4q,F4q,F4q,F4q,F4q] rfl rfl (any_of HT_.out (by kernel_rfl)) (fun _ _ _ h => h) (Or.inr ⟨by rfl, rfl⟩) ?_ ?_
         rotate_left
         ·simp only [Act.put, List.setIfInBounds_toArray, List.set_cons_zero, List.set_cons_succ, i64_w, i32_w]
          rfl
         refine pure_ (i := 45) (N := some 62) (v := undef) (a' := ?_) #[T4q,T4q,T4q,T4q,T4q,T4q,T4q,T4q,T4q,T4q,T4q,T4q,T4q,T4q,T4q,T4q,T4q,T4q,T4q,T4q,T4q,T4q,T4q,T4q,T4q,T4q,T4q,T4q,T4q,T4q,T4q,T4q,T4q,T4q,T4q,T4q,T4q,T4q,T4q,T4q,T4q,T4q,T4q,T4q,T4q,T4q,F4q,F4q,F4q,F4q,F4q] rfl rfl (any_of HT_.out (by kernel_rfl)) (fun _ _ _ h => h) (Or.inr ⟨by rfl, rfl⟩) ?_ ?_
         rotate_left
         ·simp only [Act.put, List.setIfInBounds_toArray, List.set_cons_zero, List.set_cons_succ, i64_w, i32_w]
          rfl
         refine pure_ (i := 46) (N := some 63) (v := undef) (a' := ?_) #[T4q,T4q,T4q,T4q,T4q,T4q,T4q,T4q,T4q,T4q,T4q,T4q,T4q,T4q,T4q,T4q,T4q,T4q,T4q,T4q,T4q,T4q,T4q,T4q,T4q,T4q,T4q,T4q,T4q,T4q,T4q,T4q,T4q,T4q,T4q,T4q,T4q,T4q,T4q,T4q,T4q,T4q,T4q,T4q,T4q,T4q,T4q,F4q,F4q,F4q,F4q] rfl rfl (any_of HT_.out (by kernel_rfl)) (fun _ _ _ h => h) (Or.inr ⟨by rfl, rfl⟩) ?_ ?_
         rotate_left
         ·simp only [Act.put, List.setIfInBounds_toArray, List.set_cons_zero, List.set_cons_succ, i64_w, i32_w]
          rfl
         refine pure_ (i := 47) (N := some 64) (v := undef) (a' := ?_) #[T4q,T4q,T4q,T4q,T4q,T4q,T4q,T4q,T4q,T4q,T4q,T4q,T4q,T4q,T4q,T4q,T4q,T4q,T4q,T4q,T4q,T4q,T4q,T4q,T4q,T4q,T4q,T4q,T4q,T4q,T4q,T4q,T4q,T4q,T4q,T4q,T4q,T4q,T4q,T4q,T4q,T4q,T4q,T4q,T4q,T4q,T4q,T4q,F4q,F4q,F4q] rfl rfl (any_of HT_.out (by kernel_rfl)) (fun _ _ _ h => h) (Or.inr ⟨by rfl, rfl⟩) ?_ ?_
         rotate_left
         ·simp only [Act.put, List.setIfInBounds_toArray, List.set_cons_zero, List.set_cons_succ, i64_w, i32_w]
          rfl
         refine pure_ (i := 48) (N := some 65) (v := undef) (a' := ?_) #[T4q,T4q,T4q,T4q,T4q,T4q,T4q,T4q,T4q,T4q,T4q,T4q,T4q,T4q,T4q,T4q,T4q,T4q,T4q,T4q,T4q,T4q,T4q,T4q,T4q,T4q,T4q,T4q,T4q,T4q,T4q,T4q,T4q,T4q,T4q,T4q,T4q,T4q,T4q,T4q,T4q,T4q,T4q,T4q,T4q,T4q,T4q,T4q,T4q,F4q,F4q] rfl rfl (any_of HT_.out (by kernel_rfl)) (fun _ _ _ h => h) (Or.inr ⟨by rfl, rfl⟩) ?_ ?_
         rotate_left
         ·simp only [Act.put, List.setIfInBounds_toArray, List.set_cons_zero, List.set_cons_succ, i64_w, i32_w]
          rfl
         refine pure_ (i := 49) (N := some 66) (v := undef) (a' := ?_) #[T4q,T4q,T4q,T4q,T4q,T4q,T4q,T4q,T4q,T4q,T4q,T4q,T4q,T4q,T4q,T4q,T4q,T4q,T4q,T4q,T4q,T4q,T4q,T4q,T4q,T4q,T4q,T4q,T4q,T4q,T4q,T4q,T4q,T4q,T4q,T4q,T4q,T4q,T4q,T4q,T4q,T4q,T4q,T4q,T4q,T4q,T4q,T4q,T4q,T4q,F4q] rfl rfl (any_of HT_.out (by kernel_rfl)) (fun _ _ _ h => h) (Or.inr ⟨by rfl, rfl⟩) ?_ ?_
         rotate_left
         ·simp only [Act.put, List.setIfInBounds_toArray, List.set_cons_zero, List.set_cons_succ, i64_w, i32_w]
          rfl
         refine pure_ (i := 50) (N := some 67) (v := ?_) (a' := ?_) #[T4q,T4q,T4q,T4q,T4q,T4q,T4q,T4q,T4q,T4q,T4q,T4q,T4q,T4q,T4q,T4q,T4q,T4q,T4q,T4q,T4q,T4q,T4q,T4q,T4q,T4q,T4q,T4q,T4q,T4q,T4q,T4q,T4q,T4q,T4q,T4q,T4q,T4q,T4q,T4q,T4q,T4q,T4q,T4q,T4q,T4q,T4q,T4q,T4q,T4q,T4q] rfl rfl (any_of HT_.out (by kernel_rfl)) (fun _ _ _ h => h) (Or.inl ⟨by rfl, ?_⟩) ?_ ?_
         rotate_left
         ·intro w'
          go_simp
          with_reducible rfl
         rotate_left
         ·simp only [Act.put, List.setIfInBounds_toArray, List.set_cons_zero, List.set_cons_succ, i64_w, i32_w]
          rfl
         refine done_ (done_of HT_.out (by kernel_rfl)) ?_
         try go_wp2
         go_ret
         exact ⟨by first | rfl | (simp [errW_none, errW_some] <;> rfl) | (simp [*, errW_none, errW_some] <;> rfl), by repeat (first | (with_reducible first | exact HB.out | apply below_alloc | apply pw_below_drewN | apply below_drew1) | exact HB.out)⟩
       ·rw [if_neg c7] at H
        have c7b0 : (((rd_T48 l0 x5_1).f0) == ((rd_T48 l1 x5_1).f0)) = false := beq_eq_false_iff_ne.mpr c7
        have c7b1 : (((rd_T48 l0 x5_1).f0) != ((rd_T48 l1 x5_1).f0)) = true := bne_iff_ne.mpr c7
        obtain rfl := Option.some.inj H
        try go_wp2
        have n0_ := Aside0.mk (below_drew1 HB.out)
        clear HB
        have HB := n0_
        clear n0_
        have p607 : 0 ≤ (x5_1 : Int) := of_decide_eq_true (by first | (with_reducible assumption) | assumption)
        have q607 : x5_1 < (l0.length : Int) := of_decide_eq_true (by first | (with_reducible assumption) | assumption)
        obtain ⟨ad607, A607_1, c607_1, e607, hx607_0, hx607_1, hx607_2, hx607_3, hl607_1, hi607_1⟩ := at_T48 HR0.out x5_1 p607 q607
        have hw607_3 := hx607_3
        have hw607_2 := hx607_2
        have hw607_1 := hx607_1
        have hw607_0 := hx607_0
        cases e607
        (try replace hx607_0 := (HB.out.cell (World.block_lt_of_cell? w _ hx607_0)).trans hx607_0)
        (try replace hx607_1 := (HB.out.cell (World.block_lt_of_cell? w _ hx607_1)).trans hx607_1)
        (try replace hx607_2 := (HB.out.cell (World.block_lt_of_cell? w _ hx607_2)).trans hx607_2)
        (try replace hx607_3 := (HB.out.cell (World.block_lt_of_cell? w _ hx607_3)).trans hx607_3)
        have HR607_1 := Aside0.mk hi607_1
        have HC607_1 := Aside0.mk hl607_1
        clear hi607_1 hl607_1
        replace p607 := eq_true p607
        replace q607 := eq_true q607
        have p608 : 0 ≤ (x5_1 : Int) := of_decide_eq_true (by first | (with_reducible assumption) | assumption)
        have q608 : x5_1 < (l1.length : Int) := of_decide_eq_true (by first | (with_reducible assumption) | assumption)
        obtain ⟨ad608, A608_1, c608_1, e608, hx608_0, hx608_1, hx608_2, hx608_3, hl608_1, hi608_1⟩ := at_T48 HR1.out x5_1 p608 q608
        have hw608_3 := hx608_3
        have hw608_2 := hx608_2
        have hw608_1 := hx608_1
        have hw608_0 := hx608_0
        cases e608
        (try replace hx608_0 := (HB.out.cell (World.block_lt_of_cell? w _ hx608_0)).trans hx608_0)
        (try replace hx608_1 := (HB.out.cell (World.block_lt_of_cell? w _ hx608_1)).trans hx608_1)
        (try replace hx608_2 := (HB.out.cell (World.block_lt_of_cell? w _ hx608_2)).trans hx608_2)
        (try replace hx608_3 := (HB.out.cell (World.block_lt_of_cell? w _ hx608_3)).trans hx608_3)
        have HR608_1 := Aside0.mk hi608_1
        have HC608_1 := Aside0.mk hl608_1
        clear hi608_1 hl608_1
        replace p608 := eq_true p608
        replace q608 := eq_true q608
        refine start_ (n := 51) (S := fun w' => w'.cell? (ad607.add ((x5_1).toNat * 4)) = some (.int .i64 ((rd_T48 l0 x5_1).f0)) ∧ w'.cell? ⟨(ad607.add ((x5_1).toNat * 4)).block, (ad607.add ((x5_1).toNat * 4)).off + 1, none⟩ = some (.slice A607_1 ((rd_T48 l0 x5_1).f1).length c607_1) ∧ w'.cell? ⟨(ad607.add ((x5_1).toNat * 4)).block, (ad607.add ((x5_1).toNat * 4)).off + 2, none⟩ = some (.int .i64 ((rd_T48 l0 x5_1).f2)) ∧ w'.cell? ⟨(ad607.add ((x5_1).toNat * 4)).block, (ad607.add ((x5_1).toNat * 4)).off + 3, none⟩ = some (.int .i64 ((rd_T48 l0 x5_1).f3)) ∧ w'.cell? (ad608.add ((x5_1).toNat * 4)) = some (.int .i64 ((rd_T48 l1 x5_1).f0)) ∧ w'.cell? ⟨(ad608.add ((x5_1).toNat * 4)).block, (ad608.add ((x5_1).toNat * 4)).off + 1, none⟩ = some (.slice A608_1 ((rd_T48 l1 x5_1).f1).length c608_1) ∧ w'.cell? ⟨(ad608.add ((x5_1).toNat * 4)).block, (ad608.add ((x5_1).toNat * 4)).off + 2, none⟩ = some (.int .i64 ((rd_T48 l1 x5_1).f2)) ∧ w'.cell? ⟨(ad608.add ((x5_1).toNat * 4)).block, (ad608.add ((x5_1).toNat * 4)).off + 3, none⟩ = some (.int .i64 ((rd_T48 l1 x5_1).f3))) (ds := []) #[F4q,F4q,F4q,F4q,F4q,F4q,F4q,F4q,F4q,F4q,F4q,F4q,F4q,F4q,F4q,F4q,F4q,F4q,F4q,F4q,F4q,F4q,F4q,F4q,F4q,F4q,F4q,F4q,F4q,F4q,F4q,F4q,F4q,F4q,F4q,F4q,F4q,F4q,F4q,F4q,F4q,F4q,F4q,F4q,F4q,F4q,F4q,F4q,F4q,F4q,F4q] (by kernel_rfl) rfl rfl ⟨(by first | exact ((HB.out.cell (World.block_lt_of_cell? w _ hw607_0)).trans hw607_0) | exact HS0_ | exact hHeld.1 | exact hw607_0), (by first | exact ((HB.out.cell (World.block_lt_of_cell? w _ hw607_1)).trans hw607_1) | exact HS0_ | exact hHeld.1 | exact hw607_1), (by first | exact ((HB.out.cell (World.block_lt_of_cell? w _ hw607_2)).trans hw607_2) | exact HS0_ | exact hHeld.1 | exact hw607_2), (by first | exact ((HB.out.cell (World.block_lt_of_cell? w _ hw607_3)).trans hw607_3) | exact HS0_ | exact hHeld.1 | exact hw607_3), (by first | exact ((HB.out.cell (World.block_lt_of_cell? w _ hw608_0)).trans hw608_0) | exact HS0_ | exact hHeld.1 | exact hw608_0), (by first | exact ((HB.out.cell (World.block_lt_of_cell? w _ hw608_1)).trans hw608_1) | exact HS0_ | exact hHeld.1 | exact hw608_1), (by first | exact ((HB.out.cell (World.block_lt_of_cell? w _ hw608_2)).trans hw608_2) | exact HS0_ | exact hHeld.1 | exact hw608_2), (by first | exact ((HB.out.cell (World.block_lt_of_cell? w _ hw608_3)).trans hw608_3) | exact HS0_ | exact hHeld.1 | exact hw608_3)⟩ (fun hHeld => ?_); refine with_tabW laws_equalTasks.tab6 laws_equalTasks.bits6 (fun HT_ HW_ => ?_)
        generalize wr.drew = w16 at HB HR607_1 HR608_1 hx607_0 hx607_1 hx607_2 hx607_3 hx608_0 hx608_1 hx608_2 hx608_3 hHeld ⊢
        refine pure_ (i := 0) (N := some 17) (v := ?_) (a' := ?_) #[T4q,F4q,F4q,F4q,F4q,F4q,F4q,F4q,F4q,F4q,F4q,F4q,F4q,F4q,F4q,F4q,F4q,F4q,F4q,F4q,F4q,F4q,F4q,F4q,F4q,F4q,F4q,F4q,F4q,F4q,F4q,F4q,F4q,F4q,F4q,F4q,F4q,F4q,F4q,F4q,F4q,F4q,F4q,F4q,F4q,F4q,F4q,F4q,F4q,F4q,F4q] rfl rfl (any_of HT_.out (by kernel_rfl)) (fun _ _ _ h => h) (Or.inl ⟨by rfl, ?_⟩) ?_ ?_
        rotate_left
        ·intro w'
         go_simp
         with_reducible rfl
        rotate_left
        ·simp only [Act.put, List.setIfInBounds_toArray, List.set_cons_zero, List.set_cons_succ, i64_w, i32_w]
         rfl
        refine pure_ (i := 1) (N := some 18) (v := ?_) (a' := ?_) #[T4q,T4q,F4q,F4q,F4q,F4q,F4q,F4q,F4q,F4q,F4q,F4q,F4q,F4q,F4q,F4q,F4q,F4q,F4q,F4q,F4q,F4q,F4q,F4q,F4q,F4q,F4q,F4q,F4q,F4q,F4q,F4q,F4q,F4q,F4q,F4q,F4q,F4q,F4q,F4q,F4q,F4q,F4q,F4q,F4q,F4q,F4q,F4q,F4q,F4q,F4q] rfl rfl (any_of HT_.out (by kernel_rfl)) (fun _ _ _ h => h) (Or.inl ⟨by rfl, ?_⟩) ?_ ?_
        rotate_left
        ·intro w'
         go_simp
         with_reducible rfl
        rotate_left
        ·simp only [Act.put, List.setIfInBounds_toArray, List.set_cons_zero, List.set_cons_succ, i64_w, i32_w]
         rfl
        refine pure_ (i := 2) (N := some 19) (v := ?_) (a' := ?_) #[T4q,T4q,T4q,F4q,F4q,F4q,F4q,F4q,F4q,F4q,F4q,F4q,F4q,F4q,F4q,F4q,F4q,F4q,F4q,F4q,F4q,F4q,F4q,F4q,F4q,F4q,F4q,F4q,F4q,F4q,F4q,F4q,F4q,F4q,F4q,F4q,F4q,F4q,F4q,F4q,F4q,F4q,F4q,F4q,F4q,F4q,F4q,F4q,F4q,F4q,F4q] rfl rfl (any_of HT_.out (by kernel_rfl)) (fun _ _ _ h => h) (Or.inl ⟨by rfl, ?_⟩) ?_ ?_
        rotate_left
        ·intro w'
         go_simp
         with_reducible rfl
        rotate_left
        ·simp only [Act.put, List.setIfInBounds_toArray, List.set_cons_zero, List.set_cons_succ, i64_w, i32_w]
         rfl
        refine pure_ (i := 3) (N := some 20) (v := ?_) (a' := ?_) #[T4q,T4q,T4q,T4q,F4q,F4q,F4q,F4q,F4q,F4q,F4q,F4q,F4q,F4q,F4q,F4q,F4q,F4q,F4q,F4q,F4q,F4q,F4q,F4q,F4q,F4q,F4q,F4q,F4q,F4q,F4q,F4q,F4q,F4q,F4q,F4q,F4q,F4q,F4q,F4q,F4q,F4q,F4q,F4q,F4q,F4q,F4q,F4q,F4q,F4q,F4q] rfl rfl (any_of HT_.out (by kernel_rfl)) (fun _ _ _ h => h) (Or.inl ⟨by rfl, ?_⟩) ?_ ?_
        rotate_left
        ·intro w'
         go_simp
         with_reducible rfl
        rotate_left
        ·simp only [Act.put, List.setIfInBounds_toArray, List.set_cons_zero, List.set_cons_succ, i64_w, i32_w]
         rfl
        refine pure_ (i := 5) (N := some 22) (v := ?_) (a' := ?_) #[T4q,T4q,T4q,T4q,F4q,T4q,F4q,F4q,F4q,F4q,F4q,F4q,F4q,F4q,F4q,F4q,F4q,F4q,F4q,F4q,F4q,F4q,F4q,F4q,F4q,F4q,F4q,F4q,F4q,F4q,F4q,F4q,F4q,F4q,F4q,F4q,F4q,F4q,F4q,F4q,F4q,F4q,F4q,F4q,F4q,F4q,F4q,F4q,F4q,F4q,F4q] rfl rfl (any_of HT_.out (by kernel_rfl)) (fun _ _ _ h => h) (Or.inl ⟨by rfl, ?_⟩) ?_ ?_
        rotate_left
        ·intro w'
         go_simp
         with_reducible rfl
        rotate_left
        ·simp only [Act.put, List.setIfInBounds_toArray, List.set_cons_zero, List.set_cons_succ, i64_w, i32_w]
         rfl
        refine pure_ (i := 6) (N := some 23) (v := ?_) (a' := ?_) #[T4q,T4q,T4q,T4q,F4q,T4q,T4q,F4q,F4q,F4q,F4q,F4q,F4q,F4q,F4q,F4q,F4q,F4q,F4q,F4q,F4q,F4q,F4q,F4q,F4q,F4q,F4q,F4q,F4q,F4q,F4q,F4q,F4q,F4q,F4q,F4q,F4q,F4q,F4q,F4q,F4q,F4q,F4q,F4q,F4q,F4q,F4q,F4q,F4q,F4q,F4q] rfl rfl (any_of HT_.out (by kernel_rfl)) (fun _ _ _ h => h) (Or.inl ⟨by rfl, ?_⟩) ?_ ?_
        rotate_left
        ·intro w'
         go_simp
         with_reducible rfl
        rotate_left
        ·simp only [Act.put, List.setIfInBounds_toArray, List.set_cons_zero, List.set_cons_succ, i64_w, i32_w]
         rfl
        refine pure_ (i := 7) (N := some 24) (v := ?_) (a' := ?_) #[T4q,T4q,T4q,T4q,F4q,T4q,T4q,T4q,F4q,F4q,F4q,F4q,F4q,F4q,F4q,F4q,F4q,F4q,F4q,F4q,F4q,F4q,F4q,F4q,F4q,F4q,F4q,F4q,F4q,F4q,F4q,F4q,F4q,F4q,F4q,F4q,F4q,F4q,F4q,F4q,F4q,F4q,F4q,F4q,F4q,F4q,F4q,F4q,F4q,F4q,F4q] rfl rfl (any_of HT_.out (by kernel_rfl)) (fun _ _ _ h => h) (Or.inl ⟨by rfl, ?_⟩) ?_ ?_
        rotate_left
        ·intro w'
         go_simp
         with_reducible rfl
        rotate_left
        ·simp only [Act.put, List.setIfInBounds_toArray, List.set_cons_zero, List.set_cons_succ, i64_w, i32_w]
         rfl
        refine pure_ (i := 8) (N := some 25) (v := ?_) (a' := ?_) #[T4q,T4q,T4q,T4q,F4q,T4q,T4q,T4q,T4q,F4q,F4q,F4q,F4q,F4q,F4q,F4q,F4q,F4q,F4q,F4q,F4q,F4q,F4q,F4q,F4q,F4q,F4q,F4q,F4q,F4q,F4q,F4q,F4q,F4q,F4q,F4q,F4q,F4q,F4q,F4q,F4q,F4q,F4q,F4q,F4q,F4q,F4q,F4q,F4q,F4q,F4q] rfl rfl (any_of HT_.out (by kernel_rfl)) (fun _ _ _ h => h) (Or.inl ⟨by rfl, ?_⟩) ?_ ?_
        rotate_left
        ·intro w'
         go_simp
         with_reducible rfl
        rotate_left
        ·simp only [Act.put, List.setIfInBounds_toArray, List.set_cons_zero, List.set_cons_succ, i64_w, i32_w]
         rfl
        refine take_ (i := 4) (N := some 21) (v := ?_) (a' := ?_) #[T4q,T4q,T4q,T4q,T4q,T4q,T4q,T4q,T4q,F4q,F4q,F4q,F4q,F4q,F4q,F4q,F4q,F4q,F4q,F4q,F4q,F4q,F4q,F4q,F4q,F4q,F4q,F4q,F4q,F4q,F4q,F4q,F4q,F4q,F4q,F4q,F4q,F4q,F4q,F4q,F4q,F4q,F4q,F4q,F4q,F4q,F4q,F4q,F4q,F4q,F4q] rfl rfl (take_ofW HT_.out HW_.out (by kernel_rfl)) (fun _ _ _ h => h) (Or.inl ⟨by rfl, ?_⟩) hHeld ?_ ?_
        rotate_left
        ·rintro w' ⟨s0, s1, s2, s3, s4, s5, s6, s7⟩
         go_simp
         with_reducible rfl
        rotate_left
        ·simp only [Act.put, List.setIfInBounds_toArray, List.set_cons_zero, List.set_cons_succ, i64_w, i32_w]
         rfl
        refine take_ (i := 9) (N := some 26) (v := ?_) (a' := ?_) #[T4q,T4q,T4q,T4q,T4q,T4q,T4q,T4q,T4q,T4q,F4q,F4q,F4q,F4q,F4q,F4q,F4q,F4q,F4q,F4q,F4q,F4q,F4q,F4q,F4q,F4q,F4q,F4q,F4q,F4q,F4q,F4q,F4q,F4q,F4q,F4q,F4q,F4q,F4q,F4q,F4q,F4q,F4q,F4q,F4q,F4q,F4q,F4q,F4q,F4q,F4q] rfl rfl (take_ofW HT_.out HW_.out (by kernel_rfl)) (fun _ _ _ h => h) (Or.inl ⟨by rfl, ?_⟩) hHeld ?_ ?_
        rotate_left
        ·rintro w' ⟨s0, s1, s2, s3, s4, s5, s6, s7⟩
         go_simp
         with_reducible rfl
        rotate_left
        ·simp only [Act.put, List.setIfInBounds_toArray, List.set_cons_zero, List.set_cons_succ, i64_w, i32_w]
         rfl
        refine pure_ (i := 10) (N := some 27) (v := ?_) (a' := ?_) #[T4q,T4q,T4q,T4q,T4q,T4q,T4q,T4q,T4q,T4q,T4q,F4q,F4q,F4q,F4q,F4q,F4q,F4q,F4q,F4q,F4q,F4q,F4q,F4q,F4q,F4q,F4q,F4q,F4q,F4q,F4q,F4q,F4q,F4q,F4q,F4q,F4q,F4q,F4q,F4q,F4q,F4q,F4q,F4q,F4q,F4q,F4q,F4q,F4q,F4q,F4q] rfl rfl (any_of HT_.out (by kernel_rfl)) (fun _ _ _ h => h) (Or.inl ⟨by rfl, ?_⟩) ?_ ?_
        rotate_left
        ·intro w'
         go_simp
         with_reducible rfl
        rotate_left
        ·simp only [Act.put, List.setIfInBounds_toArray, List.set_cons_zero, List.set_cons_succ, i64_w, i32_w]
         rfl
        refine pure_ (i := 11) (N := some 28) (v := ?_) (a' := ?_) #[T4q,T4q,T4q,T4q,T4q,T4q,T4q,T4q,T4q,T4q,T4q,T4q,F4q,F4q,F4q,F4q,F4q,F4q,F4q,F4q,F4q,F4q,F4q,F4q,F4q,F4q,F4q,F4q,F4q,F4q,F4q,F4q,F4q,F4q,F4q,F4q,F4q,F4q,F4q,F4q,F4q,F4q,F4q,F4q,F4q,F4q,F4q,F4q,F4q,F4q,F4q] rfl rfl (any_of HT_.out (by kernel_rfl)) (fun _ _ _ h => h) (Or.inl ⟨by rfl, ?_⟩) ?_ ?_
        rotate_left
        ·intro w'
         go_simp
         with_reducible rfl
        rotate_left
        ·simp only [Act.put, List.setIfInBounds_toArray, List.set_cons_zero, List.set_cons_succ, i64_w, i32_w]
         rfl
        refine pure_ (i := 12) (N := some 29) (v := undef) (a' := ?_) #[T4q,T4q,T4q,T4q,T4q,T4q,T4q,T4q,T4q,T4q,T4q,T4q,T4q,F4q,F4q,F4q,F4q,F4q,F4q,F4q,F4q,F4q,F4q,F4q,F4q,F4q,F4q,F4q,F4q,F4q,F4q,F4q,F4q,F4q,F4q,F4q,F4q,F4q,F4q,F4q,F4q,F4q,F4q,F4q,F4q,F4q,F4q,F4q,F4q,F4q,F4q] rfl rfl (any_of HT_.out (by kernel_rfl)) (fun _ _ _ h => h) (Or.inr ⟨by rfl, rfl⟩) ?_ ?_
        rotate_left
        ·simp only [Act.put, List.setIfInBounds_toArray, List.set_cons_zero, List.set_cons_succ, i64_w, i32_w]
         rfl
        refine pure_ (i := 13) (N := some 30) (v := undef) (a' := ?_) #[T4q,T4q,T4q,T4q,T4q,T4q,T4q,T4q,T4q,T4q,T4q,T4q,T4q,T4q,F4q,F4q,F4q,F4q,F4q,F4q,F4q,F4q,F4q,F4q,F4q,F4q,F4q,F4q,F4q,F4q,F4q,F4q,F4q,F4q,F4q,F4q,F4q,F4q,F4q,F4q,F4q,F4q,F4q,F4q,F4q,F4q,F4q,F4q,F4q,F4q,F4q] rfl rfl (any_of HT_.out (by kernel_rfl)) (fun _ _ _ h => h) (Or.inr ⟨by rfl, rfl⟩) ?_ ?_
        rotate_left
        ·simp only [Act.put, List.setIfInBounds_toArray, List.set_cons_zero, List.set_cons_succ, i64_w, i32_w]
         rfl
        refine pure_ (i := 14) (N := some 31) (v := undef) (a' := ?_) #[T4q,T4q,T4q,T4q,T4q,T4q,T4q,T4q,T4q,T4q,T4q,T4q,T4q,T4q,T4q,F4q,F4q,F4q,F4q,F4q,F4q,F4q,F4q,F4q,F4q,F4q,F4q,F4q,F4q,F4q,F4q,F4q,F4q,F4q,F4q,F4q,F4q,F4q,F4q,F4q,F4q,F4q,F4q,F4q,F4q,F4q,F4q,F4q,F4q,F4q,F4q] rfl rfl (any_of HT_.out (by kernel_rfl)) (fun _ _ _ h => h) (Or.inr ⟨by rfl, rfl⟩) ?_ ?_
        rotate_left
        ·simp only [Act.put, List.setIfInBounds_toArray, List.set_cons_zero, List.set_cons_succ, i64_w, i32_w]
         rfl
        refine pure_ (i := 15) (N := some 32) (v := undef) (a' := ?_) #[T4q,T4q,T4q,T4q,T4q,T4q,T4q,T4q,T4q,T4q,T4q,T4q,T4q,T4q,T4q,T4q,F4q,F4q,F4q,F4q,F4q,F4q,F4q,F4q,F4q,F4q,F4q,F4q,F4q,F4q,F4q,F4q,F4q,F4q,F4q,F4q,F4q,F4q,F4q,F4q,F4q,F4q,F4q,F4q,F4q,F4q,F4q,F4q,F4q,F4q,F4q] rfl rfl (any_of HT_.out (by kernel_rfl)) (fun _ _ _ h => h) (Or.inr ⟨by rfl, rfl⟩) ?_ ?_
        rotate_left
        ·simp only [Act.put, List.setIfInBounds_toArray, List.set_cons_zero, List.set_cons_succ, i64_w, i32_w]
         rfl
        refine pure_ (i := 16) (N := some 33) (v := undef) (a' := ?_) #[T4q,T4q,T4q,T4q,T4q,T4q,T4q,T4q,T4q,T4q,T4q,T4q,T4q,T4q,T4q,T4q,T4q,F4q,F4q,F4q,F4q,F4q,F4q,F4q,F4q,F4q,F4q,F4q,F4q,F4q,F4q,F4q,F4q,F4q,F4q,F4q,F4q,F4q,F4q,F4q,F4q,F4q,F4q,F4q,F4q,F4q,F4q,F4q,F4q,F4q,F4q] rfl rfl (any_of HT_.out (by kernel_rfl)) (fun _ _ _ h => h) (Or.inr ⟨by rfl, rfl⟩) ?_ ?_
        rotate_left
        ·simp only [Act.put, List.setIfInBounds_toArray, List.set_cons_zero, List.set_cons_succ, i64_w, i32_w]
         rfl
        refine pure_ (i := 17) (N := some 34) (v := undef) (a' := ?_) #[T4q,T4q,T4q,T4q,T4q,T4q,T4q,T4q,T4q,T4q,T4q,T4q,T4q,T4q,T4q,T4q,T4q,T4q,F4q,F4q,F4q,F4q,F4q,F4q,F4q,F4q,F4q,F4q,F4q,F4q,F4q,F4q,F4q,F4q,F4q,F4q,F4q,F4q,F4q,F4q,F4q,F4q,F4q,F4q,F4q,F4q,F4q,F4q,F4q,F4q,F4q] rfl rfl (any_of HT_.out (by kernel_rfl)) (fun _ _ _ h => h) (Or.inr ⟨by rfl, rfl⟩) ?_ ?_
        rotate_left
        ·simp only [Act.put, List.setIfInBounds_toArray, List.set_cons_zero, List.set_cons_succ, i64_w, i32_w]
         rfl
        refine pure_ (i := 18) (N := some 35) (v := undef) (a' := ?_) #[T4q,T4q,T4q,T4q,T4q,T4q,T4q,T4q,T4q,T4q,T4q,T4q,T4q,T4q,T4q,T4q,T4q,T4q,T4q,F4q,F4q,F4q,F4q,F4q,F4q,F4q,F4q,F4q,F4q,F4q,F4q,F4q,F4q,F4q,F4q,F4q,F4q,F4q,F4q,F4q,F4q,F4q,F4q,F4q,F4q,F4q,F4q,F4q,F4q,F4q,F4q] rfl rfl (any_of HT_.out (by kernel_rfl)) (fun _ _ _ h => h) (Or.inr ⟨by rfl, rfl⟩) ?_ ?_
        rotate_left
        ·simp only [Act.put, List.setIfInBounds_toArray, List.set_cons_zero, List.set_cons_succ, i64_w, i32_w]
         rfl
        refine pure_ (i := 19) (N := some 36) (v := undef) (a' := ?_) #[T4q,T4q,T4q,T4q,T4q,T4q,T4q,T4q,T4q,T4q,T4q,T4q,T4q,T4q,T4q,T4q,T4q,T4q,T4q,T4q,F4q,F4q,F4q,F4q,F4q,F4q,F4q,F4q,F4q,F4q,F4q,F4q,F4q,F4q,F4q,F4q,F4q,F4q,F4q,F4q,F4q,F4q,F4q,F4q,F4q,F4q,F4q,F4q,F4q,F4q,F4q] rfl rfl (any_of HT_.out (by kernel_rfl)) (fun _ _ _ h => h) (Or.inr ⟨by rfl, rfl⟩) ?_ ?_
        rotate_left
        ·simp only [Act.put, List.setIfInBounds_toArray, List.set_cons_zero, List.set_cons_succ, i64_w, i32_w]
         rfl
        refine pure_ (i := 20) (N := some 37) (v := undef) (a' := ?_) #[T4q,T4q,T4q,T4q,T4q,T4q,T4q,T4q,T4q,T4q,T4q,T4q,T4q,T4q,T4q,T4q,T4q,T4q,T4q,T4q,T4q,F4q,F4q,F4q,F4q,F4q,F4q,F4q,F4q,F4q,F4q,F4q,F4q,F4q,F4q,F4q,F4q,F4q,F4q,F4q,F4q,F4q,F4q,F4q,F4q,F4q,F4q,F4q,F4q,F4q,F4q] rfl rfl (any_of HT_.out (by kernel_rfl)) (fun _ _ _ h => h) (Or.inr ⟨by rfl, rfl⟩) ?_ ?_
        rotate_left
        ·simp only [Act.put, List.setIfInBounds_toArray, List.set_cons_zero, List.set_cons_succ, i64_w, i32_w]
         rfl
        refine pure_ (i := 21) (N := some 38) (v := undef) (a' := ?_) #[T4q,T4q,T4q,T4q,T4q,T4q,T4q,T4q,T4q,T4q,T4q,T4q,T4q,T4q,T4q,T4q,T4q,T4q,T4q,T4q,T4q,T4q,F4q,F4q,F4q,F4q,F4q,F4q,F4q,F4q,F4q,F4q,F4q,F4q,F4q,F4q,F4q,F4q,F4q,F4q,F4q,F4q,F4q,F4q,F4q,F4q,F4q,F4q,F4q,F4q,F4q] rfl rfl (any_of HT_.out (by kernel_rfl)) (fun _ _ _ h => h) (Or.inr ⟨by rfl, rfl⟩) ?_ ?_
        rotate_left
        ·simp only [Act.put, List.setIfInBounds_toArray, List.set_cons_zero, List.set_cons_succ, i64_w, i32_w]
         rfl
        refine pure_ (i := 22) (N := some 39) (v := undef) (a' := ?_) #[T4q,T4q,T4q,T4q,T4q,T4q,T4q,T4q,T4q,T4q,T4q,T4q,T4q,T4q,T4q,T4q,T4q,T4q,T4q,T4q,T4q,T4q,T4q,F4q,F4q,F4q,F4q,F4q,F4q,F4q,F4q,F4q,F4q,F4q,F4q,F4q,F4q,F4q,F4q,F4q,F4q,F4q,F4q,F4q,F4q,F4q,F4q,F4q,F4q,F4q,F4q] rfl rfl (any_of HT_.out (by kernel_rfl)) (fun _ _ _ h => h) (Or.inr ⟨by rfl, rfl⟩) ?_ ?_
        rotate_left
        ·simp only [Act.put, List.setIfInBounds_toArray, List.set_cons_zero, List.set_cons_succ, i64_w, i32_w]
         rfl
        refine pure_ (i := 23) (N := some 40) (v := ?_) (a' := ?_) #[T4q,T4q,T4q,T4q,T4q,T4q,T4q,T4q,T4q,T4q,T4q,T4q,T4q,T4q,T4q,T4q,T4q,T4q,T4q,T4q,T4q,T4q,T4q,T4q,F4q,F4q,F4q,F4q,F4q,F4q,F4q,F4q,F4q,F4q,F4q,F4q,F4q,F4q,F4q,F4q,F4q,F4q,F4q,F4q,F4q,F4q,F4q,F4q,F4q,F4q,F4q] rfl rfl (any_of HT_.out (by kernel_rfl)) (fun _ _ _ h => h) (Or.inl ⟨by rfl, ?_⟩) ?_ ?_
        rotate_left
        ·intro w'
         go_simp
         with_reducible rfl
        rotate_left
        ·simp only [Act.put, List.setIfInBounds_toArray, List.set_cons_zero, List.set_cons_succ, i64_w, i32_w]
         rfl
        refine pure_ (i := 24) (N := some 41) (v := ?_) (a' := ?_) #[T4q,T4q,T4q,T4q,T4q,T4q,T4q,T4q,T4q,T4q,T4q,T4q,T4q,T4q,T4q,T4q,T4q,T4q,T4q,T4q,T4q,T4q,T4q,T4q,T4q,F4q,F4q,F4q,F4q,F4q,F4q,F4q,F4q,F4q,F4q,F4q,F4q,F4q,F4q,F4q,F4q,F4q,F4q,F4q,F4q,F4q,F4q,F4q,F4q,F4q,F4q] rfl rfl (any_of HT_.out (by kernel_rfl)) (fun _ _ _ h => h) (Or.inl ⟨by rfl, ?_⟩) ?_ ?_
        rotate_left
        ·intro w'
         go_simp
         with_reducible rfl
        rotate_left
        ·simp only [Act.put, List.setIfInBounds_toArray, List.set_cons_zero, List.set_cons_succ, i64_w, i32_w]
         rfl
        refine pure_ (i := 25) (N := some 42) (v := undef) (a' := ?_) #[T4q,T4q,T4q,T4q,T4q,T4q,T4q,T4q,T4q,T4q,T4q,T4q,T4q,T4q,T4q,T4q,T4q,T4q,T4q,T4q,T4q,T4q,T4q,T4q,T4q,T4q,F4q,F4q,F4q,F4q,F4q,F4q,F4q,F4q,F4q,F4q,F4q,F4q,F4q,F4q,F4q,F4q,F4q,F4q,F4q,F4q,F4q,F4q,F4q,F4q,F4q] rfl rfl (any_of HT_.out (by kernel_rfl)) (fun _ _ _ h => h) (Or.inr ⟨by rfl, rfl⟩) ?_ ?_
        rotate_left
        ·simp only [Act.put, List.setIfInBounds_toArray, List.set_cons_zero, List.set_cons_succ, i64_w, i32_w]
         rfl
        refine pure_ (i := 26) (N := some 43) (v := undef) (a' := ?_) #[T4q,T4q,T4q,T4q,T4q,T4q,T4q,T4q,T4q,T4q,T4q,T4q,T4q,T4q,T4q,T4q,T4q,T4q,T4q,T4q,T4q,T4q,T4q,T4q,T4q,T4q,T4q,F4q,F4q,F4q,F4q,F4q,F4q,F4q,F4q,F4q,F4q,F4q,F4q,F4q,F4q,F4q,F4q,F4q,F4q,F4q,F4q,F4q,F4q,F4q,F4q] rfl rfl (any_of HT_.out (by kernel_rfl)) (fun _ _ _ h => h) (Or.inr ⟨by rfl, rfl⟩) ?_ ?_
        rotate_left
        ·simp only [Act.put, List.setIfInBounds_toArray, List.set_cons_zero, List.set_cons_succ, i64_w, i32_w]
         rfl
        refine pure_ (i := 27) (N := some 44) (v := undef) (a' := ?_) #[T4q,T4q,T4q,T4q,T4q,T4q,T4q,T4q,T4q,T4q,T4q,T4q,T4q,T4q,T4q,T4q,T4q,T4q,T4q,T4q,T4q,T4q,T4q,T4q,T4q,T4q,T4q,T4q,F4q,F4q,F4q,F4q,F4q,F4q,F4q,F4q,F4q,F4q,F4q,F4q,F4q,F4q,F4q,F4q,F4q,F4q,F4q,F4q,F4q,F4q,F4q] rfl rfl (any_of HT_.out (by kernel_rfl)) (fun _ _ _ h => h) (Or.inr ⟨by rfl, rfl⟩) ?_ ?_
        rotate_left
        ·simp only [Act.put, List.setIfInBounds_toArray, List.set_cons_zero, List.set_cons_succ, i64_w, i32_w]
         rfl
        refine pure_ (i := 28) (N := some 45) (v := undef) (a' := ?_) #[T4q,T4q,T4q,T4q,T4q,T4q,T4q,T4q,T4q,T4q,T4q,T4q,T4q,T4q,T4q,T4q,T4q,T4q,T4q,T4q,T4q,T4q,T4q,T4q,T4q,T4q,T4q,T4q,T4q,F4q,F4q,F4q,F4q,F4q,F4q,F4q,F4q,F4q,F4q,F4q,F4q,F4q,F4q,F4q,F4q,F4q,F4q,F4q,F4q,F4q,F4q] rfl rfl (any_of HT_.out (by kernel_rfl)) (fun _ _ _ h => h) (Or.inr ⟨by rfl, rfl⟩) ?_ ?_
        rotate_left
        ·simp only [Act.put, List.setIfInBounds_toArray, List.set_cons_zero, List.set_cons_succ, i64_w, i32_w]
         rfl
        refine pure_ (i := 29) (N := some 46) (v := undef) (a' := ?_) #[T4q,T4q,T4q,T4q,T4q,T4q,T4q,T4q,T4q,T4q,T4q,T4q,T4q,T4q,T4q,T4q,T4q,T4q,T4q,T4q,T4q,T4q,T4q,T4q,T4q,T4q,T4q,T4q,T4q,T4q,F4q,F4q,F4q,F4q,F4q,F4q,F4q,F4q,F4q,F4q,F4q,F4q,F4q,F4q,F4q,F4q,F4q,F4q,F4q,F4q,F4q] rfl rfl (any_of HT_.out (by kernel_rfl)) (fun _ _ _ h => h) (Or.inr ⟨by rfl, rfl⟩) ?_ ?_
        rotate_left
        ·simp only [Act.put, List.setIfInBounds_toArray, List.set_cons_zero, List.set_cons_succ, i64_w, i32_w]
         rfl
        refine pure_ (i := 30) (N := some 47) (v := undef) (a' := ?_) #[T4q,T4q,T4q,T4q,T4q,T4q,T4q,T4q,T4q,T4q,T4q,T4q,T4q,T4q,T4q,T4q,T4q,T4q,T4q,T4q,T4q,T4q,T4q,T4q,T4q,T4q,T4q,T4q,T4q,T4q,T4q,F4q,F4q,F4q,F4q,F4q,F4q,F4q,F4q,F4q,F4q,F4q,F4q,F4q,F4q,F4q,F4q,F4q,F4q,F4q,F4q] rfl rfl (any_of HT_.out (by kernel_rfl)) (fun _ _ _ h => h) (Or.inr ⟨by rfl, rfl⟩) ?_ ?_
        rotate_left
        ·simp only [Act.put, List.setIfInBounds_toArray, List.set_cons_zero, List.set_cons_succ, i64_w, i32_w]
         rfl
        refine pure_ (i := 31) (N := some 48) (v := undef) (a' := ?_) #[T4q,T4q,T4q,T4q,T4q,T4q,T4q,T4q,T4q,T4q,T4q,T4q,T4q,T4q,T4q,T4q,T4q,T4q,T4q,T4q,T4q,T4q,T4q,T4q,T4q,T4q,T4q,T4q,T4q,T4q,T4q,T4q,F4q,F4q,F4q,F4q,F4q,F4q,F4q,F4q,F4q,F4q,F4q,F4q,F4q,F4q,F4q,F4q,F4q,F4q,F4q] rfl rfl (any_of HT_.out (by kernel_rfl)) (fun _ _ _ h => h) (Or.inr ⟨by rfl, rfl⟩) ?_ ?_
        rotate_left
        ·simp only [Act.put, List.setIfInBounds_toArray, List.set_cons_zero, List.set_cons_succ, i64_w, i32_w]
         rfl
        refine pure_ (i := 32) (N := some 49) (v := undef) (a' := ?_) #[T4q,T4q,T4q,T4q,T4q,T4q,T4q,T4q,T4q,T4q,T4q,T4q,T4q,T4q,T4q,T4q,T4q,T4q,T4q,T4q,T4q,T4q,T4q,T4q,T4q,T4q,T4q,T4q,T4q,T4q,T4q,T4q,T4q,F4q,F4q,F4q,F4q,F4q,F4q,F4q,F4q,F4q,F4q,F4q,F4q,F4q,F4q,F4q,F4q,F4q,F4q] rfl rfl (any_of HT_.out (by kernel_rfl)) (fun _ _ _ h => h) (Or.inr ⟨by rfl, rfl⟩) ?_ ?_
        rotate_left
        ·simp only [Act.put, List.setIfInBounds_toArray, List.set_cons_zero, List.set_cons_succ, i64_w, i32_w]
         rfl
        refine pure_ (i := 33) (N := some 50) (v := undef) (a' := ?_) #[T4q,T4q,T4q,T4q,T4q,T4q,T4q,T4q,T4q,T4q,T4q,T4q,T4q,T4q,T4q,T4q,T4q,T4q,T4q,T4q,T4q,T4q,T4q,T4q,T4q,T4q,T4q,T4q,T4q,T4q,T4q,T4q,T4q,T4q,F4q,F4q,F4q,F4q,F4q,F4q,F4q,F4q,F4q,F4q,F4q,F4q,F4q,F4q,F4q,F4q,F4q] rfl rfl (any_of HT_.out (by kernel_rfl)) (fun _ _ _ h => h) (Or.inr ⟨by rfl, rfl⟩) ?_ ?_
        rotate_left
        ·simp only [Act.put, List.setIfInBounds_toArray, List.set_cons_zero, List.set_cons_succ, i64_w, i32_w]
         rfl
        refine pure_ (i := 34) (N := some 51) (v := undef) (a' := ?_) #[T4q,T4q,T4q,T4q,T4q,T4q,T4q,T4q,T4q,T4q,T4q,T4q,T4q,T4q,T4q,T4q,T4q,T4q,T4q,T4q,T4q,T4q,T4q,T4q,T4q,T4q,T4q,T4q,T4q,T4q,T4q,T4q,T4q,T4q,T4q,F4q,F4q,F4q,F4q,F4q,F4q,F4q,F4q,F4q,F4q,F4q,F4q,F4q,F4q,F4q,F4q] rfl rfl (any_of HT_.out (by kernel_rfl)) (fun _ _ _ h => h) (Or.inr ⟨by rfl, rfl⟩) ?_ ?_
        rotate_left
        ·simp only [Act.put, List.setIfInBounds_toArray, List.set_cons_zero, List.set_cons_succ, i64_w, i32_w]
         rfl
        refine pure_ (i := 35) (N := some 52) (v := undef) (a' := ?_) #[T4q,T4q,T4q,T4q,T4q,T4q,T4q,T4q,T4q,T4q,T4q,T4q,T4q,T4q,T4q,T4q,T4q,T4q,T4q,T4q,T4q,T4q,T4q,T4q,T4q,T4q,T4q,T4q,T4q,T4q,T4q,T4q,T4q,T4q,T4q,T4q,F4q,F4q,F4q,F4q,F4q,F4q,F4q,F4q,F4q,F4q,F4q,F4q,F4q,F4q,F4q] rfl rfl (any_of HT_.out (by kernel_rfl)) (fun _ _ _ h => h) (Or.inr ⟨by rfl, rfl⟩) ?_ ?_
        rotate_left
        ·simp only [Act.put, List.setIfInBounds_toArray, List.set_cons_zero, List.set_cons_succ, i64_w, i32_w]
         rfl
        refine pure_ (i := 36) (N := some 53) (v := ?_) (a' := ?_) #[T4q,T4q,T4q,T4q,T4q,T4q,T4q,T4q,T4q,T4q,T4q,T4q,T4q,T4q,T4q,T4q,T4q,T4q,T4q,T4q,T4q,T4q,T4q,T4q,T4q,T4q,T4q,T4q,T4q,T4q,T4q,T4q,T4q,T4q,T4q,T4q,T4q,F4q,F4q,F4q,F4q,F4q,F4q,F4q,F4q,F4q,F4q,F4q,F4q,F4q,F4q] rfl rfl (any_of HT_.out (by kernel_rfl)) (fun _ _ _ h => h) (Or.inl ⟨by rfl, ?_⟩) ?_ ?_
        rotate_left
        ·intro w'
         go_simp
         with_reducible rfl
        rotate_left
        ·simp only [Act.put, List.setIfInBounds_toArray, List.set_cons_zero, List.set_cons_succ, i64_w, i32_w]
         rfl
        refine pure_ (i := 37) (N := some 54) (v := ?_) (a' := ?_) #[T4q,T4q,T4q,T4q,T4q,T4q,T4q,T4q,T4q,T4q,T4q,T4q,T4q,T4q,T4q,T4q,T4q,T4q,T4q,T4q,T4q,T4q,T4q,T4q,T4q,T4q,T4q,T4q,T4q,T4q,T4q,T4q,T4q,T4q,T4q,T4q,T4q,T4q,F4q,F4q,F4q,F4q,F4q,F4q,F4q,F4q,F4q,F4q,F4q,F4q,F4q] rfl rfl (any_of HT_.out (by kernel_rfl)) (fun _ _ _ h => h) (Or.inl ⟨by rfl, ?_⟩) ?_ ?_
        rotate_left
        ·intro w'
         go_simp
         with_reducible rfl
        rotate_left
        ·simp only [Act.put, List.setIfInBounds_toArray, List.set_cons_zero, List.set_cons_succ, i64_w, i32_w]
         rfl
        refine pure_ (i := 38) (N := some 55) (v := undef) (a' := ?_) #[T4q,T4q,T4q,T4q,T4q,T4q,T4q,T4q,T4q,T4q,T4q,T4q,T4q,T4q,T4q,T4q,T4q,T4q,T4q,T4q,T4q,T4q,T4q,T4q,T4q,T4q,T4q,T4q,T4q,T4q,T4q,T4q,T4q,T4q,T4q,T4q,T4q,T4q,T4q,F4q,F4q,F4q,F4q,F4q,F4q,F4q,F4q,F4q,F4q,F4q,F4q] rfl rfl (any_of HT_.out (by kernel_rfl)) (fun _ _ _ h => h) (Or.inr ⟨by rfl, rfl⟩) ?_ ?_
        rotate_left
        ·simp only [Act.put, List.setIfInBounds_toArray, List.set_cons_zero, List.set_cons_succ, i64_w, i32_w]
         rfl
        refine pure_ (i := 39) (N := some 56) (v := undef) (a' := ?_) #[T4q,T4q,T4q,T4q,T4q,T4q,T4q,T4q,T4q,T4q,T4q,T4q,T4q,T4q,T4q,T4q,T4q,T4q,T4q,T4q,T4q,T4q,T4q,T4q,T4q,T4q,T4q,T4q,T4q,T4q,T4q,T4q,T4q,T4q,T4q,T4q,T4q,T4q,T4q,T4q,F4q,F4q,F4q,F4q,F4q,F4q,F4q,F4q,F4q,F4q,F4q] rfl rfl (any_of HT_.out (by kernel_rfl)) (fun _ _ _ h => h) (Or.inr ⟨by rfl, rfl⟩) ?_ ?_
        rotate_left
        ·simp only [Act.put, List.setIfInBounds_toArray, List.set_cons_zero, List.set_cons_succ, i64_w, i32_w]
         rfl
        refine pure_ (i := 40) (N := some 57) (v := undef) (a' := ?_) #[T4q,T4q,T4q,T4q,T4q,T4q,T4q,T4q,T4q,T4q,T4q,T4q,T4q,T4q,T4q,T4q,T4q,T4q,T4q,T4q,T4q,T4q,T4q,T4q,T4q,T4q,T4q,T4q,T4q,T4q,T4q,T4q,T4q,T4q,T4q,T4q,T4q,T4q,T4q,T4q,T4q,F4q,F4q,F4q,F4q,F4q,F4q,F4q,F4q,F4q,F4q] rfl rfl (any_of HT_.out (by kernel_rfl)) (fun _ _ _ h => h) (Or.inr ⟨by rfl, rfl⟩) ?_ ?_
        rotate_left
        ·simp only [Act.put, List.setIfInBounds_toArray, List.set_cons_zero, List.set_cons_succ, i64_w, i32_w]
         rfl
        refine pure_ (i := 41) (N := some 58) (v := undef) (a' := ?_) #[T4q,T4q,T4q,T4q,T4q,T4q,T4q,T4q,T4q,T4q,T4q,T4q,T4q,T4q,T4q,T4q,T4q,T4q,T4q,T4q,T4q,T4q,T4q,T4q,T4q,T4q,T4q,T4q,T4q,T4q,T4q,T4q,T4q,T4q,T4q,T4q,T4q,T4q,T4q,T4q,T4q,T4q,F4q,F4q,F4q,F4q,F4q,F4q,F4q,F4q,F4q] rfl rfl (any_of HT_.out (by kernel_rfl)) (fun _ _ _ h => h) (Or.inr ⟨by rfl, rfl⟩) ?_ ?_
        rotate_left
        ·simp only [Act.put, List.setIfInBounds_toArray, List.set_cons_zero, List.set_cons_succ, i64_w, i32_w]
         rfl
        refine pure_ (i := 42) (N := some 59) (v := undef) (a' := ?_) #[T4q,T4q,T4q,T4q,T4q,T4q,T4q,T4q,T4q,T4q,T4q,T4q,T4q,T4q,T4q,T4q,T4q,T4q,T4q,T4q,T4q,T4q,T4q,T4q,T4q,T4q,T4q,T4q,T4q,T4q,T4q,T4q,T4q,T4q,T4q,T4q,T4q,T4q,T4q,T4q,T4q,T4q,T4q,F4q,F4q,F4q,F4q,F4q,F4q,F4q,F4q] rfl rfl (any_of HT_.out (by kernel_rfl)) (fun _ _ _ h => h) (Or.inr ⟨by rfl, rfl⟩) ?_ ?_
        rotate_left
        ·simp only [Act.put, List.setIfInBounds_toArray, List.set_cons_zero, List.set_cons_succ, i64_w, i32_w]
         rfl
        refine pure_ (i := 43) (N := some 60) (v := undef) (a' := ?_) #[T4q,T4q,T4q,T4q,T4q,T4q,T4q,T4q,T4q,T4q,T4q,T4q,T4q,T4q,T4q,T4q,T4q,T4q,T4q,T4q,T4q,T4q,T4q,T4q,T4q,T4q,T4q,T4q,T4q,T4q,T4q,T4q,T4q,T4q,T4q,T4q,T4q,T4q,T4q,T4q,T4q,T4q,T4q,T4q,F4q,F4q,F4q,F4q,F4q,F4q,F4q] rfl rfl (any_of HT_.out (by kernel_rfl)) (fun _ _ _ h => h) (Or.inr ⟨by rfl, rfl⟩) ?_ ?_
        rotate_left
        ·simp only [Act.put, List.setIfInBounds_toArray, List.set_cons_zero, List.set_cons_succ, i64_w, i32_w]
         rfl
        refine pure_ (i := 44) (N := some 61) (v := undef) (a' := ?_) #[T4q,T4q,T4q,T4q,T4q,T4q,T4q,T4q,T4q,T4q,T4q,T4q,T4q,T4q,T4q,T4q,T4q,T4q,T4q,T4q,T4q,T4q,T4q,T4q,T4q,T4q,T4q,T4q,T4q,T4q,T4q,T4q,T4q,T4q,T4q,T4q,T4q,T4q,T4q,T4q,T4q,T4q,T4q,T4q,T4q,F4q,F4q,F4q,F4q,F4q,F4q] rfl rfl (any_of HT_.out (by kernel_rfl)) (fun _ _ _ h => h) (Or.inr ⟨by rfl, rfl⟩) ?_ ?_
        rotate_left
        ·simp only [Act.put, List.setIfInBounds_toArray, List.set_cons_zero, List.set_cons_succ, i64_w, i32_w]
         rfl
        refine pure_ (i := 45) (N := some 62) (v := undef) (a' := ?_) #[T4q,T4q,T4q,T4q,T4q,T4q,T4q,T4q,T4q,T4q,T4q,T4q,T4q,T4q,T4q,T4q,T4q,T4q,T4q,T4q,T4q,T4q,T4q,T4q,T4q,T4q,T4q,T4q,T4q,T4q,T4q,T4q,T4q,T4q,T4q,T4q,T4q,T4q,T4q,T4q,T4q,T4q,T4q,T4q,T4q,T4q,F4q,F4q,F4q,F4q,F4q] rfl rfl (any_of HT_.out (by kernel_rfl)) (fun _ _ _ h => h) (Or.inr ⟨by rfl, rfl⟩) ?_ ?_
        rotate_left
        ·simp only [Act.put, List.setIfInBounds_toArray, List.set_cons_zero, List.set_cons_succ, i64_w, i32_w]
         rfl
        refine pure_ (i := 46) (N := some 63) (v := undef) (a' := ?_) #[T4q,T4q,T4q,T4q,T4q,T4q,T4q,T4q,T4q,T4q,T4q,T4q,T4q,T4q,T4q,T4q,T4q,T4q,T4q,T4q,T4q,T4q,T4q,T4q,T4q,T4q,T4q,T4q,T4q,T4q,T4q,T4q,T4q,T4q,T4q,T4q,T4q,T4q,T4q,T4q,T4q,T4q,T4q,T4q,T4q,T4q,T4q,F4q,F4q,F4q,F4q] rfl rfl (any_of HT_.out (by kernel_rfl)) (fun _ _ _ h => h) (Or.inr ⟨by rfl, rfl⟩) ?_ ?_
        rotate_left
        ·simp only [Act.put, List.setIfInBounds_toArray, List.set_cons_zero, List.set_cons_succ, i64_w, i32_w]
         rfl
        refine pure_ (i := 47) (N := some 64) (v := undef) (a' := ?_) #[T4q,T4q,T4q,T4q,T4q,T4q,T4q,T4q,T4q,T4q,T4q,T4q,T4q,T4q,T4q,T4q,T4q,T4q,T4q,T4q,T4q,T4q,T4q,T4q,T4q,T4q,T4q,T4q,T4q,T4q,T4q,T4q,T4q,T4q,T4q,T4q,T4q,T4q,T4q,T4q,T4q,T4q,T4q,T4q,T4q,T4q,T4q,T4q,F4q,F4q,F4q] rfl rfl (any_of HT_.out (by kernel_rfl)) (fun _ _ _ h => h) (Or.inr ⟨by rfl, rfl⟩) ?_ ?_
        rotate_left
        ·simp only [Act.put, List.setIfInBounds_toArray, List.set_cons_zero, List.set_cons_succ, i64_w, i32_w]
         rfl
        refine pure_ (i := 48) (N := some 65) (v := undef) (a' := ?_) #[T4q,T4q,T4q,T4q,T4q,T4q,T4q,T4q,T4q,T4q,T4q,T4q,T4q,T4q,T4q,T4q,T4q,T4q,T4q,T4q,T4q,T4q,T4q,T4q,T4q,T4q,T4q,T4q,T4q,T4q,T4q,T4q,T4q,T4q,T4q,T4q,T4q,T4q,T4q,T4q,T4q,T4q,T4q,T4q,T4q,T4q,T4q,T4q,T4q,F4q,F4q] rfl rfl (any_of HT_.out (by kernel_rfl)) (fun _ _ _ h => h) (Or.inr ⟨by rfl, rfl⟩) ?_ ?_
        rotate_left
        ·simp only [Act.put, List.setIfInBounds_toArray, List.set_cons_zero, List.set_cons_succ, i64_w, i32_w]
         rfl
        refine pure_ (i := 49) (N := some 66) (v := undef) (a' := ?_) #[T4q,T4q,T4q,T4q,T4q,T4q,T4q,T4q,T4q,T4q,T4q,T4q,T4q,T4q,T4q,T4q,T4q,T4q,T4q,T4q,T4q,T4q,T4q,T4q,T4q,T4q,T4q,T4q,T4q,T4q,T4q,T4q,T4q,T4q,T4q,T4q,T4q,T4q,T4q,T4q,T4q,T4q,T4q,T4q,T4q,T4q,T4q,T4q,T4q,T4q,F4q] rfl rfl (any_of HT_.out (by kernel_rfl)) (fun _ _ _ h => h) (Or.inr ⟨by rfl, rfl⟩) ?_ ?_
        rotate_left
        ·simp only [Act.put, List.setIfInBounds_toArray, List.set_cons_zero, List.set_cons_succ, i64_w, i32_w]
         rfl
        refine pure_ (i := 50) (N := some 67) (v := ?_) (a' := ?_) #[T4q,T4q,T4q,T4q,T4q,T4q,T4q,T4q,T4q,T4q,T4q,T4q,T4q,T4q,T4q,T4q,T4q,T4q,T4q,T4q,T4q,T4q,T4q,T4q,T4q,T4q,T4q,T4q,T4q,T4q,T4q,T4q,T4q,T4q,T4q,T4q,T4q,T4q,T4q,T4q,T4q,T4q,T4q,T4q,T4q,T4q,T4q,T4q,T4q,T4q,T4q] rfl rfl (any_of HT_.out (by kernel_rfl)) (fun _ _ _ h => h) (Or.inl ⟨by rfl, ?_⟩) ?_ ?_
        rotate_left
        ·intro w'
         go_simp
         with_reducible rfl
        rotate_left
        ·simp only [Act.put, List.setIfInBounds_toArray, List.set_cons_zero, List.set_cons_succ, i64_w, i32_w]
         rfl
        refine done_ (done_of HT_.out (by kernel_rfl)) ?_
        try go_wp2
        go_ret
        exact ⟨by first | rfl | (simp [errW_none, errW_some] <;> rfl) | (simp [*, errW_none, errW_some] <;> rfl), by repeat (first | (with_reducible first | exact HB.out | apply below_alloc | apply pw_below_drewN | apply below_drew1) | exact HB.out)⟩
      ·rw [if_neg c6] at H
       exact absurd H (by simp)
     ·rw [if_neg c5] at H
      exact absurd H (by simp)
    ·rw [if_neg c4] at H
     have c4b0 : decide (x5_1 < (l0.length : Int)) = false := decide_eq_false c4
     clear c4
     obtain rfl := Option.some.inj H
     go_wp2
     go_ret
     exact ⟨by first | rfl | (simp [errW_none, errW_some] <;> rfl) | (simp [*, errW_none, errW_some] <;> rfl), by repeat (first | (with_reducible first | exact HB.out | apply below_alloc | apply pw_below_drewN | apply below_drew1) | exact HB.out)⟩
 ·rw [if_neg c3] at H
  have c3b0 : ((l0.length : Int) == (l1.length : Int)) = false := beq_eq_false_iff_ne.mpr c3
  have c3b1 : ((l0.length : Int) != (l1.length : Int)) = true := bne_iff_ne.mpr c3
  have c3b2 : (l0.length == l1.length) = false := by first | simpa using c3 | (simp at c3 ⊢; omega)
  obtain rfl := Option.some.inj H
  go_enter Tryd.func41, Tryd.ntmps41
  go_wp2
  go_ret
  exact ⟨by first | rfl | (simp [errW_none, errW_some] <;> rfl) | (simp [*, errW_none, errW_some] <;> rfl), by repeat (first | (with_reducible first | exact HB.out | apply below_alloc | apply pw_below_drewN | apply below_drew1) | exact HB.out)⟩
end Go.Proofs.YtpibdjkajgfgjaaDoor.P
end
