/- The law FnOrderStartsFirst holds of the given program: the proof's own part, with its row and its card, part 4 of 9. -/
import Derived.Test.YtnhkajanbfgbiaaDoorZFnOrderStartsFirst3
namespace Go.Proofs.YtnhkajanbfgbiaaDoor.P
abbrev T4q : Bool := true
abbrev F4q : Bool := false
end Go.Proofs.YtnhkajanbfgbiaaDoor.P
section
namespace Go.Proofs.YtnhkajanbfgbiaaDoor.P
open Go.RowKit Go.Proofs.YtnhkajanbfgbiaaDoorW.PrintWords Go.Proofs.YtnhkajanbfgbiaaDoorW.PrintLast Go.Proofs.YtnhkajanbfgbiaaDoorW.PrintMore
attribute [local go_sem] max2_int min2_int max_two min_two max_three min_three max_four min_four   -- for this text's walks alone
set_option linter.unusedVariables false
set_option linter.unusedSimpArgs false
def spec_fits.l0 : Nat → List (S38) → List Int → Int → List Int → Int → Int → Int → Option (Bool)
 | 0, _, _, _, _, _, _, _ => none
 | k + 1, x0, x1, x2, x3, x4, x5, x13 => if 0 ≤ x4 then (if x4 < (x0.length : Int) then (if x13 < (wrap64 (x5 + ((rd_T38 x0 x4).f0))) then ((spec_runningAt.f k x0 x3 x13).bind fun t160 => (if (t160.length : Int) ≥ x2 then (some false) else ((spec_used.f k x0 t160 ((rd_T38 x0 x4).f2)).bind fun t164 => (if 0 ≤ ((rd_T38 x0 x4).f2) then (if ((rd_T38 x0 x4).f2) < (x1.length : Int) then (if (wrap64 (t164 + ((rd_T38 x0 x4).f3))) > (rd x1 ((rd_T38 x0 x4).f2)) then (some false) else (spec_fits.l0 k x0 x1 x2 x3 x4 x5 (wrap64 (x13 + 1)))) else (none)) else (none))))) else (some true)) else (none)) else (none)
def spec_fits.f (k : Nat) (l0 : List (S38)) (l1 : List Int) (a2 : Int) (l3 : List Int) (a4 : Int) (a5 : Int) : Option (Bool) := spec_fits.l0 k l0 l1 a2 l3 a4 a5 a5
theorem spec_fits.mono_l : ∀ k, (∀ y0 y1 y2 y3 y4 y5 y6, LeO (spec_fits.l0 k y0 y1 y2 y3 y4 y5 y6) (spec_fits.l0 (k + 1) y0 y1 y2 y3 y4 y5 y6))
 | 0 => fun _ _ _ _ _ _ _ r h => by simp [spec_fits.l0] at h
 | k + 1 => by
  have ih0 := spec_fits.mono_l k
  ·intro y0 y1 y2 y3 y4 y5 y6
   unfold spec_fits.l0
   repeat' first
   | (with_reducible exact ih0 _ _ _ _ _ _ _)
   | (with_reducible exact spec_runningAt.mono _ _ _ _)
   | (with_reducible exact spec_used.mono _ _ _ _)
   | (with_reducible exact LeO.refl _)
   | (with_reducible exact LeO.none _)
   | (with_reducible refine LeO.ite ?_ ?_)
   | (with_reducible refine LeO.bind ?_ (fun _ => ?_))
   | exact ih0 _ _ _ _ _ _ _
   | exact spec_runningAt.mono _ _ _ _
   | exact spec_used.mono _ _ _ _
   | exact LeO.none _
   | refine LeO.ite ?_ ?_
   | refine LeO.bind ?_ (fun _ => ?_)
theorem spec_fits.mono : ∀ a0 a1 a2 a3 a4 a5 k, LeO (spec_fits.f k a0 a1 a2 a3 a4 a5) (spec_fits.f (k + 1) a0 a1 a2 a3 a4 a5) := by
 intro a0 a1 a2 a3 a4 a5 k
 have ih0 := spec_fits.mono_l k
 unfold spec_fits.f
 repeat' first
   | (with_reducible exact ih0 _ _ _ _ _ _ _)
   | (with_reducible exact spec_runningAt.mono _ _ _ _)
   | (with_reducible exact spec_used.mono _ _ _ _)
   | (with_reducible exact LeO.refl _)
   | (with_reducible exact LeO.none _)
   | (with_reducible refine LeO.ite ?_ ?_)
   | (with_reducible refine LeO.bind ?_ (fun _ => ?_))
   | exact ih0 _ _ _ _ _ _ _
   | exact spec_runningAt.mono _ _ _ _
   | exact spec_used.mono _ _ _ _
   | exact LeO.none _
   | refine LeO.ite ?_ ?_
   | refine LeO.bind ?_ (fun _ => ?_)
set_option maxHeartbeats 8000000 in
set_option maxRecDepth 100000 in
theorem spec_fits.calls (k : Nat) (A0 : Option Addr) (c0 : Nat) (l0 : List (S38)) (A1 : Option Addr) (c1 : Nat) (l1 : List Int) (a2 : Int) (A3 : Option Addr) (c3 : Nat) (l3 : List Int) (a4 : Int) (a5 : Int) (r : Bool) (w : World) (hr0 : Kd.C k38 w A0 l0.length l0) (hc0 : l0.length ≤ c0) (hr1 : Kd.C (Kd.int .i64) w A1 l1.length l1) (hc1 : l1.length ≤ c1) (hr3 : Kd.C (Kd.int .i64) w A3 l3.length l3) (hc3 : l3.length ≤ c3) (h : spec_fits.f k l0 l1 a2 l3 a4 a5 = some r) :
  Calls Tryd.prog 41 #[.slice A0 l0.length c0, .slice A1 l1.length c1, .int .i64 a2, .slice A3 l3.length c3, .int .i64 a4, .int .i64 a5] w fun e w' => e = .returned (.bool r) ∧ Below w.heap.size w w' := by
 have HR0 := Aside0.mk hr0
 have HC0 := Aside0.mk hc0
 clear hr0 hc0
 have HR1 := Aside0.mk hr1
 have HC1 := Aside0.mk hc1
 clear hr1 hc1
 have HR3 := Aside0.mk hr3
 have HC3 := Aside0.mk hc3
 clear hr3 hc3
 have HB := Aside0.mk (Below.refl w.heap.size w)
 have H : (spec_fits.l0 k l0 l1 a2 l3 a4 a5 a5) = some r := h
 clear h
 have H' := Aside0.mk H
 clear H
 go_enter Tryd.func41, Tryd.ntmps41
 go_wp2
 repeat (go_quiet (fail); try go_wp2)
 go_loopg [13] k (fun kq v13 w' => ∃ (x13_1 : Int), v13 = .int .i64 x13_1 ∧ Aside0 (spec_fits.l0 kq l0 l1 a2 l3 a4 a5 x13_1 = some r) ∧ Aside0 (kq ≤ k) ∧ Aside0 (Below w.heap.size w w'))
 case atStart => exact ⟨(a5), (by first | rfl | (simp; done) | (simp [*]; done)), H', ⟨Nat.le_refl _⟩, ⟨HB.out⟩⟩
 case round =>
  clear H'
  try clear c1
  try clear p2
  try clear c3
  try clear c4
  obtain ⟨x13_1, rfl, HA, HK1, HB⟩ := hrel
  cases gk with
  | zero => exact absurd HA.out (by simp [spec_fits.l0])
  | succ k1 =>
   have H := HA.out
   clear HA
   simp only [spec_fits.l0] at H
   by_cases c7 : 0 ≤ a4
   ·rw [if_pos c7] at H
    have c7b0 : decide (0 ≤ a4) = true := decide_eq_true c7
    clear c7
    by_cases c8 : a4 < (l0.length : Int)
    ·rw [if_pos c8] at H
     have c8b0 : decide (a4 < (l0.length : Int)) = true := decide_eq_true c8
     clear c8
     by_cases c9 : x13_1 < (wrap64 (a5 + ((rd_T38 l0 a4).f0)))
     ·rw [if_pos c9] at H
      have c9b0 : decide (x13_1 < (wrap64 (a5 + ((rd_T38 l0 a4).f0)))) = true := decide_eq_true c9
      clear c9
      replace H := Option.bind_eq_some_iff.mp H
      obtain ⟨t160, A100, H⟩ := H
      replace H : (if (t160.length : Int) ≥ a2 then (some false) else ((spec_used.f k1 l0 t160 ((rd_T38 l0 a4).f2)).bind fun t164 => (if 0 ≤ ((rd_T38 l0 a4).f2) then (if ((rd_T38 l0 a4).f2) < (l1.length : Int) then (if (wrap64 (t164 + ((rd_T38 l0 a4).f3))) > (rd l1 ((rd_T38 l0 a4).f2)) then (some false) else (spec_fits.l0 k1 l0 l1 a2 l3 a4 a5 (wrap64 (x13_1 + 1)))) else (none)) else (none)))) = some r := H
      have A10 := Aside0.mk A100
      clear A100
      by_cases c11 : (t160.length : Int) ≥ a2
      ·rw [if_pos c11] at H
       have c11b0 : decide (a2 ≤ (t160.length : Int)) = true := decide_eq_true c11
       clear c11
       obtain rfl := Option.some.inj H
       have p159 : 0 ≤ (a4 : Int) := of_decide_eq_true (by first | (with_reducible assumption) | assumption)
       have q159 : a4 < (l0.length : Int) := of_decide_eq_true (by first | (with_reducible assumption) | assumption)
       obtain ⟨ad159, A159_1, c159_1, e159, hx159_0, hx159_1, hx159_2, hx159_3, hl159_1, hi159_1⟩ := at_T38 HR0.out a4 p159 q159
       cases e159
       (try replace hx159_0 := (HB.out.cell (World.block_lt_of_cell? w _ hx159_0)).trans hx159_0)
       (try replace hx159_1 := (HB.out.cell (World.block_lt_of_cell? w _ hx159_1)).trans hx159_1)
       (try replace hx159_2 := (HB.out.cell (World.block_lt_of_cell? w _ hx159_2)).trans hx159_2)
       (try replace hx159_3 := (HB.out.cell (World.block_lt_of_cell? w _ hx159_3)).trans hx159_3)
       have HR159_1 := Aside0.mk hi159_1
       have HC159_1 := Aside0.mk hl159_1
       clear hi159_1 hl159_1
       replace p159 := eq_true p159
       replace q159 := eq_true q159
       go_wp2_with (first | (go_at_call 53; (with_reducible refine (spec_runningAt.calls k1 _ _ l0 _ _ l3 x13_1 t160 _ ?side1 ?side2 ?side3 ?side4 A10.out).mono ?_); (case side1 => repeat (first | exact (Kd.C_below HR0.out HB.out) | (with_reducible refine Kd.C_alloc ?_ _) | (with_reducible refine Kd.C_drewN ?_ _) | (with_reducible refine Kd.C_drew ?_))); (case side2 => exact HC0.out); (case side3 => repeat (first | exact (Kd.C_below HR3.out HB.out) | (with_reducible refine Kd.C_alloc ?_ _) | (with_reducible refine Kd.C_drewN ?_ _) | (with_reducible refine Kd.C_drew ?_))); (case side4 => exact HC3.out); rintro e w12 ⟨v161, rfl, ho0, hb⟩; have n0_ := Aside0.mk (Kd.R_lower ho0 (below_size HB.out)); have n1_ := Aside0.mk (below_step HB.out hb); clear HB; have HO162 := n0_; have HB := n1_; clear n0_ n1_; (try clear hb); (try clear hb2); (try clear hk); (try clear hi); (try clear ho0); obtain ⟨Ao13, co13, eo13⟩ := Kd.R_slice HO162.out; subst eo13))
       repeat (go_quiet (first | (go_at_call 53; (with_reducible refine (spec_runningAt.calls k1 _ _ l0 _ _ l3 x13_1 t160 _ ?side1 ?side2 ?side3 ?side4 A10.out).mono ?_); (case side1 => repeat (first | exact (Kd.C_below HR0.out HB.out) | (with_reducible refine Kd.C_alloc ?_ _) | (with_reducible refine Kd.C_drewN ?_ _) | (with_reducible refine Kd.C_drew ?_))); (case side2 => exact HC0.out); (case side3 => repeat (first | exact (Kd.C_below HR3.out HB.out) | (with_reducible refine Kd.C_alloc ?_ _) | (with_reducible refine Kd.C_drewN ?_ _) | (with_reducible refine Kd.C_drew ?_))); (case side4 => exact HC3.out); rintro e w12 ⟨v161, rfl, ho0, hb⟩; have n0_ := Aside0.mk (Kd.R_lower ho0 (below_size (by repeat (first | (with_reducible first | exact HB.out | apply below_alloc | apply pw_below_drewN | apply below_drew1) | exact HB.out)))); have n1_ := Aside0.mk (below_step (by repeat (first | (with_reducible first | exact HB.out | apply below_alloc | apply pw_below_drewN | apply below_drew1) | exact HB.out)) hb); clear HB; have HO162 := n0_; have HB := n1_; clear n0_ n1_; (try clear hb); (try clear hb2); (try clear hk); (try clear hi); (try clear ho0); obtain ⟨Ao13, co13, eo13⟩ := Kd.R_slice HO162.out; subst eo13)); try go_wp2_with (first | (go_at_call 53; (with_reducible refine (spec_runningAt.calls k1 _ _ l0 _ _ l3 x13_1 t160 _ ?side1 ?side2 ?side3 ?side4 A10.out).mono ?_); (case side1 => repeat (first | exact (Kd.C_below HR0.out HB.out) | (with_reducible refine Kd.C_alloc ?_ _) | (with_reducible refine Kd.C_drewN ?_ _) | (with_reducible refine Kd.C_drew ?_))); (case side2 => exact HC0.out); (case side3 => repeat (first | exact (Kd.C_below HR3.out HB.out) | (with_reducible refine Kd.C_alloc ?_ _) | (with_reducible refine Kd.C_drewN ?_ _) | (with_reducible refine Kd.C_drew ?_))); (case side4 => exact HC3.out); rintro e w12 ⟨v161, rfl, ho0, hb⟩; have n0_ := Aside0.mk (Kd.R_lower ho0 (below_size (by repeat (first | (with_reducible first | exact HB.out | apply below_alloc | apply pw_below_drewN | apply below_drew1) | exact HB.out)))); have n1_ := Aside0.mk (below_step (by repeat (first | (with_reducible first | exact HB.out | apply below_alloc | apply pw_below_drewN | apply below_drew1) | exact HB.out)) hb); clear HB; have HO162 := n0_; have HB := n1_; clear n0_ n1_; (try clear hb); (try clear hb2); (try clear hk); (try clear hi); (try clear ho0); obtain ⟨Ao13, co13, eo13⟩ := Kd.R_slice HO162.out; subst eo13)))
       go_ret
       exact ⟨by first | rfl | (simp [errW_none, errW_some] <;> rfl) | (simp [*, errW_none, errW_some] <;> rfl), by repeat (first | (with_reducible first | exact HB.out | apply below_alloc | apply pw_below_drewN | apply below_drew1) | exact HB.out)⟩
      ·rw [if_neg c11] at H
       have c11b0 : decide (a2 ≤ (t160.length : Int)) = false := decide_eq_false c11
       clear c11
       replace H := Option.bind_eq_some_iff.mp H
       obtain ⟨t164, A140, H⟩ := H
       replace H : (if 0 ≤ ((rd_T38 l0 a4).f2) then (if ((rd_T38 l0 a4).f2) < (l1.length : Int) then (if (wrap64 (t164 + ((rd_T38 l0 a4).f3))) > (rd l1 ((rd_T38 l0 a4).f2)) then (some false) else (spec_fits.l0 k1 l0 l1 a2 l3 a4 a5 (wrap64 (x13_1 + 1)))) else (none)) else (none)) = some r := H
       have A14 := Aside0.mk A140
       clear A140
       by_cases c15 : 0 ≤ ((rd_T38 l0 a4).f2)
       ·rw [if_pos c15] at H
        have c15b0 : decide (0 ≤ ((rd_T38 l0 a4).f2)) = true := decide_eq_true c15
        clear c15
        by_cases c16 : ((rd_T38 l0 a4).f2) < (l1.length : Int)
        ·rw [if_pos c16] at H
         have c16b0 : decide (((rd_T38 l0 a4).f2) < (l1.length : Int)) = true := decide_eq_true c16
         clear c16
         by_cases c17 : (wrap64 (t164 + ((rd_T38 l0 a4).f3))) > (rd l1 ((rd_T38 l0 a4).f2))
         ·rw [if_pos c17] at H
          have c17b0 : decide ((rd l1 ((rd_T38 l0 a4).f2)) < (wrap64 (t164 + ((rd_T38 l0 a4).f3)))) = true := decide_eq_true c17
          have c17b0w : decide ((rd l1 ((rd_T38 l0 a4).f2)) < (IntKind.i64.wrap (t164 + ((rd_T38 l0 a4).f3)))) = true := by rw [i64_w]; exact c17b0
          clear c17
          obtain rfl := Option.some.inj H
          have p159 : 0 ≤ (a4 : Int) := of_decide_eq_true (by first | (with_reducible assumption) | assumption)
          have q159 : a4 < (l0.length : Int) := of_decide_eq_true (by first | (with_reducible assumption) | assumption)
          obtain ⟨ad159, A159_1, c159_1, e159, hx159_0, hx159_1, hx159_2, hx159_3, hl159_1, hi159_1⟩ := at_T38 HR0.out a4 p159 q159
          cases e159
          (try replace hx159_0 := (HB.out.cell (World.block_lt_of_cell? w _ hx159_0)).trans hx159_0)
          (try replace hx159_1 := (HB.out.cell (World.block_lt_of_cell? w _ hx159_1)).trans hx159_1)
          (try replace hx159_2 := (HB.out.cell (World.block_lt_of_cell? w _ hx159_2)).trans hx159_2)
          (try replace hx159_3 := (HB.out.cell (World.block_lt_of_cell? w _ hx159_3)).trans hx159_3)
          have HR159_1 := Aside0.mk hi159_1
          have HC159_1 := Aside0.mk hl159_1
          clear hi159_1 hl159_1
          replace p159 := eq_true p159
          replace q159 := eq_true q159
          go_wp2_with (first | (go_at_call 53; (with_reducible refine (spec_runningAt.calls k1 _ _ l0 _ _ l3 x13_1 t160 _ ?side1 ?side2 ?side3 ?side4 A10.out).mono ?_); (case side1 => repeat (first | exact (Kd.C_below HR0.out HB.out) | (with_reducible refine Kd.C_alloc ?_ _) | (with_reducible refine Kd.C_drewN ?_ _) | (with_reducible refine Kd.C_drew ?_))); (case side2 => exact HC0.out); (case side3 => repeat (first | exact (Kd.C_below HR3.out HB.out) | (with_reducible refine Kd.C_alloc ?_ _) | (with_reducible refine Kd.C_drewN ?_ _) | (with_reducible refine Kd.C_drew ?_))); (case side4 => exact HC3.out); rintro e w18 ⟨v161, rfl, ho0, hb⟩; have n0_ := Aside0.mk (Kd.R_lower ho0 (below_size HB.out)); have n1_ := Aside0.mk (below_step HB.out hb); clear HB; have HO162 := n0_; have HB := n1_; clear n0_ n1_; (try clear hb); (try clear hb2); (try clear hk); (try clear hi); (try clear ho0); obtain ⟨Ao19, co19, eo19⟩ := Kd.R_slice HO162.out; subst eo19; have p163 : 0 ≤ (a4 : Int) := of_decide_eq_true (by first | (with_reducible assumption) | assumption); have q163 : a4 < (l0.length : Int) := of_decide_eq_true (by first | (with_reducible assumption) | assumption); obtain ⟨ad163, A163_1, c163_1, e163, hx163_0, hx163_1, hx163_2, hx163_3, hl163_1, hi163_1⟩ := at_T38 HR0.out a4 p163 q163; obtain rfl : ad159 = ad163 := (by injection e163); replace hx163_0 := (HB.out.cell (World.block_lt_of_cell? w _ hx163_0)).trans hx163_0; replace hx163_1 := (HB.out.cell (World.block_lt_of_cell? w _ hx163_1)).trans hx163_1; replace hx163_2 := (HB.out.cell (World.block_lt_of_cell? w _ hx163_2)).trans hx163_2; replace hx163_3 := (HB.out.cell (World.block_lt_of_cell? w _ hx163_3)).trans hx163_3; have HR163_1 := Aside0.mk hi163_1; have HC163_1 := Aside0.mk hl163_1; clear hi163_1 hl163_1; replace p163 := eq_true p163; replace q163 := eq_true q163) | (go_at_call 54; (with_reducible refine (spec_used.calls k1 _ _ l0 _ _ t160 ((rd_T38 l0 a4).f2) t164 _ ?side1 ?side2 ?side3 ?side4 A14.out).mono ?_); (case side1 => repeat (first | exact (Kd.C_below HR0.out HB.out) | (with_reducible refine Kd.C_alloc ?_ _) | (with_reducible refine Kd.C_drewN ?_ _) | (with_reducible refine Kd.C_drew ?_))); (case side2 => exact HC0.out); (case side3 => exact (Kd.R_reads' HO162.out).2.2); (case side4 => exact (Kd.R_reads' HO162.out).2.1); rintro e w' ⟨rfl, ⟨nd, rfl⟩⟩; (try first | exact ⟨rfl, _, World.drewN_drewN _ _ _⟩ | exact ⟨rfl, _, Eq.trans (World.drewN_drewN _ _ _) (congrArg (World.drewN _) (Nat.add_assoc _ _ _))⟩); have p165 : 0 ≤ (a4 : Int) := of_decide_eq_true (by first | (with_reducible assumption) | assumption); have q165 : a4 < (l0.length : Int) := of_decide_eq_true (by first | (with_reducible assumption) | assumption); obtain ⟨ad165, A165_1, c165_1, e165, hx165_0, hx165_1, hx165_2, hx165_3, hl165_1, hi165_1⟩ := at_T38 HR0.out a4 p165 q165; obtain rfl : ad159 = ad165 := (by injection e165); replace hx165_0 := (HB.out.cell (World.block_lt_of_cell? w _ hx165_0)).trans hx165_0; replace hx165_1 := (HB.out.cell (World.block_lt_of_cell? w _ hx165_1)).trans hx165_1; replace hx165_2 := (HB.out.cell (World.block_lt_of_cell? w _ hx165_2)).trans hx165_2; replace hx165_3 := (HB.out.cell (World.block_lt_of_cell? w _ hx165_3)).trans hx165_3; have HR165_1 := Aside0.mk hi165_1; have HC165_1 := Aside0.mk hl165_1; clear hi165_1 hl165_1; replace p165 := eq_true p165; replace q165 := eq_true q165; have ea_ := Option.some.inj (hx163_1.symm.trans hx165_1); injection ea_ with ea_ en_ ec_; subst ea_; subst ec_; clear en_; have p166 : 0 ≤ (a4 : Int) := of_decide_eq_true (by first | (with_reducible assumption) | assumption); have q166 : a4 < (l0.length : Int) := of_decide_eq_true (by first | (with_reducible assumption) | assumption); obtain ⟨ad166, A166_1, c166_1, e166, hx166_0, hx166_1, hx166_2, hx166_3, hl166_1, hi166_1⟩ := at_T38 HR0.out a4 p166 q166; obtain rfl : ad159 = ad166 := (by injection e166); replace hx166_0 := (HB.out.cell (World.block_lt_of_cell? w _ hx166_0)).trans hx166_0; replace hx166_1 := (HB.out.cell (World.block_lt_of_cell? w _ hx166_1)).trans hx166_1; replace hx166_2 := (HB.out.cell (World.block_lt_of_cell? w _ hx166_2)).trans hx166_2; replace hx166_3 := (HB.out.cell (World.block_lt_of_cell? w _ hx166_3)).trans hx166_3; have HR166_1 := Aside0.mk hi166_1; have HC166_1 := Aside0.mk hl166_1; clear hi166_1 hl166_1; replace p166 := eq_true p166; replace q166 := eq_true q166; have ea_ := Option.some.inj (hx163_1.symm.trans hx166_1); injection ea_ with ea_ en_ ec_; subst ea_; subst ec_; clear en_; have p167 : 0 ≤ (((rd_T38 l0 a4).f2) : Int) := of_decide_eq_true (by first | (with_reducible assumption) | assumption); have q167 : ((rd_T38 l0 a4).f2) < (l1.length : Int) := of_decide_eq_true (by first | (with_reducible assumption) | assumption); obtain ⟨ad167, e167, hx167_0⟩ := Kd.at_int HR1.out ((rd_T38 l0 a4).f2) p167 q167; cases e167; replace hx167_0 := (HB.out.cell (World.block_lt_of_cell? w _ hx167_0)).trans hx167_0; replace p167 := eq_true p167; replace q167 := eq_true q167))
          repeat (go_quiet (first | (go_at_call 53; (with_reducible refine (spec_runningAt.calls k1 _ _ l0 _ _ l3 x13_1 t160 _ ?side1 ?side2 ?side3 ?side4 A10.out).mono ?_); (case side1 => repeat (first | exact (Kd.C_below HR0.out HB.out) | (with_reducible refine Kd.C_alloc ?_ _) | (with_reducible refine Kd.C_drewN ?_ _) | (with_reducible refine Kd.C_drew ?_))); (case side2 => exact HC0.out); (case side3 => repeat (first | exact (Kd.C_below HR3.out HB.out) | (with_reducible refine Kd.C_alloc ?_ _) | (with_reducible refine Kd.C_drewN ?_ _) | (with_reducible refine Kd.C_drew ?_))); (case side4 => exact HC3.out); rintro e w18 ⟨v161, rfl, ho0, hb⟩; have n0_ := Aside0.mk (Kd.R_lower ho0 (below_size (by repeat (first | (with_reducible first | exact HB.out | apply below_alloc | apply pw_below_drewN | apply below_drew1) | exact HB.out)))); have n1_ := Aside0.mk (below_step (by repeat (first | (with_reducible first | exact HB.out | apply below_alloc | apply pw_below_drewN | apply below_drew1) | exact HB.out)) hb); clear HB; have HO162 := n0_; have HB := n1_; clear n0_ n1_; (try clear hb); (try clear hb2); (try clear hk); (try clear hi); (try clear ho0); obtain ⟨Ao19, co19, eo19⟩ := Kd.R_slice HO162.out; subst eo19; have p163 : 0 ≤ (a4 : Int) := of_decide_eq_true (by first | (with_reducible assumption) | assumption); have q163 : a4 < (l0.length : Int) := of_decide_eq_true (by first | (with_reducible assumption) | assumption); obtain ⟨ad163, A163_1, c163_1, e163, hx163_0, hx163_1, hx163_2, hx163_3, hl163_1, hi163_1⟩ := at_T38 HR0.out a4 p163 q163; obtain rfl : ad159 = ad163 := (by injection e163); replace hx163_0 := (HB.out.cell (World.block_lt_of_cell? w _ hx163_0)).trans hx163_0; replace hx163_1 := (HB.out.cell (World.block_lt_of_cell? w _ hx163_1)).trans hx163_1; replace hx163_2 := (HB.out.cell (World.block_lt_of_cell? w _ hx163_2)).trans hx163_2; replace hx163_3 := (HB.out.cell (World.block_lt_of_cell? w _ hx163_3)).trans hx163_3; have HR163_1 := Aside0.mk hi163_1; have HC163_1 := Aside0.mk hl163_1; clear hi163_1 hl163_1; replace p163 := eq_true p163; replace q163 := eq_true q163) | (go_at_call 54; (with_reducible refine (spec_used.calls k1 _ _ l0 _ _ t160 ((rd_T38 l0 a4).f2) t164 _ ?side1 ?side2 ?side3 ?side4 A14.out).mono ?_); (case side1 => repeat (first | exact (Kd.C_below HR0.out HB.out) | (with_reducible refine Kd.C_alloc ?_ _) | (with_reducible refine Kd.C_drewN ?_ _) | (with_reducible refine Kd.C_drew ?_))); (case side2 => exact HC0.out); (case side3 => repeat (first | exact (Kd.R_reads' HO162.out).2.2 | (with_reducible refine Kd.C_alloc ?_ _) | (with_reducible refine Kd.C_drewN ?_ _) | (with_reducible refine Kd.C_drew ?_))); (case side4 => exact (Kd.R_reads' HO162.out).2.1); rintro e w' ⟨rfl, ⟨nd, rfl⟩⟩; (try first | exact ⟨rfl, _, World.drewN_drewN _ _ _⟩ | exact ⟨rfl, _, Eq.trans (World.drewN_drewN _ _ _) (congrArg (World.drewN _) (Nat.add_assoc _ _ _))⟩); have p165 : 0 ≤ (a4 : Int) := of_decide_eq_true (by first | (with_reducible assumption) | assumption); have q165 : a4 < (l0.length : Int) := of_decide_eq_true (by first | (with_reducible assumption) | assumption); obtain ⟨ad165, A165_1, c165_1, e165, hx165_0, hx165_1, hx165_2, hx165_3, hl165_1, hi165_1⟩ := at_T38 HR0.out a4 p165 q165; obtain rfl : ad159 = ad165 := (by injection e165); replace hx165_0 := (HB.out.cell (World.block_lt_of_cell? w _ hx165_0)).trans hx165_0; replace hx165_1 := (HB.out.cell (World.block_lt_of_cell? w _ hx165_1)).trans hx165_1; replace hx165_2 := (HB.out.cell (World.block_lt_of_cell? w _ hx165_2)).trans hx165_2; replace hx165_3 := (HB.out.cell (World.block_lt_of_cell? w _ hx165_3)).trans hx165_3; have HR165_1 := Aside0.mk hi165_1; have HC165_1 := Aside0.mk hl165_1; clear hi165_1 hl165_1; replace p165 := eq_true p165; replace q165 := eq_true q165; have ea_ := Option.some.inj (hx163_1.symm.trans hx165_1); injection ea_ with ea_ en_ ec_; subst ea_; subst ec_; clear en_; have p166 : 0 ≤ (a4 : Int) := of_decide_eq_true (by first | (with_reducible assumption) | assumption); have q166 : a4 < (l0.length : Int) := of_decide_eq_true (by first | (with_reducible assumption) | assumption); obtain ⟨ad166, A166_1, c166_1, e166, hx166_0, hx166_1, hx166_2, hx166_3, hl166_1, hi166_1⟩ := at_T38 HR0.out a4 p166 q166; obtain rfl : ad159 = ad166 := (by injection e166); replace hx166_0 := (HB.out.cell (World.block_lt_of_cell? w _ hx166_0)).trans hx166_0; replace hx166_1 := (HB.out.cell (World.block_lt_of_cell? w _ hx166_1)).trans hx166_1; replace hx166_2 := (HB.out.cell (World.block_lt_of_cell? w _ hx166_2)).trans hx166_2; replace hx166_3 := (HB.out.cell (World.block_lt_of_cell? w _ hx166_3)).trans hx166_3; have HR166_1 := Aside0.mk hi166_1; have HC166_1 := Aside0.mk hl166_1; clear hi166_1 hl166_1; replace p166 := eq_true p166; replace q166 := eq_true q166; have ea_ := Option.some.inj (hx163_1.symm.trans hx166_1); injection ea_ with ea_ en_ ec_; subst ea_; subst ec_; clear en_; have p167 : 0 ≤ (((rd_T38 l0 a4).f2) : Int) := of_decide_eq_true (by first | (with_reducible assumption) | assumption); have q167 : ((rd_T38 l0 a4).f2) < (l1.length : Int) := of_decide_eq_true (by first | (with_reducible assumption) | assumption); obtain ⟨ad167, e167, hx167_0⟩ := Kd.at_int HR1.out ((rd_T38 l0 a4).f2) p167 q167; cases e167; replace hx167_0 := (HB.out.cell (World.block_lt_of_cell? w _ hx167_0)).trans hx167_0; replace p167 := eq_true p167; replace q167 := eq_true q167)); try go_wp2_with (first | (go_at_call 53; (with_reducible refine (spec_runningAt.calls k1 _ _ l0 _ _ l3 x13_1 t160 _ ?side1 ?side2 ?side3 ?side4 A10.out).mono ?_); (case side1 => repeat (first | exact (Kd.C_below HR0.out HB.out) | (with_reducible refine Kd.C_alloc ?_ _) | (with_reducible refine Kd.C_drewN ?_ _) | (with_reducible refine Kd.C_drew ?_))); (case side2 => exact HC0.out); (case side3 => repeat (first | exact (Kd.C_below HR3.out HB.out) | (with_reducible refine Kd.C_alloc ?_ _) | (with_reducible refine Kd.C_drewN ?_ _) | (with_reducible refine Kd.C_drew ?_))); (case side4 => exact HC3.out); rintro e w18 ⟨v161, rfl, ho0, hb⟩; have n0_ := Aside0.mk (Kd.R_lower ho0 (below_size (by repeat (first | (with_reducible first | exact HB.out | apply below_alloc | apply pw_below_drewN | apply below_drew1) | exact HB.out)))); have n1_ := Aside0.mk (below_step (by repeat (first | (with_reducible first | exact HB.out | apply below_alloc | apply pw_below_drewN | apply below_drew1) | exact HB.out)) hb); clear HB; have HO162 := n0_; have HB := n1_; clear n0_ n1_; (try clear hb); (try clear hb2); (try clear hk); (try clear hi); (try clear ho0); obtain ⟨Ao19, co19, eo19⟩ := Kd.R_slice HO162.out; subst eo19; have p163 : 0 ≤ (a4 : Int) := of_decide_eq_true (by first | (with_reducible assumption) | assumption); have q163 : a4 < (l0.length : Int) := of_decide_eq_true (by first | (with_reducible assumption) | assumption); obtain ⟨ad163, A163_1, c163_1, e163, hx163_0, hx163_1, hx163_2, hx163_3, hl163_1, hi163_1⟩ := at_T38 HR0.out a4 p163 q163; obtain rfl : ad159 = ad163 := (by injection e163); replace hx163_0 := (HB.out.cell (World.block_lt_of_cell? w _ hx163_0)).trans hx163_0; replace hx163_1 := (HB.out.cell (World.block_lt_of_cell? w _ hx163_1)).trans hx163_1; replace hx163_2 := (HB.out.cell (World.block_lt_of_cell? w _ hx163_2)).trans hx163_2; replace hx163_3 := (HB.out.cell (World.block_lt_of_cell? w _ hx163_3)).trans hx163_3; have HR163_1 := Aside0.mk hi163_1; have HC163_1 := Aside0.mk hl163_1; clear hi163_1 hl163_1; replace p163 := eq_true p163; replace q163 := eq_true q163) | (go_at_call 54; (with_reducible refine (spec_used.calls k1 _ _ l0 _ _ t160 ((rd_T38 l0 a4).f2) t164 _ ?side1 ?side2 ?side3 ?side4 A14.out).mono ?_); (case side1 => repeat (first | exact (Kd.C_below HR0.out HB.out) | (with_reducible refine Kd.C_alloc ?_ _) | (with_reducible refine Kd.C_drewN ?_ _) | (with_reducible refine Kd.C_drew ?_))); (case side2 => exact HC0.out); (case side3 => repeat (first | exact (Kd.R_reads' HO162.out).2.2 | (with_reducible refine Kd.C_alloc ?_ _) | (with_reducible refine Kd.C_drewN ?_ _) | (with_reducible refine Kd.C_drew ?_))); (case side4 => exact (Kd.R_reads' HO162.out).2.1); rintro e w' ⟨rfl, ⟨nd, rfl⟩⟩; (try first | exact ⟨rfl, _, World.drewN_drewN _ _ _⟩ | exact ⟨rfl, _, Eq.trans (World.drewN_drewN _ _ _) (congrArg (World.drewN _) (Nat.add_assoc _ _ _))⟩); have p165 : 0 ≤ (a4 : Int) := of_decide_eq_true (by first | (with_reducible assumption) | assumption); have q165 : a4 < (l0.length : Int) := of_decide_eq_true (by first | (with_reducible assumption) | assumption); obtain ⟨ad165, A165_1, c165_1, e165, hx165_0, hx165_1, hx165_2, hx165_3, hl165_1, hi165_1⟩ := at_T38 HR0.out a4 p165 q165; obtain rfl : ad159 = ad165 := (by injection e165); replace hx165_0 := (HB.out.cell (World.block_lt_of_cell? w _ hx165_0)).trans hx165_0; replace hx165_1 := (HB.out.cell (World.block_lt_of_cell? w _ hx165_1)).trans hx165_1; replace hx165_2 := (HB.out.cell (World.block_lt_of_cell? w _ hx165_2)).trans hx165_2; replace hx165_3 := (HB.out.cell (World.block_lt_of_cell? w _ hx165_3)).trans hx165_3; have HR165_1 := Aside0.mk hi165_1; have HC165_1 := Aside0.mk hl165_1; clear hi165_1 hl165_1; replace p165 := eq_true p165; replace q165 := eq_true q165; have ea_ := Option.some.inj (hx163_1.symm.trans hx165_1); injection ea_ with ea_ en_ ec_; subst ea_; subst ec_; clear en_; have p166 : 0 ≤ (a4 : Int) := of_decide_eq_true (by first | (with_reducible assumption) | assumption); have q166 : a4 < (l0.length : Int) := of_decide_eq_true (by first | (with_reducible assumption) | assumption); obtain ⟨ad166, A166_1, c166_1, e166, hx166_0, hx166_1, hx166_2, hx166_3, hl166_1, hi166_1⟩ := at_T38 HR0.out a4 p166 q166; obtain rfl : ad159 = ad166 := (by injection e166); replace hx166_0 := (HB.out.cell (World.block_lt_of_cell? w _ hx166_0)).trans hx166_0; replace hx166_1 := (HB.out.cell (World.block_lt_of_cell? w _ hx166_1)).trans hx166_1; replace hx166_2 := (HB.out.cell (World.block_lt_of_cell? w _ hx166_2)).trans hx166_2; replace hx166_3 := (HB.out.cell (World.block_lt_of_cell? w _ hx166_3)).trans hx166_3; have HR166_1 := Aside0.mk hi166_1; have HC166_1 := Aside0.mk hl166_1; clear hi166_1 hl166_1; replace p166 := eq_true p166; replace q166 := eq_true q166; have ea_ := Option.some.inj (hx163_1.symm.trans hx166_1); injection ea_ with ea_ en_ ec_; subst ea_; subst ec_; clear en_; have p167 : 0 ≤ (((rd_T38 l0 a4).f2) : Int) := of_decide_eq_true (by first | (with_reducible assumption) | assumption); have q167 : ((rd_T38 l0 a4).f2) < (l1.length : Int) := of_decide_eq_true (by first | (with_reducible assumption) | assumption); obtain ⟨ad167, e167, hx167_0⟩ := Kd.at_int HR1.out ((rd_T38 l0 a4).f2) p167 q167; cases e167; replace hx167_0 := (HB.out.cell (World.block_lt_of_cell? w _ hx167_0)).trans hx167_0; replace p167 := eq_true p167; replace q167 := eq_true q167)))
          go_ret
          exact ⟨by first | rfl | (simp [errW_none, errW_some] <;> rfl) | (simp [*, errW_none, errW_some] <;> rfl), by repeat (first | (with_reducible first | exact HB.out | apply below_alloc | apply pw_below_drewN | apply below_drew1) | exact HB.out)⟩
         ·rw [if_neg c17] at H
          have c17b0 : decide ((rd l1 ((rd_T38 l0 a4).f2)) < (wrap64 (t164 + ((rd_T38 l0 a4).f3)))) = false := decide_eq_false c17
          have c17b0w : decide ((rd l1 ((rd_T38 l0 a4).f2)) < (IntKind.i64.wrap (t164 + ((rd_T38 l0 a4).f3)))) = false := by rw [i64_w]; exact c17b0
          clear c17
          have H' := Aside0.mk H
          clear H
          have p159 : 0 ≤ (a4 : Int) := of_decide_eq_true (by first | (with_reducible assumption) | assumption)
          have q159 : a4 < (l0.length : Int) := of_decide_eq_true (by first | (with_reducible assumption) | assumption)
          obtain ⟨ad159, A159_1, c159_1, e159, hx159_0, hx159_1, hx159_2, hx159_3, hl159_1, hi159_1⟩ := at_T38 HR0.out a4 p159 q159
          cases e159
          (try replace hx159_0 := (HB.out.cell (World.block_lt_of_cell? w _ hx159_0)).trans hx159_0)
          (try replace hx159_1 := (HB.out.cell (World.block_lt_of_cell? w _ hx159_1)).trans hx159_1)
          (try replace hx159_2 := (HB.out.cell (World.block_lt_of_cell? w _ hx159_2)).trans hx159_2)
          (try replace hx159_3 := (HB.out.cell (World.block_lt_of_cell? w _ hx159_3)).trans hx159_3)
          have HR159_1 := Aside0.mk hi159_1
          have HC159_1 := Aside0.mk hl159_1
          clear hi159_1 hl159_1
          replace p159 := eq_true p159
          replace q159 := eq_true q159
          go_wp2_with (first | (go_at_call 53; (with_reducible refine (spec_runningAt.calls k1 _ _ l0 _ _ l3 x13_1 t160 _ ?side1 ?side2 ?side3 ?side4 A10.out).mono ?_); (case side1 => repeat (first | exact (Kd.C_below HR0.out HB.out) | (with_reducible refine Kd.C_alloc ?_ _) | (with_reducible refine Kd.C_drewN ?_ _) | (with_reducible refine Kd.C_drew ?_))); (case side2 => exact HC0.out); (case side3 => repeat (first | exact (Kd.C_below HR3.out HB.out) | (with_reducible refine Kd.C_alloc ?_ _) | (with_reducible refine Kd.C_drewN ?_ _) | (with_reducible refine Kd.C_drew ?_))); (case side4 => exact HC3.out); rintro e w20 ⟨v161, rfl, ho0, hb⟩; have n0_ := Aside0.mk (Kd.R_lower ho0 (below_size HB.out)); have n1_ := Aside0.mk (below_step HB.out hb); clear HB; have HO162 := n0_; have HB := n1_; clear n0_ n1_; (try clear hb); (try clear hb2); (try clear hk); (try clear hi); (try clear ho0); obtain ⟨Ao21, co21, eo21⟩ := Kd.R_slice HO162.out; subst eo21; have p163 : 0 ≤ (a4 : Int) := of_decide_eq_true (by first | (with_reducible assumption) | assumption); have q163 : a4 < (l0.length : Int) := of_decide_eq_true (by first | (with_reducible assumption) | assumption); obtain ⟨ad163, A163_1, c163_1, e163, hx163_0, hx163_1, hx163_2, hx163_3, hl163_1, hi163_1⟩ := at_T38 HR0.out a4 p163 q163; obtain rfl : ad159 = ad163 := (by injection e163); replace hx163_0 := (HB.out.cell (World.block_lt_of_cell? w _ hx163_0)).trans hx163_0; replace hx163_1 := (HB.out.cell (World.block_lt_of_cell? w _ hx163_1)).trans hx163_1; replace hx163_2 := (HB.out.cell (World.block_lt_of_cell? w _ hx163_2)).trans hx163_2; replace hx163_3 := (HB.out.cell (World.block_lt_of_cell? w _ hx163_3)).trans hx163_3; have HR163_1 := Aside0.mk hi163_1; have HC163_1 := Aside0.mk hl163_1; clear hi163_1 hl163_1; replace p163 := eq_true p163; replace q163 := eq_true q163) | (go_at_call 54; (with_reducible refine (spec_used.calls k1 _ _ l0 _ _ t160 ((rd_T38 l0 a4).f2) t164 _ ?side1 ?side2 ?side3 ?side4 A14.out).mono ?_); (case side1 => repeat (first | exact (Kd.C_below HR0.out HB.out) | (with_reducible refine Kd.C_alloc ?_ _) | (with_reducible refine Kd.C_drewN ?_ _) | (with_reducible refine Kd.C_drew ?_))); (case side2 => exact HC0.out); (case side3 => exact (Kd.R_reads' HO162.out).2.2); (case side4 => exact (Kd.R_reads' HO162.out).2.1); rintro e w' ⟨rfl, ⟨nd, rfl⟩⟩; (try first | exact ⟨rfl, _, World.drewN_drewN _ _ _⟩ | exact ⟨rfl, _, Eq.trans (World.drewN_drewN _ _ _) (congrArg (World.drewN _) (Nat.add_assoc _ _ _))⟩); have p165 : 0 ≤ (a4 : Int) := of_decide_eq_true (by first | (with_reducible assumption) | assumption); have q165 : a4 < (l0.length : Int) := of_decide_eq_true (by first | (with_reducible assumption) | assumption); obtain ⟨ad165, A165_1, c165_1, e165, hx165_0, hx165_1, hx165_2, hx165_3, hl165_1, hi165_1⟩ := at_T38 HR0.out a4 p165 q165; obtain rfl : ad159 = ad165 := (by injection e165); replace hx165_0 := (HB.out.cell (World.block_lt_of_cell? w _ hx165_0)).trans hx165_0; replace hx165_1 := (HB.out.cell (World.block_lt_of_cell? w _ hx165_1)).trans hx165_1; replace hx165_2 := (HB.out.cell (World.block_lt_of_cell? w _ hx165_2)).trans hx165_2; replace hx165_3 := (HB.out.cell (World.block_lt_of_cell? w _ hx165_3)).trans hx165_3; have HR165_1 := Aside0.mk hi165_1; have HC165_1 := Aside0.mk hl165_1; clear hi165_1 hl165_1; replace p165 := eq_true p165; replace q165 := eq_true q165; have ea_ := Option.some.inj (hx163_1.symm.trans hx165_1); injection ea_ with ea_ en_ ec_; subst ea_; subst ec_; clear en_; have p166 : 0 ≤ (a4 : Int) := of_decide_eq_true (by first | (with_reducible assumption) | assumption); have q166 : a4 < (l0.length : Int) := of_decide_eq_true (by first | (with_reducible assumption) | assumption); obtain ⟨ad166, A166_1, c166_1, e166, hx166_0, hx166_1, hx166_2, hx166_3, hl166_1, hi166_1⟩ := at_T38 HR0.out a4 p166 q166; obtain rfl : ad159 = ad166 := (by injection e166); replace hx166_0 := (HB.out.cell (World.block_lt_of_cell? w _ hx166_0)).trans hx166_0; replace hx166_1 := (HB.out.cell (World.block_lt_of_cell? w _ hx166_1)).trans hx166_1; replace hx166_2 := (HB.out.cell (World.block_lt_of_cell? w _ hx166_2)).trans hx166_2; replace hx166_3 := (HB.out.cell (World.block_lt_of_cell? w _ hx166_3)).trans hx166_3; have HR166_1 := Aside0.mk hi166_1; have HC166_1 := Aside0.mk hl166_1; clear hi166_1 hl166_1; replace p166 := eq_true p166; replace q166 := eq_true q166; have ea_ := Option.some.inj (hx163_1.symm.trans hx166_1); injection ea_ with ea_ en_ ec_; subst ea_; subst ec_; clear en_; have p167 : 0 ≤ (((rd_T38 l0 a4).f2) : Int) := of_decide_eq_true (by first | (with_reducible assumption) | assumption); have q167 : ((rd_T38 l0 a4).f2) < (l1.length : Int) := of_decide_eq_true (by first | (with_reducible assumption) | assumption); obtain ⟨ad167, e167, hx167_0⟩ := Kd.at_int HR1.out ((rd_T38 l0 a4).f2) p167 q167; cases e167; replace hx167_0 := (HB.out.cell (World.block_lt_of_cell? w _ hx167_0)).trans hx167_0; replace p167 := eq_true p167; replace q167 := eq_true q167))
          repeat (go_quiet (first | (go_at_call 53; (with_reducible refine (spec_runningAt.calls k1 _ _ l0 _ _ l3 x13_1 t160 _ ?side1 ?side2 ?side3 ?side4 A10.out).mono ?_); (case side1 => repeat (first | exact (Kd.C_below HR0.out HB.out) | (with_reducible refine Kd.C_alloc ?_ _) | (with_reducible refine Kd.C_drewN ?_ _) | (with_reducible refine Kd.C_drew ?_))); (case side2 => exact HC0.out); (case side3 => repeat (first | exact (Kd.C_below HR3.out HB.out) | (with_reducible refine Kd.C_alloc ?_ _) | (with_reducible refine Kd.C_drewN ?_ _) | (with_reducible refine Kd.C_drew ?_))); (case side4 => exact HC3.out); rintro e w20 ⟨v161, rfl, ho0, hb⟩; have n0_ := Aside0.mk (Kd.R_lower ho0 (below_size (by repeat (first | (with_reducible first | exact HB.out | apply below_alloc | apply pw_below_drewN | apply below_drew1) | exact HB.out)))); have n1_ := Aside0.mk (below_step (by repeat (first | (with_reducible first | exact HB.out | apply below_alloc | apply pw_below_drewN | apply below_drew1) | exact HB.out)) hb); clear HB; have HO162 := n0_; have HB := n1_; clear n0_ n1_; (try clear hb); (try clear hb2); (try clear hk); (try clear hi); (try clear ho0); obtain ⟨Ao21, co21, eo21⟩ := Kd.R_slice HO162.out; subst eo21; have p163 : 0 ≤ (a4 : Int) := of_decide_eq_true (by first | (with_reducible assumption) | assumption); have q163 : a4 < (l0.length : Int) := of_decide_eq_true (by first | (with_reducible assumption) | assumption); obtain ⟨ad163, A163_1, c163_1, e163, hx163_0, hx163_1, hx163_2, hx163_3, hl163_1, hi163_1⟩ := at_T38 HR0.out a4 p163 q163; obtain rfl : ad159 = ad163 := (by injection e163); replace hx163_0 := (HB.out.cell (World.block_lt_of_cell? w _ hx163_0)).trans hx163_0; replace hx163_1 := (HB.out.cell (World.block_lt_of_cell? w _ hx163_1)).trans hx163_1; replace hx163_2 := (HB.out.cell (World.block_lt_of_cell? w _ hx163_2)).trans hx163_2; replace hx163_3 := (HB.out.cell (World.block_lt_of_cell? w _ hx163_3)).trans hx163_3; have HR163_1 := Aside0.mk hi163_1; have HC163_1 := Aside0.mk hl163_1; clear hi163_1 hl163_1; replace p163 := eq_true p163; replace q163 := eq_true q163) | (go_at_call 54; (with_reducible refine (spec_used.calls k1 _ _ l0 _ _ t160 ((rd_T38 l0 a4).f2) t164 _ ?side1 ?side2 ?side3 ?side4 A14.out).mono ?_); (case side1 => repeat (first | exact (Kd.C_below HR0.out HB.out) | (with_reducible refine Kd.C_alloc ?_ _) | (with_reducible refine Kd.C_drewN ?_ _) | (with_reducible refine Kd.C_drew ?_))); (case side2 => exact HC0.out); (case side3 => repeat (first | exact (Kd.R_reads' HO162.out).2.2 | (with_reducible refine Kd.C_alloc ?_ _) | (with_reducible refine Kd.C_drewN ?_ _) | (with_reducible refine Kd.C_drew ?_))); (case side4 => exact (Kd.R_reads' HO162.out).2.1); rintro e w' ⟨rfl, ⟨nd, rfl⟩⟩; (try first | exact ⟨rfl, _, World.drewN_drewN _ _ _⟩ | exact ⟨rfl, _, Eq.trans (World.drewN_drewN _ _ _) (congrArg (World.drewN _) (Nat.add_assoc _ _ _))⟩); have p165 : 0 ≤ (a4 : Int) := of_decide_eq_true (by first | (with_reducible assumption) | assumption); have q165 : a4 < (l0.length : Int) := of_decide_eq_true (by first | (with_reducible assumption) | assumption); obtain ⟨ad165, A165_1, c165_1, e165, hx165_0, hx165_1, hx165_2, hx165_3, hl165_1, hi165_1⟩ := at_T38 HR0.out a4 p165 q165; obtain rfl : ad159 = ad165 := (by injection e165); replace hx165_0 := (HB.out.cell (World.block_lt_of_cell? w _ hx165_0)).trans hx165_0; replace hx165_1 := (HB.out.cell (World.block_lt_of_cell? w _ hx165_1)).trans hx165_1; replace hx165_2 := (HB.out.cell (World.block_lt_of_cell? w _ hx165_2)).trans hx165_2; replace hx165_3 := (HB.out.cell (World.block_lt_of_cell? w _ hx165_3)).trans hx165_3; have HR165_1 := Aside0.mk hi165_1; have HC165_1 := Aside0.mk hl165_1; clear hi165_1 hl165_1; replace p165 := eq_true p165; replace q165 := eq_true q165; have ea_ := Option.some.inj (hx163_1.symm.trans hx165_1); injection ea_ with ea_ en_ ec_; subst ea_; subst ec_; clear en_; have p166 : 0 ≤ (a4 : Int) := of_decide_eq_true (by first | (with_reducible assumption) | assumption); have q166 : a4 < (l0.length : Int) := of_decide_eq_true (by first | (with_reducible assumption) | assumption); obtain ⟨ad166, A166_1, c166_1, e166, hx166_0, hx166_1, hx166_2, hx166_3, hl166_1, hi166_1⟩ := at_T38 HR0.out a4 p166 q166; obtain rfl : ad159 = ad166 := (by injection e166); replace hx166_0 := (HB.out.cell (World.block_lt_of_cell? w _ hx166_0)).trans hx166_0; replace hx166_1 := (HB.out.cell (World.block_lt_of_cell? w _ hx166_1)).trans hx166_1; replace hx166_2 := (HB.out.cell (World.block_lt_of_cell? w _ hx166_2)).trans hx166_2; replace hx166_3 := (HB.out.cell (World.block_lt_of_cell? w _ hx166_3)).trans hx166_3; have HR166_1 := Aside0.mk hi166_1; have HC166_1 := Aside0.mk hl166_1; clear hi166_1 hl166_1; replace p166 := eq_true p166; replace q166 := eq_true q166; have ea_ := Option.some.inj (hx163_1.symm.trans hx166_1); injection ea_ with ea_ en_ ec_; subst ea_; subst ec_; clear en_; have p167 : 0 ≤ (((rd_T38 l0 a4).f2) : Int) := of_decide_eq_true (by first | (with_reducible assumption) | assumption); have q167 : ((rd_T38 l0 a4).f2) < (l1.length : Int) := of_decide_eq_true (by first | (with_reducible assumption) | assumption); obtain ⟨ad167, e167, hx167_0⟩ := Kd.at_int HR1.out ((rd_T38 l0 a4).f2) p167 q167; cases e167; replace hx167_0 := (HB.out.cell (World.block_lt_of_cell? w _ hx167_0)).trans hx167_0; replace p167 := eq_true p167; replace q167 := eq_true q167)); try go_wp2_with (first | (go_at_call 53; (with_reducible refine (spec_runningAt.calls k1 _ _ l0 _ _ l3 x13_1 t160 _ ?side1 ?side2 ?side3 ?side4 A10.out).mono ?_); (case side1 => repeat (first | exact (Kd.C_below HR0.out HB.out) | (with_reducible refine Kd.C_alloc ?_ _) | (with_reducible refine Kd.C_drewN ?_ _) | (with_reducible refine Kd.C_drew ?_))); (case side2 => exact HC0.out); (case side3 => repeat (first | exact (Kd.C_below HR3.out HB.out) | (with_reducible refine Kd.C_alloc ?_ _) | (with_reducible refine Kd.C_drewN ?_ _) | (with_reducible refine Kd.C_drew ?_))); (case side4 => exact HC3.out); rintro e w20 ⟨v161, rfl, ho0, hb⟩; have n0_ := Aside0.mk (Kd.R_lower ho0 (below_size (by repeat (first | (with_reducible first | exact HB.out | apply below_alloc | apply pw_below_drewN | apply below_drew1) | exact HB.out)))); have n1_ := Aside0.mk (below_step (by repeat (first | (with_reducible first | exact HB.out | apply below_alloc | apply pw_below_drewN | apply below_drew1) | exact HB.out)) hb); clear HB; have HO162 := n0_; have HB := n1_; clear n0_ n1_; (try clear hb); (try clear hb2); (try clear hk); (try clear hi); (try clear ho0); obtain ⟨Ao21, co21, eo21⟩ := Kd.R_slice HO162.out; subst eo21; have p163 : 0 ≤ (a4 : Int) := of_decide_eq_true (by first | (with_reducible assumption) | assumption); have q163 : a4 < (l0.length : Int) := of_decide_eq_true (by first | (with_reducible assumption) | assumption); obtain ⟨ad163, A163_1, c163_1, e163, hx163_0, hx163_1, hx163_2, hx163_3, hl163_1, hi163_1⟩ := at_T38 HR0.out a4 p163 q163; obtain rfl : ad159 = ad163 := (by injection e163); replace hx163_0 := (HB.out.cell (World.block_lt_of_cell? w _ hx163_0)).trans hx163_0; replace hx163_1 := (HB.out.cell (World.block_lt_of_cell? w _ hx163_1)).trans hx163_1; replace hx163_2 := (HB.out.cell (World.block_lt_of_cell? w _ hx163_2)).trans hx163_2; replace hx163_3 := (HB.out.cell (World.block_lt_of_cell? w _ hx163_3)).trans hx163_3; have HR163_1 := Aside0.mk hi163_1; have HC163_1 := Aside0.mk hl163_1; clear hi163_1 hl163_1; replace p163 := eq_true p163; replace q163 := eq_true q163) | (go_at_call 54; (with_reducible refine (spec_used.calls k1 _ _ l0 _ _ t160 ((rd_T38 l0 a4).f2) t164 _ ?side1 ?side2 ?side3 ?side4 A14.out).mono ?_); (case side1 => repeat (first | exact (Kd.C_below HR0.out HB.out) | (with_reducible refine Kd.C_alloc ?_ _) | (with_reducible refine Kd.C_drewN ?_ _) | (with_reducible refine Kd.C_drew ?_))); (case side2 => exact HC0.out); (case side3 => repeat (first | exact (Kd.R_reads' HO162.out).2.2 | (with_reducible refine Kd.C_alloc ?_ _) | (with_reducible refine Kd.C_drewN ?_ _) | (with_reducible refine Kd.C_drew ?_))); (case side4 => exact (Kd.R_reads' HO162.out).2.1); rintro e w' ⟨rfl, ⟨nd, rfl⟩⟩; (try first | exact ⟨rfl, _, World.drewN_drewN _ _ _⟩ | exact ⟨rfl, _, Eq.trans (World.drewN_drewN _ _ _) (congrArg (World.drewN _) (Nat.add_assoc _ _ _))⟩); have p165 : 0 ≤ (a4 : Int) := of_decide_eq_true (by first | (with_reducible assumption) | assumption); have q165 : a4 < (l0.length : Int) := of_decide_eq_true (by first | (with_reducible assumption) | assumption); obtain ⟨ad165, A165_1, c165_1, e165, hx165_0, hx165_1, hx165_2, hx165_3, hl165_1, hi165_1⟩ := at_T38 HR0.out a4 p165 q165; obtain rfl : ad159 = ad165 := (by injection e165); replace hx165_0 := (HB.out.cell (World.block_lt_of_cell? w _ hx165_0)).trans hx165_0; replace hx165_1 := (HB.out.cell (World.block_lt_of_cell? w _ hx165_1)).trans hx165_1; replace hx165_2 := (HB.out.cell (World.block_lt_of_cell? w _ hx165_2)).trans hx165_2; replace hx165_3 := (HB.out.cell (World.block_lt_of_cell? w _ hx165_3)).trans hx165_3; have HR165_1 := Aside0.mk hi165_1; have HC165_1 := Aside0.mk hl165_1; clear hi165_1 hl165_1; replace p165 := eq_true p165; replace q165 := eq_true q165; have ea_ := Option.some.inj (hx163_1.symm.trans hx165_1); injection ea_ with ea_ en_ ec_; subst ea_; subst ec_; clear en_; have p166 : 0 ≤ (a4 : Int) := of_decide_eq_true (by first | (with_reducible assumption) | assumption); have q166 : a4 < (l0.length : Int) := of_decide_eq_true (by first | (with_reducible assumption) | assumption); obtain ⟨ad166, A166_1, c166_1, e166, hx166_0, hx166_1, hx166_2, hx166_3, hl166_1, hi166_1⟩ := at_T38 HR0.out a4 p166 q166; obtain rfl : ad159 = ad166 := (by injection e166); replace hx166_0 := (HB.out.cell (World.block_lt_of_cell? w _ hx166_0)).trans hx166_0; replace hx166_1 := (HB.out.cell (World.block_lt_of_cell? w _ hx166_1)).trans hx166_1; replace hx166_2 := (HB.out.cell (World.block_lt_of_cell? w _ hx166_2)).trans hx166_2; replace hx166_3 := (HB.out.cell (World.block_lt_of_cell? w _ hx166_3)).trans hx166_3; have HR166_1 := Aside0.mk hi166_1; have HC166_1 := Aside0.mk hl166_1; clear hi166_1 hl166_1; replace p166 := eq_true p166; replace q166 := eq_true q166; have ea_ := Option.some.inj (hx163_1.symm.trans hx166_1); injection ea_ with ea_ en_ ec_; subst ea_; subst ec_; clear en_; have p167 : 0 ≤ (((rd_T38 l0 a4).f2) : Int) := of_decide_eq_true (by first | (with_reducible assumption) | assumption); have q167 : ((rd_T38 l0 a4).f2) < (l1.length : Int) := of_decide_eq_true (by first | (with_reducible assumption) | assumption); obtain ⟨ad167, e167, hx167_0⟩ := Kd.at_int HR1.out ((rd_T38 l0 a4).f2) p167 q167; cases e167; replace hx167_0 := (HB.out.cell (World.block_lt_of_cell? w _ hx167_0)).trans hx167_0; replace p167 := eq_true p167; replace q167 := eq_true q167)))
          go_roundg k1
          case measure => have := HK1.out; omega
          case rel => exact ⟨(wrap64 (x13_1 + 1)), (by first | rfl | (simp; done) | (simp [*]; done)), H', ⟨by have := HK1.out; omega⟩, ⟨by repeat (first | (with_reducible first | exact HB.out | apply below_alloc | apply pw_below_drewN | apply below_drew1) | exact HB.out)⟩⟩
        ·rw [if_neg c16] at H
         exact absurd H (by simp)
       ·rw [if_neg c15] at H
        exact absurd H (by simp)
     ·rw [if_neg c9] at H
      have c9b0 : decide (x13_1 < (wrap64 (a5 + ((rd_T38 l0 a4).f0)))) = false := decide_eq_false c9
      clear c9
      obtain rfl := Option.some.inj H
      have p159 : 0 ≤ (a4 : Int) := of_decide_eq_true (by first | (with_reducible assumption) | assumption)
      have q159 : a4 < (l0.length : Int) := of_decide_eq_true (by first | (with_reducible assumption) | assumption)
      obtain ⟨ad159, A159_1, c159_1, e159, hx159_0, hx159_1, hx159_2, hx159_3, hl159_1, hi159_1⟩ := at_T38 HR0.out a4 p159 q159
      cases e159
      (try replace hx159_0 := (HB.out.cell (World.block_lt_of_cell? w _ hx159_0)).trans hx159_0)
      (try replace hx159_1 := (HB.out.cell (World.block_lt_of_cell? w _ hx159_1)).trans hx159_1)
      (try replace hx159_2 := (HB.out.cell (World.block_lt_of_cell? w _ hx159_2)).trans hx159_2)
      (try replace hx159_3 := (HB.out.cell (World.block_lt_of_cell? w _ hx159_3)).trans hx159_3)
      have HR159_1 := Aside0.mk hi159_1
      have HC159_1 := Aside0.mk hl159_1
      clear hi159_1 hl159_1
      replace p159 := eq_true p159
      replace q159 := eq_true q159
      go_wp2
      repeat (go_quiet (fail); try go_wp2)
      go_ret
      exact ⟨by first | rfl | (simp [errW_none, errW_some] <;> rfl) | (simp [*, errW_none, errW_some] <;> rfl), HB.out⟩
    ·rw [if_neg c8] at H
     exact absurd H (by simp)
   ·rw [if_neg c7] at H
    exact absurd H (by simp)
end Go.Proofs.YtnhkajanbfgbiaaDoor.P
end
section
namespace Go.Proofs.YtnhkajanbfgbiaaDoor.P
open Go.RowKit Go.Proofs.YtnhkajanbfgbiaaDoorW.PrintWords Go.Proofs.YtnhkajanbfgbiaaDoorW.PrintLast Go.Proofs.YtnhkajanbfgbiaaDoorW.PrintMore
attribute [local go_sem] max2_int min2_int max_two min_two max_three min_three max_four min_four   -- for this text's walks alone
set_option linter.unusedVariables false
set_option linter.unusedSimpArgs false
mutual
def spec_order.l0 : Nat → List (S38) → List Int → Int → List Int → List Int → Int → Option (List Int)
 | 0, _, _, _, _, _, _ => none
 | k + 1, x0, x1, x2, x3, x9, x10 => if x10 < (x9.length : Int) then (if 0 ≤ x10 then (spec_order.l0 k x0 x1 x2 x3 (x9.set (x10 : Int).toNat 200) (wrap64 (x10 + 1))) else (none)) else (spec_order.l1 k x0 x1 x2 x3 x9 0)
def spec_order.l1 : Nat → List (S38) → List Int → Int → List Int → List Int → Int → Option (List Int)
 | 0, _, _, _, _, _, _ => none
 | k + 1, x0, x1, x2, x3, x9, x11 => if x11 < (x3.length : Int) then (if 0 ≤ x11 then (spec_order.l2 k x0 x1 x2 x3 x9 x11 (rd x3 x11) 0 0) else (none)) else (some x9)
def spec_order.l2 : Nat → List (S38) → List Int → Int → List Int → List Int → Int → Int → Int → Int → Option (List Int)
 | 0, _, _, _, _, _, _, _, _, _ => none
 | k + 1, x0, x1, x2, x3, x9, x11, x12, x13, x14 => if 0 ≤ x12 then (if x12 < (x0.length : Int) then (if x14 < (((rd_T38 x0 x12).f1).length : Int) then (if 0 ≤ x14 then (if 0 ≤ (rd ((rd_T38 x0 x12).f1) x14) then (if (rd ((rd_T38 x0 x12).f1) x14) < (x9.length : Int) then (if (rd ((rd_T38 x0 x12).f1) x14) < (x0.length : Int) then (spec_order.l2 k x0 x1 x2 x3 x9 x11 x12 (mx x13 (wrap64 ((rd x9 (rd ((rd_T38 x0 x12).f1) x14)) + ((rd_T38 x0 (rd ((rd_T38 x0 x12).f1) x14)).f0)))) (wrap64 (x14 + 1))) else (none)) else (none)) else (none)) else (none)) else (spec_order.l3 k x0 x1 x2 x3 x9 x11 x12 x13)) else (none)) else (none)
def spec_order.l3 : Nat → List (S38) → List Int → Int → List Int → List Int → Int → Int → Int → Option (List Int)
 | 0, _, _, _, _, _, _, _, _ => none
 | k + 1, x0, x1, x2, x3, x9, x11, x12, x13 => (spec_fits.f k x0 x1 x2 x9 x12 x13).bind fun t180 => (if t180 = true then (if 0 ≤ x12 then (if x12 < (x9.length : Int) then (spec_order.l1 k x0 x1 x2 x3 (x9.set (x12 : Int).toNat x13) (wrap64 (x11 + 1))) else (none)) else (none)) else (spec_order.l3 k x0 x1 x2 x3 x9 x11 x12 (wrap64 (x13 + 1))))
end
def spec_order.f (k : Nat) (l0 : List (S38)) (l1 : List Int) (a2 : Int) (l3 : List Int) : Option (List Int) := if 0 ≤ (l0.length : Int) then (if ((l0.length : Int) : Int).toNat ≤ 35184372088832 then (spec_order.l0 k l0 l1 a2 l3 (List.replicate ((l0.length : Int) : Int).toNat 0) 0) else (none)) else (none)
theorem spec_order.mono_l : ∀ k, (∀ y0 y1 y2 y3 y4 y5, LeO (spec_order.l0 k y0 y1 y2 y3 y4 y5) (spec_order.l0 (k + 1) y0 y1 y2 y3 y4 y5)) ∧ (∀ y0 y1 y2 y3 y4 y5, LeO (spec_order.l1 k y0 y1 y2 y3 y4 y5) (spec_order.l1 (k + 1) y0 y1 y2 y3 y4 y5)) ∧ (∀ y0 y1 y2 y3 y4 y5 y6 y7 y8, LeO (spec_order.l2 k y0 y1 y2 y3 y4 y5 y6 y7 y8) (spec_order.l2 (k + 1) y0 y1 y2 y3 y4 y5 y6 y7 y8)) ∧ (∀ y0 y1 y2 y3 y4 y5 y6 y7, LeO (spec_order.l3 k y0 y1 y2 y3 y4 y5 y6 y7) (spec_order.l3 (k + 1) y0 y1 y2 y3 y4 y5 y6 y7))
 | 0 => ⟨fun _ _ _ _ _ _ r h => by simp [spec_order.l0] at h, fun _ _ _ _ _ _ r h => by simp [spec_order.l1] at h, fun _ _ _ _ _ _ _ _ _ r h => by simp [spec_order.l2] at h, fun _ _ _ _ _ _ _ _ r h => by simp [spec_order.l3] at h⟩
 | k + 1 => by
  obtain ⟨ih0, ih1, ih2, ih3⟩ := spec_order.mono_l k
  refine ⟨?_, ?_, ?_, ?_⟩
  ·intro y0 y1 y2 y3 y4 y5
   unfold spec_order.l0
   repeat' first
   | (with_reducible exact ih0 _ _ _ _ _ _)
   | (with_reducible exact ih1 _ _ _ _ _ _)
   | (with_reducible exact ih2 _ _ _ _ _ _ _ _ _)
   | (with_reducible exact ih3 _ _ _ _ _ _ _ _)
   | (with_reducible exact spec_fits.mono _ _ _ _ _ _ _)
   | (with_reducible exact LeO.refl _)
   | (with_reducible exact LeO.none _)
   | (with_reducible refine LeO.ite ?_ ?_)
   | (with_reducible refine LeO.bind ?_ (fun _ => ?_))
   | exact ih0 _ _ _ _ _ _
   | exact ih1 _ _ _ _ _ _
   | exact ih2 _ _ _ _ _ _ _ _ _
   | exact ih3 _ _ _ _ _ _ _ _
   | exact spec_fits.mono _ _ _ _ _ _ _
   | exact LeO.none _
   | refine LeO.ite ?_ ?_
   | refine LeO.bind ?_ (fun _ => ?_)
  ·intro y0 y1 y2 y3 y4 y5
   unfold spec_order.l1
   repeat' first
   | (with_reducible exact ih0 _ _ _ _ _ _)
   | (with_reducible exact ih1 _ _ _ _ _ _)
   | (with_reducible exact ih2 _ _ _ _ _ _ _ _ _)
   | (with_reducible exact ih3 _ _ _ _ _ _ _ _)
   | (with_reducible exact spec_fits.mono _ _ _ _ _ _ _)
   | (with_reducible exact LeO.refl _)
   | (with_reducible exact LeO.none _)
   | (with_reducible refine LeO.ite ?_ ?_)
   | (with_reducible refine LeO.bind ?_ (fun _ => ?_))
   | exact ih0 _ _ _ _ _ _
   | exact ih1 _ _ _ _ _ _
   | exact ih2 _ _ _ _ _ _ _ _ _
   | exact ih3 _ _ _ _ _ _ _ _
   | exact spec_fits.mono _ _ _ _ _ _ _
   | exact LeO.none _
   | refine LeO.ite ?_ ?_
   | refine LeO.bind ?_ (fun _ => ?_)
  ·intro y0 y1 y2 y3 y4 y5 y6 y7 y8
   unfold spec_order.l2
   repeat' first
   | (with_reducible exact ih0 _ _ _ _ _ _)
   | (with_reducible exact ih1 _ _ _ _ _ _)
   | (with_reducible exact ih2 _ _ _ _ _ _ _ _ _)
   | (with_reducible exact ih3 _ _ _ _ _ _ _ _)
   | (with_reducible exact spec_fits.mono _ _ _ _ _ _ _)
   | (with_reducible exact LeO.refl _)
   | (with_reducible exact LeO.none _)
   | (with_reducible refine LeO.ite ?_ ?_)
   | (with_reducible refine LeO.bind ?_ (fun _ => ?_))
   | exact ih0 _ _ _ _ _ _
   | exact ih1 _ _ _ _ _ _
   | exact ih2 _ _ _ _ _ _ _ _ _
   | exact ih3 _ _ _ _ _ _ _ _
   | exact spec_fits.mono _ _ _ _ _ _ _
   | exact LeO.none _
   | refine LeO.ite ?_ ?_
   | refine LeO.bind ?_ (fun _ => ?_)
  ·intro y0 y1 y2 y3 y4 y5 y6 y7
   unfold spec_order.l3
   repeat' first
   | (with_reducible exact ih0 _ _ _ _ _ _)
   | (with_reducible exact ih1 _ _ _ _ _ _)
   | (with_reducible exact ih2 _ _ _ _ _ _ _ _ _)
   | (with_reducible exact ih3 _ _ _ _ _ _ _ _)
   | (with_reducible exact spec_fits.mono _ _ _ _ _ _ _)
   | (with_reducible exact LeO.refl _)
   | (with_reducible exact LeO.none _)
   | (with_reducible refine LeO.ite ?_ ?_)
   | (with_reducible refine LeO.bind ?_ (fun _ => ?_))
   | exact ih0 _ _ _ _ _ _
   | exact ih1 _ _ _ _ _ _
   | exact ih2 _ _ _ _ _ _ _ _ _
   | exact ih3 _ _ _ _ _ _ _ _
   | exact spec_fits.mono _ _ _ _ _ _ _
   | exact LeO.none _
   | refine LeO.ite ?_ ?_
   | refine LeO.bind ?_ (fun _ => ?_)
theorem spec_order.mono : ∀ a0 a1 a2 a3 k, LeO (spec_order.f k a0 a1 a2 a3) (spec_order.f (k + 1) a0 a1 a2 a3) := by
 intro a0 a1 a2 a3 k
 obtain ⟨ih0, ih1, ih2, ih3⟩ := spec_order.mono_l k
 unfold spec_order.f
 repeat' first
   | (with_reducible exact ih0 _ _ _ _ _ _)
   | (with_reducible exact ih1 _ _ _ _ _ _)
   | (with_reducible exact ih2 _ _ _ _ _ _ _ _ _)
   | (with_reducible exact ih3 _ _ _ _ _ _ _ _)
   | (with_reducible exact spec_fits.mono _ _ _ _ _ _ _)
   | (with_reducible exact LeO.refl _)
   | (with_reducible exact LeO.none _)
   | (with_reducible refine LeO.ite ?_ ?_)
   | (with_reducible refine LeO.bind ?_ (fun _ => ?_))
   | exact ih0 _ _ _ _ _ _
   | exact ih1 _ _ _ _ _ _
   | exact ih2 _ _ _ _ _ _ _ _ _
   | exact ih3 _ _ _ _ _ _ _ _
   | exact spec_fits.mono _ _ _ _ _ _ _
   | exact LeO.none _
   | refine LeO.ite ?_ ?_
   | refine LeO.bind ?_ (fun _ => ?_)
set_option maxHeartbeats 8000000 in
set_option maxRecDepth 100000 in
theorem spec_order.calls (k : Nat) (A0 : Option Addr) (c0 : Nat) (l0 : List (S38)) (A1 : Option Addr) (c1 : Nat) (l1 : List Int) (a2 : Int) (A3 : Option Addr) (c3 : Nat) (l3 : List Int) (r : List Int) (w : World) (hr0 : Kd.C k38 w A0 l0.length l0) (hc0 : l0.length ≤ c0) (hr1 : Kd.C (Kd.int .i64) w A1 l1.length l1) (hc1 : l1.length ≤ c1) (hr3 : Kd.C (Kd.int .i64) w A3 l3.length l3) (hc3 : l3.length ≤ c3) (h : spec_order.f k l0 l1 a2 l3 = some r) :
  Calls Tryd.prog 20 #[.slice A0 l0.length c0, .slice A1 l1.length c1, .int .i64 a2, .slice A3 l3.length c3] w fun e w' => ∃ v0_ : Value, e = .returned (v0_) ∧ Kd.R (Kd.int .i64) 3 w' w.heap.size (fun _ => True) v0_ r ∧ Below w.heap.size w w' := by
 have HR0 := Aside0.mk hr0
 have HC0 := Aside0.mk hc0
 clear hr0 hc0
 have HR1 := Aside0.mk hr1
 have HC1 := Aside0.mk hc1
 clear hr1 hc1
 have HR3 := Aside0.mk hr3
 have HC3 := Aside0.mk hc3
 clear hr3 hc3
 have HB := Aside0.mk (Below.refl w.heap.size w)
 have H : (if 0 ≤ (l0.length : Int) then (if ((l0.length : Int) : Int).toNat ≤ 35184372088832 then (spec_order.l0 k l0 l1 a2 l3 (List.replicate ((l0.length : Int) : Int).toNat 0) 0) else (none)) else (none)) = some r := h
 clear h
 by_cases c5 : 0 ≤ (l0.length : Int)
 ·rw [if_pos c5] at H
  have c5b0 := eq_true c5
  have c5b1 : decide (0 ≤ (l0.length : Int)) = true := decide_eq_true c5
  clear c5
  by_cases c6 : ((l0.length : Int) : Int).toNat ≤ 35184372088832
  ·rw [if_pos c6] at H
   have c6b0 := eq_true c6
   have c6b1 : decide (((l0.length : Int) : Int).toNat ≤ 35184372088832) = true := decide_eq_true c6
   clear c6
   obtain ⟨y168, hy168⟩ : ∃ y_ : List Int, y_ = (List.replicate ((l0.length : Int) : Int).toNat 0) := ⟨_, rfl⟩
   replace H : (spec_order.l0 k l0 l1 a2 l3 y168 0) = some r := by first | (rw [hy168]; with_reducible exact H) | (have H2_ := (Option.bind_some _ _).symm.trans H; rw [hy168]; with_reducible exact H2_) | (have H2_ := (Option.bind_some _ _).symm.trans H; with_reducible exact H2_) | with_reducible exact H | (rw [hy168]; exact H) | exact H
   have Ny168 := Aside0.mk hy168
   clear hy168
   have H' := Aside0.mk H
   clear H
   go_enter Tryd.func20, Tryd.ntmps20
   go_wp2_with (first | ((with_reducible refine gate_dst (N := 17) rfl ?_); refine Kd.R_make (Kd.int .i64) _ 3 rfl (N := 17) rfl 23 _ _ rfl (l0.length : Int) rfl rfl Tryd.underlying23 (.int .i64 0) 8 info3 rfl (by decide) (by omega) 0 (ok := fun _ => True) (okp := fun _ => True) rfl (fun _ hk => hk) trivial (of_decide_eq_true (by first | (with_reducible assumption) | assumption)) (Nat.le_trans (Nat.mul_le_mul_right _ (of_decide_eq_true (by first | (with_reducible assumption) | assumption) : (l0.length : Int).toNat ≤ 35184372088832)) (by omega)) (Below.refl _ _) (Nat.le_refl _) ?_; intro v169 w7 ho8 hb hg_ hnew_; clear hg_ hnew_; (first | rw [← Ny168.out] at ho8 | (simp only [Int.reduceToNat] at ho8; rw [← Ny168.out] at ho8)); have n0_ := Aside0.mk (Kd.R_lower ho8 (below_size HB.out)); have n1_ := Aside0.mk (below_step HB.out hb); clear HB; have HO170 := n0_; have HB := n1_; clear n0_ n1_; clear hb ho8))
   go_loopg [10] k (fun kq v10 w' => ∃ (x9_1 : List Int) (x10_1 : Int), v10 = .int .i64 x10_1 ∧ Aside0 (spec_order.l0 kq l0 l1 a2 l3 x9_1 x10_1 = some r) ∧ Aside0 (kq ≤ k) ∧ Aside0 (Kd.R (Kd.int .i64) 3 w' w.heap.size (fun _ => True) v169 x9_1) ∧ Aside0 (Below w.heap.size w w'))
   case atStart => exact ⟨(y168), (0), (by first | rfl | (simp; done) | (simp [*]; done)), H', ⟨Nat.le_refl _⟩, ⟨HO170.out⟩, ⟨HB.out⟩⟩
   case round =>
    clear H'
    try clear c1
    try clear c2
    try clear p2
    try clear c3
    try clear c5
    try clear c5b0
    try clear c5b1
    try clear c6
    try clear c6b0
    try clear c6b1
    obtain ⟨x9_1, x10_1, rfl, HA, HK1, HO_9, HB⟩ := hrel
    cases gk with
    | zero => exact absurd HA.out (by simp [spec_order.l0])
    | succ k1 =>
     have H := HA.out
     clear HA
     simp only [spec_order.l0] at H
     by_cases c9 : x10_1 < (x9_1.length : Int)
     ·rw [if_pos c9] at H
      have c9b0 : decide (x10_1 < (x9_1.length : Int)) = true := decide_eq_true c9
      clear c9
      by_cases c10 : 0 ≤ x10_1
      ·rw [if_pos c10] at H
       have c10b0 : decide (0 ≤ x10_1) = true := decide_eq_true c10
       clear c10
       obtain ⟨y171, hy171⟩ : ∃ y_ : List Int, y_ = (x9_1.set (x10_1 : Int).toNat 200) := ⟨_, rfl⟩
       replace H : (spec_order.l0 k1 l0 l1 a2 l3 y171 (wrap64 (x10_1 + 1))) = some r := by first | (rw [hy171]; with_reducible exact H) | (have H2_ := (Option.bind_some _ _).symm.trans H; rw [hy171]; with_reducible exact H2_) | (have H2_ := (Option.bind_some _ _).symm.trans H; with_reducible exact H2_) | with_reducible exact H | (rw [hy171]; exact H) | exact H
       have Ny171 := Aside0.mk hy171
       clear hy171
       have H' := Aside0.mk H
       clear H
       obtain ⟨Ao12, co12, eo12⟩ := Kd.R_slice HO_9.out
       subst eo12
       have p11 : 0 ≤ (x10_1 : Int) := of_decide_eq_true (by first | (with_reducible assumption) | assumption)
       have q11 : (x10_1 : Int) < ((x9_1.length : Int) : Int) := of_decide_eq_true (by first | (with_reducible assumption) | assumption)
       obtain ⟨go11, co11, eo11, gb11, gl11, cl11, HG11⟩ := Kd.R_form HO_9.out (by omega)
       (first | cases eo11 | (injection eo11 with ea_ en_ ec_; (first | subst ea_ | (injection ea_ with ea_; subst ea_)); subst ec_; clear en_))
       have GB11 := Aside0.mk gb11
       have GG11 := Aside0.mk HG11
       clear gb11 gl11 HG11
       obtain ⟨hx11_0, hf11_0⟩ := Kd.R_celln 0 HO_9.out (x10_1 : Int) p11 q11
       replace p11 := eq_true p11
       replace q11 := eq_true q11
       have HP13 := Kd.R_putg HO_9.out (x10_1 : Int) 200
       go_wp2_with (first | ((with_reducible refine gate_store (t := 3) (p := 26) rfl ?_); (try (rw [drewN_self wr]; generalize hq_ : World.drewN wr _ = wr; have n0_ := Aside0.mk (Kd.R_at hq_ HO_9.out); have n1_ := Aside0.mk (below_at hq_ HB.out); clear hq_ HO_9 HB; have HO_9 := n0_; have HB := n1_; clear n0_ n1_; (try (have HP13 := Kd.R_putg HO_9.out (x10_1 : Int) 200)))); refine store_event (t := 3) (p := 26) (v := ?vo_w14) (w1 := (wr.setCell ⟨go11, (x10_1 : Int).toNat, none⟩ (.int .i64 200))) ?hg ?ho ?hn ?hr ?_; (case ho => rfl); (case hg => rfl); (case hn => rfl); (case hr => (first | (go_simp; done) | (go_simp; rfl))); intro w14 hw; have hg : wr.grownBy w14 (some go11) := (by rw [hw]; exact HP13.2); have hp_ : Kd.R (Kd.int .i64) 3 w14 w.heap.size (fun _ => True) (.slice (some ⟨go11, 0, none⟩) x9_1.length co12) y171 := (by rw [hw, Ny171.out]; exact HP13.1); clear HP13; have n0_ := Aside0.mk (hp_); have n1_ := Aside0.mk ((by rw [hw]; exact below_set (HB.out) GB11.out : Below w.heap.size w w14)); clear HO_9; clear HB; have HO_9 := n0_; have HB := n1_; clear n0_ n1_; clear hg hw hp_))
       go_roundg k1
       case measure => have := HK1.out; omega
       case rel => exact ⟨(y171), (wrap64 (x10_1 + 1)), (by first | rfl | (simp; done) | (simp [*]; done)), H', ⟨by have := HK1.out; omega⟩, ⟨HO_9.out⟩, ⟨HB.out⟩⟩
      ·rw [if_neg c10] at H
       exact absurd H (by simp)
     ·rw [if_neg c9] at H
      have c9b0 : decide (x10_1 < (x9_1.length : Int)) = false := decide_eq_false c9
      clear c9
      have H' := Aside0.mk H
      clear H
      obtain ⟨Ao15, co15, eo15⟩ := Kd.R_slice HO_9.out
      subst eo15
      go_wp2
      repeat (go_quiet (fail); try go_wp2)
      go_loopg [11] k1 (fun kq v11 w' => ∃ (x9_2 : List Int) (x11_2 : Int), v11 = .int .i64 x11_2 ∧ Aside0 (spec_order.l1 kq l0 l1 a2 l3 x9_2 x11_2 = some r) ∧ Aside0 (kq ≤ k1) ∧ Aside0 (Kd.R (Kd.int .i64) 3 w' w.heap.size (fun _ => True) (.slice Ao15 x9_1.length co15) x9_2) ∧ Aside0 (Below w.heap.size w w'))
      case atStart => exact ⟨(x9_1), (0), (by first | rfl | (simp; done) | (simp [*]; done)), H', ⟨Nat.le_refl _⟩, ⟨HO_9.out⟩, ⟨HB.out⟩⟩
      case round =>
       clear H'
       try clear c1
       try clear p1
       try clear q1
       try clear hx1
       try clear c2
       try clear p2
       try clear c3
       try clear c5
       try clear c5b0
       try clear c5b1
       try clear c6
       try clear c6b0
       try clear c6b1
       try clear p6
       try clear c9
       try clear c9b0
       try clear c10
       try clear c10b0
       try clear p11
       try clear q11
       try clear hx11
       try clear hf11
       try clear hx11_0
       try clear p11
       try clear p2
       try clear q11
       obtain ⟨x9_2, x11_2, rfl, HA, HK2, HO_9, HB⟩ := hrel
       have hl9_2 := (Kd.R_reads' HO_9.out).1
       rw [hl9_2] at HO_9
       (try simp only [hl9_2])
       cases gk with
       | zero => exact absurd HA.out (by simp [spec_order.l1])
       | succ k2 =>
        have H := HA.out
        clear HA
        simp only [spec_order.l1] at H
        by_cases c16 : x11_2 < (l3.length : Int)
        ·rw [if_pos c16] at H
         have c16b0 : decide (x11_2 < (l3.length : Int)) = true := decide_eq_true c16
         clear c16
         by_cases c17 : 0 ≤ x11_2
         ·rw [if_pos c17] at H
          have c17b0 : decide (0 ≤ x11_2) = true := decide_eq_true c17
          clear c17
          have H' := Aside0.mk H
          clear H
          have p172 : 0 ≤ (x11_2 : Int) := of_decide_eq_true (by first | (with_reducible assumption) | assumption)
          have q172 : x11_2 < (l3.length : Int) := of_decide_eq_true (by first | (with_reducible assumption) | assumption)
          obtain ⟨ad172, e172, hx172_0⟩ := Kd.at_int HR3.out x11_2 p172 q172
          cases e172
          (try replace hx172_0 := (HB.out.cell (World.block_lt_of_cell? w _ hx172_0)).trans hx172_0)
          replace p172 := eq_true p172
          replace q172 := eq_true q172
          go_wp2
          repeat (go_quiet (fail); try go_wp2)
          go_loopg [13, 14] k2 (fun kq v13 v14 w' => ∃ (x13_3 : Int) (x14_3 : Int), v13 = .int .i64 x13_3 ∧ v14 = .int .i64 x14_3 ∧ Aside0 (spec_order.l2 kq l0 l1 a2 l3 x9_2 x11_2 (rd l3 x11_2) x13_3 x14_3 = some r) ∧ Aside0 (kq ≤ k2) ∧ Aside0 (Kd.R (Kd.int .i64) 3 w' w.heap.size (fun _ => True) (.slice Ao15 x9_2.length co15) x9_2) ∧ Aside0 (Below w.heap.size w w'))
          case atStart => exact ⟨(0), (0), (by first | rfl | (simp; done) | (simp [*]; done)), (by first | rfl | (simp; done) | (simp [*]; done)), H', ⟨Nat.le_refl _⟩, ⟨by (try simp only [hl9_2]); (with_reducible repeat (first | apply Kd.R_alloc | apply Kd.R_drewN | apply Kd.R_drew)); exact HO_9.out⟩, ⟨HB.out⟩⟩
          case round =>
           clear H'
           try clear c1
           try clear p1
           try clear q1
           try clear hx1
           try clear c2
           try clear p2
           try clear c3
           try clear c5
           try clear c5b0
           try clear c5b1
           try clear c6
           try clear c6b0
           try clear c6b1
           try clear p6
           try clear c9
           try clear c9b0
           try clear c10
           try clear c10b0
           try clear p11
           try clear q11
           try clear hx11
           try clear hf11
           try clear c16
           try clear c16b0
           try clear c17
           try clear c17b0
           try clear p17
           try clear q17
           try clear hx17
           try clear hx11_0
           try clear hx172_0
           try clear p1
           try clear p11
           try clear p172
           try clear p2
           try clear p6
           try clear q1
           try clear q11
           try clear q172
           obtain ⟨x13_3, x14_3, rfl, rfl, HA, HK3, HO_9, HB⟩ := hrel
           cases gk with
           | zero => exact absurd HA.out (by simp [spec_order.l2])
           | succ k3 =>
            have H := HA.out
            clear HA
            simp only [spec_order.l2] at H
            by_cases c18 : 0 ≤ (rd l3 x11_2)
            ·rw [if_pos c18] at H
             have c18b0 : decide (0 ≤ (rd l3 x11_2)) = true := decide_eq_true c18
             clear c18
             by_cases c19 : (rd l3 x11_2) < (l0.length : Int)
             ·rw [if_pos c19] at H
              have c19b0 : decide ((rd l3 x11_2) < (l0.length : Int)) = true := decide_eq_true c19
              clear c19
              by_cases c20 : x14_3 < (((rd_T38 l0 (rd l3 x11_2)).f1).length : Int)
              ·rw [if_pos c20] at H
               have c20b0 : decide (x14_3 < (((rd_T38 l0 (rd l3 x11_2)).f1).length : Int)) = true := decide_eq_true c20
               clear c20
               by_cases c21 : 0 ≤ x14_3
               ·rw [if_pos c21] at H
                have c21b0 : decide (0 ≤ x14_3) = true := decide_eq_true c21
                clear c21
                by_cases c22 : 0 ≤ (rd ((rd_T38 l0 (rd l3 x11_2)).f1) x14_3)
                ·rw [if_pos c22] at H
                 have c22b0 : decide (0 ≤ (rd ((rd_T38 l0 (rd l3 x11_2)).f1) x14_3)) = true := decide_eq_true c22
                 clear c22
                 by_cases c23 : (rd ((rd_T38 l0 (rd l3 x11_2)).f1) x14_3) < (x9_2.length : Int)
                 ·rw [if_pos c23] at H
                  have c23b0 : decide ((rd ((rd_T38 l0 (rd l3 x11_2)).f1) x14_3) < (x9_2.length : Int)) = true := decide_eq_true c23
                  clear c23
                  by_cases c24 : (rd ((rd_T38 l0 (rd l3 x11_2)).f1) x14_3) < (l0.length : Int)
                  ·rw [if_pos c24] at H
                   have c24b0 : decide ((rd ((rd_T38 l0 (rd l3 x11_2)).f1) x14_3) < (l0.length : Int)) = true := decide_eq_true c24
                   clear c24
                   obtain ⟨ji25, hji25⟩ : ∃ j_ : Int, (mx x13_3 (wrap64 ((rd x9_2 (rd ((rd_T38 l0 (rd l3 x11_2)).f1) x14_3)) + ((rd_T38 l0 (rd ((rd_T38 l0 (rd l3 x11_2)).f1) x14_3)).f0)))) = j_ := ⟨_, rfl⟩
                   replace H : (spec_order.l2 k3 l0 l1 a2 l3 x9_2 x11_2 (rd l3 x11_2) ji25 (wrap64 (x14_3 + 1))) = some r := by first | (rw [hji25] at H; exact H) | (simp only [hji25] at H ⊢; exact H)
                   have hji25_ : (if x13_3 < (wrap64 ((rd x9_2 (rd ((rd_T38 l0 (rd l3 x11_2)).f1) x14_3)) + ((rd_T38 l0 (rd ((rd_T38 l0 (rd l3 x11_2)).f1) x14_3)).f0))) then (wrap64 ((rd x9_2 (rd ((rd_T38 l0 (rd l3 x11_2)).f1) x14_3)) + ((rd_T38 l0 (rd ((rd_T38 l0 (rd l3 x11_2)).f1) x14_3)).f0))) else x13_3) = ji25 := hji25
                   have H' := Aside0.mk H
                   clear H
                   have p173 : 0 ≤ ((rd l3 x11_2) : Int) := of_decide_eq_true (by first | (with_reducible assumption) | assumption)
                   have q173 : (rd l3 x11_2) < (l0.length : Int) := of_decide_eq_true (by first | (with_reducible assumption) | assumption)
                   obtain ⟨ad173, A173_1, c173_1, e173, hx173_0, hx173_1, hx173_2, hx173_3, hl173_1, hi173_1⟩ := at_T38 HR0.out (rd l3 x11_2) p173 q173
                   cases e173
                   (try replace hx173_0 := (HB.out.cell (World.block_lt_of_cell? w _ hx173_0)).trans hx173_0)
                   (try replace hx173_1 := (HB.out.cell (World.block_lt_of_cell? w _ hx173_1)).trans hx173_1)
                   (try replace hx173_2 := (HB.out.cell (World.block_lt_of_cell? w _ hx173_2)).trans hx173_2)
                   (try replace hx173_3 := (HB.out.cell (World.block_lt_of_cell? w _ hx173_3)).trans hx173_3)
                   have HR173_1 := Aside0.mk hi173_1
                   have HC173_1 := Aside0.mk hl173_1
                   clear hi173_1 hl173_1
                   replace p173 := eq_true p173
                   replace q173 := eq_true q173
                   have p174 : 0 ≤ ((rd l3 x11_2) : Int) := of_decide_eq_true (by first | (with_reducible assumption) | assumption)
                   have q174 : (rd l3 x11_2) < (l0.length : Int) := of_decide_eq_true (by first | (with_reducible assumption) | assumption)
                   obtain ⟨ad174, A174_1, c174_1, e174, hx174_0, hx174_1, hx174_2, hx174_3, hl174_1, hi174_1⟩ := at_T38 HR0.out (rd l3 x11_2) p174 q174
                   obtain rfl : ad173 = ad174 := (by injection e174)
                   (try replace hx174_0 := (HB.out.cell (World.block_lt_of_cell? w _ hx174_0)).trans hx174_0)
                   (try replace hx174_1 := (HB.out.cell (World.block_lt_of_cell? w _ hx174_1)).trans hx174_1)
                   (try replace hx174_2 := (HB.out.cell (World.block_lt_of_cell? w _ hx174_2)).trans hx174_2)
                   (try replace hx174_3 := (HB.out.cell (World.block_lt_of_cell? w _ hx174_3)).trans hx174_3)
                   have HR174_1 := Aside0.mk hi174_1
                   have HC174_1 := Aside0.mk hl174_1
                   clear hi174_1 hl174_1
                   replace p174 := eq_true p174
                   replace q174 := eq_true q174
                   have ea_ := Option.some.inj (hx173_1.symm.trans hx174_1)
                   injection ea_ with ea_ en_ ec_
                   subst ea_
                   subst ec_
                   clear en_
                   have p175 : 0 ≤ (x14_3 : Int) := of_decide_eq_true (by first | (with_reducible assumption) | assumption)
                   have q175 : x14_3 < (((rd_T38 l0 (rd l3 x11_2)).f1).length : Int) := of_decide_eq_true (by first | (with_reducible assumption) | assumption)
                   obtain ⟨ad175, e175, hx175_0⟩ := Kd.at_int HR174_1.out x14_3 p175 q175
                   cases e175
                   (try replace hx175_0 := (HB.out.cell (World.block_lt_of_cell? w _ hx175_0)).trans hx175_0)
                   replace p175 := eq_true p175
                   replace q175 := eq_true q175
                   have p176 : 0 ≤ ((rd ((rd_T38 l0 (rd l3 x11_2)).f1) x14_3) : Int) := of_decide_eq_true (by first | (with_reducible assumption) | assumption)
                   have q176 : (rd ((rd_T38 l0 (rd l3 x11_2)).f1) x14_3) < (x9_2.length : Int) := of_decide_eq_true (by first | (with_reducible assumption) | assumption)
                   obtain ⟨ad176, e176, hx176_0⟩ := Kd.at_int (Kd.R_reads' HO_9.out).2.2 (rd ((rd_T38 l0 (rd l3 x11_2)).f1) x14_3) p176 q176
                   cases e176
                   replace p176 := eq_true p176
                   replace q176 := eq_true q176
                   have p177 : 0 ≤ ((rd l3 x11_2) : Int) := of_decide_eq_true (by first | (with_reducible assumption) | assumption)
                   have q177 : (rd l3 x11_2) < (l0.length : Int) := of_decide_eq_true (by first | (with_reducible assumption) | assumption)
                   obtain ⟨ad177, A177_1, c177_1, e177, hx177_0, hx177_1, hx177_2, hx177_3, hl177_1, hi177_1⟩ := at_T38 HR0.out (rd l3 x11_2) p177 q177
                   obtain rfl : ad173 = ad177 := (by injection e177)
                   (try replace hx177_0 := (HB.out.cell (World.block_lt_of_cell? w _ hx177_0)).trans hx177_0)
                   (try replace hx177_1 := (HB.out.cell (World.block_lt_of_cell? w _ hx177_1)).trans hx177_1)
                   (try replace hx177_2 := (HB.out.cell (World.block_lt_of_cell? w _ hx177_2)).trans hx177_2)
                   (try replace hx177_3 := (HB.out.cell (World.block_lt_of_cell? w _ hx177_3)).trans hx177_3)
                   have HR177_1 := Aside0.mk hi177_1
                   have HC177_1 := Aside0.mk hl177_1
                   clear hi177_1 hl177_1
                   replace p177 := eq_true p177
                   replace q177 := eq_true q177
                   have ea_ := Option.some.inj (hx173_1.symm.trans hx177_1)
                   injection ea_ with ea_ en_ ec_
                   subst ea_
                   subst ec_
                   clear en_
                   have p178 : 0 ≤ (x14_3 : Int) := of_decide_eq_true (by first | (with_reducible assumption) | assumption)
                   have q178 : x14_3 < (((rd_T38 l0 (rd l3 x11_2)).f1).length : Int) := of_decide_eq_true (by first | (with_reducible assumption) | assumption)
                   obtain ⟨ad178, e178, hx178_0⟩ := Kd.at_int HR177_1.out x14_3 p178 q178
                   cases e178
                   (try replace hx178_0 := (HB.out.cell (World.block_lt_of_cell? w _ hx178_0)).trans hx178_0)
                   replace p178 := eq_true p178
                   replace q178 := eq_true q178
                   have p179 : 0 ≤ ((rd ((rd_T38 l0 (rd l3 x11_2)).f1) x14_3) : Int) := of_decide_eq_true (by first | (with_reducible assumption) | assumption)
                   have q179 : (rd ((rd_T38 l0 (rd l3 x11_2)).f1) x14_3) < (l0.length : Int) := of_decide_eq_true (by first | (with_reducible assumption) | assumption)
                   obtain ⟨ad179, A179_1, c179_1, e179, hx179_0, hx179_1, hx179_2, hx179_3, hl179_1, hi179_1⟩ := at_T38 HR0.out (rd ((rd_T38 l0 (rd l3 x11_2)).f1) x14_3) p179 q179
                   obtain rfl : ad173 = ad179 := (by injection e179)
                   (try replace hx179_0 := (HB.out.cell (World.block_lt_of_cell? w _ hx179_0)).trans hx179_0)
                   (try replace hx179_1 := (HB.out.cell (World.block_lt_of_cell? w _ hx179_1)).trans hx179_1)
                   (try replace hx179_2 := (HB.out.cell (World.block_lt_of_cell? w _ hx179_2)).trans hx179_2)
                   (try replace hx179_3 := (HB.out.cell (World.block_lt_of_cell? w _ hx179_3)).trans hx179_3)
                   have HR179_1 := Aside0.mk hi179_1
                   have HC179_1 := Aside0.mk hl179_1
                   clear hi179_1 hl179_1
                   replace p179 := eq_true p179
                   replace q179 := eq_true q179
                   go_wp2
                   repeat (go_quiet (fail); try go_wp2)
                   go_roundg k3
                   case measure => have := HK1.out; have := HK2.out; have := HK3.out; omega
                   case rel => exact ⟨(ji25), (wrap64 (x14_3 + 1)), (by first | rfl | (simp; done) | (simp only [← hji25] <;> (first | rfl | simp)) | (simp [*]; done)), (by first | rfl | (simp; done) | (simp [*]; done)), H', ⟨by have := HK1.out; have := HK2.out; have := HK3.out; omega⟩, ⟨by (try simp only [hl9_2]); (with_reducible repeat (first | apply Kd.R_alloc | apply Kd.R_drewN | apply Kd.R_drew)); exact HO_9.out⟩, ⟨by repeat (first | (with_reducible first | exact HB.out | apply below_alloc | apply pw_below_drewN | apply below_drew1) | exact HB.out)⟩⟩
                  ·rw [if_neg c24] at H
                   exact absurd H (by simp)
                 ·rw [if_neg c23] at H
                  exact absurd H (by simp)
                ·rw [if_neg c22] at H
                 exact absurd H (by simp)
               ·rw [if_neg c21] at H
                exact absurd H (by simp)
              ·rw [if_neg c20] at H
               have c20b0 : decide (x14_3 < (((rd_T38 l0 (rd l3 x11_2)).f1).length : Int)) = false := decide_eq_false c20
               clear c20
               have H' := Aside0.mk H
               clear H
               have p173 : 0 ≤ ((rd l3 x11_2) : Int) := of_decide_eq_true (by first | (with_reducible assumption) | assumption)
               have q173 : (rd l3 x11_2) < (l0.length : Int) := of_decide_eq_true (by first | (with_reducible assumption) | assumption)
               obtain ⟨ad173, A173_1, c173_1, e173, hx173_0, hx173_1, hx173_2, hx173_3, hl173_1, hi173_1⟩ := at_T38 HR0.out (rd l3 x11_2) p173 q173
               cases e173
               (try replace hx173_0 := (HB.out.cell (World.block_lt_of_cell? w _ hx173_0)).trans hx173_0)
               (try replace hx173_1 := (HB.out.cell (World.block_lt_of_cell? w _ hx173_1)).trans hx173_1)
               (try replace hx173_2 := (HB.out.cell (World.block_lt_of_cell? w _ hx173_2)).trans hx173_2)
               (try replace hx173_3 := (HB.out.cell (World.block_lt_of_cell? w _ hx173_3)).trans hx173_3)
               have HR173_1 := Aside0.mk hi173_1
               have HC173_1 := Aside0.mk hl173_1
               clear hi173_1 hl173_1
               replace p173 := eq_true p173
               replace q173 := eq_true q173
               go_wp2
               repeat (go_quiet (fail); try go_wp2)
               go_loopg [13] k3 (fun kq v13 w' => ∃ (x13_4 : Int), v13 = .int .i64 x13_4 ∧ Aside0 (spec_order.l3 kq l0 l1 a2 l3 x9_2 x11_2 (rd l3 x11_2) x13_4 = some r) ∧ Aside0 (kq ≤ k3) ∧ Aside0 (Kd.R (Kd.int .i64) 3 w' w.heap.size (fun _ => True) (.slice Ao15 x9_2.length co15) x9_2) ∧ Aside0 (Below w.heap.size w w'))
               case atStart => exact ⟨(x13_3), (by first | rfl | (simp; done) | (simp [*]; done)), H', ⟨Nat.le_refl _⟩, ⟨by (try simp only [hl9_2]); (with_reducible repeat (first | apply Kd.R_alloc | apply Kd.R_drewN | apply Kd.R_drew)); exact HO_9.out⟩, ⟨HB.out⟩⟩
               case round =>
                clear H'
                try clear c1
                try clear p1
                try clear q1
                try clear hx1
                try clear c2
                try clear p2
                try clear c3
                try clear c5
                try clear c5b0
                try clear c5b1
                try clear c6
                try clear c6b0
                try clear c6b1
                try clear p6
                try clear c9
                try clear c9b0
                try clear c10
                try clear c10b0
                try clear p11
                try clear q11
                try clear hx11
                try clear hf11
                try clear c16
                try clear c16b0
                try clear c17
                try clear c17b0
                try clear p17
                try clear q17
                try clear hx17
                try clear c18
                try clear c18b0
                try clear c19
                try clear c19b0
                try clear c20
                try clear c20b0
                try clear c21
                try clear c21b0
                try clear c22
                try clear c22b0
                try clear c23
                try clear c23b0
                try clear c24
                try clear c24b0
                try clear hx11_0
                try clear hx172_0
                try clear hx173_0
                try clear hx173_1
                try clear hx173_2
                try clear hx173_3
                try clear hx174_0
                try clear hx174_1
                try clear hx174_2
                try clear hx174_3
                try clear hx175_0
                try clear hx176_0
                try clear hx177_0
                try clear hx177_1
                try clear hx177_2
                try clear hx177_3
                try clear hx178_0
                try clear hx179_0
                try clear hx179_1
                try clear hx179_2
                try clear hx179_3
                try clear p1
                try clear p11
                try clear p17
                try clear p172
                try clear p173
                try clear p174
                try clear p175
                try clear p176
                try clear p177
                try clear p178
                try clear p179
                try clear p2
                try clear p6
                try clear q1
                try clear q11
                try clear q17
                try clear q172
                try clear q173
                try clear q174
                try clear q175
                try clear q176
                try clear q177
                try clear q178
                try clear q179
                obtain ⟨x13_4, rfl, HA, HK4, HO_9, HB⟩ := hrel
                cases gk with
                | zero => exact absurd HA.out (by simp [spec_order.l3])
                | succ k4 =>
                 have H := HA.out
                 clear HA
                 simp only [spec_order.l3] at H
                 replace H := Option.bind_eq_some_iff.mp H
                 obtain ⟨t180, A260, H⟩ := H
                 replace H : (if t180 = true then (if 0 ≤ (rd l3 x11_2) then (if (rd l3 x11_2) < (x9_2.length : Int) then (spec_order.l1 k4 l0 l1 a2 l3 (x9_2.set ((rd l3 x11_2) : Int).toNat x13_4) (wrap64 (x11_2 + 1))) else (none)) else (none)) else (spec_order.l3 k4 l0 l1 a2 l3 x9_2 x11_2 (rd l3 x11_2) (wrap64 (x13_4 + 1)))) = some r := H
                 have A26 := Aside0.mk A260
                 clear A260
                 by_cases c27 : t180 = true
                 ·subst c27
                  have H1 : (if 0 ≤ (rd l3 x11_2) then (if (rd l3 x11_2) < (x9_2.length : Int) then (spec_order.l1 k4 l0 l1 a2 l3 (x9_2.set ((rd l3 x11_2) : Int).toNat x13_4) (wrap64 (x11_2 + 1))) else (none)) else (none)) = some r := by rw [if_pos rfl] at H; exact H
                  clear H
                  have H := H1
                  clear H1
                  by_cases c28 : 0 ≤ (rd l3 x11_2)
                  ·rw [if_pos c28] at H
                   have c28b0 : decide (0 ≤ (rd l3 x11_2)) = true := decide_eq_true c28
                   clear c28
                   by_cases c29 : (rd l3 x11_2) < (x9_2.length : Int)
                   ·rw [if_pos c29] at H
                    have c29b0 : decide ((rd l3 x11_2) < (x9_2.length : Int)) = true := decide_eq_true c29
                    clear c29
                    obtain ⟨y181, hy181⟩ : ∃ y_ : List Int, y_ = (x9_2.set ((rd l3 x11_2) : Int).toNat x13_4) := ⟨_, rfl⟩
                    replace H : (spec_order.l1 k4 l0 l1 a2 l3 y181 (wrap64 (x11_2 + 1))) = some r := by first | (rw [hy181]; with_reducible exact H) | (have H2_ := (Option.bind_some _ _).symm.trans H; rw [hy181]; with_reducible exact H2_) | (have H2_ := (Option.bind_some _ _).symm.trans H; with_reducible exact H2_) | with_reducible exact H | (rw [hy181]; exact H) | exact H
                    have Ny181 := Aside0.mk hy181
                    clear hy181
                    have H' := Aside0.mk H
                    clear H
                    go_wp2_with (first | (go_at_call 41; (with_reducible refine (spec_fits.calls k4 _ _ l0 _ _ l1 a2 _ _ x9_2 (rd l3 x11_2) x13_4 true _ ?side1 ?side2 ?side3 ?side4 ?side5 ?side6 A26.out).mono ?_); (case side1 => repeat (first | exact (Kd.C_below HR0.out HB.out) | (with_reducible refine Kd.C_alloc ?_ _) | (with_reducible refine Kd.C_drewN ?_ _) | (with_reducible refine Kd.C_drew ?_))); (case side2 => exact HC0.out); (case side3 => repeat (first | exact (Kd.C_below HR1.out HB.out) | (with_reducible refine Kd.C_alloc ?_ _) | (with_reducible refine Kd.C_drewN ?_ _) | (with_reducible refine Kd.C_drew ?_))); (case side4 => exact HC1.out); (case side5 => exact (Kd.R_reads' HO_9.out).2.2); (case side6 => exact (Kd.R_reads' HO_9.out).2.1); rintro e w31 ⟨rfl, hb⟩; have n0_ := Aside0.mk (Kd.R_below HO_9.out hb); have n1_ := Aside0.mk (below_step HB.out hb); clear HO_9; clear HB; have HO_9 := n0_; have HB := n1_; clear n0_ n1_; (try clear hb); (try clear hb2); (try clear hk); (try clear hi); have p30 : 0 ≤ ((rd l3 x11_2) : Int) := of_decide_eq_true (by first | (with_reducible assumption) | assumption); have q30 : ((rd l3 x11_2) : Int) < ((x9_2.length : Int) : Int) := of_decide_eq_true (by first | (with_reducible assumption) | assumption); obtain ⟨go30, co30, eo30, gb30, gl30, cl30, HG30⟩ := Kd.R_form HO_9.out (by omega); (first | cases eo30 | (injection eo30 with ea_ en_ ec_; (first | subst ea_ | (injection ea_ with ea_; subst ea_)); subst ec_; clear en_)); have GB30 := Aside0.mk gb30; have GG30 := Aside0.mk HG30; clear gb30 gl30 HG30; obtain ⟨hx30_0, hf30_0⟩ := Kd.R_celln 0 HO_9.out ((rd l3 x11_2) : Int) p30 q30; replace p30 := eq_true p30; replace q30 := eq_true q30; obtain ⟨hy32_, hz32_⟩ := Kd.R_celln 0 HO_9.out ((rd l3 x11_2) : Int) (of_decide_eq_true (by first | (with_reducible assumption) | assumption)) (of_decide_eq_true (by first | (with_reducible assumption) | assumption)); have HP32 := Kd.R_putg HO_9.out ((rd l3 x11_2) : Int) x13_4) | ((with_reducible refine gate_store (t := 3) (p := 86) rfl ?_); (try (rw [drewN_self w31]; generalize hq_ : World.drewN w31 _ = w31; have n0_ := Aside0.mk (Kd.R_at hq_ HO_9.out); have n1_ := Aside0.mk (below_at hq_ HB.out); clear hq_ HO_9 HB; have HO_9 := n0_; have HB := n1_; clear n0_ n1_; (try (obtain ⟨hy32_, hz32_⟩ := Kd.R_celln 0 HO_9.out ((rd l3 x11_2) : Int) (of_decide_eq_true (by first | (with_reducible assumption) | assumption)) (of_decide_eq_true (by first | (with_reducible assumption) | assumption)))); (try (have HP32 := Kd.R_putg HO_9.out ((rd l3 x11_2) : Int) x13_4)))); refine store_event (t := 3) (p := 86) (v := ?vo_w33) (w1 := (w31.setCell ⟨go30, ((rd l3 x11_2) : Int).toNat, none⟩ (.int .i64 x13_4))) ?hg ?ho ?hn ?hr ?_; (case ho => rfl); (case hg => rfl); (case hn => rfl); (case hr => (first | (go_simp; done) | (go_simp; rfl))); intro w33 hw; have hg : w31.grownBy w33 (some go30) := (by rw [hw]; exact HP32.2); have hp_ : Kd.R (Kd.int .i64) 3 w33 w.heap.size (fun _ => True) (.slice (some ⟨go30, 0, none⟩) x9_2.length co15) y181 := (by rw [hw, Ny181.out]; exact HP32.1); clear HP32; have n0_ := Aside0.mk (hp_); have n1_ := Aside0.mk ((by rw [hw]; exact below_set (HB.out) GB30.out : Below w.heap.size w w33)); clear HO_9; clear HB; have HO_9 := n0_; have HB := n1_; clear n0_ n1_; clear hg hw hp_))
                    (try simp only [← hl9_2])
                    go_roundg k4
                    case measure => have := HK1.out; have := HK2.out; have := HK3.out; have := HK4.out; omega
                    case rel => exact ⟨(y181), (wrap64 (x11_2 + 1)), (by first | rfl | (simp; done) | (simp [*]; done)), H', ⟨by have := HK1.out; have := HK2.out; have := HK3.out; have := HK4.out; omega⟩, ⟨by (try simp only [hl9_2]); (with_reducible repeat (first | apply Kd.R_alloc | apply Kd.R_drewN | apply Kd.R_drew)); exact HO_9.out⟩, ⟨HB.out⟩⟩
                   ·rw [if_neg c29] at H
                    exact absurd H (by simp)
                  ·rw [if_neg c28] at H
                   exact absurd H (by simp)
                 ·replace c27 := Bool.eq_false_iff.mpr c27
                  subst c27
                  have H1 : (spec_order.l3 k4 l0 l1 a2 l3 x9_2 x11_2 (rd l3 x11_2) (wrap64 (x13_4 + 1))) = some r := by rw [if_neg (show ¬ (false = true) by decide)] at H; exact H
                  clear H
                  have H := H1
                  clear H1
                  have H' := Aside0.mk H
                  clear H
                  go_wp2_with (first | (go_at_call 41; (with_reducible refine (spec_fits.calls k4 _ _ l0 _ _ l1 a2 _ _ x9_2 (rd l3 x11_2) x13_4 false _ ?side1 ?side2 ?side3 ?side4 ?side5 ?side6 A26.out).mono ?_); (case side1 => repeat (first | exact (Kd.C_below HR0.out HB.out) | (with_reducible refine Kd.C_alloc ?_ _) | (with_reducible refine Kd.C_drewN ?_ _) | (with_reducible refine Kd.C_drew ?_))); (case side2 => exact HC0.out); (case side3 => repeat (first | exact (Kd.C_below HR1.out HB.out) | (with_reducible refine Kd.C_alloc ?_ _) | (with_reducible refine Kd.C_drewN ?_ _) | (with_reducible refine Kd.C_drew ?_))); (case side4 => exact HC1.out); (case side5 => exact (Kd.R_reads' HO_9.out).2.2); (case side6 => exact (Kd.R_reads' HO_9.out).2.1); rintro e w34 ⟨rfl, hb⟩; have n0_ := Aside0.mk (Kd.R_below HO_9.out hb); have n1_ := Aside0.mk (below_step HB.out hb); clear HO_9; clear HB; have HO_9 := n0_; have HB := n1_; clear n0_ n1_; (try clear hb); (try clear hb2); (try clear hk); (try clear hi)))
                  go_roundg k4
                  case measure => have := HK1.out; have := HK2.out; have := HK3.out; have := HK4.out; omega
                  case rel => exact ⟨(wrap64 (x13_4 + 1)), (by first | rfl | (simp; done) | (simp [*]; done)), H', ⟨by have := HK1.out; have := HK2.out; have := HK3.out; have := HK4.out; omega⟩, ⟨by (try simp only [hl9_2]); (with_reducible repeat (first | apply Kd.R_alloc | apply Kd.R_drewN | apply Kd.R_drew)); exact HO_9.out⟩, ⟨HB.out⟩⟩
             ·rw [if_neg c19] at H
              exact absurd H (by simp)
            ·rw [if_neg c18] at H
             exact absurd H (by simp)
         ·rw [if_neg c17] at H
          exact absurd H (by simp)
        ·rw [if_neg c16] at H
         have c16b0 : decide (x11_2 < (l3.length : Int)) = false := decide_eq_false c16
         clear c16
         obtain rfl := Option.some.inj H
         go_wp2
         repeat (go_quiet (fail); try go_wp2)
         go_ret
         exact ⟨_, by first | rfl | (simp [errW_none, errW_some] <;> rfl) | (simp [*, errW_none, errW_some] <;> rfl), HO_9.out, HB.out⟩
  ·rw [if_neg c6] at H
   exact absurd H (by simp)
 ·rw [if_neg c5] at H
  exact absurd H (by simp)
end Go.Proofs.YtnhkajanbfgbiaaDoor.P
end
section
namespace Go.Proofs.YtnhkajanbfgbiaaDoor.P
open Go.RowKit Go.Proofs.YtnhkajanbfgbiaaDoorW.PrintWords Go.Proofs.YtnhkajanbfgbiaaDoorW.PrintLast Go.Proofs.YtnhkajanbfgbiaaDoorW.PrintMore
attribute [local go_sem] max2_int min2_int max_two min_two max_three min_three max_four min_four   -- for this text's walks alone
set_option linter.unusedVariables false
set_option linter.unusedSimpArgs false
def spec_isOrder.l0 : Nat → List (S38) → List Int → Int → Option (Bool)
 | 0, _, _, _ => none
 | k + 1, x0, x1, x5 => if x5 < (x1.length : Int) then (if 0 ≤ x5 then ((spec_inRange.f (rd x1 x5) 0 (wrap64 ((x0.length : Int) - 1))).bind fun t138 => (if t138 = true then (if x5 ≤ (x1.length : Int) then ((spec_isIn.f k (x1.take (x5 : Int).toNat) (rd x1 x5)).bind fun t141 => (if t141 = true then (some false) else (if 0 ≤ (rd x1 x5) then (if (rd x1 x5) < (x0.length : Int) then ((spec_allDone.f k ((rd_T38 x0 (rd x1 x5)).f1) (x1.take (x5 : Int).toNat)).bind fun t145 => (if t145 = true then (spec_isOrder.l0 k x0 x1 (wrap64 (x5 + 1))) else (some false))) else (none)) else (none)))) else (none)) else (some false))) else (none)) else (some true)
def spec_isOrder.f (k : Nat) (l0 : List (S38)) (l1 : List Int) : Option (Bool) := if (l1.length : Int) = (l0.length : Int) then (spec_isOrder.l0 k l0 l1 0) else (some false)
theorem spec_isOrder.mono_l : ∀ k, (∀ y0 y1 y2, LeO (spec_isOrder.l0 k y0 y1 y2) (spec_isOrder.l0 (k + 1) y0 y1 y2))
 | 0 => fun _ _ _ r h => by simp [spec_isOrder.l0] at h
 | k + 1 => by
  have ih0 := spec_isOrder.mono_l k
  ·intro y0 y1 y2
   unfold spec_isOrder.l0
   repeat' first
   | (with_reducible exact ih0 _ _ _)
   | (with_reducible exact spec_allDone.mono _ _ _)
   | (with_reducible exact spec_isIn.mono _ _ _)
   | (with_reducible exact LeO.refl _)
   | (with_reducible exact LeO.none _)
   | (with_reducible refine LeO.ite ?_ ?_)
   | (with_reducible refine LeO.bind ?_ (fun _ => ?_))
   | exact ih0 _ _ _
   | exact spec_allDone.mono _ _ _
   | exact spec_isIn.mono _ _ _
   | exact LeO.none _
   | refine LeO.ite ?_ ?_
   | refine LeO.bind ?_ (fun _ => ?_)
theorem spec_isOrder.mono : ∀ a0 a1 k, LeO (spec_isOrder.f k a0 a1) (spec_isOrder.f (k + 1) a0 a1) := by
 intro a0 a1 k
 have ih0 := spec_isOrder.mono_l k
 unfold spec_isOrder.f
 repeat' first
   | (with_reducible exact ih0 _ _ _)
   | (with_reducible exact spec_allDone.mono _ _ _)
   | (with_reducible exact spec_isIn.mono _ _ _)
   | (with_reducible exact LeO.refl _)
   | (with_reducible exact LeO.none _)
   | (with_reducible refine LeO.ite ?_ ?_)
   | (with_reducible refine LeO.bind ?_ (fun _ => ?_))
   | exact ih0 _ _ _
   | exact spec_allDone.mono _ _ _
   | exact spec_isIn.mono _ _ _
   | exact LeO.none _
   | refine LeO.ite ?_ ?_
   | refine LeO.bind ?_ (fun _ => ?_)
def spec_isOrder.T6 : Bool × List (List Nat × List Nat) := (true, [([], []), ([], []), ([0, 1], [0, 1]), ([2], [2]), ([], []), ([4], [4]), ([5], [5]), ([3, 6], [3, 6]), ([7], [7]), ([8, 7], [8]), ([9], [9]), ([9], [9]), ([10, 11, 9], [9, 10, 11]), ([9], [9]), ([9], [9]), ([13, 14, 9], [9, 13, 14]), ([15, 9], [9, 15]), ([12, 16, 9, 9], [9, 12, 16]), ([9, 17], [9, 17]), ([18, 17], [18]), ([19], [19]), ([19], [19]), ([19], [19]), ([21, 22, 19], [19, 21, 22]), ([23, 19], [19, 23]), ([20, 24, 19], [19, 20, 24]), ([25, 19], [19, 25]), ([26, 19], [19, 26]), ([19], [19]), ([19], [19]), ([28, 29, 19], [19, 28, 29]), ([27, 30, 19, 19], [19, 27, 30]), ([31, 19], [19, 31]), ([19, 32], [19, 32])])
def spec_isOrder.B6 : List Nat := [0, 0, 3, 7, 0, 16, 48, 127, 255, 511, 1023, 1023, 4095, 1023, 1023, 25599, 58367, 131071, 262143, 524287, 1048575, 1048575, 1048575, 7340031, 15728639, 33554431, 67108863, 134217727, 1048575, 1048575, 806354943, 2147483647, 4294967295, 8589934591]
theorem spec_isOrder.tab6 : rtab .any (opsOf Tryd.f19 6) = spec_isOrder.T6 := by kernel_rfl
theorem spec_isOrder.bits6 : waitsOk spec_isOrder.T6.2 spec_isOrder.B6 = true := by kernel_rfl
set_option maxHeartbeats 8000000 in
set_option maxRecDepth 100000 in
theorem spec_isOrder.calls (k : Nat) (A0 : Option Addr) (c0 : Nat) (l0 : List (S38)) (A1 : Option Addr) (c1 : Nat) (l1 : List Int) (r : Bool) (w : World) (hr0 : Kd.C k38 w A0 l0.length l0) (hc0 : l0.length ≤ c0) (hr1 : Kd.C (Kd.int .i64) w A1 l1.length l1) (hc1 : l1.length ≤ c1) (h : spec_isOrder.f k l0 l1 = some r) :
  Calls Tryd.prog 19 #[.slice A0 l0.length c0, .slice A1 l1.length c1] w fun e w' => e = .returned (.bool r) ∧ Below w.heap.size w w' := by
 have HR0 := Aside0.mk hr0
 have HC0 := Aside0.mk hc0
 clear hr0 hc0
 have HR1 := Aside0.mk hr1
 have HC1 := Aside0.mk hc1
 clear hr1 hc1
 have HB := Aside0.mk (Below.refl w.heap.size w)
 have H : (if (l1.length : Int) = (l0.length : Int) then (spec_isOrder.l0 k l0 l1 0) else (some false)) = some r := h
 clear h
 by_cases c3 : (l1.length : Int) = (l0.length : Int)
 ·rw [if_pos c3] at H
  have c3b0 : ((l1.length : Int) == (l0.length : Int)) = true := beq_iff_eq.mpr c3
  have c3b1 : ((l1.length : Int) != (l0.length : Int)) = false := bne_eq_false_iff_eq.mpr c3
  have c3b2 : (l1.length == l0.length) = true := by first | simpa using c3 | (simp at c3 ⊢; omega)
  clear c3
  have H' := Aside0.mk H
  clear H
  go_enter Tryd.func19, Tryd.ntmps19
  go_wp2
  go_loopg [5] k (fun kq v5 w' => ∃ (x5_1 : Int), v5 = .int .i64 x5_1 ∧ Aside0 (spec_isOrder.l0 kq l0 l1 x5_1 = some r) ∧ Aside0 (kq ≤ k) ∧ Aside0 (Below w.heap.size w w'))
  case atStart => exact ⟨(0), (by first | rfl | (simp; done) | (simp [*]; done)), H', ⟨Nat.le_refl _⟩, ⟨HB.out⟩⟩
  case round =>
   clear H'
   try clear c1
   try clear p2
   try clear c3
   try clear c3b0
   try clear c3b1
   try clear c3b2
   obtain ⟨x5_1, rfl, HA, HK1, HB⟩ := hrel
   cases gk with
   | zero => exact absurd HA.out (by simp [spec_isOrder.l0])
   | succ k1 =>
    have H := HA.out
    clear HA
    simp only [spec_isOrder.l0] at H
    by_cases c4 : x5_1 < (l1.length : Int)
    ·rw [if_pos c4] at H
     have c4b0 : decide (x5_1 < (l1.length : Int)) = true := decide_eq_true c4
     clear c4
     by_cases c5 : 0 ≤ x5_1
     ·rw [if_pos c5] at H
      have c5b0 : decide (0 ≤ x5_1) = true := decide_eq_true c5
      clear c5
      replace H := Option.bind_eq_some_iff.mp H
      obtain ⟨t138, A60, H⟩ := H
      replace H : (if t138 = true then (if x5_1 ≤ (l1.length : Int) then ((spec_isIn.f k1 (l1.take (x5_1 : Int).toNat) (rd l1 x5_1)).bind fun t141 => (if t141 = true then (some false) else (if 0 ≤ (rd l1 x5_1) then (if (rd l1 x5_1) < (l0.length : Int) then ((spec_allDone.f k1 ((rd_T38 l0 (rd l1 x5_1)).f1) (l1.take (x5_1 : Int).toNat)).bind fun t145 => (if t145 = true then (spec_isOrder.l0 k1 l0 l1 (wrap64 (x5_1 + 1))) else (some false))) else (none)) else (none)))) else (none)) else (some false)) = some r := H
      have A6 := Aside0.mk A60
      clear A60
      by_cases c7 : t138 = true
      ·subst c7
       have H1 : (if x5_1 ≤ (l1.length : Int) then ((spec_isIn.f k1 (l1.take (x5_1 : Int).toNat) (rd l1 x5_1)).bind fun t141 => (if t141 = true then (some false) else (if 0 ≤ (rd l1 x5_1) then (if (rd l1 x5_1) < (l0.length : Int) then ((spec_allDone.f k1 ((rd_T38 l0 (rd l1 x5_1)).f1) (l1.take (x5_1 : Int).toNat)).bind fun t145 => (if t145 = true then (spec_isOrder.l0 k1 l0 l1 (wrap64 (x5_1 + 1))) else (some false))) else (none)) else (none)))) else (none)) = some r := by rw [if_pos rfl] at H; exact H
       clear H
       have H := H1
       clear H1
       have c8b0 := eq_true (of_decide_eq_true (by first | (with_reducible assumption) | assumption) : 0 ≤ x5_1)
       by_cases c9 : x5_1 ≤ (l1.length : Int)
       ·rw [if_pos c9] at H
        have c9b0 := eq_true c9
        have c9b1 : decide (x5_1 ≤ (l1.length : Int)) = true := decide_eq_true c9
        clear c9
        replace H := Option.bind_eq_some_iff.mp H
        obtain ⟨t141, A100, H⟩ := H
        replace H : (if t141 = true then (some false) else (if 0 ≤ (rd l1 x5_1) then (if (rd l1 x5_1) < (l0.length : Int) then ((spec_allDone.f k1 ((rd_T38 l0 (rd l1 x5_1)).f1) (l1.take (x5_1 : Int).toNat)).bind fun t145 => (if t145 = true then (spec_isOrder.l0 k1 l0 l1 (wrap64 (x5_1 + 1))) else (some false))) else (none)) else (none))) = some r := H
        have A10 := Aside0.mk A100
        clear A100
        by_cases c11 : t141 = true
        ·subst c11
         have H1 : (some false) = some r := by rw [if_pos rfl] at H; exact H
         clear H
         have H := H1
         clear H1
         obtain rfl := Option.some.inj H
         try go_wp2
         have n0_ := Aside0.mk (below_drew1 HB.out)
         clear HB
         have HB := n0_
         clear n0_
         have p137 : 0 ≤ (x5_1 : Int) := of_decide_eq_true (by first | (with_reducible assumption) | assumption)
         have q137 : x5_1 < (l1.length : Int) := of_decide_eq_true (by first | (with_reducible assumption) | assumption)
         obtain ⟨ad137, e137, hx137_0⟩ := Kd.at_int HR1.out x5_1 p137 q137
         have hw137_0 := hx137_0
         cases e137
         (try replace hx137_0 := (HB.out.cell (World.block_lt_of_cell? w _ hx137_0)).trans hx137_0)
         replace p137 := eq_true p137
         replace q137 := eq_true q137
         have p140 : 0 ≤ (x5_1 : Int) := of_decide_eq_true (by first | (with_reducible assumption) | assumption)
         have q140 : x5_1 < (l1.length : Int) := of_decide_eq_true (by first | (with_reducible assumption) | assumption)
         obtain ⟨ad140, e140, hx140_0⟩ := Kd.at_int HR1.out x5_1 p140 q140
         have hw140_0 := hx140_0
         obtain rfl : ad137 = ad140 := (by injection e140)
         (try replace hx140_0 := (HB.out.cell (World.block_lt_of_cell? w _ hx140_0)).trans hx140_0)
         replace p140 := eq_true p140
         replace q140 := eq_true q140
         refine start_ (n := 34) (S := fun w' => w'.cell? (ad137.add (x5_1).toNat) = some (.int .i64 (rd l1 x5_1)) ∧ w'.cell? (ad137.add (x5_1).toNat) = some (.int .i64 (rd l1 x5_1))) (ds := []) #[F4q,F4q,F4q,F4q,F4q,F4q,F4q,F4q,F4q,F4q,F4q,F4q,F4q,F4q,F4q,F4q,F4q,F4q,F4q,F4q,F4q,F4q,F4q,F4q,F4q,F4q,F4q,F4q,F4q,F4q,F4q,F4q,F4q,F4q] (by kernel_rfl) rfl rfl ⟨(by first | exact ((HB.out.cell (World.block_lt_of_cell? w _ hw137_0)).trans hw137_0) | exact HS0_ | exact hHeld.1 | exact hw137_0), (by first | exact ((HB.out.cell (World.block_lt_of_cell? w _ hw140_0)).trans hw140_0) | exact HS0_ | exact hHeld.1 | exact hw140_0)⟩ (fun hHeld => ?_); refine with_tabW spec_isOrder.tab6 spec_isOrder.bits6 (fun HT_ HW_ => ?_)
         generalize wr.drew = w12 at HB hx137_0 hx140_0 hHeld ⊢
         refine pure_ (i := 0) (N := some 17) (v := ?_) (a' := ?_) #[T4q,F4q,F4q,F4q,F4q,F4q,F4q,F4q,F4q,F4q,F4q,F4q,F4q,F4q,F4q,F4q,F4q,F4q,F4q,F4q,F4q,F4q,F4q,F4q,F4q,F4q,F4q,F4q,F4q,F4q,F4q,F4q,F4q,F4q] rfl rfl (any_of HT_.out (by kernel_rfl)) (fun _ _ _ h => h) (Or.inl ⟨by rfl, ?_⟩) ?_ ?_
         rotate_left
         ·intro w'
          go_simp
          with_reducible rfl
         rotate_left
         ·simp only [Act.put, List.setIfInBounds_toArray, List.set_cons_zero, List.set_cons_succ, i64_w, i32_w]
          rfl
         refine pure_ (i := 1) (N := some 18) (v := ?_) (a' := ?_) #[T4q,T4q,F4q,F4q,F4q,F4q,F4q,F4q,F4q,F4q,F4q,F4q,F4q,F4q,F4q,F4q,F4q,F4q,F4q,F4q,F4q,F4q,F4q,F4q,F4q,F4q,F4q,F4q,F4q,F4q,F4q,F4q,F4q,F4q] rfl rfl (any_of HT_.out (by kernel_rfl)) (fun _ _ _ h => h) (Or.inl ⟨by rfl, ?_⟩) ?_ ?_
         rotate_left
         ·intro w'
          go_simp
          with_reducible rfl
         rotate_left
         ·simp only [Act.put, List.setIfInBounds_toArray, List.set_cons_zero, List.set_cons_succ, i64_w, i32_w]
          rfl
         refine pure_ (i := 2) (N := some 19) (v := ?_) (a' := ?_) #[T4q,T4q,T4q,F4q,F4q,F4q,F4q,F4q,F4q,F4q,F4q,F4q,F4q,F4q,F4q,F4q,F4q,F4q,F4q,F4q,F4q,F4q,F4q,F4q,F4q,F4q,F4q,F4q,F4q,F4q,F4q,F4q,F4q,F4q] rfl rfl (any_of HT_.out (by kernel_rfl)) (fun _ _ _ h => h) (Or.inl ⟨by rfl, ?_⟩) ?_ ?_
         rotate_left
         ·intro w'
          go_simp
          with_reducible rfl
         rotate_left
         ·simp only [Act.put, List.setIfInBounds_toArray, List.set_cons_zero, List.set_cons_succ, i64_w, i32_w]
          rfl
         refine pure_ (i := 4) (N := some 21) (v := ?_) (a' := ?_) #[T4q,T4q,T4q,F4q,T4q,F4q,F4q,F4q,F4q,F4q,F4q,F4q,F4q,F4q,F4q,F4q,F4q,F4q,F4q,F4q,F4q,F4q,F4q,F4q,F4q,F4q,F4q,F4q,F4q,F4q,F4q,F4q,F4q,F4q] rfl rfl (any_of HT_.out (by kernel_rfl)) (fun _ _ _ h => h) (Or.inl ⟨by rfl, ?_⟩) ?_ ?_
         rotate_left
         ·intro w'
          go_simp
          with_reducible rfl
         rotate_left
         ·simp only [Act.put, List.setIfInBounds_toArray, List.set_cons_zero, List.set_cons_succ, i64_w, i32_w]
          rfl
         refine pure_ (i := 5) (N := some 22) (v := ?_) (a' := ?_) #[T4q,T4q,T4q,F4q,T4q,T4q,F4q,F4q,F4q,F4q,F4q,F4q,F4q,F4q,F4q,F4q,F4q,F4q,F4q,F4q,F4q,F4q,F4q,F4q,F4q,F4q,F4q,F4q,F4q,F4q,F4q,F4q,F4q,F4q] rfl rfl (any_of HT_.out (by kernel_rfl)) (fun _ _ _ h => h) (Or.inl ⟨by rfl, ?_⟩) ?_ ?_
         rotate_left
         ·intro w'
          go_simp
          with_reducible rfl
         rotate_left
         ·simp only [Act.put, List.setIfInBounds_toArray, List.set_cons_zero, List.set_cons_succ, i64_w, i32_w]
          rfl
         refine pure_ (i := 6) (N := some 23) (v := ?_) (a' := ?_) #[T4q,T4q,T4q,F4q,T4q,T4q,T4q,F4q,F4q,F4q,F4q,F4q,F4q,F4q,F4q,F4q,F4q,F4q,F4q,F4q,F4q,F4q,F4q,F4q,F4q,F4q,F4q,F4q,F4q,F4q,F4q,F4q,F4q,F4q] rfl rfl (any_of HT_.out (by kernel_rfl)) (fun _ _ _ h => h) (Or.inl ⟨by rfl, ?_⟩) ?_ ?_
         rotate_left
         ·intro w'
          go_simp
          with_reducible rfl
         rotate_left
         ·simp only [Act.put, List.setIfInBounds_toArray, List.set_cons_zero, List.set_cons_succ, i64_w, i32_w]
          rfl
         refine take_ (i := 3) (N := some 20) (v := ?_) (a' := ?_) #[T4q,T4q,T4q,T4q,T4q,T4q,T4q,F4q,F4q,F4q,F4q,F4q,F4q,F4q,F4q,F4q,F4q,F4q,F4q,F4q,F4q,F4q,F4q,F4q,F4q,F4q,F4q,F4q,F4q,F4q,F4q,F4q,F4q,F4q] rfl rfl (take_ofW HT_.out HW_.out (by kernel_rfl)) (fun _ _ _ h => h) (Or.inl ⟨by rfl, ?_⟩) hHeld ?_ ?_
         rotate_left
         ·rintro w' ⟨s0, s1⟩
          go_simp
          with_reducible rfl
         rotate_left
         ·simp only [Act.put, List.setIfInBounds_toArray, List.set_cons_zero, List.set_cons_succ, i64_w, i32_w]
          rfl
         refine one_ (i := 7) (N := some 24) #[T4q,T4q,T4q,T4q,T4q,T4q,T4q,T4q,F4q,F4q,F4q,F4q,F4q,F4q,F4q,F4q,F4q,F4q,F4q,F4q,F4q,F4q,F4q,F4q,F4q,F4q,F4q,F4q,F4q,F4q,F4q,F4q,F4q,F4q] rfl rfl (one_of HT_.out (by kernel_rfl)) (by decide) (fun K hK => ?_)
         refine goes_ Tryd.func40 (by kernel_rfl) rfl #[.int .i64 (rd l1 x5_1), .int .i64 0, .int .i64 (wrap64 ((l0.length : Int) - 1))] (by rfl) rfl rfl (by (try simp only [List.map_toArray, List.map_cons, List.map_nil]); first | done | rfl | (simp only [List.length_drop, List.length_take]; rfl)) ?_
         with_reducible refine (spec_inRange.calls (rd l1 x5_1) 0 (wrap64 ((l0.length : Int) - 1)) true _ A6.out).mono ?_
         rintro e w' ⟨rfl, ⟨nd, rfl⟩⟩
         refine ⟨_, rfl, ?_⟩
         obtain ⟨i013, hi013, _, hsz13, _⟩ := info_parts info3
         obtain ⟨hcut13, hA13, hC13⟩ := print_take_of (P := Tryd.prog) (Value.int .i64) 0 23 3 .i64 Tryd.underlying23 hi013 hsz13 (some ad137) c1 l1 x5_1 (of_decide_eq_true (by first | (with_reducible assumption) | assumption)) (of_decide_eq_true (by first | (with_reducible assumption) | assumption)) HC1.out
         have HR139 := Aside0.mk (Kd.C_of_reads (h1 := fun _ => rfl) (hA13 _ (Kd.reads_of_C HR1.out)))
         have HC139 := Aside0.mk hC13
         clear hA13 hC13 hi013 hsz13
         refine hK.out _ _ ⟨(by first | exact ((HB.out.cell (World.block_lt_of_cell? w _ hw137_0)).trans hw137_0) | exact HS0_ | exact hHeld.1 | exact hw137_0), (by first | exact ((HB.out.cell (World.block_lt_of_cell? w _ hw140_0)).trans hw140_0) | exact HS0_ | exact hHeld.1 | exact hw140_0)⟩ (fun hHeld => ?_)
         clear hK K
         refine norm_ (a' := ?_) ?_ ?_
         rotate_left
         ·show Act.put _ (some 24) _ = _
          simp only [Act.put, List.setIfInBounds_toArray, List.set_cons_zero, List.set_cons_succ, i64_w, i32_w]
          rfl
         refine pure_ (i := 8) (N := some 25) (v := ?_) (a' := ?_) #[T4q,T4q,T4q,T4q,T4q,T4q,T4q,T4q,T4q,F4q,F4q,F4q,F4q,F4q,F4q,F4q,F4q,F4q,F4q,F4q,F4q,F4q,F4q,F4q,F4q,F4q,F4q,F4q,F4q,F4q,F4q,F4q,F4q,F4q] rfl rfl (any_of HT_.out (by kernel_rfl)) (fun _ _ _ h => h) (Or.inl ⟨by rfl, ?_⟩) ?_ ?_
         rotate_left
         ·intro w'
          go_simp
          with_reducible rfl
         rotate_left
         ·simp only [Act.put, List.setIfInBounds_toArray, List.set_cons_zero, List.set_cons_succ, i64_w, i32_w]
          rfl
         refine pure_ (i := 9) (N := some 26) (v := ?_) (a' := ?_) #[T4q,T4q,T4q,T4q,T4q,T4q,T4q,T4q,T4q,T4q,F4q,F4q,F4q,F4q,F4q,F4q,F4q,F4q,F4q,F4q,F4q,F4q,F4q,F4q,F4q,F4q,F4q,F4q,F4q,F4q,F4q,F4q,F4q,F4q] rfl rfl (any_of HT_.out (by kernel_rfl)) (fun _ _ _ h => h) (Or.inl ⟨by rfl, ?_⟩) ?_ ?_
         rotate_left
         ·intro w'
          go_simp
          with_reducible rfl
         rotate_left
         ·simp only [Act.put, List.setIfInBounds_toArray, List.set_cons_zero, List.set_cons_succ, i64_w, i32_w]
          rfl
         refine pure_ (i := 10) (N := some 27) (v := ?_) (a' := ?_) #[T4q,T4q,T4q,T4q,T4q,T4q,T4q,T4q,T4q,T4q,T4q,F4q,F4q,F4q,F4q,F4q,F4q,F4q,F4q,F4q,F4q,F4q,F4q,F4q,F4q,F4q,F4q,F4q,F4q,F4q,F4q,F4q,F4q,F4q] rfl rfl (any_of HT_.out (by kernel_rfl)) (fun _ _ _ h => h) (Or.inl ⟨by rfl, ?_⟩) ?_ ?_
         rotate_left
         ·intro w'
          go_simp
          with_reducible rfl
         rotate_left
         ·simp only [Act.put, List.setIfInBounds_toArray, List.set_cons_zero, List.set_cons_succ, i64_w, i32_w]
          rfl
         refine pure_ (i := 11) (N := some 28) (v := ?_) (a' := ?_) #[T4q,T4q,T4q,T4q,T4q,T4q,T4q,T4q,T4q,T4q,T4q,T4q,F4q,F4q,F4q,F4q,F4q,F4q,F4q,F4q,F4q,F4q,F4q,F4q,F4q,F4q,F4q,F4q,F4q,F4q,F4q,F4q,F4q,F4q] rfl rfl (any_of HT_.out (by kernel_rfl)) (fun _ _ _ h => h) (Or.inl ⟨by rfl, ?_⟩) ?_ ?_
         rotate_left
         ·intro w'
          go_simp
          with_reducible rfl
         rotate_left
         ·simp only [Act.put, List.setIfInBounds_toArray, List.set_cons_zero, List.set_cons_succ, i64_w, i32_w]
          rfl
         refine pure_ (i := 12) (N := some 29) (v := ?_) (a' := ?_) #[T4q,T4q,T4q,T4q,T4q,T4q,T4q,T4q,T4q,T4q,T4q,T4q,T4q,F4q,F4q,F4q,F4q,F4q,F4q,F4q,F4q,F4q,F4q,F4q,F4q,F4q,F4q,F4q,F4q,F4q,F4q,F4q,F4q,F4q] rfl rfl (any_of HT_.out (by kernel_rfl)) (fun _ _ _ h => h) (Or.inl ⟨by rfl, ?_⟩) ?_ ?_
         rotate_left
         ·intro w'
          go_simp
          with_reducible rfl
         rotate_left
         ·simp only [Act.put, List.setIfInBounds_toArray, List.set_cons_zero, List.set_cons_succ, i64_w, i32_w]
          rfl
         refine pure_ (i := 13) (N := some 30) (v := ?_) (a' := ?_) #[T4q,T4q,T4q,T4q,T4q,T4q,T4q,T4q,T4q,T4q,T4q,T4q,T4q,T4q,F4q,F4q,F4q,F4q,F4q,F4q,F4q,F4q,F4q,F4q,F4q,F4q,F4q,F4q,F4q,F4q,F4q,F4q,F4q,F4q] rfl rfl (any_of HT_.out (by kernel_rfl)) (fun _ _ _ h => h) (Or.inl ⟨by rfl, ?_⟩) ?_ ?_
         rotate_left
         ·intro w'
          go_simp
          with_reducible rfl
         rotate_left
         ·simp only [Act.put, List.setIfInBounds_toArray, List.set_cons_zero, List.set_cons_succ, i64_w, i32_w]
          rfl
         refine pure_ (i := 14) (N := some 31) (v := ?_) (a' := ?_) #[T4q,T4q,T4q,T4q,T4q,T4q,T4q,T4q,T4q,T4q,T4q,T4q,T4q,T4q,T4q,F4q,F4q,F4q,F4q,F4q,F4q,F4q,F4q,F4q,F4q,F4q,F4q,F4q,F4q,F4q,F4q,F4q,F4q,F4q] rfl rfl (any_of HT_.out (by kernel_rfl)) (fun _ _ _ h => h) (Or.inl ⟨by rfl, ?_⟩) ?_ ?_
         rotate_left
         ·intro w'
          go_simp
          with_reducible rfl
         rotate_left
         ·simp only [Act.put, List.setIfInBounds_toArray, List.set_cons_zero, List.set_cons_succ, i64_w, i32_w]
          rfl
         refine pure_ (i := 15) (N := some 32) (v := ?_) (a' := ?_) #[T4q,T4q,T4q,T4q,T4q,T4q,T4q,T4q,T4q,T4q,T4q,T4q,T4q,T4q,T4q,T4q,F4q,F4q,F4q,F4q,F4q,F4q,F4q,F4q,F4q,F4q,F4q,F4q,F4q,F4q,F4q,F4q,F4q,F4q] rfl rfl (any_of HT_.out (by kernel_rfl)) (fun _ _ _ h => h) (Or.inl ⟨by rfl, ?_⟩) ?_ ?_
         rotate_left
         ·intro w'
          go_simp
          with_reducible rfl
         rotate_left
         ·simp only [Act.put, List.setIfInBounds_toArray, List.set_cons_zero, List.set_cons_succ, i64_w, i32_w]
          rfl
         refine take_ (i := 16) (N := some 33) (v := ?_) (a' := ?_) #[T4q,T4q,T4q,T4q,T4q,T4q,T4q,T4q,T4q,T4q,T4q,T4q,T4q,T4q,T4q,T4q,T4q,F4q,F4q,F4q,F4q,F4q,F4q,F4q,F4q,F4q,F4q,F4q,F4q,F4q,F4q,F4q,F4q,F4q] rfl rfl (take_ofW HT_.out HW_.out (by kernel_rfl)) (fun _ _ _ h => h) (Or.inl ⟨by rfl, ?_⟩) hHeld ?_ ?_
         rotate_left
         ·rintro w' ⟨s0, s1⟩
          go_simp
          with_reducible rfl
         rotate_left
         ·simp only [Act.put, List.setIfInBounds_toArray, List.set_cons_zero, List.set_cons_succ, i64_w, i32_w]
          rfl
         refine one_ (i := 17) (N := some 34) #[T4q,T4q,T4q,T4q,T4q,T4q,T4q,T4q,T4q,T4q,T4q,T4q,T4q,T4q,T4q,T4q,T4q,T4q,F4q,F4q,F4q,F4q,F4q,F4q,F4q,F4q,F4q,F4q,F4q,F4q,F4q,F4q,F4q,F4q] rfl rfl (one_of HT_.out (by kernel_rfl)) (by decide) (fun K hK => ?_)
         refine goes_ Tryd.func33 (by kernel_rfl) rfl #[.slice (some ad137) (l1.take (x5_1 : Int).toNat).length c1, .int .i64 (rd l1 x5_1)] (by rfl) rfl rfl (by (try simp only [List.map_toArray, List.map_cons, List.map_nil]); first | done | (rw [show (l1.take (x5_1 : Int).toNat).length = x5_1.toNat from (by rw [List.length_take]; have h_ : (x5_1 : Int) ≤ (l1.length : Int) := of_decide_eq_true (by first | (with_reducible assumption) | assumption); omega)] <;> rfl) | rfl | (simp only [List.length_drop, List.length_take]; rfl)) ?_
         with_reducible refine (spec_isIn.calls k1 _ _ (l1.take (x5_1 : Int).toNat) (rd l1 x5_1) true _ ?side1 ?side2 A10.out).mono ?_
         (case side1 => repeat (first | exact (Kd.C_below HR139.out HB.out) | (with_reducible refine Kd.C_alloc ?_ _) | (with_reducible refine Kd.C_drewN ?_ _) | (with_reducible refine Kd.C_drew ?_)))
         (case side2 => exact HC139.out)
         rintro e w' ⟨rfl, ⟨nd, rfl⟩⟩
         refine ⟨_, rfl, ?_⟩
         refine hK.out _ _ ⟨(by first | exact ((HB.out.cell (World.block_lt_of_cell? w _ hw137_0)).trans hw137_0) | exact HS0_ | exact hHeld.1 | exact hw137_0), (by first | exact ((HB.out.cell (World.block_lt_of_cell? w _ hw140_0)).trans hw140_0) | exact HS0_ | exact hHeld.1 | exact hw140_0)⟩ (fun hHeld => ?_)
         clear hK K
         refine norm_ (a' := ?_) ?_ ?_
         rotate_left
         ·show Act.put _ (some 34) _ = _
          simp only [Act.put, List.setIfInBounds_toArray, List.set_cons_zero, List.set_cons_succ, i64_w, i32_w]
          rfl
         refine pure_ (i := 18) (N := some 35) (v := ?_) (a' := ?_) #[T4q,T4q,T4q,T4q,T4q,T4q,T4q,T4q,T4q,T4q,T4q,T4q,T4q,T4q,T4q,T4q,T4q,T4q,T4q,F4q,F4q,F4q,F4q,F4q,F4q,F4q,F4q,F4q,F4q,F4q,F4q,F4q,F4q,F4q] rfl rfl (any_of HT_.out (by kernel_rfl)) (fun _ _ _ h => h) (Or.inl ⟨by rfl, ?_⟩) ?_ ?_
         rotate_left
         ·intro w'
          go_simp
          with_reducible rfl
         rotate_left
         ·simp only [Act.put, List.setIfInBounds_toArray, List.set_cons_zero, List.set_cons_succ, i64_w, i32_w]
          rfl
         refine pure_ (i := 19) (N := some 36) (v := ?_) (a' := ?_) #[T4q,T4q,T4q,T4q,T4q,T4q,T4q,T4q,T4q,T4q,T4q,T4q,T4q,T4q,T4q,T4q,T4q,T4q,T4q,T4q,F4q,F4q,F4q,F4q,F4q,F4q,F4q,F4q,F4q,F4q,F4q,F4q,F4q,F4q] rfl rfl (any_of HT_.out (by kernel_rfl)) (fun _ _ _ h => h) (Or.inl ⟨by rfl, ?_⟩) ?_ ?_
         rotate_left
         ·intro w'
          go_simp
          with_reducible rfl
         rotate_left
         ·simp only [Act.put, List.setIfInBounds_toArray, List.set_cons_zero, List.set_cons_succ, i64_w, i32_w]
          rfl
         refine pure_ (i := 20) (N := some 37) (v := undef) (a' := ?_) #[T4q,T4q,T4q,T4q,T4q,T4q,T4q,T4q,T4q,T4q,T4q,T4q,T4q,T4q,T4q,T4q,T4q,T4q,T4q,T4q,T4q,F4q,F4q,F4q,F4q,F4q,F4q,F4q,F4q,F4q,F4q,F4q,F4q,F4q] rfl rfl (any_of HT_.out (by kernel_rfl)) (fun _ _ _ h => h) (Or.inr ⟨by rfl, rfl⟩) ?_ ?_
         rotate_left
         ·simp only [Act.put, List.setIfInBounds_toArray, List.set_cons_zero, List.set_cons_succ, i64_w, i32_w]
          rfl
         refine pure_ (i := 21) (N := some 38) (v := undef) (a' := ?_) #[T4q,T4q,T4q,T4q,T4q,T4q,T4q,T4q,T4q,T4q,T4q,T4q,T4q,T4q,T4q,T4q,T4q,T4q,T4q,T4q,T4q,T4q,F4q,F4q,F4q,F4q,F4q,F4q,F4q,F4q,F4q,F4q,F4q,F4q] rfl rfl (any_of HT_.out (by kernel_rfl)) (fun _ _ _ h => h) (Or.inr ⟨by rfl, rfl⟩) ?_ ?_
         rotate_left
         ·simp only [Act.put, List.setIfInBounds_toArray, List.set_cons_zero, List.set_cons_succ, i64_w, i32_w]
          rfl
         refine pure_ (i := 22) (N := some 39) (v := undef) (a' := ?_) #[T4q,T4q,T4q,T4q,T4q,T4q,T4q,T4q,T4q,T4q,T4q,T4q,T4q,T4q,T4q,T4q,T4q,T4q,T4q,T4q,T4q,T4q,T4q,F4q,F4q,F4q,F4q,F4q,F4q,F4q,F4q,F4q,F4q,F4q] rfl rfl (any_of HT_.out (by kernel_rfl)) (fun _ _ _ h => h) (Or.inr ⟨by rfl, rfl⟩) ?_ ?_
         rotate_left
         ·simp only [Act.put, List.setIfInBounds_toArray, List.set_cons_zero, List.set_cons_succ, i64_w, i32_w]
          rfl
         refine pure_ (i := 23) (N := some 40) (v := undef) (a' := ?_) #[T4q,T4q,T4q,T4q,T4q,T4q,T4q,T4q,T4q,T4q,T4q,T4q,T4q,T4q,T4q,T4q,T4q,T4q,T4q,T4q,T4q,T4q,T4q,T4q,F4q,F4q,F4q,F4q,F4q,F4q,F4q,F4q,F4q,F4q] rfl rfl (any_of HT_.out (by kernel_rfl)) (fun _ _ _ h => h) (Or.inr ⟨by rfl, rfl⟩) ?_ ?_
         rotate_left
         ·simp only [Act.put, List.setIfInBounds_toArray, List.set_cons_zero, List.set_cons_succ, i64_w, i32_w]
          rfl
         refine pure_ (i := 24) (N := some 41) (v := undef) (a' := ?_) #[T4q,T4q,T4q,T4q,T4q,T4q,T4q,T4q,T4q,T4q,T4q,T4q,T4q,T4q,T4q,T4q,T4q,T4q,T4q,T4q,T4q,T4q,T4q,T4q,T4q,F4q,F4q,F4q,F4q,F4q,F4q,F4q,F4q,F4q] rfl rfl (any_of HT_.out (by kernel_rfl)) (fun _ _ _ h => h) (Or.inr ⟨by rfl, rfl⟩) ?_ ?_
         rotate_left
         ·simp only [Act.put, List.setIfInBounds_toArray, List.set_cons_zero, List.set_cons_succ, i64_w, i32_w]
          rfl
         refine pure_ (i := 25) (N := some 42) (v := undef) (a' := ?_) #[T4q,T4q,T4q,T4q,T4q,T4q,T4q,T4q,T4q,T4q,T4q,T4q,T4q,T4q,T4q,T4q,T4q,T4q,T4q,T4q,T4q,T4q,T4q,T4q,T4q,T4q,F4q,F4q,F4q,F4q,F4q,F4q,F4q,F4q] rfl rfl (any_of HT_.out (by kernel_rfl)) (fun _ _ _ h => h) (Or.inr ⟨by rfl, rfl⟩) ?_ ?_
         rotate_left
         ·simp only [Act.put, List.setIfInBounds_toArray, List.set_cons_zero, List.set_cons_succ, i64_w, i32_w]
          rfl
         refine pure_ (i := 26) (N := some 43) (v := undef) (a' := ?_) #[T4q,T4q,T4q,T4q,T4q,T4q,T4q,T4q,T4q,T4q,T4q,T4q,T4q,T4q,T4q,T4q,T4q,T4q,T4q,T4q,T4q,T4q,T4q,T4q,T4q,T4q,T4q,F4q,F4q,F4q,F4q,F4q,F4q,F4q] rfl rfl (any_of HT_.out (by kernel_rfl)) (fun _ _ _ h => h) (Or.inr ⟨by rfl, rfl⟩) ?_ ?_
         rotate_left
         ·simp only [Act.put, List.setIfInBounds_toArray, List.set_cons_zero, List.set_cons_succ, i64_w, i32_w]
          rfl
         refine pure_ (i := 27) (N := some 44) (v := undef) (a' := ?_) #[T4q,T4q,T4q,T4q,T4q,T4q,T4q,T4q,T4q,T4q,T4q,T4q,T4q,T4q,T4q,T4q,T4q,T4q,T4q,T4q,T4q,T4q,T4q,T4q,T4q,T4q,T4q,T4q,F4q,F4q,F4q,F4q,F4q,F4q] rfl rfl (any_of HT_.out (by kernel_rfl)) (fun _ _ _ h => h) (Or.inr ⟨by rfl, rfl⟩) ?_ ?_
         rotate_left
         ·simp only [Act.put, List.setIfInBounds_toArray, List.set_cons_zero, List.set_cons_succ, i64_w, i32_w]
          rfl
         refine pure_ (i := 28) (N := some 45) (v := undef) (a' := ?_) #[T4q,T4q,T4q,T4q,T4q,T4q,T4q,T4q,T4q,T4q,T4q,T4q,T4q,T4q,T4q,T4q,T4q,T4q,T4q,T4q,T4q,T4q,T4q,T4q,T4q,T4q,T4q,T4q,T4q,F4q,F4q,F4q,F4q,F4q] rfl rfl (any_of HT_.out (by kernel_rfl)) (fun _ _ _ h => h) (Or.inr ⟨by rfl, rfl⟩) ?_ ?_
         rotate_left
         ·simp only [Act.put, List.setIfInBounds_toArray, List.set_cons_zero, List.set_cons_succ, i64_w, i32_w]
          rfl
         refine pure_ (i := 29) (N := some 46) (v := undef) (a' := ?_) #[T4q,T4q,T4q,T4q,T4q,T4q,T4q,T4q,T4q,T4q,T4q,T4q,T4q,T4q,T4q,T4q,T4q,T4q,T4q,T4q,T4q,T4q,T4q,T4q,T4q,T4q,T4q,T4q,T4q,T4q,F4q,F4q,F4q,F4q] rfl rfl (any_of HT_.out (by kernel_rfl)) (fun _ _ _ h => h) (Or.inr ⟨by rfl, rfl⟩) ?_ ?_
         rotate_left
         ·simp only [Act.put, List.setIfInBounds_toArray, List.set_cons_zero, List.set_cons_succ, i64_w, i32_w]
          rfl
         refine pure_ (i := 30) (N := some 47) (v := undef) (a' := ?_) #[T4q,T4q,T4q,T4q,T4q,T4q,T4q,T4q,T4q,T4q,T4q,T4q,T4q,T4q,T4q,T4q,T4q,T4q,T4q,T4q,T4q,T4q,T4q,T4q,T4q,T4q,T4q,T4q,T4q,T4q,T4q,F4q,F4q,F4q] rfl rfl (any_of HT_.out (by kernel_rfl)) (fun _ _ _ h => h) (Or.inr ⟨by rfl, rfl⟩) ?_ ?_
         rotate_left
         ·simp only [Act.put, List.setIfInBounds_toArray, List.set_cons_zero, List.set_cons_succ, i64_w, i32_w]
          rfl
         refine pure_ (i := 31) (N := some 48) (v := undef) (a' := ?_) #[T4q,T4q,T4q,T4q,T4q,T4q,T4q,T4q,T4q,T4q,T4q,T4q,T4q,T4q,T4q,T4q,T4q,T4q,T4q,T4q,T4q,T4q,T4q,T4q,T4q,T4q,T4q,T4q,T4q,T4q,T4q,T4q,F4q,F4q] rfl rfl (any_of HT_.out (by kernel_rfl)) (fun _ _ _ h => h) (Or.inr ⟨by rfl, rfl⟩) ?_ ?_
         rotate_left
         ·simp only [Act.put, List.setIfInBounds_toArray, List.set_cons_zero, List.set_cons_succ, i64_w, i32_w]
          rfl
         refine pure_ (i := 32) (N := some 49) (v := undef) (a' := ?_) #[T4q,T4q,T4q,T4q,T4q,T4q,T4q,T4q,T4q,T4q,T4q,T4q,T4q,T4q,T4q,T4q,T4q,T4q,T4q,T4q,T4q,T4q,T4q,T4q,T4q,T4q,T4q,T4q,T4q,T4q,T4q,T4q,T4q,F4q] rfl rfl (any_of HT_.out (by kernel_rfl)) (fun _ _ _ h => h) (Or.inr ⟨by rfl, rfl⟩) ?_ ?_
         rotate_left
         ·simp only [Act.put, List.setIfInBounds_toArray, List.set_cons_zero, List.set_cons_succ, i64_w, i32_w]
          rfl
         refine pure_ (i := 33) (N := some 50) (v := ?_) (a' := ?_) #[T4q,T4q,T4q,T4q,T4q,T4q,T4q,T4q,T4q,T4q,T4q,T4q,T4q,T4q,T4q,T4q,T4q,T4q,T4q,T4q,T4q,T4q,T4q,T4q,T4q,T4q,T4q,T4q,T4q,T4q,T4q,T4q,T4q,T4q] rfl rfl (any_of HT_.out (by kernel_rfl)) (fun _ _ _ h => h) (Or.inl ⟨by rfl, ?_⟩) ?_ ?_
         rotate_left
         ·intro w'
          go_simp
          with_reducible rfl
         rotate_left
         ·simp only [Act.put, List.setIfInBounds_toArray, List.set_cons_zero, List.set_cons_succ, i64_w, i32_w]
          rfl
         refine done_ (done_of HT_.out (by kernel_rfl)) ?_
         try go_wp2
         go_ret
         exact ⟨by first | rfl | (simp [errW_none, errW_some] <;> rfl) | (simp [*, errW_none, errW_some] <;> rfl), by repeat (first | (with_reducible first | exact HB.out | apply below_alloc | apply pw_below_drewN | apply below_drew1) | exact HB.out)⟩
        ·replace c11 := Bool.eq_false_iff.mpr c11
         subst c11
         have H1 : (if 0 ≤ (rd l1 x5_1) then (if (rd l1 x5_1) < (l0.length : Int) then ((spec_allDone.f k1 ((rd_T38 l0 (rd l1 x5_1)).f1) (l1.take (x5_1 : Int).toNat)).bind fun t145 => (if t145 = true then (spec_isOrder.l0 k1 l0 l1 (wrap64 (x5_1 + 1))) else (some false))) else (none)) else (none)) = some r := by rw [if_neg (show ¬ (false = true) by decide)] at H; exact H
         clear H
         have H := H1
         clear H1
         by_cases c14 : 0 ≤ (rd l1 x5_1)
         ·rw [if_pos c14] at H
          have c14b0 : decide (0 ≤ (rd l1 x5_1)) = true := decide_eq_true c14
          clear c14
          by_cases c15 : (rd l1 x5_1) < (l0.length : Int)
          ·rw [if_pos c15] at H
           have c15b0 : decide ((rd l1 x5_1) < (l0.length : Int)) = true := decide_eq_true c15
           clear c15
           have c16b0 := eq_true (of_decide_eq_true (by first | (with_reducible assumption) | assumption) : 0 ≤ x5_1)
           have c17b0 := eq_true (of_decide_eq_true (by first | (with_reducible assumption) | assumption) : x5_1 ≤ (l1.length : Int))
           replace H := Option.bind_eq_some_iff.mp H
           obtain ⟨t145, A180, H⟩ := H
           replace H : (if t145 = true then (spec_isOrder.l0 k1 l0 l1 (wrap64 (x5_1 + 1))) else (some false)) = some r := H
           have A18 := Aside0.mk A180
           clear A180
           by_cases c19 : t145 = true
           ·subst c19
            have H1 : (spec_isOrder.l0 k1 l0 l1 (wrap64 (x5_1 + 1))) = some r := by rw [if_pos rfl] at H; exact H
            clear H
            have H := H1
            clear H1
            have H' := Aside0.mk H
            clear H
            try go_wp2
            have n0_ := Aside0.mk (below_drew1 HB.out)
            clear HB
            have HB := n0_
            clear n0_
            have p137 : 0 ≤ (x5_1 : Int) := of_decide_eq_true (by first | (with_reducible assumption) | assumption)
            have q137 : x5_1 < (l1.length : Int) := of_decide_eq_true (by first | (with_reducible assumption) | assumption)
            obtain ⟨ad137, e137, hx137_0⟩ := Kd.at_int HR1.out x5_1 p137 q137
            have hw137_0 := hx137_0
            cases e137
            (try replace hx137_0 := (HB.out.cell (World.block_lt_of_cell? w _ hx137_0)).trans hx137_0)
            replace p137 := eq_true p137
            replace q137 := eq_true q137
            have p140 : 0 ≤ (x5_1 : Int) := of_decide_eq_true (by first | (with_reducible assumption) | assumption)
            have q140 : x5_1 < (l1.length : Int) := of_decide_eq_true (by first | (with_reducible assumption) | assumption)
            obtain ⟨ad140, e140, hx140_0⟩ := Kd.at_int HR1.out x5_1 p140 q140
            have hw140_0 := hx140_0
            obtain rfl : ad137 = ad140 := (by injection e140)
            (try replace hx140_0 := (HB.out.cell (World.block_lt_of_cell? w _ hx140_0)).trans hx140_0)
            replace p140 := eq_true p140
            replace q140 := eq_true q140
            have p142 : 0 ≤ (x5_1 : Int) := of_decide_eq_true (by first | (with_reducible assumption) | assumption)
            have q142 : x5_1 < (l1.length : Int) := of_decide_eq_true (by first | (with_reducible assumption) | assumption)
            obtain ⟨ad142, e142, hx142_0⟩ := Kd.at_int HR1.out x5_1 p142 q142
            have hw142_0 := hx142_0
            obtain rfl : ad137 = ad142 := (by injection e142)
            (try replace hx142_0 := (HB.out.cell (World.block_lt_of_cell? w _ hx142_0)).trans hx142_0)
            replace p142 := eq_true p142
            replace q142 := eq_true q142
            have p143 : 0 ≤ ((rd l1 x5_1) : Int) := of_decide_eq_true (by first | (with_reducible assumption) | assumption)
            have q143 : (rd l1 x5_1) < (l0.length : Int) := of_decide_eq_true (by first | (with_reducible assumption) | assumption)
            obtain ⟨ad143, A143_1, c143_1, e143, hx143_0, hx143_1, hx143_2, hx143_3, hl143_1, hi143_1⟩ := at_T38 HR0.out (rd l1 x5_1) p143 q143
            have hw143_3 := hx143_3
            have hw143_2 := hx143_2
            have hw143_1 := hx143_1
            have hw143_0 := hx143_0
            cases e143
            (try replace hx143_0 := (HB.out.cell (World.block_lt_of_cell? w _ hx143_0)).trans hx143_0)
            (try replace hx143_1 := (HB.out.cell (World.block_lt_of_cell? w _ hx143_1)).trans hx143_1)
            (try replace hx143_2 := (HB.out.cell (World.block_lt_of_cell? w _ hx143_2)).trans hx143_2)
            (try replace hx143_3 := (HB.out.cell (World.block_lt_of_cell? w _ hx143_3)).trans hx143_3)
            have HR143_1 := Aside0.mk hi143_1
            have HC143_1 := Aside0.mk hl143_1
            clear hi143_1 hl143_1
            replace p143 := eq_true p143
            replace q143 := eq_true q143
            refine start_ (n := 34) (S := fun w' => w'.cell? (ad137.add (x5_1).toNat) = some (.int .i64 (rd l1 x5_1)) ∧ w'.cell? (ad137.add (x5_1).toNat) = some (.int .i64 (rd l1 x5_1)) ∧ w'.cell? (ad137.add (x5_1).toNat) = some (.int .i64 (rd l1 x5_1)) ∧ w'.cell? (ad143.add (((rd l1 x5_1)).toNat * 4)) = some (.int .i64 ((rd_T38 l0 (rd l1 x5_1)).f0)) ∧ w'.cell? ⟨(ad143.add (((rd l1 x5_1)).toNat * 4)).block, (ad143.add (((rd l1 x5_1)).toNat * 4)).off + 1, none⟩ = some (.slice A143_1 ((rd_T38 l0 (rd l1 x5_1)).f1).length c143_1) ∧ w'.cell? ⟨(ad143.add (((rd l1 x5_1)).toNat * 4)).block, (ad143.add (((rd l1 x5_1)).toNat * 4)).off + 2, none⟩ = some (.int .i64 ((rd_T38 l0 (rd l1 x5_1)).f2)) ∧ w'.cell? ⟨(ad143.add (((rd l1 x5_1)).toNat * 4)).block, (ad143.add (((rd l1 x5_1)).toNat * 4)).off + 3, none⟩ = some (.int .i64 ((rd_T38 l0 (rd l1 x5_1)).f3))) (ds := []) #[F4q,F4q,F4q,F4q,F4q,F4q,F4q,F4q,F4q,F4q,F4q,F4q,F4q,F4q,F4q,F4q,F4q,F4q,F4q,F4q,F4q,F4q,F4q,F4q,F4q,F4q,F4q,F4q,F4q,F4q,F4q,F4q,F4q,F4q] (by kernel_rfl) rfl rfl ⟨(by first | exact ((HB.out.cell (World.block_lt_of_cell? w _ hw137_0)).trans hw137_0) | exact HS0_ | exact hHeld.1 | exact hw137_0), (by first | exact ((HB.out.cell (World.block_lt_of_cell? w _ hw140_0)).trans hw140_0) | exact HS0_ | exact hHeld.1 | exact hw140_0), (by first | exact ((HB.out.cell (World.block_lt_of_cell? w _ hw142_0)).trans hw142_0) | exact HS0_ | exact hHeld.1 | exact hw142_0), (by first | exact ((HB.out.cell (World.block_lt_of_cell? w _ hw143_0)).trans hw143_0) | exact HS0_ | exact hHeld.1 | exact hw143_0), (by first | exact ((HB.out.cell (World.block_lt_of_cell? w _ hw143_1)).trans hw143_1) | exact HS0_ | exact hHeld.1 | exact hw143_1), (by first | exact ((HB.out.cell (World.block_lt_of_cell? w _ hw143_2)).trans hw143_2) | exact HS0_ | exact hHeld.1 | exact hw143_2), (by first | exact ((HB.out.cell (World.block_lt_of_cell? w _ hw143_3)).trans hw143_3) | exact HS0_ | exact hHeld.1 | exact hw143_3)⟩ (fun hHeld => ?_); refine with_tabW spec_isOrder.tab6 spec_isOrder.bits6 (fun HT_ HW_ => ?_)
            generalize wr.drew = w20 at HB HR143_1 hx137_0 hx140_0 hx142_0 hx143_0 hx143_1 hx143_2 hx143_3 hHeld ⊢
            refine pure_ (i := 0) (N := some 17) (v := ?_) (a' := ?_) #[T4q,F4q,F4q,F4q,F4q,F4q,F4q,F4q,F4q,F4q,F4q,F4q,F4q,F4q,F4q,F4q,F4q,F4q,F4q,F4q,F4q,F4q,F4q,F4q,F4q,F4q,F4q,F4q,F4q,F4q,F4q,F4q,F4q,F4q] rfl rfl (any_of HT_.out (by kernel_rfl)) (fun _ _ _ h => h) (Or.inl ⟨by rfl, ?_⟩) ?_ ?_
            rotate_left
            ·intro w'
             go_simp
             with_reducible rfl
            rotate_left
            ·simp only [Act.put, List.setIfInBounds_toArray, List.set_cons_zero, List.set_cons_succ, i64_w, i32_w]
             rfl
            refine pure_ (i := 1) (N := some 18) (v := ?_) (a' := ?_) #[T4q,T4q,F4q,F4q,F4q,F4q,F4q,F4q,F4q,F4q,F4q,F4q,F4q,F4q,F4q,F4q,F4q,F4q,F4q,F4q,F4q,F4q,F4q,F4q,F4q,F4q,F4q,F4q,F4q,F4q,F4q,F4q,F4q,F4q] rfl rfl (any_of HT_.out (by kernel_rfl)) (fun _ _ _ h => h) (Or.inl ⟨by rfl, ?_⟩) ?_ ?_
            rotate_left
            ·intro w'
             go_simp
             with_reducible rfl
            rotate_left
            ·simp only [Act.put, List.setIfInBounds_toArray, List.set_cons_zero, List.set_cons_succ, i64_w, i32_w]
             rfl
            refine pure_ (i := 2) (N := some 19) (v := ?_) (a' := ?_) #[T4q,T4q,T4q,F4q,F4q,F4q,F4q,F4q,F4q,F4q,F4q,F4q,F4q,F4q,F4q,F4q,F4q,F4q,F4q,F4q,F4q,F4q,F4q,F4q,F4q,F4q,F4q,F4q,F4q,F4q,F4q,F4q,F4q,F4q] rfl rfl (any_of HT_.out (by kernel_rfl)) (fun _ _ _ h => h) (Or.inl ⟨by rfl, ?_⟩) ?_ ?_
            rotate_left
            ·intro w'
             go_simp
             with_reducible rfl
            rotate_left
            ·simp only [Act.put, List.setIfInBounds_toArray, List.set_cons_zero, List.set_cons_succ, i64_w, i32_w]
             rfl
            refine pure_ (i := 4) (N := some 21) (v := ?_) (a' := ?_) #[T4q,T4q,T4q,F4q,T4q,F4q,F4q,F4q,F4q,F4q,F4q,F4q,F4q,F4q,F4q,F4q,F4q,F4q,F4q,F4q,F4q,F4q,F4q,F4q,F4q,F4q,F4q,F4q,F4q,F4q,F4q,F4q,F4q,F4q] rfl rfl (any_of HT_.out (by kernel_rfl)) (fun _ _ _ h => h) (Or.inl ⟨by rfl, ?_⟩) ?_ ?_
            rotate_left
            ·intro w'
             go_simp
             with_reducible rfl
            rotate_left
            ·simp only [Act.put, List.setIfInBounds_toArray, List.set_cons_zero, List.set_cons_succ, i64_w, i32_w]
             rfl
            refine pure_ (i := 5) (N := some 22) (v := ?_) (a' := ?_) #[T4q,T4q,T4q,F4q,T4q,T4q,F4q,F4q,F4q,F4q,F4q,F4q,F4q,F4q,F4q,F4q,F4q,F4q,F4q,F4q,F4q,F4q,F4q,F4q,F4q,F4q,F4q,F4q,F4q,F4q,F4q,F4q,F4q,F4q] rfl rfl (any_of HT_.out (by kernel_rfl)) (fun _ _ _ h => h) (Or.inl ⟨by rfl, ?_⟩) ?_ ?_
            rotate_left
            ·intro w'
             go_simp
             with_reducible rfl
            rotate_left
            ·simp only [Act.put, List.setIfInBounds_toArray, List.set_cons_zero, List.set_cons_succ, i64_w, i32_w]
             rfl
            refine pure_ (i := 6) (N := some 23) (v := ?_) (a' := ?_) #[T4q,T4q,T4q,F4q,T4q,T4q,T4q,F4q,F4q,F4q,F4q,F4q,F4q,F4q,F4q,F4q,F4q,F4q,F4q,F4q,F4q,F4q,F4q,F4q,F4q,F4q,F4q,F4q,F4q,F4q,F4q,F4q,F4q,F4q] rfl rfl (any_of HT_.out (by kernel_rfl)) (fun _ _ _ h => h) (Or.inl ⟨by rfl, ?_⟩) ?_ ?_
            rotate_left
            ·intro w'
             go_simp
             with_reducible rfl
            rotate_left
            ·simp only [Act.put, List.setIfInBounds_toArray, List.set_cons_zero, List.set_cons_succ, i64_w, i32_w]
             rfl
            refine take_ (i := 3) (N := some 20) (v := ?_) (a' := ?_) #[T4q,T4q,T4q,T4q,T4q,T4q,T4q,F4q,F4q,F4q,F4q,F4q,F4q,F4q,F4q,F4q,F4q,F4q,F4q,F4q,F4q,F4q,F4q,F4q,F4q,F4q,F4q,F4q,F4q,F4q,F4q,F4q,F4q,F4q] rfl rfl (take_ofW HT_.out HW_.out (by kernel_rfl)) (fun _ _ _ h => h) (Or.inl ⟨by rfl, ?_⟩) hHeld ?_ ?_
            rotate_left
            ·rintro w' ⟨s0, s1, s2, s3, s4, s5, s6⟩
             go_simp
             with_reducible rfl
            rotate_left
            ·simp only [Act.put, List.setIfInBounds_toArray, List.set_cons_zero, List.set_cons_succ, i64_w, i32_w]
             rfl
            refine one_ (i := 7) (N := some 24) #[T4q,T4q,T4q,T4q,T4q,T4q,T4q,T4q,F4q,F4q,F4q,F4q,F4q,F4q,F4q,F4q,F4q,F4q,F4q,F4q,F4q,F4q,F4q,F4q,F4q,F4q,F4q,F4q,F4q,F4q,F4q,F4q,F4q,F4q] rfl rfl (one_of HT_.out (by kernel_rfl)) (by decide) (fun K hK => ?_)
            refine goes_ Tryd.func40 (by kernel_rfl) rfl #[.int .i64 (rd l1 x5_1), .int .i64 0, .int .i64 (wrap64 ((l0.length : Int) - 1))] (by rfl) rfl rfl (by (try simp only [List.map_toArray, List.map_cons, List.map_nil]); first | done | rfl | (simp only [List.length_drop, List.length_take]; rfl)) ?_
            with_reducible refine (spec_inRange.calls (rd l1 x5_1) 0 (wrap64 ((l0.length : Int) - 1)) true _ A6.out).mono ?_
            rintro e w' ⟨rfl, ⟨nd, rfl⟩⟩
            refine ⟨_, rfl, ?_⟩
            obtain ⟨i021, hi021, _, hsz21, _⟩ := info_parts info3
            obtain ⟨hcut21, hA21, hC21⟩ := print_take_of (P := Tryd.prog) (Value.int .i64) 0 23 3 .i64 Tryd.underlying23 hi021 hsz21 (some ad137) c1 l1 x5_1 (of_decide_eq_true (by first | (with_reducible assumption) | assumption)) (of_decide_eq_true (by first | (with_reducible assumption) | assumption)) HC1.out
            have HR139 := Aside0.mk (Kd.C_of_reads (h1 := fun _ => rfl) (hA21 _ (Kd.reads_of_C HR1.out)))
            have HC139 := Aside0.mk hC21
            clear hA21 hC21 hi021 hsz21
            refine hK.out _ _ ⟨(by first | exact ((HB.out.cell (World.block_lt_of_cell? w _ hw137_0)).trans hw137_0) | exact HS0_ | exact hHeld.1 | exact hw137_0), (by first | exact ((HB.out.cell (World.block_lt_of_cell? w _ hw140_0)).trans hw140_0) | exact HS0_ | exact hHeld.1 | exact hw140_0), (by first | exact ((HB.out.cell (World.block_lt_of_cell? w _ hw142_0)).trans hw142_0) | exact HS0_ | exact hHeld.1 | exact hw142_0), (by first | exact ((HB.out.cell (World.block_lt_of_cell? w _ hw143_0)).trans hw143_0) | exact HS0_ | exact hHeld.1 | exact hw143_0), (by first | exact ((HB.out.cell (World.block_lt_of_cell? w _ hw143_1)).trans hw143_1) | exact HS0_ | exact hHeld.1 | exact hw143_1), (by first | exact ((HB.out.cell (World.block_lt_of_cell? w _ hw143_2)).trans hw143_2) | exact HS0_ | exact hHeld.1 | exact hw143_2), (by first | exact ((HB.out.cell (World.block_lt_of_cell? w _ hw143_3)).trans hw143_3) | exact HS0_ | exact hHeld.1 | exact hw143_3)⟩ (fun hHeld => ?_)
            clear hK K
            refine norm_ (a' := ?_) ?_ ?_
            rotate_left
            ·show Act.put _ (some 24) _ = _
             simp only [Act.put, List.setIfInBounds_toArray, List.set_cons_zero, List.set_cons_succ, i64_w, i32_w]
             rfl
            refine pure_ (i := 8) (N := some 25) (v := ?_) (a' := ?_) #[T4q,T4q,T4q,T4q,T4q,T4q,T4q,T4q,T4q,F4q,F4q,F4q,F4q,F4q,F4q,F4q,F4q,F4q,F4q,F4q,F4q,F4q,F4q,F4q,F4q,F4q,F4q,F4q,F4q,F4q,F4q,F4q,F4q,F4q] rfl rfl (any_of HT_.out (by kernel_rfl)) (fun _ _ _ h => h) (Or.inl ⟨by rfl, ?_⟩) ?_ ?_
            rotate_left
            ·intro w'
             go_simp
             with_reducible rfl
            rotate_left
            ·simp only [Act.put, List.setIfInBounds_toArray, List.set_cons_zero, List.set_cons_succ, i64_w, i32_w]
             rfl
            refine pure_ (i := 9) (N := some 26) (v := ?_) (a' := ?_) #[T4q,T4q,T4q,T4q,T4q,T4q,T4q,T4q,T4q,T4q,F4q,F4q,F4q,F4q,F4q,F4q,F4q,F4q,F4q,F4q,F4q,F4q,F4q,F4q,F4q,F4q,F4q,F4q,F4q,F4q,F4q,F4q,F4q,F4q] rfl rfl (any_of HT_.out (by kernel_rfl)) (fun _ _ _ h => h) (Or.inl ⟨by rfl, ?_⟩) ?_ ?_
            rotate_left
            ·intro w'
             go_simp
             with_reducible rfl
            rotate_left
            ·simp only [Act.put, List.setIfInBounds_toArray, List.set_cons_zero, List.set_cons_succ, i64_w, i32_w]
             rfl
            refine pure_ (i := 10) (N := some 27) (v := ?_) (a' := ?_) #[T4q,T4q,T4q,T4q,T4q,T4q,T4q,T4q,T4q,T4q,T4q,F4q,F4q,F4q,F4q,F4q,F4q,F4q,F4q,F4q,F4q,F4q,F4q,F4q,F4q,F4q,F4q,F4q,F4q,F4q,F4q,F4q,F4q,F4q] rfl rfl (any_of HT_.out (by kernel_rfl)) (fun _ _ _ h => h) (Or.inl ⟨by rfl, ?_⟩) ?_ ?_
            rotate_left
            ·intro w'
             go_simp
             with_reducible rfl
            rotate_left
            ·simp only [Act.put, List.setIfInBounds_toArray, List.set_cons_zero, List.set_cons_succ, i64_w, i32_w]
             rfl
            refine pure_ (i := 11) (N := some 28) (v := ?_) (a' := ?_) #[T4q,T4q,T4q,T4q,T4q,T4q,T4q,T4q,T4q,T4q,T4q,T4q,F4q,F4q,F4q,F4q,F4q,F4q,F4q,F4q,F4q,F4q,F4q,F4q,F4q,F4q,F4q,F4q,F4q,F4q,F4q,F4q,F4q,F4q] rfl rfl (any_of HT_.out (by kernel_rfl)) (fun _ _ _ h => h) (Or.inl ⟨by rfl, ?_⟩) ?_ ?_
            rotate_left
            ·intro w'
             go_simp
             with_reducible rfl
            rotate_left
            ·simp only [Act.put, List.setIfInBounds_toArray, List.set_cons_zero, List.set_cons_succ, i64_w, i32_w]
             rfl
            refine pure_ (i := 12) (N := some 29) (v := ?_) (a' := ?_) #[T4q,T4q,T4q,T4q,T4q,T4q,T4q,T4q,T4q,T4q,T4q,T4q,T4q,F4q,F4q,F4q,F4q,F4q,F4q,F4q,F4q,F4q,F4q,F4q,F4q,F4q,F4q,F4q,F4q,F4q,F4q,F4q,F4q,F4q] rfl rfl (any_of HT_.out (by kernel_rfl)) (fun _ _ _ h => h) (Or.inl ⟨by rfl, ?_⟩) ?_ ?_
            rotate_left
            ·intro w'
             go_simp
             with_reducible rfl
            rotate_left
            ·simp only [Act.put, List.setIfInBounds_toArray, List.set_cons_zero, List.set_cons_succ, i64_w, i32_w]
             rfl
            refine pure_ (i := 13) (N := some 30) (v := ?_) (a' := ?_) #[T4q,T4q,T4q,T4q,T4q,T4q,T4q,T4q,T4q,T4q,T4q,T4q,T4q,T4q,F4q,F4q,F4q,F4q,F4q,F4q,F4q,F4q,F4q,F4q,F4q,F4q,F4q,F4q,F4q,F4q,F4q,F4q,F4q,F4q] rfl rfl (any_of HT_.out (by kernel_rfl)) (fun _ _ _ h => h) (Or.inl ⟨by rfl, ?_⟩) ?_ ?_
            rotate_left
            ·intro w'
             go_simp
             with_reducible rfl
            rotate_left
            ·simp only [Act.put, List.setIfInBounds_toArray, List.set_cons_zero, List.set_cons_succ, i64_w, i32_w]
             rfl
            refine pure_ (i := 14) (N := some 31) (v := ?_) (a' := ?_) #[T4q,T4q,T4q,T4q,T4q,T4q,T4q,T4q,T4q,T4q,T4q,T4q,T4q,T4q,T4q,F4q,F4q,F4q,F4q,F4q,F4q,F4q,F4q,F4q,F4q,F4q,F4q,F4q,F4q,F4q,F4q,F4q,F4q,F4q] rfl rfl (any_of HT_.out (by kernel_rfl)) (fun _ _ _ h => h) (Or.inl ⟨by rfl, ?_⟩) ?_ ?_
            rotate_left
            ·intro w'
             go_simp
             with_reducible rfl
            rotate_left
            ·simp only [Act.put, List.setIfInBounds_toArray, List.set_cons_zero, List.set_cons_succ, i64_w, i32_w]
             rfl
            refine pure_ (i := 15) (N := some 32) (v := ?_) (a' := ?_) #[T4q,T4q,T4q,T4q,T4q,T4q,T4q,T4q,T4q,T4q,T4q,T4q,T4q,T4q,T4q,T4q,F4q,F4q,F4q,F4q,F4q,F4q,F4q,F4q,F4q,F4q,F4q,F4q,F4q,F4q,F4q,F4q,F4q,F4q] rfl rfl (any_of HT_.out (by kernel_rfl)) (fun _ _ _ h => h) (Or.inl ⟨by rfl, ?_⟩) ?_ ?_
            rotate_left
            ·intro w'
             go_simp
             with_reducible rfl
            rotate_left
            ·simp only [Act.put, List.setIfInBounds_toArray, List.set_cons_zero, List.set_cons_succ, i64_w, i32_w]
             rfl
            refine take_ (i := 16) (N := some 33) (v := ?_) (a' := ?_) #[T4q,T4q,T4q,T4q,T4q,T4q,T4q,T4q,T4q,T4q,T4q,T4q,T4q,T4q,T4q,T4q,T4q,F4q,F4q,F4q,F4q,F4q,F4q,F4q,F4q,F4q,F4q,F4q,F4q,F4q,F4q,F4q,F4q,F4q] rfl rfl (take_ofW HT_.out HW_.out (by kernel_rfl)) (fun _ _ _ h => h) (Or.inl ⟨by rfl, ?_⟩) hHeld ?_ ?_
            rotate_left
            ·rintro w' ⟨s0, s1, s2, s3, s4, s5, s6⟩
             go_simp
             with_reducible rfl
            rotate_left
            ·simp only [Act.put, List.setIfInBounds_toArray, List.set_cons_zero, List.set_cons_succ, i64_w, i32_w]
             rfl
            refine one_ (i := 17) (N := some 34) #[T4q,T4q,T4q,T4q,T4q,T4q,T4q,T4q,T4q,T4q,T4q,T4q,T4q,T4q,T4q,T4q,T4q,T4q,F4q,F4q,F4q,F4q,F4q,F4q,F4q,F4q,F4q,F4q,F4q,F4q,F4q,F4q,F4q,F4q] rfl rfl (one_of HT_.out (by kernel_rfl)) (by decide) (fun K hK => ?_)
            refine goes_ Tryd.func33 (by kernel_rfl) rfl #[.slice (some ad137) (l1.take (x5_1 : Int).toNat).length c1, .int .i64 (rd l1 x5_1)] (by rfl) rfl rfl (by (try simp only [List.map_toArray, List.map_cons, List.map_nil]); first | done | (rw [show (l1.take (x5_1 : Int).toNat).length = x5_1.toNat from (by rw [List.length_take]; have h_ : (x5_1 : Int) ≤ (l1.length : Int) := of_decide_eq_true (by first | (with_reducible assumption) | assumption); omega)] <;> rfl) | rfl | (simp only [List.length_drop, List.length_take]; rfl)) ?_
            with_reducible refine (spec_isIn.calls k1 _ _ (l1.take (x5_1 : Int).toNat) (rd l1 x5_1) false _ ?side1 ?side2 A10.out).mono ?_
            (case side1 => repeat (first | exact (Kd.C_below HR139.out HB.out) | (with_reducible refine Kd.C_alloc ?_ _) | (with_reducible refine Kd.C_drewN ?_ _) | (with_reducible refine Kd.C_drew ?_)))
            (case side2 => exact HC139.out)
            rintro e w' ⟨rfl, ⟨nd, rfl⟩⟩
            refine ⟨_, rfl, ?_⟩
            obtain ⟨i022, hi022, _, hsz22, _⟩ := info_parts info3
            obtain ⟨hcut22, hA22, hC22⟩ := print_take_of (P := Tryd.prog) (Value.int .i64) 0 23 3 .i64 Tryd.underlying23 hi022 hsz22 (some ad137) c1 l1 x5_1 (of_decide_eq_true (by first | (with_reducible assumption) | assumption)) (of_decide_eq_true (by first | (with_reducible assumption) | assumption)) HC1.out
            have HR144 := Aside0.mk (Kd.C_of_reads (h1 := fun _ => rfl) (hA22 _ (Kd.reads_of_C HR1.out)))
            have HC144 := Aside0.mk hC22
            clear hA22 hC22 hi022 hsz22
            refine hK.out _ _ ⟨(by first | exact ((HB.out.cell (World.block_lt_of_cell? w _ hw137_0)).trans hw137_0) | exact HS0_ | exact hHeld.1 | exact hw137_0), (by first | exact ((HB.out.cell (World.block_lt_of_cell? w _ hw140_0)).trans hw140_0) | exact HS0_ | exact hHeld.1 | exact hw140_0), (by first | exact ((HB.out.cell (World.block_lt_of_cell? w _ hw142_0)).trans hw142_0) | exact HS0_ | exact hHeld.1 | exact hw142_0), (by first | exact ((HB.out.cell (World.block_lt_of_cell? w _ hw143_0)).trans hw143_0) | exact HS0_ | exact hHeld.1 | exact hw143_0), (by first | exact ((HB.out.cell (World.block_lt_of_cell? w _ hw143_1)).trans hw143_1) | exact HS0_ | exact hHeld.1 | exact hw143_1), (by first | exact ((HB.out.cell (World.block_lt_of_cell? w _ hw143_2)).trans hw143_2) | exact HS0_ | exact hHeld.1 | exact hw143_2), (by first | exact ((HB.out.cell (World.block_lt_of_cell? w _ hw143_3)).trans hw143_3) | exact HS0_ | exact hHeld.1 | exact hw143_3)⟩ (fun hHeld => ?_)
            clear hK K
            refine norm_ (a' := ?_) ?_ ?_
            rotate_left
            ·show Act.put _ (some 34) _ = _
             simp only [Act.put, List.setIfInBounds_toArray, List.set_cons_zero, List.set_cons_succ, i64_w, i32_w]
             rfl
            refine pure_ (i := 18) (N := some 35) (v := ?_) (a' := ?_) #[T4q,T4q,T4q,T4q,T4q,T4q,T4q,T4q,T4q,T4q,T4q,T4q,T4q,T4q,T4q,T4q,T4q,T4q,T4q,F4q,F4q,F4q,F4q,F4q,F4q,F4q,F4q,F4q,F4q,F4q,F4q,F4q,F4q,F4q] rfl rfl (any_of HT_.out (by kernel_rfl)) (fun _ _ _ h => h) (Or.inl ⟨by rfl, ?_⟩) ?_ ?_
            rotate_left
            ·intro w'
             go_simp
             with_reducible rfl
            rotate_left
            ·simp only [Act.put, List.setIfInBounds_toArray, List.set_cons_zero, List.set_cons_succ, i64_w, i32_w]
             rfl
            refine pure_ (i := 19) (N := some 36) (v := ?_) (a' := ?_) #[T4q,T4q,T4q,T4q,T4q,T4q,T4q,T4q,T4q,T4q,T4q,T4q,T4q,T4q,T4q,T4q,T4q,T4q,T4q,T4q,F4q,F4q,F4q,F4q,F4q,F4q,F4q,F4q,F4q,F4q,F4q,F4q,F4q,F4q] rfl rfl (any_of HT_.out (by kernel_rfl)) (fun _ _ _ h => h) (Or.inl ⟨by rfl, ?_⟩) ?_ ?_
            rotate_left
            ·intro w'
             go_simp
             with_reducible rfl
            rotate_left
            ·simp only [Act.put, List.setIfInBounds_toArray, List.set_cons_zero, List.set_cons_succ, i64_w, i32_w]
             rfl
            refine pure_ (i := 20) (N := some 37) (v := ?_) (a' := ?_) #[T4q,T4q,T4q,T4q,T4q,T4q,T4q,T4q,T4q,T4q,T4q,T4q,T4q,T4q,T4q,T4q,T4q,T4q,T4q,T4q,T4q,F4q,F4q,F4q,F4q,F4q,F4q,F4q,F4q,F4q,F4q,F4q,F4q,F4q] rfl rfl (any_of HT_.out (by kernel_rfl)) (fun _ _ _ h => h) (Or.inl ⟨by rfl, ?_⟩) ?_ ?_
            rotate_left
            ·intro w'
             go_simp
             with_reducible rfl
            rotate_left
            ·simp only [Act.put, List.setIfInBounds_toArray, List.set_cons_zero, List.set_cons_succ, i64_w, i32_w]
             rfl
            refine pure_ (i := 21) (N := some 38) (v := ?_) (a' := ?_) #[T4q,T4q,T4q,T4q,T4q,T4q,T4q,T4q,T4q,T4q,T4q,T4q,T4q,T4q,T4q,T4q,T4q,T4q,T4q,T4q,T4q,T4q,F4q,F4q,F4q,F4q,F4q,F4q,F4q,F4q,F4q,F4q,F4q,F4q] rfl rfl (any_of HT_.out (by kernel_rfl)) (fun _ _ _ h => h) (Or.inl ⟨by rfl, ?_⟩) ?_ ?_
            rotate_left
            ·intro w'
             go_simp
             with_reducible rfl
            rotate_left
            ·simp only [Act.put, List.setIfInBounds_toArray, List.set_cons_zero, List.set_cons_succ, i64_w, i32_w]
             rfl
            refine pure_ (i := 22) (N := some 39) (v := ?_) (a' := ?_) #[T4q,T4q,T4q,T4q,T4q,T4q,T4q,T4q,T4q,T4q,T4q,T4q,T4q,T4q,T4q,T4q,T4q,T4q,T4q,T4q,T4q,T4q,T4q,F4q,F4q,F4q,F4q,F4q,F4q,F4q,F4q,F4q,F4q,F4q] rfl rfl (any_of HT_.out (by kernel_rfl)) (fun _ _ _ h => h) (Or.inl ⟨by rfl, ?_⟩) ?_ ?_
            rotate_left
            ·intro w'
             go_simp
             with_reducible rfl
            rotate_left
            ·simp only [Act.put, List.setIfInBounds_toArray, List.set_cons_zero, List.set_cons_succ, i64_w, i32_w]
             rfl
            refine pure_ (i := 23) (N := some 40) (v := ?_) (a' := ?_) #[T4q,T4q,T4q,T4q,T4q,T4q,T4q,T4q,T4q,T4q,T4q,T4q,T4q,T4q,T4q,T4q,T4q,T4q,T4q,T4q,T4q,T4q,T4q,T4q,F4q,F4q,F4q,F4q,F4q,F4q,F4q,F4q,F4q,F4q] rfl rfl (any_of HT_.out (by kernel_rfl)) (fun _ _ _ h => h) (Or.inl ⟨by rfl, ?_⟩) ?_ ?_
            rotate_left
            ·intro w'
             go_simp
             with_reducible rfl
            rotate_left
            ·simp only [Act.put, List.setIfInBounds_toArray, List.set_cons_zero, List.set_cons_succ, i64_w, i32_w]
             rfl
            refine pure_ (i := 28) (N := some 45) (v := ?_) (a' := ?_) #[T4q,T4q,T4q,T4q,T4q,T4q,T4q,T4q,T4q,T4q,T4q,T4q,T4q,T4q,T4q,T4q,T4q,T4q,T4q,T4q,T4q,T4q,T4q,T4q,F4q,F4q,F4q,F4q,T4q,F4q,F4q,F4q,F4q,F4q] rfl rfl (any_of HT_.out (by kernel_rfl)) (fun _ _ _ h => h) (Or.inl ⟨by rfl, ?_⟩) ?_ ?_
            rotate_left
            ·intro w'
             go_simp
             with_reducible rfl
            rotate_left
            ·simp only [Act.put, List.setIfInBounds_toArray, List.set_cons_zero, List.set_cons_succ, i64_w, i32_w]
             rfl
            refine pure_ (i := 29) (N := some 46) (v := ?_) (a' := ?_) #[T4q,T4q,T4q,T4q,T4q,T4q,T4q,T4q,T4q,T4q,T4q,T4q,T4q,T4q,T4q,T4q,T4q,T4q,T4q,T4q,T4q,T4q,T4q,T4q,F4q,F4q,F4q,F4q,T4q,T4q,F4q,F4q,F4q,F4q] rfl rfl (any_of HT_.out (by kernel_rfl)) (fun _ _ _ h => h) (Or.inl ⟨by rfl, ?_⟩) ?_ ?_
            rotate_left
            ·intro w'
             go_simp
             with_reducible rfl
            rotate_left
            ·simp only [Act.put, List.setIfInBounds_toArray, List.set_cons_zero, List.set_cons_succ, i64_w, i32_w]
             rfl
            refine pure_ (i := 30) (N := some 47) (v := ?_) (a' := ?_) #[T4q,T4q,T4q,T4q,T4q,T4q,T4q,T4q,T4q,T4q,T4q,T4q,T4q,T4q,T4q,T4q,T4q,T4q,T4q,T4q,T4q,T4q,T4q,T4q,F4q,F4q,F4q,F4q,T4q,T4q,T4q,F4q,F4q,F4q] rfl rfl (any_of HT_.out (by kernel_rfl)) (fun _ _ _ h => h) (Or.inl ⟨by rfl, ?_⟩) ?_ ?_
            rotate_left
            ·intro w'
             go_simp
             with_reducible rfl
            rotate_left
            ·simp only [Act.put, List.setIfInBounds_toArray, List.set_cons_zero, List.set_cons_succ, i64_w, i32_w]
             rfl
            refine take_ (i := 24) (N := some 41) (v := ?_) (a' := ?_) #[T4q,T4q,T4q,T4q,T4q,T4q,T4q,T4q,T4q,T4q,T4q,T4q,T4q,T4q,T4q,T4q,T4q,T4q,T4q,T4q,T4q,T4q,T4q,T4q,T4q,F4q,F4q,F4q,T4q,T4q,T4q,F4q,F4q,F4q] rfl rfl (take_ofW HT_.out HW_.out (by kernel_rfl)) (fun _ _ _ h => h) (Or.inl ⟨by rfl, ?_⟩) hHeld ?_ ?_
            rotate_left
            ·rintro w' ⟨s0, s1, s2, s3, s4, s5, s6⟩
             go_simp
             with_reducible rfl
            rotate_left
            ·simp only [Act.put, List.setIfInBounds_toArray, List.set_cons_zero, List.set_cons_succ, i64_w, i32_w]
             rfl
            refine pure_ (i := 25) (N := some 42) (v := ?_) (a' := ?_) #[T4q,T4q,T4q,T4q,T4q,T4q,T4q,T4q,T4q,T4q,T4q,T4q,T4q,T4q,T4q,T4q,T4q,T4q,T4q,T4q,T4q,T4q,T4q,T4q,T4q,T4q,F4q,F4q,T4q,T4q,T4q,F4q,F4q,F4q] rfl rfl (any_of HT_.out (by kernel_rfl)) (fun _ _ _ h => h) (Or.inl ⟨by rfl, ?_⟩) ?_ ?_
            rotate_left
            ·intro w'
             go_simp
             with_reducible rfl
            rotate_left
            ·simp only [Act.put, List.setIfInBounds_toArray, List.set_cons_zero, List.set_cons_succ, i64_w, i32_w]
             rfl
            refine pure_ (i := 26) (N := some 43) (v := ?_) (a' := ?_) #[T4q,T4q,T4q,T4q,T4q,T4q,T4q,T4q,T4q,T4q,T4q,T4q,T4q,T4q,T4q,T4q,T4q,T4q,T4q,T4q,T4q,T4q,T4q,T4q,T4q,T4q,T4q,F4q,T4q,T4q,T4q,F4q,F4q,F4q] rfl rfl (any_of HT_.out (by kernel_rfl)) (fun _ _ _ h => h) (Or.inl ⟨by rfl, ?_⟩) ?_ ?_
            rotate_left
            ·intro w'
             go_simp
             with_reducible rfl
            rotate_left
            ·simp only [Act.put, List.setIfInBounds_toArray, List.set_cons_zero, List.set_cons_succ, i64_w, i32_w]
             rfl
            refine take_ (i := 27) (N := some 44) (v := ?_) (a' := ?_) #[T4q,T4q,T4q,T4q,T4q,T4q,T4q,T4q,T4q,T4q,T4q,T4q,T4q,T4q,T4q,T4q,T4q,T4q,T4q,T4q,T4q,T4q,T4q,T4q,T4q,T4q,T4q,T4q,T4q,T4q,T4q,F4q,F4q,F4q] rfl rfl (take_ofW HT_.out HW_.out (by kernel_rfl)) (fun _ _ _ h => h) (Or.inl ⟨by rfl, ?_⟩) hHeld ?_ ?_
            rotate_left
            ·rintro w' ⟨s0, s1, s2, s3, s4, s5, s6⟩
             go_simp
             with_reducible rfl
            rotate_left
            ·simp only [Act.put, List.setIfInBounds_toArray, List.set_cons_zero, List.set_cons_succ, i64_w, i32_w]
             rfl
            refine one_ (i := 31) (N := some 48) #[T4q,T4q,T4q,T4q,T4q,T4q,T4q,T4q,T4q,T4q,T4q,T4q,T4q,T4q,T4q,T4q,T4q,T4q,T4q,T4q,T4q,T4q,T4q,T4q,T4q,T4q,T4q,T4q,T4q,T4q,T4q,T4q,F4q,F4q] rfl rfl (one_of HT_.out (by kernel_rfl)) (by decide) (fun K hK => ?_)
            refine goes_ Tryd.func34 (by kernel_rfl) rfl #[.slice A143_1 ((rd_T38 l0 (rd l1 x5_1)).f1).length c143_1, .slice (some ad137) (l1.take (x5_1 : Int).toNat).length c1] (by rfl) rfl rfl (by (try simp only [List.map_toArray, List.map_cons, List.map_nil]); first | done | (rw [show (l1.take (x5_1 : Int).toNat).length = x5_1.toNat from (by rw [List.length_take]; have h_ : (x5_1 : Int) ≤ (l1.length : Int) := of_decide_eq_true (by first | (with_reducible assumption) | assumption); omega)] <;> rfl) | rfl | (simp only [List.length_drop, List.length_take]; rfl)) ?_
            with_reducible refine (spec_allDone.calls k1 _ _ ((rd_T38 l0 (rd l1 x5_1)).f1) _ _ (l1.take (x5_1 : Int).toNat) true _ ?side1 ?side2 ?side3 ?side4 A18.out).mono ?_
            (case side1 => repeat (first | exact (Kd.C_below HR143_1.out HB.out) | (with_reducible refine Kd.C_alloc ?_ _) | (with_reducible refine Kd.C_drewN ?_ _) | (with_reducible refine Kd.C_drew ?_)))
            (case side2 => exact HC143_1.out)
            (case side3 => repeat (first | exact (Kd.C_below HR144.out HB.out) | (with_reducible refine Kd.C_alloc ?_ _) | (with_reducible refine Kd.C_drewN ?_ _) | (with_reducible refine Kd.C_drew ?_)))
            (case side4 => exact HC144.out)
            rintro e w' ⟨rfl, ⟨nd, rfl⟩⟩
            refine ⟨_, rfl, ?_⟩
            refine hK.out _ _ ⟨(by first | exact ((HB.out.cell (World.block_lt_of_cell? w _ hw137_0)).trans hw137_0) | exact HS0_ | exact hHeld.1 | exact hw137_0), (by first | exact ((HB.out.cell (World.block_lt_of_cell? w _ hw140_0)).trans hw140_0) | exact HS0_ | exact hHeld.1 | exact hw140_0), (by first | exact ((HB.out.cell (World.block_lt_of_cell? w _ hw142_0)).trans hw142_0) | exact HS0_ | exact hHeld.1 | exact hw142_0), (by first | exact ((HB.out.cell (World.block_lt_of_cell? w _ hw143_0)).trans hw143_0) | exact HS0_ | exact hHeld.1 | exact hw143_0), (by first | exact ((HB.out.cell (World.block_lt_of_cell? w _ hw143_1)).trans hw143_1) | exact HS0_ | exact hHeld.1 | exact hw143_1), (by first | exact ((HB.out.cell (World.block_lt_of_cell? w _ hw143_2)).trans hw143_2) | exact HS0_ | exact hHeld.1 | exact hw143_2), (by first | exact ((HB.out.cell (World.block_lt_of_cell? w _ hw143_3)).trans hw143_3) | exact HS0_ | exact hHeld.1 | exact hw143_3)⟩ (fun hHeld => ?_)
            clear hK K
            refine norm_ (a' := ?_) ?_ ?_
            rotate_left
            ·show Act.put _ (some 48) _ = _
             simp only [Act.put, List.setIfInBounds_toArray, List.set_cons_zero, List.set_cons_succ, i64_w, i32_w]
             rfl
            refine pure_ (i := 32) (N := some 49) (v := ?_) (a' := ?_) #[T4q,T4q,T4q,T4q,T4q,T4q,T4q,T4q,T4q,T4q,T4q,T4q,T4q,T4q,T4q,T4q,T4q,T4q,T4q,T4q,T4q,T4q,T4q,T4q,T4q,T4q,T4q,T4q,T4q,T4q,T4q,T4q,T4q,F4q] rfl rfl (any_of HT_.out (by kernel_rfl)) (fun _ _ _ h => h) (Or.inl ⟨by rfl, ?_⟩) ?_ ?_
            rotate_left
            ·intro w'
             go_simp
             with_reducible rfl
            rotate_left
            ·simp only [Act.put, List.setIfInBounds_toArray, List.set_cons_zero, List.set_cons_succ, i64_w, i32_w]
             rfl
            refine pure_ (i := 33) (N := some 50) (v := ?_) (a' := ?_) #[T4q,T4q,T4q,T4q,T4q,T4q,T4q,T4q,T4q,T4q,T4q,T4q,T4q,T4q,T4q,T4q,T4q,T4q,T4q,T4q,T4q,T4q,T4q,T4q,T4q,T4q,T4q,T4q,T4q,T4q,T4q,T4q,T4q,T4q] rfl rfl (any_of HT_.out (by kernel_rfl)) (fun _ _ _ h => h) (Or.inl ⟨by rfl, ?_⟩) ?_ ?_
            rotate_left
            ·intro w'
             go_simp
             with_reducible rfl
            rotate_left
            ·simp only [Act.put, List.setIfInBounds_toArray, List.set_cons_zero, List.set_cons_succ, i64_w, i32_w]
             rfl
            refine done_ (done_of HT_.out (by kernel_rfl)) ?_
            try go_wp2
            go_roundg k1
            case measure => have := HK1.out; omega
            case rel => exact ⟨(wrap64 (x5_1 + 1)), (by first | rfl | (simp; done) | (simp [*]; done)), H', ⟨by have := HK1.out; omega⟩, ⟨by repeat (first | (with_reducible first | exact HB.out | apply below_alloc | apply pw_below_drewN | apply below_drew1) | exact HB.out)⟩⟩
           ·replace c19 := Bool.eq_false_iff.mpr c19
            subst c19
            have H1 : (some false) = some r := by rw [if_neg (show ¬ (false = true) by decide)] at H; exact H
            clear H
            have H := H1
            clear H1
            obtain rfl := Option.some.inj H
            try go_wp2
            have n0_ := Aside0.mk (below_drew1 HB.out)
            clear HB
            have HB := n0_
            clear n0_
            have p137 : 0 ≤ (x5_1 : Int) := of_decide_eq_true (by first | (with_reducible assumption) | assumption)
            have q137 : x5_1 < (l1.length : Int) := of_decide_eq_true (by first | (with_reducible assumption) | assumption)
            obtain ⟨ad137, e137, hx137_0⟩ := Kd.at_int HR1.out x5_1 p137 q137
            have hw137_0 := hx137_0
            cases e137
            (try replace hx137_0 := (HB.out.cell (World.block_lt_of_cell? w _ hx137_0)).trans hx137_0)
            replace p137 := eq_true p137
            replace q137 := eq_true q137
            have p140 : 0 ≤ (x5_1 : Int) := of_decide_eq_true (by first | (with_reducible assumption) | assumption)
            have q140 : x5_1 < (l1.length : Int) := of_decide_eq_true (by first | (with_reducible assumption) | assumption)
            obtain ⟨ad140, e140, hx140_0⟩ := Kd.at_int HR1.out x5_1 p140 q140
            have hw140_0 := hx140_0
            obtain rfl : ad137 = ad140 := (by injection e140)
            (try replace hx140_0 := (HB.out.cell (World.block_lt_of_cell? w _ hx140_0)).trans hx140_0)
            replace p140 := eq_true p140
            replace q140 := eq_true q140
            have p142 : 0 ≤ (x5_1 : Int) := of_decide_eq_true (by first | (with_reducible assumption) | assumption)
            have q142 : x5_1 < (l1.length : Int) := of_decide_eq_true (by first | (with_reducible assumption) | assumption)
            obtain ⟨ad142, e142, hx142_0⟩ := Kd.at_int HR1.out x5_1 p142 q142
            have hw142_0 := hx142_0
            obtain rfl : ad137 = ad142 := (by injection e142)
            (try replace hx142_0 := (HB.out.cell (World.block_lt_of_cell? w _ hx142_0)).trans hx142_0)
            replace p142 := eq_true p142
            replace q142 := eq_true q142
            have p143 : 0 ≤ ((rd l1 x5_1) : Int) := of_decide_eq_true (by first | (with_reducible assumption) | assumption)
            have q143 : (rd l1 x5_1) < (l0.length : Int) := of_decide_eq_true (by first | (with_reducible assumption) | assumption)
            obtain ⟨ad143, A143_1, c143_1, e143, hx143_0, hx143_1, hx143_2, hx143_3, hl143_1, hi143_1⟩ := at_T38 HR0.out (rd l1 x5_1) p143 q143
            have hw143_3 := hx143_3
            have hw143_2 := hx143_2
            have hw143_1 := hx143_1
            have hw143_0 := hx143_0
            cases e143
            (try replace hx143_0 := (HB.out.cell (World.block_lt_of_cell? w _ hx143_0)).trans hx143_0)
            (try replace hx143_1 := (HB.out.cell (World.block_lt_of_cell? w _ hx143_1)).trans hx143_1)
            (try replace hx143_2 := (HB.out.cell (World.block_lt_of_cell? w _ hx143_2)).trans hx143_2)
            (try replace hx143_3 := (HB.out.cell (World.block_lt_of_cell? w _ hx143_3)).trans hx143_3)
            have HR143_1 := Aside0.mk hi143_1
            have HC143_1 := Aside0.mk hl143_1
            clear hi143_1 hl143_1
            replace p143 := eq_true p143
            replace q143 := eq_true q143
            refine start_ (n := 34) (S := fun w' => w'.cell? (ad137.add (x5_1).toNat) = some (.int .i64 (rd l1 x5_1)) ∧ w'.cell? (ad137.add (x5_1).toNat) = some (.int .i64 (rd l1 x5_1)) ∧ w'.cell? (ad137.add (x5_1).toNat) = some (.int .i64 (rd l1 x5_1)) ∧ w'.cell? (ad143.add (((rd l1 x5_1)).toNat * 4)) = some (.int .i64 ((rd_T38 l0 (rd l1 x5_1)).f0)) ∧ w'.cell? ⟨(ad143.add (((rd l1 x5_1)).toNat * 4)).block, (ad143.add (((rd l1 x5_1)).toNat * 4)).off + 1, none⟩ = some (.slice A143_1 ((rd_T38 l0 (rd l1 x5_1)).f1).length c143_1) ∧ w'.cell? ⟨(ad143.add (((rd l1 x5_1)).toNat * 4)).block, (ad143.add (((rd l1 x5_1)).toNat * 4)).off + 2, none⟩ = some (.int .i64 ((rd_T38 l0 (rd l1 x5_1)).f2)) ∧ w'.cell? ⟨(ad143.add (((rd l1 x5_1)).toNat * 4)).block, (ad143.add (((rd l1 x5_1)).toNat * 4)).off + 3, none⟩ = some (.int .i64 ((rd_T38 l0 (rd l1 x5_1)).f3))) (ds := []) #[F4q,F4q,F4q,F4q,F4q,F4q,F4q,F4q,F4q,F4q,F4q,F4q,F4q,F4q,F4q,F4q,F4q,F4q,F4q,F4q,F4q,F4q,F4q,F4q,F4q,F4q,F4q,F4q,F4q,F4q,F4q,F4q,F4q,F4q] (by kernel_rfl) rfl rfl ⟨(by first | exact ((HB.out.cell (World.block_lt_of_cell? w _ hw137_0)).trans hw137_0) | exact HS0_ | exact hHeld.1 | exact hw137_0), (by first | exact ((HB.out.cell (World.block_lt_of_cell? w _ hw140_0)).trans hw140_0) | exact HS0_ | exact hHeld.1 | exact hw140_0), (by first | exact ((HB.out.cell (World.block_lt_of_cell? w _ hw142_0)).trans hw142_0) | exact HS0_ | exact hHeld.1 | exact hw142_0), (by first | exact ((HB.out.cell (World.block_lt_of_cell? w _ hw143_0)).trans hw143_0) | exact HS0_ | exact hHeld.1 | exact hw143_0), (by first | exact ((HB.out.cell (World.block_lt_of_cell? w _ hw143_1)).trans hw143_1) | exact HS0_ | exact hHeld.1 | exact hw143_1), (by first | exact ((HB.out.cell (World.block_lt_of_cell? w _ hw143_2)).trans hw143_2) | exact HS0_ | exact hHeld.1 | exact hw143_2), (by first | exact ((HB.out.cell (World.block_lt_of_cell? w _ hw143_3)).trans hw143_3) | exact HS0_ | exact hHeld.1 | exact hw143_3)⟩ (fun hHeld => ?_); refine with_tabW spec_isOrder.tab6 spec_isOrder.bits6 (fun HT_ HW_ => ?_)
            generalize wr.drew = w23 at HB HR143_1 hx137_0 hx140_0 hx142_0 hx143_0 hx143_1 hx143_2 hx143_3 hHeld ⊢
            refine pure_ (i := 0) (N := some 17) (v := ?_) (a' := ?_) #[T4q,F4q,F4q,F4q,F4q,F4q,F4q,F4q,F4q,F4q,F4q,F4q,F4q,F4q,F4q,F4q,F4q,F4q,F4q,F4q,F4q,F4q,F4q,F4q,F4q,F4q,F4q,F4q,F4q,F4q,F4q,F4q,F4q,F4q] rfl rfl (any_of HT_.out (by kernel_rfl)) (fun _ _ _ h => h) (Or.inl ⟨by rfl, ?_⟩) ?_ ?_
            rotate_left
            ·intro w'
             go_simp
             with_reducible rfl
            rotate_left
            ·simp only [Act.put, List.setIfInBounds_toArray, List.set_cons_zero, List.set_cons_succ, i64_w, i32_w]
             rfl
            refine pure_ (i := 1) (N := some 18) (v := ?_) (a' := ?_) #[T4q,T4q,F4q,F4q,F4q,F4q,F4q,F4q,F4q,F4q,F4q,F4q,F4q,F4q,F4q,F4q,F4q,F4q,F4q,F4q,F4q,F4q,F4q,F4q,F4q,F4q,F4q,F4q,F4q,F4q,F4q,F4q,F4q,F4q] rfl rfl (any_of HT_.out (by kernel_rfl)) (fun _ _ _ h => h) (Or.inl ⟨by rfl, ?_⟩) ?_ ?_
            rotate_left
            ·intro w'
             go_simp
             with_reducible rfl
            rotate_left
            ·simp only [Act.put, List.setIfInBounds_toArray, List.set_cons_zero, List.set_cons_succ, i64_w, i32_w]
             rfl
            refine pure_ (i := 2) (N := some 19) (v := ?_) (a' := ?_) #[T4q,T4q,T4q,F4q,F4q,F4q,F4q,F4q,F4q,F4q,F4q,F4q,F4q,F4q,F4q,F4q,F4q,F4q,F4q,F4q,F4q,F4q,F4q,F4q,F4q,F4q,F4q,F4q,F4q,F4q,F4q,F4q,F4q,F4q] rfl rfl (any_of HT_.out (by kernel_rfl)) (fun _ _ _ h => h) (Or.inl ⟨by rfl, ?_⟩) ?_ ?_
            rotate_left
            ·intro w'
             go_simp
             with_reducible rfl
            rotate_left
            ·simp only [Act.put, List.setIfInBounds_toArray, List.set_cons_zero, List.set_cons_succ, i64_w, i32_w]
             rfl
            refine pure_ (i := 4) (N := some 21) (v := ?_) (a' := ?_) #[T4q,T4q,T4q,F4q,T4q,F4q,F4q,F4q,F4q,F4q,F4q,F4q,F4q,F4q,F4q,F4q,F4q,F4q,F4q,F4q,F4q,F4q,F4q,F4q,F4q,F4q,F4q,F4q,F4q,F4q,F4q,F4q,F4q,F4q] rfl rfl (any_of HT_.out (by kernel_rfl)) (fun _ _ _ h => h) (Or.inl ⟨by rfl, ?_⟩) ?_ ?_
            rotate_left
            ·intro w'
             go_simp
             with_reducible rfl
            rotate_left
            ·simp only [Act.put, List.setIfInBounds_toArray, List.set_cons_zero, List.set_cons_succ, i64_w, i32_w]
             rfl
            refine pure_ (i := 5) (N := some 22) (v := ?_) (a' := ?_) #[T4q,T4q,T4q,F4q,T4q,T4q,F4q,F4q,F4q,F4q,F4q,F4q,F4q,F4q,F4q,F4q,F4q,F4q,F4q,F4q,F4q,F4q,F4q,F4q,F4q,F4q,F4q,F4q,F4q,F4q,F4q,F4q,F4q,F4q] rfl rfl (any_of HT_.out (by kernel_rfl)) (fun _ _ _ h => h) (Or.inl ⟨by rfl, ?_⟩) ?_ ?_
            rotate_left
            ·intro w'
             go_simp
             with_reducible rfl
            rotate_left
            ·simp only [Act.put, List.setIfInBounds_toArray, List.set_cons_zero, List.set_cons_succ, i64_w, i32_w]
             rfl
            refine pure_ (i := 6) (N := some 23) (v := ?_) (a' := ?_) #[T4q,T4q,T4q,F4q,T4q,T4q,T4q,F4q,F4q,F4q,F4q,F4q,F4q,F4q,F4q,F4q,F4q,F4q,F4q,F4q,F4q,F4q,F4q,F4q,F4q,F4q,F4q,F4q,F4q,F4q,F4q,F4q,F4q,F4q] rfl rfl (any_of HT_.out (by kernel_rfl)) (fun _ _ _ h => h) (Or.inl ⟨by rfl, ?_⟩) ?_ ?_
            rotate_left
            ·intro w'
             go_simp
             with_reducible rfl
            rotate_left
            ·simp only [Act.put, List.setIfInBounds_toArray, List.set_cons_zero, List.set_cons_succ, i64_w, i32_w]
             rfl
            refine take_ (i := 3) (N := some 20) (v := ?_) (a' := ?_) #[T4q,T4q,T4q,T4q,T4q,T4q,T4q,F4q,F4q,F4q,F4q,F4q,F4q,F4q,F4q,F4q,F4q,F4q,F4q,F4q,F4q,F4q,F4q,F4q,F4q,F4q,F4q,F4q,F4q,F4q,F4q,F4q,F4q,F4q] rfl rfl (take_ofW HT_.out HW_.out (by kernel_rfl)) (fun _ _ _ h => h) (Or.inl ⟨by rfl, ?_⟩) hHeld ?_ ?_
            rotate_left
            ·rintro w' ⟨s0, s1, s2, s3, s4, s5, s6⟩
             go_simp
             with_reducible rfl
            rotate_left
            ·simp only [Act.put, List.setIfInBounds_toArray, List.set_cons_zero, List.set_cons_succ, i64_w, i32_w]
             rfl
            refine one_ (i := 7) (N := some 24) #[T4q,T4q,T4q,T4q,T4q,T4q,T4q,T4q,F4q,F4q,F4q,F4q,F4q,F4q,F4q,F4q,F4q,F4q,F4q,F4q,F4q,F4q,F4q,F4q,F4q,F4q,F4q,F4q,F4q,F4q,F4q,F4q,F4q,F4q] rfl rfl (one_of HT_.out (by kernel_rfl)) (by decide) (fun K hK => ?_)
            refine goes_ Tryd.func40 (by kernel_rfl) rfl #[.int .i64 (rd l1 x5_1), .int .i64 0, .int .i64 (wrap64 ((l0.length : Int) - 1))] (by rfl) rfl rfl (by (try simp only [List.map_toArray, List.map_cons, List.map_nil]); first | done | rfl | (simp only [List.length_drop, List.length_take]; rfl)) ?_
            with_reducible refine (spec_inRange.calls (rd l1 x5_1) 0 (wrap64 ((l0.length : Int) - 1)) true _ A6.out).mono ?_
            rintro e w' ⟨rfl, ⟨nd, rfl⟩⟩
            refine ⟨_, rfl, ?_⟩
            obtain ⟨i024, hi024, _, hsz24, _⟩ := info_parts info3
            obtain ⟨hcut24, hA24, hC24⟩ := print_take_of (P := Tryd.prog) (Value.int .i64) 0 23 3 .i64 Tryd.underlying23 hi024 hsz24 (some ad137) c1 l1 x5_1 (of_decide_eq_true (by first | (with_reducible assumption) | assumption)) (of_decide_eq_true (by first | (with_reducible assumption) | assumption)) HC1.out
            have HR139 := Aside0.mk (Kd.C_of_reads (h1 := fun _ => rfl) (hA24 _ (Kd.reads_of_C HR1.out)))
            have HC139 := Aside0.mk hC24
            clear hA24 hC24 hi024 hsz24
            refine hK.out _ _ ⟨(by first | exact ((HB.out.cell (World.block_lt_of_cell? w _ hw137_0)).trans hw137_0) | exact HS0_ | exact hHeld.1 | exact hw137_0), (by first | exact ((HB.out.cell (World.block_lt_of_cell? w _ hw140_0)).trans hw140_0) | exact HS0_ | exact hHeld.1 | exact hw140_0), (by first | exact ((HB.out.cell (World.block_lt_of_cell? w _ hw142_0)).trans hw142_0) | exact HS0_ | exact hHeld.1 | exact hw142_0), (by first | exact ((HB.out.cell (World.block_lt_of_cell? w _ hw143_0)).trans hw143_0) | exact HS0_ | exact hHeld.1 | exact hw143_0), (by first | exact ((HB.out.cell (World.block_lt_of_cell? w _ hw143_1)).trans hw143_1) | exact HS0_ | exact hHeld.1 | exact hw143_1), (by first | exact ((HB.out.cell (World.block_lt_of_cell? w _ hw143_2)).trans hw143_2) | exact HS0_ | exact hHeld.1 | exact hw143_2), (by first | exact ((HB.out.cell (World.block_lt_of_cell? w _ hw143_3)).trans hw143_3) | exact HS0_ | exact hHeld.1 | exact hw143_3)⟩ (fun hHeld => ?_)
            clear hK K
            refine norm_ (a' := ?_) ?_ ?_
            rotate_left
            ·show Act.put _ (some 24) _ = _
             simp only [Act.put, List.setIfInBounds_toArray, List.set_cons_zero, List.set_cons_succ, i64_w, i32_w]
             rfl
            refine pure_ (i := 8) (N := some 25) (v := ?_) (a' := ?_) #[T4q,T4q,T4q,T4q,T4q,T4q,T4q,T4q,T4q,F4q,F4q,F4q,F4q,F4q,F4q,F4q,F4q,F4q,F4q,F4q,F4q,F4q,F4q,F4q,F4q,F4q,F4q,F4q,F4q,F4q,F4q,F4q,F4q,F4q] rfl rfl (any_of HT_.out (by kernel_rfl)) (fun _ _ _ h => h) (Or.inl ⟨by rfl, ?_⟩) ?_ ?_
            rotate_left
            ·intro w'
             go_simp
             with_reducible rfl
            rotate_left
            ·simp only [Act.put, List.setIfInBounds_toArray, List.set_cons_zero, List.set_cons_succ, i64_w, i32_w]
             rfl
            refine pure_ (i := 9) (N := some 26) (v := ?_) (a' := ?_) #[T4q,T4q,T4q,T4q,T4q,T4q,T4q,T4q,T4q,T4q,F4q,F4q,F4q,F4q,F4q,F4q,F4q,F4q,F4q,F4q,F4q,F4q,F4q,F4q,F4q,F4q,F4q,F4q,F4q,F4q,F4q,F4q,F4q,F4q] rfl rfl (any_of HT_.out (by kernel_rfl)) (fun _ _ _ h => h) (Or.inl ⟨by rfl, ?_⟩) ?_ ?_
            rotate_left
            ·intro w'
             go_simp
             with_reducible rfl
            rotate_left
            ·simp only [Act.put, List.setIfInBounds_toArray, List.set_cons_zero, List.set_cons_succ, i64_w, i32_w]
             rfl
            refine pure_ (i := 10) (N := some 27) (v := ?_) (a' := ?_) #[T4q,T4q,T4q,T4q,T4q,T4q,T4q,T4q,T4q,T4q,T4q,F4q,F4q,F4q,F4q,F4q,F4q,F4q,F4q,F4q,F4q,F4q,F4q,F4q,F4q,F4q,F4q,F4q,F4q,F4q,F4q,F4q,F4q,F4q] rfl rfl (any_of HT_.out (by kernel_rfl)) (fun _ _ _ h => h) (Or.inl ⟨by rfl, ?_⟩) ?_ ?_
            rotate_left
            ·intro w'
             go_simp
             with_reducible rfl
            rotate_left
            ·simp only [Act.put, List.setIfInBounds_toArray, List.set_cons_zero, List.set_cons_succ, i64_w, i32_w]
             rfl
            refine pure_ (i := 11) (N := some 28) (v := ?_) (a' := ?_) #[T4q,T4q,T4q,T4q,T4q,T4q,T4q,T4q,T4q,T4q,T4q,T4q,F4q,F4q,F4q,F4q,F4q,F4q,F4q,F4q,F4q,F4q,F4q,F4q,F4q,F4q,F4q,F4q,F4q,F4q,F4q,F4q,F4q,F4q] rfl rfl (any_of HT_.out (by kernel_rfl)) (fun _ _ _ h => h) (Or.inl ⟨by rfl, ?_⟩) ?_ ?_
            rotate_left
            ·intro w'
             go_simp
             with_reducible rfl
            rotate_left
            ·simp only [Act.put, List.setIfInBounds_toArray, List.set_cons_zero, List.set_cons_succ, i64_w, i32_w]
             rfl
            refine pure_ (i := 12) (N := some 29) (v := ?_) (a' := ?_) #[T4q,T4q,T4q,T4q,T4q,T4q,T4q,T4q,T4q,T4q,T4q,T4q,T4q,F4q,F4q,F4q,F4q,F4q,F4q,F4q,F4q,F4q,F4q,F4q,F4q,F4q,F4q,F4q,F4q,F4q,F4q,F4q,F4q,F4q] rfl rfl (any_of HT_.out (by kernel_rfl)) (fun _ _ _ h => h) (Or.inl ⟨by rfl, ?_⟩) ?_ ?_
            rotate_left
            ·intro w'
             go_simp
             with_reducible rfl
            rotate_left
            ·simp only [Act.put, List.setIfInBounds_toArray, List.set_cons_zero, List.set_cons_succ, i64_w, i32_w]
             rfl
            refine pure_ (i := 13) (N := some 30) (v := ?_) (a' := ?_) #[T4q,T4q,T4q,T4q,T4q,T4q,T4q,T4q,T4q,T4q,T4q,T4q,T4q,T4q,F4q,F4q,F4q,F4q,F4q,F4q,F4q,F4q,F4q,F4q,F4q,F4q,F4q,F4q,F4q,F4q,F4q,F4q,F4q,F4q] rfl rfl (any_of HT_.out (by kernel_rfl)) (fun _ _ _ h => h) (Or.inl ⟨by rfl, ?_⟩) ?_ ?_
            rotate_left
            ·intro w'
             go_simp
             with_reducible rfl
            rotate_left
            ·simp only [Act.put, List.setIfInBounds_toArray, List.set_cons_zero, List.set_cons_succ, i64_w, i32_w]
             rfl
            refine pure_ (i := 14) (N := some 31) (v := ?_) (a' := ?_) #[T4q,T4q,T4q,T4q,T4q,T4q,T4q,T4q,T4q,T4q,T4q,T4q,T4q,T4q,T4q,F4q,F4q,F4q,F4q,F4q,F4q,F4q,F4q,F4q,F4q,F4q,F4q,F4q,F4q,F4q,F4q,F4q,F4q,F4q] rfl rfl (any_of HT_.out (by kernel_rfl)) (fun _ _ _ h => h) (Or.inl ⟨by rfl, ?_⟩) ?_ ?_
            rotate_left
            ·intro w'
             go_simp
             with_reducible rfl
            rotate_left
            ·simp only [Act.put, List.setIfInBounds_toArray, List.set_cons_zero, List.set_cons_succ, i64_w, i32_w]
             rfl
            refine pure_ (i := 15) (N := some 32) (v := ?_) (a' := ?_) #[T4q,T4q,T4q,T4q,T4q,T4q,T4q,T4q,T4q,T4q,T4q,T4q,T4q,T4q,T4q,T4q,F4q,F4q,F4q,F4q,F4q,F4q,F4q,F4q,F4q,F4q,F4q,F4q,F4q,F4q,F4q,F4q,F4q,F4q] rfl rfl (any_of HT_.out (by kernel_rfl)) (fun _ _ _ h => h) (Or.inl ⟨by rfl, ?_⟩) ?_ ?_
            rotate_left
            ·intro w'
             go_simp
             with_reducible rfl
            rotate_left
            ·simp only [Act.put, List.setIfInBounds_toArray, List.set_cons_zero, List.set_cons_succ, i64_w, i32_w]
             rfl
            refine take_ (i := 16) (N := some 33) (v := ?_) (a' := ?_) #[T4q,T4q,T4q,T4q,T4q,T4q,T4q,T4q,T4q,T4q,T4q,T4q,T4q,T4q,T4q,T4q,T4q,F4q,F4q,F4q,F4q,F4q,F4q,F4q,F4q,F4q,F4q,F4q,F4q,F4q,F4q,F4q,F4q,F4q] rfl rfl (take_ofW HT_.out HW_.out (by kernel_rfl)) (fun _ _ _ h => h) (Or.inl ⟨by rfl, ?_⟩) hHeld ?_ ?_
            rotate_left
            ·rintro w' ⟨s0, s1, s2, s3, s4, s5, s6⟩
             go_simp
             with_reducible rfl
            rotate_left
            ·simp only [Act.put, List.setIfInBounds_toArray, List.set_cons_zero, List.set_cons_succ, i64_w, i32_w]
             rfl
            refine one_ (i := 17) (N := some 34) #[T4q,T4q,T4q,T4q,T4q,T4q,T4q,T4q,T4q,T4q,T4q,T4q,T4q,T4q,T4q,T4q,T4q,T4q,F4q,F4q,F4q,F4q,F4q,F4q,F4q,F4q,F4q,F4q,F4q,F4q,F4q,F4q,F4q,F4q] rfl rfl (one_of HT_.out (by kernel_rfl)) (by decide) (fun K hK => ?_)
            refine goes_ Tryd.func33 (by kernel_rfl) rfl #[.slice (some ad137) (l1.take (x5_1 : Int).toNat).length c1, .int .i64 (rd l1 x5_1)] (by rfl) rfl rfl (by (try simp only [List.map_toArray, List.map_cons, List.map_nil]); first | done | (rw [show (l1.take (x5_1 : Int).toNat).length = x5_1.toNat from (by rw [List.length_take]; have h_ : (x5_1 : Int) ≤ (l1.length : Int) := of_decide_eq_true (by first | (with_reducible assumption) | assumption); omega)] <;> rfl) | rfl | (simp only [List.length_drop, List.length_take]; rfl)) ?_
            with_reducible refine (spec_isIn.calls k1 _ _ (l1.take (x5_1 : Int).toNat) (rd l1 x5_1) false _ ?side1 ?side2 A10.out).mono ?_
            (case side1 => repeat (first | exact (Kd.C_below HR139.out HB.out) | (with_reducible refine Kd.C_alloc ?_ _) | (with_reducible refine Kd.C_drewN ?_ _) | (with_reducible refine Kd.C_drew ?_)))
            (case side2 => exact HC139.out)
            rintro e w' ⟨rfl, ⟨nd, rfl⟩⟩
            refine ⟨_, rfl, ?_⟩
            obtain ⟨i025, hi025, _, hsz25, _⟩ := info_parts info3
            obtain ⟨hcut25, hA25, hC25⟩ := print_take_of (P := Tryd.prog) (Value.int .i64) 0 23 3 .i64 Tryd.underlying23 hi025 hsz25 (some ad137) c1 l1 x5_1 (of_decide_eq_true (by first | (with_reducible assumption) | assumption)) (of_decide_eq_true (by first | (with_reducible assumption) | assumption)) HC1.out
            have HR144 := Aside0.mk (Kd.C_of_reads (h1 := fun _ => rfl) (hA25 _ (Kd.reads_of_C HR1.out)))
            have HC144 := Aside0.mk hC25
            clear hA25 hC25 hi025 hsz25
            refine hK.out _ _ ⟨(by first | exact ((HB.out.cell (World.block_lt_of_cell? w _ hw137_0)).trans hw137_0) | exact HS0_ | exact hHeld.1 | exact hw137_0), (by first | exact ((HB.out.cell (World.block_lt_of_cell? w _ hw140_0)).trans hw140_0) | exact HS0_ | exact hHeld.1 | exact hw140_0), (by first | exact ((HB.out.cell (World.block_lt_of_cell? w _ hw142_0)).trans hw142_0) | exact HS0_ | exact hHeld.1 | exact hw142_0), (by first | exact ((HB.out.cell (World.block_lt_of_cell? w _ hw143_0)).trans hw143_0) | exact HS0_ | exact hHeld.1 | exact hw143_0), (by first | exact ((HB.out.cell (World.block_lt_of_cell? w _ hw143_1)).trans hw143_1) | exact HS0_ | exact hHeld.1 | exact hw143_1), (by first | exact ((HB.out.cell (World.block_lt_of_cell? w _ hw143_2)).trans hw143_2) | exact HS0_ | exact hHeld.1 | exact hw143_2), (by first | exact ((HB.out.cell (World.block_lt_of_cell? w _ hw143_3)).trans hw143_3) | exact HS0_ | exact hHeld.1 | exact hw143_3)⟩ (fun hHeld => ?_)
            clear hK K
            refine norm_ (a' := ?_) ?_ ?_
            rotate_left
            ·show Act.put _ (some 34) _ = _
             simp only [Act.put, List.setIfInBounds_toArray, List.set_cons_zero, List.set_cons_succ, i64_w, i32_w]
             rfl
            refine pure_ (i := 18) (N := some 35) (v := ?_) (a' := ?_) #[T4q,T4q,T4q,T4q,T4q,T4q,T4q,T4q,T4q,T4q,T4q,T4q,T4q,T4q,T4q,T4q,T4q,T4q,T4q,F4q,F4q,F4q,F4q,F4q,F4q,F4q,F4q,F4q,F4q,F4q,F4q,F4q,F4q,F4q] rfl rfl (any_of HT_.out (by kernel_rfl)) (fun _ _ _ h => h) (Or.inl ⟨by rfl, ?_⟩) ?_ ?_
            rotate_left
            ·intro w'
             go_simp
             with_reducible rfl
            rotate_left
            ·simp only [Act.put, List.setIfInBounds_toArray, List.set_cons_zero, List.set_cons_succ, i64_w, i32_w]
             rfl
            refine pure_ (i := 19) (N := some 36) (v := ?_) (a' := ?_) #[T4q,T4q,T4q,T4q,T4q,T4q,T4q,T4q,T4q,T4q,T4q,T4q,T4q,T4q,T4q,T4q,T4q,T4q,T4q,T4q,F4q,F4q,F4q,F4q,F4q,F4q,F4q,F4q,F4q,F4q,F4q,F4q,F4q,F4q] rfl rfl (any_of HT_.out (by kernel_rfl)) (fun _ _ _ h => h) (Or.inl ⟨by rfl, ?_⟩) ?_ ?_
            rotate_left
            ·intro w'
             go_simp
             with_reducible rfl
            rotate_left
            ·simp only [Act.put, List.setIfInBounds_toArray, List.set_cons_zero, List.set_cons_succ, i64_w, i32_w]
             rfl
            refine pure_ (i := 20) (N := some 37) (v := ?_) (a' := ?_) #[T4q,T4q,T4q,T4q,T4q,T4q,T4q,T4q,T4q,T4q,T4q,T4q,T4q,T4q,T4q,T4q,T4q,T4q,T4q,T4q,T4q,F4q,F4q,F4q,F4q,F4q,F4q,F4q,F4q,F4q,F4q,F4q,F4q,F4q] rfl rfl (any_of HT_.out (by kernel_rfl)) (fun _ _ _ h => h) (Or.inl ⟨by rfl, ?_⟩) ?_ ?_
            rotate_left
            ·intro w'
             go_simp
             with_reducible rfl
            rotate_left
            ·simp only [Act.put, List.setIfInBounds_toArray, List.set_cons_zero, List.set_cons_succ, i64_w, i32_w]
             rfl
            refine pure_ (i := 21) (N := some 38) (v := ?_) (a' := ?_) #[T4q,T4q,T4q,T4q,T4q,T4q,T4q,T4q,T4q,T4q,T4q,T4q,T4q,T4q,T4q,T4q,T4q,T4q,T4q,T4q,T4q,T4q,F4q,F4q,F4q,F4q,F4q,F4q,F4q,F4q,F4q,F4q,F4q,F4q] rfl rfl (any_of HT_.out (by kernel_rfl)) (fun _ _ _ h => h) (Or.inl ⟨by rfl, ?_⟩) ?_ ?_
            rotate_left
            ·intro w'
             go_simp
             with_reducible rfl
            rotate_left
            ·simp only [Act.put, List.setIfInBounds_toArray, List.set_cons_zero, List.set_cons_succ, i64_w, i32_w]
             rfl
            refine pure_ (i := 22) (N := some 39) (v := ?_) (a' := ?_) #[T4q,T4q,T4q,T4q,T4q,T4q,T4q,T4q,T4q,T4q,T4q,T4q,T4q,T4q,T4q,T4q,T4q,T4q,T4q,T4q,T4q,T4q,T4q,F4q,F4q,F4q,F4q,F4q,F4q,F4q,F4q,F4q,F4q,F4q] rfl rfl (any_of HT_.out (by kernel_rfl)) (fun _ _ _ h => h) (Or.inl ⟨by rfl, ?_⟩) ?_ ?_
            rotate_left
            ·intro w'
             go_simp
             with_reducible rfl
            rotate_left
            ·simp only [Act.put, List.setIfInBounds_toArray, List.set_cons_zero, List.set_cons_succ, i64_w, i32_w]
             rfl
            refine pure_ (i := 23) (N := some 40) (v := ?_) (a' := ?_) #[T4q,T4q,T4q,T4q,T4q,T4q,T4q,T4q,T4q,T4q,T4q,T4q,T4q,T4q,T4q,T4q,T4q,T4q,T4q,T4q,T4q,T4q,T4q,T4q,F4q,F4q,F4q,F4q,F4q,F4q,F4q,F4q,F4q,F4q] rfl rfl (any_of HT_.out (by kernel_rfl)) (fun _ _ _ h => h) (Or.inl ⟨by rfl, ?_⟩) ?_ ?_
            rotate_left
            ·intro w'
             go_simp
             with_reducible rfl
            rotate_left
            ·simp only [Act.put, List.setIfInBounds_toArray, List.set_cons_zero, List.set_cons_succ, i64_w, i32_w]
             rfl
            refine pure_ (i := 28) (N := some 45) (v := ?_) (a' := ?_) #[T4q,T4q,T4q,T4q,T4q,T4q,T4q,T4q,T4q,T4q,T4q,T4q,T4q,T4q,T4q,T4q,T4q,T4q,T4q,T4q,T4q,T4q,T4q,T4q,F4q,F4q,F4q,F4q,T4q,F4q,F4q,F4q,F4q,F4q] rfl rfl (any_of HT_.out (by kernel_rfl)) (fun _ _ _ h => h) (Or.inl ⟨by rfl, ?_⟩) ?_ ?_
            rotate_left
            ·intro w'
             go_simp
             with_reducible rfl
            rotate_left
            ·simp only [Act.put, List.setIfInBounds_toArray, List.set_cons_zero, List.set_cons_succ, i64_w, i32_w]
             rfl
            refine pure_ (i := 29) (N := some 46) (v := ?_) (a' := ?_) #[T4q,T4q,T4q,T4q,T4q,T4q,T4q,T4q,T4q,T4q,T4q,T4q,T4q,T4q,T4q,T4q,T4q,T4q,T4q,T4q,T4q,T4q,T4q,T4q,F4q,F4q,F4q,F4q,T4q,T4q,F4q,F4q,F4q,F4q] rfl rfl (any_of HT_.out (by kernel_rfl)) (fun _ _ _ h => h) (Or.inl ⟨by rfl, ?_⟩) ?_ ?_
            rotate_left
            ·intro w'
             go_simp
             with_reducible rfl
            rotate_left
            ·simp only [Act.put, List.setIfInBounds_toArray, List.set_cons_zero, List.set_cons_succ, i64_w, i32_w]
             rfl
            refine pure_ (i := 30) (N := some 47) (v := ?_) (a' := ?_) #[T4q,T4q,T4q,T4q,T4q,T4q,T4q,T4q,T4q,T4q,T4q,T4q,T4q,T4q,T4q,T4q,T4q,T4q,T4q,T4q,T4q,T4q,T4q,T4q,F4q,F4q,F4q,F4q,T4q,T4q,T4q,F4q,F4q,F4q] rfl rfl (any_of HT_.out (by kernel_rfl)) (fun _ _ _ h => h) (Or.inl ⟨by rfl, ?_⟩) ?_ ?_
            rotate_left
            ·intro w'
             go_simp
             with_reducible rfl
            rotate_left
            ·simp only [Act.put, List.setIfInBounds_toArray, List.set_cons_zero, List.set_cons_succ, i64_w, i32_w]
             rfl
            refine take_ (i := 24) (N := some 41) (v := ?_) (a' := ?_) #[T4q,T4q,T4q,T4q,T4q,T4q,T4q,T4q,T4q,T4q,T4q,T4q,T4q,T4q,T4q,T4q,T4q,T4q,T4q,T4q,T4q,T4q,T4q,T4q,T4q,F4q,F4q,F4q,T4q,T4q,T4q,F4q,F4q,F4q] rfl rfl (take_ofW HT_.out HW_.out (by kernel_rfl)) (fun _ _ _ h => h) (Or.inl ⟨by rfl, ?_⟩) hHeld ?_ ?_
            rotate_left
            ·rintro w' ⟨s0, s1, s2, s3, s4, s5, s6⟩
             go_simp
             with_reducible rfl
            rotate_left
            ·simp only [Act.put, List.setIfInBounds_toArray, List.set_cons_zero, List.set_cons_succ, i64_w, i32_w]
             rfl
            refine pure_ (i := 25) (N := some 42) (v := ?_) (a' := ?_) #[T4q,T4q,T4q,T4q,T4q,T4q,T4q,T4q,T4q,T4q,T4q,T4q,T4q,T4q,T4q,T4q,T4q,T4q,T4q,T4q,T4q,T4q,T4q,T4q,T4q,T4q,F4q,F4q,T4q,T4q,T4q,F4q,F4q,F4q] rfl rfl (any_of HT_.out (by kernel_rfl)) (fun _ _ _ h => h) (Or.inl ⟨by rfl, ?_⟩) ?_ ?_
            rotate_left
            ·intro w'
             go_simp
             with_reducible rfl
            rotate_left
            ·simp only [Act.put, List.setIfInBounds_toArray, List.set_cons_zero, List.set_cons_succ, i64_w, i32_w]
             rfl
            refine pure_ (i := 26) (N := some 43) (v := ?_) (a' := ?_) #[T4q,T4q,T4q,T4q,T4q,T4q,T4q,T4q,T4q,T4q,T4q,T4q,T4q,T4q,T4q,T4q,T4q,T4q,T4q,T4q,T4q,T4q,T4q,T4q,T4q,T4q,T4q,F4q,T4q,T4q,T4q,F4q,F4q,F4q] rfl rfl (any_of HT_.out (by kernel_rfl)) (fun _ _ _ h => h) (Or.inl ⟨by rfl, ?_⟩) ?_ ?_
            rotate_left
            ·intro w'
             go_simp
             with_reducible rfl
            rotate_left
            ·simp only [Act.put, List.setIfInBounds_toArray, List.set_cons_zero, List.set_cons_succ, i64_w, i32_w]
             rfl
            refine take_ (i := 27) (N := some 44) (v := ?_) (a' := ?_) #[T4q,T4q,T4q,T4q,T4q,T4q,T4q,T4q,T4q,T4q,T4q,T4q,T4q,T4q,T4q,T4q,T4q,T4q,T4q,T4q,T4q,T4q,T4q,T4q,T4q,T4q,T4q,T4q,T4q,T4q,T4q,F4q,F4q,F4q] rfl rfl (take_ofW HT_.out HW_.out (by kernel_rfl)) (fun _ _ _ h => h) (Or.inl ⟨by rfl, ?_⟩) hHeld ?_ ?_
            rotate_left
            ·rintro w' ⟨s0, s1, s2, s3, s4, s5, s6⟩
             go_simp
             with_reducible rfl
            rotate_left
            ·simp only [Act.put, List.setIfInBounds_toArray, List.set_cons_zero, List.set_cons_succ, i64_w, i32_w]
             rfl
            refine one_ (i := 31) (N := some 48) #[T4q,T4q,T4q,T4q,T4q,T4q,T4q,T4q,T4q,T4q,T4q,T4q,T4q,T4q,T4q,T4q,T4q,T4q,T4q,T4q,T4q,T4q,T4q,T4q,T4q,T4q,T4q,T4q,T4q,T4q,T4q,T4q,F4q,F4q] rfl rfl (one_of HT_.out (by kernel_rfl)) (by decide) (fun K hK => ?_)
            refine goes_ Tryd.func34 (by kernel_rfl) rfl #[.slice A143_1 ((rd_T38 l0 (rd l1 x5_1)).f1).length c143_1, .slice (some ad137) (l1.take (x5_1 : Int).toNat).length c1] (by rfl) rfl rfl (by (try simp only [List.map_toArray, List.map_cons, List.map_nil]); first | done | (rw [show (l1.take (x5_1 : Int).toNat).length = x5_1.toNat from (by rw [List.length_take]; have h_ : (x5_1 : Int) ≤ (l1.length : Int) := of_decide_eq_true (by first | (with_reducible assumption) | assumption); omega)] <;> rfl) | rfl | (simp only [List.length_drop, List.length_take]; rfl)) ?_
            with_reducible refine (spec_allDone.calls k1 _ _ ((rd_T38 l0 (rd l1 x5_1)).f1) _ _ (l1.take (x5_1 : Int).toNat) false _ ?side1 ?side2 ?side3 ?side4 A18.out).mono ?_
            (case side1 => repeat (first | exact (Kd.C_below HR143_1.out HB.out) | (with_reducible refine Kd.C_alloc ?_ _) | (with_reducible refine Kd.C_drewN ?_ _) | (with_reducible refine Kd.C_drew ?_)))
            (case side2 => exact HC143_1.out)
            (case side3 => repeat (first | exact (Kd.C_below HR144.out HB.out) | (with_reducible refine Kd.C_alloc ?_ _) | (with_reducible refine Kd.C_drewN ?_ _) | (with_reducible refine Kd.C_drew ?_)))
            (case side4 => exact HC144.out)
            rintro e w' ⟨rfl, ⟨nd, rfl⟩⟩
            refine ⟨_, rfl, ?_⟩
            refine hK.out _ _ ⟨(by first | exact ((HB.out.cell (World.block_lt_of_cell? w _ hw137_0)).trans hw137_0) | exact HS0_ | exact hHeld.1 | exact hw137_0), (by first | exact ((HB.out.cell (World.block_lt_of_cell? w _ hw140_0)).trans hw140_0) | exact HS0_ | exact hHeld.1 | exact hw140_0), (by first | exact ((HB.out.cell (World.block_lt_of_cell? w _ hw142_0)).trans hw142_0) | exact HS0_ | exact hHeld.1 | exact hw142_0), (by first | exact ((HB.out.cell (World.block_lt_of_cell? w _ hw143_0)).trans hw143_0) | exact HS0_ | exact hHeld.1 | exact hw143_0), (by first | exact ((HB.out.cell (World.block_lt_of_cell? w _ hw143_1)).trans hw143_1) | exact HS0_ | exact hHeld.1 | exact hw143_1), (by first | exact ((HB.out.cell (World.block_lt_of_cell? w _ hw143_2)).trans hw143_2) | exact HS0_ | exact hHeld.1 | exact hw143_2), (by first | exact ((HB.out.cell (World.block_lt_of_cell? w _ hw143_3)).trans hw143_3) | exact HS0_ | exact hHeld.1 | exact hw143_3)⟩ (fun hHeld => ?_)
            clear hK K
            refine norm_ (a' := ?_) ?_ ?_
            rotate_left
            ·show Act.put _ (some 48) _ = _
             simp only [Act.put, List.setIfInBounds_toArray, List.set_cons_zero, List.set_cons_succ, i64_w, i32_w]
             rfl
            refine pure_ (i := 32) (N := some 49) (v := ?_) (a' := ?_) #[T4q,T4q,T4q,T4q,T4q,T4q,T4q,T4q,T4q,T4q,T4q,T4q,T4q,T4q,T4q,T4q,T4q,T4q,T4q,T4q,T4q,T4q,T4q,T4q,T4q,T4q,T4q,T4q,T4q,T4q,T4q,T4q,T4q,F4q] rfl rfl (any_of HT_.out (by kernel_rfl)) (fun _ _ _ h => h) (Or.inl ⟨by rfl, ?_⟩) ?_ ?_
            rotate_left
            ·intro w'
             go_simp
             with_reducible rfl
            rotate_left
            ·simp only [Act.put, List.setIfInBounds_toArray, List.set_cons_zero, List.set_cons_succ, i64_w, i32_w]
             rfl
            refine pure_ (i := 33) (N := some 50) (v := ?_) (a' := ?_) #[T4q,T4q,T4q,T4q,T4q,T4q,T4q,T4q,T4q,T4q,T4q,T4q,T4q,T4q,T4q,T4q,T4q,T4q,T4q,T4q,T4q,T4q,T4q,T4q,T4q,T4q,T4q,T4q,T4q,T4q,T4q,T4q,T4q,T4q] rfl rfl (any_of HT_.out (by kernel_rfl)) (fun _ _ _ h => h) (Or.inl ⟨by rfl, ?_⟩) ?_ ?_
            rotate_left
            ·intro w'
             go_simp
             with_reducible rfl
            rotate_left
            ·simp only [Act.put, List.setIfInBounds_toArray, List.set_cons_zero, List.set_cons_succ, i64_w, i32_w]
             rfl
            refine done_ (done_of HT_.out (by kernel_rfl)) ?_
            try go_wp2
            go_ret
            exact ⟨by first | rfl | (simp [errW_none, errW_some] <;> rfl) | (simp [*, errW_none, errW_some] <;> rfl), by repeat (first | (with_reducible first | exact HB.out | apply below_alloc | apply pw_below_drewN | apply below_drew1) | exact HB.out)⟩
          ·rw [if_neg c15] at H
           exact absurd H (by simp)
         ·rw [if_neg c14] at H
          exact absurd H (by simp)
       ·rw [if_neg c9] at H
        exact absurd H (by simp)
      ·replace c7 := Bool.eq_false_iff.mpr c7
       subst c7
       have H1 : (some false) = some r := by rw [if_neg (show ¬ (false = true) by decide)] at H; exact H
       clear H
       have H := H1
       clear H1
       obtain rfl := Option.some.inj H
       try go_wp2
       have n0_ := Aside0.mk (below_drew1 HB.out)
       clear HB
       have HB := n0_
       clear n0_
       have p137 : 0 ≤ (x5_1 : Int) := of_decide_eq_true (by first | (with_reducible assumption) | assumption)
       have q137 : x5_1 < (l1.length : Int) := of_decide_eq_true (by first | (with_reducible assumption) | assumption)
       obtain ⟨ad137, e137, hx137_0⟩ := Kd.at_int HR1.out x5_1 p137 q137
       have hw137_0 := hx137_0
       cases e137
       (try replace hx137_0 := (HB.out.cell (World.block_lt_of_cell? w _ hx137_0)).trans hx137_0)
       replace p137 := eq_true p137
       replace q137 := eq_true q137
       refine start_ (n := 34) (S := fun w' => w'.cell? (ad137.add (x5_1).toNat) = some (.int .i64 (rd l1 x5_1))) (ds := []) #[F4q,F4q,F4q,F4q,F4q,F4q,F4q,F4q,F4q,F4q,F4q,F4q,F4q,F4q,F4q,F4q,F4q,F4q,F4q,F4q,F4q,F4q,F4q,F4q,F4q,F4q,F4q,F4q,F4q,F4q,F4q,F4q,F4q,F4q] (by kernel_rfl) rfl rfl ((by first | exact ((HB.out.cell (World.block_lt_of_cell? w _ hw137_0)).trans hw137_0) | exact HS0_ | exact hHeld.1 | exact hw137_0)) (fun hHeld => ?_); refine with_tabW spec_isOrder.tab6 spec_isOrder.bits6 (fun HT_ HW_ => ?_)
       generalize wr.drew = w26 at HB hx137_0 hHeld ⊢
       refine pure_ (i := 0) (N := some 17) (v := ?_) (a' := ?_) #[T4q,F4q,F4q,F4q,F4q,F4q,F4q,F4q,F4q,F4q,F4q,F4q,F4q,F4q,F4q,F4q,F4q,F4q,F4q,F4q,F4q,F4q,F4q,F4q,F4q,F4q,F4q,F4q,F4q,F4q,F4q,F4q,F4q,F4q] rfl rfl (any_of HT_.out (by kernel_rfl)) (fun _ _ _ h => h) (Or.inl ⟨by rfl, ?_⟩) ?_ ?_
       rotate_left
       ·intro w'
        go_simp
        with_reducible rfl
       rotate_left
       ·simp only [Act.put, List.setIfInBounds_toArray, List.set_cons_zero, List.set_cons_succ, i64_w, i32_w]
        rfl
       refine pure_ (i := 1) (N := some 18) (v := ?_) (a' := ?_) #[T4q,T4q,F4q,F4q,F4q,F4q,F4q,F4q,F4q,F4q,F4q,F4q,F4q,F4q,F4q,F4q,F4q,F4q,F4q,F4q,F4q,F4q,F4q,F4q,F4q,F4q,F4q,F4q,F4q,F4q,F4q,F4q,F4q,F4q] rfl rfl (any_of HT_.out (by kernel_rfl)) (fun _ _ _ h => h) (Or.inl ⟨by rfl, ?_⟩) ?_ ?_
       rotate_left
       ·intro w'
        go_simp
        with_reducible rfl
       rotate_left
       ·simp only [Act.put, List.setIfInBounds_toArray, List.set_cons_zero, List.set_cons_succ, i64_w, i32_w]
        rfl
       refine pure_ (i := 2) (N := some 19) (v := ?_) (a' := ?_) #[T4q,T4q,T4q,F4q,F4q,F4q,F4q,F4q,F4q,F4q,F4q,F4q,F4q,F4q,F4q,F4q,F4q,F4q,F4q,F4q,F4q,F4q,F4q,F4q,F4q,F4q,F4q,F4q,F4q,F4q,F4q,F4q,F4q,F4q] rfl rfl (any_of HT_.out (by kernel_rfl)) (fun _ _ _ h => h) (Or.inl ⟨by rfl, ?_⟩) ?_ ?_
       rotate_left
       ·intro w'
        go_simp
        with_reducible rfl
       rotate_left
       ·simp only [Act.put, List.setIfInBounds_toArray, List.set_cons_zero, List.set_cons_succ, i64_w, i32_w]
        rfl
       refine pure_ (i := 4) (N := some 21) (v := ?_) (a' := ?_) #[T4q,T4q,T4q,F4q,T4q,F4q,F4q,F4q,F4q,F4q,F4q,F4q,F4q,F4q,F4q,F4q,F4q,F4q,F4q,F4q,F4q,F4q,F4q,F4q,F4q,F4q,F4q,F4q,F4q,F4q,F4q,F4q,F4q,F4q] rfl rfl (any_of HT_.out (by kernel_rfl)) (fun _ _ _ h => h) (Or.inl ⟨by rfl, ?_⟩) ?_ ?_
       rotate_left
       ·intro w'
        go_simp
        with_reducible rfl
       rotate_left
       ·simp only [Act.put, List.setIfInBounds_toArray, List.set_cons_zero, List.set_cons_succ, i64_w, i32_w]
        rfl
       refine pure_ (i := 5) (N := some 22) (v := ?_) (a' := ?_) #[T4q,T4q,T4q,F4q,T4q,T4q,F4q,F4q,F4q,F4q,F4q,F4q,F4q,F4q,F4q,F4q,F4q,F4q,F4q,F4q,F4q,F4q,F4q,F4q,F4q,F4q,F4q,F4q,F4q,F4q,F4q,F4q,F4q,F4q] rfl rfl (any_of HT_.out (by kernel_rfl)) (fun _ _ _ h => h) (Or.inl ⟨by rfl, ?_⟩) ?_ ?_
       rotate_left
       ·intro w'
        go_simp
        with_reducible rfl
       rotate_left
       ·simp only [Act.put, List.setIfInBounds_toArray, List.set_cons_zero, List.set_cons_succ, i64_w, i32_w]
        rfl
       refine pure_ (i := 6) (N := some 23) (v := ?_) (a' := ?_) #[T4q,T4q,T4q,F4q,T4q,T4q,T4q,F4q,F4q,F4q,F4q,F4q,F4q,F4q,F4q,F4q,F4q,F4q,F4q,F4q,F4q,F4q,F4q,F4q,F4q,F4q,F4q,F4q,F4q,F4q,F4q,F4q,F4q,F4q] rfl rfl (any_of HT_.out (by kernel_rfl)) (fun _ _ _ h => h) (Or.inl ⟨by rfl, ?_⟩) ?_ ?_
       rotate_left
       ·intro w'
        go_simp
        with_reducible rfl
       rotate_left
       ·simp only [Act.put, List.setIfInBounds_toArray, List.set_cons_zero, List.set_cons_succ, i64_w, i32_w]
        rfl
       refine take_ (i := 3) (N := some 20) (v := ?_) (a' := ?_) #[T4q,T4q,T4q,T4q,T4q,T4q,T4q,F4q,F4q,F4q,F4q,F4q,F4q,F4q,F4q,F4q,F4q,F4q,F4q,F4q,F4q,F4q,F4q,F4q,F4q,F4q,F4q,F4q,F4q,F4q,F4q,F4q,F4q,F4q] rfl rfl (take_ofW HT_.out HW_.out (by kernel_rfl)) (fun _ _ _ h => h) (Or.inl ⟨by rfl, ?_⟩) hHeld ?_ ?_
       rotate_left
       ·intro w' s0
        go_simp
        with_reducible rfl
       rotate_left
       ·simp only [Act.put, List.setIfInBounds_toArray, List.set_cons_zero, List.set_cons_succ, i64_w, i32_w]
        rfl
       refine one_ (i := 7) (N := some 24) #[T4q,T4q,T4q,T4q,T4q,T4q,T4q,T4q,F4q,F4q,F4q,F4q,F4q,F4q,F4q,F4q,F4q,F4q,F4q,F4q,F4q,F4q,F4q,F4q,F4q,F4q,F4q,F4q,F4q,F4q,F4q,F4q,F4q,F4q] rfl rfl (one_of HT_.out (by kernel_rfl)) (by decide) (fun K hK => ?_)
       refine goes_ Tryd.func40 (by kernel_rfl) rfl #[.int .i64 (rd l1 x5_1), .int .i64 0, .int .i64 (wrap64 ((l0.length : Int) - 1))] (by rfl) rfl rfl (by (try simp only [List.map_toArray, List.map_cons, List.map_nil]); first | done | rfl | (simp only [List.length_drop, List.length_take]; rfl)) ?_
       with_reducible refine (spec_inRange.calls (rd l1 x5_1) 0 (wrap64 ((l0.length : Int) - 1)) false _ A6.out).mono ?_
       rintro e w' ⟨rfl, ⟨nd, rfl⟩⟩
       refine ⟨_, rfl, ?_⟩
       refine hK.out _ _ ((by first | exact ((HB.out.cell (World.block_lt_of_cell? w _ hw137_0)).trans hw137_0) | exact HS0_ | exact hHeld.1 | exact hw137_0)) (fun hHeld => ?_)
       clear hK K
       refine norm_ (a' := ?_) ?_ ?_
       rotate_left
       ·show Act.put _ (some 24) _ = _
        simp only [Act.put, List.setIfInBounds_toArray, List.set_cons_zero, List.set_cons_succ, i64_w, i32_w]
        rfl
       refine pure_ (i := 8) (N := some 25) (v := ?_) (a' := ?_) #[T4q,T4q,T4q,T4q,T4q,T4q,T4q,T4q,T4q,F4q,F4q,F4q,F4q,F4q,F4q,F4q,F4q,F4q,F4q,F4q,F4q,F4q,F4q,F4q,F4q,F4q,F4q,F4q,F4q,F4q,F4q,F4q,F4q,F4q] rfl rfl (any_of HT_.out (by kernel_rfl)) (fun _ _ _ h => h) (Or.inl ⟨by rfl, ?_⟩) ?_ ?_
       rotate_left
       ·intro w'
        go_simp
        with_reducible rfl
       rotate_left
       ·simp only [Act.put, List.setIfInBounds_toArray, List.set_cons_zero, List.set_cons_succ, i64_w, i32_w]
        rfl
       refine pure_ (i := 9) (N := some 26) (v := ?_) (a' := ?_) #[T4q,T4q,T4q,T4q,T4q,T4q,T4q,T4q,T4q,T4q,F4q,F4q,F4q,F4q,F4q,F4q,F4q,F4q,F4q,F4q,F4q,F4q,F4q,F4q,F4q,F4q,F4q,F4q,F4q,F4q,F4q,F4q,F4q,F4q] rfl rfl (any_of HT_.out (by kernel_rfl)) (fun _ _ _ h => h) (Or.inl ⟨by rfl, ?_⟩) ?_ ?_
       rotate_left
       ·intro w'
        go_simp
        with_reducible rfl
       rotate_left
       ·simp only [Act.put, List.setIfInBounds_toArray, List.set_cons_zero, List.set_cons_succ, i64_w, i32_w]
        rfl
       refine pure_ (i := 10) (N := some 27) (v := undef) (a' := ?_) #[T4q,T4q,T4q,T4q,T4q,T4q,T4q,T4q,T4q,T4q,T4q,F4q,F4q,F4q,F4q,F4q,F4q,F4q,F4q,F4q,F4q,F4q,F4q,F4q,F4q,F4q,F4q,F4q,F4q,F4q,F4q,F4q,F4q,F4q] rfl rfl (any_of HT_.out (by kernel_rfl)) (fun _ _ _ h => h) (Or.inr ⟨by rfl, rfl⟩) ?_ ?_
       rotate_left
       ·simp only [Act.put, List.setIfInBounds_toArray, List.set_cons_zero, List.set_cons_succ, i64_w, i32_w]
        rfl
       refine pure_ (i := 11) (N := some 28) (v := undef) (a' := ?_) #[T4q,T4q,T4q,T4q,T4q,T4q,T4q,T4q,T4q,T4q,T4q,T4q,F4q,F4q,F4q,F4q,F4q,F4q,F4q,F4q,F4q,F4q,F4q,F4q,F4q,F4q,F4q,F4q,F4q,F4q,F4q,F4q,F4q,F4q] rfl rfl (any_of HT_.out (by kernel_rfl)) (fun _ _ _ h => h) (Or.inr ⟨by rfl, rfl⟩) ?_ ?_
       rotate_left
       ·simp only [Act.put, List.setIfInBounds_toArray, List.set_cons_zero, List.set_cons_succ, i64_w, i32_w]
        rfl
       refine pure_ (i := 12) (N := some 29) (v := undef) (a' := ?_) #[T4q,T4q,T4q,T4q,T4q,T4q,T4q,T4q,T4q,T4q,T4q,T4q,T4q,F4q,F4q,F4q,F4q,F4q,F4q,F4q,F4q,F4q,F4q,F4q,F4q,F4q,F4q,F4q,F4q,F4q,F4q,F4q,F4q,F4q] rfl rfl (any_of HT_.out (by kernel_rfl)) (fun _ _ _ h => h) (Or.inr ⟨by rfl, rfl⟩) ?_ ?_
       rotate_left
       ·simp only [Act.put, List.setIfInBounds_toArray, List.set_cons_zero, List.set_cons_succ, i64_w, i32_w]
        rfl
       refine pure_ (i := 13) (N := some 30) (v := undef) (a' := ?_) #[T4q,T4q,T4q,T4q,T4q,T4q,T4q,T4q,T4q,T4q,T4q,T4q,T4q,T4q,F4q,F4q,F4q,F4q,F4q,F4q,F4q,F4q,F4q,F4q,F4q,F4q,F4q,F4q,F4q,F4q,F4q,F4q,F4q,F4q] rfl rfl (any_of HT_.out (by kernel_rfl)) (fun _ _ _ h => h) (Or.inr ⟨by rfl, rfl⟩) ?_ ?_
       rotate_left
       ·simp only [Act.put, List.setIfInBounds_toArray, List.set_cons_zero, List.set_cons_succ, i64_w, i32_w]
        rfl
       refine pure_ (i := 14) (N := some 31) (v := undef) (a' := ?_) #[T4q,T4q,T4q,T4q,T4q,T4q,T4q,T4q,T4q,T4q,T4q,T4q,T4q,T4q,T4q,F4q,F4q,F4q,F4q,F4q,F4q,F4q,F4q,F4q,F4q,F4q,F4q,F4q,F4q,F4q,F4q,F4q,F4q,F4q] rfl rfl (any_of HT_.out (by kernel_rfl)) (fun _ _ _ h => h) (Or.inr ⟨by rfl, rfl⟩) ?_ ?_
       rotate_left
       ·simp only [Act.put, List.setIfInBounds_toArray, List.set_cons_zero, List.set_cons_succ, i64_w, i32_w]
        rfl
       refine pure_ (i := 15) (N := some 32) (v := undef) (a' := ?_) #[T4q,T4q,T4q,T4q,T4q,T4q,T4q,T4q,T4q,T4q,T4q,T4q,T4q,T4q,T4q,T4q,F4q,F4q,F4q,F4q,F4q,F4q,F4q,F4q,F4q,F4q,F4q,F4q,F4q,F4q,F4q,F4q,F4q,F4q] rfl rfl (any_of HT_.out (by kernel_rfl)) (fun _ _ _ h => h) (Or.inr ⟨by rfl, rfl⟩) ?_ ?_
       rotate_left
       ·simp only [Act.put, List.setIfInBounds_toArray, List.set_cons_zero, List.set_cons_succ, i64_w, i32_w]
        rfl
       refine pure_ (i := 16) (N := some 33) (v := undef) (a' := ?_) #[T4q,T4q,T4q,T4q,T4q,T4q,T4q,T4q,T4q,T4q,T4q,T4q,T4q,T4q,T4q,T4q,T4q,F4q,F4q,F4q,F4q,F4q,F4q,F4q,F4q,F4q,F4q,F4q,F4q,F4q,F4q,F4q,F4q,F4q] rfl rfl (any_of HT_.out (by kernel_rfl)) (fun _ _ _ h => h) (Or.inr ⟨by rfl, rfl⟩) ?_ ?_
       rotate_left
       ·simp only [Act.put, List.setIfInBounds_toArray, List.set_cons_zero, List.set_cons_succ, i64_w, i32_w]
        rfl
       refine pure_ (i := 17) (N := some 34) (v := undef) (a' := ?_) #[T4q,T4q,T4q,T4q,T4q,T4q,T4q,T4q,T4q,T4q,T4q,T4q,T4q,T4q,T4q,T4q,T4q,T4q,F4q,F4q,F4q,F4q,F4q,F4q,F4q,F4q,F4q,F4q,F4q,F4q,F4q,F4q,F4q,F4q] rfl rfl (any_of HT_.out (by kernel_rfl)) (fun _ _ _ h => h) (Or.inr ⟨by rfl, rfl⟩) ?_ ?_
       rotate_left
       ·simp only [Act.put, List.setIfInBounds_toArray, List.set_cons_zero, List.set_cons_succ, i64_w, i32_w]
        rfl
       refine pure_ (i := 18) (N := some 35) (v := ?_) (a' := ?_) #[T4q,T4q,T4q,T4q,T4q,T4q,T4q,T4q,T4q,T4q,T4q,T4q,T4q,T4q,T4q,T4q,T4q,T4q,T4q,F4q,F4q,F4q,F4q,F4q,F4q,F4q,F4q,F4q,F4q,F4q,F4q,F4q,F4q,F4q] rfl rfl (any_of HT_.out (by kernel_rfl)) (fun _ _ _ h => h) (Or.inl ⟨by rfl, ?_⟩) ?_ ?_
       rotate_left
       ·intro w'
        go_simp
        with_reducible rfl
       rotate_left
       ·simp only [Act.put, List.setIfInBounds_toArray, List.set_cons_zero, List.set_cons_succ, i64_w, i32_w]
        rfl
       refine pure_ (i := 19) (N := some 36) (v := ?_) (a' := ?_) #[T4q,T4q,T4q,T4q,T4q,T4q,T4q,T4q,T4q,T4q,T4q,T4q,T4q,T4q,T4q,T4q,T4q,T4q,T4q,T4q,F4q,F4q,F4q,F4q,F4q,F4q,F4q,F4q,F4q,F4q,F4q,F4q,F4q,F4q] rfl rfl (any_of HT_.out (by kernel_rfl)) (fun _ _ _ h => h) (Or.inl ⟨by rfl, ?_⟩) ?_ ?_
       rotate_left
       ·intro w'
        go_simp
        with_reducible rfl
       rotate_left
       ·simp only [Act.put, List.setIfInBounds_toArray, List.set_cons_zero, List.set_cons_succ, i64_w, i32_w]
        rfl
       refine pure_ (i := 20) (N := some 37) (v := undef) (a' := ?_) #[T4q,T4q,T4q,T4q,T4q,T4q,T4q,T4q,T4q,T4q,T4q,T4q,T4q,T4q,T4q,T4q,T4q,T4q,T4q,T4q,T4q,F4q,F4q,F4q,F4q,F4q,F4q,F4q,F4q,F4q,F4q,F4q,F4q,F4q] rfl rfl (any_of HT_.out (by kernel_rfl)) (fun _ _ _ h => h) (Or.inr ⟨by rfl, rfl⟩) ?_ ?_
       rotate_left
       ·simp only [Act.put, List.setIfInBounds_toArray, List.set_cons_zero, List.set_cons_succ, i64_w, i32_w]
        rfl
       refine pure_ (i := 21) (N := some 38) (v := undef) (a' := ?_) #[T4q,T4q,T4q,T4q,T4q,T4q,T4q,T4q,T4q,T4q,T4q,T4q,T4q,T4q,T4q,T4q,T4q,T4q,T4q,T4q,T4q,T4q,F4q,F4q,F4q,F4q,F4q,F4q,F4q,F4q,F4q,F4q,F4q,F4q] rfl rfl (any_of HT_.out (by kernel_rfl)) (fun _ _ _ h => h) (Or.inr ⟨by rfl, rfl⟩) ?_ ?_
       rotate_left
       ·simp only [Act.put, List.setIfInBounds_toArray, List.set_cons_zero, List.set_cons_succ, i64_w, i32_w]
        rfl
       refine pure_ (i := 22) (N := some 39) (v := undef) (a' := ?_) #[T4q,T4q,T4q,T4q,T4q,T4q,T4q,T4q,T4q,T4q,T4q,T4q,T4q,T4q,T4q,T4q,T4q,T4q,T4q,T4q,T4q,T4q,T4q,F4q,F4q,F4q,F4q,F4q,F4q,F4q,F4q,F4q,F4q,F4q] rfl rfl (any_of HT_.out (by kernel_rfl)) (fun _ _ _ h => h) (Or.inr ⟨by rfl, rfl⟩) ?_ ?_
       rotate_left
       ·simp only [Act.put, List.setIfInBounds_toArray, List.set_cons_zero, List.set_cons_succ, i64_w, i32_w]
        rfl
       refine pure_ (i := 23) (N := some 40) (v := undef) (a' := ?_) #[T4q,T4q,T4q,T4q,T4q,T4q,T4q,T4q,T4q,T4q,T4q,T4q,T4q,T4q,T4q,T4q,T4q,T4q,T4q,T4q,T4q,T4q,T4q,T4q,F4q,F4q,F4q,F4q,F4q,F4q,F4q,F4q,F4q,F4q] rfl rfl (any_of HT_.out (by kernel_rfl)) (fun _ _ _ h => h) (Or.inr ⟨by rfl, rfl⟩) ?_ ?_
       rotate_left
       ·simp only [Act.put, List.setIfInBounds_toArray, List.set_cons_zero, List.set_cons_succ, i64_w, i32_w]
        rfl
       refine pure_ (i := 24) (N := some 41) (v := undef) (a' := ?_) #[T4q,T4q,T4q,T4q,T4q,T4q,T4q,T4q,T4q,T4q,T4q,T4q,T4q,T4q,T4q,T4q,T4q,T4q,T4q,T4q,T4q,T4q,T4q,T4q,T4q,F4q,F4q,F4q,F4q,F4q,F4q,F4q,F4q,F4q] rfl rfl (any_of HT_.out (by kernel_rfl)) (fun _ _ _ h => h) (Or.inr ⟨by rfl, rfl⟩) ?_ ?_
       rotate_left
       ·simp only [Act.put, List.setIfInBounds_toArray, List.set_cons_zero, List.set_cons_succ, i64_w, i32_w]
        rfl
       refine pure_ (i := 25) (N := some 42) (v := undef) (a' := ?_) #[T4q,T4q,T4q,T4q,T4q,T4q,T4q,T4q,T4q,T4q,T4q,T4q,T4q,T4q,T4q,T4q,T4q,T4q,T4q,T4q,T4q,T4q,T4q,T4q,T4q,T4q,F4q,F4q,F4q,F4q,F4q,F4q,F4q,F4q] rfl rfl (any_of HT_.out (by kernel_rfl)) (fun _ _ _ h => h) (Or.inr ⟨by rfl, rfl⟩) ?_ ?_
       rotate_left
       ·simp only [Act.put, List.setIfInBounds_toArray, List.set_cons_zero, List.set_cons_succ, i64_w, i32_w]
        rfl
       refine pure_ (i := 26) (N := some 43) (v := undef) (a' := ?_) #[T4q,T4q,T4q,T4q,T4q,T4q,T4q,T4q,T4q,T4q,T4q,T4q,T4q,T4q,T4q,T4q,T4q,T4q,T4q,T4q,T4q,T4q,T4q,T4q,T4q,T4q,T4q,F4q,F4q,F4q,F4q,F4q,F4q,F4q] rfl rfl (any_of HT_.out (by kernel_rfl)) (fun _ _ _ h => h) (Or.inr ⟨by rfl, rfl⟩) ?_ ?_
       rotate_left
       ·simp only [Act.put, List.setIfInBounds_toArray, List.set_cons_zero, List.set_cons_succ, i64_w, i32_w]
        rfl
       refine pure_ (i := 27) (N := some 44) (v := undef) (a' := ?_) #[T4q,T4q,T4q,T4q,T4q,T4q,T4q,T4q,T4q,T4q,T4q,T4q,T4q,T4q,T4q,T4q,T4q,T4q,T4q,T4q,T4q,T4q,T4q,T4q,T4q,T4q,T4q,T4q,F4q,F4q,F4q,F4q,F4q,F4q] rfl rfl (any_of HT_.out (by kernel_rfl)) (fun _ _ _ h => h) (Or.inr ⟨by rfl, rfl⟩) ?_ ?_
       rotate_left
       ·simp only [Act.put, List.setIfInBounds_toArray, List.set_cons_zero, List.set_cons_succ, i64_w, i32_w]
        rfl
       refine pure_ (i := 28) (N := some 45) (v := undef) (a' := ?_) #[T4q,T4q,T4q,T4q,T4q,T4q,T4q,T4q,T4q,T4q,T4q,T4q,T4q,T4q,T4q,T4q,T4q,T4q,T4q,T4q,T4q,T4q,T4q,T4q,T4q,T4q,T4q,T4q,T4q,F4q,F4q,F4q,F4q,F4q] rfl rfl (any_of HT_.out (by kernel_rfl)) (fun _ _ _ h => h) (Or.inr ⟨by rfl, rfl⟩) ?_ ?_
       rotate_left
       ·simp only [Act.put, List.setIfInBounds_toArray, List.set_cons_zero, List.set_cons_succ, i64_w, i32_w]
        rfl
       refine pure_ (i := 29) (N := some 46) (v := undef) (a' := ?_) #[T4q,T4q,T4q,T4q,T4q,T4q,T4q,T4q,T4q,T4q,T4q,T4q,T4q,T4q,T4q,T4q,T4q,T4q,T4q,T4q,T4q,T4q,T4q,T4q,T4q,T4q,T4q,T4q,T4q,T4q,F4q,F4q,F4q,F4q] rfl rfl (any_of HT_.out (by kernel_rfl)) (fun _ _ _ h => h) (Or.inr ⟨by rfl, rfl⟩) ?_ ?_
       rotate_left
       ·simp only [Act.put, List.setIfInBounds_toArray, List.set_cons_zero, List.set_cons_succ, i64_w, i32_w]
        rfl
       refine pure_ (i := 30) (N := some 47) (v := undef) (a' := ?_) #[T4q,T4q,T4q,T4q,T4q,T4q,T4q,T4q,T4q,T4q,T4q,T4q,T4q,T4q,T4q,T4q,T4q,T4q,T4q,T4q,T4q,T4q,T4q,T4q,T4q,T4q,T4q,T4q,T4q,T4q,T4q,F4q,F4q,F4q] rfl rfl (any_of HT_.out (by kernel_rfl)) (fun _ _ _ h => h) (Or.inr ⟨by rfl, rfl⟩) ?_ ?_
       rotate_left
       ·simp only [Act.put, List.setIfInBounds_toArray, List.set_cons_zero, List.set_cons_succ, i64_w, i32_w]
        rfl
       refine pure_ (i := 31) (N := some 48) (v := undef) (a' := ?_) #[T4q,T4q,T4q,T4q,T4q,T4q,T4q,T4q,T4q,T4q,T4q,T4q,T4q,T4q,T4q,T4q,T4q,T4q,T4q,T4q,T4q,T4q,T4q,T4q,T4q,T4q,T4q,T4q,T4q,T4q,T4q,T4q,F4q,F4q] rfl rfl (any_of HT_.out (by kernel_rfl)) (fun _ _ _ h => h) (Or.inr ⟨by rfl, rfl⟩) ?_ ?_
       rotate_left
       ·simp only [Act.put, List.setIfInBounds_toArray, List.set_cons_zero, List.set_cons_succ, i64_w, i32_w]
        rfl
       refine pure_ (i := 32) (N := some 49) (v := undef) (a' := ?_) #[T4q,T4q,T4q,T4q,T4q,T4q,T4q,T4q,T4q,T4q,T4q,T4q,T4q,T4q,T4q,T4q,T4q,T4q,T4q,T4q,T4q,T4q,T4q,T4q,T4q,T4q,T4q,T4q,T4q,T4q,T4q,T4q,T4q,F4q] rfl rfl (any_of HT_.out (by kernel_rfl)) (fun _ _ _ h => h) (Or.inr ⟨by rfl, rfl⟩) ?_ ?_
       rotate_left
       ·simp only [Act.put, List.setIfInBounds_toArray, List.set_cons_zero, List.set_cons_succ, i64_w, i32_w]
        rfl
       refine pure_ (i := 33) (N := some 50) (v := ?_) (a' := ?_) #[T4q,T4q,T4q,T4q,T4q,T4q,T4q,T4q,T4q,T4q,T4q,T4q,T4q,T4q,T4q,T4q,T4q,T4q,T4q,T4q,T4q,T4q,T4q,T4q,T4q,T4q,T4q,T4q,T4q,T4q,T4q,T4q,T4q,T4q] rfl rfl (any_of HT_.out (by kernel_rfl)) (fun _ _ _ h => h) (Or.inl ⟨by rfl, ?_⟩) ?_ ?_
       rotate_left
       ·intro w'
        go_simp
        with_reducible rfl
       rotate_left
       ·simp only [Act.put, List.setIfInBounds_toArray, List.set_cons_zero, List.set_cons_succ, i64_w, i32_w]
        rfl
       refine done_ (done_of HT_.out (by kernel_rfl)) ?_
       try go_wp2
       go_ret
       exact ⟨by first | rfl | (simp [errW_none, errW_some] <;> rfl) | (simp [*, errW_none, errW_some] <;> rfl), by repeat (first | (with_reducible first | exact HB.out | apply below_alloc | apply pw_below_drewN | apply below_drew1) | exact HB.out)⟩
     ·rw [if_neg c5] at H
      exact absurd H (by simp)
    ·rw [if_neg c4] at H
     have c4b0 : decide (x5_1 < (l1.length : Int)) = false := decide_eq_false c4
     clear c4
     obtain rfl := Option.some.inj H
     go_wp2
     go_ret
     exact ⟨by first | rfl | (simp [errW_none, errW_some] <;> rfl) | (simp [*, errW_none, errW_some] <;> rfl), HB.out⟩
 ·rw [if_neg c3] at H
  have c3b0 : ((l1.length : Int) == (l0.length : Int)) = false := beq_eq_false_iff_ne.mpr c3
  have c3b1 : ((l1.length : Int) != (l0.length : Int)) = true := bne_iff_ne.mpr c3
  have c3b2 : (l1.length == l0.length) = false := by first | simpa using c3 | (simp at c3 ⊢; omega)
  obtain rfl := Option.some.inj H
  go_enter Tryd.func19, Tryd.ntmps19
  go_wp2
  go_ret
  exact ⟨by first | rfl | (simp [errW_none, errW_some] <;> rfl) | (simp [*, errW_none, errW_some] <;> rfl), HB.out⟩
end Go.Proofs.YtnhkajanbfgbiaaDoor.P
end
section
namespace Go.Proofs.YtnhkajanbfgbiaaDoor.P
open Go.RowKit Go.Proofs.YtnhkajanbfgbiaaDoorW.PrintWords Go.Proofs.YtnhkajanbfgbiaaDoorW.PrintLast Go.Proofs.YtnhkajanbfgbiaaDoorW.PrintMore
attribute [local go_sem] max2_int min2_int max_two min_two max_three min_three max_four min_four   -- for this text's walks alone
set_option linter.unusedVariables false
set_option linter.unusedSimpArgs false
def spec_validSearch.f (k : Nat) (l0 : List (S38)) (l1 : List Int) (a2 : Int) : Option (Bool) := (spec_validGraph.f k l0).bind fun t134 => (if t134 = true then (if (l0.length : Int) ≤ 5 then ((spec_validRoom.f k l1).bind fun t135 => (if t135 = true then ((spec_inRange.f a2 1 4).bind fun t136 => (some t136)) else (some false))) else (some false)) else (some false))
theorem spec_validSearch.mono : ∀ a0 a1 a2 k, LeO (spec_validSearch.f k a0 a1 a2) (spec_validSearch.f (k + 1) a0 a1 a2) := by
 intro a0 a1 a2 k
 unfold spec_validSearch.f
 repeat' first
   | (with_reducible exact spec_validGraph.mono _ _)
   | (with_reducible exact spec_validRoom.mono _ _)
   | (with_reducible exact LeO.refl _)
   | (with_reducible exact LeO.none _)
   | (with_reducible refine LeO.ite ?_ ?_)
   | (with_reducible refine LeO.bind ?_ (fun _ => ?_))
   | exact spec_validGraph.mono _ _
   | exact spec_validRoom.mono _ _
   | exact LeO.none _
   | refine LeO.ite ?_ ?_
   | refine LeO.bind ?_ (fun _ => ?_)
set_option maxHeartbeats 8000000 in
set_option maxRecDepth 100000 in
theorem spec_validSearch.calls (k : Nat) (A0 : Option Addr) (c0 : Nat) (l0 : List (S38)) (A1 : Option Addr) (c1 : Nat) (l1 : List Int) (a2 : Int) (r : Bool) (w : World) (hr0 : Kd.C k38 w A0 l0.length l0) (hc0 : l0.length ≤ c0) (hr1 : Kd.C (Kd.int .i64) w A1 l1.length l1) (hc1 : l1.length ≤ c1) (h : spec_validSearch.f k l0 l1 a2 = some r) :
  Calls Tryd.prog 18 #[.slice A0 l0.length c0, .slice A1 l1.length c1, .int .i64 a2] w fun e w' => e = .returned (.bool r) ∧ Below w.heap.size w w' := by
 have HR0 := Aside0.mk hr0
 have HC0 := Aside0.mk hc0
 clear hr0 hc0
 have HR1 := Aside0.mk hr1
 have HC1 := Aside0.mk hc1
 clear hr1 hc1
 have HB := Aside0.mk (Below.refl w.heap.size w)
 have H : ((spec_validGraph.f k l0).bind fun t134 => (if t134 = true then (if (l0.length : Int) ≤ 5 then ((spec_validRoom.f k l1).bind fun t135 => (if t135 = true then ((spec_inRange.f a2 1 4).bind fun t136 => (some t136)) else (some false))) else (some false)) else (some false))) = some r := h
 clear h
 replace H := Option.bind_eq_some_iff.mp H
 obtain ⟨t134, A40, H⟩ := H
 replace H : (if t134 = true then (if (l0.length : Int) ≤ 5 then ((spec_validRoom.f k l1).bind fun t135 => (if t135 = true then ((spec_inRange.f a2 1 4).bind fun t136 => (some t136)) else (some false))) else (some false)) else (some false)) = some r := H
 have A4 := Aside0.mk A40
 clear A40
 by_cases c5 : t134 = true
 ·subst c5
  have H1 : (if (l0.length : Int) ≤ 5 then ((spec_validRoom.f k l1).bind fun t135 => (if t135 = true then ((spec_inRange.f a2 1 4).bind fun t136 => (some t136)) else (some false))) else (some false)) = some r := by rw [if_pos rfl] at H; exact H
  clear H
  have H := H1
  clear H1
  by_cases c6 : (l0.length : Int) ≤ 5
  ·rw [if_pos c6] at H
   have c6b0 : decide ((l0.length : Int) ≤ 5) = true := decide_eq_true c6
   have c6b1 : decide (l0.length ≤ 5) = true := decide_eq_true (by omega)
   clear c6
   replace H := Option.bind_eq_some_iff.mp H
   obtain ⟨t135, A70, H⟩ := H
   replace H : (if t135 = true then ((spec_inRange.f a2 1 4).bind fun t136 => (some t136)) else (some false)) = some r := H
   have A7 := Aside0.mk A70
   clear A70
   by_cases c8 : t135 = true
   ·subst c8
    have H1 : ((spec_inRange.f a2 1 4).bind fun t136 => (some t136)) = some r := by rw [if_pos rfl] at H; exact H
    clear H
    have H := H1
    clear H1
    replace H := Option.bind_eq_some_iff.mp H
    obtain ⟨t136, A90, H⟩ := H
    replace H : (some t136) = some r := H
    have A9 := Aside0.mk A90
    clear A90
    obtain rfl := Option.some.inj H
    go_enter Tryd.func18, Tryd.ntmps18
    go_wp2_with (first | ((with_reducible refine gate_callee (f := 38) rfl ?_); refine goesL_ (some 8) rfl rfl Tryd.func38 (by kernel_rfl) rfl #[.slice A0 l0.length c0] rfl (by (try simp only [List.map_toArray, List.map_cons, List.map_nil]); first | done | rfl | (simp only [List.length_drop, List.length_take]; rfl)) ?_; (with_reducible refine (spec_validGraph.calls k _ _ l0 true _ ?side1 ?side2 A4.out).mono ?_); (case side1 => repeat (first | exact HR0.out | (with_reducible refine Kd.C_alloc ?_ _) | (with_reducible refine Kd.C_drewN ?_ _) | (with_reducible refine Kd.C_drew ?_))); (case side2 => exact HC0.out); rintro e w10 ⟨rfl, hb⟩; refine ⟨_, rfl, ?_⟩; have n0_ := Aside0.mk (below_step (by repeat (first | (with_reducible first | exact HB.out | apply below_alloc | apply pw_below_drewN | apply below_drew1) | exact HB.out)) hb); clear HB; have HB := n0_; clear n0_; (try clear hb); (try clear hb2); (try clear hk); (try clear hi)) | (go_at_call 39; (with_reducible refine (spec_validRoom.calls k _ _ l1 true _ ?side1 ?side2 A7.out).mono ?_); (case side1 => repeat (first | exact (Kd.C_below HR1.out HB.out) | (with_reducible refine Kd.C_alloc ?_ _) | (with_reducible refine Kd.C_drewN ?_ _) | (with_reducible refine Kd.C_drew ?_))); (case side2 => exact HC1.out); rintro e w' ⟨rfl, ⟨nd, rfl⟩⟩) | (go_at_call 40; (with_reducible refine (spec_inRange.calls a2 1 4 t136 _ A9.out).mono ?_); rintro e w' ⟨rfl, ⟨nd, rfl⟩⟩))
    go_ret
    exact ⟨by first | rfl | (simp [errW_none, errW_some] <;> rfl) | (simp [*, errW_none, errW_some] <;> rfl), by repeat (first | (with_reducible first | exact HB.out | apply below_alloc | apply pw_below_drewN | apply below_drew1) | exact HB.out)⟩
   ·replace c8 := Bool.eq_false_iff.mpr c8
    subst c8
    have H1 : (some false) = some r := by rw [if_neg (show ¬ (false = true) by decide)] at H; exact H
    clear H
    have H := H1
    clear H1
    obtain rfl := Option.some.inj H
    go_enter Tryd.func18, Tryd.ntmps18
    go_wp2_with (first | ((with_reducible refine gate_callee (f := 38) rfl ?_); refine goesL_ (some 8) rfl rfl Tryd.func38 (by kernel_rfl) rfl #[.slice A0 l0.length c0] rfl (by (try simp only [List.map_toArray, List.map_cons, List.map_nil]); first | done | rfl | (simp only [List.length_drop, List.length_take]; rfl)) ?_; (with_reducible refine (spec_validGraph.calls k _ _ l0 true _ ?side1 ?side2 A4.out).mono ?_); (case side1 => repeat (first | exact HR0.out | (with_reducible refine Kd.C_alloc ?_ _) | (with_reducible refine Kd.C_drewN ?_ _) | (with_reducible refine Kd.C_drew ?_))); (case side2 => exact HC0.out); rintro e w11 ⟨rfl, hb⟩; refine ⟨_, rfl, ?_⟩; have n0_ := Aside0.mk (below_step (by repeat (first | (with_reducible first | exact HB.out | apply below_alloc | apply pw_below_drewN | apply below_drew1) | exact HB.out)) hb); clear HB; have HB := n0_; clear n0_; (try clear hb); (try clear hb2); (try clear hk); (try clear hi)) | (go_at_call 39; (with_reducible refine (spec_validRoom.calls k _ _ l1 false _ ?side1 ?side2 A7.out).mono ?_); (case side1 => repeat (first | exact (Kd.C_below HR1.out HB.out) | (with_reducible refine Kd.C_alloc ?_ _) | (with_reducible refine Kd.C_drewN ?_ _) | (with_reducible refine Kd.C_drew ?_))); (case side2 => exact HC1.out); rintro e w' ⟨rfl, ⟨nd, rfl⟩⟩))
    go_ret
    exact ⟨by first | rfl | (simp [errW_none, errW_some] <;> rfl) | (simp [*, errW_none, errW_some] <;> rfl), by repeat (first | (with_reducible first | exact HB.out | apply below_alloc | apply pw_below_drewN | apply below_drew1) | exact HB.out)⟩
  ·rw [if_neg c6] at H
   have c6b0 : decide ((l0.length : Int) ≤ 5) = false := decide_eq_false c6
   have c6b1 : decide (l0.length ≤ 5) = false := decide_eq_false (by omega)
   clear c6
   obtain rfl := Option.some.inj H
   go_enter Tryd.func18, Tryd.ntmps18
   go_wp2_with (first | ((with_reducible refine gate_callee (f := 38) rfl ?_); refine goesL_ (some 8) rfl rfl Tryd.func38 (by kernel_rfl) rfl #[.slice A0 l0.length c0] rfl (by (try simp only [List.map_toArray, List.map_cons, List.map_nil]); first | done | rfl | (simp only [List.length_drop, List.length_take]; rfl)) ?_; (with_reducible refine (spec_validGraph.calls k _ _ l0 true _ ?side1 ?side2 A4.out).mono ?_); (case side1 => repeat (first | exact HR0.out | (with_reducible refine Kd.C_alloc ?_ _) | (with_reducible refine Kd.C_drewN ?_ _) | (with_reducible refine Kd.C_drew ?_))); (case side2 => exact HC0.out); rintro e w12 ⟨rfl, hb⟩; refine ⟨_, rfl, ?_⟩; have n0_ := Aside0.mk (below_step (by repeat (first | (with_reducible first | exact HB.out | apply below_alloc | apply pw_below_drewN | apply below_drew1) | exact HB.out)) hb); clear HB; have HB := n0_; clear n0_; (try clear hb); (try clear hb2); (try clear hk); (try clear hi)))
   go_ret
   exact ⟨by first | rfl | (simp [errW_none, errW_some] <;> rfl) | (simp [*, errW_none, errW_some] <;> rfl), by repeat (first | (with_reducible first | exact HB.out | apply below_alloc | apply pw_below_drewN | apply below_drew1) | exact HB.out)⟩
 ·replace c5 := Bool.eq_false_iff.mpr c5
  subst c5
  have H1 : (some false) = some r := by rw [if_neg (show ¬ (false = true) by decide)] at H; exact H
  clear H
  have H := H1
  clear H1
  obtain rfl := Option.some.inj H
  go_enter Tryd.func18, Tryd.ntmps18
  go_wp2_with (first | ((with_reducible refine gate_callee (f := 38) rfl ?_); refine goesL_ (some 8) rfl rfl Tryd.func38 (by kernel_rfl) rfl #[.slice A0 l0.length c0] rfl (by (try simp only [List.map_toArray, List.map_cons, List.map_nil]); first | done | rfl | (simp only [List.length_drop, List.length_take]; rfl)) ?_; (with_reducible refine (spec_validGraph.calls k _ _ l0 false _ ?side1 ?side2 A4.out).mono ?_); (case side1 => repeat (first | exact HR0.out | (with_reducible refine Kd.C_alloc ?_ _) | (with_reducible refine Kd.C_drewN ?_ _) | (with_reducible refine Kd.C_drew ?_))); (case side2 => exact HC0.out); rintro e w13 ⟨rfl, hb⟩; refine ⟨_, rfl, ?_⟩; have n0_ := Aside0.mk (below_step (by repeat (first | (with_reducible first | exact HB.out | apply below_alloc | apply pw_below_drewN | apply below_drew1) | exact HB.out)) hb); clear HB; have HB := n0_; clear n0_; (try clear hb); (try clear hb2); (try clear hk); (try clear hi)))
  go_ret
  exact ⟨by first | rfl | (simp [errW_none, errW_some] <;> rfl) | (simp [*, errW_none, errW_some] <;> rfl), by repeat (first | (with_reducible first | exact HB.out | apply below_alloc | apply pw_below_drewN | apply below_drew1) | exact HB.out)⟩
end Go.Proofs.YtnhkajanbfgbiaaDoor.P
end
section
namespace Go.Proofs.YtnhkajanbfgbiaaDoor.P
open Go.RowKit Go.Proofs.YtnhkajanbfgbiaaDoorW.PrintWords Go.Proofs.YtnhkajanbfgbiaaDoorW.PrintLast Go.Proofs.YtnhkajanbfgbiaaDoorW.PrintMore
attribute [local go_sem] max2_int min2_int max_two min_two max_three min_three max_four min_four   -- for this text's walks alone
set_option linter.unusedVariables false
set_option linter.unusedSimpArgs false
def spec_OrderStarts.f (k : Nat) (l0 : List (S38)) (l1 : List Int) (a2 : Int) (l3 : List Int) : Option (List Int) := (spec_validSearch.f k l0 l1 a2).bind fun t182 => (if t182 = true then ((spec_isOrder.f k l0 l3).bind fun t183 => (if t183 = true then ((spec_order.f k l0 l1 a2 l3).bind fun t184 => (some t184)) else (some ([] : List Int)))) else (some ([] : List Int)))
theorem spec_OrderStarts.mono : ∀ a0 a1 a2 a3 k, LeO (spec_OrderStarts.f k a0 a1 a2 a3) (spec_OrderStarts.f (k + 1) a0 a1 a2 a3) := by
 intro a0 a1 a2 a3 k
 unfold spec_OrderStarts.f
 repeat' first
   | (with_reducible exact spec_isOrder.mono _ _ _)
   | (with_reducible exact spec_order.mono _ _ _ _ _)
   | (with_reducible exact spec_validSearch.mono _ _ _ _)
   | (with_reducible exact LeO.refl _)
   | (with_reducible exact LeO.none _)
   | (with_reducible refine LeO.ite ?_ ?_)
   | (with_reducible refine LeO.bind ?_ (fun _ => ?_))
   | exact spec_isOrder.mono _ _ _
   | exact spec_order.mono _ _ _ _ _
   | exact spec_validSearch.mono _ _ _ _
   | exact LeO.none _
   | refine LeO.ite ?_ ?_
   | refine LeO.bind ?_ (fun _ => ?_)
set_option maxHeartbeats 8000000 in
set_option maxRecDepth 100000 in
theorem spec_OrderStarts.calls (k : Nat) (A0 : Option Addr) (c0 : Nat) (l0 : List (S38)) (A1 : Option Addr) (c1 : Nat) (l1 : List Int) (a2 : Int) (A3 : Option Addr) (c3 : Nat) (l3 : List Int) (r : List Int) (w : World) (hr0 : Kd.C k38 w A0 l0.length l0) (hc0 : l0.length ≤ c0) (hr1 : Kd.C (Kd.int .i64) w A1 l1.length l1) (hc1 : l1.length ≤ c1) (hr3 : Kd.C (Kd.int .i64) w A3 l3.length l3) (hc3 : l3.length ≤ c3) (h : spec_OrderStarts.f k l0 l1 a2 l3 = some r) :
  Calls Tryd.prog 6 #[.slice A0 l0.length c0, .slice A1 l1.length c1, .int .i64 a2, .slice A3 l3.length c3] w fun e w' => ∃ v0_ : Value, e = .returned (v0_) ∧ Kd.R (Kd.int .i64) 3 w' w.heap.size (fun _ => True) v0_ r ∧ Below w.heap.size w w' := by
 have HR0 := Aside0.mk hr0
 have HC0 := Aside0.mk hc0
 clear hr0 hc0
 have HR1 := Aside0.mk hr1
 have HC1 := Aside0.mk hc1
 clear hr1 hc1
 have HR3 := Aside0.mk hr3
 have HC3 := Aside0.mk hc3
 clear hr3 hc3
 have HB := Aside0.mk (Below.refl w.heap.size w)
 have H : ((spec_validSearch.f k l0 l1 a2).bind fun t182 => (if t182 = true then ((spec_isOrder.f k l0 l3).bind fun t183 => (if t183 = true then ((spec_order.f k l0 l1 a2 l3).bind fun t184 => (some t184)) else (some ([] : List Int)))) else (some ([] : List Int)))) = some r := h
 clear h
 replace H := Option.bind_eq_some_iff.mp H
 obtain ⟨t182, A50, H⟩ := H
 replace H : (if t182 = true then ((spec_isOrder.f k l0 l3).bind fun t183 => (if t183 = true then ((spec_order.f k l0 l1 a2 l3).bind fun t184 => (some t184)) else (some ([] : List Int)))) else (some ([] : List Int))) = some r := H
 have A5 := Aside0.mk A50
 clear A50
 by_cases c6 : t182 = true
 ·subst c6
  have H1 : ((spec_isOrder.f k l0 l3).bind fun t183 => (if t183 = true then ((spec_order.f k l0 l1 a2 l3).bind fun t184 => (some t184)) else (some ([] : List Int)))) = some r := by rw [if_pos rfl] at H; exact H
  clear H
  have H := H1
  clear H1
  replace H := Option.bind_eq_some_iff.mp H
  obtain ⟨t183, A70, H⟩ := H
  replace H : (if t183 = true then ((spec_order.f k l0 l1 a2 l3).bind fun t184 => (some t184)) else (some ([] : List Int))) = some r := H
  have A7 := Aside0.mk A70
  clear A70
  by_cases c8 : t183 = true
  ·subst c8
   have H1 : ((spec_order.f k l0 l1 a2 l3).bind fun t184 => (some t184)) = some r := by rw [if_pos rfl] at H; exact H
   clear H
   have H := H1
   clear H1
   replace H := Option.bind_eq_some_iff.mp H
   obtain ⟨t184, A90, H⟩ := H
   replace H : (some t184) = some r := H
   have A9 := Aside0.mk A90
   clear A90
   obtain rfl := Option.some.inj H
   go_enter Tryd.func6, Tryd.ntmps6
   go_wp2_with (first | ((with_reducible refine gate_callee (f := 18) rfl ?_); refine goesL_ (some 12) rfl rfl Tryd.func18 (by kernel_rfl) rfl #[.slice A0 l0.length c0, .slice A1 l1.length c1, .int .i64 a2] rfl (by (try simp only [List.map_toArray, List.map_cons, List.map_nil]); first | done | rfl | (simp only [List.length_drop, List.length_take]; rfl)) ?_; (with_reducible refine (spec_validSearch.calls k _ _ l0 _ _ l1 a2 true _ ?side1 ?side2 ?side3 ?side4 A5.out).mono ?_); (case side1 => repeat (first | exact HR0.out | (with_reducible refine Kd.C_alloc ?_ _) | (with_reducible refine Kd.C_drewN ?_ _) | (with_reducible refine Kd.C_drew ?_))); (case side2 => exact HC0.out); (case side3 => repeat (first | exact HR1.out | (with_reducible refine Kd.C_alloc ?_ _) | (with_reducible refine Kd.C_drewN ?_ _) | (with_reducible refine Kd.C_drew ?_))); (case side4 => exact HC1.out); rintro e w10 ⟨rfl, hb⟩; refine ⟨_, rfl, ?_⟩; have n0_ := Aside0.mk (below_step (by repeat (first | (with_reducible first | exact HB.out | apply below_alloc | apply pw_below_drewN | apply below_drew1) | exact HB.out)) hb); clear HB; have HB := n0_; clear n0_; (try clear hb); (try clear hb2); (try clear hk); (try clear hi)) | (go_at_call 19; (with_reducible refine (spec_isOrder.calls k _ _ l0 _ _ l3 true _ ?side1 ?side2 ?side3 ?side4 A7.out).mono ?_); (case side1 => repeat (first | exact (Kd.C_below HR0.out HB.out) | (with_reducible refine Kd.C_alloc ?_ _) | (with_reducible refine Kd.C_drewN ?_ _) | (with_reducible refine Kd.C_drew ?_))); (case side2 => exact HC0.out); (case side3 => repeat (first | exact (Kd.C_below HR3.out HB.out) | (with_reducible refine Kd.C_alloc ?_ _) | (with_reducible refine Kd.C_drewN ?_ _) | (with_reducible refine Kd.C_drew ?_))); (case side4 => exact HC3.out); rintro e w11 ⟨rfl, hb⟩; have n0_ := Aside0.mk (below_step (by repeat (first | (with_reducible first | exact HB.out | apply below_alloc | apply pw_below_drewN | apply below_drew1) | exact HB.out)) hb); clear HB; have HB := n0_; clear n0_; (try clear hb); (try clear hb2); (try clear hk); (try clear hi)) | ((with_reducible refine gate_callee (f := 20) rfl ?_); refine goesL_ (some 24) rfl rfl Tryd.func20 (by kernel_rfl) rfl #[.slice A0 l0.length c0, .slice A1 l1.length c1, .int .i64 a2, .slice A3 l3.length c3] rfl (by (try simp only [List.map_toArray, List.map_cons, List.map_nil]); first | done | rfl | (simp only [List.length_drop, List.length_take]; rfl)) ?_; (with_reducible refine (spec_order.calls k _ _ l0 _ _ l1 a2 _ _ l3 t184 _ ?side1 ?side2 ?side3 ?side4 ?side5 ?side6 A9.out).mono ?_); (case side1 => repeat (first | exact (Kd.C_below HR0.out HB.out) | (with_reducible refine Kd.C_alloc ?_ _) | (with_reducible refine Kd.C_drewN ?_ _) | (with_reducible refine Kd.C_drew ?_))); (case side2 => exact HC0.out); (case side3 => repeat (first | exact (Kd.C_below HR1.out HB.out) | (with_reducible refine Kd.C_alloc ?_ _) | (with_reducible refine Kd.C_drewN ?_ _) | (with_reducible refine Kd.C_drew ?_))); (case side4 => exact HC1.out); (case side5 => repeat (first | exact (Kd.C_below HR3.out HB.out) | (with_reducible refine Kd.C_alloc ?_ _) | (with_reducible refine Kd.C_drewN ?_ _) | (with_reducible refine Kd.C_drew ?_))); (case side6 => exact HC3.out); rintro e w12 ⟨v185, rfl, ho0, hb⟩; refine ⟨_, rfl, ?_⟩; have n0_ := Aside0.mk (Kd.R_lower ho0 (below_size (by repeat (first | (with_reducible first | exact HB.out | apply below_alloc | apply pw_below_drewN | apply below_drew1) | exact HB.out)))); have n1_ := Aside0.mk (below_step (by repeat (first | (with_reducible first | exact HB.out | apply below_alloc | apply pw_below_drewN | apply below_drew1) | exact HB.out)) hb); clear HB; have HO186 := n0_; have HB := n1_; clear n0_ n1_; (try clear hb); (try clear hb2); (try clear hk); (try clear hi); (try clear ho0)))
   go_ret
   exact ⟨_, by first | rfl | (simp [errW_none, errW_some] <;> rfl) | (simp [*, errW_none, errW_some] <;> rfl), by (with_reducible repeat (first | apply Kd.R_alloc | apply Kd.R_drewN | apply Kd.R_drew)); exact HO186.out, by repeat (first | (with_reducible first | exact HB.out | apply below_alloc | apply pw_below_drewN | apply below_drew1) | exact HB.out)⟩
  ·replace c8 := Bool.eq_false_iff.mpr c8
   subst c8
   have H1 : (some ([] : List Int)) = some r := by rw [if_neg (show ¬ (false = true) by decide)] at H; exact H
   clear H
   have H := H1
   clear H1
   obtain rfl := Option.some.inj H
   go_enter Tryd.func6, Tryd.ntmps6
   go_wp2_with (first | ((with_reducible refine gate_callee (f := 18) rfl ?_); refine goesL_ (some 12) rfl rfl Tryd.func18 (by kernel_rfl) rfl #[.slice A0 l0.length c0, .slice A1 l1.length c1, .int .i64 a2] rfl (by (try simp only [List.map_toArray, List.map_cons, List.map_nil]); first | done | rfl | (simp only [List.length_drop, List.length_take]; rfl)) ?_; (with_reducible refine (spec_validSearch.calls k _ _ l0 _ _ l1 a2 true _ ?side1 ?side2 ?side3 ?side4 A5.out).mono ?_); (case side1 => repeat (first | exact HR0.out | (with_reducible refine Kd.C_alloc ?_ _) | (with_reducible refine Kd.C_drewN ?_ _) | (with_reducible refine Kd.C_drew ?_))); (case side2 => exact HC0.out); (case side3 => repeat (first | exact HR1.out | (with_reducible refine Kd.C_alloc ?_ _) | (with_reducible refine Kd.C_drewN ?_ _) | (with_reducible refine Kd.C_drew ?_))); (case side4 => exact HC1.out); rintro e w13 ⟨rfl, hb⟩; refine ⟨_, rfl, ?_⟩; have n0_ := Aside0.mk (below_step (by repeat (first | (with_reducible first | exact HB.out | apply below_alloc | apply pw_below_drewN | apply below_drew1) | exact HB.out)) hb); clear HB; have HB := n0_; clear n0_; (try clear hb); (try clear hb2); (try clear hk); (try clear hi)) | (go_at_call 19; (with_reducible refine (spec_isOrder.calls k _ _ l0 _ _ l3 false _ ?side1 ?side2 ?side3 ?side4 A7.out).mono ?_); (case side1 => repeat (first | exact (Kd.C_below HR0.out HB.out) | (with_reducible refine Kd.C_alloc ?_ _) | (with_reducible refine Kd.C_drewN ?_ _) | (with_reducible refine Kd.C_drew ?_))); (case side2 => exact HC0.out); (case side3 => repeat (first | exact (Kd.C_below HR3.out HB.out) | (with_reducible refine Kd.C_alloc ?_ _) | (with_reducible refine Kd.C_drewN ?_ _) | (with_reducible refine Kd.C_drew ?_))); (case side4 => exact HC3.out); rintro e w14 ⟨rfl, hb⟩; have n0_ := Aside0.mk (below_step (by repeat (first | (with_reducible first | exact HB.out | apply below_alloc | apply pw_below_drewN | apply below_drew1) | exact HB.out)) hb); clear HB; have HB := n0_; clear n0_; (try clear hb); (try clear hb2); (try clear hk); (try clear hi)))
   go_ret
   exact ⟨_, by first | rfl | (simp [errW_none, errW_some] <;> rfl) | (simp [*, errW_none, errW_some] <;> rfl), by first | exact Kd.R_nil _ _ _ _ _ | exact Kd.N_nil _ _ _ _ _ | exact Kd.V_nil _ _ _ _ _ | exact Kd.Q_nil _ _ _ _ _ | exact Kd.S_nil _ _ _ _ _, by repeat (first | (with_reducible first | exact HB.out | apply below_alloc | apply pw_below_drewN | apply below_drew1) | exact HB.out)⟩
 ·replace c6 := Bool.eq_false_iff.mpr c6
  subst c6
  have H1 : (some ([] : List Int)) = some r := by rw [if_neg (show ¬ (false = true) by decide)] at H; exact H
  clear H
  have H := H1
  clear H1
  obtain rfl := Option.some.inj H
  go_enter Tryd.func6, Tryd.ntmps6
  go_wp2_with (first | ((with_reducible refine gate_callee (f := 18) rfl ?_); refine goesL_ (some 12) rfl rfl Tryd.func18 (by kernel_rfl) rfl #[.slice A0 l0.length c0, .slice A1 l1.length c1, .int .i64 a2] rfl (by (try simp only [List.map_toArray, List.map_cons, List.map_nil]); first | done | rfl | (simp only [List.length_drop, List.length_take]; rfl)) ?_; (with_reducible refine (spec_validSearch.calls k _ _ l0 _ _ l1 a2 false _ ?side1 ?side2 ?side3 ?side4 A5.out).mono ?_); (case side1 => repeat (first | exact HR0.out | (with_reducible refine Kd.C_alloc ?_ _) | (with_reducible refine Kd.C_drewN ?_ _) | (with_reducible refine Kd.C_drew ?_))); (case side2 => exact HC0.out); (case side3 => repeat (first | exact HR1.out | (with_reducible refine Kd.C_alloc ?_ _) | (with_reducible refine Kd.C_drewN ?_ _) | (with_reducible refine Kd.C_drew ?_))); (case side4 => exact HC1.out); rintro e w15 ⟨rfl, hb⟩; refine ⟨_, rfl, ?_⟩; have n0_ := Aside0.mk (below_step (by repeat (first | (with_reducible first | exact HB.out | apply below_alloc | apply pw_below_drewN | apply below_drew1) | exact HB.out)) hb); clear HB; have HB := n0_; clear n0_; (try clear hb); (try clear hb2); (try clear hk); (try clear hi)))
  go_ret
  exact ⟨_, by first | rfl | (simp [errW_none, errW_some] <;> rfl) | (simp [*, errW_none, errW_some] <;> rfl), by first | exact Kd.R_nil _ _ _ _ _ | exact Kd.N_nil _ _ _ _ _ | exact Kd.V_nil _ _ _ _ _ | exact Kd.Q_nil _ _ _ _ _ | exact Kd.S_nil _ _ _ _ _, by repeat (first | (with_reducible first | exact HB.out | apply below_alloc | apply pw_below_drewN | apply below_drew1) | exact HB.out)⟩
end Go.Proofs.YtnhkajanbfgbiaaDoor.P
end
section
namespace Go.Proofs.YtnhkajanbfgbiaaDoor.P
open Go.RowKit Go.Proofs.YtnhkajanbfgbiaaDoorW.PrintWords Go.Proofs.YtnhkajanbfgbiaaDoorW.PrintLast Go.Proofs.YtnhkajanbfgbiaaDoorW.PrintMore
attribute [local go_sem] max2_int min2_int max_two min_two max_three min_three max_four min_four   -- for this text's walks alone
set_option linter.unusedVariables false
set_option linter.unusedSimpArgs false
def laws_equalInts.l0 : Nat → List Int → List Int → Int → Option (Bool)
 | 0, _, _, _ => none
 | k + 1, x0, x1, x5 => if x5 < (x0.length : Int) then (if 0 ≤ x5 then (if x5 < (x1.length : Int) then (if (rd x0 x5) = (rd x1 x5) then (laws_equalInts.l0 k x0 x1 (wrap64 (x5 + 1))) else (some false)) else (none)) else (none)) else (some true)
def laws_equalInts.f (k : Nat) (l0 : List Int) (l1 : List Int) : Option (Bool) := if (l0.length : Int) = (l1.length : Int) then (laws_equalInts.l0 k l0 l1 0) else (some false)
theorem laws_equalInts.mono_l : ∀ k, (∀ y0 y1 y2, LeO (laws_equalInts.l0 k y0 y1 y2) (laws_equalInts.l0 (k + 1) y0 y1 y2))
 | 0 => fun _ _ _ r h => by simp [laws_equalInts.l0] at h
 | k + 1 => by
  have ih0 := laws_equalInts.mono_l k
  ·intro y0 y1 y2
   unfold laws_equalInts.l0
   repeat' first
   | (with_reducible exact ih0 _ _ _)
   | (with_reducible exact LeO.refl _)
   | (with_reducible exact LeO.none _)
   | (with_reducible refine LeO.ite ?_ ?_)
   | (with_reducible refine LeO.bind ?_ (fun _ => ?_))
   | exact ih0 _ _ _
   | exact LeO.none _
   | refine LeO.ite ?_ ?_
   | refine LeO.bind ?_ (fun _ => ?_)
theorem laws_equalInts.mono : ∀ a0 a1 k, LeO (laws_equalInts.f k a0 a1) (laws_equalInts.f (k + 1) a0 a1) := by
 intro a0 a1 k
 have ih0 := laws_equalInts.mono_l k
 unfold laws_equalInts.f
 repeat' first
   | (with_reducible exact ih0 _ _ _)
   | (with_reducible exact LeO.refl _)
   | (with_reducible exact LeO.none _)
   | (with_reducible refine LeO.ite ?_ ?_)
   | (with_reducible refine LeO.bind ?_ (fun _ => ?_))
   | exact ih0 _ _ _
   | exact LeO.none _
   | refine LeO.ite ?_ ?_
   | refine LeO.bind ?_ (fun _ => ?_)
set_option maxHeartbeats 8000000 in
set_option maxRecDepth 100000 in
theorem laws_equalInts.calls (k : Nat) (A0 : Option Addr) (c0 : Nat) (l0 : List Int) (A1 : Option Addr) (c1 : Nat) (l1 : List Int) (r : Bool) (w : World) (hr0 : Kd.C (Kd.int .i64) w A0 l0.length l0) (hc0 : l0.length ≤ c0) (hr1 : Kd.C (Kd.int .i64) w A1 l1.length l1) (hc1 : l1.length ≤ c1) (h : laws_equalInts.f k l0 l1 = some r) :
  Calls Tryd.prog 16 #[.slice A0 l0.length c0, .slice A1 l1.length c1] w fun e w' => e = .returned (.bool r) ∧ Drawn0 w w' := by
 have HR0 := Aside0.mk hr0
 have HC0 := Aside0.mk hc0
 clear hr0 hc0
 have HR1 := Aside0.mk hr1
 have HC1 := Aside0.mk hc1
 clear hr1 hc1
 have H : (if (l0.length : Int) = (l1.length : Int) then (laws_equalInts.l0 k l0 l1 0) else (some false)) = some r := h
 clear h
 by_cases c3 : (l0.length : Int) = (l1.length : Int)
 ·rw [if_pos c3] at H
  have c3b0 : ((l0.length : Int) == (l1.length : Int)) = true := beq_iff_eq.mpr c3
  have c3b1 : ((l0.length : Int) != (l1.length : Int)) = false := bne_eq_false_iff_eq.mpr c3
  have c3b2 : (l0.length == l1.length) = true := by first | simpa using c3 | (simp at c3 ⊢; omega)
  clear c3
  have H' := Aside0.mk H
  clear H
  go_enter Tryd.func16, Tryd.ntmps16
  go_wp2
  repeat (go_quiet (fail); try go_wp2)
  go_loopg [5] k (fun kq v5 w' => ∃ (x5_1 : Int), v5 = .int .i64 x5_1 ∧ Aside0 (laws_equalInts.l0 kq l0 l1 x5_1 = some r) ∧ Aside0 (kq ≤ k) ∧ Drawn0 w w')
  case atStart => exact ⟨(0), (by first | rfl | (simp; done) | (simp [*]; done)), H', ⟨Nat.le_refl _⟩, by repeat (first | exact Drawn0.refl _ | apply Drawn0.step)⟩
  case round =>
   clear H'
   try clear c1
   try clear p2
   try clear c3
   try clear c3b0
   try clear c3b1
   try clear c3b2
   obtain ⟨x5_1, rfl, HA, HK1, ⟨m1, rfl⟩⟩ := hrel
   cases gk with
   | zero => exact absurd HA.out (by simp [laws_equalInts.l0])
   | succ k1 =>
    have H := HA.out
    clear HA
    simp only [laws_equalInts.l0] at H
    by_cases c4 : x5_1 < (l0.length : Int)
    ·rw [if_pos c4] at H
     have c4b0 : decide (x5_1 < (l0.length : Int)) = true := decide_eq_true c4
     clear c4
     by_cases c5 : 0 ≤ x5_1
     ·rw [if_pos c5] at H
      have c5b0 : decide (0 ≤ x5_1) = true := decide_eq_true c5
      clear c5
      by_cases c6 : x5_1 < (l1.length : Int)
      ·rw [if_pos c6] at H
       have c6b0 : decide (x5_1 < (l1.length : Int)) = true := decide_eq_true c6
       clear c6
       by_cases c7 : (rd l0 x5_1) = (rd l1 x5_1)
       ·rw [if_pos c7] at H
        have c7b0 : ((rd l0 x5_1) == (rd l1 x5_1)) = true := beq_iff_eq.mpr c7
        have c7b1 : ((rd l0 x5_1) != (rd l1 x5_1)) = false := bne_eq_false_iff_eq.mpr c7
        clear c7
        have H' := Aside0.mk H
        clear H
        have p467 : 0 ≤ (x5_1 : Int) := of_decide_eq_true (by first | (with_reducible assumption) | assumption)
        have q467 : x5_1 < (l0.length : Int) := of_decide_eq_true (by first | (with_reducible assumption) | assumption)
        obtain ⟨ad467, e467, hx467_0⟩ := Kd.at_int HR0.out x5_1 p467 q467
        cases e467
        replace p467 := eq_true p467
        replace q467 := eq_true q467
        have p468 : 0 ≤ (x5_1 : Int) := of_decide_eq_true (by first | (with_reducible assumption) | assumption)
        have q468 : x5_1 < (l1.length : Int) := of_decide_eq_true (by first | (with_reducible assumption) | assumption)
        obtain ⟨ad468, e468, hx468_0⟩ := Kd.at_int HR1.out x5_1 p468 q468
        cases e468
        replace p468 := eq_true p468
        replace q468 := eq_true q468
        go_wp2
        repeat (go_quiet (fail); try go_wp2)
        go_roundg k1
        case measure => have := HK1.out; omega
        case rel => exact ⟨(wrap64 (x5_1 + 1)), (by first | rfl | (simp; done) | (simp [*]; done)), H', ⟨by have := HK1.out; omega⟩, by repeat (first | exact Drawn0.refl _ | apply Drawn0.step)⟩
       ·rw [if_neg c7] at H
        have c7b0 : ((rd l0 x5_1) == (rd l1 x5_1)) = false := beq_eq_false_iff_ne.mpr c7
        have c7b1 : ((rd l0 x5_1) != (rd l1 x5_1)) = true := bne_iff_ne.mpr c7
        obtain rfl := Option.some.inj H
        have p467 : 0 ≤ (x5_1 : Int) := of_decide_eq_true (by first | (with_reducible assumption) | assumption)
        have q467 : x5_1 < (l0.length : Int) := of_decide_eq_true (by first | (with_reducible assumption) | assumption)
        obtain ⟨ad467, e467, hx467_0⟩ := Kd.at_int HR0.out x5_1 p467 q467
        cases e467
        replace p467 := eq_true p467
        replace q467 := eq_true q467
        have p468 : 0 ≤ (x5_1 : Int) := of_decide_eq_true (by first | (with_reducible assumption) | assumption)
        have q468 : x5_1 < (l1.length : Int) := of_decide_eq_true (by first | (with_reducible assumption) | assumption)
        obtain ⟨ad468, e468, hx468_0⟩ := Kd.at_int HR1.out x5_1 p468 q468
        cases e468
        replace p468 := eq_true p468
        replace q468 := eq_true q468
        go_wp2
        repeat (go_quiet (fail); try go_wp2)
        go_ret
        exact ⟨by first | rfl | (simp; done) | (simp [*]; done), by repeat (first | exact Drawn0.refl _ | apply Drawn0.step)⟩
      ·rw [if_neg c6] at H
       exact absurd H (by simp)
     ·rw [if_neg c5] at H
      exact absurd H (by simp)
    ·rw [if_neg c4] at H
     have c4b0 : decide (x5_1 < (l0.length : Int)) = false := decide_eq_false c4
     clear c4
     obtain rfl := Option.some.inj H
     go_wp2
     repeat (go_quiet (fail); try go_wp2)
     go_ret
     exact ⟨by first | rfl | (simp; done) | (simp [*]; done), by repeat (first | exact Drawn0.refl _ | apply Drawn0.step)⟩
 ·rw [if_neg c3] at H
  have c3b0 : ((l0.length : Int) == (l1.length : Int)) = false := beq_eq_false_iff_ne.mpr c3
  have c3b1 : ((l0.length : Int) != (l1.length : Int)) = true := bne_iff_ne.mpr c3
  have c3b2 : (l0.length == l1.length) = false := by first | simpa using c3 | (simp at c3 ⊢; omega)
  obtain rfl := Option.some.inj H
  go_enter Tryd.func16, Tryd.ntmps16
  go_wp2
  repeat (go_quiet (fail); try go_wp2)
  go_ret
  exact ⟨by first | rfl | (simp; done) | (simp [*]; done), by repeat (first | exact Drawn0.refl _ | apply Drawn0.step)⟩
end Go.Proofs.YtnhkajanbfgbiaaDoor.P
end
section
set_option linter.unusedVariables false
set_option linter.unusedSimpArgs false
namespace Go.Proofs.YtnhkajanbfgbiaaDoor.Core
open Go Go.RowKit Go.Shelf Go.Proofs.YtnhkajanbfgbiaaDoorW.PrintWords Go.Proofs.YtnhkajanbfgbiaaDoorW.PrintLast Go.Proofs.YtnhkajanbfgbiaaDoorW.PrintMore Go.Proofs.YtnhkajanbfgbiaaDoor.P
attribute [local go_sem] Oper.semAt_some wide_fn wide_depth
/-- What holds of each valid graph. -/
structure GOk (G : GD) : Prop where
 n8 : G.tasks.length ≤ 8
 nl : G.needs.length = G.tasks.length
 nb : below1 G.tasks.length G.needs
 ol : G.order.length = G.tasks.length
 ob : ∀ i ∈ G.order, i < G.tasks.length
 bl : G.below.length = G.tasks.length
 bb : below1 G.tasks.length G.below
 al : G.above.length = G.tasks.length
 ab : below1 G.tasks.length G.above
theorem IsG.move {w w' : World} {b : Nat} {G : GD} (h : IsG w b G) (hb : Below w.heap.size w w') : IsG w' b G := by
 obtain ⟨A0, A1, A2, A3, A4, c0, c1, c2, c3, c4, hh, h0, h1, h2, h3, h4⟩ := h
 exact ⟨A0, A1, A2, A3, A4, c0, c1, c2, c3, c4, (hb.block b (cells_lt hh)).trans hh, ⟨h0.1, Kd.C_below h0.2 hb⟩, ⟨h1.1, Kd.C_below h1.2 hb⟩, ⟨h2.1, Kd.C_below h2.2 hb⟩, ⟨h3.1, Kd.C_below h3.2 hb⟩, ⟨h4.1, Kd.C_below h4.2 hb⟩⟩
theorem IsG.lt {w : World} {b : Nat} {G : GD} (h : IsG w b G) : b < w.heap.size := by
 obtain ⟨A0, A1, A2, A3, A4, c0, c1, c2, c3, c4, hh, _⟩ := h
 exact cells_lt hh
theorem IsG.tasks {w : World} {b : Nat} {G : GD} (h : IsG w b G) : ∃ A c, w.cell? ⟨b, 0, none⟩ = some (.slice A G.tasks.length c) ∧ G.tasks.length ≤ c ∧ k38.C w A G.tasks.length G.tasks := by
 obtain ⟨A0, A1, A2, A3, A4, c0, c1, c2, c3, c4, hh, h0, h1, h2, h3, h4⟩ := h
 exact ⟨A0, c0, by simp [World.cell?, hh], h0.1, h0.2⟩
theorem IsG.needs {w : World} {b : Nat} {G : GD} (h : IsG w b G) : ∃ A c, w.cell? ⟨b, 1, none⟩ = some (.slice A G.needs.length c) ∧ G.needs.length ≤ c ∧ (Kd.int .u16).C w A G.needs.length (up G.needs) := by
 obtain ⟨A0, A1, A2, A3, A4, c0, c1, c2, c3, c4, hh, h0, h1, h2, h3, h4⟩ := h
 exact ⟨A1, c1, by simp [World.cell?, hh], h1.1, h1.2⟩
theorem IsG.order {w : World} {b : Nat} {G : GD} (h : IsG w b G) : ∃ A c, w.cell? ⟨b, 2, none⟩ = some (.slice A G.order.length c) ∧ G.order.length ≤ c ∧ (Kd.int .i64).C w A G.order.length (up G.order) := by
 obtain ⟨A0, A1, A2, A3, A4, c0, c1, c2, c3, c4, hh, h0, h1, h2, h3, h4⟩ := h
 exact ⟨A2, c2, by simp [World.cell?, hh], h2.1, h2.2⟩
theorem IsG.below {w : World} {b : Nat} {G : GD} (h : IsG w b G) : ∃ A c, w.cell? ⟨b, 3, none⟩ = some (.slice A G.below.length c) ∧ G.below.length ≤ c ∧ (Kd.int .u16).C w A G.below.length (up G.below) := by
 obtain ⟨A0, A1, A2, A3, A4, c0, c1, c2, c3, c4, hh, h0, h1, h2, h3, h4⟩ := h
 exact ⟨A3, c3, by simp [World.cell?, hh], h3.1, h3.2⟩
theorem IsG.above {w : World} {b : Nat} {G : GD} (h : IsG w b G) : ∃ A c, w.cell? ⟨b, 4, none⟩ = some (.slice A G.above.length c) ∧ G.above.length ≤ c ∧ (Kd.int .u16).C w A G.above.length (up G.above) := by
 obtain ⟨A0, A1, A2, A3, A4, c0, c1, c2, c3, c4, hh, h0, h1, h2, h3, h4⟩ := h
 exact ⟨A4, c4, by simp [World.cell?, hh], h4.1, h4.2⟩
set_option maxHeartbeats 1000000 in
theorem size_calls (b : Nat) (G : GD) (w : World) (hg : IsG w b G) :
  Calls Tryd.prog 23 #[.pointer (some ⟨b, 0, none⟩)] w fun e w' => e = .returned (.int .i64 (G.tasks.length : Int)) ∧ w = w' := by
 obtain ⟨A, c, hc, _, _⟩ := hg.tasks
 go_enter Tryd.func23, Tryd.ntmps23
 go_wp2
 go_ret
 exact ⟨rfl, rfl⟩
/-- The tasks that can come next, among the first ones. -/
def readyTo (N : List Nat) (d : Nat) : Nat → Nat
 | 0 => 0
 | i + 1 => if d.testBit i = false ∧ sub (N.getD i 0) d = 0 then readyTo N d i ||| 2 ^ i else readyTo N d i
def GD.ready (G : GD) (d : Nat) : Nat := readyTo G.needs d G.needs.length
end Go.Proofs.YtnhkajanbfgbiaaDoor.Core
end
section
set_option linter.unusedVariables false
set_option linter.unusedSimpArgs false
namespace Go.Proofs.YtnhkajanbfgbiaaDoor.Core
open Go Go.RowKit Go.Shelf Go.Proofs.YtnhkajanbfgbiaaDoorW.PrintWords Go.Proofs.YtnhkajanbfgbiaaDoorW.PrintLast Go.Proofs.YtnhkajanbfgbiaaDoorW.PrintMore Go.Proofs.YtnhkajanbfgbiaaDoor.P
/-- How many of the first n numbers a set lacks. -/
def zb : Nat → Nat → Nat
 | 0, _ => 0
 | n + 1, p => zb n p + (if p.testBit n then 0 else 1)
theorem or_bit (p i j : Nat) : (p ||| 2 ^ i).testBit j = (p.testBit j || decide (i = j)) := by rw [Nat.testBit_or, Nat.testBit_two_pow]
theorem zb_le (p i : Nat) : ∀ n, zb n (p ||| 2 ^ i) ≤ zb n p
 | 0 => Nat.le_refl _
 | n + 1 => by
  have := zb_le p i n
  simp only [zb, or_bit]
  by_cases h : i = n
  ·subst h; cases p.testBit i <;> simp <;> omega
  ·cases p.testBit n <;> simp [h] <;> omega
theorem zb_lt {p i : Nat} (hp : p.testBit i = false) : ∀ {n : Nat}, i < n → zb n (p ||| 2 ^ i) < zb n p
 | 0, h => by omega
 | n + 1, h => by
  simp only [zb, or_bit]
  by_cases hi : i = n
  ·subst hi
   have := zb_le p i i
   simp [hp]
   omega
  ·have := zb_lt hp (n := n) (by omega)
   cases p.testBit n <;> simp [hi] <;> omega
theorem readyTo_bit (N : List Nat) (d i : Nat) : ∀ n, (readyTo N d n).testBit i = true → i < n ∧ d.testBit i = false ∧ sub (N.getD i 0) d = 0
 | 0 => by simp [readyTo]
 | n + 1 => by
  intro h
  unfold readyTo at h
  split at h
  ·rename_i hc
   rw [or_bit] at h
   by_cases hi : n = i
   ·subst hi; exact ⟨by omega, hc⟩
   ·have := readyTo_bit N d i n (by simpa [hi] using h)
    exact ⟨by omega, this.2⟩
  ·have := readyTo_bit N d i n h
   exact ⟨by omega, this.2⟩
theorem readyTo_bit' (N : List Nat) (d i : Nat) : ∀ n, i < n → d.testBit i = false → sub (N.getD i 0) d = 0 → (readyTo N d n).testBit i = true
 | 0 => by intro h; omega
 | n + 1 => by
  intro h h1 h2
  unfold readyTo
  by_cases hi : n = i
  ·subst hi
   rw [if_pos ⟨h1, h2⟩, or_bit]
   simp
  ·have := readyTo_bit' N d i n (by omega) h1 h2
   split
   ·rw [or_bit, this]; rfl
   ·exact this
theorem mem_ready {G : GD} {d i : Nat} (h8 : G.needs.length ≤ 8) : i ∈ elemsN (G.ready d) ↔ i < G.needs.length ∧ d.testBit i = false ∧ sub (G.needs.getD i 0) d = 0 := by
 rw [mem_elemsN]
 constructor
 ·intro h
  exact readyTo_bit _ _ _ _ h.2
 ·intro h
  exact ⟨by omega, readyTo_bit' _ _ _ _ h.1 h.2.1 h.2.2⟩
theorem elemsN_length (s : Nat) : (elemsN s).length ≤ 8 := by
 have := elems_length s
 rwa [elems, List.length_map] at this
end Go.Proofs.YtnhkajanbfgbiaaDoor.Core
end
