/- The law FnAdmitTasksFirst holds of the given program: the proof's own part, with its row and its card, part 1 of 2. -/
import Derived.Test.YtpibdjkajgfgjaaDoorZCD68
section
namespace Go.Proofs.YtpibdjkajgfgjaaDoor.P
open Go.Proofs.YtpibdjkajgfgjaaDoor.Core (Tab Tab.of)
open Go.RowKit Go.Proofs.YtpibdjkajgfgjaaDoorW.PrintWords Go.Proofs.YtpibdjkajgfgjaaDoorW.PrintLast Go.Proofs.YtpibdjkajgfgjaaDoorW.PrintMore
attribute [local go_sem] max2_int min2_int max_two min_two max_three min_three max_four min_four   -- for this text's walks alone
set_option linter.unusedVariables false
set_option linter.unusedSimpArgs false
noncomputable def laws_FnAdmitTasksFirst.j0 : Nat → List (S48) → List Int → List Int → List Int → Int → List Int → Bool → Option (Bool)
 | 0, _, _, _, _, _, _, _ => none
 | k + 1, x3, x4, x5, x6, x7, x8, x45 => if x45 = true then ((spec_AdmitTasks.f k x3 x4 x5 x6 x7).bind fun t795 => ((laws_equalInts.f k x8 t795).bind fun t798 => (some t798))) else ((impl_AdmitTasks.f x3 x4 ([] : List Int) x6 x7).bind fun t799 => (if (t799.length : Int) > 0 then (if 0 < (t799.length : Int) then (if 0 < (x6.length : Int) then (if (rd t799 0) = (rd x6 0) then (some (decide ((t799.length : Int) ≤ x7))) else (some false)) else (none)) else (none)) else (some false)))
noncomputable def laws_FnAdmitTasksFirst.f (k : Nat) (l0 : List Int) : Option (Bool) := if (l0.length : Int) > 1048576 then (some true) else ((spec_DrawAdmitTasks.f k l0).bind fun bt775 => ((impl_AdmitTasks.f bt775.1 bt775.2.1 bt775.2.2.1 bt775.2.2.2.1 bt775.2.2.2.2).bind fun t788 => ((spec_AdmitTasks.f k bt775.1 bt775.2.1 bt775.2.2.1 bt775.2.2.2.1 bt775.2.2.2.2).bind fun t791 => ((laws_equalInts.f k t788 t791).bind fun t794 => (if t794 = true then (if (t788.length : Int) = 0 then (laws_FnAdmitTasksFirst.j0 k bt775.1 bt775.2.1 bt775.2.2.1 bt775.2.2.2.1 bt775.2.2.2.2 t788 true) else (laws_FnAdmitTasksFirst.j0 k bt775.1 bt775.2.1 bt775.2.2.1 bt775.2.2.2.1 bt775.2.2.2.2 t788 ((bt775.2.2.2.1.length : Int) == 0))) else (laws_FnAdmitTasksFirst.j0 k bt775.1 bt775.2.1 bt775.2.2.1 bt775.2.2.2.1 bt775.2.2.2.2 t788 true))))))
theorem laws_FnAdmitTasksFirst.mono_l : ∀ k, (∀ y0 y1 y2 y3 y4 y5 y6, LeO (laws_FnAdmitTasksFirst.j0 k y0 y1 y2 y3 y4 y5 y6) (laws_FnAdmitTasksFirst.j0 (k + 1) y0 y1 y2 y3 y4 y5 y6))
 | 0 => fun _ _ _ _ _ _ _ r h => by simp [laws_FnAdmitTasksFirst.j0] at h
 | k + 1 => by
  have ih0 := laws_FnAdmitTasksFirst.mono_l k
  ·intro y0 y1 y2 y3 y4 y5 y6
   unfold laws_FnAdmitTasksFirst.j0
   repeat' first
   | (with_reducible exact ih0 _ _ _ _ _ _ _)
   | (with_reducible exact laws_equalInts.mono _ _ _)
   | (with_reducible exact spec_AdmitTasks.mono _ _ _ _ _ _)
   | (with_reducible exact spec_DrawAdmitTasks.mono _ _)
   | (with_reducible exact LeO.refl _)
   | (with_reducible exact LeO.none _)
   | (with_reducible refine LeO.ite ?_ ?_)
   | (with_reducible refine LeO.bind ?_ (fun _ => ?_))
   | exact ih0 _ _ _ _ _ _ _
   | exact laws_equalInts.mono _ _ _
   | exact spec_AdmitTasks.mono _ _ _ _ _ _
   | exact spec_DrawAdmitTasks.mono _ _
   | exact LeO.none _
   | refine LeO.ite ?_ ?_
   | refine LeO.bind ?_ (fun _ => ?_)
theorem laws_FnAdmitTasksFirst.mono : ∀ a0 k, LeO (laws_FnAdmitTasksFirst.f k a0) (laws_FnAdmitTasksFirst.f (k + 1) a0) := by
 intro a0 k
 have ih0 := laws_FnAdmitTasksFirst.mono_l k
 unfold laws_FnAdmitTasksFirst.f
 repeat' first
   | (with_reducible exact ih0 _ _ _ _ _ _ _)
   | (with_reducible exact laws_equalInts.mono _ _ _)
   | (with_reducible exact spec_AdmitTasks.mono _ _ _ _ _ _)
   | (with_reducible exact spec_DrawAdmitTasks.mono _ _)
   | (with_reducible exact LeO.refl _)
   | (with_reducible exact LeO.none _)
   | (with_reducible refine LeO.ite ?_ ?_)
   | (with_reducible refine LeO.bind ?_ (fun _ => ?_))
   | exact ih0 _ _ _ _ _ _ _
   | exact laws_equalInts.mono _ _ _
   | exact spec_AdmitTasks.mono _ _ _ _ _ _
   | exact spec_DrawAdmitTasks.mono _ _
   | exact LeO.none _
   | refine LeO.ite ?_ ?_
   | refine LeO.bind ?_ (fun _ => ?_)
set_option maxHeartbeats 8000000 in
set_option maxRecDepth 100000 in
theorem laws_FnAdmitTasksFirst.calls (k : Nat) (A0 : Option Addr) (c0 : Nat) (l0 : List Int) (r : Bool) (w : World) (hr0 : Kd.C (Kd.int .u8) w A0 l0.length l0) (hc0 : l0.length ≤ c0) (hT : Tab w) (h : laws_FnAdmitTasksFirst.f k l0 = some r) :
  Calls Tryd.prog 8 #[.slice A0 l0.length c0] w fun e w' => e = .returned (.bool r) ∧ Below w.heap.size w w' := by
 have HT := Aside0.mk hT
 clear hT
 have HR0 := Aside0.mk hr0
 have HC0 := Aside0.mk hc0
 clear hr0 hc0
 have HB := Aside0.mk (Below.refl w.heap.size w)
 have H : (if (l0.length : Int) > 1048576 then (some true) else ((spec_DrawAdmitTasks.f k l0).bind fun bt775 => ((impl_AdmitTasks.f bt775.1 bt775.2.1 bt775.2.2.1 bt775.2.2.2.1 bt775.2.2.2.2).bind fun t788 => ((spec_AdmitTasks.f k bt775.1 bt775.2.1 bt775.2.2.1 bt775.2.2.2.1 bt775.2.2.2.2).bind fun t791 => ((laws_equalInts.f k t788 t791).bind fun t794 => (if t794 = true then (if (t788.length : Int) = 0 then (laws_FnAdmitTasksFirst.j0 k bt775.1 bt775.2.1 bt775.2.2.1 bt775.2.2.2.1 bt775.2.2.2.2 t788 true) else (laws_FnAdmitTasksFirst.j0 k bt775.1 bt775.2.1 bt775.2.2.1 bt775.2.2.2.1 bt775.2.2.2.2 t788 ((bt775.2.2.2.1.length : Int) == 0))) else (laws_FnAdmitTasksFirst.j0 k bt775.1 bt775.2.1 bt775.2.2.1 bt775.2.2.2.1 bt775.2.2.2.2 t788 true))))))) = some r := h
 clear h
 by_cases c2 : (l0.length : Int) > 1048576
 ·rw [if_pos c2] at H
  have c2b0 : decide (1048576 < (l0.length : Int)) = true := decide_eq_true c2
  have c2b1 : decide (1048576 < l0.length) = true := decide_eq_true (by omega)
  clear c2
  obtain rfl := Option.some.inj H
  go_enter Tryd.func8, Tryd.ntmps8
  go_wp2
  repeat (go_quiet (fail); try go_wp2)
  go_ret
  exact ⟨by first | rfl | (simp [errW_none, errW_some] <;> rfl) | (simp [*, errW_none, errW_some] <;> rfl), HB.out⟩
 ·rw [if_neg c2] at H
  have c2b0 : decide (1048576 < (l0.length : Int)) = false := decide_eq_false c2
  have c2b1 : decide (1048576 < l0.length) = false := decide_eq_false (by omega)
  clear c2
  replace H := Option.bind_eq_some_iff.mp H
  obtain ⟨⟨t775, t776, t777, t778, t779⟩, A30, H⟩ := H
  replace H : ((impl_AdmitTasks.f t775 t776 t777 t778 t779).bind fun t788 => ((spec_AdmitTasks.f k t775 t776 t777 t778 t779).bind fun t791 => ((laws_equalInts.f k t788 t791).bind fun t794 => (if t794 = true then (if (t788.length : Int) = 0 then (laws_FnAdmitTasksFirst.j0 k t775 t776 t777 t778 t779 t788 true) else (laws_FnAdmitTasksFirst.j0 k t775 t776 t777 t778 t779 t788 ((t778.length : Int) == 0))) else (laws_FnAdmitTasksFirst.j0 k t775 t776 t777 t778 t779 t788 true))))) = some r := H
  have A3 := Aside0.mk A30
  clear A30
  replace H := Option.bind_eq_some_iff.mp H
  obtain ⟨t788, A40, H⟩ := H
  replace H : ((spec_AdmitTasks.f k t775 t776 t777 t778 t779).bind fun t791 => ((laws_equalInts.f k t788 t791).bind fun t794 => (if t794 = true then (if (t788.length : Int) = 0 then (laws_FnAdmitTasksFirst.j0 k t775 t776 t777 t778 t779 t788 true) else (laws_FnAdmitTasksFirst.j0 k t775 t776 t777 t778 t779 t788 ((t778.length : Int) == 0))) else (laws_FnAdmitTasksFirst.j0 k t775 t776 t777 t778 t779 t788 true)))) = some r := H
  have A4 := Aside0.mk A40
  clear A40
  have HC5 := Aside0.mk H
  clear H
  go_enter Tryd.func8, Tryd.ntmps8
  go_upto_region 5 with (first | (go_at_call 46; (with_reducible refine (spec_DrawAdmitTasks.calls k _ _ l0 t775 t776 t777 t778 t779 _ ?side1 ?side2 A3.out).mono ?_); (case side1 => exact HR0.out); (case side2 => exact HC0.out); rintro e w6 ⟨v780, v782, v784, v786, rfl, ho0, ho1, ho2, ho3, hb⟩; have n0_ := Aside0.mk (Kd.S_lower ho0 (below_size HB.out)); have n1_ := Aside0.mk (Kd.Q_lower ho1 (below_size HB.out)); have n2_ := Aside0.mk (Kd.R_lower ho2 (below_size HB.out)); have n3_ := Aside0.mk (Kd.Q_lower ho3 (below_size HB.out)); have n4_ := Aside0.mk (below_step HB.out hb); clear HB; have HO781 := n0_; have HO783 := n1_; have HO785 := n2_; have HO787 := n3_; have HB := n4_; clear n0_ n1_ n2_ n3_ n4_; (try clear hb); (try clear hb2); (try clear hk); (try clear hi); (try clear ho0); (try clear ho1); (try clear ho2); (try clear ho3); obtain ⟨Ao7, co7, eo7⟩ := Kd.S_slice HO781.out; subst eo7; obtain ⟨Ao8, co8, eo8, _⟩ := Kd.Q_slice HO783.out; subst eo8; obtain ⟨Ao9, co9, eo9⟩ := Kd.R_slice HO785.out; subst eo9; obtain ⟨Ao10, co10, eo10, _⟩ := Kd.Q_slice HO787.out; subst eo10) | (go_at_call 19; (with_reducible refine (impl_AdmitTasks.calls _ _ t775 _ _ t776 _ _ t777 _ _ t778 t779 t788 _ ?side1 ?side2 ?side3 ?side4 ?side5 ?side6 ?side7 ?side8 ?side9 A4.out).mono ?_); (case side1 => exact (Kd.S_reads' HO781.out).2.2); (case side2 => exact (Kd.S_reads' HO781.out).2.1); (case side3 => exact (Kd.Q_reads' HO783.out).2.2); (case side4 => exact (Kd.Q_reads' HO783.out).2.1); (case side5 => exact (Kd.R_reads' HO785.out).2.2); (case side6 => exact (Kd.R_reads' HO785.out).2.1); (case side7 => exact (Kd.Q_reads' HO787.out).2.2); (case side8 => exact (Kd.Q_reads' HO787.out).2.1); (case side9 => exact Tab.of HT.out HB.out); rintro e w11 ⟨v789, rfl, ho0, hb⟩; have n0_ := Aside0.mk (Kd.S_elder' HO781.out (Kd.R_base ho0) hb); have n1_ := Aside0.mk (Kd.Q_elder' HO783.out (Kd.R_base ho0) hb); have n2_ := Aside0.mk (Kd.R_elder' HO785.out (Kd.R_base ho0) hb); have n3_ := Aside0.mk (Kd.Q_elder' HO787.out (Kd.R_base ho0) hb); have n4_ := Aside0.mk (Kd.R_lower (Kd.R_new' (Kd.R_new' (Kd.R_new' ho0 (Kd.Q_lt HO783.out)) (Kd.R_lt HO785.out)) (Kd.Q_lt HO787.out)) (below_size HB.out)); have n5_ := Aside0.mk (below_step HB.out hb); clear HO781; clear HO783; clear HO785; clear HO787; clear HB; have HO781 := n0_; have HO783 := n1_; have HO785 := n2_; have HO787 := n3_; have HO790 := n4_; have HB := n5_; clear n0_ n1_ n2_ n3_ n4_ n5_; (try clear hb); (try clear hb2); (try clear hk); (try clear hi); (try clear ho0)))
  (try simp only [Act.put, List.setIfInBounds_toArray, List.set_cons_zero, List.set_cons_succ])
  go_cut [45] (fun v45 wc => ∃ (kq : Nat) (x45_4 : Bool), v45 = .bool x45_4 ∧ Aside0 (laws_FnAdmitTasksFirst.j0 kq t775 t776 t777 t778 t779 t788 x45_4 = some r) ∧ Aside0 (kq ≤ k) ∧ Aside0 (Kd.S k48 48 wc w.heap.size (fun k_ => some k_ ≠ ((.slice Ao8 t776.length co8) : Value).ownBlock ∧ some k_ ≠ ((.slice Ao9 t777.length co9) : Value).ownBlock ∧ some k_ ≠ ((.slice Ao10 t778.length co10) : Value).ownBlock ∧ some k_ ≠ (v789 : Value).ownBlock) (.slice Ao7 t775.length co7) t775) ∧ Aside0 (Kd.Q (Kd.int .i64) 3 wc w.heap.size (fun k_ => some k_ ≠ ((.slice Ao9 t777.length co9) : Value).ownBlock ∧ some k_ ≠ ((.slice Ao10 t778.length co10) : Value).ownBlock ∧ some k_ ≠ (v789 : Value).ownBlock) (.slice Ao8 t776.length co8) t776) ∧ Aside0 (Kd.R (Kd.int .i64) 3 wc w.heap.size (fun k_ => some k_ ≠ ((.slice Ao8 t776.length co8) : Value).ownBlock ∧ some k_ ≠ ((.slice Ao10 t778.length co10) : Value).ownBlock ∧ some k_ ≠ (v789 : Value).ownBlock) (.slice Ao9 t777.length co9) t777) ∧ Aside0 (Kd.Q (Kd.int .i64) 3 wc w.heap.size (fun k_ => some k_ ≠ ((.slice Ao8 t776.length co8) : Value).ownBlock ∧ some k_ ≠ ((.slice Ao9 t777.length co9) : Value).ownBlock ∧ some k_ ≠ (v789 : Value).ownBlock) (.slice Ao10 t778.length co10) t778) ∧ Aside0 (Kd.R (Kd.int .i64) 3 wc w.heap.size (fun k_ => some k_ ≠ ((.slice Ao8 t776.length co8) : Value).ownBlock ∧ some k_ ≠ ((.slice Ao9 t777.length co9) : Value).ownBlock ∧ some k_ ≠ ((.slice Ao10 t778.length co10) : Value).ownBlock) v789 t788) ∧ Aside0 (Below w.heap.size w wc))
  case first =>
   have H := HC5.out
   clear HC5
   replace H := Option.bind_eq_some_iff.mp H
   obtain ⟨t791, A120, H⟩ := H
   replace H : ((laws_equalInts.f k t788 t791).bind fun t794 => (if t794 = true then (if (t788.length : Int) = 0 then (laws_FnAdmitTasksFirst.j0 k t775 t776 t777 t778 t779 t788 true) else (laws_FnAdmitTasksFirst.j0 k t775 t776 t777 t778 t779 t788 ((t778.length : Int) == 0))) else (laws_FnAdmitTasksFirst.j0 k t775 t776 t777 t778 t779 t788 true))) = some r := H
   have A12 := Aside0.mk A120
   clear A120
   replace H := Option.bind_eq_some_iff.mp H
   obtain ⟨t794, A130, H⟩ := H
   replace H : (if t794 = true then (if (t788.length : Int) = 0 then (laws_FnAdmitTasksFirst.j0 k t775 t776 t777 t778 t779 t788 true) else (laws_FnAdmitTasksFirst.j0 k t775 t776 t777 t778 t779 t788 ((t778.length : Int) == 0))) else (laws_FnAdmitTasksFirst.j0 k t775 t776 t777 t778 t779 t788 true)) = some r := H
   have A13 := Aside0.mk A130
   clear A130
   by_cases c14 : t794 = true
   ·subst c14
    have H1 : (if (t788.length : Int) = 0 then (laws_FnAdmitTasksFirst.j0 k t775 t776 t777 t778 t779 t788 true) else (laws_FnAdmitTasksFirst.j0 k t775 t776 t777 t778 t779 t788 ((t778.length : Int) == 0))) = some r := by rw [if_pos rfl] at H; exact H
    clear H
    have H := H1
    clear H1
    by_cases c15 : (t788.length : Int) = 0
    ·rw [if_pos c15] at H
     have c15b0 : ((t788.length : Int) == 0) = true := beq_iff_eq.mpr c15
     have c15b1 : ((t788.length : Int) != 0) = false := bne_eq_false_iff_eq.mpr c15
     clear c15
     (first | rw [c15b0] | (simp only [i64_w, i32_w]; rw [c15b0]) | skip)
     have H' := Aside0.mk H
     clear H
     go_wp2_with (first | (go_at_call 16; (with_reducible refine (spec_AdmitTasks.calls k _ _ t775 _ _ t776 _ _ t777 _ _ t778 t779 t791 _ ?side1 ?side2 ?side3 ?side4 ?side5 ?side6 ?side7 ?side8 A12.out).mono ?_); (case side1 => exact (Kd.S_reads' HO781.out).2.2); (case side2 => exact (Kd.S_reads' HO781.out).2.1); (case side3 => exact (Kd.Q_reads' HO783.out).2.2); (case side4 => exact (Kd.Q_reads' HO783.out).2.1); (case side5 => exact (Kd.R_reads' HO785.out).2.2); (case side6 => exact (Kd.R_reads' HO785.out).2.1); (case side7 => exact (Kd.Q_reads' HO787.out).2.2); (case side8 => exact (Kd.Q_reads' HO787.out).2.1); rintro e w16 ⟨v792, rfl, ho0, hb⟩; have n0_ := Aside0.mk (Kd.S_elder' HO781.out (Kd.R_base ho0) hb); have n1_ := Aside0.mk (Kd.Q_elder' HO783.out (Kd.R_base ho0) hb); have n2_ := Aside0.mk (Kd.R_elder' HO785.out (Kd.R_base ho0) hb); have n3_ := Aside0.mk (Kd.Q_elder' HO787.out (Kd.R_base ho0) hb); have n4_ := Aside0.mk (Kd.R_elder' HO790.out (Kd.R_base ho0) hb); have n5_ := Aside0.mk (Kd.R_lower (Kd.R_new' (Kd.R_new' (Kd.R_new' (Kd.R_new' ho0 (Kd.Q_lt HO783.out)) (Kd.R_lt HO785.out)) (Kd.Q_lt HO787.out)) (Kd.R_lt HO790.out)) (below_size HB.out)); have n6_ := Aside0.mk (below_step HB.out hb); clear HO781; clear HO783; clear HO785; clear HO787; clear HO790; clear HB; have HO781 := n0_; have HO783 := n1_; have HO785 := n2_; have HO787 := n3_; have HO790 := n4_; have HO793 := n5_; have HB := n6_; clear n0_ n1_ n2_ n3_ n4_ n5_ n6_; (try clear hb); (try clear hb2); (try clear hk); (try clear hi); (try clear ho0); obtain ⟨Ao17, co17, eo17⟩ := Kd.R_slice HO790.out; subst eo17; obtain ⟨Ao18, co18, eo18⟩ := Kd.R_slice HO793.out; subst eo18) | (go_at_call 32; (with_reducible refine (laws_equalInts.calls k _ _ t788 _ _ t791 true _ ?side1 ?side2 ?side3 ?side4 A13.out).mono ?_); (case side1 => exact (Kd.R_reads' HO790.out).2.2); (case side2 => exact (Kd.R_reads' HO790.out).2.1); (case side3 => exact (Kd.R_reads' HO793.out).2.2); (case side4 => exact (Kd.R_reads' HO793.out).2.1); rintro e w' ⟨rfl, ⟨nd, rfl⟩⟩; (try first | exact ⟨rfl, _, World.drewN_drewN _ _ _⟩ | exact ⟨rfl, _, Eq.trans (World.drewN_drewN _ _ _) (congrArg (World.drewN _) (Nat.add_assoc _ _ _))⟩)))
     go_meet
     case rel => exact ⟨_, (true), (by first | rfl | (simp; done) | (simp [*]; done)), H', ⟨by first | omega | exact Nat.le_refl _⟩, ⟨by (with_reducible repeat (first | apply Kd.S_alloc | apply Kd.S_drewN | apply Kd.S_drew)); exact Kd.S_mono HO781.out (fun _ hk => ⟨hk.1.1.1, ⟨hk.1.1.2.1, ⟨hk.1.1.2.2, hk.1.2⟩⟩⟩)⟩, ⟨by (with_reducible repeat (first | apply Kd.Q_alloc | apply Kd.Q_drewN | apply Kd.Q_drew)); exact Kd.Q_mono HO783.out (fun _ hk => ⟨hk.1.1.1, ⟨hk.1.1.2, hk.1.2⟩⟩)⟩, ⟨by (with_reducible repeat (first | apply Kd.R_alloc | apply Kd.R_drewN | apply Kd.R_drew)); exact Kd.R_mono HO785.out (fun _ hk => ⟨hk.1.1.1, ⟨hk.1.1.2, hk.1.2⟩⟩)⟩, ⟨by (with_reducible repeat (first | apply Kd.Q_alloc | apply Kd.Q_drewN | apply Kd.Q_drew)); exact Kd.Q_mono HO787.out (fun _ hk => ⟨hk.1.1.1, ⟨hk.1.1.2, hk.1.2⟩⟩)⟩, ⟨by (with_reducible repeat (first | apply Kd.R_alloc | apply Kd.R_drewN | apply Kd.R_drew)); exact Kd.R_mono HO790.out (fun _ hk => ⟨hk.1.1.1.2, ⟨hk.1.1.2, hk.1.2⟩⟩)⟩, ⟨by repeat (first | (with_reducible first | exact HB.out | apply below_alloc | apply pw_below_drewN | apply below_drew1) | exact HB.out)⟩⟩
    ·rw [if_neg c15] at H
     have c15b0 : ((t788.length : Int) == 0) = false := beq_eq_false_iff_ne.mpr c15
     have c15b1 : ((t788.length : Int) != 0) = true := bne_iff_ne.mpr c15
     have c15b2 : ¬ (t788 = []) := fun h_ => c15 (by rw [h_]; rfl)
     (first | rw [c15b0] | (simp only [i64_w, i32_w]; rw [c15b0]) | skip)
     have H' := Aside0.mk H
     clear H
     go_wp2_with (first | (go_at_call 16; (with_reducible refine (spec_AdmitTasks.calls k _ _ t775 _ _ t776 _ _ t777 _ _ t778 t779 t791 _ ?side1 ?side2 ?side3 ?side4 ?side5 ?side6 ?side7 ?side8 A12.out).mono ?_); (case side1 => exact (Kd.S_reads' HO781.out).2.2); (case side2 => exact (Kd.S_reads' HO781.out).2.1); (case side3 => exact (Kd.Q_reads' HO783.out).2.2); (case side4 => exact (Kd.Q_reads' HO783.out).2.1); (case side5 => exact (Kd.R_reads' HO785.out).2.2); (case side6 => exact (Kd.R_reads' HO785.out).2.1); (case side7 => exact (Kd.Q_reads' HO787.out).2.2); (case side8 => exact (Kd.Q_reads' HO787.out).2.1); rintro e w19 ⟨v792, rfl, ho0, hb⟩; have n0_ := Aside0.mk (Kd.S_elder' HO781.out (Kd.R_base ho0) hb); have n1_ := Aside0.mk (Kd.Q_elder' HO783.out (Kd.R_base ho0) hb); have n2_ := Aside0.mk (Kd.R_elder' HO785.out (Kd.R_base ho0) hb); have n3_ := Aside0.mk (Kd.Q_elder' HO787.out (Kd.R_base ho0) hb); have n4_ := Aside0.mk (Kd.R_elder' HO790.out (Kd.R_base ho0) hb); have n5_ := Aside0.mk (Kd.R_lower (Kd.R_new' (Kd.R_new' (Kd.R_new' (Kd.R_new' ho0 (Kd.Q_lt HO783.out)) (Kd.R_lt HO785.out)) (Kd.Q_lt HO787.out)) (Kd.R_lt HO790.out)) (below_size HB.out)); have n6_ := Aside0.mk (below_step HB.out hb); clear HO781; clear HO783; clear HO785; clear HO787; clear HO790; clear HB; have HO781 := n0_; have HO783 := n1_; have HO785 := n2_; have HO787 := n3_; have HO790 := n4_; have HO793 := n5_; have HB := n6_; clear n0_ n1_ n2_ n3_ n4_ n5_ n6_; (try clear hb); (try clear hb2); (try clear hk); (try clear hi); (try clear ho0); obtain ⟨Ao20, co20, eo20⟩ := Kd.R_slice HO790.out; subst eo20; obtain ⟨Ao21, co21, eo21⟩ := Kd.R_slice HO793.out; subst eo21) | (go_at_call 32; (with_reducible refine (laws_equalInts.calls k _ _ t788 _ _ t791 true _ ?side1 ?side2 ?side3 ?side4 A13.out).mono ?_); (case side1 => exact (Kd.R_reads' HO790.out).2.2); (case side2 => exact (Kd.R_reads' HO790.out).2.1); (case side3 => exact (Kd.R_reads' HO793.out).2.2); (case side4 => exact (Kd.R_reads' HO793.out).2.1); rintro e w' ⟨rfl, ⟨nd, rfl⟩⟩; (try first | exact ⟨rfl, _, World.drewN_drewN _ _ _⟩ | exact ⟨rfl, _, Eq.trans (World.drewN_drewN _ _ _) (congrArg (World.drewN _) (Nat.add_assoc _ _ _))⟩)))
     go_meet
     case rel => exact ⟨_, (((t778.length : Int) == 0)), (by first | rfl | (simp; done) | (simp [*]; done)), H', ⟨by first | omega | exact Nat.le_refl _⟩, ⟨by (with_reducible repeat (first | apply Kd.S_alloc | apply Kd.S_drewN | apply Kd.S_drew)); exact Kd.S_mono HO781.out (fun _ hk => ⟨hk.1.1.1, ⟨hk.1.1.2.1, ⟨hk.1.1.2.2, hk.1.2⟩⟩⟩)⟩, ⟨by (with_reducible repeat (first | apply Kd.Q_alloc | apply Kd.Q_drewN | apply Kd.Q_drew)); exact Kd.Q_mono HO783.out (fun _ hk => ⟨hk.1.1.1, ⟨hk.1.1.2, hk.1.2⟩⟩)⟩, ⟨by (with_reducible repeat (first | apply Kd.R_alloc | apply Kd.R_drewN | apply Kd.R_drew)); exact Kd.R_mono HO785.out (fun _ hk => ⟨hk.1.1.1, ⟨hk.1.1.2, hk.1.2⟩⟩)⟩, ⟨by (with_reducible repeat (first | apply Kd.Q_alloc | apply Kd.Q_drewN | apply Kd.Q_drew)); exact Kd.Q_mono HO787.out (fun _ hk => ⟨hk.1.1.1, ⟨hk.1.1.2, hk.1.2⟩⟩)⟩, ⟨by (with_reducible repeat (first | apply Kd.R_alloc | apply Kd.R_drewN | apply Kd.R_drew)); exact Kd.R_mono HO790.out (fun _ hk => ⟨hk.1.1.1.2, ⟨hk.1.1.2, hk.1.2⟩⟩)⟩, ⟨by repeat (first | (with_reducible first | exact HB.out | apply below_alloc | apply pw_below_drewN | apply below_drew1) | exact HB.out)⟩⟩
   ·replace c14 := Bool.eq_false_iff.mpr c14
    subst c14
    have H1 : (laws_FnAdmitTasksFirst.j0 k t775 t776 t777 t778 t779 t788 true) = some r := by rw [if_neg (show ¬ (false = true) by decide)] at H; exact H
    clear H
    have H := H1
    clear H1
    have H' := Aside0.mk H
    clear H
    go_wp2_with (first | (go_at_call 16; (with_reducible refine (spec_AdmitTasks.calls k _ _ t775 _ _ t776 _ _ t777 _ _ t778 t779 t791 _ ?side1 ?side2 ?side3 ?side4 ?side5 ?side6 ?side7 ?side8 A12.out).mono ?_); (case side1 => exact (Kd.S_reads' HO781.out).2.2); (case side2 => exact (Kd.S_reads' HO781.out).2.1); (case side3 => exact (Kd.Q_reads' HO783.out).2.2); (case side4 => exact (Kd.Q_reads' HO783.out).2.1); (case side5 => exact (Kd.R_reads' HO785.out).2.2); (case side6 => exact (Kd.R_reads' HO785.out).2.1); (case side7 => exact (Kd.Q_reads' HO787.out).2.2); (case side8 => exact (Kd.Q_reads' HO787.out).2.1); rintro e w22 ⟨v792, rfl, ho0, hb⟩; have n0_ := Aside0.mk (Kd.S_elder' HO781.out (Kd.R_base ho0) hb); have n1_ := Aside0.mk (Kd.Q_elder' HO783.out (Kd.R_base ho0) hb); have n2_ := Aside0.mk (Kd.R_elder' HO785.out (Kd.R_base ho0) hb); have n3_ := Aside0.mk (Kd.Q_elder' HO787.out (Kd.R_base ho0) hb); have n4_ := Aside0.mk (Kd.R_elder' HO790.out (Kd.R_base ho0) hb); have n5_ := Aside0.mk (Kd.R_lower (Kd.R_new' (Kd.R_new' (Kd.R_new' (Kd.R_new' ho0 (Kd.Q_lt HO783.out)) (Kd.R_lt HO785.out)) (Kd.Q_lt HO787.out)) (Kd.R_lt HO790.out)) (below_size HB.out)); have n6_ := Aside0.mk (below_step HB.out hb); clear HO781; clear HO783; clear HO785; clear HO787; clear HO790; clear HB; have HO781 := n0_; have HO783 := n1_; have HO785 := n2_; have HO787 := n3_; have HO790 := n4_; have HO793 := n5_; have HB := n6_; clear n0_ n1_ n2_ n3_ n4_ n5_ n6_; (try clear hb); (try clear hb2); (try clear hk); (try clear hi); (try clear ho0); obtain ⟨Ao23, co23, eo23⟩ := Kd.R_slice HO790.out; subst eo23; obtain ⟨Ao24, co24, eo24⟩ := Kd.R_slice HO793.out; subst eo24) | (go_at_call 32; (with_reducible refine (laws_equalInts.calls k _ _ t788 _ _ t791 false _ ?side1 ?side2 ?side3 ?side4 A13.out).mono ?_); (case side1 => exact (Kd.R_reads' HO790.out).2.2); (case side2 => exact (Kd.R_reads' HO790.out).2.1); (case side3 => exact (Kd.R_reads' HO793.out).2.2); (case side4 => exact (Kd.R_reads' HO793.out).2.1); rintro e w' ⟨rfl, ⟨nd, rfl⟩⟩; (try first | exact ⟨rfl, _, World.drewN_drewN _ _ _⟩ | exact ⟨rfl, _, Eq.trans (World.drewN_drewN _ _ _) (congrArg (World.drewN _) (Nat.add_assoc _ _ _))⟩)))
    go_meet
    case rel => exact ⟨_, (true), (by first | rfl | (simp; done) | (simp [*]; done)), H', ⟨by first | omega | exact Nat.le_refl _⟩, ⟨by (with_reducible repeat (first | apply Kd.S_alloc | apply Kd.S_drewN | apply Kd.S_drew)); exact Kd.S_mono HO781.out (fun _ hk => ⟨hk.1.1.1, ⟨hk.1.1.2.1, ⟨hk.1.1.2.2, hk.1.2⟩⟩⟩)⟩, ⟨by (with_reducible repeat (first | apply Kd.Q_alloc | apply Kd.Q_drewN | apply Kd.Q_drew)); exact Kd.Q_mono HO783.out (fun _ hk => ⟨hk.1.1.1, ⟨hk.1.1.2, hk.1.2⟩⟩)⟩, ⟨by (with_reducible repeat (first | apply Kd.R_alloc | apply Kd.R_drewN | apply Kd.R_drew)); exact Kd.R_mono HO785.out (fun _ hk => ⟨hk.1.1.1, ⟨hk.1.1.2, hk.1.2⟩⟩)⟩, ⟨by (with_reducible repeat (first | apply Kd.Q_alloc | apply Kd.Q_drewN | apply Kd.Q_drew)); exact Kd.Q_mono HO787.out (fun _ hk => ⟨hk.1.1.1, ⟨hk.1.1.2, hk.1.2⟩⟩)⟩, ⟨by (with_reducible repeat (first | apply Kd.R_alloc | apply Kd.R_drewN | apply Kd.R_drew)); exact Kd.R_mono HO790.out (fun _ hk => ⟨hk.1.1.1.2, ⟨hk.1.1.2, hk.1.2⟩⟩)⟩, ⟨by repeat (first | (with_reducible first | exact HB.out | apply below_alloc | apply pw_below_drewN | apply below_drew1) | exact HB.out)⟩⟩
  case rest =>
   clear HC5
   try clear c1
   try clear c2
   try clear c2b0
   try clear c2b1
   try clear p2
   try clear c8
   try clear c14
   try clear c15
   try clear c15b0
   try clear c15b1
   try clear c15b2
   obtain ⟨kq, x45_4, rfl, HA, HJ4, HO_3, HO_4, HO_5, HO_6, HO_8, HB⟩ := hcut
   cases kq with
   | zero => exact absurd HA.out (by simp [laws_FnAdmitTasksFirst.j0])
   | succ kj4 =>
    have H := HA.out
    clear HA
    simp only [laws_FnAdmitTasksFirst.j0] at H
    by_cases c25 : x45_4 = true
    ·subst c25
     have H1 : ((spec_AdmitTasks.f kj4 t775 t776 t777 t778 t779).bind fun t795 => ((laws_equalInts.f kj4 t788 t795).bind fun t798 => (some t798))) = some r := by rw [if_pos rfl] at H; exact H
     clear H
     have H := H1
     clear H1
     replace H := Option.bind_eq_some_iff.mp H
     obtain ⟨t795, A260, H⟩ := H
     replace H : ((laws_equalInts.f kj4 t788 t795).bind fun t798 => (some t798)) = some r := H
     have A26 := Aside0.mk A260
     clear A260
     replace H := Option.bind_eq_some_iff.mp H
     obtain ⟨t798, A270, H⟩ := H
     replace H : (some t798) = some r := H
     have A27 := Aside0.mk A270
     clear A270
     obtain rfl := Option.some.inj H
     go_wp2_with (first | (go_at_call 16; (with_reducible refine (spec_AdmitTasks.calls kj4 _ _ t775 _ _ t776 _ _ t777 _ _ t778 t779 t795 _ ?side1 ?side2 ?side3 ?side4 ?side5 ?side6 ?side7 ?side8 A26.out).mono ?_); (case side1 => exact (Kd.S_reads' HO_3.out).2.2); (case side2 => exact (Kd.S_reads' HO_3.out).2.1); (case side3 => exact (Kd.Q_reads' HO_4.out).2.2); (case side4 => exact (Kd.Q_reads' HO_4.out).2.1); (case side5 => exact (Kd.R_reads' HO_5.out).2.2); (case side6 => exact (Kd.R_reads' HO_5.out).2.1); (case side7 => exact (Kd.Q_reads' HO_6.out).2.2); (case side8 => exact (Kd.Q_reads' HO_6.out).2.1); rintro e w28 ⟨v796, rfl, ho0, hb⟩; have n0_ := Aside0.mk (Kd.S_elder' HO_3.out (Kd.R_base ho0) hb); have n1_ := Aside0.mk (Kd.Q_elder' HO_4.out (Kd.R_base ho0) hb); have n2_ := Aside0.mk (Kd.R_elder' HO_5.out (Kd.R_base ho0) hb); have n3_ := Aside0.mk (Kd.Q_elder' HO_6.out (Kd.R_base ho0) hb); have n4_ := Aside0.mk (Kd.R_elder' HO_8.out (Kd.R_base ho0) hb); have n5_ := Aside0.mk (Kd.R_lower (Kd.R_new' (Kd.R_new' (Kd.R_new' (Kd.R_new' ho0 (Kd.Q_lt HO_4.out)) (Kd.R_lt HO_5.out)) (Kd.Q_lt HO_6.out)) (Kd.R_lt HO_8.out)) (below_size HB.out)); have n6_ := Aside0.mk (below_step HB.out hb); clear HO_3; clear HO_4; clear HO_5; clear HO_6; clear HO_8; clear HB; have HO_3 := n0_; have HO_4 := n1_; have HO_5 := n2_; have HO_6 := n3_; have HO_8 := n4_; have HO797 := n5_; have HB := n6_; clear n0_ n1_ n2_ n3_ n4_ n5_ n6_; (try clear hb); (try clear hb2); (try clear hk); (try clear hi); (try clear ho0); obtain ⟨Ao29, co29, eo29⟩ := Kd.R_slice HO_8.out; subst eo29; obtain ⟨Ao30, co30, eo30⟩ := Kd.R_slice HO797.out; subst eo30) | (go_at_call 32; (with_reducible refine (laws_equalInts.calls kj4 _ _ t788 _ _ t795 t798 _ ?side1 ?side2 ?side3 ?side4 A27.out).mono ?_); (case side1 => exact (Kd.R_reads' HO_8.out).2.2); (case side2 => exact (Kd.R_reads' HO_8.out).2.1); (case side3 => exact (Kd.R_reads' HO797.out).2.2); (case side4 => exact (Kd.R_reads' HO797.out).2.1); rintro e w' ⟨rfl, ⟨nd, rfl⟩⟩; (try first | exact ⟨rfl, _, World.drewN_drewN _ _ _⟩ | exact ⟨rfl, _, Eq.trans (World.drewN_drewN _ _ _) (congrArg (World.drewN _) (Nat.add_assoc _ _ _))⟩)))
     go_ret
     exact ⟨by first | rfl | (simp [errW_none, errW_some] <;> rfl) | (simp [*, errW_none, errW_some] <;> rfl), by repeat (first | (with_reducible first | exact HB.out | apply below_alloc | apply pw_below_drewN | apply below_drew1) | exact HB.out)⟩
    ·replace c25 := Bool.eq_false_iff.mpr c25
     subst c25
     have H1 : ((impl_AdmitTasks.f t775 t776 ([] : List Int) t778 t779).bind fun t799 => (if (t799.length : Int) > 0 then (if 0 < (t799.length : Int) then (if 0 < (t778.length : Int) then (if (rd t799 0) = (rd t778 0) then (some (decide ((t799.length : Int) ≤ t779))) else (some false)) else (none)) else (none)) else (some false))) = some r := by rw [if_neg (show ¬ (false = true) by decide)] at H; exact H
     clear H
     have H := H1
     clear H1
     replace H := Option.bind_eq_some_iff.mp H
     obtain ⟨t799, A310, H⟩ := H
     replace H : (if (t799.length : Int) > 0 then (if 0 < (t799.length : Int) then (if 0 < (t778.length : Int) then (if (rd t799 0) = (rd t778 0) then (some (decide ((t799.length : Int) ≤ t779))) else (some false)) else (none)) else (none)) else (some false)) = some r := H
     have A31 := Aside0.mk A310
     clear A310
     by_cases c32 : (t799.length : Int) > 0
     ·rw [if_pos c32] at H
      have c32b0 : decide (0 < (t799.length : Int)) = true := decide_eq_true c32
      have c32b1 : decide (0 < t799.length) = true := decide_eq_true (by omega)
      clear c32
      by_cases c33 : 0 < (t799.length : Int)
      ·rw [if_pos c33] at H
       have c33b0 : decide (0 < (t799.length : Int)) = true := decide_eq_true c33
       have c33b1 : decide (0 < t799.length) = true := decide_eq_true (by omega)
       clear c33
       by_cases c34 : 0 < (t778.length : Int)
       ·rw [if_pos c34] at H
        have c34b0 : decide (0 < (t778.length : Int)) = true := decide_eq_true c34
        have c34b1 : decide (0 < t778.length) = true := decide_eq_true (by omega)
        clear c34
        by_cases c35 : (rd t799 0) = (rd t778 0)
        ·rw [if_pos c35] at H
         have c35b0 : ((rd t799 0) == (rd t778 0)) = true := beq_iff_eq.mpr c35
         have c35b1 : ((rd t799 0) != (rd t778 0)) = false := bne_eq_false_iff_eq.mpr c35
         clear c35
         obtain rfl := Option.some.inj H
         go_wp2_with (first | (go_at_call 19; (refine (impl_AdmitTasks.calls _ _ t775 _ _ t776 _ _ ([] : List Int) _ _ t778 t779 t799 _ ?side1 ?side2 ?side3 ?side4 ?side5 ?side6 ?side7 ?side8 ?side9 A31.out).mono ?_); (case side1 => exact (Kd.S_reads' HO_3.out).2.2); (case side2 => exact (Kd.S_reads' HO_3.out).2.1); (case side3 => exact (Kd.Q_reads' HO_4.out).2.2); (case side4 => exact (Kd.Q_reads' HO_4.out).2.1); (case side5 => exact Kd.C_nil _ _); (case side6 => exact Nat.le_refl _); (case side7 => exact (Kd.Q_reads' HO_6.out).2.2); (case side8 => exact (Kd.Q_reads' HO_6.out).2.1); (case side9 => exact Tab.of HT.out HB.out); rintro e w36 ⟨v800, rfl, ho0, hb⟩; have n0_ := Aside0.mk (Kd.S_elder' HO_3.out (Kd.R_base ho0) hb); have n1_ := Aside0.mk (Kd.Q_elder' HO_4.out (Kd.R_base ho0) hb); have n2_ := Aside0.mk (Kd.R_elder' HO_5.out (Kd.R_base ho0) hb); have n3_ := Aside0.mk (Kd.Q_elder' HO_6.out (Kd.R_base ho0) hb); have n4_ := Aside0.mk (Kd.R_elder' HO_8.out (Kd.R_base ho0) hb); have n5_ := Aside0.mk (Kd.R_lower (Kd.R_new' (Kd.R_new' (Kd.R_new' (Kd.R_new' ho0 (Kd.Q_lt HO_4.out)) (Kd.R_lt HO_5.out)) (Kd.Q_lt HO_6.out)) (Kd.R_lt HO_8.out)) (below_size HB.out)); have n6_ := Aside0.mk (below_step HB.out hb); clear HO_3; clear HO_4; clear HO_5; clear HO_6; clear HO_8; clear HB; have HO_3 := n0_; have HO_4 := n1_; have HO_5 := n2_; have HO_6 := n3_; have HO_8 := n4_; have HO801 := n5_; have HB := n6_; clear n0_ n1_ n2_ n3_ n4_ n5_ n6_; (try clear hb); (try clear hb2); (try clear hk); (try clear hi); (try clear ho0); obtain ⟨Ao37, co37, eo37⟩ := Kd.R_slice HO801.out; subst eo37; have p802 : 0 ≤ (0 : Int) := (by omega); have q802 : 0 < (t799.length : Int) := of_decide_eq_true (by first | (with_reducible assumption) | assumption); obtain ⟨ad802, e802, hx802_0⟩ := Kd.at_int (Kd.R_reads' HO801.out).2.2 0 p802 q802; cases e802; have qi802 : (0 < t799.length) = True := eq_true (by omega); (try rw [show ((0 : Int)).toNat = 0 from rfl] at hx802_0); (try rw [Addr.add_zero'] at hx802_0); replace p802 := eq_true p802; replace q802 := eq_true q802; have p803 : 0 ≤ (0 : Int) := (by omega); have q803 : 0 < (t778.length : Int) := of_decide_eq_true (by first | (with_reducible assumption) | assumption); obtain ⟨ad803, e803, hx803_0⟩ := Kd.at_int (Kd.Q_reads' HO_6.out).2.2 0 p803 q803; cases e803; have qi803 : (0 < t778.length) = True := eq_true (by omega); (try rw [show ((0 : Int)).toNat = 0 from rfl] at hx803_0); (try rw [Addr.add_zero'] at hx803_0); replace p803 := eq_true p803; replace q803 := eq_true q803))
         repeat (go_quiet (first | (go_at_call 19; (refine (impl_AdmitTasks.calls _ _ t775 _ _ t776 _ _ ([] : List Int) _ _ t778 t779 t799 _ ?side1 ?side2 ?side3 ?side4 ?side5 ?side6 ?side7 ?side8 ?side9 A31.out).mono ?_); (case side1 => repeat (first | exact (Kd.S_reads' HO_3.out).2.2 | (with_reducible refine Kd.C_alloc ?_ _) | (with_reducible refine Kd.C_drewN ?_ _) | (with_reducible refine Kd.C_drew ?_))); (case side2 => exact (Kd.S_reads' HO_3.out).2.1); (case side3 => repeat (first | exact (Kd.Q_reads' HO_4.out).2.2 | (with_reducible refine Kd.C_alloc ?_ _) | (with_reducible refine Kd.C_drewN ?_ _) | (with_reducible refine Kd.C_drew ?_))); (case side4 => exact (Kd.Q_reads' HO_4.out).2.1); (case side5 => exact Kd.C_nil _ _); (case side6 => exact Nat.le_refl _); (case side7 => repeat (first | exact (Kd.Q_reads' HO_6.out).2.2 | (with_reducible refine Kd.C_alloc ?_ _) | (with_reducible refine Kd.C_drewN ?_ _) | (with_reducible refine Kd.C_drew ?_))); (case side8 => exact (Kd.Q_reads' HO_6.out).2.1); (case side9 => exact Tab.of HT.out (by repeat (first | (with_reducible first | exact HB.out | apply below_alloc | apply pw_below_drewN | apply below_drew1) | exact HB.out))); rintro e w36 ⟨v800, rfl, ho0, hb⟩; have n0_ := Aside0.mk (Kd.S_elder' (by (with_reducible repeat (first | apply Kd.S_alloc | apply Kd.S_drewN | apply Kd.S_drew)); exact HO_3.out) (Kd.R_base ho0) hb); have n1_ := Aside0.mk (Kd.Q_elder' (by (with_reducible repeat (first | apply Kd.Q_alloc | apply Kd.Q_drewN | apply Kd.Q_drew)); exact HO_4.out) (Kd.R_base ho0) hb); have n2_ := Aside0.mk (Kd.R_elder' (by (with_reducible repeat (first | apply Kd.R_alloc | apply Kd.R_drewN | apply Kd.R_drew)); exact HO_5.out) (Kd.R_base ho0) hb); have n3_ := Aside0.mk (Kd.Q_elder' (by (with_reducible repeat (first | apply Kd.Q_alloc | apply Kd.Q_drewN | apply Kd.Q_drew)); exact HO_6.out) (Kd.R_base ho0) hb); have n4_ := Aside0.mk (Kd.R_elder' (by (with_reducible repeat (first | apply Kd.R_alloc | apply Kd.R_drewN | apply Kd.R_drew)); exact HO_8.out) (Kd.R_base ho0) hb); have n5_ := Aside0.mk (Kd.R_lower (Kd.R_new' (Kd.R_new' (Kd.R_new' (Kd.R_new' ho0 (Kd.Q_lt (by (with_reducible repeat (first | apply Kd.Q_alloc | apply Kd.Q_drewN | apply Kd.Q_drew)); exact HO_4.out))) (Kd.R_lt (by (with_reducible repeat (first | apply Kd.R_alloc | apply Kd.R_drewN | apply Kd.R_drew)); exact HO_5.out))) (Kd.Q_lt (by (with_reducible repeat (first | apply Kd.Q_alloc | apply Kd.Q_drewN | apply Kd.Q_drew)); exact HO_6.out))) (Kd.R_lt (by (with_reducible repeat (first | apply Kd.R_alloc | apply Kd.R_drewN | apply Kd.R_drew)); exact HO_8.out))) (below_size (by repeat (first | (with_reducible first | exact HB.out | apply below_alloc | apply pw_below_drewN | apply below_drew1) | exact HB.out)))); have n6_ := Aside0.mk (below_step (by repeat (first | (with_reducible first | exact HB.out | apply below_alloc | apply pw_below_drewN | apply below_drew1) | exact HB.out)) hb); clear HO_3; clear HO_4; clear HO_5; clear HO_6; clear HO_8; clear HB; have HO_3 := n0_; have HO_4 := n1_; have HO_5 := n2_; have HO_6 := n3_; have HO_8 := n4_; have HO801 := n5_; have HB := n6_; clear n0_ n1_ n2_ n3_ n4_ n5_ n6_; (try clear hb); (try clear hb2); (try clear hk); (try clear hi); (try clear ho0); obtain ⟨Ao37, co37, eo37⟩ := Kd.R_slice HO801.out; subst eo37; have p802 : 0 ≤ (0 : Int) := (by omega); have q802 : 0 < (t799.length : Int) := of_decide_eq_true (by first | (with_reducible assumption) | assumption); obtain ⟨ad802, e802, hx802_0⟩ := Kd.at_int (Kd.R_reads' HO801.out).2.2 0 p802 q802; cases e802; have qi802 : (0 < t799.length) = True := eq_true (by omega); (try rw [show ((0 : Int)).toNat = 0 from rfl] at hx802_0); (try rw [Addr.add_zero'] at hx802_0); replace p802 := eq_true p802; replace q802 := eq_true q802; have p803 : 0 ≤ (0 : Int) := (by omega); have q803 : 0 < (t778.length : Int) := of_decide_eq_true (by first | (with_reducible assumption) | assumption); obtain ⟨ad803, e803, hx803_0⟩ := Kd.at_int (Kd.Q_reads' HO_6.out).2.2 0 p803 q803; cases e803; have qi803 : (0 < t778.length) = True := eq_true (by omega); (try rw [show ((0 : Int)).toNat = 0 from rfl] at hx803_0); (try rw [Addr.add_zero'] at hx803_0); replace p803 := eq_true p803; replace q803 := eq_true q803)); try go_wp2_with (first | (go_at_call 19; (refine (impl_AdmitTasks.calls _ _ t775 _ _ t776 _ _ ([] : List Int) _ _ t778 t779 t799 _ ?side1 ?side2 ?side3 ?side4 ?side5 ?side6 ?side7 ?side8 ?side9 A31.out).mono ?_); (case side1 => repeat (first | exact (Kd.S_reads' HO_3.out).2.2 | (with_reducible refine Kd.C_alloc ?_ _) | (with_reducible refine Kd.C_drewN ?_ _) | (with_reducible refine Kd.C_drew ?_))); (case side2 => exact (Kd.S_reads' HO_3.out).2.1); (case side3 => repeat (first | exact (Kd.Q_reads' HO_4.out).2.2 | (with_reducible refine Kd.C_alloc ?_ _) | (with_reducible refine Kd.C_drewN ?_ _) | (with_reducible refine Kd.C_drew ?_))); (case side4 => exact (Kd.Q_reads' HO_4.out).2.1); (case side5 => exact Kd.C_nil _ _); (case side6 => exact Nat.le_refl _); (case side7 => repeat (first | exact (Kd.Q_reads' HO_6.out).2.2 | (with_reducible refine Kd.C_alloc ?_ _) | (with_reducible refine Kd.C_drewN ?_ _) | (with_reducible refine Kd.C_drew ?_))); (case side8 => exact (Kd.Q_reads' HO_6.out).2.1); (case side9 => exact Tab.of HT.out (by repeat (first | (with_reducible first | exact HB.out | apply below_alloc | apply pw_below_drewN | apply below_drew1) | exact HB.out))); rintro e w36 ⟨v800, rfl, ho0, hb⟩; have n0_ := Aside0.mk (Kd.S_elder' (by (with_reducible repeat (first | apply Kd.S_alloc | apply Kd.S_drewN | apply Kd.S_drew)); exact HO_3.out) (Kd.R_base ho0) hb); have n1_ := Aside0.mk (Kd.Q_elder' (by (with_reducible repeat (first | apply Kd.Q_alloc | apply Kd.Q_drewN | apply Kd.Q_drew)); exact HO_4.out) (Kd.R_base ho0) hb); have n2_ := Aside0.mk (Kd.R_elder' (by (with_reducible repeat (first | apply Kd.R_alloc | apply Kd.R_drewN | apply Kd.R_drew)); exact HO_5.out) (Kd.R_base ho0) hb); have n3_ := Aside0.mk (Kd.Q_elder' (by (with_reducible repeat (first | apply Kd.Q_alloc | apply Kd.Q_drewN | apply Kd.Q_drew)); exact HO_6.out) (Kd.R_base ho0) hb); have n4_ := Aside0.mk (Kd.R_elder' (by (with_reducible repeat (first | apply Kd.R_alloc | apply Kd.R_drewN | apply Kd.R_drew)); exact HO_8.out) (Kd.R_base ho0) hb); have n5_ := Aside0.mk (Kd.R_lower (Kd.R_new' (Kd.R_new' (Kd.R_new' (Kd.R_new' ho0 (Kd.Q_lt (by (with_reducible repeat (first | apply Kd.Q_alloc | apply Kd.Q_drewN | apply Kd.Q_drew)); exact HO_4.out))) (Kd.R_lt (by (with_reducible repeat (first | apply Kd.R_alloc | apply Kd.R_drewN | apply Kd.R_drew)); exact HO_5.out))) (Kd.Q_lt (by (with_reducible repeat (first | apply Kd.Q_alloc | apply Kd.Q_drewN | apply Kd.Q_drew)); exact HO_6.out))) (Kd.R_lt (by (with_reducible repeat (first | apply Kd.R_alloc | apply Kd.R_drewN | apply Kd.R_drew)); exact HO_8.out))) (below_size (by repeat (first | (with_reducible first | exact HB.out | apply below_alloc | apply pw_below_drewN | apply below_drew1) | exact HB.out)))); have n6_ := Aside0.mk (below_step (by repeat (first | (with_reducible first | exact HB.out | apply below_alloc | apply pw_below_drewN | apply below_drew1) | exact HB.out)) hb); clear HO_3; clear HO_4; clear HO_5; clear HO_6; clear HO_8; clear HB; have HO_3 := n0_; have HO_4 := n1_; have HO_5 := n2_; have HO_6 := n3_; have HO_8 := n4_; have HO801 := n5_; have HB := n6_; clear n0_ n1_ n2_ n3_ n4_ n5_ n6_; (try clear hb); (try clear hb2); (try clear hk); (try clear hi); (try clear ho0); obtain ⟨Ao37, co37, eo37⟩ := Kd.R_slice HO801.out; subst eo37; have p802 : 0 ≤ (0 : Int) := (by omega); have q802 : 0 < (t799.length : Int) := of_decide_eq_true (by first | (with_reducible assumption) | assumption); obtain ⟨ad802, e802, hx802_0⟩ := Kd.at_int (Kd.R_reads' HO801.out).2.2 0 p802 q802; cases e802; have qi802 : (0 < t799.length) = True := eq_true (by omega); (try rw [show ((0 : Int)).toNat = 0 from rfl] at hx802_0); (try rw [Addr.add_zero'] at hx802_0); replace p802 := eq_true p802; replace q802 := eq_true q802; have p803 : 0 ≤ (0 : Int) := (by omega); have q803 : 0 < (t778.length : Int) := of_decide_eq_true (by first | (with_reducible assumption) | assumption); obtain ⟨ad803, e803, hx803_0⟩ := Kd.at_int (Kd.Q_reads' HO_6.out).2.2 0 p803 q803; cases e803; have qi803 : (0 < t778.length) = True := eq_true (by omega); (try rw [show ((0 : Int)).toNat = 0 from rfl] at hx803_0); (try rw [Addr.add_zero'] at hx803_0); replace p803 := eq_true p803; replace q803 := eq_true q803)))
         go_ret
         exact ⟨by first | rfl | (simp [errW_none, errW_some] <;> rfl) | (simp [*, errW_none, errW_some] <;> rfl), by repeat (first | (with_reducible first | exact HB.out | apply below_alloc | apply pw_below_drewN | apply below_drew1) | exact HB.out)⟩
        ·rw [if_neg c35] at H
         have c35b0 : ((rd t799 0) == (rd t778 0)) = false := beq_eq_false_iff_ne.mpr c35
         have c35b1 : ((rd t799 0) != (rd t778 0)) = true := bne_iff_ne.mpr c35
         obtain rfl := Option.some.inj H
         go_wp2_with (first | (go_at_call 19; (refine (impl_AdmitTasks.calls _ _ t775 _ _ t776 _ _ ([] : List Int) _ _ t778 t779 t799 _ ?side1 ?side2 ?side3 ?side4 ?side5 ?side6 ?side7 ?side8 ?side9 A31.out).mono ?_); (case side1 => exact (Kd.S_reads' HO_3.out).2.2); (case side2 => exact (Kd.S_reads' HO_3.out).2.1); (case side3 => exact (Kd.Q_reads' HO_4.out).2.2); (case side4 => exact (Kd.Q_reads' HO_4.out).2.1); (case side5 => exact Kd.C_nil _ _); (case side6 => exact Nat.le_refl _); (case side7 => exact (Kd.Q_reads' HO_6.out).2.2); (case side8 => exact (Kd.Q_reads' HO_6.out).2.1); (case side9 => exact Tab.of HT.out HB.out); rintro e w38 ⟨v800, rfl, ho0, hb⟩; have n0_ := Aside0.mk (Kd.S_elder' HO_3.out (Kd.R_base ho0) hb); have n1_ := Aside0.mk (Kd.Q_elder' HO_4.out (Kd.R_base ho0) hb); have n2_ := Aside0.mk (Kd.R_elder' HO_5.out (Kd.R_base ho0) hb); have n3_ := Aside0.mk (Kd.Q_elder' HO_6.out (Kd.R_base ho0) hb); have n4_ := Aside0.mk (Kd.R_elder' HO_8.out (Kd.R_base ho0) hb); have n5_ := Aside0.mk (Kd.R_lower (Kd.R_new' (Kd.R_new' (Kd.R_new' (Kd.R_new' ho0 (Kd.Q_lt HO_4.out)) (Kd.R_lt HO_5.out)) (Kd.Q_lt HO_6.out)) (Kd.R_lt HO_8.out)) (below_size HB.out)); have n6_ := Aside0.mk (below_step HB.out hb); clear HO_3; clear HO_4; clear HO_5; clear HO_6; clear HO_8; clear HB; have HO_3 := n0_; have HO_4 := n1_; have HO_5 := n2_; have HO_6 := n3_; have HO_8 := n4_; have HO801 := n5_; have HB := n6_; clear n0_ n1_ n2_ n3_ n4_ n5_ n6_; (try clear hb); (try clear hb2); (try clear hk); (try clear hi); (try clear ho0); obtain ⟨Ao39, co39, eo39⟩ := Kd.R_slice HO801.out; subst eo39; have p802 : 0 ≤ (0 : Int) := (by omega); have q802 : 0 < (t799.length : Int) := of_decide_eq_true (by first | (with_reducible assumption) | assumption); obtain ⟨ad802, e802, hx802_0⟩ := Kd.at_int (Kd.R_reads' HO801.out).2.2 0 p802 q802; cases e802; have qi802 : (0 < t799.length) = True := eq_true (by omega); (try rw [show ((0 : Int)).toNat = 0 from rfl] at hx802_0); (try rw [Addr.add_zero'] at hx802_0); replace p802 := eq_true p802; replace q802 := eq_true q802; have p803 : 0 ≤ (0 : Int) := (by omega); have q803 : 0 < (t778.length : Int) := of_decide_eq_true (by first | (with_reducible assumption) | assumption); obtain ⟨ad803, e803, hx803_0⟩ := Kd.at_int (Kd.Q_reads' HO_6.out).2.2 0 p803 q803; cases e803; have qi803 : (0 < t778.length) = True := eq_true (by omega); (try rw [show ((0 : Int)).toNat = 0 from rfl] at hx803_0); (try rw [Addr.add_zero'] at hx803_0); replace p803 := eq_true p803; replace q803 := eq_true q803))
         repeat (go_quiet (first | (go_at_call 19; (refine (impl_AdmitTasks.calls _ _ t775 _ _ t776 _ _ ([] : List Int) _ _ t778 t779 t799 _ ?side1 ?side2 ?side3 ?side4 ?side5 ?side6 ?side7 ?side8 ?side9 A31.out).mono ?_); (case side1 => repeat (first | exact (Kd.S_reads' HO_3.out).2.2 | (with_reducible refine Kd.C_alloc ?_ _) | (with_reducible refine Kd.C_drewN ?_ _) | (with_reducible refine Kd.C_drew ?_))); (case side2 => exact (Kd.S_reads' HO_3.out).2.1); (case side3 => repeat (first | exact (Kd.Q_reads' HO_4.out).2.2 | (with_reducible refine Kd.C_alloc ?_ _) | (with_reducible refine Kd.C_drewN ?_ _) | (with_reducible refine Kd.C_drew ?_))); (case side4 => exact (Kd.Q_reads' HO_4.out).2.1); (case side5 => exact Kd.C_nil _ _); (case side6 => exact Nat.le_refl _); (case side7 => repeat (first | exact (Kd.Q_reads' HO_6.out).2.2 | (with_reducible refine Kd.C_alloc ?_ _) | (with_reducible refine Kd.C_drewN ?_ _) | (with_reducible refine Kd.C_drew ?_))); (case side8 => exact (Kd.Q_reads' HO_6.out).2.1); (case side9 => exact Tab.of HT.out (by repeat (first | (with_reducible first | exact HB.out | apply below_alloc | apply pw_below_drewN | apply below_drew1) | exact HB.out))); rintro e w38 ⟨v800, rfl, ho0, hb⟩; have n0_ := Aside0.mk (Kd.S_elder' (by (with_reducible repeat (first | apply Kd.S_alloc | apply Kd.S_drewN | apply Kd.S_drew)); exact HO_3.out) (Kd.R_base ho0) hb); have n1_ := Aside0.mk (Kd.Q_elder' (by (with_reducible repeat (first | apply Kd.Q_alloc | apply Kd.Q_drewN | apply Kd.Q_drew)); exact HO_4.out) (Kd.R_base ho0) hb); have n2_ := Aside0.mk (Kd.R_elder' (by (with_reducible repeat (first | apply Kd.R_alloc | apply Kd.R_drewN | apply Kd.R_drew)); exact HO_5.out) (Kd.R_base ho0) hb); have n3_ := Aside0.mk (Kd.Q_elder' (by (with_reducible repeat (first | apply Kd.Q_alloc | apply Kd.Q_drewN | apply Kd.Q_drew)); exact HO_6.out) (Kd.R_base ho0) hb); have n4_ := Aside0.mk (Kd.R_elder' (by (with_reducible repeat (first | apply Kd.R_alloc | apply Kd.R_drewN | apply Kd.R_drew)); exact HO_8.out) (Kd.R_base ho0) hb); have n5_ := Aside0.mk (Kd.R_lower (Kd.R_new' (Kd.R_new' (Kd.R_new' (Kd.R_new' ho0 (Kd.Q_lt (by (with_reducible repeat (first | apply Kd.Q_alloc | apply Kd.Q_drewN | apply Kd.Q_drew)); exact HO_4.out))) (Kd.R_lt (by (with_reducible repeat (first | apply Kd.R_alloc | apply Kd.R_drewN | apply Kd.R_drew)); exact HO_5.out))) (Kd.Q_lt (by (with_reducible repeat (first | apply Kd.Q_alloc | apply Kd.Q_drewN | apply Kd.Q_drew)); exact HO_6.out))) (Kd.R_lt (by (with_reducible repeat (first | apply Kd.R_alloc | apply Kd.R_drewN | apply Kd.R_drew)); exact HO_8.out))) (below_size (by repeat (first | (with_reducible first | exact HB.out | apply below_alloc | apply pw_below_drewN | apply below_drew1) | exact HB.out)))); have n6_ := Aside0.mk (below_step (by repeat (first | (with_reducible first | exact HB.out | apply below_alloc | apply pw_below_drewN | apply below_drew1) | exact HB.out)) hb); clear HO_3; clear HO_4; clear HO_5; clear HO_6; clear HO_8; clear HB; have HO_3 := n0_; have HO_4 := n1_; have HO_5 := n2_; have HO_6 := n3_; have HO_8 := n4_; have HO801 := n5_; have HB := n6_; clear n0_ n1_ n2_ n3_ n4_ n5_ n6_; (try clear hb); (try clear hb2); (try clear hk); (try clear hi); (try clear ho0); obtain ⟨Ao39, co39, eo39⟩ := Kd.R_slice HO801.out; subst eo39; have p802 : 0 ≤ (0 : Int) := (by omega); have q802 : 0 < (t799.length : Int) := of_decide_eq_true (by first | (with_reducible assumption) | assumption); obtain ⟨ad802, e802, hx802_0⟩ := Kd.at_int (Kd.R_reads' HO801.out).2.2 0 p802 q802; cases e802; have qi802 : (0 < t799.length) = True := eq_true (by omega); (try rw [show ((0 : Int)).toNat = 0 from rfl] at hx802_0); (try rw [Addr.add_zero'] at hx802_0); replace p802 := eq_true p802; replace q802 := eq_true q802; have p803 : 0 ≤ (0 : Int) := (by omega); have q803 : 0 < (t778.length : Int) := of_decide_eq_true (by first | (with_reducible assumption) | assumption); obtain ⟨ad803, e803, hx803_0⟩ := Kd.at_int (Kd.Q_reads' HO_6.out).2.2 0 p803 q803; cases e803; have qi803 : (0 < t778.length) = True := eq_true (by omega); (try rw [show ((0 : Int)).toNat = 0 from rfl] at hx803_0); (try rw [Addr.add_zero'] at hx803_0); replace p803 := eq_true p803; replace q803 := eq_true q803)); try go_wp2_with (first | (go_at_call 19; (refine (impl_AdmitTasks.calls _ _ t775 _ _ t776 _ _ ([] : List Int) _ _ t778 t779 t799 _ ?side1 ?side2 ?side3 ?side4 ?side5 ?side6 ?side7 ?side8 ?side9 A31.out).mono ?_); (case side1 => repeat (first | exact (Kd.S_reads' HO_3.out).2.2 | (with_reducible refine Kd.C_alloc ?_ _) | (with_reducible refine Kd.C_drewN ?_ _) | (with_reducible refine Kd.C_drew ?_))); (case side2 => exact (Kd.S_reads' HO_3.out).2.1); (case side3 => repeat (first | exact (Kd.Q_reads' HO_4.out).2.2 | (with_reducible refine Kd.C_alloc ?_ _) | (with_reducible refine Kd.C_drewN ?_ _) | (with_reducible refine Kd.C_drew ?_))); (case side4 => exact (Kd.Q_reads' HO_4.out).2.1); (case side5 => exact Kd.C_nil _ _); (case side6 => exact Nat.le_refl _); (case side7 => repeat (first | exact (Kd.Q_reads' HO_6.out).2.2 | (with_reducible refine Kd.C_alloc ?_ _) | (with_reducible refine Kd.C_drewN ?_ _) | (with_reducible refine Kd.C_drew ?_))); (case side8 => exact (Kd.Q_reads' HO_6.out).2.1); (case side9 => exact Tab.of HT.out (by repeat (first | (with_reducible first | exact HB.out | apply below_alloc | apply pw_below_drewN | apply below_drew1) | exact HB.out))); rintro e w38 ⟨v800, rfl, ho0, hb⟩; have n0_ := Aside0.mk (Kd.S_elder' (by (with_reducible repeat (first | apply Kd.S_alloc | apply Kd.S_drewN | apply Kd.S_drew)); exact HO_3.out) (Kd.R_base ho0) hb); have n1_ := Aside0.mk (Kd.Q_elder' (by (with_reducible repeat (first | apply Kd.Q_alloc | apply Kd.Q_drewN | apply Kd.Q_drew)); exact HO_4.out) (Kd.R_base ho0) hb); have n2_ := Aside0.mk (Kd.R_elder' (by (with_reducible repeat (first | apply Kd.R_alloc | apply Kd.R_drewN | apply Kd.R_drew)); exact HO_5.out) (Kd.R_base ho0) hb); have n3_ := Aside0.mk (Kd.Q_elder' (by (with_reducible repeat (first | apply Kd.Q_alloc | apply Kd.Q_drewN | apply Kd.Q_drew)); exact HO_6.out) (Kd.R_base ho0) hb); have n4_ := Aside0.mk (Kd.R_elder' (by (with_reducible repeat (first | apply Kd.R_alloc | apply Kd.R_drewN | apply Kd.R_drew)); exact HO_8.out) (Kd.R_base ho0) hb); have n5_ := Aside0.mk (Kd.R_lower (Kd.R_new' (Kd.R_new' (Kd.R_new' (Kd.R_new' ho0 (Kd.Q_lt (by (with_reducible repeat (first | apply Kd.Q_alloc | apply Kd.Q_drewN | apply Kd.Q_drew)); exact HO_4.out))) (Kd.R_lt (by (with_reducible repeat (first | apply Kd.R_alloc | apply Kd.R_drewN | apply Kd.R_drew)); exact HO_5.out))) (Kd.Q_lt (by (with_reducible repeat (first | apply Kd.Q_alloc | apply Kd.Q_drewN | apply Kd.Q_drew)); exact HO_6.out))) (Kd.R_lt (by (with_reducible repeat (first | apply Kd.R_alloc | apply Kd.R_drewN | apply Kd.R_drew)); exact HO_8.out))) (below_size (by repeat (first | (with_reducible first | exact HB.out | apply below_alloc | apply pw_below_drewN | apply below_drew1) | exact HB.out)))); have n6_ := Aside0.mk (below_step (by repeat (first | (with_reducible first | exact HB.out | apply below_alloc | apply pw_below_drewN | apply below_drew1) | exact HB.out)) hb); clear HO_3; clear HO_4; clear HO_5; clear HO_6; clear HO_8; clear HB; have HO_3 := n0_; have HO_4 := n1_; have HO_5 := n2_; have HO_6 := n3_; have HO_8 := n4_; have HO801 := n5_; have HB := n6_; clear n0_ n1_ n2_ n3_ n4_ n5_ n6_; (try clear hb); (try clear hb2); (try clear hk); (try clear hi); (try clear ho0); obtain ⟨Ao39, co39, eo39⟩ := Kd.R_slice HO801.out; subst eo39; have p802 : 0 ≤ (0 : Int) := (by omega); have q802 : 0 < (t799.length : Int) := of_decide_eq_true (by first | (with_reducible assumption) | assumption); obtain ⟨ad802, e802, hx802_0⟩ := Kd.at_int (Kd.R_reads' HO801.out).2.2 0 p802 q802; cases e802; have qi802 : (0 < t799.length) = True := eq_true (by omega); (try rw [show ((0 : Int)).toNat = 0 from rfl] at hx802_0); (try rw [Addr.add_zero'] at hx802_0); replace p802 := eq_true p802; replace q802 := eq_true q802; have p803 : 0 ≤ (0 : Int) := (by omega); have q803 : 0 < (t778.length : Int) := of_decide_eq_true (by first | (with_reducible assumption) | assumption); obtain ⟨ad803, e803, hx803_0⟩ := Kd.at_int (Kd.Q_reads' HO_6.out).2.2 0 p803 q803; cases e803; have qi803 : (0 < t778.length) = True := eq_true (by omega); (try rw [show ((0 : Int)).toNat = 0 from rfl] at hx803_0); (try rw [Addr.add_zero'] at hx803_0); replace p803 := eq_true p803; replace q803 := eq_true q803)))
         go_ret
         exact ⟨by first | rfl | (simp [errW_none, errW_some] <;> rfl) | (simp [*, errW_none, errW_some] <;> rfl), by repeat (first | (with_reducible first | exact HB.out | apply below_alloc | apply pw_below_drewN | apply below_drew1) | exact HB.out)⟩
       ·rw [if_neg c34] at H
        exact absurd H (by simp)
      ·rw [if_neg c33] at H
       exact absurd H (by simp)
     ·rw [if_neg c32] at H
      have c32b0 : decide (0 < (t799.length : Int)) = false := decide_eq_false c32
      have c32b1 : decide (0 < t799.length) = false := decide_eq_false (by omega)
      clear c32
      obtain rfl := Option.some.inj H
      go_wp2_with (first | (go_at_call 19; (refine (impl_AdmitTasks.calls _ _ t775 _ _ t776 _ _ ([] : List Int) _ _ t778 t779 t799 _ ?side1 ?side2 ?side3 ?side4 ?side5 ?side6 ?side7 ?side8 ?side9 A31.out).mono ?_); (case side1 => exact (Kd.S_reads' HO_3.out).2.2); (case side2 => exact (Kd.S_reads' HO_3.out).2.1); (case side3 => exact (Kd.Q_reads' HO_4.out).2.2); (case side4 => exact (Kd.Q_reads' HO_4.out).2.1); (case side5 => exact Kd.C_nil _ _); (case side6 => exact Nat.le_refl _); (case side7 => exact (Kd.Q_reads' HO_6.out).2.2); (case side8 => exact (Kd.Q_reads' HO_6.out).2.1); (case side9 => exact Tab.of HT.out HB.out); rintro e w40 ⟨v800, rfl, ho0, hb⟩; have n0_ := Aside0.mk (Kd.S_elder' HO_3.out (Kd.R_base ho0) hb); have n1_ := Aside0.mk (Kd.Q_elder' HO_4.out (Kd.R_base ho0) hb); have n2_ := Aside0.mk (Kd.R_elder' HO_5.out (Kd.R_base ho0) hb); have n3_ := Aside0.mk (Kd.Q_elder' HO_6.out (Kd.R_base ho0) hb); have n4_ := Aside0.mk (Kd.R_elder' HO_8.out (Kd.R_base ho0) hb); have n5_ := Aside0.mk (Kd.R_lower (Kd.R_new' (Kd.R_new' (Kd.R_new' (Kd.R_new' ho0 (Kd.Q_lt HO_4.out)) (Kd.R_lt HO_5.out)) (Kd.Q_lt HO_6.out)) (Kd.R_lt HO_8.out)) (below_size HB.out)); have n6_ := Aside0.mk (below_step HB.out hb); clear HO_3; clear HO_4; clear HO_5; clear HO_6; clear HO_8; clear HB; have HO_3 := n0_; have HO_4 := n1_; have HO_5 := n2_; have HO_6 := n3_; have HO_8 := n4_; have HO801 := n5_; have HB := n6_; clear n0_ n1_ n2_ n3_ n4_ n5_ n6_; (try clear hb); (try clear hb2); (try clear hk); (try clear hi); (try clear ho0); obtain ⟨Ao41, co41, eo41⟩ := Kd.R_slice HO801.out; subst eo41))
      repeat (go_quiet (first | (go_at_call 19; (refine (impl_AdmitTasks.calls _ _ t775 _ _ t776 _ _ ([] : List Int) _ _ t778 t779 t799 _ ?side1 ?side2 ?side3 ?side4 ?side5 ?side6 ?side7 ?side8 ?side9 A31.out).mono ?_); (case side1 => repeat (first | exact (Kd.S_reads' HO_3.out).2.2 | (with_reducible refine Kd.C_alloc ?_ _) | (with_reducible refine Kd.C_drewN ?_ _) | (with_reducible refine Kd.C_drew ?_))); (case side2 => exact (Kd.S_reads' HO_3.out).2.1); (case side3 => repeat (first | exact (Kd.Q_reads' HO_4.out).2.2 | (with_reducible refine Kd.C_alloc ?_ _) | (with_reducible refine Kd.C_drewN ?_ _) | (with_reducible refine Kd.C_drew ?_))); (case side4 => exact (Kd.Q_reads' HO_4.out).2.1); (case side5 => exact Kd.C_nil _ _); (case side6 => exact Nat.le_refl _); (case side7 => repeat (first | exact (Kd.Q_reads' HO_6.out).2.2 | (with_reducible refine Kd.C_alloc ?_ _) | (with_reducible refine Kd.C_drewN ?_ _) | (with_reducible refine Kd.C_drew ?_))); (case side8 => exact (Kd.Q_reads' HO_6.out).2.1); (case side9 => exact Tab.of HT.out (by repeat (first | (with_reducible first | exact HB.out | apply below_alloc | apply pw_below_drewN | apply below_drew1) | exact HB.out))); rintro e w40 ⟨v800, rfl, ho0, hb⟩; have n0_ := Aside0.mk (Kd.S_elder' (by (with_reducible repeat (first | apply Kd.S_alloc | apply Kd.S_drewN | apply Kd.S_drew)); exact HO_3.out) (Kd.R_base ho0) hb); have n1_ := Aside0.mk (Kd.Q_elder' (by (with_reducible repeat (first | apply Kd.Q_alloc | apply Kd.Q_drewN | apply Kd.Q_drew)); exact HO_4.out) (Kd.R_base ho0) hb); have n2_ := Aside0.mk (Kd.R_elder' (by (with_reducible repeat (first | apply Kd.R_alloc | apply Kd.R_drewN | apply Kd.R_drew)); exact HO_5.out) (Kd.R_base ho0) hb); have n3_ := Aside0.mk (Kd.Q_elder' (by (with_reducible repeat (first | apply Kd.Q_alloc | apply Kd.Q_drewN | apply Kd.Q_drew)); exact HO_6.out) (Kd.R_base ho0) hb); have n4_ := Aside0.mk (Kd.R_elder' (by (with_reducible repeat (first | apply Kd.R_alloc | apply Kd.R_drewN | apply Kd.R_drew)); exact HO_8.out) (Kd.R_base ho0) hb); have n5_ := Aside0.mk (Kd.R_lower (Kd.R_new' (Kd.R_new' (Kd.R_new' (Kd.R_new' ho0 (Kd.Q_lt (by (with_reducible repeat (first | apply Kd.Q_alloc | apply Kd.Q_drewN | apply Kd.Q_drew)); exact HO_4.out))) (Kd.R_lt (by (with_reducible repeat (first | apply Kd.R_alloc | apply Kd.R_drewN | apply Kd.R_drew)); exact HO_5.out))) (Kd.Q_lt (by (with_reducible repeat (first | apply Kd.Q_alloc | apply Kd.Q_drewN | apply Kd.Q_drew)); exact HO_6.out))) (Kd.R_lt (by (with_reducible repeat (first | apply Kd.R_alloc | apply Kd.R_drewN | apply Kd.R_drew)); exact HO_8.out))) (below_size (by repeat (first | (with_reducible first | exact HB.out | apply below_alloc | apply pw_below_drewN | apply below_drew1) | exact HB.out)))); have n6_ := Aside0.mk (below_step (by repeat (first | (with_reducible first | exact HB.out | apply below_alloc | apply pw_below_drewN | apply below_drew1) | exact HB.out)) hb); clear HO_3; clear HO_4; clear HO_5; clear HO_6; clear HO_8; clear HB; have HO_3 := n0_; have HO_4 := n1_; have HO_5 := n2_; have HO_6 := n3_; have HO_8 := n4_; have HO801 := n5_; have HB := n6_; clear n0_ n1_ n2_ n3_ n4_ n5_ n6_; (try clear hb); (try clear hb2); (try clear hk); (try clear hi); (try clear ho0); obtain ⟨Ao41, co41, eo41⟩ := Kd.R_slice HO801.out; subst eo41)); try go_wp2_with (first | (go_at_call 19; (refine (impl_AdmitTasks.calls _ _ t775 _ _ t776 _ _ ([] : List Int) _ _ t778 t779 t799 _ ?side1 ?side2 ?side3 ?side4 ?side5 ?side6 ?side7 ?side8 ?side9 A31.out).mono ?_); (case side1 => repeat (first | exact (Kd.S_reads' HO_3.out).2.2 | (with_reducible refine Kd.C_alloc ?_ _) | (with_reducible refine Kd.C_drewN ?_ _) | (with_reducible refine Kd.C_drew ?_))); (case side2 => exact (Kd.S_reads' HO_3.out).2.1); (case side3 => repeat (first | exact (Kd.Q_reads' HO_4.out).2.2 | (with_reducible refine Kd.C_alloc ?_ _) | (with_reducible refine Kd.C_drewN ?_ _) | (with_reducible refine Kd.C_drew ?_))); (case side4 => exact (Kd.Q_reads' HO_4.out).2.1); (case side5 => exact Kd.C_nil _ _); (case side6 => exact Nat.le_refl _); (case side7 => repeat (first | exact (Kd.Q_reads' HO_6.out).2.2 | (with_reducible refine Kd.C_alloc ?_ _) | (with_reducible refine Kd.C_drewN ?_ _) | (with_reducible refine Kd.C_drew ?_))); (case side8 => exact (Kd.Q_reads' HO_6.out).2.1); (case side9 => exact Tab.of HT.out (by repeat (first | (with_reducible first | exact HB.out | apply below_alloc | apply pw_below_drewN | apply below_drew1) | exact HB.out))); rintro e w40 ⟨v800, rfl, ho0, hb⟩; have n0_ := Aside0.mk (Kd.S_elder' (by (with_reducible repeat (first | apply Kd.S_alloc | apply Kd.S_drewN | apply Kd.S_drew)); exact HO_3.out) (Kd.R_base ho0) hb); have n1_ := Aside0.mk (Kd.Q_elder' (by (with_reducible repeat (first | apply Kd.Q_alloc | apply Kd.Q_drewN | apply Kd.Q_drew)); exact HO_4.out) (Kd.R_base ho0) hb); have n2_ := Aside0.mk (Kd.R_elder' (by (with_reducible repeat (first | apply Kd.R_alloc | apply Kd.R_drewN | apply Kd.R_drew)); exact HO_5.out) (Kd.R_base ho0) hb); have n3_ := Aside0.mk (Kd.Q_elder' (by (with_reducible repeat (first | apply Kd.Q_alloc | apply Kd.Q_drewN | apply Kd.Q_drew)); exact HO_6.out) (Kd.R_base ho0) hb); have n4_ := Aside0.mk (Kd.R_elder' (by (with_reducible repeat (first | apply Kd.R_alloc | apply Kd.R_drewN | apply Kd.R_drew)); exact HO_8.out) (Kd.R_base ho0) hb); have n5_ := Aside0.mk (Kd.R_lower (Kd.R_new' (Kd.R_new' (Kd.R_new' (Kd.R_new' ho0 (Kd.Q_lt (by (with_reducible repeat (first | apply Kd.Q_alloc | apply Kd.Q_drewN | apply Kd.Q_drew)); exact HO_4.out))) (Kd.R_lt (by (with_reducible repeat (first | apply Kd.R_alloc | apply Kd.R_drewN | apply Kd.R_drew)); exact HO_5.out))) (Kd.Q_lt (by (with_reducible repeat (first | apply Kd.Q_alloc | apply Kd.Q_drewN | apply Kd.Q_drew)); exact HO_6.out))) (Kd.R_lt (by (with_reducible repeat (first | apply Kd.R_alloc | apply Kd.R_drewN | apply Kd.R_drew)); exact HO_8.out))) (below_size (by repeat (first | (with_reducible first | exact HB.out | apply below_alloc | apply pw_below_drewN | apply below_drew1) | exact HB.out)))); have n6_ := Aside0.mk (below_step (by repeat (first | (with_reducible first | exact HB.out | apply below_alloc | apply pw_below_drewN | apply below_drew1) | exact HB.out)) hb); clear HO_3; clear HO_4; clear HO_5; clear HO_6; clear HO_8; clear HB; have HO_3 := n0_; have HO_4 := n1_; have HO_5 := n2_; have HO_6 := n3_; have HO_8 := n4_; have HO801 := n5_; have HB := n6_; clear n0_ n1_ n2_ n3_ n4_ n5_ n6_; (try clear hb); (try clear hb2); (try clear hk); (try clear hi); (try clear ho0); obtain ⟨Ao41, co41, eo41⟩ := Kd.R_slice HO801.out; subst eo41)))
      go_ret
      exact ⟨by first | rfl | (simp [errW_none, errW_some] <;> rfl) | (simp [*, errW_none, errW_some] <;> rfl), by repeat (first | (with_reducible first | exact HB.out | apply below_alloc | apply pw_below_drewN | apply below_drew1) | exact HB.out)⟩
end Go.Proofs.YtpibdjkajgfgjaaDoor.P
end
section
set_option linter.unusedVariables false
set_option linter.unusedSimpArgs false
namespace Go.Proofs.YtpibdjkajgfgjaaDoor.Core
open Go Go.RowKit Go.Proofs.YtpibdjkajgfgjaaDoorW.PrintWords Go.Proofs.YtpibdjkajgfgjaaDoorW.PrintMore Go.Proofs.YtpibdjkajgfgjaaDoor.P
theorem admGo_ext {g : List Tk} {room : List Int} {wk : Int} : ∀ (r : List Int) (c : Cn) (out : List Int), ∃ D, admGo g room wk r c out = out ++ D
 | [], c, out => ⟨[], by simp [admGo]⟩
 | x :: r, c, out => by
  unfold admGo
  cases takesI g c x room wk with
  | true =>
   obtain ⟨D, e⟩ := admGo_ext (g := g) (room := room) (wk := wk) r (afterI g c x true) (out ++ [x])
   exact ⟨x :: D, by show admGo g room wk r (afterI g c x true) (out ++ [x]) = _; rw [e, List.append_assoc]; rfl⟩
  | false => exact admGo_ext r _ out
end Go.Proofs.YtpibdjkajgfgjaaDoor.Core
end
section
set_option linter.unusedVariables false
set_option linter.unusedSimpArgs false
namespace Go.Proofs.YtpibdjkajgfgjaaDoor.Core
open Go Go.RowKit Go.Proofs.YtpibdjkajgfgjaaDoorW.PrintWords Go.Proofs.YtpibdjkajgfgjaaDoorW.PrintMore Go.Proofs.YtpibdjkajgfgjaaDoor.P
/-- With nothing running the first task of a list is let in. -/
theorem admit_alone {g : List Tk} {G : GD} (hG : graphD g = some G) {room : List Int} (hroom : roomOk room) {wk : Int} (w1 : 1 ≤ wk) (w4 : wk ≤ 4) {x : Nat} {L : List Nat} (hL : ∀ i ∈ x :: L, i < g.length) (hn : (x :: L).Nodup) : ∃ D, admitD g room [] (up (x :: L)) wk = (x : Int) :: D ∧ (D.length : Int) + 1 ≤ wk := by
 have v := vg_of hG
 have h8 := v.n8
 have hpo := pool_ok hG
 have z2 : (0 : Nat) < 2 ^ g.length := Nat.two_pow_pos _
 have e0 : elemsN 0 = [] := by decide
 have hu0 : UOk g (elemsN 0) := set_uok hpo z2
 have hu : ∀ p : Int, usedN g p (elemsN 0) = 0 := fun p => by rw [e0]; rfl
 have r0 := hroom.1
 have hrd : ∀ p : Int, 0 ≤ p → p ≤ 2 → 4 ≤ rd room p := fun p h0 h2 => (hroom.2 _ (by
  unfold rd
  rw [List.getD_eq_getElem?_getD, List.getElem?_eq_getElem (by omega), Option.getD_some]
  exact List.getElem_mem _)).1
 have hrun : runsD g room [] = true := by
  have := (runsD_set hG hroom z2).2 (fun p h0 h2 => by rw [hu]; have := hrd p h0 h2; omega)
  rw [e0] at this
  exact this
 have hset : setD g.length [] = some 0 := by
  have := setD_elems h8 z2
  rw [e0] at this
  exact this
 have hfr : freshOk g.length (up (x :: L)) 0 = true := fresh_zero _ _ hL (fun i _ => Nat.zero_testBit i) hn
 have hd : admitD g room [] (up (x :: L)) wk = admGo g room wk (up (x :: L)) (countSet g 0) [] := by
  unfold admitD
  rw [if_pos ⟨⟨w1, w4⟩, hrun⟩, hset]
  simp only []
  rw [if_pos hfr]
 have hgs := goodS_set hu0
 have hxg := hL x List.mem_cons_self
 obtain ⟨hp2, hp3⟩ := hpo x hxg
 have ht0 : (countSet g 0).t = 0 := by rw [hgs.t, e0]; rfl
 have hti : takesI g (countSet g 0) (x : Int) room wk = true := by
  show takesB (countSet g 0) (g.getD ((x : Nat) : Int).toNat z48).f2 (g.getD ((x : Nat) : Int).toNat z48).f3 room wk = _
  rw [Int.toNat_natCast]
  unfold takesB
  have := hrd _ hp2.1 hp2.2
  rw [hgs.u _ hp2.1 hp2.2, hu, w64 (by omega) (by omega), decide_eq_true (by omega), decide_eq_true (by omega)]
  rfl
 have hstep : admGo g room wk (up (x :: L)) (countSet g 0) [] = admGo g room wk (up L) (afterI g (countSet g 0) (x : Int) (takesI g (countSet g 0) (x : Int) room wk)) (putIf [] (x : Int) (takesI g (countSet g 0) (x : Int) room wk)) := rfl
 rw [hti] at hstep
 obtain ⟨D, hD⟩ := admGo_ext (g := g) (room := room) (wk := wk) (up L) (afterI g (countSet g 0) (x : Int) true) [(x : Int)]
 have hD2 : admitD g room [] (up (x :: L)) wk = (x : Int) :: D := by rw [hd, hstep]; exact hD
 obtain ⟨O, T, q1, q2, q3, q4, q5, q6, q7, q8, q9⟩ := admGo_spec hpo h8 (room := room) (wk := wk) (x :: L) 0 _ [] hgs z2 hL (fun i _ => Nat.zero_testBit i) hn
 rw [← hd, hD2, List.nil_append] at q1
 have hl := congrArg List.length q1
 rw [List.length_cons, up_length] at hl
 have h9 := q8 (fun e => by rw [e] at hl; cases hl)
 rw [e0, List.length_nil] at q7
 exact ⟨D, hD2, by omega⟩
theorem FnAdmitTasksFirst_pure (l0 : List Int) (hW : Bytes l0) : ∃ k, laws_FnAdmitTasksFirst.f k l0 = some true := by
 refine Ev.one (f := fun k => laws_FnAdmitTasksFirst.f k l0) (EvP.ev ?_)
 unfold laws_FnAdmitTasksFirst.f
 refine EvP.ite (fun _ => EvP.ret rfl) (fun hlen => ?_)
 refine (ev_DrawAdmitTasks hW).bind fun ⟨g, room, run, lst, wk⟩ hg => ?_
 obtain ⟨hg, hr, hu, hl, hw0, hw5⟩ := hg
 dsimp only at hg hr hu hl hw0 hw5 ⊢
 have hf := hg.fits (by unfold big; omega) (by unfold big; omega)
 have hs := ev_AdmitTasks' hf (room := room) (running := run) (list := lst) (wk := wk) (by unfold big; omega) (by unfold big; omega) (by unfold big; omega)
 have hl8 := admitD_length g room run lst wk
 have he := ev_equalInts (a := admitD g room run lst wk) (b := admitD g room run lst wk) (by omega)
 rw [decide_eq_true rfl] at he
 have hno : EvP (fun k => laws_FnAdmitTasksFirst.j0 k g room run lst wk (admitD g room run lst wk) true) (fun x => x = true) := by
  refine EvP.succ ?_
  simp only [laws_FnAdmitTasksFirst.j0]
  exact EvP.pos (by first | rfl | trivial) (Ev.bindP hs (Ev.bindP he (EvP.ret rfl)))
 refine Ev.bindP (Ev.const (admitD g room run lst wk)) (Ev.bindP hs (Ev.bindP he (EvP.pos rfl ?_)))
 refine EvP.ite (fun _ => hno) (fun hne => ?_)
 have hne' : admitD g room run lst wk ≠ [] := fun e => hne (by rw [e]; rfl)
 clear hno hs he
 obtain ⟨G, s, L, hG, hroom, w1, w4, hs2, e1, e2, hL, hLs, hLn, hfit, hd⟩ := admitD_some hne'
 clear hs2 e1 hLs hfit
 subst e2
 cases L with
 | nil => exact absurd (by rw [hd]; rfl) hne'
 | cons x L =>
  have hup : up (x :: L) = (x : Int) :: up L := rfl
  rw [show (((up (x :: L)).length : Int) == 0) = false from beq_eq_false_iff_ne.2 (by rw [up_length, List.length_cons]; omega)]
  obtain ⟨D, hD, hDl⟩ := admit_alone hG hroom w1 w4 hL hLn
  refine EvP.succ ?_
  simp only [laws_FnAdmitTasksFirst.j0]
  refine EvP.neg (by simp) (Ev.bindP (Ev.const (admitD g room [] (up (x :: L)) wk)) ?_)
  rw [hD]
  refine EvP.pos (by rw [List.length_cons]; omega) (EvP.pos (by rw [List.length_cons]; omega) (EvP.pos (by rw [up_length, List.length_cons]; omega) (EvP.pos (by rw [hup]; simp [rd]) (EvP.ret (decide_eq_true ?_)))))
  rw [List.length_cons]
  omega
end Go.Proofs.YtpibdjkajgfgjaaDoor.Core
end
