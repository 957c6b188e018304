/- The law FnReadyTasksTop holds of the given program: the proof's own part, with its row and its card, part 1 of 2. -/
import Derived.Test.YtekajandipdlhaaDoorZCC18
section
set_option linter.unusedVariables false
set_option linter.unusedSimpArgs false
namespace Go.Proofs.YtekajandipdlhaaDoor.P
open Go Core
end Go.Proofs.YtekajandipdlhaaDoor.P
namespace Go.Proofs.YtekajandipdlhaaDoor.Core
open Go Go.Proofs.YtekajandipdlhaaDoor.P
end Go.Proofs.YtekajandipdlhaaDoor.Core
namespace Go.Proofs.YtekajandipdlhaaDoor.Core
open Go Go.RowKit Go.Shelf Go.Proofs.YtekajandipdlhaaDoorW.PrintWords
attribute [local go_sem] Oper.semAt_some wide_fn wide_depth
set_option maxHeartbeats 1000000 in
theorem has_calls (s k : Nat) (hs : s < 256) (hk : k < 8) (w : World) :
    Calls Tryd.prog 87 #[.int .u16 (s : Int), .int .i64 (k : Int)] w fun e w' => e = .returned (.bool (s.testBit k)) ∧ w = w' := by
  go_enter Tryd.func87, Tryd.ntmps87
  go_wp2
  go_ret
  exact ⟨by rw [has_eq hs]; rfl, rfl⟩
end Go.Proofs.YtekajandipdlhaaDoor.Core
namespace Go.Proofs.YtekajandipdlhaaDoor.Core
open Go Go.RowKit Go.Shelf Go.Proofs.YtekajandipdlhaaDoorW.PrintWords Go.Proofs.YtekajandipdlhaaDoorW.PrintLast Go.Proofs.YtekajandipdlhaaDoorW.PrintMore Go.Proofs.YtekajandipdlhaaDoor.P
attribute [local go_sem] Oper.semAt_some wide_fn wide_depth
end Go.Proofs.YtekajandipdlhaaDoor.Core
end
section
set_option linter.unusedVariables false
set_option linter.unusedSimpArgs false
namespace Go.Proofs.YtekajandipdlhaaDoor.Core
open Go Go.RowKit Go.Shelf Go.Proofs.YtekajandipdlhaaDoorW.PrintWords Go.Proofs.YtekajandipdlhaaDoorW.PrintLast Go.Proofs.YtekajandipdlhaaDoorW.PrintMore Go.Proofs.YtekajandipdlhaaDoor.P
attribute [local go_sem] Oper.semAt_some wide_fn wide_depth
set_option maxRecDepth 100000 in
set_option maxHeartbeats 4000000 in
theorem ready_calls (b : Nat) (G : GD) (d : Nat) (w : World) (hg : IsG w b G) (ok : GOk G) (hd : d < 256) :
    Calls Tryd.prog 86 #[.pointer (some ⟨b, 0, none⟩), .int .u16 (d : Int)] w fun e w' => e = .returned (.int .u16 ((G.ready d : Nat) : Int)) ∧ w = w' := by
  obtain ⟨A, c, hc, _, hC⟩ := hg.needs
  have hC := Aside0.mk hC
  go_enter Tryd.func86, Tryd.ntmps86
  go_wp2
  go_loopg [5, 13] G.needs.length (fun kq v5 v13 w' => ∃ (i : Nat) (x : Int) (o : Int), v5 = .int .u16 o ∧ v13 = .int .i64 x ∧ Aside0 (i + kq = G.needs.length ∧ x = (i : Int) ∧ o = ((readyTo G.needs d i : Nat) : Int)) ∧ w = w')
  case atStart => exact ⟨0, 0, 0, rfl, rfl, ⟨by omega, rfl, rfl⟩, rfl⟩
  case round =>
    obtain ⟨i, x, o, rfl, rfl, hh, rfl⟩ := hrel
    by_cases hlt : i < G.needs.length
    · have p0 : 0 ≤ x := by have := hh.out.2.1; omega
      have q0 : x < (G.needs.length : Int) := by have := hh.out.2.1; omega
      have hlt0 : decide (x < (G.needs.length : Int)) = true := decide_eq_true q0
      obtain ⟨ad, e0, hx0⟩ := Kd.at_int hC.out x p0 q0
      subst e0
      rw [rd_up (i := i) hh.out.2.1] at hx0
      have h8 : G.needs.length ≤ 8 := by have := ok.n8; have := ok.nl; omega
      have hNi : G.needs.getD i 0 < 256 := Nat.lt_of_lt_of_le (getD_lt ok.nb i) (pow8 ok.n8)
      have hA := andNot_eq hNi hd
      have hW := readyTo_lt G.needs d i
      have hstep : readyTo G.needs d (i + 1) = if d.testBit i = false ∧ sub (G.needs.getD i 0) d = 0 then readyTo G.needs d i ||| 2 ^ i else readyTo G.needs d i := rfl
      have hB := has_calls d i hd (by omega) w
      have hWc := with_calls (readyTo G.needs d i) i (Nat.lt_of_lt_of_le hW (Nat.le_trans (Nat.pow_le_pow_right (by omega) (show i ≤ 8 by omega)) (by decide))) (by omega) w
      rw [← hh.out.2.2, ← hh.out.2.1] at hWc
      rw [← hh.out.2.1] at hB
      generalize G.needs.getD i 0 = s at hx0 hA hstep
      generalize hbb : d.testBit i = bb at hB hstep
      generalize hz : sub s d = z0 at hA hstep
      generalize hz2 : ((z0 : Nat) : Int) = z at hA
      generalize hr1 : readyTo G.needs d i ||| 2 ^ i = r1 at hWc hstep
      replace p0 := eq_true p0
      replace q0 := eq_true q0
      have HS := Aside0.mk hstep
      have HZ := Aside0.mk hz2
      have HL := Aside0.mk hlt
      clear hstep hbb hz hz2 hr1 hlt hW
      have hz01 : z = 0 ∨ z ≠ 0 := by omega
      cases bb with
      | true =>
        go_wp2_with (go_at_call 87; refine hB.mono ?_; rintro e w' ⟨rfl, rfl⟩)
        go_roundg (G.needs.length - (i + 1))
        case measure => have := hh.out.1; have := HL.out; omega
        case rel =>
          have h1 := hh.out; have := HL.out
          refine ⟨i + 1, _, _, rfl, rfl, ⟨by omega, by rw [h1.2.1]; unfold wrap64; omega, by rw [HS.out, h1.2.2]; simp⟩, rfl⟩
      | false =>
        rcases hz01 with rfl | hz0
        · go_wp2_with (first | (go_at_call 87; refine hB.mono ?_; rintro e w' ⟨rfl, rfl⟩) | (go_at_call 88; refine hWc.mono ?_; rintro e w' ⟨rfl, rfl⟩))
          go_roundg (G.needs.length - (i + 1))
          case measure => have := hh.out.1; have := HL.out; omega
          case rel =>
            have h1 := hh.out; have := HL.out
            have hz3 : z0 = 0 := by have := HZ.out; omega
            refine ⟨i + 1, _, _, rfl, rfl, ⟨by omega, by rw [h1.2.1]; unfold wrap64; omega, by rw [HS.out, hz3]; simp⟩, rfl⟩
        · have hz4 : (z == 0) = false := beq_eq_false_iff_ne.2 hz0
          go_wp2_with (first | (go_at_call 87; refine hB.mono ?_; rintro e w' ⟨rfl, rfl⟩) | (go_at_call 88; refine hWc.mono ?_; rintro e w' ⟨rfl, rfl⟩))
          go_roundg (G.needs.length - (i + 1))
          case measure => have := hh.out.1; have := HL.out; omega
          case rel =>
            have h1 := hh.out; have := HL.out
            have hz3 : z0 ≠ 0 := by have := HZ.out; omega
            refine ⟨i + 1, _, _, rfl, rfl, ⟨by omega, by rw [h1.2.1]; unfold wrap64; omega, by rw [HS.out, h1.2.2]; simp [hz3]⟩, rfl⟩
    · have hlt0 : decide (x < (G.needs.length : Int)) = false := by have := hh.out; simp; omega
      have hi : i = G.needs.length := by have := hh.out; omega
      have ho := hh.out.2.2
      go_wp2
      go_ret
      refine ⟨?_, rfl⟩
      rw [ho, hi]
      rfl
end Go.Proofs.YtekajandipdlhaaDoor.Core
end
section
namespace Go.Proofs.YtekajandipdlhaaDoor.P
open Go.RowKit Go.Proofs.YtekajandipdlhaaDoorW.PrintWords Go.Proofs.YtekajandipdlhaaDoorW.PrintLast Go.Proofs.YtekajandipdlhaaDoorW.PrintMore
attribute [local go_sem] max2_int min2_int max_two min_two max_three min_three max_four min_four   -- for this text's walks alone
set_option linter.unusedVariables false
set_option linter.unusedSimpArgs false
noncomputable def spec_DrawValidDone.f (k : Nat) (l0 : List Int) : Option ((List (S37)) × List Int) := (spec_newReader.f l0).bind fun bt692 => ((spec_anyGraph.f bt692.1 bt692.2).bind fun bt695 => ((spec_someDone.f k bt692.1 bt695.2 bt695.1).bind fun bt699 => (some (bt695.1, bt699.1))))
theorem spec_DrawValidDone.mono : ∀ a0 k, LeO (spec_DrawValidDone.f k a0) (spec_DrawValidDone.f (k + 1) a0) := by
  intro a0 k
  unfold spec_DrawValidDone.f
  repeat' first
      | (with_reducible exact spec_someDone.mono _ _ _ _)
      | (with_reducible exact LeO.refl _)
      | (with_reducible exact LeO.none _)
      | (with_reducible refine LeO.ite ?_ ?_)
      | (with_reducible refine LeO.bind ?_ (fun _ => ?_))
      | exact spec_someDone.mono _ _ _ _
      | exact LeO.none _
      | refine LeO.ite ?_ ?_
      | refine LeO.bind ?_ (fun _ => ?_)
set_option maxHeartbeats 8000000 in
set_option maxRecDepth 100000 in
theorem spec_DrawValidDone.calls (k : Nat) (A0 : Option Addr) (c0 : Nat) (l0 : List Int) (r1 : List (S37)) (r2 : List Int) (w : World) (hr0 : Kd.C (Kd.int .u8) w A0 l0.length l0) (hc0 : l0.length ≤ c0) (h : spec_DrawValidDone.f k l0 = some (r1, r2)) :
    Calls Tryd.prog 90 #[.slice A0 l0.length c0] w fun e w' => ∃ v0_ v1_ : Value, e = .returned (.tuple #[v0_, v1_]) ∧ Kd.S k37 37 w' w.heap.size (fun k_ => some k_ ≠ (v1_ : Value).ownBlock) v0_ r1 ∧ Kd.Q (Kd.int .i64) 3 w' w.heap.size (fun _ => True) v1_ r2 ∧ Below w.heap.size w w' := by
  have HR0 := Aside0.mk hr0
  have HC0 := Aside0.mk hc0
  clear hr0 hc0
  have HB := Aside0.mk (Below.refl w.heap.size w)
  have H : ((spec_newReader.f l0).bind fun bt692 => ((spec_anyGraph.f bt692.1 bt692.2).bind fun bt695 => ((spec_someDone.f k bt692.1 bt695.2 bt695.1).bind fun bt699 => (some (bt695.1, bt699.1))))) = some (r1, r2) := h
  clear h
  replace H := Option.bind_eq_some_iff.mp H
  obtain ⟨⟨t692, t693⟩, A20, H⟩ := H
  replace H : ((spec_anyGraph.f t692 t693).bind fun bt695 => ((spec_someDone.f k t692 bt695.2 bt695.1).bind fun bt699 => (some (bt695.1, bt699.1)))) = some (r1, r2) := H
  have A2 := Aside0.mk A20
  clear A20
  replace H := Option.bind_eq_some_iff.mp H
  obtain ⟨⟨t695, t698⟩, A30, H⟩ := H
  replace H : ((spec_someDone.f k t692 t698 t695).bind fun bt699 => (some (t695, bt699.1))) = some (r1, r2) := H
  have A3 := Aside0.mk A30
  clear A30
  replace H := Option.bind_eq_some_iff.mp H
  obtain ⟨⟨t699, t702⟩, A40, H⟩ := H
  replace H : (some (t695, t699)) = some (r1, r2) := H
  have A4 := Aside0.mk A40
  clear A40
  simp only [Option.some.injEq, Prod.mk.injEq] at H
  obtain ⟨rfl, rfl⟩ := H
  go_enter Tryd.func90, Tryd.ntmps90
  go_wp2_with (first | ((with_reducible refine gate_callee (f := 68) rfl ?_); refine goesL_ (some 7) rfl rfl Tryd.func68 (by kernel_rfl) rfl #[.slice A0 l0.length c0] rfl (by (try simp only [List.map_toArray, List.map_cons, List.map_nil]); first | done | rfl | (simp only [List.length_drop, List.length_take]; rfl)) ?_; (with_reducible refine (spec_newReader.calls _ _ l0 t692 t693 w _ ?side1 ?side2 ?side3 A2.out).mono ?_); (case side1 => repeat (first | (with_reducible first | exact HB.out | apply below_alloc | apply pw_below_drewN | apply below_drew1) | exact HB.out)); (case side2 => exact HR0.out); (case side3 => exact HC0.out); rintro e w5 ⟨g694, rfl, hi, hb, hb2⟩; refine ⟨_, rfl, ?_⟩; have n0_ := Aside0.mk (hb); have n1_ := Aside0.mk (hi); clear HB; have HB := n0_; have HI694 := n1_; clear n0_ n1_; (try clear hb); (try clear hb2); (try clear hk); (try clear hi)) | ((with_reducible refine gate_callee (f := 67) rfl ?_); refine goesL_ (some 9) rfl rfl Tryd.func67 (by kernel_rfl) rfl #[.pointer (some ⟨g694, 0, none⟩)] rfl (by (try simp only [List.map_toArray, List.map_cons, List.map_nil]); first | done | rfl | (simp only [List.length_drop, List.length_take]; rfl)) ?_; (with_reducible refine (spec_anyGraph.calls g694 t692 t693 t695 t698 w _ ?side1 ?side2 A3.out).mono ?_); (case side1 => repeat (first | (with_reducible first | exact HI694.out | apply IsS101.alloc | apply IsS101.drewN | apply IsS101.drew | apply IsS101.set_1) | exact HI694.out)); (case side2 => repeat (first | (with_reducible first | exact HB.out | apply below_alloc | apply pw_below_drewN | apply below_drew1 | refine below_set ?_ (IsS101.ge HI694.out)) | exact HB.out)); rintro e w6 ⟨v696, rfl, ho0, hi, hb, hk⟩; refine ⟨_, rfl, ?_⟩; have n0_ := Aside0.mk (Kd.S_lower ho0 (below_size (by repeat (first | (with_reducible first | exact HB.out | apply below_alloc | apply pw_below_drewN | apply below_drew1 | refine below_set ?_ (IsS101.ge HI694.out)) | exact HB.out)))); have n1_ := Aside0.mk (hb); have n2_ := Aside0.mk (hi); clear HB; clear HI694; have HO697 := n0_; have HB := n1_; have HI694 := n2_; clear n0_ n1_ n2_; (try clear hb); (try clear hb2); (try clear hk); (try clear hi); (try clear ho0); obtain ⟨Ao7, co7, eo7⟩ := Kd.S_slice HO697.out; subst eo7) | ((with_reducible refine gate_callee (f := 84) rfl ?_); refine goesL_ (some 13) rfl rfl Tryd.func84 (by kernel_rfl) rfl #[.pointer (some ⟨g694, 0, none⟩), .slice Ao7 t695.length co7] rfl (by (try simp only [List.map_toArray, List.map_cons, List.map_nil]); first | done | rfl | (simp only [List.length_drop, List.length_take]; rfl)) ?_; (with_reducible refine (spec_someDone.calls k g694 t692 t698 _ _ t695 t699 t702 w _ ?side1 ?side2 ?side3 ?side4 A4.out).mono ?_); (case side1 => repeat (first | (with_reducible first | exact HI694.out | apply IsS101.alloc | apply IsS101.drewN | apply IsS101.drew | apply IsS101.set_1) | exact HI694.out)); (case side2 => repeat (first | (with_reducible first | exact HB.out | apply below_alloc | apply pw_below_drewN | apply below_drew1 | refine below_set ?_ (IsS101.ge HI694.out)) | exact HB.out)); (case side3 => exact Kd.C_foot_own ((Kd.S_R (IsS101.apartS (show IsS101 w _ g694 t692 t698 from by repeat (first | (with_reducible first | exact HI694.out | apply IsS101.alloc | apply IsS101.drewN | apply IsS101.drew | apply IsS101.set_1) | exact HI694.out)) (by (with_reducible repeat (first | apply Kd.S_alloc | apply Kd.S_drewN | apply Kd.S_drew)); exact HO697.out) (by decide)))) (fun _ h_ => h_.2)); (case side4 => exact (Kd.S_reads' HO697.out).2.1); rintro e w8 ⟨v700, rfl, ho0, hi, hb, hk⟩; refine ⟨_, rfl, ?_⟩; have n0_ := Aside0.mk (Kd.S_mono (Kd.S_told (Kd.S_oldK (IsS101.apartS (show IsS101 w _ g694 t692 t698 from by repeat (first | (with_reducible first | exact HI694.out | apply IsS101.alloc | apply IsS101.drewN | apply IsS101.drew | apply IsS101.set_1) | exact HI694.out)) (by (with_reducible repeat (first | apply Kd.S_alloc | apply Kd.S_drewN | apply Kd.S_drew)); exact HO697.out) (by decide)) hk) (Kd.Q_base ho0)) (fun _ h_ => h_.1)); have n1_ := Aside0.mk (Kd.Q_lower ho0 (below_size (by repeat (first | (with_reducible first | exact HB.out | apply below_alloc | apply pw_below_drewN | apply below_drew1 | refine below_set ?_ (IsS101.ge HI694.out)) | exact HB.out)))); have n2_ := Aside0.mk (hb); have n3_ := Aside0.mk (hi); clear HO697; clear HB; clear HI694; have HO697 := n0_; have HO701 := n1_; have HB := n2_; have HI694 := n3_; clear n0_ n1_ n2_ n3_; (try clear hb); (try clear hb2); (try clear hk); (try clear hi); (try clear ho0)))
  go_ret2
  exact ⟨_, _, by first | rfl | (simp [errW_none, errW_some] <;> rfl) | (simp [*, errW_none, errW_some] <;> rfl), by (with_reducible repeat (first | apply Kd.S_alloc | apply Kd.S_drewN | apply Kd.S_drew)); exact Kd.S_mono HO697.out (fun _ hk => hk.2), by (with_reducible repeat (first | apply Kd.Q_alloc | apply Kd.Q_drewN | apply Kd.Q_drew)); exact HO701.out, by repeat (first | (with_reducible first | exact HB.out | apply below_alloc | apply pw_below_drewN | apply below_drew1 | refine below_set ?_ (IsS101.ge HI694.out)) | exact HB.out)⟩
noncomputable def spec_DrawReadyTasks.f (k : Nat) (l0 : List Int) : Option ((List (S37)) × List Int) := (spec_DrawValidDone.f k l0).bind fun bt703 => (some (bt703.1, bt703.2))
theorem spec_DrawReadyTasks.mono : ∀ a0 k, LeO (spec_DrawReadyTasks.f k a0) (spec_DrawReadyTasks.f (k + 1) a0) := by
  intro a0 k
  unfold spec_DrawReadyTasks.f
  repeat' first
      | (with_reducible exact spec_DrawValidDone.mono _ _)
      | (with_reducible exact LeO.refl _)
      | (with_reducible exact LeO.none _)
      | (with_reducible refine LeO.ite ?_ ?_)
      | (with_reducible refine LeO.bind ?_ (fun _ => ?_))
      | exact spec_DrawValidDone.mono _ _
      | exact LeO.none _
      | refine LeO.ite ?_ ?_
      | refine LeO.bind ?_ (fun _ => ?_)
set_option maxHeartbeats 8000000 in
set_option maxRecDepth 100000 in
theorem spec_DrawReadyTasks.calls (k : Nat) (A0 : Option Addr) (c0 : Nat) (l0 : List Int) (r1 : List (S37)) (r2 : List Int) (w : World) (hr0 : Kd.C (Kd.int .u8) w A0 l0.length l0) (hc0 : l0.length ≤ c0) (h : spec_DrawReadyTasks.f k l0 = some (r1, r2)) :
    Calls Tryd.prog 48 #[.slice A0 l0.length c0] w fun e w' => ∃ v0_ v1_ : Value, e = .returned (.tuple #[v0_, v1_]) ∧ Kd.S k37 37 w' w.heap.size (fun k_ => some k_ ≠ (v1_ : Value).ownBlock) v0_ r1 ∧ Kd.Q (Kd.int .i64) 3 w' w.heap.size (fun _ => True) v1_ r2 ∧ Below w.heap.size w w' := by
  have HR0 := Aside0.mk hr0
  have HC0 := Aside0.mk hc0
  clear hr0 hc0
  have HB := Aside0.mk (Below.refl w.heap.size w)
  have H : ((spec_DrawValidDone.f k l0).bind fun bt703 => (some (bt703.1, bt703.2))) = some (r1, r2) := h
  clear h
  replace H := Option.bind_eq_some_iff.mp H
  obtain ⟨⟨t703, t704⟩, A20, H⟩ := H
  replace H : (some (t703, t704)) = some (r1, r2) := H
  have A2 := Aside0.mk A20
  clear A20
  simp only [Option.some.injEq, Prod.mk.injEq] at H
  obtain ⟨rfl, rfl⟩ := H
  go_enter Tryd.func48, Tryd.ntmps48
  go_wp2_with (first | ((with_reducible refine gate_callee (f := 90) rfl ?_); refine goesL_ (some 5) rfl rfl Tryd.func90 (by kernel_rfl) rfl #[.slice A0 l0.length c0] rfl (by (try simp only [List.map_toArray, List.map_cons, List.map_nil]); first | done | rfl | (simp only [List.length_drop, List.length_take]; rfl)) ?_; (with_reducible refine (spec_DrawValidDone.calls k _ _ l0 t703 t704 _ ?side1 ?side2 A2.out).mono ?_); (case side1 => repeat (first | exact HR0.out | (with_reducible refine Kd.C_alloc ?_ _) | (with_reducible refine Kd.C_drewN ?_ _) | (with_reducible refine Kd.C_drew ?_))); (case side2 => exact HC0.out); rintro e w3 ⟨v705, v707, rfl, ho0, ho1, hb⟩; refine ⟨_, rfl, ?_⟩; have n0_ := Aside0.mk (Kd.S_lower ho0 (below_size (by repeat (first | (with_reducible first | exact HB.out | apply below_alloc | apply pw_below_drewN | apply below_drew1) | exact HB.out)))); have n1_ := Aside0.mk (Kd.Q_lower ho1 (below_size (by repeat (first | (with_reducible first | exact HB.out | apply below_alloc | apply pw_below_drewN | apply below_drew1) | exact HB.out)))); have n2_ := Aside0.mk (below_step (by repeat (first | (with_reducible first | exact HB.out | apply below_alloc | apply pw_below_drewN | apply below_drew1) | exact HB.out)) hb); clear HB; have HO706 := n0_; have HO708 := n1_; have HB := n2_; clear n0_ n1_ n2_; (try clear hb); (try clear hb2); (try clear hk); (try clear hi); (try clear ho0); (try clear ho1)))
  go_ret2
  exact ⟨_, _, by first | rfl | (simp [errW_none, errW_some] <;> rfl) | (simp [*, errW_none, errW_some] <;> rfl), by (with_reducible repeat (first | apply Kd.S_alloc | apply Kd.S_drewN | apply Kd.S_drew)); exact HO706.out, by (with_reducible repeat (first | apply Kd.Q_alloc | apply Kd.Q_drewN | apply Kd.Q_drew)); exact HO708.out, by repeat (first | (with_reducible first | exact HB.out | apply below_alloc | apply pw_below_drewN | apply below_drew1) | exact HB.out)⟩
end Go.Proofs.YtekajandipdlhaaDoor.P
end
section
set_option linter.unusedVariables false
set_option linter.unusedSimpArgs false
namespace Go.Proofs.YtekajandipdlhaaDoor.Core
open Go Go.RowKit Go.Proofs.YtekajandipdlhaaDoorW.PrintWords Go.Proofs.YtekajandipdlhaaDoorW.PrintMore Go.Proofs.YtekajandipdlhaaDoor.P
theorem full_of_bits {n p : Nat} (hp : p < 2 ^ n) (h : ∀ i, i < n → p.testBit i = true) : p = 2 ^ n - 1 := by
  refine Nat.eq_of_testBit_eq fun i => ?_
  rw [Nat.testBit_two_pow_sub_one]
  by_cases hi : i < n
  · rw [h i hi]; simp [hi]
  · rw [Nat.testBit_lt_two_pow (Nat.lt_of_lt_of_le hp (Nat.pow_le_pow_right (by omega) (by omega)))]
    simp [hi]
theorem VG.mem {g : List Tk} {G : GD} (v : VG g G) {i : Nat} : i ∈ G.order ↔ i < g.length := by
  rw [← v.ord.set i, Nat.testBit_two_pow_sub_one]
  simp
theorem zb_count (p : Nat) : ∀ n, zb n p = ((List.range n).filter (fun i => !p.testBit i)).length
  | 0 => rfl
  | n + 1 => by
    rw [zb, zb_count p n, List.range_succ, List.filter_append, List.length_append]
    congr 1
    by_cases h : p.testBit n = true
    · simp [h]
    · simp [h]
end Go.Proofs.YtekajandipdlhaaDoor.Core
end
section
set_option linter.unusedVariables false
set_option linter.unusedSimpArgs false
namespace Go.Proofs.YtekajandipdlhaaDoor.Core
open Go Go.RowKit Go.Shelf Go.Proofs.YtekajandipdlhaaDoorW.PrintWords Go.Proofs.YtekajandipdlhaaDoorW.PrintMore Go.Proofs.YtekajandipdlhaaDoor.P
attribute [local go_sem] Oper.semAt_some wide_fn wide_depth
theorem graphOf_row (A0 : Option Addr) (c0 : Nat) (l0 : List Tk) (G : GD) (w : World) (hT : Tab w) (hr0 : k37.C w A0 l0.length l0) (hc0 : l0.length ≤ c0) (hg : graphD l0 = some G) :
    Calls Tryd.prog 60 #[.slice A0 l0.length c0] w fun e w' => ∃ (b : Nat) (v : Value), e = .returned (.tuple #[.pointer (some ⟨b, 0, none⟩), .bool true]) ∧ Below w.heap.size w w' ∧ w.heap.size ≤ b ∧ IsG w' b G ∧ w'.cell? ⟨b, 2, none⟩ = some v ∧ (Kd.int .i64).R 3 w' w.heap.size (fun _ => True) v (up G.order) :=
  (graphOf_calls A0 c0 l0 w hT hr0 hc0).mono fun e w' h => by
    unfold graphPost at h
    rw [hg] at h
    obtain ⟨b, v, h1, h2, h3, h4, h5, h6, _⟩ := h
    exact ⟨b, v, h1, h2, h3, h4, h5, h6⟩
theorem graphOf_some (A0 : Option Addr) (c0 : Nat) (l0 : List Tk) (G : GD) (w : World) (hT : Tab w) (hr0 : k37.C w A0 l0.length l0) (hc0 : l0.length ≤ c0) (hg : graphD l0 = some G) :
    Calls Tryd.prog 60 #[.slice A0 l0.length c0] w fun e w' => ∃ b : Nat, e = .returned (.tuple #[.pointer (some ⟨b, 0, none⟩), .bool true]) ∧ Below w.heap.size w w' ∧ IsG w' b G :=
  (graphOf_row A0 c0 l0 G w hT hr0 hc0 hg).mono fun e w' ⟨b, v, h1, h2, _, h3, _⟩ => ⟨b, h1, h2, h3⟩
end Go.Proofs.YtekajandipdlhaaDoor.Core
end
section
set_option linter.unusedVariables false
set_option linter.unusedSimpArgs false
namespace Go.Proofs.YtekajandipdlhaaDoor.P
open Go Go.RowKit Go.Shelf Go.Proofs.YtekajandipdlhaaDoorW.PrintWords Go.Proofs.YtekajandipdlhaaDoorW.PrintMore Go.Proofs.YtekajandipdlhaaDoor.Core
attribute [local go_sem] Oper.semAt_some wide_fn wide_depth
def impl_ValidGraph.f (l0 : List S37) : Option Bool := some (graphD l0).isSome
set_option maxRecDepth 100000 in
set_option maxHeartbeats 4000000 in
theorem impl_ValidGraph.calls (A0 : Option Addr) (c0 : Nat) (l0 : List S37) (r : Bool) (w : World) (hr0 : Kd.C k37 w A0 l0.length l0) (hc0 : l0.length ≤ c0) (hT : Tab w) (h : impl_ValidGraph.f l0 = some r) :
    Calls Tryd.prog 34 #[.slice A0 l0.length c0] w fun e w' => e = .returned (.bool r) ∧ Below w.heap.size w w' := by
  have hr : r = (graphD l0).isSome := (Option.some.inj h).symm
  subst hr
  clear h
  cases hg : graphD l0 with
  | none =>
    have HG := Aside0.mk (graphOf_none A0 c0 l0 w hT hr0 hc0 hg)
    clear hr0 hT hg
    go_enter Tryd.func34, Tryd.ntmps34
    go_wp2_with (go_at_call 60; refine HG.out.mono ?_; rintro e w' ⟨rfl, hB⟩)
    go_ret
    exact ⟨rfl, hB⟩
  | some G =>
    have HG := Aside0.mk (graphOf_some A0 c0 l0 G w hT hr0 hc0 hg)
    clear hr0 hT hg
    go_enter Tryd.func34, Tryd.ntmps34
    go_wp2_with (go_at_call 60; refine HG.out.mono ?_; rintro e w' ⟨b, rfl, hB, _⟩)
    go_ret
    exact ⟨rfl, hB⟩
end Go.Proofs.YtekajandipdlhaaDoor.P
end
section
set_option linter.unusedVariables false
set_option linter.unusedSimpArgs false
namespace Go.Proofs.YtekajandipdlhaaDoor.Core
open Go Go.RowKit Go.Proofs.YtekajandipdlhaaDoorW.PrintWords Go.Proofs.YtekajandipdlhaaDoorW.PrintMore Go.Proofs.YtekajandipdlhaaDoor.P
theorem VG.len {g : List Tk} {G : GD} (v : VG g G) : G.order.length = g.length := by
  have := v.ord.len
  rw [v.nl, zb_full _ _ (Nat.le_refl _)] at this
  omega
theorem bits_snoc {p a : Nat} {pre : List Nat} (hb : ∀ i, p.testBit i = true ↔ i ∈ pre) : ∀ i, (p ||| 2 ^ a).testBit i = true ↔ i ∈ pre ++ [a] := by
  intro i
  rw [or_bit, Bool.or_eq_true, hb, List.mem_append, List.mem_singleton, decide_eq_true_eq, eq_comm]
end Go.Proofs.YtekajandipdlhaaDoor.Core
end
section
set_option linter.unusedVariables false
set_option linter.unusedSimpArgs false
namespace Go.Proofs.YtekajandipdlhaaDoor.Core
open Go Go.RowKit Go.Proofs.YtekajandipdlhaaDoor.P
def topD (g : List Tk) : List Int := match graphD g with
  | none => []
  | some G => up G.order
end Go.Proofs.YtekajandipdlhaaDoor.Core
namespace Go.Proofs.YtekajandipdlhaaDoor.P
open Go Go.RowKit Go.Shelf Go.Proofs.YtekajandipdlhaaDoorW.PrintWords Go.Proofs.YtekajandipdlhaaDoorW.PrintMore Go.Proofs.YtekajandipdlhaaDoor.Core
attribute [local go_sem] Oper.semAt_some wide_fn wide_depth
def impl_TopOrder.f (l0 : List S37) : Option (List Int) := some (topD l0)
set_option maxRecDepth 100000 in
set_option maxHeartbeats 4000000 in
theorem impl_TopOrder.calls (A0 : Option Addr) (c0 : Nat) (l0 : List S37) (r : List Int) (w : World) (hr0 : Kd.C k37 w A0 l0.length l0) (hc0 : l0.length ≤ c0) (hT : Tab w) (h : impl_TopOrder.f l0 = some r) :
    Calls Tryd.prog 51 #[.slice A0 l0.length c0] w fun e w' => ∃ v0_ : Value, e = .returned (v0_) ∧ Kd.R (Kd.int .i64) 3 w' w.heap.size (fun _ => True) v0_ r ∧ Below w.heap.size w w' := by
  have hr : r = topD l0 := (Option.some.inj h).symm
  subst hr
  clear h
  cases hg : graphD l0 with
  | none =>
    have hcd : topD l0 = [] := by unfold topD; rw [hg]
    rw [hcd]
    have HG := Aside0.mk (graphOf_none A0 c0 l0 w hT hr0 hc0 hg)
    clear hr0 hT hg hcd
    go_enter Tryd.func51, Tryd.ntmps51
    go_wp2_with (go_at_call 60; refine HG.out.mono ?_; rintro e w' ⟨rfl, hB⟩)
    go_ret
    exact ⟨_, rfl, Kd.R_nil _ _ _ _ _, hB⟩
  | some G =>
    have hcd : topD l0 = up G.order := by unfold topD; rw [hg]
    rw [hcd]
    have HG := Aside0.mk (graphOf_row A0 c0 l0 G w hT hr0 hc0 hg)
    clear hr0 hT hg hcd
    go_enter Tryd.func51, Tryd.ntmps51
    go_wp2_with (go_at_call 60; refine HG.out.mono ?_; rintro e w' ⟨b, v, rfl, hB, _, _, hv, hR⟩)
    go_ret
    exact ⟨_, rfl, hR, hB⟩
end Go.Proofs.YtekajandipdlhaaDoor.P
end
section
set_option linter.unusedVariables false
set_option linter.unusedSimpArgs false
namespace Go.Proofs.YtekajandipdlhaaDoor.Core
open Go Go.RowKit Go.Proofs.YtekajandipdlhaaDoor.P
end Go.Proofs.YtekajandipdlhaaDoor.Core
namespace Go.Proofs.YtekajandipdlhaaDoor.P
open Go Go.RowKit Go.Shelf Go.Proofs.YtekajandipdlhaaDoorW.PrintWords Go.Proofs.YtekajandipdlhaaDoorW.PrintMore Go.Proofs.YtekajandipdlhaaDoor.Core
attribute [local go_sem] Oper.semAt_some wide_fn wide_depth
def impl_ReadyTasks.f (l0 : List S37) (l1 : List Int) : Option (List Int) := some (readyD l0 l1)
set_option maxRecDepth 100000 in
set_option maxHeartbeats 4000000 in
theorem impl_ReadyTasks.calls (A0 : Option Addr) (c0 : Nat) (l0 : List S37) (A1 : Option Addr) (c1 : Nat) (l1 : List Int) (r : List Int) (w : World) (hr0 : Kd.C k37 w A0 l0.length l0) (hc0 : l0.length ≤ c0) (hr1 : Kd.C (Kd.int .i64) w A1 l1.length l1) (hc1 : l1.length ≤ c1) (hT : Tab w) (h : impl_ReadyTasks.f l0 l1 = some r) :
    Calls Tryd.prog 49 #[.slice A0 l0.length c0, .slice A1 l1.length c1] w fun e w' => ∃ v0_ : Value, e = .returned (v0_) ∧ Kd.R (Kd.int .i64) 3 w' w.heap.size (fun _ => True) v0_ r ∧ Below w.heap.size w w' := by
  have hr : r = readyD l0 l1 := (Option.some.inj h).symm
  subst hr
  clear h
  cases hg : doneD l0 l1 with
  | none =>
    have hcd : readyD l0 l1 = [] := by unfold readyD; rw [hg]
    rw [hcd]
    have HG := Aside0.mk (doneIn_none A0 c0 l0 A1 c1 l1 w hT hr0 hc0 hr1 hc1 hg)
    clear hr0 hr1 hT hg hcd
    go_enter Tryd.func49, Tryd.ntmps49
    go_wp2_with (go_at_call 80; refine HG.out.mono ?_; rintro e w1 ⟨rfl, hB⟩)
    go_ret
    exact ⟨_, rfl, Kd.R_nil _ _ _ _ _, hB⟩
  | some GS =>
    obtain ⟨G, s⟩ := GS
    have hcd : readyD l0 l1 = elems (G.ready s) := by unfold readyD; rw [hg]
    rw [hcd]
    have HG := Aside0.mk (doneIn_some A0 c0 l0 A1 c1 l1 G s w hT hr0 hc0 hr1 hc1 hg)
    obtain ⟨ok, hsl, hs8, hrl, hr8, -⟩ := done_facts hg
    have HT := Aside0.mk hT
    clear hr0 hr1 hT hg hcd
    go_enter Tryd.func49, Tryd.ntmps49
    go_wp2_with (first | (go_at_call 80; refine HG.out.mono ?_; rintro e w1 ⟨b, rfl, hB, hgr⟩) | (go_at_call 86; refine (ready_calls b G s _ hgr ok hs8).mono ?_; rintro e w' ⟨rfl, rfl⟩) | (go_at_call 71; refine (list_calls (G.ready s) hr8 _ (HT.out.of hB)).mono ?_; rintro e w2 ⟨v, rfl, hR, hB2⟩))
    go_ret
    exact ⟨_, rfl, Kd.R_mono (Kd.R_lower hR hB.size) (fun _ _ => trivial), below_step hB hB2⟩
end Go.Proofs.YtekajandipdlhaaDoor.P
end
section
set_option linter.unusedVariables false
set_option linter.unusedSimpArgs false
namespace Go.Proofs.YtekajandipdlhaaDoor.Core
open Go Go.RowKit Go.Proofs.YtekajandipdlhaaDoor.P
end Go.Proofs.YtekajandipdlhaaDoor.Core
namespace Go.Proofs.YtekajandipdlhaaDoor.P
open Go Go.RowKit Go.Shelf Go.Proofs.YtekajandipdlhaaDoorW.PrintWords Go.Proofs.YtekajandipdlhaaDoorW.PrintLast Go.Proofs.YtekajandipdlhaaDoorW.PrintMore Go.Proofs.YtekajandipdlhaaDoor.Core
attribute [local go_sem] Oper.semAt_some wide_fn wide_depth
def impl_FinishTask.f (l0 : List S37) (l1 : List Int) (a2 : Int) : Option (List Int × Bool) := some (finD l0 l1 a2)
set_option maxRecDepth 100000 in
set_option maxHeartbeats 1000000 in
theorem impl_FinishTask.calls (A0 : Option Addr) (c0 : Nat) (l0 : List S37) (A1 : Option Addr) (c1 : Nat) (l1 : List Int) (a2 : Int) (r1 : List Int) (r2 : Bool) (w : World) (hr0 : Kd.C k37 w A0 l0.length l0) (hc0 : l0.length ≤ c0) (hr1 : Kd.C (Kd.int .i64) w A1 l1.length l1) (hc1 : l1.length ≤ c1) (hT : Tab w) (h : impl_FinishTask.f l0 l1 a2 = some (r1, r2)) :
    Calls Tryd.prog 45 #[.slice A0 l0.length c0, .slice A1 l1.length c1, .int .i64 a2] w fun e w' => ∃ v0_ : Value, e = .returned (.tuple #[v0_, .bool r2]) ∧ Kd.R (Kd.int .i64) 3 w' w.heap.size (fun _ => True) v0_ r1 ∧ Below w.heap.size w w' := by
  have hr : finD l0 l1 a2 = (r1, r2) := Option.some.inj h
  clear h
  cases hg : doneD l0 l1 with
  | none =>
    obtain ⟨rfl, rfl⟩ : [] = r1 ∧ false = r2 := by unfold finD at hr; rw [hg] at hr; exact Prod.mk.inj hr
    have HG := Aside0.mk (doneIn_none A0 c0 l0 A1 c1 l1 w hT hr0 hc0 hr1 hc1 hg)
    clear hr0 hr1 hT hg hr
    go_enter Tryd.func45, Tryd.ntmps45
    go_wp2_with (go_at_call 80; refine HG.out.mono ?_; rintro e w1 ⟨rfl, hB⟩)
    refine bodyPost_ret (results_tmp2 rfl _ _ _) rfl ?_
    exact ⟨_, rfl, Kd.R_nil _ _ _ _ _, hB⟩
  | some GS =>
    obtain ⟨G, s⟩ := GS
    have HG := Aside0.mk (doneIn_some A0 c0 l0 A1 c1 l1 G s w hT hr0 hc0 hr1 hc1 hg)
    obtain ⟨ok, hsl, hs8, hrl, hr8, -⟩ := done_facts hg
    have h8 := ok.n8
    have OK := Aside0.mk ok
    have hcd : (if (0 ≤ a2 ∧ a2 ≤ (G.tasks.length : Int) - 1) ∧ (G.ready s).testBit a2.toNat = true then (elems (s ||| 2 ^ a2.toNat), true) else ([], false)) = (r1, r2) := by unfold finD at hr; rw [hg] at hr; exact hr
    have HT := Aside0.mk hT
    have HW := Aside0.mk (fun W (t : Bool) (ht : decide (0 ≤ a2 ∧ a2 ≤ (G.tasks.length : Int) - 1) = t) => within_is a2 0 ((G.tasks.length : Int) - 1) t W ht)
    have HRD := Aside0.mk (fun b W (hg : IsG W b G) => ready_calls b G s W hg OK.out hs8)
    clear hr0 hr1 hT hg hr ok
    have hw2 : wrap64 ((G.tasks.length : Int) - 1) = (G.tasks.length : Int) - 1 := w64 (by omega) (by omega)
    have hw1 : IntKind.i64.wrap ((G.tasks.length : Int) - 1) = (G.tasks.length : Int) - 1 := by rw [i64_w, w64 (by omega) (by omega)]
    by_cases hx : 0 ≤ a2 ∧ a2 ≤ (G.tasks.length : Int) - 1
    · obtain ⟨i, hi⟩ := Int.eq_ofNat_of_zero_le hx.1
      have hit : a2.toNat = i := by omega
      have hi8 : i < 8 := by omega
      have hwi := HW.out
      have HW2 := Aside0.mk (fun W => hwi W true (decide_eq_true hx))
      have HHAS := Aside0.mk (has_calls (G.ready s) i hr8 hi8)
      have HWITH := Aside0.mk (with_calls s i hs8 hi8)
      have hlt : s ||| 2 ^ i < 256 := Nat.or_lt_two_pow (n := 8) hs8 (Nat.pow_lt_pow_right (by omega) hi8)
      rw [hit] at hcd
      clear HW hwi hit
      rw [← hi] at HHAS HWITH
      generalize s ||| 2 ^ i = s2 at hcd HWITH hlt
      cases hbit : (G.ready s).testBit i with
      | true =>
        rw [hbit] at HHAS hcd
        rw [if_pos ⟨hx, rfl⟩] at hcd
        obtain ⟨rfl, rfl⟩ := Prod.mk.inj hcd
        clear hcd hbit hx hi
        go_enter Tryd.func45, Tryd.ntmps45
        go_wp2_with (first | (go_at_call 80; refine HG.out.mono ?_; rintro e w1 ⟨b, rfl, hB, hgr⟩) | (go_at_call 78; refine (size_calls b G _ hgr).mono ?_; rintro e w' ⟨rfl, rfl⟩) | (go_at_call 81; refine (HW2.out _).mono ?_; rintro e w2 ⟨rfl, hB2⟩; replace hgr := hgr.move hB2; replace hB := below_step hB hB2) | (go_at_call 86; refine (HRD.out b _ hgr).mono ?_; rintro e w' ⟨rfl, rfl⟩) | (go_at_call 87; refine (HHAS.out _).mono ?_; rintro e w' ⟨rfl, rfl⟩) | (go_at_call 88; refine (HWITH.out _).mono ?_; rintro e w' ⟨rfl, rfl⟩) | (go_at_call 71; refine (list_calls s2 hlt _ (HT.out.of hB)).mono ?_; rintro e w3 ⟨v, rfl, hR, hB3⟩))
        refine bodyPost_ret (results_tmp2 rfl _ _ _) rfl ?_
        exact ⟨_, rfl, Kd.R_mono (Kd.R_lower hR hB.size) (fun _ _ => trivial), below_step hB hB3⟩
      | false =>
        rw [hbit] at HHAS hcd
        rw [if_neg (by simp)] at hcd
        obtain ⟨rfl, rfl⟩ := Prod.mk.inj hcd
        clear hcd hbit hx hi
        go_enter Tryd.func45, Tryd.ntmps45
        go_wp2_with (first | (go_at_call 80; refine HG.out.mono ?_; rintro e w1 ⟨b, rfl, hB, hgr⟩) | (go_at_call 78; refine (size_calls b G _ hgr).mono ?_; rintro e w' ⟨rfl, rfl⟩) | (go_at_call 81; refine (HW2.out _).mono ?_; rintro e w2 ⟨rfl, hB2⟩; replace hgr := hgr.move hB2; replace hB := below_step hB hB2) | (go_at_call 86; refine (HRD.out b _ hgr).mono ?_; rintro e w' ⟨rfl, rfl⟩) | (go_at_call 87; refine (HHAS.out _).mono ?_; rintro e w' ⟨rfl, rfl⟩))
        refine bodyPost_ret (results_tmp2 rfl _ _ _) rfl ?_
        exact ⟨_, rfl, Kd.R_nil _ _ _ _ _, hB⟩
    · rw [if_neg (fun h => hx h.1)] at hcd
      obtain ⟨rfl, rfl⟩ := Prod.mk.inj hcd
      have hwi := HW.out
      have HW2 := Aside0.mk (fun W => hwi W false (decide_eq_false hx))
      clear hcd hx hwi HW
      go_enter Tryd.func45, Tryd.ntmps45
      go_wp2_with (first | (go_at_call 80; refine HG.out.mono ?_; rintro e w1 ⟨b, rfl, hB, hgr⟩) | (go_at_call 78; refine (size_calls b G _ hgr).mono ?_; rintro e w' ⟨rfl, rfl⟩) | (go_at_call 81; refine (HW2.out _).mono ?_; rintro e w2 ⟨rfl, hB2⟩; replace hB := below_step hB hB2))
      refine bodyPost_ret (results_tmp2 rfl _ _ _) rfl ?_
      exact ⟨_, rfl, Kd.R_nil _ _ _ _ _, hB⟩
end Go.Proofs.YtekajandipdlhaaDoor.P
end
section
namespace Go.Proofs.YtekajandipdlhaaDoor.P
open Go.Proofs.YtekajandipdlhaaDoor.Core (Tab Tab.of)
open Go.RowKit Go.Proofs.YtekajandipdlhaaDoorW.PrintWords Go.Proofs.YtekajandipdlhaaDoorW.PrintLast Go.Proofs.YtekajandipdlhaaDoorW.PrintMore
attribute [local go_sem] max2_int min2_int max_two min_two max_three min_three max_four min_four   -- for this text's walks alone
set_option linter.unusedVariables false
set_option linter.unusedSimpArgs false
mutual
noncomputable def laws_FnReadyTasksTop.j0 : Nat → List (S37) → List Int → List Int → Bool → Option (Bool)
  | 0, _, _, _, _ => none
  | k + 1, x3, x4, x5, x33 => if x33 = true then ((spec_ReadyTasks.f k x3 x4).bind fun t723 => ((laws_equalInts.f k x5 t723).bind fun t726 => (some t726))) else ((impl_TopOrder.f x3).bind fun t730 => (laws_FnReadyTasksTop.l0 k x3 (([] : List Int)) t730 0))
noncomputable def laws_FnReadyTasksTop.l0 : Nat → List (S37) → List Int → List Int → Int → Option (Bool)
  | 0, _, _, _, _ => none
  | k + 1, x3, x6, x7, x8 => if x8 < (x7.length : Int) then ((impl_ReadyTasks.f x3 x6).bind fun t733 => (if (t733.length : Int) = 0 then (laws_FnReadyTasksTop.j2 k x3 x6 x7 x8 t733 true) else (if 0 < (t733.length : Int) then (if 0 ≤ x8 then (laws_FnReadyTasksTop.j2 k x3 x6 x7 x8 t733 ((rd t733 0) != (rd x7 x8))) else (none)) else (none)))) else (some ((x6.length : Int) == (x3.length : Int)))
noncomputable def laws_FnReadyTasksTop.j2 : Nat → List (S37) → List Int → List Int → Int → List Int → Bool → Option (Bool)
  | 0, _, _, _, _, _, _ => none
  | k + 1, x3, x6, x7, x8, x9, x63 => if x63 = true then (some false) else (if 0 < (x9.length : Int) then ((impl_FinishTask.f x3 x6 (rd x9 0)).bind fun bt739 => (if bt739.2 = true then (laws_FnReadyTasksTop.l0 k x3 bt739.1 x7 (wrap64 (x8 + 1))) else (some false))) else (none))
end
noncomputable def laws_FnReadyTasksTop.f (k : Nat) (l0 : List Int) : Option (Bool) := if (l0.length : Int) > 1048576 then (some true) else ((spec_DrawReadyTasks.f k l0).bind fun bt709 => ((impl_ReadyTasks.f bt709.1 bt709.2).bind fun t715 => ((spec_ReadyTasks.f k bt709.1 bt709.2).bind fun t718 => ((laws_equalInts.f k t715 t718).bind fun t721 => (if t721 = true then ((impl_ValidGraph.f bt709.1).bind fun t722 => (laws_FnReadyTasksTop.j0 k bt709.1 bt709.2 t715 (!t722))) else (laws_FnReadyTasksTop.j0 k bt709.1 bt709.2 t715 true))))))
theorem laws_FnReadyTasksTop.mono_l : ∀ k, (∀ y0 y1 y2 y3, LeO (laws_FnReadyTasksTop.j0 k y0 y1 y2 y3) (laws_FnReadyTasksTop.j0 (k + 1) y0 y1 y2 y3)) ∧ (∀ y0 y1 y2 y3, LeO (laws_FnReadyTasksTop.l0 k y0 y1 y2 y3) (laws_FnReadyTasksTop.l0 (k + 1) y0 y1 y2 y3)) ∧ (∀ y0 y1 y2 y3 y4 y5, LeO (laws_FnReadyTasksTop.j2 k y0 y1 y2 y3 y4 y5) (laws_FnReadyTasksTop.j2 (k + 1) y0 y1 y2 y3 y4 y5))
  | 0 => ⟨fun _ _ _ _ r h => by simp [laws_FnReadyTasksTop.j0] at h, fun _ _ _ _ r h => by simp [laws_FnReadyTasksTop.l0] at h, fun _ _ _ _ _ _ r h => by simp [laws_FnReadyTasksTop.j2] at h⟩
  | k + 1 => by
    obtain ⟨ih0, ih1, ih2⟩ := laws_FnReadyTasksTop.mono_l k
    refine ⟨?_, ?_, ?_⟩
    · intro y0 y1 y2 y3
      unfold laws_FnReadyTasksTop.j0
      repeat' first
      | (with_reducible exact ih0 _ _ _ _)
      | (with_reducible exact ih1 _ _ _ _)
      | (with_reducible exact ih2 _ _ _ _ _ _)
      | (with_reducible exact laws_equalInts.mono _ _ _)
      | (with_reducible exact spec_DrawReadyTasks.mono _ _)
      | (with_reducible exact spec_ReadyTasks.mono _ _ _)
      | (with_reducible exact LeO.refl _)
      | (with_reducible exact LeO.none _)
      | (with_reducible refine LeO.ite ?_ ?_)
      | (with_reducible refine LeO.bind ?_ (fun _ => ?_))
      | exact ih0 _ _ _ _
      | exact ih1 _ _ _ _
      | exact ih2 _ _ _ _ _ _
      | exact laws_equalInts.mono _ _ _
      | exact spec_DrawReadyTasks.mono _ _
      | exact spec_ReadyTasks.mono _ _ _
      | exact LeO.none _
      | refine LeO.ite ?_ ?_
      | refine LeO.bind ?_ (fun _ => ?_)
    · intro y0 y1 y2 y3
      unfold laws_FnReadyTasksTop.l0
      repeat' first
      | (with_reducible exact ih0 _ _ _ _)
      | (with_reducible exact ih1 _ _ _ _)
      | (with_reducible exact ih2 _ _ _ _ _ _)
      | (with_reducible exact laws_equalInts.mono _ _ _)
      | (with_reducible exact spec_DrawReadyTasks.mono _ _)
      | (with_reducible exact spec_ReadyTasks.mono _ _ _)
      | (with_reducible exact LeO.refl _)
      | (with_reducible exact LeO.none _)
      | (with_reducible refine LeO.ite ?_ ?_)
      | (with_reducible refine LeO.bind ?_ (fun _ => ?_))
      | exact ih0 _ _ _ _
      | exact ih1 _ _ _ _
      | exact ih2 _ _ _ _ _ _
      | exact laws_equalInts.mono _ _ _
      | exact spec_DrawReadyTasks.mono _ _
      | exact spec_ReadyTasks.mono _ _ _
      | exact LeO.none _
      | refine LeO.ite ?_ ?_
      | refine LeO.bind ?_ (fun _ => ?_)
    · intro y0 y1 y2 y3 y4 y5
      unfold laws_FnReadyTasksTop.j2
      repeat' first
      | (with_reducible exact ih0 _ _ _ _)
      | (with_reducible exact ih1 _ _ _ _)
      | (with_reducible exact ih2 _ _ _ _ _ _)
      | (with_reducible exact laws_equalInts.mono _ _ _)
      | (with_reducible exact spec_DrawReadyTasks.mono _ _)
      | (with_reducible exact spec_ReadyTasks.mono _ _ _)
      | (with_reducible exact LeO.refl _)
      | (with_reducible exact LeO.none _)
      | (with_reducible refine LeO.ite ?_ ?_)
      | (with_reducible refine LeO.bind ?_ (fun _ => ?_))
      | exact ih0 _ _ _ _
      | exact ih1 _ _ _ _
      | exact ih2 _ _ _ _ _ _
      | exact laws_equalInts.mono _ _ _
      | exact spec_DrawReadyTasks.mono _ _
      | exact spec_ReadyTasks.mono _ _ _
      | exact LeO.none _
      | refine LeO.ite ?_ ?_
      | refine LeO.bind ?_ (fun _ => ?_)
theorem laws_FnReadyTasksTop.mono : ∀ a0 k, LeO (laws_FnReadyTasksTop.f k a0) (laws_FnReadyTasksTop.f (k + 1) a0) := by
  intro a0 k
  obtain ⟨ih0, ih1, ih2⟩ := laws_FnReadyTasksTop.mono_l k
  unfold laws_FnReadyTasksTop.f
  repeat' first
      | (with_reducible exact ih0 _ _ _ _)
      | (with_reducible exact ih1 _ _ _ _)
      | (with_reducible exact ih2 _ _ _ _ _ _)
      | (with_reducible exact laws_equalInts.mono _ _ _)
      | (with_reducible exact spec_DrawReadyTasks.mono _ _)
      | (with_reducible exact spec_ReadyTasks.mono _ _ _)
      | (with_reducible exact LeO.refl _)
      | (with_reducible exact LeO.none _)
      | (with_reducible refine LeO.ite ?_ ?_)
      | (with_reducible refine LeO.bind ?_ (fun _ => ?_))
      | exact ih0 _ _ _ _
      | exact ih1 _ _ _ _
      | exact ih2 _ _ _ _ _ _
      | exact laws_equalInts.mono _ _ _
      | exact spec_DrawReadyTasks.mono _ _
      | exact spec_ReadyTasks.mono _ _ _
      | exact LeO.none _
      | refine LeO.ite ?_ ?_
      | refine LeO.bind ?_ (fun _ => ?_)
set_option maxHeartbeats 8000000 in
set_option maxRecDepth 100000 in
theorem laws_FnReadyTasksTop.calls (k : Nat) (A0 : Option Addr) (c0 : Nat) (l0 : List Int) (r : Bool) (w : World) (hr0 : Kd.C (Kd.int .u8) w A0 l0.length l0) (hc0 : l0.length ≤ c0) (hT : Tab w) (h : laws_FnReadyTasksTop.f k l0 = some r) :
    Calls Tryd.prog 11 #[.slice A0 l0.length c0] w fun e w' => e = .returned (.bool r) ∧ Below w.heap.size w w' := by
  have HT := Aside0.mk hT
  clear hT
  have HR0 := Aside0.mk hr0
  have HC0 := Aside0.mk hc0
  clear hr0 hc0
  have HB := Aside0.mk (Below.refl w.heap.size w)
  have H : (if (l0.length : Int) > 1048576 then (some true) else ((spec_DrawReadyTasks.f k l0).bind fun bt709 => ((impl_ReadyTasks.f bt709.1 bt709.2).bind fun t715 => ((spec_ReadyTasks.f k bt709.1 bt709.2).bind fun t718 => ((laws_equalInts.f k t715 t718).bind fun t721 => (if t721 = true then ((impl_ValidGraph.f bt709.1).bind fun t722 => (laws_FnReadyTasksTop.j0 k bt709.1 bt709.2 t715 (!t722))) else (laws_FnReadyTasksTop.j0 k bt709.1 bt709.2 t715 true))))))) = some r := h
  clear h
  by_cases c2 : (l0.length : Int) > 1048576
  · rw [if_pos c2] at H
    have c2b0 : decide (1048576 < (l0.length : Int)) = true := decide_eq_true c2
    have c2b1 : decide (1048576 < l0.length) = true := decide_eq_true (by omega)
    clear c2
    obtain rfl := Option.some.inj H
    go_enter Tryd.func11, Tryd.ntmps11
    go_wp2
    repeat (go_quiet (fail); try go_wp2)
    go_ret
    exact ⟨by first | rfl | (simp [errW_none, errW_some] <;> rfl) | (simp [*, errW_none, errW_some] <;> rfl), by repeat (first | (with_reducible first | exact HB.out | apply below_alloc | apply pw_below_drewN | apply below_drew1) | exact HB.out)⟩
  · rw [if_neg c2] at H
    have c2b0 : decide (1048576 < (l0.length : Int)) = false := decide_eq_false c2
    have c2b1 : decide (1048576 < l0.length) = false := decide_eq_false (by omega)
    clear c2
    replace H := Option.bind_eq_some_iff.mp H
    obtain ⟨⟨t709, t710⟩, A30, H⟩ := H
    replace H : ((impl_ReadyTasks.f t709 t710).bind fun t715 => ((spec_ReadyTasks.f k t709 t710).bind fun t718 => ((laws_equalInts.f k t715 t718).bind fun t721 => (if t721 = true then ((impl_ValidGraph.f t709).bind fun t722 => (laws_FnReadyTasksTop.j0 k t709 t710 t715 (!t722))) else (laws_FnReadyTasksTop.j0 k t709 t710 t715 true))))) = some r := H
    have A3 := Aside0.mk A30
    clear A30
    replace H := Option.bind_eq_some_iff.mp H
    obtain ⟨t715, A40, H⟩ := H
    replace H : ((spec_ReadyTasks.f k t709 t710).bind fun t718 => ((laws_equalInts.f k t715 t718).bind fun t721 => (if t721 = true then ((impl_ValidGraph.f t709).bind fun t722 => (laws_FnReadyTasksTop.j0 k t709 t710 t715 (!t722))) else (laws_FnReadyTasksTop.j0 k t709 t710 t715 true)))) = some r := H
    have A4 := Aside0.mk A40
    clear A40
    have HC5 := Aside0.mk H
    clear H
    go_enter Tryd.func11, Tryd.ntmps11
    go_upto_region 5 with (first | (go_at_call 48; (with_reducible refine (spec_DrawReadyTasks.calls k _ _ l0 t709 t710 _ ?side1 ?side2 A3.out).mono ?_); (case side1 => repeat (first | exact HR0.out | (with_reducible refine Kd.C_alloc ?_ _) | (with_reducible refine Kd.C_drewN ?_ _) | (with_reducible refine Kd.C_drew ?_))); (case side2 => exact HC0.out); rintro e w6 ⟨v711, v713, rfl, ho0, ho1, hb⟩; have n0_ := Aside0.mk (Kd.S_lower ho0 (below_size (by repeat (first | (with_reducible first | exact HB.out | apply below_alloc | apply pw_below_drewN | apply below_drew1) | exact HB.out)))); have n1_ := Aside0.mk (Kd.Q_lower ho1 (below_size (by repeat (first | (with_reducible first | exact HB.out | apply below_alloc | apply pw_below_drewN | apply below_drew1) | exact HB.out)))); have n2_ := Aside0.mk (below_step (by repeat (first | (with_reducible first | exact HB.out | apply below_alloc | apply pw_below_drewN | apply below_drew1) | exact HB.out)) hb); clear HB; have HO712 := n0_; have HO714 := n1_; have HB := n2_; clear n0_ n1_ n2_; (try clear hb); (try clear hb2); (try clear hk); (try clear hi); (try clear ho0); (try clear ho1); obtain ⟨Ao7, co7, eo7⟩ := Kd.S_slice HO712.out; subst eo7; obtain ⟨Ao8, co8, eo8, _⟩ := Kd.Q_slice HO714.out; subst eo8) | (go_at_call 49; (with_reducible refine (impl_ReadyTasks.calls _ _ t709 _ _ t710 t715 _ ?side1 ?side2 ?side3 ?side4 ?side5 A4.out).mono ?_); (case side1 => repeat (first | exact (Kd.S_reads' HO712.out).2.2 | (with_reducible refine Kd.C_alloc ?_ _) | (with_reducible refine Kd.C_drewN ?_ _) | (with_reducible refine Kd.C_drew ?_))); (case side2 => exact (Kd.S_reads' HO712.out).2.1); (case side3 => repeat (first | exact (Kd.Q_reads' HO714.out).2.2 | (with_reducible refine Kd.C_alloc ?_ _) | (with_reducible refine Kd.C_drewN ?_ _) | (with_reducible refine Kd.C_drew ?_))); (case side4 => exact (Kd.Q_reads' HO714.out).2.1); (case side5 => exact Tab.of HT.out (by repeat (first | (with_reducible first | exact HB.out | apply below_alloc | apply pw_below_drewN | apply below_drew1) | exact HB.out))); rintro e w9 ⟨v716, rfl, ho0, hb⟩; have n0_ := Aside0.mk (Kd.S_elder' (by (with_reducible repeat (first | apply Kd.S_alloc | apply Kd.S_drewN | apply Kd.S_drew)); exact HO712.out) (Kd.R_base ho0) hb); have n1_ := Aside0.mk (Kd.Q_elder' (by (with_reducible repeat (first | apply Kd.Q_alloc | apply Kd.Q_drewN | apply Kd.Q_drew)); exact HO714.out) (Kd.R_base ho0) hb); have n2_ := Aside0.mk (Kd.R_lower (Kd.R_new' ho0 (Kd.Q_lt (by (with_reducible repeat (first | apply Kd.Q_alloc | apply Kd.Q_drewN | apply Kd.Q_drew)); exact HO714.out))) (below_size (by repeat (first | (with_reducible first | exact HB.out | apply below_alloc | apply pw_below_drewN | apply below_drew1) | exact HB.out)))); have n3_ := Aside0.mk (below_step (by repeat (first | (with_reducible first | exact HB.out | apply below_alloc | apply pw_below_drewN | apply below_drew1) | exact HB.out)) hb); clear HO712; clear HO714; clear HB; have HO712 := n0_; have HO714 := n1_; have HO717 := n2_; have HB := n3_; clear n0_ n1_ n2_ n3_; (try clear hb); (try clear hb2); (try clear hk); (try clear hi); (try clear ho0)))
    repeat (go_quiet (first | (go_at_call 48; (with_reducible refine (spec_DrawReadyTasks.calls k _ _ l0 t709 t710 _ ?side1 ?side2 A3.out).mono ?_); (case side1 => repeat (first | exact HR0.out | (with_reducible refine Kd.C_alloc ?_ _) | (with_reducible refine Kd.C_drewN ?_ _) | (with_reducible refine Kd.C_drew ?_))); (case side2 => exact HC0.out); rintro e w6 ⟨v711, v713, rfl, ho0, ho1, hb⟩; have n0_ := Aside0.mk (Kd.S_lower ho0 (below_size (by repeat (first | (with_reducible first | exact HB.out | apply below_alloc | apply pw_below_drewN | apply below_drew1) | exact HB.out)))); have n1_ := Aside0.mk (Kd.Q_lower ho1 (below_size (by repeat (first | (with_reducible first | exact HB.out | apply below_alloc | apply pw_below_drewN | apply below_drew1) | exact HB.out)))); have n2_ := Aside0.mk (below_step (by repeat (first | (with_reducible first | exact HB.out | apply below_alloc | apply pw_below_drewN | apply below_drew1) | exact HB.out)) hb); clear HB; have HO712 := n0_; have HO714 := n1_; have HB := n2_; clear n0_ n1_ n2_; (try clear hb); (try clear hb2); (try clear hk); (try clear hi); (try clear ho0); (try clear ho1); obtain ⟨Ao7, co7, eo7⟩ := Kd.S_slice HO712.out; subst eo7; obtain ⟨Ao8, co8, eo8, _⟩ := Kd.Q_slice HO714.out; subst eo8) | (go_at_call 49; (with_reducible refine (impl_ReadyTasks.calls _ _ t709 _ _ t710 t715 _ ?side1 ?side2 ?side3 ?side4 ?side5 A4.out).mono ?_); (case side1 => repeat (first | exact (Kd.S_reads' HO712.out).2.2 | (with_reducible refine Kd.C_alloc ?_ _) | (with_reducible refine Kd.C_drewN ?_ _) | (with_reducible refine Kd.C_drew ?_))); (case side2 => exact (Kd.S_reads' HO712.out).2.1); (case side3 => repeat (first | exact (Kd.Q_reads' HO714.out).2.2 | (with_reducible refine Kd.C_alloc ?_ _) | (with_reducible refine Kd.C_drewN ?_ _) | (with_reducible refine Kd.C_drew ?_))); (case side4 => exact (Kd.Q_reads' HO714.out).2.1); (case side5 => exact Tab.of HT.out (by repeat (first | (with_reducible first | exact HB.out | apply below_alloc | apply pw_below_drewN | apply below_drew1) | exact HB.out))); rintro e w9 ⟨v716, rfl, ho0, hb⟩; have n0_ := Aside0.mk (Kd.S_elder' (by (with_reducible repeat (first | apply Kd.S_alloc | apply Kd.S_drewN | apply Kd.S_drew)); exact HO712.out) (Kd.R_base ho0) hb); have n1_ := Aside0.mk (Kd.Q_elder' (by (with_reducible repeat (first | apply Kd.Q_alloc | apply Kd.Q_drewN | apply Kd.Q_drew)); exact HO714.out) (Kd.R_base ho0) hb); have n2_ := Aside0.mk (Kd.R_lower (Kd.R_new' ho0 (Kd.Q_lt (by (with_reducible repeat (first | apply Kd.Q_alloc | apply Kd.Q_drewN | apply Kd.Q_drew)); exact HO714.out))) (below_size (by repeat (first | (with_reducible first | exact HB.out | apply below_alloc | apply pw_below_drewN | apply below_drew1) | exact HB.out)))); have n3_ := Aside0.mk (below_step (by repeat (first | (with_reducible first | exact HB.out | apply below_alloc | apply pw_below_drewN | apply below_drew1) | exact HB.out)) hb); clear HO712; clear HO714; clear HB; have HO712 := n0_; have HO714 := n1_; have HO717 := n2_; have HB := n3_; clear n0_ n1_ n2_ n3_; (try clear hb); (try clear hb2); (try clear hk); (try clear hi); (try clear ho0))); go_upto_region 5 with (first | (go_at_call 48; (with_reducible refine (spec_DrawReadyTasks.calls k _ _ l0 t709 t710 _ ?side1 ?side2 A3.out).mono ?_); (case side1 => repeat (first | exact HR0.out | (with_reducible refine Kd.C_alloc ?_ _) | (with_reducible refine Kd.C_drewN ?_ _) | (with_reducible refine Kd.C_drew ?_))); (case side2 => exact HC0.out); rintro e w6 ⟨v711, v713, rfl, ho0, ho1, hb⟩; have n0_ := Aside0.mk (Kd.S_lower ho0 (below_size (by repeat (first | (with_reducible first | exact HB.out | apply below_alloc | apply pw_below_drewN | apply below_drew1) | exact HB.out)))); have n1_ := Aside0.mk (Kd.Q_lower ho1 (below_size (by repeat (first | (with_reducible first | exact HB.out | apply below_alloc | apply pw_below_drewN | apply below_drew1) | exact HB.out)))); have n2_ := Aside0.mk (below_step (by repeat (first | (with_reducible first | exact HB.out | apply below_alloc | apply pw_below_drewN | apply below_drew1) | exact HB.out)) hb); clear HB; have HO712 := n0_; have HO714 := n1_; have HB := n2_; clear n0_ n1_ n2_; (try clear hb); (try clear hb2); (try clear hk); (try clear hi); (try clear ho0); (try clear ho1); obtain ⟨Ao7, co7, eo7⟩ := Kd.S_slice HO712.out; subst eo7; obtain ⟨Ao8, co8, eo8, _⟩ := Kd.Q_slice HO714.out; subst eo8) | (go_at_call 49; (with_reducible refine (impl_ReadyTasks.calls _ _ t709 _ _ t710 t715 _ ?side1 ?side2 ?side3 ?side4 ?side5 A4.out).mono ?_); (case side1 => repeat (first | exact (Kd.S_reads' HO712.out).2.2 | (with_reducible refine Kd.C_alloc ?_ _) | (with_reducible refine Kd.C_drewN ?_ _) | (with_reducible refine Kd.C_drew ?_))); (case side2 => exact (Kd.S_reads' HO712.out).2.1); (case side3 => repeat (first | exact (Kd.Q_reads' HO714.out).2.2 | (with_reducible refine Kd.C_alloc ?_ _) | (with_reducible refine Kd.C_drewN ?_ _) | (with_reducible refine Kd.C_drew ?_))); (case side4 => exact (Kd.Q_reads' HO714.out).2.1); (case side5 => exact Tab.of HT.out (by repeat (first | (with_reducible first | exact HB.out | apply below_alloc | apply pw_below_drewN | apply below_drew1) | exact HB.out))); rintro e w9 ⟨v716, rfl, ho0, hb⟩; have n0_ := Aside0.mk (Kd.S_elder' (by (with_reducible repeat (first | apply Kd.S_alloc | apply Kd.S_drewN | apply Kd.S_drew)); exact HO712.out) (Kd.R_base ho0) hb); have n1_ := Aside0.mk (Kd.Q_elder' (by (with_reducible repeat (first | apply Kd.Q_alloc | apply Kd.Q_drewN | apply Kd.Q_drew)); exact HO714.out) (Kd.R_base ho0) hb); have n2_ := Aside0.mk (Kd.R_lower (Kd.R_new' ho0 (Kd.Q_lt (by (with_reducible repeat (first | apply Kd.Q_alloc | apply Kd.Q_drewN | apply Kd.Q_drew)); exact HO714.out))) (below_size (by repeat (first | (with_reducible first | exact HB.out | apply below_alloc | apply pw_below_drewN | apply below_drew1) | exact HB.out)))); have n3_ := Aside0.mk (below_step (by repeat (first | (with_reducible first | exact HB.out | apply below_alloc | apply pw_below_drewN | apply below_drew1) | exact HB.out)) hb); clear HO712; clear HO714; clear HB; have HO712 := n0_; have HO714 := n1_; have HO717 := n2_; have HB := n3_; clear n0_ n1_ n2_ n3_; (try clear hb); (try clear hb2); (try clear hk); (try clear hi); (try clear ho0))))
    (try simp only [Act.put, List.setIfInBounds_toArray, List.set_cons_zero, List.set_cons_succ])
    go_cut [33] (fun v33 wc => ∃ (kq : Nat) (x33_4 : Bool), v33 = .bool x33_4 ∧ Aside0 (laws_FnReadyTasksTop.j0 kq t709 t710 t715 x33_4 = some r) ∧ Aside0 (kq ≤ k) ∧ Aside0 (Kd.S k37 37 wc w.heap.size (fun k_ => some k_ ≠ ((.slice Ao8 t710.length co8) : Value).ownBlock ∧ some k_ ≠ (v716 : Value).ownBlock) (.slice Ao7 t709.length co7) t709) ∧ Aside0 (Kd.Q (Kd.int .i64) 3 wc w.heap.size (fun k_ => some k_ ≠ (v716 : Value).ownBlock) (.slice Ao8 t710.length co8) t710) ∧ Aside0 (Kd.R (Kd.int .i64) 3 wc w.heap.size (fun k_ => some k_ ≠ ((.slice Ao8 t710.length co8) : Value).ownBlock) v716 t715) ∧ Aside0 (Below w.heap.size w wc))
    case first =>
      have H := HC5.out
      clear HC5
      replace H := Option.bind_eq_some_iff.mp H
      obtain ⟨t718, A100, H⟩ := H
      replace H : ((laws_equalInts.f k t715 t718).bind fun t721 => (if t721 = true then ((impl_ValidGraph.f t709).bind fun t722 => (laws_FnReadyTasksTop.j0 k t709 t710 t715 (!t722))) else (laws_FnReadyTasksTop.j0 k t709 t710 t715 true))) = some r := H
      have A10 := Aside0.mk A100
      clear A100
      replace H := Option.bind_eq_some_iff.mp H
      obtain ⟨t721, A110, H⟩ := H
      replace H : (if t721 = true then ((impl_ValidGraph.f t709).bind fun t722 => (laws_FnReadyTasksTop.j0 k t709 t710 t715 (!t722))) else (laws_FnReadyTasksTop.j0 k t709 t710 t715 true)) = some r := H
      have A11 := Aside0.mk A110
      clear A110
      by_cases c12 : t721 = true
      · subst c12
        have H1 : ((impl_ValidGraph.f t709).bind fun t722 => (laws_FnReadyTasksTop.j0 k t709 t710 t715 (!t722))) = some r := by rw [if_pos rfl] at H; exact H
        clear H
        have H := H1
        clear H1
        replace H := Option.bind_eq_some_iff.mp H
        obtain ⟨t722, A130, H⟩ := H
        replace H : (laws_FnReadyTasksTop.j0 k t709 t710 t715 (!t722)) = some r := H
        have A13 := Aside0.mk A130
        clear A130
        have H' := Aside0.mk H
        clear H
        go_wp2_with (first | (go_at_call 50; (with_reducible refine (spec_ReadyTasks.calls k _ _ t709 _ _ t710 t718 _ ?side1 ?side2 ?side3 ?side4 A10.out).mono ?_); (case side1 => repeat (first | exact (Kd.S_reads' HO712.out).2.2 | (with_reducible refine Kd.C_alloc ?_ _) | (with_reducible refine Kd.C_drewN ?_ _) | (with_reducible refine Kd.C_drew ?_))); (case side2 => exact (Kd.S_reads' HO712.out).2.1); (case side3 => repeat (first | exact (Kd.Q_reads' HO714.out).2.2 | (with_reducible refine Kd.C_alloc ?_ _) | (with_reducible refine Kd.C_drewN ?_ _) | (with_reducible refine Kd.C_drew ?_))); (case side4 => exact (Kd.Q_reads' HO714.out).2.1); rintro e w14 ⟨v719, rfl, ho0, hb⟩; have n0_ := Aside0.mk (Kd.S_elder' (by (with_reducible repeat (first | apply Kd.S_alloc | apply Kd.S_drewN | apply Kd.S_drew)); exact HO712.out) (Kd.R_base ho0) hb); have n1_ := Aside0.mk (Kd.Q_elder' (by (with_reducible repeat (first | apply Kd.Q_alloc | apply Kd.Q_drewN | apply Kd.Q_drew)); exact HO714.out) (Kd.R_base ho0) hb); have n2_ := Aside0.mk (Kd.R_elder' (by (with_reducible repeat (first | apply Kd.R_alloc | apply Kd.R_drewN | apply Kd.R_drew)); exact HO717.out) (Kd.R_base ho0) hb); have n3_ := Aside0.mk (Kd.R_lower (Kd.R_new' (Kd.R_new' ho0 (Kd.Q_lt (by (with_reducible repeat (first | apply Kd.Q_alloc | apply Kd.Q_drewN | apply Kd.Q_drew)); exact HO714.out))) (Kd.R_lt (by (with_reducible repeat (first | apply Kd.R_alloc | apply Kd.R_drewN | apply Kd.R_drew)); exact HO717.out))) (below_size (by repeat (first | (with_reducible first | exact HB.out | apply below_alloc | apply pw_below_drewN | apply below_drew1) | exact HB.out)))); have n4_ := Aside0.mk (below_step (by repeat (first | (with_reducible first | exact HB.out | apply below_alloc | apply pw_below_drewN | apply below_drew1) | exact HB.out)) hb); clear HO712; clear HO714; clear HO717; clear HB; have HO712 := n0_; have HO714 := n1_; have HO717 := n2_; have HO720 := n3_; have HB := n4_; clear n0_ n1_ n2_ n3_ n4_; (try clear hb); (try clear hb2); (try clear hk); (try clear hi); (try clear ho0); obtain ⟨Ao15, co15, eo15⟩ := Kd.R_slice HO717.out; subst eo15; obtain ⟨Ao16, co16, eo16⟩ := Kd.R_slice HO720.out; subst eo16) | (go_at_call 33; (with_reducible refine (laws_equalInts.calls k _ _ t715 _ _ t718 true _ ?side1 ?side2 ?side3 ?side4 A11.out).mono ?_); (case side1 => repeat (first | exact (Kd.R_reads' HO717.out).2.2 | (with_reducible refine Kd.C_alloc ?_ _) | (with_reducible refine Kd.C_drewN ?_ _) | (with_reducible refine Kd.C_drew ?_))); (case side2 => exact (Kd.R_reads' HO717.out).2.1); (case side3 => repeat (first | exact (Kd.R_reads' HO720.out).2.2 | (with_reducible refine Kd.C_alloc ?_ _) | (with_reducible refine Kd.C_drewN ?_ _) | (with_reducible refine Kd.C_drew ?_))); (case side4 => exact (Kd.R_reads' HO720.out).2.1); rintro e w' ⟨rfl, ⟨nd, rfl⟩⟩; (try first | exact ⟨rfl, _, World.drewN_drewN _ _ _⟩ | exact ⟨rfl, _, Eq.trans (World.drewN_drewN _ _ _) (congrArg (World.drewN _) (Nat.add_assoc _ _ _))⟩)) | (go_at_call 34; (with_reducible refine (impl_ValidGraph.calls _ _ t709 t722 _ ?side1 ?side2 ?side3 A13.out).mono ?_); (case side1 => repeat (first | exact (Kd.S_reads' HO712.out).2.2 | (with_reducible refine Kd.C_alloc ?_ _) | (with_reducible refine Kd.C_drewN ?_ _) | (with_reducible refine Kd.C_drew ?_))); (case side2 => exact (Kd.S_reads' HO712.out).2.1); (case side3 => exact Tab.of HT.out (by repeat (first | (with_reducible first | exact HB.out | apply below_alloc | apply pw_below_drewN | apply below_drew1) | exact HB.out))); rintro e w17 ⟨rfl, hb⟩; have n0_ := Aside0.mk (Kd.S_below (by (with_reducible repeat (first | apply Kd.S_alloc | apply Kd.S_drewN | apply Kd.S_drew)); exact HO712.out) hb); have n1_ := Aside0.mk (Kd.Q_below (by (with_reducible repeat (first | apply Kd.Q_alloc | apply Kd.Q_drewN | apply Kd.Q_drew)); exact HO714.out) hb); have n2_ := Aside0.mk (Kd.R_below (by (with_reducible repeat (first | apply Kd.R_alloc | apply Kd.R_drewN | apply Kd.R_drew)); exact HO717.out) hb); have n3_ := Aside0.mk (Kd.R_below (by (with_reducible repeat (first | apply Kd.R_alloc | apply Kd.R_drewN | apply Kd.R_drew)); exact HO720.out) hb); have n4_ := Aside0.mk (below_step (by repeat (first | (with_reducible first | exact HB.out | apply below_alloc | apply pw_below_drewN | apply below_drew1) | exact HB.out)) hb); clear HO712; clear HO714; clear HO717; clear HO720; clear HB; have HO712 := n0_; have HO714 := n1_; have HO717 := n2_; have HO720 := n3_; have HB := n4_; clear n0_ n1_ n2_ n3_ n4_; (try clear hb); (try clear hb2); (try clear hk); (try clear hi)))
        repeat (go_quiet (first | (go_at_call 50; (with_reducible refine (spec_ReadyTasks.calls k _ _ t709 _ _ t710 t718 _ ?side1 ?side2 ?side3 ?side4 A10.out).mono ?_); (case side1 => repeat (first | exact (Kd.S_reads' HO712.out).2.2 | (with_reducible refine Kd.C_alloc ?_ _) | (with_reducible refine Kd.C_drewN ?_ _) | (with_reducible refine Kd.C_drew ?_))); (case side2 => exact (Kd.S_reads' HO712.out).2.1); (case side3 => repeat (first | exact (Kd.Q_reads' HO714.out).2.2 | (with_reducible refine Kd.C_alloc ?_ _) | (with_reducible refine Kd.C_drewN ?_ _) | (with_reducible refine Kd.C_drew ?_))); (case side4 => exact (Kd.Q_reads' HO714.out).2.1); rintro e w14 ⟨v719, rfl, ho0, hb⟩; have n0_ := Aside0.mk (Kd.S_elder' (by (with_reducible repeat (first | apply Kd.S_alloc | apply Kd.S_drewN | apply Kd.S_drew)); exact HO712.out) (Kd.R_base ho0) hb); have n1_ := Aside0.mk (Kd.Q_elder' (by (with_reducible repeat (first | apply Kd.Q_alloc | apply Kd.Q_drewN | apply Kd.Q_drew)); exact HO714.out) (Kd.R_base ho0) hb); have n2_ := Aside0.mk (Kd.R_elder' (by (with_reducible repeat (first | apply Kd.R_alloc | apply Kd.R_drewN | apply Kd.R_drew)); exact HO717.out) (Kd.R_base ho0) hb); have n3_ := Aside0.mk (Kd.R_lower (Kd.R_new' (Kd.R_new' ho0 (Kd.Q_lt (by (with_reducible repeat (first | apply Kd.Q_alloc | apply Kd.Q_drewN | apply Kd.Q_drew)); exact HO714.out))) (Kd.R_lt (by (with_reducible repeat (first | apply Kd.R_alloc | apply Kd.R_drewN | apply Kd.R_drew)); exact HO717.out))) (below_size (by repeat (first | (with_reducible first | exact HB.out | apply below_alloc | apply pw_below_drewN | apply below_drew1) | exact HB.out)))); have n4_ := Aside0.mk (below_step (by repeat (first | (with_reducible first | exact HB.out | apply below_alloc | apply pw_below_drewN | apply below_drew1) | exact HB.out)) hb); clear HO712; clear HO714; clear HO717; clear HB; have HO712 := n0_; have HO714 := n1_; have HO717 := n2_; have HO720 := n3_; have HB := n4_; clear n0_ n1_ n2_ n3_ n4_; (try clear hb); (try clear hb2); (try clear hk); (try clear hi); (try clear ho0); obtain ⟨Ao15, co15, eo15⟩ := Kd.R_slice HO717.out; subst eo15; obtain ⟨Ao16, co16, eo16⟩ := Kd.R_slice HO720.out; subst eo16) | (go_at_call 33; (with_reducible refine (laws_equalInts.calls k _ _ t715 _ _ t718 true _ ?side1 ?side2 ?side3 ?side4 A11.out).mono ?_); (case side1 => repeat (first | exact (Kd.R_reads' HO717.out).2.2 | (with_reducible refine Kd.C_alloc ?_ _) | (with_reducible refine Kd.C_drewN ?_ _) | (with_reducible refine Kd.C_drew ?_))); (case side2 => exact (Kd.R_reads' HO717.out).2.1); (case side3 => repeat (first | exact (Kd.R_reads' HO720.out).2.2 | (with_reducible refine Kd.C_alloc ?_ _) | (with_reducible refine Kd.C_drewN ?_ _) | (with_reducible refine Kd.C_drew ?_))); (case side4 => exact (Kd.R_reads' HO720.out).2.1); rintro e w' ⟨rfl, ⟨nd, rfl⟩⟩; (try first | exact ⟨rfl, _, World.drewN_drewN _ _ _⟩ | exact ⟨rfl, _, Eq.trans (World.drewN_drewN _ _ _) (congrArg (World.drewN _) (Nat.add_assoc _ _ _))⟩)) | (go_at_call 34; (with_reducible refine (impl_ValidGraph.calls _ _ t709 t722 _ ?side1 ?side2 ?side3 A13.out).mono ?_); (case side1 => repeat (first | exact (Kd.S_reads' HO712.out).2.2 | (with_reducible refine Kd.C_alloc ?_ _) | (with_reducible refine Kd.C_drewN ?_ _) | (with_reducible refine Kd.C_drew ?_))); (case side2 => exact (Kd.S_reads' HO712.out).2.1); (case side3 => exact Tab.of HT.out (by repeat (first | (with_reducible first | exact HB.out | apply below_alloc | apply pw_below_drewN | apply below_drew1) | exact HB.out))); rintro e w17 ⟨rfl, hb⟩; have n0_ := Aside0.mk (Kd.S_below (by (with_reducible repeat (first | apply Kd.S_alloc | apply Kd.S_drewN | apply Kd.S_drew)); exact HO712.out) hb); have n1_ := Aside0.mk (Kd.Q_below (by (with_reducible repeat (first | apply Kd.Q_alloc | apply Kd.Q_drewN | apply Kd.Q_drew)); exact HO714.out) hb); have n2_ := Aside0.mk (Kd.R_below (by (with_reducible repeat (first | apply Kd.R_alloc | apply Kd.R_drewN | apply Kd.R_drew)); exact HO717.out) hb); have n3_ := Aside0.mk (Kd.R_below (by (with_reducible repeat (first | apply Kd.R_alloc | apply Kd.R_drewN | apply Kd.R_drew)); exact HO720.out) hb); have n4_ := Aside0.mk (below_step (by repeat (first | (with_reducible first | exact HB.out | apply below_alloc | apply pw_below_drewN | apply below_drew1) | exact HB.out)) hb); clear HO712; clear HO714; clear HO717; clear HO720; clear HB; have HO712 := n0_; have HO714 := n1_; have HO717 := n2_; have HO720 := n3_; have HB := n4_; clear n0_ n1_ n2_ n3_ n4_; (try clear hb); (try clear hb2); (try clear hk); (try clear hi))); try go_wp2_with (first | (go_at_call 50; (with_reducible refine (spec_ReadyTasks.calls k _ _ t709 _ _ t710 t718 _ ?side1 ?side2 ?side3 ?side4 A10.out).mono ?_); (case side1 => repeat (first | exact (Kd.S_reads' HO712.out).2.2 | (with_reducible refine Kd.C_alloc ?_ _) | (with_reducible refine Kd.C_drewN ?_ _) | (with_reducible refine Kd.C_drew ?_))); (case side2 => exact (Kd.S_reads' HO712.out).2.1); (case side3 => repeat (first | exact (Kd.Q_reads' HO714.out).2.2 | (with_reducible refine Kd.C_alloc ?_ _) | (with_reducible refine Kd.C_drewN ?_ _) | (with_reducible refine Kd.C_drew ?_))); (case side4 => exact (Kd.Q_reads' HO714.out).2.1); rintro e w14 ⟨v719, rfl, ho0, hb⟩; have n0_ := Aside0.mk (Kd.S_elder' (by (with_reducible repeat (first | apply Kd.S_alloc | apply Kd.S_drewN | apply Kd.S_drew)); exact HO712.out) (Kd.R_base ho0) hb); have n1_ := Aside0.mk (Kd.Q_elder' (by (with_reducible repeat (first | apply Kd.Q_alloc | apply Kd.Q_drewN | apply Kd.Q_drew)); exact HO714.out) (Kd.R_base ho0) hb); have n2_ := Aside0.mk (Kd.R_elder' (by (with_reducible repeat (first | apply Kd.R_alloc | apply Kd.R_drewN | apply Kd.R_drew)); exact HO717.out) (Kd.R_base ho0) hb); have n3_ := Aside0.mk (Kd.R_lower (Kd.R_new' (Kd.R_new' ho0 (Kd.Q_lt (by (with_reducible repeat (first | apply Kd.Q_alloc | apply Kd.Q_drewN | apply Kd.Q_drew)); exact HO714.out))) (Kd.R_lt (by (with_reducible repeat (first | apply Kd.R_alloc | apply Kd.R_drewN | apply Kd.R_drew)); exact HO717.out))) (below_size (by repeat (first | (with_reducible first | exact HB.out | apply below_alloc | apply pw_below_drewN | apply below_drew1) | exact HB.out)))); have n4_ := Aside0.mk (below_step (by repeat (first | (with_reducible first | exact HB.out | apply below_alloc | apply pw_below_drewN | apply below_drew1) | exact HB.out)) hb); clear HO712; clear HO714; clear HO717; clear HB; have HO712 := n0_; have HO714 := n1_; have HO717 := n2_; have HO720 := n3_; have HB := n4_; clear n0_ n1_ n2_ n3_ n4_; (try clear hb); (try clear hb2); (try clear hk); (try clear hi); (try clear ho0); obtain ⟨Ao15, co15, eo15⟩ := Kd.R_slice HO717.out; subst eo15; obtain ⟨Ao16, co16, eo16⟩ := Kd.R_slice HO720.out; subst eo16) | (go_at_call 33; (with_reducible refine (laws_equalInts.calls k _ _ t715 _ _ t718 true _ ?side1 ?side2 ?side3 ?side4 A11.out).mono ?_); (case side1 => repeat (first | exact (Kd.R_reads' HO717.out).2.2 | (with_reducible refine Kd.C_alloc ?_ _) | (with_reducible refine Kd.C_drewN ?_ _) | (with_reducible refine Kd.C_drew ?_))); (case side2 => exact (Kd.R_reads' HO717.out).2.1); (case side3 => repeat (first | exact (Kd.R_reads' HO720.out).2.2 | (with_reducible refine Kd.C_alloc ?_ _) | (with_reducible refine Kd.C_drewN ?_ _) | (with_reducible refine Kd.C_drew ?_))); (case side4 => exact (Kd.R_reads' HO720.out).2.1); rintro e w' ⟨rfl, ⟨nd, rfl⟩⟩; (try first | exact ⟨rfl, _, World.drewN_drewN _ _ _⟩ | exact ⟨rfl, _, Eq.trans (World.drewN_drewN _ _ _) (congrArg (World.drewN _) (Nat.add_assoc _ _ _))⟩)) | (go_at_call 34; (with_reducible refine (impl_ValidGraph.calls _ _ t709 t722 _ ?side1 ?side2 ?side3 A13.out).mono ?_); (case side1 => repeat (first | exact (Kd.S_reads' HO712.out).2.2 | (with_reducible refine Kd.C_alloc ?_ _) | (with_reducible refine Kd.C_drewN ?_ _) | (with_reducible refine Kd.C_drew ?_))); (case side2 => exact (Kd.S_reads' HO712.out).2.1); (case side3 => exact Tab.of HT.out (by repeat (first | (with_reducible first | exact HB.out | apply below_alloc | apply pw_below_drewN | apply below_drew1) | exact HB.out))); rintro e w17 ⟨rfl, hb⟩; have n0_ := Aside0.mk (Kd.S_below (by (with_reducible repeat (first | apply Kd.S_alloc | apply Kd.S_drewN | apply Kd.S_drew)); exact HO712.out) hb); have n1_ := Aside0.mk (Kd.Q_below (by (with_reducible repeat (first | apply Kd.Q_alloc | apply Kd.Q_drewN | apply Kd.Q_drew)); exact HO714.out) hb); have n2_ := Aside0.mk (Kd.R_below (by (with_reducible repeat (first | apply Kd.R_alloc | apply Kd.R_drewN | apply Kd.R_drew)); exact HO717.out) hb); have n3_ := Aside0.mk (Kd.R_below (by (with_reducible repeat (first | apply Kd.R_alloc | apply Kd.R_drewN | apply Kd.R_drew)); exact HO720.out) hb); have n4_ := Aside0.mk (below_step (by repeat (first | (with_reducible first | exact HB.out | apply below_alloc | apply pw_below_drewN | apply below_drew1) | exact HB.out)) hb); clear HO712; clear HO714; clear HO717; clear HO720; clear HB; have HO712 := n0_; have HO714 := n1_; have HO717 := n2_; have HO720 := n3_; have HB := n4_; clear n0_ n1_ n2_ n3_ n4_; (try clear hb); (try clear hb2); (try clear hk); (try clear hi))))
        go_meet
        case rel => exact ⟨_, (!t722), (by first | rfl | (simp; done) | (simp [*]; done)), H', ⟨by first | omega | exact Nat.le_refl _⟩, ⟨by (with_reducible repeat (first | apply Kd.S_alloc | apply Kd.S_drewN | apply Kd.S_drew)); exact Kd.S_mono HO712.out (fun _ hk => ⟨hk.1.1, hk.1.2⟩)⟩, ⟨by (with_reducible repeat (first | apply Kd.Q_alloc | apply Kd.Q_drewN | apply Kd.Q_drew)); exact Kd.Q_mono HO714.out (fun _ hk => hk.1.2)⟩, ⟨by (with_reducible repeat (first | apply Kd.R_alloc | apply Kd.R_drewN | apply Kd.R_drew)); exact Kd.R_mono HO717.out (fun _ hk => hk.1.2)⟩, ⟨by repeat (first | (with_reducible first | exact HB.out | apply below_alloc | apply pw_below_drewN | apply below_drew1) | exact HB.out)⟩⟩
      · replace c12 := Bool.eq_false_iff.mpr c12
        subst c12
        have H1 : (laws_FnReadyTasksTop.j0 k t709 t710 t715 true) = some r := by rw [if_neg (show ¬ (false = true) by decide)] at H; exact H
        clear H
        have H := H1
        clear H1
        have H' := Aside0.mk H
        clear H
        go_wp2_with (first | (go_at_call 50; (with_reducible refine (spec_ReadyTasks.calls k _ _ t709 _ _ t710 t718 _ ?side1 ?side2 ?side3 ?side4 A10.out).mono ?_); (case side1 => repeat (first | exact (Kd.S_reads' HO712.out).2.2 | (with_reducible refine Kd.C_alloc ?_ _) | (with_reducible refine Kd.C_drewN ?_ _) | (with_reducible refine Kd.C_drew ?_))); (case side2 => exact (Kd.S_reads' HO712.out).2.1); (case side3 => repeat (first | exact (Kd.Q_reads' HO714.out).2.2 | (with_reducible refine Kd.C_alloc ?_ _) | (with_reducible refine Kd.C_drewN ?_ _) | (with_reducible refine Kd.C_drew ?_))); (case side4 => exact (Kd.Q_reads' HO714.out).2.1); rintro e w18 ⟨v719, rfl, ho0, hb⟩; have n0_ := Aside0.mk (Kd.S_elder' (by (with_reducible repeat (first | apply Kd.S_alloc | apply Kd.S_drewN | apply Kd.S_drew)); exact HO712.out) (Kd.R_base ho0) hb); have n1_ := Aside0.mk (Kd.Q_elder' (by (with_reducible repeat (first | apply Kd.Q_alloc | apply Kd.Q_drewN | apply Kd.Q_drew)); exact HO714.out) (Kd.R_base ho0) hb); have n2_ := Aside0.mk (Kd.R_elder' (by (with_reducible repeat (first | apply Kd.R_alloc | apply Kd.R_drewN | apply Kd.R_drew)); exact HO717.out) (Kd.R_base ho0) hb); have n3_ := Aside0.mk (Kd.R_lower (Kd.R_new' (Kd.R_new' ho0 (Kd.Q_lt (by (with_reducible repeat (first | apply Kd.Q_alloc | apply Kd.Q_drewN | apply Kd.Q_drew)); exact HO714.out))) (Kd.R_lt (by (with_reducible repeat (first | apply Kd.R_alloc | apply Kd.R_drewN | apply Kd.R_drew)); exact HO717.out))) (below_size (by repeat (first | (with_reducible first | exact HB.out | apply below_alloc | apply pw_below_drewN | apply below_drew1) | exact HB.out)))); have n4_ := Aside0.mk (below_step (by repeat (first | (with_reducible first | exact HB.out | apply below_alloc | apply pw_below_drewN | apply below_drew1) | exact HB.out)) hb); clear HO712; clear HO714; clear HO717; clear HB; have HO712 := n0_; have HO714 := n1_; have HO717 := n2_; have HO720 := n3_; have HB := n4_; clear n0_ n1_ n2_ n3_ n4_; (try clear hb); (try clear hb2); (try clear hk); (try clear hi); (try clear ho0); obtain ⟨Ao19, co19, eo19⟩ := Kd.R_slice HO717.out; subst eo19; obtain ⟨Ao20, co20, eo20⟩ := Kd.R_slice HO720.out; subst eo20) | (go_at_call 33; (with_reducible refine (laws_equalInts.calls k _ _ t715 _ _ t718 false _ ?side1 ?side2 ?side3 ?side4 A11.out).mono ?_); (case side1 => repeat (first | exact (Kd.R_reads' HO717.out).2.2 | (with_reducible refine Kd.C_alloc ?_ _) | (with_reducible refine Kd.C_drewN ?_ _) | (with_reducible refine Kd.C_drew ?_))); (case side2 => exact (Kd.R_reads' HO717.out).2.1); (case side3 => repeat (first | exact (Kd.R_reads' HO720.out).2.2 | (with_reducible refine Kd.C_alloc ?_ _) | (with_reducible refine Kd.C_drewN ?_ _) | (with_reducible refine Kd.C_drew ?_))); (case side4 => exact (Kd.R_reads' HO720.out).2.1); rintro e w' ⟨rfl, ⟨nd, rfl⟩⟩; (try first | exact ⟨rfl, _, World.drewN_drewN _ _ _⟩ | exact ⟨rfl, _, Eq.trans (World.drewN_drewN _ _ _) (congrArg (World.drewN _) (Nat.add_assoc _ _ _))⟩)))
        repeat (go_quiet (first | (go_at_call 50; (with_reducible refine (spec_ReadyTasks.calls k _ _ t709 _ _ t710 t718 _ ?side1 ?side2 ?side3 ?side4 A10.out).mono ?_); (case side1 => repeat (first | exact (Kd.S_reads' HO712.out).2.2 | (with_reducible refine Kd.C_alloc ?_ _) | (with_reducible refine Kd.C_drewN ?_ _) | (with_reducible refine Kd.C_drew ?_))); (case side2 => exact (Kd.S_reads' HO712.out).2.1); (case side3 => repeat (first | exact (Kd.Q_reads' HO714.out).2.2 | (with_reducible refine Kd.C_alloc ?_ _) | (with_reducible refine Kd.C_drewN ?_ _) | (with_reducible refine Kd.C_drew ?_))); (case side4 => exact (Kd.Q_reads' HO714.out).2.1); rintro e w18 ⟨v719, rfl, ho0, hb⟩; have n0_ := Aside0.mk (Kd.S_elder' (by (with_reducible repeat (first | apply Kd.S_alloc | apply Kd.S_drewN | apply Kd.S_drew)); exact HO712.out) (Kd.R_base ho0) hb); have n1_ := Aside0.mk (Kd.Q_elder' (by (with_reducible repeat (first | apply Kd.Q_alloc | apply Kd.Q_drewN | apply Kd.Q_drew)); exact HO714.out) (Kd.R_base ho0) hb); have n2_ := Aside0.mk (Kd.R_elder' (by (with_reducible repeat (first | apply Kd.R_alloc | apply Kd.R_drewN | apply Kd.R_drew)); exact HO717.out) (Kd.R_base ho0) hb); have n3_ := Aside0.mk (Kd.R_lower (Kd.R_new' (Kd.R_new' ho0 (Kd.Q_lt (by (with_reducible repeat (first | apply Kd.Q_alloc | apply Kd.Q_drewN | apply Kd.Q_drew)); exact HO714.out))) (Kd.R_lt (by (with_reducible repeat (first | apply Kd.R_alloc | apply Kd.R_drewN | apply Kd.R_drew)); exact HO717.out))) (below_size (by repeat (first | (with_reducible first | exact HB.out | apply below_alloc | apply pw_below_drewN | apply below_drew1) | exact HB.out)))); have n4_ := Aside0.mk (below_step (by repeat (first | (with_reducible first | exact HB.out | apply below_alloc | apply pw_below_drewN | apply below_drew1) | exact HB.out)) hb); clear HO712; clear HO714; clear HO717; clear HB; have HO712 := n0_; have HO714 := n1_; have HO717 := n2_; have HO720 := n3_; have HB := n4_; clear n0_ n1_ n2_ n3_ n4_; (try clear hb); (try clear hb2); (try clear hk); (try clear hi); (try clear ho0); obtain ⟨Ao19, co19, eo19⟩ := Kd.R_slice HO717.out; subst eo19; obtain ⟨Ao20, co20, eo20⟩ := Kd.R_slice HO720.out; subst eo20) | (go_at_call 33; (with_reducible refine (laws_equalInts.calls k _ _ t715 _ _ t718 false _ ?side1 ?side2 ?side3 ?side4 A11.out).mono ?_); (case side1 => repeat (first | exact (Kd.R_reads' HO717.out).2.2 | (with_reducible refine Kd.C_alloc ?_ _) | (with_reducible refine Kd.C_drewN ?_ _) | (with_reducible refine Kd.C_drew ?_))); (case side2 => exact (Kd.R_reads' HO717.out).2.1); (case side3 => repeat (first | exact (Kd.R_reads' HO720.out).2.2 | (with_reducible refine Kd.C_alloc ?_ _) | (with_reducible refine Kd.C_drewN ?_ _) | (with_reducible refine Kd.C_drew ?_))); (case side4 => exact (Kd.R_reads' HO720.out).2.1); rintro e w' ⟨rfl, ⟨nd, rfl⟩⟩; (try first | exact ⟨rfl, _, World.drewN_drewN _ _ _⟩ | exact ⟨rfl, _, Eq.trans (World.drewN_drewN _ _ _) (congrArg (World.drewN _) (Nat.add_assoc _ _ _))⟩))); try go_wp2_with (first | (go_at_call 50; (with_reducible refine (spec_ReadyTasks.calls k _ _ t709 _ _ t710 t718 _ ?side1 ?side2 ?side3 ?side4 A10.out).mono ?_); (case side1 => repeat (first | exact (Kd.S_reads' HO712.out).2.2 | (with_reducible refine Kd.C_alloc ?_ _) | (with_reducible refine Kd.C_drewN ?_ _) | (with_reducible refine Kd.C_drew ?_))); (case side2 => exact (Kd.S_reads' HO712.out).2.1); (case side3 => repeat (first | exact (Kd.Q_reads' HO714.out).2.2 | (with_reducible refine Kd.C_alloc ?_ _) | (with_reducible refine Kd.C_drewN ?_ _) | (with_reducible refine Kd.C_drew ?_))); (case side4 => exact (Kd.Q_reads' HO714.out).2.1); rintro e w18 ⟨v719, rfl, ho0, hb⟩; have n0_ := Aside0.mk (Kd.S_elder' (by (with_reducible repeat (first | apply Kd.S_alloc | apply Kd.S_drewN | apply Kd.S_drew)); exact HO712.out) (Kd.R_base ho0) hb); have n1_ := Aside0.mk (Kd.Q_elder' (by (with_reducible repeat (first | apply Kd.Q_alloc | apply Kd.Q_drewN | apply Kd.Q_drew)); exact HO714.out) (Kd.R_base ho0) hb); have n2_ := Aside0.mk (Kd.R_elder' (by (with_reducible repeat (first | apply Kd.R_alloc | apply Kd.R_drewN | apply Kd.R_drew)); exact HO717.out) (Kd.R_base ho0) hb); have n3_ := Aside0.mk (Kd.R_lower (Kd.R_new' (Kd.R_new' ho0 (Kd.Q_lt (by (with_reducible repeat (first | apply Kd.Q_alloc | apply Kd.Q_drewN | apply Kd.Q_drew)); exact HO714.out))) (Kd.R_lt (by (with_reducible repeat (first | apply Kd.R_alloc | apply Kd.R_drewN | apply Kd.R_drew)); exact HO717.out))) (below_size (by repeat (first | (with_reducible first | exact HB.out | apply below_alloc | apply pw_below_drewN | apply below_drew1) | exact HB.out)))); have n4_ := Aside0.mk (below_step (by repeat (first | (with_reducible first | exact HB.out | apply below_alloc | apply pw_below_drewN | apply below_drew1) | exact HB.out)) hb); clear HO712; clear HO714; clear HO717; clear HB; have HO712 := n0_; have HO714 := n1_; have HO717 := n2_; have HO720 := n3_; have HB := n4_; clear n0_ n1_ n2_ n3_ n4_; (try clear hb); (try clear hb2); (try clear hk); (try clear hi); (try clear ho0); obtain ⟨Ao19, co19, eo19⟩ := Kd.R_slice HO717.out; subst eo19; obtain ⟨Ao20, co20, eo20⟩ := Kd.R_slice HO720.out; subst eo20) | (go_at_call 33; (with_reducible refine (laws_equalInts.calls k _ _ t715 _ _ t718 false _ ?side1 ?side2 ?side3 ?side4 A11.out).mono ?_); (case side1 => repeat (first | exact (Kd.R_reads' HO717.out).2.2 | (with_reducible refine Kd.C_alloc ?_ _) | (with_reducible refine Kd.C_drewN ?_ _) | (with_reducible refine Kd.C_drew ?_))); (case side2 => exact (Kd.R_reads' HO717.out).2.1); (case side3 => repeat (first | exact (Kd.R_reads' HO720.out).2.2 | (with_reducible refine Kd.C_alloc ?_ _) | (with_reducible refine Kd.C_drewN ?_ _) | (with_reducible refine Kd.C_drew ?_))); (case side4 => exact (Kd.R_reads' HO720.out).2.1); rintro e w' ⟨rfl, ⟨nd, rfl⟩⟩; (try first | exact ⟨rfl, _, World.drewN_drewN _ _ _⟩ | exact ⟨rfl, _, Eq.trans (World.drewN_drewN _ _ _) (congrArg (World.drewN _) (Nat.add_assoc _ _ _))⟩))))
        go_meet
        case rel => exact ⟨_, (true), (by first | rfl | (simp; done) | (simp [*]; done)), H', ⟨by first | omega | exact Nat.le_refl _⟩, ⟨by (with_reducible repeat (first | apply Kd.S_alloc | apply Kd.S_drewN | apply Kd.S_drew)); exact Kd.S_mono HO712.out (fun _ hk => ⟨hk.1.1, hk.1.2⟩)⟩, ⟨by (with_reducible repeat (first | apply Kd.Q_alloc | apply Kd.Q_drewN | apply Kd.Q_drew)); exact Kd.Q_mono HO714.out (fun _ hk => hk.1.2)⟩, ⟨by (with_reducible repeat (first | apply Kd.R_alloc | apply Kd.R_drewN | apply Kd.R_drew)); exact Kd.R_mono HO717.out (fun _ hk => hk.1.2)⟩, ⟨by repeat (first | (with_reducible first | exact HB.out | apply below_alloc | apply pw_below_drewN | apply below_drew1) | exact HB.out)⟩⟩
    case rest =>
      clear HC5
      try clear c1
      try clear c2
      try clear c2b0
      try clear c2b1
      try clear p2
      try clear c11
      try clear c12
      obtain ⟨kq, x33_4, rfl, HA, HJ4, HO_3, HO_4, HO_5, HB⟩ := hcut
      cases kq with
      | zero => exact absurd HA.out (by simp [laws_FnReadyTasksTop.j0])
      | succ kj4 =>
        have H := HA.out
        clear HA
        simp only [laws_FnReadyTasksTop.j0] at H
        by_cases c21 : x33_4 = true
        · subst c21
          have H1 : ((spec_ReadyTasks.f kj4 t709 t710).bind fun t723 => ((laws_equalInts.f kj4 t715 t723).bind fun t726 => (some t726))) = some r := by rw [if_pos rfl] at H; exact H
          clear H
          have H := H1
          clear H1
          replace H := Option.bind_eq_some_iff.mp H
          obtain ⟨t723, A220, H⟩ := H
          replace H : ((laws_equalInts.f kj4 t715 t723).bind fun t726 => (some t726)) = some r := H
          have A22 := Aside0.mk A220
          clear A220
          replace H := Option.bind_eq_some_iff.mp H
          obtain ⟨t726, A230, H⟩ := H
          replace H : (some t726) = some r := H
          have A23 := Aside0.mk A230
          clear A230
          obtain rfl := Option.some.inj H
          go_wp2_with (first | (go_at_call 50; (with_reducible refine (spec_ReadyTasks.calls kj4 _ _ t709 _ _ t710 t723 _ ?side1 ?side2 ?side3 ?side4 A22.out).mono ?_); (case side1 => repeat (first | exact (Kd.S_reads' HO_3.out).2.2 | (with_reducible refine Kd.C_alloc ?_ _) | (with_reducible refine Kd.C_drewN ?_ _) | (with_reducible refine Kd.C_drew ?_))); (case side2 => exact (Kd.S_reads' HO_3.out).2.1); (case side3 => repeat (first | exact (Kd.Q_reads' HO_4.out).2.2 | (with_reducible refine Kd.C_alloc ?_ _) | (with_reducible refine Kd.C_drewN ?_ _) | (with_reducible refine Kd.C_drew ?_))); (case side4 => exact (Kd.Q_reads' HO_4.out).2.1); rintro e w24 ⟨v724, rfl, ho0, hb⟩; have n0_ := Aside0.mk (Kd.S_elder' (by (with_reducible repeat (first | apply Kd.S_alloc | apply Kd.S_drewN | apply Kd.S_drew)); exact HO_3.out) (Kd.R_base ho0) hb); have n1_ := Aside0.mk (Kd.Q_elder' (by (with_reducible repeat (first | apply Kd.Q_alloc | apply Kd.Q_drewN | apply Kd.Q_drew)); exact HO_4.out) (Kd.R_base ho0) hb); have n2_ := Aside0.mk (Kd.R_elder' (by (with_reducible repeat (first | apply Kd.R_alloc | apply Kd.R_drewN | apply Kd.R_drew)); exact HO_5.out) (Kd.R_base ho0) hb); have n3_ := Aside0.mk (Kd.R_lower (Kd.R_new' (Kd.R_new' ho0 (Kd.Q_lt (by (with_reducible repeat (first | apply Kd.Q_alloc | apply Kd.Q_drewN | apply Kd.Q_drew)); exact HO_4.out))) (Kd.R_lt (by (with_reducible repeat (first | apply Kd.R_alloc | apply Kd.R_drewN | apply Kd.R_drew)); exact HO_5.out))) (below_size (by repeat (first | (with_reducible first | exact HB.out | apply below_alloc | apply pw_below_drewN | apply below_drew1) | exact HB.out)))); have n4_ := Aside0.mk (below_step (by repeat (first | (with_reducible first | exact HB.out | apply below_alloc | apply pw_below_drewN | apply below_drew1) | exact HB.out)) hb); clear HO_3; clear HO_4; clear HO_5; clear HB; have HO_3 := n0_; have HO_4 := n1_; have HO_5 := n2_; have HO725 := n3_; have HB := n4_; clear n0_ n1_ n2_ n3_ n4_; (try clear hb); (try clear hb2); (try clear hk); (try clear hi); (try clear ho0); obtain ⟨Ao25, co25, eo25⟩ := Kd.R_slice HO_5.out; subst eo25; obtain ⟨Ao26, co26, eo26⟩ := Kd.R_slice HO725.out; subst eo26) | (go_at_call 33; (with_reducible refine (laws_equalInts.calls kj4 _ _ t715 _ _ t723 t726 _ ?side1 ?side2 ?side3 ?side4 A23.out).mono ?_); (case side1 => repeat (first | exact (Kd.R_reads' HO_5.out).2.2 | (with_reducible refine Kd.C_alloc ?_ _) | (with_reducible refine Kd.C_drewN ?_ _) | (with_reducible refine Kd.C_drew ?_))); (case side2 => exact (Kd.R_reads' HO_5.out).2.1); (case side3 => repeat (first | exact (Kd.R_reads' HO725.out).2.2 | (with_reducible refine Kd.C_alloc ?_ _) | (with_reducible refine Kd.C_drewN ?_ _) | (with_reducible refine Kd.C_drew ?_))); (case side4 => exact (Kd.R_reads' HO725.out).2.1); rintro e w' ⟨rfl, ⟨nd, rfl⟩⟩; (try first | exact ⟨rfl, _, World.drewN_drewN _ _ _⟩ | exact ⟨rfl, _, Eq.trans (World.drewN_drewN _ _ _) (congrArg (World.drewN _) (Nat.add_assoc _ _ _))⟩)))
          repeat (go_quiet (first | (go_at_call 50; (with_reducible refine (spec_ReadyTasks.calls kj4 _ _ t709 _ _ t710 t723 _ ?side1 ?side2 ?side3 ?side4 A22.out).mono ?_); (case side1 => repeat (first | exact (Kd.S_reads' HO_3.out).2.2 | (with_reducible refine Kd.C_alloc ?_ _) | (with_reducible refine Kd.C_drewN ?_ _) | (with_reducible refine Kd.C_drew ?_))); (case side2 => exact (Kd.S_reads' HO_3.out).2.1); (case side3 => repeat (first | exact (Kd.Q_reads' HO_4.out).2.2 | (with_reducible refine Kd.C_alloc ?_ _) | (with_reducible refine Kd.C_drewN ?_ _) | (with_reducible refine Kd.C_drew ?_))); (case side4 => exact (Kd.Q_reads' HO_4.out).2.1); rintro e w24 ⟨v724, rfl, ho0, hb⟩; have n0_ := Aside0.mk (Kd.S_elder' (by (with_reducible repeat (first | apply Kd.S_alloc | apply Kd.S_drewN | apply Kd.S_drew)); exact HO_3.out) (Kd.R_base ho0) hb); have n1_ := Aside0.mk (Kd.Q_elder' (by (with_reducible repeat (first | apply Kd.Q_alloc | apply Kd.Q_drewN | apply Kd.Q_drew)); exact HO_4.out) (Kd.R_base ho0) hb); have n2_ := Aside0.mk (Kd.R_elder' (by (with_reducible repeat (first | apply Kd.R_alloc | apply Kd.R_drewN | apply Kd.R_drew)); exact HO_5.out) (Kd.R_base ho0) hb); have n3_ := Aside0.mk (Kd.R_lower (Kd.R_new' (Kd.R_new' ho0 (Kd.Q_lt (by (with_reducible repeat (first | apply Kd.Q_alloc | apply Kd.Q_drewN | apply Kd.Q_drew)); exact HO_4.out))) (Kd.R_lt (by (with_reducible repeat (first | apply Kd.R_alloc | apply Kd.R_drewN | apply Kd.R_drew)); exact HO_5.out))) (below_size (by repeat (first | (with_reducible first | exact HB.out | apply below_alloc | apply pw_below_drewN | apply below_drew1) | exact HB.out)))); have n4_ := Aside0.mk (below_step (by repeat (first | (with_reducible first | exact HB.out | apply below_alloc | apply pw_below_drewN | apply below_drew1) | exact HB.out)) hb); clear HO_3; clear HO_4; clear HO_5; clear HB; have HO_3 := n0_; have HO_4 := n1_; have HO_5 := n2_; have HO725 := n3_; have HB := n4_; clear n0_ n1_ n2_ n3_ n4_; (try clear hb); (try clear hb2); (try clear hk); (try clear hi); (try clear ho0); obtain ⟨Ao25, co25, eo25⟩ := Kd.R_slice HO_5.out; subst eo25; obtain ⟨Ao26, co26, eo26⟩ := Kd.R_slice HO725.out; subst eo26) | (go_at_call 33; (with_reducible refine (laws_equalInts.calls kj4 _ _ t715 _ _ t723 t726 _ ?side1 ?side2 ?side3 ?side4 A23.out).mono ?_); (case side1 => repeat (first | exact (Kd.R_reads' HO_5.out).2.2 | (with_reducible refine Kd.C_alloc ?_ _) | (with_reducible refine Kd.C_drewN ?_ _) | (with_reducible refine Kd.C_drew ?_))); (case side2 => exact (Kd.R_reads' HO_5.out).2.1); (case side3 => repeat (first | exact (Kd.R_reads' HO725.out).2.2 | (with_reducible refine Kd.C_alloc ?_ _) | (with_reducible refine Kd.C_drewN ?_ _) | (with_reducible refine Kd.C_drew ?_))); (case side4 => exact (Kd.R_reads' HO725.out).2.1); rintro e w' ⟨rfl, ⟨nd, rfl⟩⟩; (try first | exact ⟨rfl, _, World.drewN_drewN _ _ _⟩ | exact ⟨rfl, _, Eq.trans (World.drewN_drewN _ _ _) (congrArg (World.drewN _) (Nat.add_assoc _ _ _))⟩))); try go_wp2_with (first | (go_at_call 50; (with_reducible refine (spec_ReadyTasks.calls kj4 _ _ t709 _ _ t710 t723 _ ?side1 ?side2 ?side3 ?side4 A22.out).mono ?_); (case side1 => repeat (first | exact (Kd.S_reads' HO_3.out).2.2 | (with_reducible refine Kd.C_alloc ?_ _) | (with_reducible refine Kd.C_drewN ?_ _) | (with_reducible refine Kd.C_drew ?_))); (case side2 => exact (Kd.S_reads' HO_3.out).2.1); (case side3 => repeat (first | exact (Kd.Q_reads' HO_4.out).2.2 | (with_reducible refine Kd.C_alloc ?_ _) | (with_reducible refine Kd.C_drewN ?_ _) | (with_reducible refine Kd.C_drew ?_))); (case side4 => exact (Kd.Q_reads' HO_4.out).2.1); rintro e w24 ⟨v724, rfl, ho0, hb⟩; have n0_ := Aside0.mk (Kd.S_elder' (by (with_reducible repeat (first | apply Kd.S_alloc | apply Kd.S_drewN | apply Kd.S_drew)); exact HO_3.out) (Kd.R_base ho0) hb); have n1_ := Aside0.mk (Kd.Q_elder' (by (with_reducible repeat (first | apply Kd.Q_alloc | apply Kd.Q_drewN | apply Kd.Q_drew)); exact HO_4.out) (Kd.R_base ho0) hb); have n2_ := Aside0.mk (Kd.R_elder' (by (with_reducible repeat (first | apply Kd.R_alloc | apply Kd.R_drewN | apply Kd.R_drew)); exact HO_5.out) (Kd.R_base ho0) hb); have n3_ := Aside0.mk (Kd.R_lower (Kd.R_new' (Kd.R_new' ho0 (Kd.Q_lt (by (with_reducible repeat (first | apply Kd.Q_alloc | apply Kd.Q_drewN | apply Kd.Q_drew)); exact HO_4.out))) (Kd.R_lt (by (with_reducible repeat (first | apply Kd.R_alloc | apply Kd.R_drewN | apply Kd.R_drew)); exact HO_5.out))) (below_size (by repeat (first | (with_reducible first | exact HB.out | apply below_alloc | apply pw_below_drewN | apply below_drew1) | exact HB.out)))); have n4_ := Aside0.mk (below_step (by repeat (first | (with_reducible first | exact HB.out | apply below_alloc | apply pw_below_drewN | apply below_drew1) | exact HB.out)) hb); clear HO_3; clear HO_4; clear HO_5; clear HB; have HO_3 := n0_; have HO_4 := n1_; have HO_5 := n2_; have HO725 := n3_; have HB := n4_; clear n0_ n1_ n2_ n3_ n4_; (try clear hb); (try clear hb2); (try clear hk); (try clear hi); (try clear ho0); obtain ⟨Ao25, co25, eo25⟩ := Kd.R_slice HO_5.out; subst eo25; obtain ⟨Ao26, co26, eo26⟩ := Kd.R_slice HO725.out; subst eo26) | (go_at_call 33; (with_reducible refine (laws_equalInts.calls kj4 _ _ t715 _ _ t723 t726 _ ?side1 ?side2 ?side3 ?side4 A23.out).mono ?_); (case side1 => repeat (first | exact (Kd.R_reads' HO_5.out).2.2 | (with_reducible refine Kd.C_alloc ?_ _) | (with_reducible refine Kd.C_drewN ?_ _) | (with_reducible refine Kd.C_drew ?_))); (case side2 => exact (Kd.R_reads' HO_5.out).2.1); (case side3 => repeat (first | exact (Kd.R_reads' HO725.out).2.2 | (with_reducible refine Kd.C_alloc ?_ _) | (with_reducible refine Kd.C_drewN ?_ _) | (with_reducible refine Kd.C_drew ?_))); (case side4 => exact (Kd.R_reads' HO725.out).2.1); rintro e w' ⟨rfl, ⟨nd, rfl⟩⟩; (try first | exact ⟨rfl, _, World.drewN_drewN _ _ _⟩ | exact ⟨rfl, _, Eq.trans (World.drewN_drewN _ _ _) (congrArg (World.drewN _) (Nat.add_assoc _ _ _))⟩))))
          go_ret
          exact ⟨by first | rfl | (simp [errW_none, errW_some] <;> rfl) | (simp [*, errW_none, errW_some] <;> rfl), by repeat (first | (with_reducible first | exact HB.out | apply below_alloc | apply pw_below_drewN | apply below_drew1) | exact HB.out)⟩
        · replace c21 := Bool.eq_false_iff.mpr c21
          subst c21
          have H1 : ((impl_TopOrder.f t709).bind fun t730 => (laws_FnReadyTasksTop.l0 kj4 t709 (([] : List Int)) t730 0)) = some r := by rw [if_neg (show ¬ (false = true) by decide)] at H; exact H
          clear H
          have H := H1
          clear H1
          obtain ⟨y727, hy727⟩ : ∃ y_ : List Int, y_ = (([] : List Int)) := ⟨_, rfl⟩
          replace H : ((impl_TopOrder.f t709).bind fun t730 => (laws_FnReadyTasksTop.l0 kj4 t709 y727 t730 0)) = some r := by first | (rw [hy727]; with_reducible exact H) | (have H2_ := (Option.bind_some _ _).symm.trans H; rw [hy727]; with_reducible exact H2_) | (have H2_ := (Option.bind_some _ _).symm.trans H; with_reducible exact H2_) | with_reducible exact H | (rw [hy727]; exact H) | exact H
          have Ny727 := Aside0.mk hy727
          clear hy727
          replace H := Option.bind_eq_some_iff.mp H
          obtain ⟨t730, A270, H⟩ := H
          replace H : (laws_FnReadyTasksTop.l0 kj4 t709 y727 t730 0) = some r := H
          have A27 := Aside0.mk A270
          clear A270
          have H' := Aside0.mk H
          clear H
          go_wp2_with (first | ((with_reducible refine gate_dst (N := 39) rfl ?_); refine Kd.R_lit (Kd.int .i64) _ 3 ?hg (N := 39) ?hd (xs := ([] : List Int)) (inner := []) (ok := fun _ => True) (okp := fun _ => True) ?hr ?hp (fun _ hk => hk) trivial (Below.refl _ _) (Nat.le_refl _) (by simp) ?_; (case hd => rfl); (case hg => rfl); (case hr => first | (go_simp; done) | (go_simp; rfl)); (case hp => exact (Reps.none _ _)); intro v728 w28 ho29 hb hg_ hnew_; clear hg_ hnew_; (first | rw [← Ny727.out] at ho29 | (simp only [Int.reduceToNat] at ho29; rw [← Ny727.out] at ho29)); have n0_ := Aside0.mk (Kd.S_elder' (by (with_reducible repeat (first | apply Kd.S_alloc | apply Kd.S_drewN | apply Kd.S_drew)); exact HO_3.out) (Kd.R_base ho29) hb); have n1_ := Aside0.mk (Kd.Q_elder' (by (with_reducible repeat (first | apply Kd.Q_alloc | apply Kd.Q_drewN | apply Kd.Q_drew)); exact HO_4.out) (Kd.R_base ho29) hb); have n2_ := Aside0.mk (Kd.R_elder' (by (with_reducible repeat (first | apply Kd.R_alloc | apply Kd.R_drewN | apply Kd.R_drew)); exact HO_5.out) (Kd.R_base ho29) hb); have n3_ := Aside0.mk (Kd.R_lower (Kd.R_new' (Kd.R_new' ho29 (Kd.Q_lt (by (with_reducible repeat (first | apply Kd.Q_alloc | apply Kd.Q_drewN | apply Kd.Q_drew)); exact HO_4.out))) (Kd.R_lt (by (with_reducible repeat (first | apply Kd.R_alloc | apply Kd.R_drewN | apply Kd.R_drew)); exact HO_5.out))) (below_size (by repeat (first | (with_reducible first | exact HB.out | apply below_alloc | apply pw_below_drewN | apply below_drew1) | exact HB.out)))); have n4_ := Aside0.mk (below_step (by repeat (first | (with_reducible first | exact HB.out | apply below_alloc | apply pw_below_drewN | apply below_drew1) | exact HB.out)) hb); clear HO_3; clear HO_4; clear HO_5; clear HB; have HO_3 := n0_; have HO_4 := n1_; have HO_5 := n2_; have HO729 := n3_; have HB := n4_; clear n0_ n1_ n2_ n3_ n4_; clear hb ho29) | (go_at_call 51; (with_reducible refine (impl_TopOrder.calls _ _ t709 t730 _ ?side1 ?side2 ?side3 A27.out).mono ?_); (case side1 => repeat (first | exact (Kd.S_reads' HO_3.out).2.2 | (with_reducible refine Kd.C_alloc ?_ _) | (with_reducible refine Kd.C_drewN ?_ _) | (with_reducible refine Kd.C_drew ?_))); (case side2 => exact (Kd.S_reads' HO_3.out).2.1); (case side3 => exact Tab.of HT.out (by repeat (first | (with_reducible first | exact HB.out | apply below_alloc | apply pw_below_drewN | apply below_drew1) | exact HB.out))); rintro e w30 ⟨v731, rfl, ho0, hb⟩; have n0_ := Aside0.mk (Kd.S_elder' (by (with_reducible repeat (first | apply Kd.S_alloc | apply Kd.S_drewN | apply Kd.S_drew)); exact HO_3.out) (Kd.R_base ho0) hb); have n1_ := Aside0.mk (Kd.Q_elder' (by (with_reducible repeat (first | apply Kd.Q_alloc | apply Kd.Q_drewN | apply Kd.Q_drew)); exact HO_4.out) (Kd.R_base ho0) hb); have n2_ := Aside0.mk (Kd.R_elder' (by (with_reducible repeat (first | apply Kd.R_alloc | apply Kd.R_drewN | apply Kd.R_drew)); exact HO_5.out) (Kd.R_base ho0) hb); have n3_ := Aside0.mk (Kd.R_elder' (by (with_reducible repeat (first | apply Kd.R_alloc | apply Kd.R_drewN | apply Kd.R_drew)); exact HO729.out) (Kd.R_base ho0) hb); have n4_ := Aside0.mk (Kd.R_lower (Kd.R_new' (Kd.R_new' (Kd.R_new' ho0 (Kd.Q_lt (by (with_reducible repeat (first | apply Kd.Q_alloc | apply Kd.Q_drewN | apply Kd.Q_drew)); exact HO_4.out))) (Kd.R_lt (by (with_reducible repeat (first | apply Kd.R_alloc | apply Kd.R_drewN | apply Kd.R_drew)); exact HO_5.out))) (Kd.R_lt (by (with_reducible repeat (first | apply Kd.R_alloc | apply Kd.R_drewN | apply Kd.R_drew)); exact HO729.out))) (below_size (by repeat (first | (with_reducible first | exact HB.out | apply below_alloc | apply pw_below_drewN | apply below_drew1) | exact HB.out)))); have n5_ := Aside0.mk (below_step (by repeat (first | (with_reducible first | exact HB.out | apply below_alloc | apply pw_below_drewN | apply below_drew1) | exact HB.out)) hb); clear HO_3; clear HO_4; clear HO_5; clear HO729; clear HB; have HO_3 := n0_; have HO_4 := n1_; have HO_5 := n2_; have HO729 := n3_; have HO732 := n4_; have HB := n5_; clear n0_ n1_ n2_ n3_ n4_ n5_; (try clear hb); (try clear hb2); (try clear hk); (try clear hi); (try clear ho0)))
          repeat (go_quiet (first | ((with_reducible refine gate_dst (N := 39) rfl ?_); refine Kd.R_lit (Kd.int .i64) _ 3 ?hg (N := 39) ?hd (xs := ([] : List Int)) (inner := []) (ok := fun _ => True) (okp := fun _ => True) ?hr ?hp (fun _ hk => hk) trivial (Below.refl _ _) (Nat.le_refl _) (by simp) ?_; (case hd => rfl); (case hg => rfl); (case hr => first | (go_simp; done) | (go_simp; rfl)); (case hp => exact (Reps.none _ _)); intro v728 w28 ho29 hb hg_ hnew_; clear hg_ hnew_; (first | rw [← Ny727.out] at ho29 | (simp only [Int.reduceToNat] at ho29; rw [← Ny727.out] at ho29)); have n0_ := Aside0.mk (Kd.S_elder' (by (with_reducible repeat (first | apply Kd.S_alloc | apply Kd.S_drewN | apply Kd.S_drew)); exact HO_3.out) (Kd.R_base ho29) hb); have n1_ := Aside0.mk (Kd.Q_elder' (by (with_reducible repeat (first | apply Kd.Q_alloc | apply Kd.Q_drewN | apply Kd.Q_drew)); exact HO_4.out) (Kd.R_base ho29) hb); have n2_ := Aside0.mk (Kd.R_elder' (by (with_reducible repeat (first | apply Kd.R_alloc | apply Kd.R_drewN | apply Kd.R_drew)); exact HO_5.out) (Kd.R_base ho29) hb); have n3_ := Aside0.mk (Kd.R_lower (Kd.R_new' (Kd.R_new' ho29 (Kd.Q_lt (by (with_reducible repeat (first | apply Kd.Q_alloc | apply Kd.Q_drewN | apply Kd.Q_drew)); exact HO_4.out))) (Kd.R_lt (by (with_reducible repeat (first | apply Kd.R_alloc | apply Kd.R_drewN | apply Kd.R_drew)); exact HO_5.out))) (below_size (by repeat (first | (with_reducible first | exact HB.out | apply below_alloc | apply pw_below_drewN | apply below_drew1) | exact HB.out)))); have n4_ := Aside0.mk (below_step (by repeat (first | (with_reducible first | exact HB.out | apply below_alloc | apply pw_below_drewN | apply below_drew1) | exact HB.out)) hb); clear HO_3; clear HO_4; clear HO_5; clear HB; have HO_3 := n0_; have HO_4 := n1_; have HO_5 := n2_; have HO729 := n3_; have HB := n4_; clear n0_ n1_ n2_ n3_ n4_; clear hb ho29) | (go_at_call 51; (with_reducible refine (impl_TopOrder.calls _ _ t709 t730 _ ?side1 ?side2 ?side3 A27.out).mono ?_); (case side1 => repeat (first | exact (Kd.S_reads' HO_3.out).2.2 | (with_reducible refine Kd.C_alloc ?_ _) | (with_reducible refine Kd.C_drewN ?_ _) | (with_reducible refine Kd.C_drew ?_))); (case side2 => exact (Kd.S_reads' HO_3.out).2.1); (case side3 => exact Tab.of HT.out (by repeat (first | (with_reducible first | exact HB.out | apply below_alloc | apply pw_below_drewN | apply below_drew1) | exact HB.out))); rintro e w30 ⟨v731, rfl, ho0, hb⟩; have n0_ := Aside0.mk (Kd.S_elder' (by (with_reducible repeat (first | apply Kd.S_alloc | apply Kd.S_drewN | apply Kd.S_drew)); exact HO_3.out) (Kd.R_base ho0) hb); have n1_ := Aside0.mk (Kd.Q_elder' (by (with_reducible repeat (first | apply Kd.Q_alloc | apply Kd.Q_drewN | apply Kd.Q_drew)); exact HO_4.out) (Kd.R_base ho0) hb); have n2_ := Aside0.mk (Kd.R_elder' (by (with_reducible repeat (first | apply Kd.R_alloc | apply Kd.R_drewN | apply Kd.R_drew)); exact HO_5.out) (Kd.R_base ho0) hb); have n3_ := Aside0.mk (Kd.R_elder' (by (with_reducible repeat (first | apply Kd.R_alloc | apply Kd.R_drewN | apply Kd.R_drew)); exact HO729.out) (Kd.R_base ho0) hb); have n4_ := Aside0.mk (Kd.R_lower (Kd.R_new' (Kd.R_new' (Kd.R_new' ho0 (Kd.Q_lt (by (with_reducible repeat (first | apply Kd.Q_alloc | apply Kd.Q_drewN | apply Kd.Q_drew)); exact HO_4.out))) (Kd.R_lt (by (with_reducible repeat (first | apply Kd.R_alloc | apply Kd.R_drewN | apply Kd.R_drew)); exact HO_5.out))) (Kd.R_lt (by (with_reducible repeat (first | apply Kd.R_alloc | apply Kd.R_drewN | apply Kd.R_drew)); exact HO729.out))) (below_size (by repeat (first | (with_reducible first | exact HB.out | apply below_alloc | apply pw_below_drewN | apply below_drew1) | exact HB.out)))); have n5_ := Aside0.mk (below_step (by repeat (first | (with_reducible first | exact HB.out | apply below_alloc | apply pw_below_drewN | apply below_drew1) | exact HB.out)) hb); clear HO_3; clear HO_4; clear HO_5; clear HO729; clear HB; have HO_3 := n0_; have HO_4 := n1_; have HO_5 := n2_; have HO729 := n3_; have HO732 := n4_; have HB := n5_; clear n0_ n1_ n2_ n3_ n4_ n5_; (try clear hb); (try clear hb2); (try clear hk); (try clear hi); (try clear ho0))); try go_wp2_with (first | ((with_reducible refine gate_dst (N := 39) rfl ?_); refine Kd.R_lit (Kd.int .i64) _ 3 ?hg (N := 39) ?hd (xs := ([] : List Int)) (inner := []) (ok := fun _ => True) (okp := fun _ => True) ?hr ?hp (fun _ hk => hk) trivial (Below.refl _ _) (Nat.le_refl _) (by simp) ?_; (case hd => rfl); (case hg => rfl); (case hr => first | (go_simp; done) | (go_simp; rfl)); (case hp => exact (Reps.none _ _)); intro v728 w28 ho29 hb hg_ hnew_; clear hg_ hnew_; (first | rw [← Ny727.out] at ho29 | (simp only [Int.reduceToNat] at ho29; rw [← Ny727.out] at ho29)); have n0_ := Aside0.mk (Kd.S_elder' (by (with_reducible repeat (first | apply Kd.S_alloc | apply Kd.S_drewN | apply Kd.S_drew)); exact HO_3.out) (Kd.R_base ho29) hb); have n1_ := Aside0.mk (Kd.Q_elder' (by (with_reducible repeat (first | apply Kd.Q_alloc | apply Kd.Q_drewN | apply Kd.Q_drew)); exact HO_4.out) (Kd.R_base ho29) hb); have n2_ := Aside0.mk (Kd.R_elder' (by (with_reducible repeat (first | apply Kd.R_alloc | apply Kd.R_drewN | apply Kd.R_drew)); exact HO_5.out) (Kd.R_base ho29) hb); have n3_ := Aside0.mk (Kd.R_lower (Kd.R_new' (Kd.R_new' ho29 (Kd.Q_lt (by (with_reducible repeat (first | apply Kd.Q_alloc | apply Kd.Q_drewN | apply Kd.Q_drew)); exact HO_4.out))) (Kd.R_lt (by (with_reducible repeat (first | apply Kd.R_alloc | apply Kd.R_drewN | apply Kd.R_drew)); exact HO_5.out))) (below_size (by repeat (first | (with_reducible first | exact HB.out | apply below_alloc | apply pw_below_drewN | apply below_drew1) | exact HB.out)))); have n4_ := Aside0.mk (below_step (by repeat (first | (with_reducible first | exact HB.out | apply below_alloc | apply pw_below_drewN | apply below_drew1) | exact HB.out)) hb); clear HO_3; clear HO_4; clear HO_5; clear HB; have HO_3 := n0_; have HO_4 := n1_; have HO_5 := n2_; have HO729 := n3_; have HB := n4_; clear n0_ n1_ n2_ n3_ n4_; clear hb ho29) | (go_at_call 51; (with_reducible refine (impl_TopOrder.calls _ _ t709 t730 _ ?side1 ?side2 ?side3 A27.out).mono ?_); (case side1 => repeat (first | exact (Kd.S_reads' HO_3.out).2.2 | (with_reducible refine Kd.C_alloc ?_ _) | (with_reducible refine Kd.C_drewN ?_ _) | (with_reducible refine Kd.C_drew ?_))); (case side2 => exact (Kd.S_reads' HO_3.out).2.1); (case side3 => exact Tab.of HT.out (by repeat (first | (with_reducible first | exact HB.out | apply below_alloc | apply pw_below_drewN | apply below_drew1) | exact HB.out))); rintro e w30 ⟨v731, rfl, ho0, hb⟩; have n0_ := Aside0.mk (Kd.S_elder' (by (with_reducible repeat (first | apply Kd.S_alloc | apply Kd.S_drewN | apply Kd.S_drew)); exact HO_3.out) (Kd.R_base ho0) hb); have n1_ := Aside0.mk (Kd.Q_elder' (by (with_reducible repeat (first | apply Kd.Q_alloc | apply Kd.Q_drewN | apply Kd.Q_drew)); exact HO_4.out) (Kd.R_base ho0) hb); have n2_ := Aside0.mk (Kd.R_elder' (by (with_reducible repeat (first | apply Kd.R_alloc | apply Kd.R_drewN | apply Kd.R_drew)); exact HO_5.out) (Kd.R_base ho0) hb); have n3_ := Aside0.mk (Kd.R_elder' (by (with_reducible repeat (first | apply Kd.R_alloc | apply Kd.R_drewN | apply Kd.R_drew)); exact HO729.out) (Kd.R_base ho0) hb); have n4_ := Aside0.mk (Kd.R_lower (Kd.R_new' (Kd.R_new' (Kd.R_new' ho0 (Kd.Q_lt (by (with_reducible repeat (first | apply Kd.Q_alloc | apply Kd.Q_drewN | apply Kd.Q_drew)); exact HO_4.out))) (Kd.R_lt (by (with_reducible repeat (first | apply Kd.R_alloc | apply Kd.R_drewN | apply Kd.R_drew)); exact HO_5.out))) (Kd.R_lt (by (with_reducible repeat (first | apply Kd.R_alloc | apply Kd.R_drewN | apply Kd.R_drew)); exact HO729.out))) (below_size (by repeat (first | (with_reducible first | exact HB.out | apply below_alloc | apply pw_below_drewN | apply below_drew1) | exact HB.out)))); have n5_ := Aside0.mk (below_step (by repeat (first | (with_reducible first | exact HB.out | apply below_alloc | apply pw_below_drewN | apply below_drew1) | exact HB.out)) hb); clear HO_3; clear HO_4; clear HO_5; clear HO729; clear HB; have HO_3 := n0_; have HO_4 := n1_; have HO_5 := n2_; have HO729 := n3_; have HO732 := n4_; have HB := n5_; clear n0_ n1_ n2_ n3_ n4_ n5_; (try clear hb); (try clear hb2); (try clear hk); (try clear hi); (try clear ho0))))
          go_loopg [6, 8] kj4 (fun kq v6 v8 w' => ∃ (x6_2 : List Int) (x8_2 : Int), v8 = .int .i64 x8_2 ∧ Aside0 (laws_FnReadyTasksTop.l0 kq t709 x6_2 t730 x8_2 = some r) ∧ Aside0 (kq ≤ kj4) ∧ Aside0 (Kd.S k37 37 w' w.heap.size (fun k_ => some k_ ≠ (v6 : Value).ownBlock ∧ some k_ ≠ (v731 : Value).ownBlock) (.slice Ao7 t709.length co7) t709) ∧ Aside0 (Kd.R (Kd.int .i64) 3 w' w.heap.size (fun k_ => some k_ ≠ (v731 : Value).ownBlock) v6 x6_2) ∧ Aside0 (Kd.R (Kd.int .i64) 3 w' w.heap.size (fun k_ => some k_ ≠ (v6 : Value).ownBlock) v731 t730) ∧ Aside0 (Below w.heap.size w w'))
          case atStart => exact ⟨(y727), (0), (by first | rfl | (simp; done) | (simp [*]; done)), H', ⟨Nat.le_refl _⟩, ⟨by (with_reducible repeat (first | apply Kd.S_alloc | apply Kd.S_drewN | apply Kd.S_drew)); exact Kd.S_mono HO_3.out (fun _ hk => ⟨hk.1.2, hk.2⟩)⟩, ⟨by (with_reducible repeat (first | apply Kd.R_alloc | apply Kd.R_drewN | apply Kd.R_drew)); exact Kd.R_mono HO729.out (fun _ hk => hk.2)⟩, ⟨by (with_reducible repeat (first | apply Kd.R_alloc | apply Kd.R_drewN | apply Kd.R_drew)); exact Kd.R_mono HO732.out (fun _ hk => hk.2)⟩, ⟨by repeat (first | (with_reducible first | exact HB.out | apply below_alloc | apply pw_below_drewN | apply below_drew1) | exact HB.out)⟩⟩
          case round =>
            clear H'
            try clear c1
            try clear c2
            try clear c2b0
            try clear c2b1
            try clear p2
            try clear c11
            try clear c12
            try clear c21
            try clear p2
            obtain ⟨x6_2, x8_2, rfl, HA, HK2, HO_3, HO_6, HO_7, HB⟩ := hrel
            cases gk with
            | zero => exact absurd HA.out (by simp [laws_FnReadyTasksTop.l0])
            | succ k2 =>
              have H := HA.out
              clear HA
              simp only [laws_FnReadyTasksTop.l0] at H
              by_cases c31 : x8_2 < (t730.length : Int)
              · rw [if_pos c31] at H
                have c31b0 : decide (x8_2 < (t730.length : Int)) = true := decide_eq_true c31
                clear c31
                replace H := Option.bind_eq_some_iff.mp H
                obtain ⟨t733, A320, H⟩ := H
                replace H : (if (t733.length : Int) = 0 then (laws_FnReadyTasksTop.j2 k2 t709 x6_2 t730 x8_2 t733 true) else (if 0 < (t733.length : Int) then (if 0 ≤ x8_2 then (laws_FnReadyTasksTop.j2 k2 t709 x6_2 t730 x8_2 t733 ((rd t733 0) != (rd t730 x8_2))) else (none)) else (none))) = some r := H
                have A32 := Aside0.mk A320
                clear A320
                have HC33 := Aside0.mk H
                clear H
                obtain ⟨Ao34, co34, eo34⟩ := Kd.R_slice HO_7.out
                subst eo34
                obtain ⟨Ao35, co35, eo35⟩ := Kd.R_slice HO_6.out
                subst eo35
                go_upto_region 13 with (first | (go_at_call 49; (with_reducible refine (impl_ReadyTasks.calls _ _ t709 _ _ x6_2 t733 _ ?side1 ?side2 ?side3 ?side4 ?side5 A32.out).mono ?_); (case side1 => repeat (first | exact (Kd.S_reads' HO_3.out).2.2 | (with_reducible refine Kd.C_alloc ?_ _) | (with_reducible refine Kd.C_drewN ?_ _) | (with_reducible refine Kd.C_drew ?_))); (case side2 => exact (Kd.S_reads' HO_3.out).2.1); (case side3 => repeat (first | exact (Kd.R_reads' HO_6.out).2.2 | (with_reducible refine Kd.C_alloc ?_ _) | (with_reducible refine Kd.C_drewN ?_ _) | (with_reducible refine Kd.C_drew ?_))); (case side4 => exact (Kd.R_reads' HO_6.out).2.1); (case side5 => exact Tab.of HT.out (by repeat (first | (with_reducible first | exact HB.out | apply below_alloc | apply pw_below_drewN | apply below_drew1) | exact HB.out))); rintro e w36 ⟨v734, rfl, ho0, hb⟩; have n0_ := Aside0.mk (Kd.S_elder' (by (with_reducible repeat (first | apply Kd.S_alloc | apply Kd.S_drewN | apply Kd.S_drew)); exact HO_3.out) (Kd.R_base ho0) hb); have n1_ := Aside0.mk (Kd.R_elder' (by (with_reducible repeat (first | apply Kd.R_alloc | apply Kd.R_drewN | apply Kd.R_drew)); exact HO_6.out) (Kd.R_base ho0) hb); have n2_ := Aside0.mk (Kd.R_elder' (by (with_reducible repeat (first | apply Kd.R_alloc | apply Kd.R_drewN | apply Kd.R_drew)); exact HO_7.out) (Kd.R_base ho0) hb); have n3_ := Aside0.mk (Kd.R_lower (Kd.R_new' (Kd.R_new' ho0 (Kd.R_lt (by (with_reducible repeat (first | apply Kd.R_alloc | apply Kd.R_drewN | apply Kd.R_drew)); exact HO_6.out))) (Kd.R_lt (by (with_reducible repeat (first | apply Kd.R_alloc | apply Kd.R_drewN | apply Kd.R_drew)); exact HO_7.out))) (below_size (by repeat (first | (with_reducible first | exact HB.out | apply below_alloc | apply pw_below_drewN | apply below_drew1) | exact HB.out)))); have n4_ := Aside0.mk (below_step (by repeat (first | (with_reducible first | exact HB.out | apply below_alloc | apply pw_below_drewN | apply below_drew1) | exact HB.out)) hb); clear HO_3; clear HO_6; clear HO_7; clear HB; have HO_3 := n0_; have HO_6 := n1_; have HO_7 := n2_; have HO735 := n3_; have HB := n4_; clear n0_ n1_ n2_ n3_ n4_; (try clear hb); (try clear hb2); (try clear hk); (try clear hi); (try clear ho0)))
                repeat (go_quiet (first | (go_at_call 49; (with_reducible refine (impl_ReadyTasks.calls _ _ t709 _ _ x6_2 t733 _ ?side1 ?side2 ?side3 ?side4 ?side5 A32.out).mono ?_); (case side1 => repeat (first | exact (Kd.S_reads' HO_3.out).2.2 | (with_reducible refine Kd.C_alloc ?_ _) | (with_reducible refine Kd.C_drewN ?_ _) | (with_reducible refine Kd.C_drew ?_))); (case side2 => exact (Kd.S_reads' HO_3.out).2.1); (case side3 => repeat (first | exact (Kd.R_reads' HO_6.out).2.2 | (with_reducible refine Kd.C_alloc ?_ _) | (with_reducible refine Kd.C_drewN ?_ _) | (with_reducible refine Kd.C_drew ?_))); (case side4 => exact (Kd.R_reads' HO_6.out).2.1); (case side5 => exact Tab.of HT.out (by repeat (first | (with_reducible first | exact HB.out | apply below_alloc | apply pw_below_drewN | apply below_drew1) | exact HB.out))); rintro e w36 ⟨v734, rfl, ho0, hb⟩; have n0_ := Aside0.mk (Kd.S_elder' (by (with_reducible repeat (first | apply Kd.S_alloc | apply Kd.S_drewN | apply Kd.S_drew)); exact HO_3.out) (Kd.R_base ho0) hb); have n1_ := Aside0.mk (Kd.R_elder' (by (with_reducible repeat (first | apply Kd.R_alloc | apply Kd.R_drewN | apply Kd.R_drew)); exact HO_6.out) (Kd.R_base ho0) hb); have n2_ := Aside0.mk (Kd.R_elder' (by (with_reducible repeat (first | apply Kd.R_alloc | apply Kd.R_drewN | apply Kd.R_drew)); exact HO_7.out) (Kd.R_base ho0) hb); have n3_ := Aside0.mk (Kd.R_lower (Kd.R_new' (Kd.R_new' ho0 (Kd.R_lt (by (with_reducible repeat (first | apply Kd.R_alloc | apply Kd.R_drewN | apply Kd.R_drew)); exact HO_6.out))) (Kd.R_lt (by (with_reducible repeat (first | apply Kd.R_alloc | apply Kd.R_drewN | apply Kd.R_drew)); exact HO_7.out))) (below_size (by repeat (first | (with_reducible first | exact HB.out | apply below_alloc | apply pw_below_drewN | apply below_drew1) | exact HB.out)))); have n4_ := Aside0.mk (below_step (by repeat (first | (with_reducible first | exact HB.out | apply below_alloc | apply pw_below_drewN | apply below_drew1) | exact HB.out)) hb); clear HO_3; clear HO_6; clear HO_7; clear HB; have HO_3 := n0_; have HO_6 := n1_; have HO_7 := n2_; have HO735 := n3_; have HB := n4_; clear n0_ n1_ n2_ n3_ n4_; (try clear hb); (try clear hb2); (try clear hk); (try clear hi); (try clear ho0))); go_upto_region 13 with (first | (go_at_call 49; (with_reducible refine (impl_ReadyTasks.calls _ _ t709 _ _ x6_2 t733 _ ?side1 ?side2 ?side3 ?side4 ?side5 A32.out).mono ?_); (case side1 => repeat (first | exact (Kd.S_reads' HO_3.out).2.2 | (with_reducible refine Kd.C_alloc ?_ _) | (with_reducible refine Kd.C_drewN ?_ _) | (with_reducible refine Kd.C_drew ?_))); (case side2 => exact (Kd.S_reads' HO_3.out).2.1); (case side3 => repeat (first | exact (Kd.R_reads' HO_6.out).2.2 | (with_reducible refine Kd.C_alloc ?_ _) | (with_reducible refine Kd.C_drewN ?_ _) | (with_reducible refine Kd.C_drew ?_))); (case side4 => exact (Kd.R_reads' HO_6.out).2.1); (case side5 => exact Tab.of HT.out (by repeat (first | (with_reducible first | exact HB.out | apply below_alloc | apply pw_below_drewN | apply below_drew1) | exact HB.out))); rintro e w36 ⟨v734, rfl, ho0, hb⟩; have n0_ := Aside0.mk (Kd.S_elder' (by (with_reducible repeat (first | apply Kd.S_alloc | apply Kd.S_drewN | apply Kd.S_drew)); exact HO_3.out) (Kd.R_base ho0) hb); have n1_ := Aside0.mk (Kd.R_elder' (by (with_reducible repeat (first | apply Kd.R_alloc | apply Kd.R_drewN | apply Kd.R_drew)); exact HO_6.out) (Kd.R_base ho0) hb); have n2_ := Aside0.mk (Kd.R_elder' (by (with_reducible repeat (first | apply Kd.R_alloc | apply Kd.R_drewN | apply Kd.R_drew)); exact HO_7.out) (Kd.R_base ho0) hb); have n3_ := Aside0.mk (Kd.R_lower (Kd.R_new' (Kd.R_new' ho0 (Kd.R_lt (by (with_reducible repeat (first | apply Kd.R_alloc | apply Kd.R_drewN | apply Kd.R_drew)); exact HO_6.out))) (Kd.R_lt (by (with_reducible repeat (first | apply Kd.R_alloc | apply Kd.R_drewN | apply Kd.R_drew)); exact HO_7.out))) (below_size (by repeat (first | (with_reducible first | exact HB.out | apply below_alloc | apply pw_below_drewN | apply below_drew1) | exact HB.out)))); have n4_ := Aside0.mk (below_step (by repeat (first | (with_reducible first | exact HB.out | apply below_alloc | apply pw_below_drewN | apply below_drew1) | exact HB.out)) hb); clear HO_3; clear HO_6; clear HO_7; clear HB; have HO_3 := n0_; have HO_6 := n1_; have HO_7 := n2_; have HO735 := n3_; have HB := n4_; clear n0_ n1_ n2_ n3_ n4_; (try clear hb); (try clear hb2); (try clear hk); (try clear hi); (try clear ho0))))
                (try simp only [Act.put, List.setIfInBounds_toArray, List.set_cons_zero, List.set_cons_succ])
                go_cut [63] (fun v63 wc => ∃ (kq : Nat) (x63_32 : Bool), v63 = .bool x63_32 ∧ Aside0 (laws_FnReadyTasksTop.j2 kq t709 x6_2 t730 x8_2 t733 x63_32 = some r) ∧ Aside0 (kq ≤ k2) ∧ Aside0 (Kd.S k37 37 wc w.heap.size (fun k_ => some k_ ≠ ((.slice Ao35 x6_2.length co35) : Value).ownBlock ∧ some k_ ≠ ((.slice Ao34 t730.length co34) : Value).ownBlock ∧ some k_ ≠ (v734 : Value).ownBlock) (.slice Ao7 t709.length co7) t709) ∧ Aside0 (Kd.R (Kd.int .i64) 3 wc w.heap.size (fun k_ => some k_ ≠ ((.slice Ao34 t730.length co34) : Value).ownBlock ∧ some k_ ≠ (v734 : Value).ownBlock) (.slice Ao35 x6_2.length co35) x6_2) ∧ Aside0 (Kd.R (Kd.int .i64) 3 wc w.heap.size (fun k_ => some k_ ≠ ((.slice Ao35 x6_2.length co35) : Value).ownBlock ∧ some k_ ≠ (v734 : Value).ownBlock) (.slice Ao34 t730.length co34) t730) ∧ Aside0 (Kd.R (Kd.int .i64) 3 wc w.heap.size (fun k_ => some k_ ≠ ((.slice Ao35 x6_2.length co35) : Value).ownBlock ∧ some k_ ≠ ((.slice Ao34 t730.length co34) : Value).ownBlock) v734 t733) ∧ Aside0 (Below w.heap.size w wc))
                case first =>
                  have H := HC33.out
                  clear HC33
                  by_cases c37 : (t733.length : Int) = 0
                  · rw [if_pos c37] at H
                    have c37b0 : ((t733.length : Int) == 0) = true := beq_iff_eq.mpr c37
                    have c37b1 : ((t733.length : Int) != 0) = false := bne_eq_false_iff_eq.mpr c37
                    clear c37
                    (first | rw [c37b0] | (simp only [i64_w, i32_w]; rw [c37b0]) | skip)
                    have H' := Aside0.mk H
                    clear H
                    obtain ⟨Ao38, co38, eo38⟩ := Kd.R_slice HO735.out
                    subst eo38
                    go_wp2
                    repeat (go_quiet (fail); try go_wp2)
                    go_meet
                    case rel => exact ⟨_, (true), (by first | rfl | (simp; done) | (simp [*]; done)), H', ⟨by have := HJ4.out; have := HK2.out; first | omega | exact Nat.le_refl _⟩, ⟨by (with_reducible repeat (first | apply Kd.S_alloc | apply Kd.S_drewN | apply Kd.S_drew)); exact Kd.S_mono HO_3.out (fun _ hk => ⟨hk.1.1, ⟨hk.1.2, hk.2⟩⟩)⟩, ⟨by (with_reducible repeat (first | apply Kd.R_alloc | apply Kd.R_drewN | apply Kd.R_drew)); exact HO_6.out⟩, ⟨by (with_reducible repeat (first | apply Kd.R_alloc | apply Kd.R_drewN | apply Kd.R_drew)); exact HO_7.out⟩, ⟨by (with_reducible repeat (first | apply Kd.R_alloc | apply Kd.R_drewN | apply Kd.R_drew)); exact Kd.R_mono HO735.out (fun _ hk => ⟨hk.1.2, hk.2⟩)⟩, ⟨by repeat (first | (with_reducible first | exact HB.out | apply below_alloc | apply pw_below_drewN | apply below_drew1) | exact HB.out)⟩⟩
                  · rw [if_neg c37] at H
                    have c37b0 : ((t733.length : Int) == 0) = false := beq_eq_false_iff_ne.mpr c37
                    have c37b1 : ((t733.length : Int) != 0) = true := bne_iff_ne.mpr c37
                    have c37b2 : ¬ (t733 = []) := fun h_ => c37 (by rw [h_]; rfl)
                    (first | rw [c37b0] | (simp only [i64_w, i32_w]; rw [c37b0]) | skip)
                    by_cases c39 : 0 < (t733.length : Int)
                    · rw [if_pos c39] at H
                      have c39b0 : decide (0 < (t733.length : Int)) = true := decide_eq_true c39
                      have c39b1 : decide (0 < t733.length) = true := decide_eq_true (by omega)
                      clear c39
                      by_cases c40 : 0 ≤ x8_2
                      · rw [if_pos c40] at H
                        have c40b0 : decide (0 ≤ x8_2) = true := decide_eq_true c40
                        clear c40
                        have H' := Aside0.mk H
                        clear H
                        obtain ⟨Ao41, co41, eo41⟩ := Kd.R_slice HO735.out
                        subst eo41
                        have p736 : 0 ≤ (0 : Int) := (by omega)
                        have q736 : 0 < (t733.length : Int) := of_decide_eq_true (by first | (with_reducible assumption) | assumption)
                        obtain ⟨ad736, e736, hx736_0⟩ := Kd.at_int (Kd.R_reads' HO735.out).2.2 0 p736 q736
                        cases e736
                        have qi736 : (0 < t733.length) = True := eq_true (by omega)
                        (try rw [show ((0 : Int)).toNat = 0 from rfl] at hx736_0)
                        (try rw [Addr.add_zero'] at hx736_0)
                        replace p736 := eq_true p736
                        replace q736 := eq_true q736
                        have p737 : 0 ≤ (x8_2 : Int) := of_decide_eq_true (by first | (with_reducible assumption) | assumption)
                        have q737 : x8_2 < (t730.length : Int) := of_decide_eq_true (by first | (with_reducible assumption) | assumption)
                        obtain ⟨ad737, e737, hx737_0⟩ := Kd.at_int (Kd.R_reads' HO_7.out).2.2 x8_2 p737 q737
                        cases e737
                        replace p737 := eq_true p737
                        replace q737 := eq_true q737
                        go_wp2
                        repeat (go_quiet (fail); try go_wp2)
                        go_meet
                        case rel => exact ⟨_, (((rd t733 0) != (rd t730 x8_2))), (by first | rfl | (simp; done) | (simp [*]; done)), H', ⟨by have := HJ4.out; have := HK2.out; first | omega | exact Nat.le_refl _⟩, ⟨by (with_reducible repeat (first | apply Kd.S_alloc | apply Kd.S_drewN | apply Kd.S_drew)); exact Kd.S_mono HO_3.out (fun _ hk => ⟨hk.1.1, ⟨hk.1.2, hk.2⟩⟩)⟩, ⟨by (with_reducible repeat (first | apply Kd.R_alloc | apply Kd.R_drewN | apply Kd.R_drew)); exact HO_6.out⟩, ⟨by (with_reducible repeat (first | apply Kd.R_alloc | apply Kd.R_drewN | apply Kd.R_drew)); exact HO_7.out⟩, ⟨by (with_reducible repeat (first | apply Kd.R_alloc | apply Kd.R_drewN | apply Kd.R_drew)); exact Kd.R_mono HO735.out (fun _ hk => ⟨hk.1.2, hk.2⟩)⟩, ⟨by repeat (first | (with_reducible first | exact HB.out | apply below_alloc | apply pw_below_drewN | apply below_drew1) | exact HB.out)⟩⟩
                      · rw [if_neg c40] at H
                        exact absurd H (by simp)
                    · rw [if_neg c39] at H
                      exact absurd H (by simp)
                case rest =>
                  clear HC33
                  try clear c1
                  try clear c2
                  try clear c2b0
                  try clear c2b1
                  try clear p2
                  try clear c3
                  try clear c4
                  try clear p7
                  try clear q7
                  try clear hx7
                  try clear qi7
                  try clear c11
                  try clear c12
                  try clear c21
                  try clear c31
                  try clear c31b0
                  try clear c37
                  try clear c37b0
                  try clear c37b1
                  try clear c37b2
                  try clear c39
                  try clear c39b0
                  try clear c39b1
                  try clear c40
                  try clear c40b0
                  try clear hx736_0
                  try clear hx737_0
                  try clear p2
                  try clear p736
                  try clear p737
                  try clear q736
                  try clear q737
                  obtain ⟨kq, x63_32, rfl, HA, HJ32, HO_3, HO_6, HO_7, HO_9, HB⟩ := hcut
                  cases kq with
                  | zero => exact absurd HA.out (by simp [laws_FnReadyTasksTop.j2])
                  | succ kj32 =>
                    have H := HA.out
                    clear HA
                    simp only [laws_FnReadyTasksTop.j2] at H
                    by_cases c42 : x63_32 = true
                    · subst c42
                      have H1 : (some false) = some r := by rw [if_pos rfl] at H; exact H
                      clear H
                      have H := H1
                      clear H1
                      obtain rfl := Option.some.inj H
                      go_wp2
                      repeat (go_quiet (fail); try go_wp2)
                      go_ret
                      exact ⟨by first | rfl | (simp [errW_none, errW_some] <;> rfl) | (simp [*, errW_none, errW_some] <;> rfl), by repeat (first | (with_reducible first | exact HB.out | apply below_alloc | apply pw_below_drewN | apply below_drew1) | exact HB.out)⟩
                    · replace c42 := Bool.eq_false_iff.mpr c42
                      subst c42
                      have H1 : (if 0 < (t733.length : Int) then ((impl_FinishTask.f t709 x6_2 (rd t733 0)).bind fun bt739 => (if bt739.2 = true then (laws_FnReadyTasksTop.l0 kj32 t709 bt739.1 t730 (wrap64 (x8_2 + 1))) else (some false))) else (none)) = some r := by rw [if_neg (show ¬ (false = true) by decide)] at H; exact H
                      clear H
                      have H := H1
                      clear H1
                      by_cases c43 : 0 < (t733.length : Int)
                      · rw [if_pos c43] at H
                        have c43b0 : decide (0 < (t733.length : Int)) = true := decide_eq_true c43
                        have c43b1 : decide (0 < t733.length) = true := decide_eq_true (by omega)
                        clear c43
                        replace H := Option.bind_eq_some_iff.mp H
                        obtain ⟨⟨t739, t740⟩, A440, H⟩ := H
                        replace H : (if t740 = true then (laws_FnReadyTasksTop.l0 kj32 t709 t739 t730 (wrap64 (x8_2 + 1))) else (some false)) = some r := H
                        have A44 := Aside0.mk A440
                        clear A440
                        by_cases c45 : t740 = true
                        · subst c45
                          have H1 : (laws_FnReadyTasksTop.l0 kj32 t709 t739 t730 (wrap64 (x8_2 + 1))) = some r := by rw [if_pos rfl] at H; exact H
                          clear H
                          have H := H1
                          clear H1
                          have H' := Aside0.mk H
                          clear H
                          obtain ⟨Ao46, co46, eo46⟩ := Kd.R_slice HO_9.out
                          subst eo46
                          have p738 : 0 ≤ (0 : Int) := (by omega)
                          have q738 : 0 < (t733.length : Int) := of_decide_eq_true (by first | (with_reducible assumption) | assumption)
                          obtain ⟨ad738, e738, hx738_0⟩ := Kd.at_int (Kd.R_reads' HO_9.out).2.2 0 p738 q738
                          cases e738
                          have qi738 : (0 < t733.length) = True := eq_true (by omega)
                          (try rw [show ((0 : Int)).toNat = 0 from rfl] at hx738_0)
                          (try rw [Addr.add_zero'] at hx738_0)
                          replace p738 := eq_true p738
                          replace q738 := eq_true q738
                          go_wp2_with (first | (go_at_call 45; (with_reducible refine (impl_FinishTask.calls _ _ t709 _ _ x6_2 (rd t733 0) t739 true _ ?side1 ?side2 ?side3 ?side4 ?side5 A44.out).mono ?_); (case side1 => repeat (first | exact (Kd.S_reads' HO_3.out).2.2 | (with_reducible refine Kd.C_alloc ?_ _) | (with_reducible refine Kd.C_drewN ?_ _) | (with_reducible refine Kd.C_drew ?_))); (case side2 => exact (Kd.S_reads' HO_3.out).2.1); (case side3 => repeat (first | exact (Kd.R_reads' HO_6.out).2.2 | (with_reducible refine Kd.C_alloc ?_ _) | (with_reducible refine Kd.C_drewN ?_ _) | (with_reducible refine Kd.C_drew ?_))); (case side4 => exact (Kd.R_reads' HO_6.out).2.1); (case side5 => exact Tab.of HT.out (by repeat (first | (with_reducible first | exact HB.out | apply below_alloc | apply pw_below_drewN | apply below_drew1) | exact HB.out))); rintro e w47 ⟨v741, rfl, ho0, hb⟩; have n0_ := Aside0.mk (Kd.S_elder' (by (with_reducible repeat (first | apply Kd.S_alloc | apply Kd.S_drewN | apply Kd.S_drew)); exact HO_3.out) (Kd.R_base ho0) hb); have n1_ := Aside0.mk (Kd.R_elder' (by (with_reducible repeat (first | apply Kd.R_alloc | apply Kd.R_drewN | apply Kd.R_drew)); exact HO_6.out) (Kd.R_base ho0) hb); have n2_ := Aside0.mk (Kd.R_elder' (by (with_reducible repeat (first | apply Kd.R_alloc | apply Kd.R_drewN | apply Kd.R_drew)); exact HO_7.out) (Kd.R_base ho0) hb); have n3_ := Aside0.mk (Kd.R_elder' (by (with_reducible repeat (first | apply Kd.R_alloc | apply Kd.R_drewN | apply Kd.R_drew)); exact HO_9.out) (Kd.R_base ho0) hb); have n4_ := Aside0.mk (Kd.R_lower (Kd.R_new' (Kd.R_new' (Kd.R_new' ho0 (Kd.R_lt (by (with_reducible repeat (first | apply Kd.R_alloc | apply Kd.R_drewN | apply Kd.R_drew)); exact HO_6.out))) (Kd.R_lt (by (with_reducible repeat (first | apply Kd.R_alloc | apply Kd.R_drewN | apply Kd.R_drew)); exact HO_7.out))) (Kd.R_lt (by (with_reducible repeat (first | apply Kd.R_alloc | apply Kd.R_drewN | apply Kd.R_drew)); exact HO_9.out))) (below_size (by repeat (first | (with_reducible first | exact HB.out | apply below_alloc | apply pw_below_drewN | apply below_drew1) | exact HB.out)))); have n5_ := Aside0.mk (below_step (by repeat (first | (with_reducible first | exact HB.out | apply below_alloc | apply pw_below_drewN | apply below_drew1) | exact HB.out)) hb); clear HO_3; clear HO_6; clear HO_7; clear HO_9; clear HB; have HO_3 := n0_; have HO_6 := n1_; have HO_7 := n2_; have HO_9 := n3_; have HO742 := n4_; have HB := n5_; clear n0_ n1_ n2_ n3_ n4_ n5_; (try clear hb); (try clear hb2); (try clear hk); (try clear hi); (try clear ho0)))
                          repeat (go_quiet (first | (go_at_call 45; (with_reducible refine (impl_FinishTask.calls _ _ t709 _ _ x6_2 (rd t733 0) t739 true _ ?side1 ?side2 ?side3 ?side4 ?side5 A44.out).mono ?_); (case side1 => repeat (first | exact (Kd.S_reads' HO_3.out).2.2 | (with_reducible refine Kd.C_alloc ?_ _) | (with_reducible refine Kd.C_drewN ?_ _) | (with_reducible refine Kd.C_drew ?_))); (case side2 => exact (Kd.S_reads' HO_3.out).2.1); (case side3 => repeat (first | exact (Kd.R_reads' HO_6.out).2.2 | (with_reducible refine Kd.C_alloc ?_ _) | (with_reducible refine Kd.C_drewN ?_ _) | (with_reducible refine Kd.C_drew ?_))); (case side4 => exact (Kd.R_reads' HO_6.out).2.1); (case side5 => exact Tab.of HT.out (by repeat (first | (with_reducible first | exact HB.out | apply below_alloc | apply pw_below_drewN | apply below_drew1) | exact HB.out))); rintro e w47 ⟨v741, rfl, ho0, hb⟩; have n0_ := Aside0.mk (Kd.S_elder' (by (with_reducible repeat (first | apply Kd.S_alloc | apply Kd.S_drewN | apply Kd.S_drew)); exact HO_3.out) (Kd.R_base ho0) hb); have n1_ := Aside0.mk (Kd.R_elder' (by (with_reducible repeat (first | apply Kd.R_alloc | apply Kd.R_drewN | apply Kd.R_drew)); exact HO_6.out) (Kd.R_base ho0) hb); have n2_ := Aside0.mk (Kd.R_elder' (by (with_reducible repeat (first | apply Kd.R_alloc | apply Kd.R_drewN | apply Kd.R_drew)); exact HO_7.out) (Kd.R_base ho0) hb); have n3_ := Aside0.mk (Kd.R_elder' (by (with_reducible repeat (first | apply Kd.R_alloc | apply Kd.R_drewN | apply Kd.R_drew)); exact HO_9.out) (Kd.R_base ho0) hb); have n4_ := Aside0.mk (Kd.R_lower (Kd.R_new' (Kd.R_new' (Kd.R_new' ho0 (Kd.R_lt (by (with_reducible repeat (first | apply Kd.R_alloc | apply Kd.R_drewN | apply Kd.R_drew)); exact HO_6.out))) (Kd.R_lt (by (with_reducible repeat (first | apply Kd.R_alloc | apply Kd.R_drewN | apply Kd.R_drew)); exact HO_7.out))) (Kd.R_lt (by (with_reducible repeat (first | apply Kd.R_alloc | apply Kd.R_drewN | apply Kd.R_drew)); exact HO_9.out))) (below_size (by repeat (first | (with_reducible first | exact HB.out | apply below_alloc | apply pw_below_drewN | apply below_drew1) | exact HB.out)))); have n5_ := Aside0.mk (below_step (by repeat (first | (with_reducible first | exact HB.out | apply below_alloc | apply pw_below_drewN | apply below_drew1) | exact HB.out)) hb); clear HO_3; clear HO_6; clear HO_7; clear HO_9; clear HB; have HO_3 := n0_; have HO_6 := n1_; have HO_7 := n2_; have HO_9 := n3_; have HO742 := n4_; have HB := n5_; clear n0_ n1_ n2_ n3_ n4_ n5_; (try clear hb); (try clear hb2); (try clear hk); (try clear hi); (try clear ho0))); try go_wp2_with (first | (go_at_call 45; (with_reducible refine (impl_FinishTask.calls _ _ t709 _ _ x6_2 (rd t733 0) t739 true _ ?side1 ?side2 ?side3 ?side4 ?side5 A44.out).mono ?_); (case side1 => repeat (first | exact (Kd.S_reads' HO_3.out).2.2 | (with_reducible refine Kd.C_alloc ?_ _) | (with_reducible refine Kd.C_drewN ?_ _) | (with_reducible refine Kd.C_drew ?_))); (case side2 => exact (Kd.S_reads' HO_3.out).2.1); (case side3 => repeat (first | exact (Kd.R_reads' HO_6.out).2.2 | (with_reducible refine Kd.C_alloc ?_ _) | (with_reducible refine Kd.C_drewN ?_ _) | (with_reducible refine Kd.C_drew ?_))); (case side4 => exact (Kd.R_reads' HO_6.out).2.1); (case side5 => exact Tab.of HT.out (by repeat (first | (with_reducible first | exact HB.out | apply below_alloc | apply pw_below_drewN | apply below_drew1) | exact HB.out))); rintro e w47 ⟨v741, rfl, ho0, hb⟩; have n0_ := Aside0.mk (Kd.S_elder' (by (with_reducible repeat (first | apply Kd.S_alloc | apply Kd.S_drewN | apply Kd.S_drew)); exact HO_3.out) (Kd.R_base ho0) hb); have n1_ := Aside0.mk (Kd.R_elder' (by (with_reducible repeat (first | apply Kd.R_alloc | apply Kd.R_drewN | apply Kd.R_drew)); exact HO_6.out) (Kd.R_base ho0) hb); have n2_ := Aside0.mk (Kd.R_elder' (by (with_reducible repeat (first | apply Kd.R_alloc | apply Kd.R_drewN | apply Kd.R_drew)); exact HO_7.out) (Kd.R_base ho0) hb); have n3_ := Aside0.mk (Kd.R_elder' (by (with_reducible repeat (first | apply Kd.R_alloc | apply Kd.R_drewN | apply Kd.R_drew)); exact HO_9.out) (Kd.R_base ho0) hb); have n4_ := Aside0.mk (Kd.R_lower (Kd.R_new' (Kd.R_new' (Kd.R_new' ho0 (Kd.R_lt (by (with_reducible repeat (first | apply Kd.R_alloc | apply Kd.R_drewN | apply Kd.R_drew)); exact HO_6.out))) (Kd.R_lt (by (with_reducible repeat (first | apply Kd.R_alloc | apply Kd.R_drewN | apply Kd.R_drew)); exact HO_7.out))) (Kd.R_lt (by (with_reducible repeat (first | apply Kd.R_alloc | apply Kd.R_drewN | apply Kd.R_drew)); exact HO_9.out))) (below_size (by repeat (first | (with_reducible first | exact HB.out | apply below_alloc | apply pw_below_drewN | apply below_drew1) | exact HB.out)))); have n5_ := Aside0.mk (below_step (by repeat (first | (with_reducible first | exact HB.out | apply below_alloc | apply pw_below_drewN | apply below_drew1) | exact HB.out)) hb); clear HO_3; clear HO_6; clear HO_7; clear HO_9; clear HB; have HO_3 := n0_; have HO_6 := n1_; have HO_7 := n2_; have HO_9 := n3_; have HO742 := n4_; have HB := n5_; clear n0_ n1_ n2_ n3_ n4_ n5_; (try clear hb); (try clear hb2); (try clear hk); (try clear hi); (try clear ho0))))
                          go_roundg kj32
                          case measure => have := HJ4.out; have := HK2.out; have := HJ32.out; omega
                          case rel => exact ⟨(t739), (wrap64 (x8_2 + 1)), (by first | rfl | (simp; done) | (simp [*]; done)), H', ⟨by have := HJ4.out; have := HK2.out; have := HJ32.out; omega⟩, ⟨by (with_reducible repeat (first | apply Kd.S_alloc | apply Kd.S_drewN | apply Kd.S_drew)); exact Kd.S_mono HO_3.out (fun _ hk => ⟨hk.2, hk.1.2.1⟩)⟩, ⟨by (with_reducible repeat (first | apply Kd.R_alloc | apply Kd.R_drewN | apply Kd.R_drew)); exact Kd.R_mono HO742.out (fun _ hk => hk.1.2)⟩, ⟨by (with_reducible repeat (first | apply Kd.R_alloc | apply Kd.R_drewN | apply Kd.R_drew)); exact Kd.R_mono HO_7.out (fun _ hk => hk.2)⟩, ⟨by repeat (first | (with_reducible first | exact HB.out | apply below_alloc | apply pw_below_drewN | apply below_drew1) | exact HB.out)⟩⟩
                        · replace c45 := Bool.eq_false_iff.mpr c45
                          subst c45
                          have H1 : (some false) = some r := by rw [if_neg (show ¬ (false = true) by decide)] at H; exact H
                          clear H
                          have H := H1
                          clear H1
                          obtain rfl := Option.some.inj H
                          obtain ⟨Ao48, co48, eo48⟩ := Kd.R_slice HO_9.out
                          subst eo48
                          have p738 : 0 ≤ (0 : Int) := (by omega)
                          have q738 : 0 < (t733.length : Int) := of_decide_eq_true (by first | (with_reducible assumption) | assumption)
                          obtain ⟨ad738, e738, hx738_0⟩ := Kd.at_int (Kd.R_reads' HO_9.out).2.2 0 p738 q738
                          cases e738
                          have qi738 : (0 < t733.length) = True := eq_true (by omega)
                          (try rw [show ((0 : Int)).toNat = 0 from rfl] at hx738_0)
                          (try rw [Addr.add_zero'] at hx738_0)
                          replace p738 := eq_true p738
                          replace q738 := eq_true q738
                          go_wp2_with (first | (go_at_call 45; (with_reducible refine (impl_FinishTask.calls _ _ t709 _ _ x6_2 (rd t733 0) t739 false _ ?side1 ?side2 ?side3 ?side4 ?side5 A44.out).mono ?_); (case side1 => repeat (first | exact (Kd.S_reads' HO_3.out).2.2 | (with_reducible refine Kd.C_alloc ?_ _) | (with_reducible refine Kd.C_drewN ?_ _) | (with_reducible refine Kd.C_drew ?_))); (case side2 => exact (Kd.S_reads' HO_3.out).2.1); (case side3 => repeat (first | exact (Kd.R_reads' HO_6.out).2.2 | (with_reducible refine Kd.C_alloc ?_ _) | (with_reducible refine Kd.C_drewN ?_ _) | (with_reducible refine Kd.C_drew ?_))); (case side4 => exact (Kd.R_reads' HO_6.out).2.1); (case side5 => exact Tab.of HT.out (by repeat (first | (with_reducible first | exact HB.out | apply below_alloc | apply pw_below_drewN | apply below_drew1) | exact HB.out))); rintro e w49 ⟨v741, rfl, ho0, hb⟩; have n0_ := Aside0.mk (Kd.S_elder' (by (with_reducible repeat (first | apply Kd.S_alloc | apply Kd.S_drewN | apply Kd.S_drew)); exact HO_3.out) (Kd.R_base ho0) hb); have n1_ := Aside0.mk (Kd.R_elder' (by (with_reducible repeat (first | apply Kd.R_alloc | apply Kd.R_drewN | apply Kd.R_drew)); exact HO_6.out) (Kd.R_base ho0) hb); have n2_ := Aside0.mk (Kd.R_elder' (by (with_reducible repeat (first | apply Kd.R_alloc | apply Kd.R_drewN | apply Kd.R_drew)); exact HO_7.out) (Kd.R_base ho0) hb); have n3_ := Aside0.mk (Kd.R_elder' (by (with_reducible repeat (first | apply Kd.R_alloc | apply Kd.R_drewN | apply Kd.R_drew)); exact HO_9.out) (Kd.R_base ho0) hb); have n4_ := Aside0.mk (Kd.R_lower (Kd.R_new' (Kd.R_new' (Kd.R_new' ho0 (Kd.R_lt (by (with_reducible repeat (first | apply Kd.R_alloc | apply Kd.R_drewN | apply Kd.R_drew)); exact HO_6.out))) (Kd.R_lt (by (with_reducible repeat (first | apply Kd.R_alloc | apply Kd.R_drewN | apply Kd.R_drew)); exact HO_7.out))) (Kd.R_lt (by (with_reducible repeat (first | apply Kd.R_alloc | apply Kd.R_drewN | apply Kd.R_drew)); exact HO_9.out))) (below_size (by repeat (first | (with_reducible first | exact HB.out | apply below_alloc | apply pw_below_drewN | apply below_drew1) | exact HB.out)))); have n5_ := Aside0.mk (below_step (by repeat (first | (with_reducible first | exact HB.out | apply below_alloc | apply pw_below_drewN | apply below_drew1) | exact HB.out)) hb); clear HO_3; clear HO_6; clear HO_7; clear HO_9; clear HB; have HO_3 := n0_; have HO_6 := n1_; have HO_7 := n2_; have HO_9 := n3_; have HO742 := n4_; have HB := n5_; clear n0_ n1_ n2_ n3_ n4_ n5_; (try clear hb); (try clear hb2); (try clear hk); (try clear hi); (try clear ho0)))
                          repeat (go_quiet (first | (go_at_call 45; (with_reducible refine (impl_FinishTask.calls _ _ t709 _ _ x6_2 (rd t733 0) t739 false _ ?side1 ?side2 ?side3 ?side4 ?side5 A44.out).mono ?_); (case side1 => repeat (first | exact (Kd.S_reads' HO_3.out).2.2 | (with_reducible refine Kd.C_alloc ?_ _) | (with_reducible refine Kd.C_drewN ?_ _) | (with_reducible refine Kd.C_drew ?_))); (case side2 => exact (Kd.S_reads' HO_3.out).2.1); (case side3 => repeat (first | exact (Kd.R_reads' HO_6.out).2.2 | (with_reducible refine Kd.C_alloc ?_ _) | (with_reducible refine Kd.C_drewN ?_ _) | (with_reducible refine Kd.C_drew ?_))); (case side4 => exact (Kd.R_reads' HO_6.out).2.1); (case side5 => exact Tab.of HT.out (by repeat (first | (with_reducible first | exact HB.out | apply below_alloc | apply pw_below_drewN | apply below_drew1) | exact HB.out))); rintro e w49 ⟨v741, rfl, ho0, hb⟩; have n0_ := Aside0.mk (Kd.S_elder' (by (with_reducible repeat (first | apply Kd.S_alloc | apply Kd.S_drewN | apply Kd.S_drew)); exact HO_3.out) (Kd.R_base ho0) hb); have n1_ := Aside0.mk (Kd.R_elder' (by (with_reducible repeat (first | apply Kd.R_alloc | apply Kd.R_drewN | apply Kd.R_drew)); exact HO_6.out) (Kd.R_base ho0) hb); have n2_ := Aside0.mk (Kd.R_elder' (by (with_reducible repeat (first | apply Kd.R_alloc | apply Kd.R_drewN | apply Kd.R_drew)); exact HO_7.out) (Kd.R_base ho0) hb); have n3_ := Aside0.mk (Kd.R_elder' (by (with_reducible repeat (first | apply Kd.R_alloc | apply Kd.R_drewN | apply Kd.R_drew)); exact HO_9.out) (Kd.R_base ho0) hb); have n4_ := Aside0.mk (Kd.R_lower (Kd.R_new' (Kd.R_new' (Kd.R_new' ho0 (Kd.R_lt (by (with_reducible repeat (first | apply Kd.R_alloc | apply Kd.R_drewN | apply Kd.R_drew)); exact HO_6.out))) (Kd.R_lt (by (with_reducible repeat (first | apply Kd.R_alloc | apply Kd.R_drewN | apply Kd.R_drew)); exact HO_7.out))) (Kd.R_lt (by (with_reducible repeat (first | apply Kd.R_alloc | apply Kd.R_drewN | apply Kd.R_drew)); exact HO_9.out))) (below_size (by repeat (first | (with_reducible first | exact HB.out | apply below_alloc | apply pw_below_drewN | apply below_drew1) | exact HB.out)))); have n5_ := Aside0.mk (below_step (by repeat (first | (with_reducible first | exact HB.out | apply below_alloc | apply pw_below_drewN | apply below_drew1) | exact HB.out)) hb); clear HO_3; clear HO_6; clear HO_7; clear HO_9; clear HB; have HO_3 := n0_; have HO_6 := n1_; have HO_7 := n2_; have HO_9 := n3_; have HO742 := n4_; have HB := n5_; clear n0_ n1_ n2_ n3_ n4_ n5_; (try clear hb); (try clear hb2); (try clear hk); (try clear hi); (try clear ho0))); try go_wp2_with (first | (go_at_call 45; (with_reducible refine (impl_FinishTask.calls _ _ t709 _ _ x6_2 (rd t733 0) t739 false _ ?side1 ?side2 ?side3 ?side4 ?side5 A44.out).mono ?_); (case side1 => repeat (first | exact (Kd.S_reads' HO_3.out).2.2 | (with_reducible refine Kd.C_alloc ?_ _) | (with_reducible refine Kd.C_drewN ?_ _) | (with_reducible refine Kd.C_drew ?_))); (case side2 => exact (Kd.S_reads' HO_3.out).2.1); (case side3 => repeat (first | exact (Kd.R_reads' HO_6.out).2.2 | (with_reducible refine Kd.C_alloc ?_ _) | (with_reducible refine Kd.C_drewN ?_ _) | (with_reducible refine Kd.C_drew ?_))); (case side4 => exact (Kd.R_reads' HO_6.out).2.1); (case side5 => exact Tab.of HT.out (by repeat (first | (with_reducible first | exact HB.out | apply below_alloc | apply pw_below_drewN | apply below_drew1) | exact HB.out))); rintro e w49 ⟨v741, rfl, ho0, hb⟩; have n0_ := Aside0.mk (Kd.S_elder' (by (with_reducible repeat (first | apply Kd.S_alloc | apply Kd.S_drewN | apply Kd.S_drew)); exact HO_3.out) (Kd.R_base ho0) hb); have n1_ := Aside0.mk (Kd.R_elder' (by (with_reducible repeat (first | apply Kd.R_alloc | apply Kd.R_drewN | apply Kd.R_drew)); exact HO_6.out) (Kd.R_base ho0) hb); have n2_ := Aside0.mk (Kd.R_elder' (by (with_reducible repeat (first | apply Kd.R_alloc | apply Kd.R_drewN | apply Kd.R_drew)); exact HO_7.out) (Kd.R_base ho0) hb); have n3_ := Aside0.mk (Kd.R_elder' (by (with_reducible repeat (first | apply Kd.R_alloc | apply Kd.R_drewN | apply Kd.R_drew)); exact HO_9.out) (Kd.R_base ho0) hb); have n4_ := Aside0.mk (Kd.R_lower (Kd.R_new' (Kd.R_new' (Kd.R_new' ho0 (Kd.R_lt (by (with_reducible repeat (first | apply Kd.R_alloc | apply Kd.R_drewN | apply Kd.R_drew)); exact HO_6.out))) (Kd.R_lt (by (with_reducible repeat (first | apply Kd.R_alloc | apply Kd.R_drewN | apply Kd.R_drew)); exact HO_7.out))) (Kd.R_lt (by (with_reducible repeat (first | apply Kd.R_alloc | apply Kd.R_drewN | apply Kd.R_drew)); exact HO_9.out))) (below_size (by repeat (first | (with_reducible first | exact HB.out | apply below_alloc | apply pw_below_drewN | apply below_drew1) | exact HB.out)))); have n5_ := Aside0.mk (below_step (by repeat (first | (with_reducible first | exact HB.out | apply below_alloc | apply pw_below_drewN | apply below_drew1) | exact HB.out)) hb); clear HO_3; clear HO_6; clear HO_7; clear HO_9; clear HB; have HO_3 := n0_; have HO_6 := n1_; have HO_7 := n2_; have HO_9 := n3_; have HO742 := n4_; have HB := n5_; clear n0_ n1_ n2_ n3_ n4_ n5_; (try clear hb); (try clear hb2); (try clear hk); (try clear hi); (try clear ho0))))
                          go_ret
                          exact ⟨by first | rfl | (simp [errW_none, errW_some] <;> rfl) | (simp [*, errW_none, errW_some] <;> rfl), by repeat (first | (with_reducible first | exact HB.out | apply below_alloc | apply pw_below_drewN | apply below_drew1) | exact HB.out)⟩
                      · rw [if_neg c43] at H
                        exact absurd H (by simp)
              · rw [if_neg c31] at H
                have c31b0 : decide (x8_2 < (t730.length : Int)) = false := decide_eq_false c31
                clear c31
                obtain rfl := Option.some.inj H
                obtain ⟨Ao50, co50, eo50⟩ := Kd.R_slice HO_7.out
                subst eo50
                obtain ⟨Ao51, co51, eo51⟩ := Kd.R_slice HO_6.out
                subst eo51
                go_wp2
                repeat (go_quiet (fail); try go_wp2)
                go_ret
                exact ⟨by first | rfl | (simp [errW_none, errW_some] <;> rfl) | (simp [*, errW_none, errW_some] <;> rfl), by repeat (first | (with_reducible first | exact HB.out | apply below_alloc | apply pw_below_drewN | apply below_drew1) | exact HB.out)⟩
end Go.Proofs.YtekajandipdlhaaDoor.P
end
section
set_option linter.unusedVariables false
set_option linter.unusedSimpArgs false
namespace Go.Proofs.YtekajandipdlhaaDoor.Core
open Go Go.RowKit Go.Proofs.YtekajandipdlhaaDoorW.PrintWords Go.Proofs.YtekajandipdlhaaDoorW.PrintMore Go.Proofs.YtekajandipdlhaaDoor.P
theorem ev_DrawValidDone {l : List Int} (h : Bytes l) : EvP (fun k => spec_DrawValidDone.f k l) (fun r => GSmall 16 10 r.1 ∧ r.2.length ≤ 9) := by
  unfold spec_DrawValidDone.f
  refine (ev_newReader h).bind fun a ha => ?_
  refine (ev_anyGraph ha (by omega)).bind fun b hb => ?_
  refine (ev_someDone hb.2 (by omega) (hb.1.fits (by unfold big; omega) (by unfold big; omega)) hb.1.1).bind fun d hd => ?_
  exact EvP.ret ⟨hb.1, hd.1⟩
end Go.Proofs.YtekajandipdlhaaDoor.Core
end
section
set_option linter.unusedVariables false
set_option linter.unusedSimpArgs false
namespace Go.Proofs.YtekajandipdlhaaDoor.Core
open Go Go.RowKit Go.Proofs.YtekajandipdlhaaDoorW.PrintWords Go.Proofs.YtekajandipdlhaaDoorW.PrintMore Go.Proofs.YtekajandipdlhaaDoor.P
theorem ev_DrawReadyTasks {l : List Int} (h : Bytes l) : EvP (fun k => spec_DrawReadyTasks.f k l) (fun r => GSmall 16 10 r.1 ∧ r.2.length ≤ 9) := by
  unfold spec_DrawReadyTasks.f
  exact (ev_DrawValidDone h).bind fun a ha => EvP.ret ha
end Go.Proofs.YtekajandipdlhaaDoor.Core
end
section
set_option linter.unusedVariables false
set_option linter.unusedSimpArgs false
namespace Go.Proofs.YtekajandipdlhaaDoor.Core
open Go Go.RowKit Go.Proofs.YtekajandipdlhaaDoorW.PrintWords Go.Proofs.YtekajandipdlhaaDoorW.PrintMore Go.Proofs.YtekajandipdlhaaDoor.P
theorem elemsN_range' {s n : Nat} (hn : n ≤ 8) (hs : s < 2 ^ n) : elemsN s = (List.range n).filter (fun i => s.testBit i) := by
  have e8 : List.range 8 = List.range n ++ (List.range (8 - n)).map (n + ·) := by rw [← List.range_add]; congr 1; omega
  unfold elemsN
  rw [e8, List.filter_append]
  have e2 : ((List.range (8 - n)).map (n + ·)).filter (fun i => s.testBit i) = [] := by
    rw [List.filter_eq_nil_iff]
    intro y hy hb
    obtain ⟨z, _, rfl⟩ := List.mem_map.1 hy
    rw [Nat.testBit_lt_two_pow (Nat.lt_of_lt_of_le hs (Nat.pow_le_pow_right (by omega) (by omega)))] at hb
    cases hb
  rw [e2, List.append_nil]
theorem filter_split (p : Nat → Bool) : ∀ l : List Nat, (l.filter p).length + (l.filter (fun i => !p i)).length = l.length
  | [] => rfl
  | x :: l => by
    have := filter_split p l
    cases h : p x with
    | true =>
      rw [List.filter_cons_of_pos h, List.filter_cons_of_neg (by simp [h])]
      simp only [List.length_cons]
      omega
    | false =>
      rw [List.filter_cons_of_neg (by simp [h]), List.filter_cons_of_pos (by simp [h])]
      simp only [List.length_cons]
      omega
theorem elems_zb {s n : Nat} (hn : n ≤ 8) (hs : s < 2 ^ n) : (elemsN s).length + zb n s = n := by
  rw [elemsN_range' hn hs, zb_count, filter_split, List.length_range]
theorem full_zb {n p : Nat} (hp : p < 2 ^ n) : zb n p = 0 ↔ p = 2 ^ n - 1 := by
  constructor
  · intro h
    exact full_of_bits hp (zb_zero_full (n := 0) h)
  · intro h
    rw [h]; exact zb_full _ _ (Nat.le_refl _)
theorem readyD_some {g : List Tk} {l : List Int} {G : GD} {s : Nat} (h : doneD g l = some (G, s)) : readyD g l = up (elemsN (G.ready s)) := by
  unfold readyD; rw [h]; rfl
end Go.Proofs.YtekajandipdlhaaDoor.Core
end
section
set_option linter.unusedVariables false
set_option linter.unusedSimpArgs false
namespace Go.Proofs.YtekajandipdlhaaDoor.Core
open Go Go.RowKit Go.Proofs.YtekajandipdlhaaDoorW.PrintWords Go.Proofs.YtekajandipdlhaaDoorW.PrintMore Go.Proofs.YtekajandipdlhaaDoor.P
theorem finD_yes {g : List Tk} {l : List Int} {G : GD} {s x : Nat} (h : doneD g l = some (G, s)) (hx : (G.ready s).testBit x = true) : finD g l (x : Int) = (up (elemsN (s ||| 2 ^ x)), true) ∧ doneD g (up (elemsN (s ||| 2 ^ x))) = some (G, s ||| 2 ^ x) := by
  obtain ⟨v, hG, hs, _, _, hc⟩ := done_list h
  obtain ⟨h1, h2, h3⟩ := v.mem_rd.1 hx
  obtain ⟨e1, e2, e3⟩ := v.step hs hc hx
  refine ⟨?_, doneD_mk hG e1 e2⟩
  unfold finD
  rw [h]
  simp only []
  rw [if_pos ⟨⟨by omega, by rw [v.tasks]; omega⟩, by rw [Int.toNat_natCast]; exact hx⟩, Int.toNat_natCast]
  rfl
end Go.Proofs.YtekajandipdlhaaDoor.Core
end
section
set_option linter.unusedVariables false
set_option linter.unusedSimpArgs false
namespace Go.Proofs.YtekajandipdlhaaDoor.Core
open Go Go.RowKit Go.Proofs.YtekajandipdlhaaDoorW.PrintWords Go.Proofs.YtekajandipdlhaaDoorW.PrintMore Go.Proofs.YtekajandipdlhaaDoor.P
theorem orderGo_pre (N : List Nat) : ∀ (m : Nat) (L : List Nat) (d : Nat), ∃ t, (orderGo N m L d).1 = L ++ t
  | 0, L, d => ⟨[], by simp [orderGo]⟩
  | m + 1, L, d => by
    rw [orderGo]
    cases he : nextD N d with
    | none => exact orderGo_pre N m L d
    | some i =>
      obtain ⟨t, ht⟩ := orderGo_pre N m (L ++ [i]) (d ||| 2 ^ i)
      exact ⟨i :: t, by simp only []; rw [ht]; simp⟩
theorem orderGo_next (N : List Nat) : ∀ (m : Nat) (L : List Nat) (d : Nat), (∀ i, d.testBit i = true ↔ i ∈ L) → ∀ (P : List Nat) (a : Nat) (s : List Nat), (orderGo N m L d).1 = P ++ a :: s → L.length ≤ P.length → ∀ p : Nat, (∀ i, p.testBit i = true ↔ i ∈ P) → nextD N p = some a
  | 0, L, d, hd, P, a, s, h, hl, p, hp => by
    have h2 : L = P ++ a :: s := h
    have := congrArg List.length h2
    rw [List.length_append, List.length_cons] at this
    omega
  | m + 1, L, d, hd, P, a, s, h, hl, p, hp => by
    rw [orderGo] at h
    cases he : nextD N d with
    | none =>
      rw [he] at h
      exact orderGo_next N m L d hd P a s h hl p hp
    | some i =>
      rw [he] at h
      simp only [] at h
      by_cases hlen : L.length = P.length
      · obtain ⟨t, ht⟩ := orderGo_pre N m (L ++ [i]) (d ||| 2 ^ i)
        rw [ht] at h
        have e : L ++ (i :: t) = P ++ (a :: s) := by rw [← h]; simp
        obtain ⟨e1, e2⟩ := List.append_inj e hlen
        injection e2 with e2 e3
        have hpd : p = d := Nat.eq_of_testBit_eq fun k => by rw [Bool.eq_iff_iff, hp, hd, e1]
        rw [hpd, he, e2]
      · exact orderGo_next N m (L ++ [i]) (d ||| 2 ^ i) (bits_snoc hd) P a s h (by rw [List.length_append]; simp only [List.length_cons, List.length_nil]; omega) p hp
theorem filter_first {N : List Nat} {d a : Nat} : ∀ (m i : Nat), nextFrom N d i m = some a → ((List.range' i m).filter (canNext N d)).head? = some a
  | 0, i, h => by rw [nextFrom] at h; cases h
  | m + 1, i, h => by
    rw [nextFrom] at h
    rw [List.range'_succ]
    by_cases hc : d.testBit i = false ∧ sub (N.getD i 0) d = 0
    · rw [if_pos hc] at h
      rw [List.filter_cons_of_pos (by unfold canNext; rw [hc.1, decide_eq_true hc.2]; rfl)]
      exact h
    · rw [if_neg hc] at h
      rw [List.filter_cons_of_neg (fun e => hc (by unfold canNext at e; rw [Bool.and_eq_true, Bool.not_eq_true', decide_eq_true_eq] at e; exact e))]
      exact filter_first m (i + 1) h
theorem VG.top_next {g : List Tk} {G : GD} (v : VG g G) (hG : graphD g = some G) {pre s : List Nat} {a p : Nat} (ho : G.order = pre ++ a :: s) (hb : ∀ i, p.testBit i = true ↔ i ∈ pre) : ∃ r, elemsN (G.ready p) = a :: r := by
  have hn : nextD G.needs p = some a := by
    obtain ⟨N, hN, hf, rfl⟩ := graphD_spec hG
    exact orderGo_next N N.length [] 0 (by simp) pre a s ho (by simp) p hb
  have h := filter_first _ _ hn
  rw [elemsN_ready v.needs_len, List.range_eq_range']
  exact List.head?_eq_some_iff.1 h
end Go.Proofs.YtekajandipdlhaaDoor.Core
end
section
set_option linter.unusedVariables false
set_option linter.unusedSimpArgs false
namespace Go.Proofs.YtekajandipdlhaaDoor.Core
open Go Go.RowKit Go.Proofs.YtekajandipdlhaaDoorW.PrintWords Go.Proofs.YtekajandipdlhaaDoorW.PrintMore Go.Proofs.YtekajandipdlhaaDoor.P
theorem FnReadyTasksTop_pure (l0 : List Int) (hW : Bytes l0) : ∃ k, laws_FnReadyTasksTop.f k l0 = some true := by
  refine Ev.one (f := fun k => laws_FnReadyTasksTop.f k l0) (EvP.ev ?_)
  unfold laws_FnReadyTasksTop.f
  refine EvP.ite (fun _ => EvP.ret rfl) (fun hlen => ?_)
  refine (ev_DrawReadyTasks hW).bind fun ⟨g, l⟩ hg => ?_
  obtain ⟨hg, hl⟩ := hg
  dsimp only at hg hl ⊢
  have hf := hg.fits (by unfold big; omega) (by unfold big; omega)
  have hs := ev_ReadyTasks hf (l := l) (by unfold big; omega)
  have hl8 := readyD_length g l
  have he := ev_equalInts (a := readyD g l) (b := readyD g l) (by omega)
  rw [decide_eq_true rfl] at he
  refine Ev.bindP (Ev.const (readyD g l)) (Ev.bindP hs (Ev.bindP he (EvP.pos rfl (Ev.bindP (Ev.const (graphD g).isSome) ?_))))
  refine EvP.succ ?_
  simp only [laws_FnReadyTasksTop.j0]
  cases hG : graphD g with
  | none => exact EvP.pos (by first | rfl | trivial) (Ev.bindP hs (Ev.bindP he (EvP.ret rfl)))
  | some G =>
    have v := vg_of hG
    have h8 := v.n8
    have hol := v.len
    have hz : 0 < 2 ^ g.length := Nat.two_pow_pos _
    have d0 : doneD g (up (elemsN 0)) = some (G, 0) := doneD_mk hG hz ((v.closed_iff hz).2 (fun i hi => by simp at hi))
    have e0 : up (elemsN 0) = [] := by simp [up, elemsN]
    have ht : topD g = up G.order := by unfold topD; rw [hG]
    refine EvP.neg (by simp) (Ev.bindP (Ev.const (topD g)) ?_)
    rw [ht]
    have hend : ∀ p, p < 2 ^ g.length → (∀ i, p.testBit i = true ↔ i ∈ G.order) → (((up (elemsN p)).length : Int) == (g.length : Int)) = true := by
      intro p hp hb
      have hpf : p = 2 ^ g.length - 1 := full_of_bits hp fun i hi => (hb i).2 (v.mem.2 hi)
      have h1 := elems_zb h8 hp
      have h2 := (full_zb hp).2 hpf
      rw [up_length, beq_iff_eq]
      clear hpf hz
      omega
    clear hz
    have key : ∀ (s pre : List Nat) (p : Nat), G.order = pre ++ s → (∀ i, p.testBit i = true ↔ i ∈ pre) → doneD g (up (elemsN p)) = some (G, p) → EvP (fun k => laws_FnReadyTasksTop.l0 k g (up (elemsN p)) (up G.order) (pre.length : Int)) (fun x => x = true) := by
      intro s
      induction s with
      | nil =>
        intro pre p hp hb hd
        rw [List.append_nil] at hp
        obtain ⟨-, -, hpl, -⟩ := done_list hd
        refine EvP.succ ?_
        simp only [laws_FnReadyTasksTop.l0]
        exact EvP.neg (by rw [up_length, hp]; omega) (EvP.ret (hend p hpl (by rw [hp]; exact hb)))
      | cons a s ih =>
        intro pre p hp hb hd
        obtain ⟨r, hr⟩ := v.top_next hG hp hb
        have hlen2 : G.order.length = pre.length + (s.length + 1) := by rw [hp]; simp
        have hrd : rd (up G.order) (pre.length : Int) = (a : Int) := by rw [rd_up (i := pre.length) rfl, hp]; simp
        have hrd0 : rd (up (a :: r)) 0 = (a : Int) := by simp [rd, up]
        have hx : (G.ready p).testBit a = true := (mem_elemsN.1 (show a ∈ elemsN (G.ready p) by rw [hr]; simp)).2
        have fx := finD_yes hd hx
        have hw : wrap64 ((pre.length : Int) + 1) = ((pre ++ [a]).length : Int) := by rw [w64s (by unfold big; omega)]; simp
        have hnext := ih (pre ++ [a]) (p ||| 2 ^ a) (by rw [hp]; simp) (bits_snoc hb) fx.2
        refine EvP.succ ?_
        simp only [laws_FnReadyTasksTop.l0, hrd]
        refine EvP.pos (by rw [up_length]; omega) (Ev.bindP (Ev.const (readyD g (up (elemsN p)))) ?_)
        rw [readyD_some hd, hr, hrd0]
        refine EvP.neg (by rw [up_length, List.length_cons]; omega) (EvP.pos (by rw [up_length, List.length_cons]; omega) (EvP.pos (by omega) (EvP.succ ?_)))
        simp only [laws_FnReadyTasksTop.j2, hrd0, hw]
        refine EvP.neg (by simp) (EvP.pos (by rw [up_length, List.length_cons]; omega) (Ev.bindP (Ev.const (finD g (up (elemsN p)) (a : Int))) ?_))
        rw [fx.1]
        exact EvP.pos rfl hnext
    have h := key G.order [] 0 rfl (by simp) d0
    rw [e0] at h
    exact h
end Go.Proofs.YtekajandipdlhaaDoor.Core
end
