/- The law FnProgressOf holds of the given program: the proof's own part, with its row and its card, part 1 of 2. -/
import Derived.Test.YtpgfcihmgdempaaDoorZCB16
section
set_option linter.unusedVariables false
set_option linter.unusedSimpArgs false
namespace Go.Proofs.YtpgfcihmgdempaaDoor.Core
open Go Go.RowKit Go.Proofs.YtpgfcihmgdempaaDoorW.PrintWords Go.Proofs.YtpgfcihmgdempaaDoorW.PrintMore Go.Proofs.YtpgfcihmgdempaaDoor.P
theorem full_of_bits {n p : Nat} (hp : p < 2 ^ n) (h : ∀ i, i < n → p.testBit i = true) : p = 2 ^ n - 1 := by
  refine Nat.eq_of_testBit_eq fun i => ?_
  rw [Nat.testBit_two_pow_sub_one]
  by_cases hi : i < n
  · rw [h i hi]; simp [hi]
  · rw [Nat.testBit_lt_two_pow (Nat.lt_of_lt_of_le hp (Nat.pow_le_pow_right (by omega) (by omega)))]
    simp [hi]
theorem zb_count (p : Nat) : ∀ n, zb n p = ((List.range n).filter (fun i => !p.testBit i)).length
  | 0 => rfl
  | n + 1 => by
    rw [zb, zb_count p n, List.range_succ, List.filter_append, List.length_append]
    congr 1
    by_cases h : p.testBit n = true
    · simp [h]
    · simp [h]
end Go.Proofs.YtpgfcihmgdempaaDoor.Core
end
section
set_option linter.unusedVariables false
set_option linter.unusedSimpArgs false
namespace Go.Proofs.YtpgfcihmgdempaaDoor.Core
open Go Go.RowKit Go.Shelf Go.Proofs.YtpgfcihmgdempaaDoorW.PrintWords Go.Proofs.YtpgfcihmgdempaaDoorW.PrintMore Go.Proofs.YtpgfcihmgdempaaDoor.P
attribute [local go_sem] Oper.semAt_some wide_fn wide_depth
theorem needsGo_taskOk {n : Nat} : ∀ {r : List Tk} {N : List Nat}, needsGo n r = some N → ∀ t ∈ r, taskOk t
  | [], _, _, t, ht => by cases ht
  | a :: r, N, h, t, ht => by
    rw [needsGo] at h
    cases he : setD n a.f1 with
    | none => rw [he] at h; cases h
    | some s =>
      rw [he] at h
      by_cases hok : taskOk a
      · simp only [hok, if_true] at h
        cases hg : needsGo n r with
        | none => rw [hg] at h; cases h
        | some M =>
          rcases List.mem_cons.1 ht with rfl | ht
          · exact hok
          · exact needsGo_taskOk hg t ht
      · simp [hok] at h
theorem graphD_taskOk {g : List Tk} {G : GD} (h : graphD g = some G) : ∀ t ∈ g, taskOk t := by
  obtain ⟨N, hN, _, _⟩ := graphD_spec h
  unfold needsD at hN
  by_cases h8 : g.length ≤ 8
  · rw [if_pos h8] at hN; exact needsGo_taskOk hN
  · rw [if_neg h8] at hN; cases hN
end Go.Proofs.YtpgfcihmgdempaaDoor.Core
end
section
namespace Go.Proofs.YtpgfcihmgdempaaDoor.P
open Go.RowKit Go.Proofs.YtpgfcihmgdempaaDoorW.PrintWords Go.Proofs.YtpgfcihmgdempaaDoorW.PrintLast Go.Proofs.YtpgfcihmgdempaaDoorW.PrintMore
attribute [local go_sem] max2_int min2_int max_two min_two max_three min_three max_four min_four   -- for this text's walks alone
set_option linter.unusedVariables false
set_option linter.unusedSimpArgs false
noncomputable def spec_DrawValidDone.f (k : Nat) (l0 : List Int) : Option ((List (S30)) × List Int) := (spec_newReader.f l0).bind fun bt376 => ((spec_anyGraph.f bt376.1 bt376.2).bind fun bt379 => ((spec_someDone.f k bt376.1 bt379.2 bt379.1).bind fun bt383 => (some (bt379.1, bt383.1))))
theorem spec_DrawValidDone.mono : ∀ a0 k, LeO (spec_DrawValidDone.f k a0) (spec_DrawValidDone.f (k + 1) a0) := by
  intro a0 k
  unfold spec_DrawValidDone.f
  repeat' first
      | (with_reducible exact spec_someDone.mono _ _ _ _)
      | (with_reducible exact LeO.refl _)
      | (with_reducible exact LeO.none _)
      | (with_reducible refine LeO.ite ?_ ?_)
      | (with_reducible refine LeO.bind ?_ (fun _ => ?_))
      | exact spec_someDone.mono _ _ _ _
      | exact LeO.none _
      | refine LeO.ite ?_ ?_
      | refine LeO.bind ?_ (fun _ => ?_)
set_option maxHeartbeats 8000000 in
set_option maxRecDepth 100000 in
theorem spec_DrawValidDone.calls (k : Nat) (A0 : Option Addr) (c0 : Nat) (l0 : List Int) (r1 : List (S30)) (r2 : List Int) (w : World) (hr0 : Kd.C (Kd.int .u8) w A0 l0.length l0) (hc0 : l0.length ≤ c0) (h : spec_DrawValidDone.f k l0 = some (r1, r2)) :
    Calls Tryd.prog 19 #[.slice A0 l0.length c0] w fun e w' => ∃ v0_ v1_ : Value, e = .returned (.tuple #[v0_, v1_]) ∧ Kd.S k30 30 w' w.heap.size (fun k_ => some k_ ≠ (v1_ : Value).ownBlock) v0_ r1 ∧ Kd.Q (Kd.int .i64) 3 w' w.heap.size (fun _ => True) v1_ r2 ∧ Below w.heap.size w w' := by
  have HR0 := Aside0.mk hr0
  have HC0 := Aside0.mk hc0
  clear hr0 hc0
  have HB := Aside0.mk (Below.refl w.heap.size w)
  have H : ((spec_newReader.f l0).bind fun bt376 => ((spec_anyGraph.f bt376.1 bt376.2).bind fun bt379 => ((spec_someDone.f k bt376.1 bt379.2 bt379.1).bind fun bt383 => (some (bt379.1, bt383.1))))) = some (r1, r2) := h
  clear h
  replace H := Option.bind_eq_some_iff.mp H
  obtain ⟨⟨t376, t377⟩, A20, H⟩ := H
  replace H : ((spec_anyGraph.f t376 t377).bind fun bt379 => ((spec_someDone.f k t376 bt379.2 bt379.1).bind fun bt383 => (some (bt379.1, bt383.1)))) = some (r1, r2) := H
  have A2 := Aside0.mk A20
  clear A20
  replace H := Option.bind_eq_some_iff.mp H
  obtain ⟨⟨t379, t382⟩, A30, H⟩ := H
  replace H : ((spec_someDone.f k t376 t382 t379).bind fun bt383 => (some (t379, bt383.1))) = some (r1, r2) := H
  have A3 := Aside0.mk A30
  clear A30
  replace H := Option.bind_eq_some_iff.mp H
  obtain ⟨⟨t383, t386⟩, A40, H⟩ := H
  replace H : (some (t379, t383)) = some (r1, r2) := H
  have A4 := Aside0.mk A40
  clear A40
  simp only [Option.some.injEq, Prod.mk.injEq] at H
  obtain ⟨rfl, rfl⟩ := H
  go_enter Tryd.func19, Tryd.ntmps19
  go_wp2_with (first | ((with_reducible refine gate_callee (f := 44) rfl ?_); refine goesL_ (some 7) rfl rfl Tryd.func44 (by kernel_rfl) rfl #[.slice A0 l0.length c0] rfl (by (try simp only [List.map_toArray, List.map_cons, List.map_nil]); first | done | rfl | (simp only [List.length_drop, List.length_take]; rfl)) ?_; (with_reducible refine (spec_newReader.calls _ _ l0 t376 t377 w _ ?side1 ?side2 ?side3 A2.out).mono ?_); (case side1 => repeat (first | (with_reducible first | exact HB.out | apply below_alloc | apply pw_below_drewN | apply below_drew1) | exact HB.out)); (case side2 => exact HR0.out); (case side3 => exact HC0.out); rintro e w5 ⟨g378, rfl, hi, hb, hb2⟩; refine ⟨_, rfl, ?_⟩; have n0_ := Aside0.mk (hb); have n1_ := Aside0.mk (hi); clear HB; have HB := n0_; have HI378 := n1_; clear n0_ n1_; (try clear hb); (try clear hb2); (try clear hk); (try clear hi)) | ((with_reducible refine gate_callee (f := 45) rfl ?_); refine goesL_ (some 9) rfl rfl Tryd.func45 (by kernel_rfl) rfl #[.pointer (some ⟨g378, 0, none⟩)] rfl (by (try simp only [List.map_toArray, List.map_cons, List.map_nil]); first | done | rfl | (simp only [List.length_drop, List.length_take]; rfl)) ?_; (with_reducible refine (spec_anyGraph.calls g378 t376 t377 t379 t382 w _ ?side1 ?side2 A3.out).mono ?_); (case side1 => repeat (first | (with_reducible first | exact HI378.out | apply IsS87.alloc | apply IsS87.drewN | apply IsS87.drew | apply IsS87.set_1) | exact HI378.out)); (case side2 => repeat (first | (with_reducible first | exact HB.out | apply below_alloc | apply pw_below_drewN | apply below_drew1 | refine below_set ?_ (IsS87.ge HI378.out)) | exact HB.out)); rintro e w6 ⟨v380, rfl, ho0, hi, hb, hk⟩; refine ⟨_, rfl, ?_⟩; have n0_ := Aside0.mk (Kd.S_lower ho0 (below_size (by repeat (first | (with_reducible first | exact HB.out | apply below_alloc | apply pw_below_drewN | apply below_drew1 | refine below_set ?_ (IsS87.ge HI378.out)) | exact HB.out)))); have n1_ := Aside0.mk (hb); have n2_ := Aside0.mk (hi); clear HB; clear HI378; have HO381 := n0_; have HB := n1_; have HI378 := n2_; clear n0_ n1_ n2_; (try clear hb); (try clear hb2); (try clear hk); (try clear hi); (try clear ho0); obtain ⟨Ao7, co7, eo7⟩ := Kd.S_slice HO381.out; subst eo7) | ((with_reducible refine gate_callee (f := 53) rfl ?_); refine goesL_ (some 13) rfl rfl Tryd.func53 (by kernel_rfl) rfl #[.pointer (some ⟨g378, 0, none⟩), .slice Ao7 t379.length co7] rfl (by (try simp only [List.map_toArray, List.map_cons, List.map_nil]); first | done | rfl | (simp only [List.length_drop, List.length_take]; rfl)) ?_; (with_reducible refine (spec_someDone.calls k g378 t376 t382 _ _ t379 t383 t386 w _ ?side1 ?side2 ?side3 ?side4 A4.out).mono ?_); (case side1 => repeat (first | (with_reducible first | exact HI378.out | apply IsS87.alloc | apply IsS87.drewN | apply IsS87.drew | apply IsS87.set_1) | exact HI378.out)); (case side2 => repeat (first | (with_reducible first | exact HB.out | apply below_alloc | apply pw_below_drewN | apply below_drew1 | refine below_set ?_ (IsS87.ge HI378.out)) | exact HB.out)); (case side3 => exact Kd.C_foot_own ((Kd.S_R (IsS87.apartS (show IsS87 w _ g378 t376 t382 from by repeat (first | (with_reducible first | exact HI378.out | apply IsS87.alloc | apply IsS87.drewN | apply IsS87.drew | apply IsS87.set_1) | exact HI378.out)) (by (with_reducible repeat (first | apply Kd.S_alloc | apply Kd.S_drewN | apply Kd.S_drew)); exact HO381.out) (by decide)))) (fun _ h_ => h_.2)); (case side4 => exact (Kd.S_reads' HO381.out).2.1); rintro e w8 ⟨v384, rfl, ho0, hi, hb, hk⟩; refine ⟨_, rfl, ?_⟩; have n0_ := Aside0.mk (Kd.S_mono (Kd.S_told (Kd.S_oldK (IsS87.apartS (show IsS87 w _ g378 t376 t382 from by repeat (first | (with_reducible first | exact HI378.out | apply IsS87.alloc | apply IsS87.drewN | apply IsS87.drew | apply IsS87.set_1) | exact HI378.out)) (by (with_reducible repeat (first | apply Kd.S_alloc | apply Kd.S_drewN | apply Kd.S_drew)); exact HO381.out) (by decide)) hk) (Kd.Q_base ho0)) (fun _ h_ => h_.1)); have n1_ := Aside0.mk (Kd.Q_lower ho0 (below_size (by repeat (first | (with_reducible first | exact HB.out | apply below_alloc | apply pw_below_drewN | apply below_drew1 | refine below_set ?_ (IsS87.ge HI378.out)) | exact HB.out)))); have n2_ := Aside0.mk (hb); have n3_ := Aside0.mk (hi); clear HO381; clear HB; clear HI378; have HO381 := n0_; have HO385 := n1_; have HB := n2_; have HI378 := n3_; clear n0_ n1_ n2_ n3_; (try clear hb); (try clear hb2); (try clear hk); (try clear hi); (try clear ho0)))
  go_ret2
  exact ⟨_, _, by first | rfl | (simp [errW_none, errW_some] <;> rfl) | (simp [*, errW_none, errW_some] <;> rfl), by (with_reducible repeat (first | apply Kd.S_alloc | apply Kd.S_drewN | apply Kd.S_drew)); exact Kd.S_mono HO381.out (fun _ hk => hk.2), by (with_reducible repeat (first | apply Kd.Q_alloc | apply Kd.Q_drewN | apply Kd.Q_drew)); exact HO385.out, by repeat (first | (with_reducible first | exact HB.out | apply below_alloc | apply pw_below_drewN | apply below_drew1 | refine below_set ?_ (IsS87.ge HI378.out)) | exact HB.out)⟩
end Go.Proofs.YtpgfcihmgdempaaDoor.P
end
section
namespace Go.Proofs.YtpgfcihmgdempaaDoor.P
open Go.RowKit Go.Proofs.YtpgfcihmgdempaaDoorW.PrintWords Go.Proofs.YtpgfcihmgdempaaDoorW.PrintLast Go.Proofs.YtpgfcihmgdempaaDoorW.PrintMore
attribute [local go_sem] max2_int min2_int max_two min_two max_three min_three max_four min_four   -- for this text's walks alone
set_option linter.unusedVariables false
set_option linter.unusedSimpArgs false
noncomputable def spec_DrawProgressOf.f (k : Nat) (l0 : List Int) : Option ((List (S30)) × List Int) := (spec_DrawValidDone.f k l0).bind fun bt620 => (some (bt620.1, bt620.2))
theorem spec_DrawProgressOf.mono : ∀ a0 k, LeO (spec_DrawProgressOf.f k a0) (spec_DrawProgressOf.f (k + 1) a0) := by
  intro a0 k
  unfold spec_DrawProgressOf.f
  repeat' first
      | (with_reducible exact spec_DrawValidDone.mono _ _)
      | (with_reducible exact LeO.refl _)
      | (with_reducible exact LeO.none _)
      | (with_reducible refine LeO.ite ?_ ?_)
      | (with_reducible refine LeO.bind ?_ (fun _ => ?_))
      | exact spec_DrawValidDone.mono _ _
      | exact LeO.none _
      | refine LeO.ite ?_ ?_
      | refine LeO.bind ?_ (fun _ => ?_)
set_option maxHeartbeats 8000000 in
set_option maxRecDepth 100000 in
theorem spec_DrawProgressOf.calls (k : Nat) (A0 : Option Addr) (c0 : Nat) (l0 : List Int) (r1 : List (S30)) (r2 : List Int) (w : World) (hr0 : Kd.C (Kd.int .u8) w A0 l0.length l0) (hc0 : l0.length ≤ c0) (h : spec_DrawProgressOf.f k l0 = some (r1, r2)) :
    Calls Tryd.prog 39 #[.slice A0 l0.length c0] w fun e w' => ∃ v0_ v1_ : Value, e = .returned (.tuple #[v0_, v1_]) ∧ Kd.S k30 30 w' w.heap.size (fun k_ => some k_ ≠ (v1_ : Value).ownBlock) v0_ r1 ∧ Kd.Q (Kd.int .i64) 3 w' w.heap.size (fun _ => True) v1_ r2 ∧ Below w.heap.size w w' := by
  have HR0 := Aside0.mk hr0
  have HC0 := Aside0.mk hc0
  clear hr0 hc0
  have HB := Aside0.mk (Below.refl w.heap.size w)
  have H : ((spec_DrawValidDone.f k l0).bind fun bt620 => (some (bt620.1, bt620.2))) = some (r1, r2) := h
  clear h
  replace H := Option.bind_eq_some_iff.mp H
  obtain ⟨⟨t620, t621⟩, A20, H⟩ := H
  replace H : (some (t620, t621)) = some (r1, r2) := H
  have A2 := Aside0.mk A20
  clear A20
  simp only [Option.some.injEq, Prod.mk.injEq] at H
  obtain ⟨rfl, rfl⟩ := H
  go_enter Tryd.func39, Tryd.ntmps39
  go_wp2_with (first | ((with_reducible refine gate_callee (f := 19) rfl ?_); refine goesL_ (some 5) rfl rfl Tryd.func19 (by kernel_rfl) rfl #[.slice A0 l0.length c0] rfl (by (try simp only [List.map_toArray, List.map_cons, List.map_nil]); first | done | rfl | (simp only [List.length_drop, List.length_take]; rfl)) ?_; (with_reducible refine (spec_DrawValidDone.calls k _ _ l0 t620 t621 _ ?side1 ?side2 A2.out).mono ?_); (case side1 => repeat (first | exact HR0.out | (with_reducible refine Kd.C_alloc ?_ _) | (with_reducible refine Kd.C_drewN ?_ _) | (with_reducible refine Kd.C_drew ?_))); (case side2 => exact HC0.out); rintro e w3 ⟨v622, v624, rfl, ho0, ho1, hb⟩; refine ⟨_, rfl, ?_⟩; have n0_ := Aside0.mk (Kd.S_lower ho0 (below_size (by repeat (first | (with_reducible first | exact HB.out | apply below_alloc | apply pw_below_drewN | apply below_drew1) | exact HB.out)))); have n1_ := Aside0.mk (Kd.Q_lower ho1 (below_size (by repeat (first | (with_reducible first | exact HB.out | apply below_alloc | apply pw_below_drewN | apply below_drew1) | exact HB.out)))); have n2_ := Aside0.mk (below_step (by repeat (first | (with_reducible first | exact HB.out | apply below_alloc | apply pw_below_drewN | apply below_drew1) | exact HB.out)) hb); clear HB; have HO623 := n0_; have HO625 := n1_; have HB := n2_; clear n0_ n1_ n2_; (try clear hb); (try clear hb2); (try clear hk); (try clear hi); (try clear ho0); (try clear ho1)))
  go_ret2
  exact ⟨_, _, by first | rfl | (simp [errW_none, errW_some] <;> rfl) | (simp [*, errW_none, errW_some] <;> rfl), by (with_reducible repeat (first | apply Kd.S_alloc | apply Kd.S_drewN | apply Kd.S_drew)); exact HO623.out, by (with_reducible repeat (first | apply Kd.Q_alloc | apply Kd.Q_drewN | apply Kd.Q_drew)); exact HO625.out, by repeat (first | (with_reducible first | exact HB.out | apply below_alloc | apply pw_below_drewN | apply below_drew1) | exact HB.out)⟩
def spec_toInt.f (a0 : Bool) : Option (Int) := if a0 = true then (some 1) else (some 0)
set_option maxHeartbeats 8000000 in
set_option maxRecDepth 100000 in
theorem spec_toInt.calls (a0 : Bool) (r : Int) (w : World) (h : spec_toInt.f a0 = some r) :
    Calls Tryd.prog 73 #[.bool a0] w fun e w' => e = .returned (.int .i64 r) ∧ Drawn0 w w' := by
  have H : (if a0 = true then (some 1) else (some 0)) = some r := h
  clear h
  by_cases c2 : a0 = true
  · subst c2
    have H1 : (some 1) = some r := by rw [if_pos rfl] at H; exact H
    clear H
    have H := H1
    clear H1
    obtain rfl := Option.some.inj H
    go_enter Tryd.func73, Tryd.ntmps73
    go_wp2
    go_ret
    exact ⟨by first | rfl | (simp; done) | (simp [*]; done), by repeat (first | exact Drawn0.refl _ | apply Drawn0.step)⟩
  · replace c2 := Bool.eq_false_iff.mpr c2
    subst c2
    have H1 : (some 0) = some r := by rw [if_neg (show ¬ (false = true) by decide)] at H; exact H
    clear H
    have H := H1
    clear H1
    obtain rfl := Option.some.inj H
    go_enter Tryd.func73, Tryd.ntmps73
    go_wp2
    go_ret
    exact ⟨by first | rfl | (simp; done) | (simp [*]; done), by repeat (first | exact Drawn0.refl _ | apply Drawn0.step)⟩
end Go.Proofs.YtpgfcihmgdempaaDoor.P
end
section
namespace Go.Proofs.YtpgfcihmgdempaaDoor.P
open Go.RowKit Go.Proofs.YtpgfcihmgdempaaDoorW.PrintWords Go.Proofs.YtpgfcihmgdempaaDoorW.PrintLast Go.Proofs.YtpgfcihmgdempaaDoorW.PrintMore
attribute [local go_sem] max2_int min2_int max_two min_two max_three min_three max_four min_four   -- for this text's walks alone
set_option linter.unusedVariables false
set_option linter.unusedSimpArgs false
def spec_ProgressOf.l0 : Nat → List (S30) → List Int → Int → Int → Int → Option (Int)
  | 0, _, _, _, _, _ => none
  | k + 1, x0, x1, x5, x6, x7 => if x7 < (x0.length : Int) then (if 0 ≤ x7 then ((spec_isIn.f k x1 x7).bind fun t629 => ((spec_toInt.f t629).bind fun t630 => (spec_ProgressOf.l0 k x0 x1 (wrap64 (x5 + (wrap64 (((rd_T30 x0 x7).f0) * t630)))) (wrap64 (x6 + ((rd_T30 x0 x7).f0))) (wrap64 (x7 + 1))))) else (none)) else (if x6 = 0 then (some 1000) else (some (wrap64 (Int.tdiv (wrap64 (1000 * x5)) x6))))
def spec_ProgressOf.f (k : Nat) (l0 : List (S30)) (l1 : List Int) : Option (Int) := (spec_validDone.f k l0 l1).bind fun t626 => (if t626 = true then (spec_ProgressOf.l0 k l0 l1 0 0 0) else (some (-1)))
theorem spec_ProgressOf.mono_l : ∀ k, (∀ y0 y1 y2 y3 y4, LeO (spec_ProgressOf.l0 k y0 y1 y2 y3 y4) (spec_ProgressOf.l0 (k + 1) y0 y1 y2 y3 y4))
  | 0 => fun _ _ _ _ _ r h => by simp [spec_ProgressOf.l0] at h
  | k + 1 => by
    have ih0 := spec_ProgressOf.mono_l k
    · intro y0 y1 y2 y3 y4
      unfold spec_ProgressOf.l0
      repeat' first
      | (with_reducible exact ih0 _ _ _ _ _)
      | (with_reducible exact spec_isIn.mono _ _ _)
      | (with_reducible exact spec_validDone.mono _ _ _)
      | (with_reducible exact LeO.refl _)
      | (with_reducible exact LeO.none _)
      | (with_reducible refine LeO.ite ?_ ?_)
      | (with_reducible refine LeO.bind ?_ (fun _ => ?_))
      | exact ih0 _ _ _ _ _
      | exact spec_isIn.mono _ _ _
      | exact spec_validDone.mono _ _ _
      | exact LeO.none _
      | refine LeO.ite ?_ ?_
      | refine LeO.bind ?_ (fun _ => ?_)
theorem spec_ProgressOf.mono : ∀ a0 a1 k, LeO (spec_ProgressOf.f k a0 a1) (spec_ProgressOf.f (k + 1) a0 a1) := by
  intro a0 a1 k
  have ih0 := spec_ProgressOf.mono_l k
  unfold spec_ProgressOf.f
  repeat' first
      | (with_reducible exact ih0 _ _ _ _ _)
      | (with_reducible exact spec_isIn.mono _ _ _)
      | (with_reducible exact spec_validDone.mono _ _ _)
      | (with_reducible exact LeO.refl _)
      | (with_reducible exact LeO.none _)
      | (with_reducible refine LeO.ite ?_ ?_)
      | (with_reducible refine LeO.bind ?_ (fun _ => ?_))
      | exact ih0 _ _ _ _ _
      | exact spec_isIn.mono _ _ _
      | exact spec_validDone.mono _ _ _
      | exact LeO.none _
      | refine LeO.ite ?_ ?_
      | refine LeO.bind ?_ (fun _ => ?_)
set_option maxHeartbeats 8000000 in
set_option maxRecDepth 100000 in
theorem spec_ProgressOf.calls (k : Nat) (A0 : Option Addr) (c0 : Nat) (l0 : List (S30)) (A1 : Option Addr) (c1 : Nat) (l1 : List Int) (r : Int) (w : World) (hr0 : Kd.C k30 w A0 l0.length l0) (hc0 : l0.length ≤ c0) (hr1 : Kd.C (Kd.int .i64) w A1 l1.length l1) (hc1 : l1.length ≤ c1) (h : spec_ProgressOf.f k l0 l1 = some r) :
    Calls Tryd.prog 41 #[.slice A0 l0.length c0, .slice A1 l1.length c1] w fun e w' => e = .returned (.int .i64 r) ∧ Below w.heap.size w w' := by
  have HR0 := Aside0.mk hr0
  have HC0 := Aside0.mk hc0
  clear hr0 hc0
  have HR1 := Aside0.mk hr1
  have HC1 := Aside0.mk hc1
  clear hr1 hc1
  have HB := Aside0.mk (Below.refl w.heap.size w)
  have H : ((spec_validDone.f k l0 l1).bind fun t626 => (if t626 = true then (spec_ProgressOf.l0 k l0 l1 0 0 0) else (some (-1)))) = some r := h
  clear h
  replace H := Option.bind_eq_some_iff.mp H
  obtain ⟨t626, A30, H⟩ := H
  replace H : (if t626 = true then (spec_ProgressOf.l0 k l0 l1 0 0 0) else (some (-1))) = some r := H
  have A3 := Aside0.mk A30
  clear A30
  by_cases c4 : t626 = true
  · subst c4
    have H1 : (spec_ProgressOf.l0 k l0 l1 0 0 0) = some r := by rw [if_pos rfl] at H; exact H
    clear H
    have H := H1
    clear H1
    have H' := Aside0.mk H
    clear H
    go_enter Tryd.func41, Tryd.ntmps41
    go_wp2_with (first | (go_at_call 55; (with_reducible refine (spec_validDone.calls k _ _ l0 _ _ l1 true _ ?side1 ?side2 ?side3 ?side4 A3.out).mono ?_); (case side1 => repeat (first | exact HR0.out | (with_reducible refine Kd.C_alloc ?_ _) | (with_reducible refine Kd.C_drewN ?_ _) | (with_reducible refine Kd.C_drew ?_))); (case side2 => exact HC0.out); (case side3 => repeat (first | exact HR1.out | (with_reducible refine Kd.C_alloc ?_ _) | (with_reducible refine Kd.C_drewN ?_ _) | (with_reducible refine Kd.C_drew ?_))); (case side4 => exact HC1.out); rintro e w5 ⟨rfl, hb⟩; have n0_ := Aside0.mk (below_step (by repeat (first | (with_reducible first | exact HB.out | apply below_alloc | apply pw_below_drewN | apply below_drew1) | exact HB.out)) hb); clear HB; have HB := n0_; clear n0_; (try clear hb); (try clear hb2); (try clear hk); (try clear hi)))
    repeat (go_quiet (first | (go_at_call 55; (with_reducible refine (spec_validDone.calls k _ _ l0 _ _ l1 true _ ?side1 ?side2 ?side3 ?side4 A3.out).mono ?_); (case side1 => repeat (first | exact HR0.out | (with_reducible refine Kd.C_alloc ?_ _) | (with_reducible refine Kd.C_drewN ?_ _) | (with_reducible refine Kd.C_drew ?_))); (case side2 => exact HC0.out); (case side3 => repeat (first | exact HR1.out | (with_reducible refine Kd.C_alloc ?_ _) | (with_reducible refine Kd.C_drewN ?_ _) | (with_reducible refine Kd.C_drew ?_))); (case side4 => exact HC1.out); rintro e w5 ⟨rfl, hb⟩; have n0_ := Aside0.mk (below_step (by repeat (first | (with_reducible first | exact HB.out | apply below_alloc | apply pw_below_drewN | apply below_drew1) | exact HB.out)) hb); clear HB; have HB := n0_; clear n0_; (try clear hb); (try clear hb2); (try clear hk); (try clear hi))); try go_wp2_with (first | (go_at_call 55; (with_reducible refine (spec_validDone.calls k _ _ l0 _ _ l1 true _ ?side1 ?side2 ?side3 ?side4 A3.out).mono ?_); (case side1 => repeat (first | exact HR0.out | (with_reducible refine Kd.C_alloc ?_ _) | (with_reducible refine Kd.C_drewN ?_ _) | (with_reducible refine Kd.C_drew ?_))); (case side2 => exact HC0.out); (case side3 => repeat (first | exact HR1.out | (with_reducible refine Kd.C_alloc ?_ _) | (with_reducible refine Kd.C_drewN ?_ _) | (with_reducible refine Kd.C_drew ?_))); (case side4 => exact HC1.out); rintro e w5 ⟨rfl, hb⟩; have n0_ := Aside0.mk (below_step (by repeat (first | (with_reducible first | exact HB.out | apply below_alloc | apply pw_below_drewN | apply below_drew1) | exact HB.out)) hb); clear HB; have HB := n0_; clear n0_; (try clear hb); (try clear hb2); (try clear hk); (try clear hi))))
    go_loopg [5, 6, 7] k (fun kq v5 v6 v7 w' => ∃ (x5_1 : Int) (x6_1 : Int) (x7_1 : Int), v5 = .int .i64 x5_1 ∧ v6 = .int .i64 x6_1 ∧ v7 = .int .i64 x7_1 ∧ Aside0 (spec_ProgressOf.l0 kq l0 l1 x5_1 x6_1 x7_1 = some r) ∧ Aside0 (kq ≤ k) ∧ Aside0 (Below w.heap.size w w'))
    case atStart => exact ⟨(0), (0), (0), (by first | rfl | (simp; done) | (simp [*]; done)), (by first | rfl | (simp; done) | (simp [*]; done)), (by first | rfl | (simp; done) | (simp [*]; done)), H', ⟨Nat.le_refl _⟩, ⟨by repeat (first | (with_reducible first | exact HB.out | apply below_alloc | apply pw_below_drewN | apply below_drew1) | exact HB.out)⟩⟩
    case round =>
      clear H'
      try clear c1
      try clear p2
      try clear c4
      obtain ⟨x5_1, x6_1, x7_1, rfl, rfl, rfl, HA, HK1, HB⟩ := hrel
      cases gk with
      | zero => exact absurd HA.out (by simp [spec_ProgressOf.l0])
      | succ k1 =>
        have H := HA.out
        clear HA
        simp only [spec_ProgressOf.l0] at H
        by_cases c6 : x7_1 < (l0.length : Int)
        · rw [if_pos c6] at H
          have c6b0 : decide (x7_1 < (l0.length : Int)) = true := decide_eq_true c6
          clear c6
          by_cases c7 : 0 ≤ x7_1
          · rw [if_pos c7] at H
            have c7b0 : decide (0 ≤ x7_1) = true := decide_eq_true c7
            clear c7
            replace H := Option.bind_eq_some_iff.mp H
            obtain ⟨t629, A80, H⟩ := H
            replace H : ((spec_toInt.f t629).bind fun t630 => (spec_ProgressOf.l0 k1 l0 l1 (wrap64 (x5_1 + (wrap64 (((rd_T30 l0 x7_1).f0) * t630)))) (wrap64 (x6_1 + ((rd_T30 l0 x7_1).f0))) (wrap64 (x7_1 + 1)))) = some r := H
            have A8 := Aside0.mk A80
            clear A80
            replace H := Option.bind_eq_some_iff.mp H
            obtain ⟨t630, A90, H⟩ := H
            replace H : (spec_ProgressOf.l0 k1 l0 l1 (wrap64 (x5_1 + (wrap64 (((rd_T30 l0 x7_1).f0) * t630)))) (wrap64 (x6_1 + ((rd_T30 l0 x7_1).f0))) (wrap64 (x7_1 + 1))) = some r := H
            have A9 := Aside0.mk A90
            clear A90
            have H' := Aside0.mk H
            clear H
            have p627 : 0 ≤ (x7_1 : Int) := of_decide_eq_true (by first | (with_reducible assumption) | assumption)
            have q627 : x7_1 < (l0.length : Int) := of_decide_eq_true (by first | (with_reducible assumption) | assumption)
            obtain ⟨ad627, A627_1, c627_1, e627, hx627_0, hx627_1, hx627_2, hx627_3, hl627_1, hi627_1⟩ := at_T30 HR0.out x7_1 p627 q627
            cases e627
            replace hx627_0 := (HB.out.cell (World.block_lt_of_cell? w _ hx627_0)).trans hx627_0
            replace hx627_1 := (HB.out.cell (World.block_lt_of_cell? w _ hx627_1)).trans hx627_1
            replace hx627_2 := (HB.out.cell (World.block_lt_of_cell? w _ hx627_2)).trans hx627_2
            replace hx627_3 := (HB.out.cell (World.block_lt_of_cell? w _ hx627_3)).trans hx627_3
            have HR627_1 := Aside0.mk hi627_1
            have HC627_1 := Aside0.mk hl627_1
            clear hi627_1 hl627_1
            replace p627 := eq_true p627
            replace q627 := eq_true q627
            have p628 : 0 ≤ (x7_1 : Int) := of_decide_eq_true (by first | (with_reducible assumption) | assumption)
            have q628 : x7_1 < (l0.length : Int) := of_decide_eq_true (by first | (with_reducible assumption) | assumption)
            obtain ⟨ad628, A628_1, c628_1, e628, hx628_0, hx628_1, hx628_2, hx628_3, hl628_1, hi628_1⟩ := at_T30 HR0.out x7_1 p628 q628
            obtain rfl : ad627 = ad628 := (by injection e628)
            replace hx628_0 := (HB.out.cell (World.block_lt_of_cell? w _ hx628_0)).trans hx628_0
            replace hx628_1 := (HB.out.cell (World.block_lt_of_cell? w _ hx628_1)).trans hx628_1
            replace hx628_2 := (HB.out.cell (World.block_lt_of_cell? w _ hx628_2)).trans hx628_2
            replace hx628_3 := (HB.out.cell (World.block_lt_of_cell? w _ hx628_3)).trans hx628_3
            have HR628_1 := Aside0.mk hi628_1
            have HC628_1 := Aside0.mk hl628_1
            clear hi628_1 hl628_1
            replace p628 := eq_true p628
            replace q628 := eq_true q628
            have ea_ := Option.some.inj (hx627_1.symm.trans hx628_1)
            injection ea_ with ea_ en_ ec_
            subst ea_
            subst ec_
            clear en_
            go_wp2_with (first | (go_at_call 62; (with_reducible refine (spec_isIn.calls k1 _ _ l1 x7_1 t629 _ ?side1 ?side2 A8.out).mono ?_); (case side1 => repeat (first | exact (Kd.C_below HR1.out HB.out) | (with_reducible refine Kd.C_alloc ?_ _) | (with_reducible refine Kd.C_drewN ?_ _) | (with_reducible refine Kd.C_drew ?_))); (case side2 => exact HC1.out); rintro e w' ⟨rfl, ⟨nd, rfl⟩⟩; (try first | exact ⟨rfl, _, World.drewN_drewN _ _ _⟩ | exact ⟨rfl, _, Eq.trans (World.drewN_drewN _ _ _) (congrArg (World.drewN _) (Nat.add_assoc _ _ _))⟩)) | (go_at_call 73; (with_reducible refine (spec_toInt.calls t629 t630 _ A9.out).mono ?_); rintro e w' ⟨rfl, ⟨nd, rfl⟩⟩; (try first | exact ⟨rfl, _, World.drewN_drewN _ _ _⟩ | exact ⟨rfl, _, Eq.trans (World.drewN_drewN _ _ _) (congrArg (World.drewN _) (Nat.add_assoc _ _ _))⟩)))
            repeat (go_quiet (first | (go_at_call 62; (with_reducible refine (spec_isIn.calls k1 _ _ l1 x7_1 t629 _ ?side1 ?side2 A8.out).mono ?_); (case side1 => repeat (first | exact (Kd.C_below HR1.out HB.out) | (with_reducible refine Kd.C_alloc ?_ _) | (with_reducible refine Kd.C_drewN ?_ _) | (with_reducible refine Kd.C_drew ?_))); (case side2 => exact HC1.out); rintro e w' ⟨rfl, ⟨nd, rfl⟩⟩; (try first | exact ⟨rfl, _, World.drewN_drewN _ _ _⟩ | exact ⟨rfl, _, Eq.trans (World.drewN_drewN _ _ _) (congrArg (World.drewN _) (Nat.add_assoc _ _ _))⟩)) | (go_at_call 73; (with_reducible refine (spec_toInt.calls t629 t630 _ A9.out).mono ?_); rintro e w' ⟨rfl, ⟨nd, rfl⟩⟩; (try first | exact ⟨rfl, _, World.drewN_drewN _ _ _⟩ | exact ⟨rfl, _, Eq.trans (World.drewN_drewN _ _ _) (congrArg (World.drewN _) (Nat.add_assoc _ _ _))⟩))); try go_wp2_with (first | (go_at_call 62; (with_reducible refine (spec_isIn.calls k1 _ _ l1 x7_1 t629 _ ?side1 ?side2 A8.out).mono ?_); (case side1 => repeat (first | exact (Kd.C_below HR1.out HB.out) | (with_reducible refine Kd.C_alloc ?_ _) | (with_reducible refine Kd.C_drewN ?_ _) | (with_reducible refine Kd.C_drew ?_))); (case side2 => exact HC1.out); rintro e w' ⟨rfl, ⟨nd, rfl⟩⟩; (try first | exact ⟨rfl, _, World.drewN_drewN _ _ _⟩ | exact ⟨rfl, _, Eq.trans (World.drewN_drewN _ _ _) (congrArg (World.drewN _) (Nat.add_assoc _ _ _))⟩)) | (go_at_call 73; (with_reducible refine (spec_toInt.calls t629 t630 _ A9.out).mono ?_); rintro e w' ⟨rfl, ⟨nd, rfl⟩⟩; (try first | exact ⟨rfl, _, World.drewN_drewN _ _ _⟩ | exact ⟨rfl, _, Eq.trans (World.drewN_drewN _ _ _) (congrArg (World.drewN _) (Nat.add_assoc _ _ _))⟩))))
            go_roundg k1
            case measure => have := HK1.out; omega
            case rel => exact ⟨(wrap64 (x5_1 + (wrap64 (((rd_T30 l0 x7_1).f0) * t630)))), (wrap64 (x6_1 + ((rd_T30 l0 x7_1).f0))), (wrap64 (x7_1 + 1)), (by first | rfl | (simp; done) | (simp [*]; done)), (by first | rfl | (simp; done) | (simp [*]; done)), (by first | rfl | (simp; done) | (simp [*]; done)), H', ⟨by have := HK1.out; omega⟩, ⟨by repeat (first | (with_reducible first | exact HB.out | apply below_alloc | apply pw_below_drewN | apply below_drew1) | exact HB.out)⟩⟩
          · rw [if_neg c7] at H
            exact absurd H (by simp)
        · rw [if_neg c6] at H
          have c6b0 : decide (x7_1 < (l0.length : Int)) = false := decide_eq_false c6
          clear c6
          by_cases c10 : x6_1 = 0
          · rw [if_pos c10] at H
            have c10b0 : (x6_1 == 0) = true := beq_iff_eq.mpr c10
            have c10b1 : (x6_1 != 0) = false := bne_eq_false_iff_eq.mpr c10
            clear c10
            obtain rfl := Option.some.inj H
            go_wp2
            repeat (go_quiet (fail); try go_wp2)
            go_ret
            exact ⟨by first | rfl | (simp [errW_none, errW_some] <;> rfl) | (simp [*, errW_none, errW_some] <;> rfl), by repeat (first | (with_reducible first | exact HB.out | apply below_alloc | apply pw_below_drewN | apply below_drew1) | exact HB.out)⟩
          · rw [if_neg c10] at H
            have c10b0 : (x6_1 == 0) = false := beq_eq_false_iff_ne.mpr c10
            have c10b1 : (x6_1 != 0) = true := bne_iff_ne.mpr c10
            obtain rfl := Option.some.inj H
            go_wp2
            repeat (go_quiet (fail); try go_wp2)
            go_ret
            exact ⟨by first | rfl | (simp [errW_none, errW_some] <;> rfl) | (simp [*, errW_none, errW_some] <;> rfl), by repeat (first | (with_reducible first | exact HB.out | apply below_alloc | apply pw_below_drewN | apply below_drew1) | exact HB.out)⟩
  · replace c4 := Bool.eq_false_iff.mpr c4
    subst c4
    have H1 : (some (-1)) = some r := by rw [if_neg (show ¬ (false = true) by decide)] at H; exact H
    clear H
    have H := H1
    clear H1
    obtain rfl := Option.some.inj H
    go_enter Tryd.func41, Tryd.ntmps41
    go_wp2_with (first | (go_at_call 55; (with_reducible refine (spec_validDone.calls k _ _ l0 _ _ l1 false _ ?side1 ?side2 ?side3 ?side4 A3.out).mono ?_); (case side1 => repeat (first | exact HR0.out | (with_reducible refine Kd.C_alloc ?_ _) | (with_reducible refine Kd.C_drewN ?_ _) | (with_reducible refine Kd.C_drew ?_))); (case side2 => exact HC0.out); (case side3 => repeat (first | exact HR1.out | (with_reducible refine Kd.C_alloc ?_ _) | (with_reducible refine Kd.C_drewN ?_ _) | (with_reducible refine Kd.C_drew ?_))); (case side4 => exact HC1.out); rintro e w11 ⟨rfl, hb⟩; have n0_ := Aside0.mk (below_step (by repeat (first | (with_reducible first | exact HB.out | apply below_alloc | apply pw_below_drewN | apply below_drew1) | exact HB.out)) hb); clear HB; have HB := n0_; clear n0_; (try clear hb); (try clear hb2); (try clear hk); (try clear hi)))
    repeat (go_quiet (first | (go_at_call 55; (with_reducible refine (spec_validDone.calls k _ _ l0 _ _ l1 false _ ?side1 ?side2 ?side3 ?side4 A3.out).mono ?_); (case side1 => repeat (first | exact HR0.out | (with_reducible refine Kd.C_alloc ?_ _) | (with_reducible refine Kd.C_drewN ?_ _) | (with_reducible refine Kd.C_drew ?_))); (case side2 => exact HC0.out); (case side3 => repeat (first | exact HR1.out | (with_reducible refine Kd.C_alloc ?_ _) | (with_reducible refine Kd.C_drewN ?_ _) | (with_reducible refine Kd.C_drew ?_))); (case side4 => exact HC1.out); rintro e w11 ⟨rfl, hb⟩; have n0_ := Aside0.mk (below_step (by repeat (first | (with_reducible first | exact HB.out | apply below_alloc | apply pw_below_drewN | apply below_drew1) | exact HB.out)) hb); clear HB; have HB := n0_; clear n0_; (try clear hb); (try clear hb2); (try clear hk); (try clear hi))); try go_wp2_with (first | (go_at_call 55; (with_reducible refine (spec_validDone.calls k _ _ l0 _ _ l1 false _ ?side1 ?side2 ?side3 ?side4 A3.out).mono ?_); (case side1 => repeat (first | exact HR0.out | (with_reducible refine Kd.C_alloc ?_ _) | (with_reducible refine Kd.C_drewN ?_ _) | (with_reducible refine Kd.C_drew ?_))); (case side2 => exact HC0.out); (case side3 => repeat (first | exact HR1.out | (with_reducible refine Kd.C_alloc ?_ _) | (with_reducible refine Kd.C_drewN ?_ _) | (with_reducible refine Kd.C_drew ?_))); (case side4 => exact HC1.out); rintro e w11 ⟨rfl, hb⟩; have n0_ := Aside0.mk (below_step (by repeat (first | (with_reducible first | exact HB.out | apply below_alloc | apply pw_below_drewN | apply below_drew1) | exact HB.out)) hb); clear HB; have HB := n0_; clear n0_; (try clear hb); (try clear hb2); (try clear hk); (try clear hi))))
    go_ret
    exact ⟨by first | rfl | (simp [errW_none, errW_some] <;> rfl) | (simp [*, errW_none, errW_some] <;> rfl), by repeat (first | (with_reducible first | exact HB.out | apply below_alloc | apply pw_below_drewN | apply below_drew1) | exact HB.out)⟩
end Go.Proofs.YtpgfcihmgdempaaDoor.P
end
section
set_option linter.unusedVariables false
set_option linter.unusedSimpArgs false
namespace Go.Proofs.YtpgfcihmgdempaaDoor.Core
open Go Go.RowKit Go.Proofs.YtpgfcihmgdempaaDoorW.PrintWords Go.Proofs.YtpgfcihmgdempaaDoorW.PrintMore Go.Proofs.YtpgfcihmgdempaaDoor.P
/-- The time of a task. -/
def tmN (g : List Tk) (i : Nat) : Nat := (g.getD i z30).f0.toNat
theorem getD_set_ne {L : List Nat} {i j x : Nat} (h : j ≠ i) : (L.set i x).getD j 0 = L.getD j 0 := by
  rw [List.getD_eq_getElem?_getD, List.getElem?_set_ne (Ne.symm h), ← List.getD_eq_getElem?_getD]
def tm20 (g : List Tk) : Prop := ∀ i, tmN g i ≤ 20
end Go.Proofs.YtpgfcihmgdempaaDoor.Core
end
section
set_option linter.unusedVariables false
set_option linter.unusedSimpArgs false
namespace Go.Proofs.YtpgfcihmgdempaaDoor.Core
open Go Go.RowKit Go.Proofs.YtpgfcihmgdempaaDoorW.PrintWords Go.Proofs.YtpgfcihmgdempaaDoorW.PrintMore Go.Proofs.YtpgfcihmgdempaaDoor.P
theorem i64_w' (n : Int) : IntKind.i64.wrap n = Go.RowKit.wrap64 n := by unfold Go.RowKit.wrap64; exact IntKind.wrap_i64 n
theorem tm20_of {g : List Tk} (h : ∀ t ∈ g, taskOk t) : tm20 g := by
  intro i
  unfold tmN
  rw [List.getD_eq_getElem?_getD]
  cases e : g[i]? with
  | none => simp [z30]
  | some t =>
    have := (h t (List.mem_of_getElem? e)).1
    simp only [Option.getD_some]
    omega
theorem tm_int {g : List Tk} (h : ∀ t ∈ g, taskOk t) {i : Nat} (hi : i < g.length) : (g.getD i z30).f0 = (tmN g i : Int) ∧ 1 ≤ tmN g i ∧ tmN g i ≤ 20 := by
  have hm : g.getD i z30 ∈ g := by
    rw [List.getD_eq_getElem?_getD, List.getElem?_eq_getElem hi]
    exact List.getElem_mem hi
  have := (h _ hm).1
  unfold tmN
  omega
/-- Sums and greatest ones of small numbers, as the program reckons them. -/
theorem wadd {a b : Nat} (ha : a ≤ 100000) (hb : b ≤ 100000) : wrap64 ((a : Int) + (b : Int)) = ((a + b : Nat) : Int) ∧ IntKind.i64.wrap ((a : Int) + (b : Int)) = ((a + b : Nat) : Int) := by
  have h : wrap64 ((a : Int) + (b : Int)) = ((a + b : Nat) : Int) := by rw [w64 (by omega) (by omega)]; omega
  exact ⟨h, by rw [i64_w']; exact h⟩
end Go.Proofs.YtpgfcihmgdempaaDoor.Core
end
section
set_option linter.unusedVariables false
set_option linter.unusedSimpArgs false
namespace Go.Proofs.YtpgfcihmgdempaaDoor.Core
open Go Go.RowKit Go.Shelf Go.Proofs.YtpgfcihmgdempaaDoorW.PrintWords Go.Proofs.YtpgfcihmgdempaaDoorW.PrintLast Go.Proofs.YtpgfcihmgdempaaDoorW.PrintMore Go.Proofs.YtpgfcihmgdempaaDoor.P
attribute [local go_sem] Oper.semAt_some wide_fn wide_depth
def totL (g : List Tk) (L : List Nat) : Nat := (L.map (tmN g)).sum
def totalN (g : List Tk) (s : Nat) : Nat := totL g (elemsN s)
theorem totL_snoc (g : List Tk) (L : List Nat) (i : Nat) : totL g (L ++ [i]) = totL g L + tmN g i := by simp [totL]
theorem totL_le {g : List Tk} (h : tm20 g) : ∀ L, totL g L ≤ L.length * 20
  | [] => by simp [totL]
  | i :: L => by
    have := totL_le h L
    have := h i
    simp only [totL, List.map_cons, List.sum_cons, List.length_cons] at *
    omega
set_option maxRecDepth 100000 in
set_option maxHeartbeats 2000000 in
theorem total_calls (b : Nat) (G : GD) (s : Nat) (w : World) (hT : Tab w) (hg : IsG w b G) (h8 : G.tasks.length ≤ 8) (htk : ∀ t ∈ G.tasks, taskOk t) (hs : s < 2 ^ G.tasks.length) :
    Calls Tryd.prog 71 #[.pointer (some ⟨b, 0, none⟩), .int .u16 (s : Int)] w fun e w' => e = .returned (.int .i64 ((totalN G.tasks s : Nat) : Int)) ∧ Below w.heap.size w w' := by
  have hs256 : s < 256 := Nat.lt_of_lt_of_le hs (pow8 h8)
  refine calls_marks Tryd.func71 rfl ?_
  simp only [Tryd.ntmps71, List.size_toArray, List.length_cons, List.length_nil, Nat.reduceAdd, Nat.reduceSub, Array.replicate_succ, Array.replicate_zero, List.push_toArray, List.append_toArray, List.nil_append, List.cons_append]
  go_wp2_with (go_at_call 68; refine (all_calls s _).mono ?_; rintro e w' ⟨rfl, rfl⟩)
  have o1 : (w.alloc (.cells #[.pointer (some ⟨b, 0, none⟩)] 57)).heap.size = w.heap.size + 1 := by simp
  have x1 := Boxed.new w 57 (.pointer (some ⟨b, 0, none⟩))
  have B1 := (Below.refl w.heap.size w).alloc (Nat.le_refl _) (.cells #[.pointer (some ⟨b, 0, none⟩)] 57)
  revert o1 x1 B1
  generalize w.alloc (.cells #[.pointer (some ⟨b, 0, none⟩)] 57) = w1
  intro o1 x1 B1
  have u2 := Boxed.new w1 3 (.int .i64 0)
  rw [o1] at u2
  have o2 : (w1.alloc (.cells #[.int .i64 0] 3)).heap.size = w.heap.size + 1 + 1 := by simp [o1]
  have x2 := x1.alloc (.cells #[.int .i64 0] 3)
  have B2 := B1.alloc (by omega) (.cells #[.int .i64 0] 3)
  revert u2 o2 x2 B2
  generalize w1.alloc (.cells #[.int .i64 0] 3) = w2
  intro u2 o2 x2 B2
  clear o1 B1 x1
  have s3 := Boxed.new w2 65 (.int .u16 (s : Int))
  rw [o2] at s3
  have o3 : (w2.alloc (.cells #[.int .u16 (s : Int)] 65)).heap.size = w.heap.size + 1 + 1 + 1 := by simp [o2]
  have x3 := x2.alloc (.cells #[.int .u16 (s : Int)] 65)
  have u3 := u2.alloc (.cells #[.int .u16 (s : Int)] 65)
  have B3 := B2.alloc (by omega) (.cells #[.int .u16 (s : Int)] 65)
  revert s3 o3 x3 u3 B3
  generalize w2.alloc (.cells #[.int .u16 (s : Int)] 65) = w3
  intro s3 o3 x3 u3 B3
  clear o2 B2 x2 u2
  have hle : w.heap.size ≤ w3.heap.size := B3.size
  have htot : totalN G.tasks s = totL G.tasks (elemsN s) := rfl
  refine wp_rangeSet Tab.tame (w := w3) (w0 := w3) (p := 9) (d := 6) rfl (enters_of Tryd.func90 (by kernel_rfl) rfl)
    (all_seq (w.heap.size + 1 + 1) s hs256 w3 (hT.of B3) s3.cell) (Below.refl _ _) (by simp)
    (fun ys W' => ∃ zs : List Nat, ys = up zs ∧ Boxed W' (w.heap.size + 1) 3 (.int .i64 ((totL G.tasks zs : Nat) : Int)) ∧ Boxed W' w.heap.size 57 (.pointer (some ⟨b, 0, none⟩)) ∧ Below w.heap.size w W' ∧ w3.heap.size ≤ W'.heap.size) (fun _ _ _ => False)
    (ownFrom_tame (fun ys W' W'' ht ⟨zs, a, c, d, e, f⟩ => ⟨zs, a, ht.boxed c, ht.boxed d, ht.below e (Nat.le_refl _) hle, Nat.le_trans f ht.size⟩)) (fun _ => ownFrom_tame (fun _ _ _ _ h => h))
    ⟨[], rfl, u3, x3, B3, Nat.le_refl _⟩ (fun ys W' ⟨_, _, _, _, h, _⟩ => hT.of h) ?body ?done (fun _ _ _ _ _ h _ => h.elim)
  case body =>
    rintro l pre1 x W1 hx ⟨zs, rfl, hu, hxb, hB, hsz⟩ hlt1
    gi_wp2
    obtain ⟨k0, hxk, hk8, _⟩ := mem_elems.1 hx
    have hkn : k0 < G.tasks.length := by have := elems_lt hs hx; omega
    have hzl : zs.length < 16 := by rwa [up_length] at hlt1
    refine wpIn_still_tail 10 rfl (by kernel_rfl) (by kernel_rfl) (fun ⟨_, _, h⟩ => h) ?_
    change wpStill _ _ W1.drew (fun a' => wpList _ _ _ _ a' W1.drew) _ _
    have hdr : Below W1.heap.size W1 W1.drew := below_drew (Below.refl _ _)
    have hko := KeepsOthers.drew W1
    revert hdr hko
    generalize W1.drew = Wd
    intro hdr hko
    have hu4 : Boxed Wd (w.heap.size + 1) 3 (.int .i64 ((totL G.tasks zs : Nat) : Int)) := (hdr.block _ hu.lt).trans hu
    have hxb4 : Boxed Wd w.heap.size 57 (.pointer (some ⟨b, 0, none⟩)) := (hdr.block _ hxb.lt).trans hxb
    have hBd := below_step hB hdr
    have hgd := hg.move hBd
    obtain ⟨A, c, hc0, hcl, hC⟩ := hgd.tasks
    have p0 : 0 ≤ x := by omega
    have q0 : x < (G.tasks.length : Int) := by omega
    obtain ⟨ad, A1, c1, e0, h0, h1, h2, h3, h4, h5⟩ := at_T30 hC x p0 q0
    subst e0
    have hrd : rd_T30 G.tasks x = G.tasks.getD k0 z30 := by rw [hxk]; simp [rd_T30]
    have htm := tm_int htk hkn
    rw [hrd, htm.1] at h0
    have hle1 := totL_le (tm20_of htk) zs
    have hstep := totL_snoc G.tasks zs k0
    have hadd : IntKind.i64.wrap (((totL G.tasks zs : Nat) : Int) + (tmN G.tasks k0 : Int)) = ((totL G.tasks (zs ++ [k0]) : Nat) : Int) := by rw [i64_w, w64 (by omega) (by omega), hstep]; omega
    have hadd2 : wrap64 (((totL G.tasks zs : Nat) : Int) + (tmN G.tasks k0 : Int)) = ((totL G.tasks (zs ++ [k0]) : Nat) : Int) := by rw [w64 (by omega) (by omega), hstep]; omega
    generalize ((totL G.tasks zs : Nat) : Int) = tz at hu4 hadd hadd2
    generalize htz2 : ((totL G.tasks (zs ++ [k0]) : Nat) : Int) = tz2 at hadd hadd2
    have HTZ := Aside0.mk htz2
    clear htz2
    generalize (tmN G.tasks k0 : Int) = tm at h0 hadd hadd2
    replace p0 := eq_true p0
    replace q0 := eq_true q0
    have hcu := hu4.cell
    have hfu := hu4.frozen
    have hcx := hxb4.cell
    have HX := Aside0.mk hxk
    clear hxk hx hgd hC hlt1 h1 h2 h3 h4 h5 hrd htm hle1 hstep hcl hzl hkn
    simp only [List.take_succ_cons, List.take_zero, List.drop_succ_cons, List.drop_zero]
    repeat still_step
    refine wpStill_nil ?_
    go_wp2
    have hgr := grownBy_setCell' Wd (w.heap.size + 1) (.int .i64 tz2)
    refine ⟨(hko.trans (KeepsOthers.setCell _ _ _)).from _, zs ++ [k0], ?_, ?_, ?_, ?_, ?_⟩
    · rw [HX.out]; simp [up]
    · rw [HTZ.out]; exact hu4.set _
    · exact hxb4.kept hgr (fun e => by injection e with e; omega)
    · exact below_put hgr hBd (Nat.le_refl _) (by omega)
    · have h1 := hgr.size; have h3 := hdr.size; omega
  case done =>
    rintro D W2 hD ⟨zs, hzs, hu, hxb, hB, hsz⟩ hk
    obtain rfl : elemsN s = zs := up_inj hzs
    have hm := (Marks.nil w.heap.size w3.heap.size W2).cons hD (by omega) hk
    rw [← htot] at hu
    have hcu := hu.cell
    clear hzs hk htot
    go_wp2
    refine leave_ret hm (fun W => results_tmp rfl _ _ _) ?_
    intro W' ht
    exact ⟨rfl, ht.below hB (Nat.le_refl _) (Nat.le_refl _)⟩
end Go.Proofs.YtpgfcihmgdempaaDoor.Core
end
section
set_option linter.unusedVariables false
set_option linter.unusedSimpArgs false
namespace Go.Proofs.YtpgfcihmgdempaaDoor.Core
open Go Go.RowKit Go.Proofs.YtpgfcihmgdempaaDoor.P
theorem done_facts {g : List Tk} {done : List Int} {G : GD} {s : Nat} (h : doneD g done = some (G, s)) : GOk G ∧ s < 2 ^ G.tasks.length ∧ s < 256 ∧ G.ready s < 2 ^ G.tasks.length ∧ G.ready s < 256 ∧ G.tasks = g := by
  obtain ⟨hg, hs, _⟩ := doneD_spec h
  have ok := graphD_ok hg
  have ht := graphD_tasks hg
  have hsl := setD_lt hs
  rw [← ht] at hsl
  have hr := ready_lt G s
  rw [ok.nl] at hr
  have := pow8 ok.n8
  exact ⟨ok, hsl, by omega, hr, by omega, ht⟩
end Go.Proofs.YtpgfcihmgdempaaDoor.Core
namespace Go.Proofs.YtpgfcihmgdempaaDoor.P
open Go Go.RowKit Go.Shelf Go.Proofs.YtpgfcihmgdempaaDoorW.PrintWords Go.Proofs.YtpgfcihmgdempaaDoorW.PrintMore Go.Proofs.YtpgfcihmgdempaaDoor.Core
attribute [local go_sem] Oper.semAt_some wide_fn wide_depth
end Go.Proofs.YtpgfcihmgdempaaDoor.P
end
section
set_option linter.unusedVariables false
set_option linter.unusedSimpArgs false
namespace Go.Proofs.YtpgfcihmgdempaaDoor.Core
open Go Go.RowKit Go.Proofs.YtpgfcihmgdempaaDoorW.PrintWords Go.Proofs.YtpgfcihmgdempaaDoorW.PrintMore Go.Proofs.YtpgfcihmgdempaaDoor.P
theorem setD_elems {n s : Nat} (hn : n ≤ 8) (hs : s < 2 ^ n) : setD n (up (elemsN s)) = some s := by
  have hok : needsOk n (up (elemsN s)) := by
    refine ⟨fun x hx => ?_, asc_elems s⟩
    have := elems_lt hs hx
    omega
  obtain ⟨t, ht⟩ := setD_ok hok
  rw [ht]
  congr 1
  have h := set_list hn ht
  have e := up_inj h
  have hb := (setD_some ht).2
  refine Nat.eq_of_testBit_eq fun i => ?_
  rw [hb]
  by_cases hi : i < 8
  · cases hsb : s.testBit i with
    | true => exact decide_eq_true (mem_up.2 (mem_elemsN.2 ⟨hi, hsb⟩))
    | false => exact decide_eq_false (fun h => by have := (mem_elemsN.1 (mem_up.1 h)).2; rw [hsb] at this; cases this)
  · rw [Nat.testBit_lt_two_pow (Nat.lt_of_lt_of_le hs (Nat.pow_le_pow_right (by omega) (by omega)))]
    exact decide_eq_false (fun h => hi (mem_elemsN.1 (mem_up.1 h)).1)
theorem doneD_mk {g : List Tk} {G : GD} (hG : graphD g = some G) {s : Nat} (hs : s < 2 ^ g.length) (hc : closedD G.needs s = true) : doneD g (up (elemsN s)) = some (G, s) := by
  have v := vg_of hG
  unfold doneD
  rw [hG]
  simp only []
  rw [setD_elems v.n8 hs]
  simp only []
  rw [if_pos hc]
theorem elemsN_range' {s n : Nat} (hn : n ≤ 8) (hs : s < 2 ^ n) : elemsN s = (List.range n).filter (fun i => s.testBit i) := by
  have e8 : List.range 8 = List.range n ++ (List.range (8 - n)).map (n + ·) := by rw [← List.range_add]; congr 1; omega
  unfold elemsN
  rw [e8, List.filter_append]
  have e2 : ((List.range (8 - n)).map (n + ·)).filter (fun i => s.testBit i) = [] := by
    rw [List.filter_eq_nil_iff]
    intro y hy hb
    obtain ⟨z, _, rfl⟩ := List.mem_map.1 hy
    rw [Nat.testBit_lt_two_pow (Nat.lt_of_lt_of_le hs (Nat.pow_le_pow_right (by omega) (by omega)))] at hb
    cases hb
  rw [e2, List.append_nil]
theorem filter_split (p : Nat → Bool) : ∀ l : List Nat, (l.filter p).length + (l.filter (fun i => !p i)).length = l.length
  | [] => rfl
  | x :: l => by
    have := filter_split p l
    cases h : p x with
    | true =>
      rw [List.filter_cons_of_pos h, List.filter_cons_of_neg (by simp [h])]
      simp only [List.length_cons]
      omega
    | false =>
      rw [List.filter_cons_of_neg (by simp [h]), List.filter_cons_of_pos (by simp [h])]
      simp only [List.length_cons]
      omega
theorem elems_zb {s n : Nat} (hn : n ≤ 8) (hs : s < 2 ^ n) : (elemsN s).length + zb n s = n := by
  rw [elemsN_range' hn hs, zb_count, filter_split, List.length_range]
theorem full_zb {n p : Nat} (hp : p < 2 ^ n) : zb n p = 0 ↔ p = 2 ^ n - 1 := by
  constructor
  · intro h
    exact full_of_bits hp (zb_zero_full (n := 0) h)
  · intro h
    rw [h]; exact zb_full _ _ (Nat.le_refl _)
end Go.Proofs.YtpgfcihmgdempaaDoor.Core
end
section
set_option linter.unusedVariables false
set_option linter.unusedSimpArgs false
namespace Go.Proofs.YtpgfcihmgdempaaDoor.Core
open Go Go.RowKit Go.Proofs.YtpgfcihmgdempaaDoorW.PrintWords Go.Proofs.YtpgfcihmgdempaaDoorW.PrintMore Go.Proofs.YtpgfcihmgdempaaDoor.P
theorem ev_DrawValidDone {l : List Int} (h : Bytes l) : EvP (fun k => spec_DrawValidDone.f k l) (fun r => GSmall 16 10 r.1 ∧ r.2.length ≤ 9) := by
  unfold spec_DrawValidDone.f
  refine (ev_newReader h).bind fun a ha => ?_
  refine (ev_anyGraph ha (by omega)).bind fun b hb => ?_
  refine (ev_someDone hb.2 (by omega) (hb.1.fits (by unfold big; omega) (by unfold big; omega)) hb.1.1).bind fun d hd => ?_
  exact EvP.ret ⟨hb.1, hd.1⟩
end Go.Proofs.YtpgfcihmgdempaaDoor.Core
end
section
set_option linter.unusedVariables false
set_option linter.unusedSimpArgs false
namespace Go.Proofs.YtpgfcihmgdempaaDoor.Core
open Go Go.RowKit Go.Proofs.YtpgfcihmgdempaaDoor.P
def progD (g : List Tk) (done : List Int) : Int := match doneD g done with
  | none => -1
  | some (G, s) => if G.tasks.length = 0 then 1000 else ((1000 * totalN G.tasks s / totalN G.tasks (2 ^ G.tasks.length - 1) : Nat) : Int)
end Go.Proofs.YtpgfcihmgdempaaDoor.Core
namespace Go.Proofs.YtpgfcihmgdempaaDoor.P
open Go Go.RowKit Go.Shelf Go.Proofs.YtpgfcihmgdempaaDoorW.PrintWords Go.Proofs.YtpgfcihmgdempaaDoorW.PrintLast Go.Proofs.YtpgfcihmgdempaaDoorW.PrintMore Go.Proofs.YtpgfcihmgdempaaDoor.Core
attribute [local go_sem] Oper.semAt_some wide_fn wide_depth
def impl_ProgressOf.f (l0 : List S30) (l1 : List Int) : Option Int := some (progD l0 l1)
set_option maxRecDepth 100000 in
set_option maxHeartbeats 1000000 in
theorem impl_ProgressOf.calls (A0 : Option Addr) (c0 : Nat) (l0 : List S30) (A1 : Option Addr) (c1 : Nat) (l1 : List Int) (r : Int) (w : World) (hr0 : Kd.C k30 w A0 l0.length l0) (hc0 : l0.length ≤ c0) (hr1 : Kd.C (Kd.int .i64) w A1 l1.length l1) (hc1 : l1.length ≤ c1) (hT : Tab w) (h : impl_ProgressOf.f l0 l1 = some r) :
    Calls Tryd.prog 40 #[.slice A0 l0.length c0, .slice A1 l1.length c1] w fun e w' => e = .returned (.int .i64 r) ∧ Below w.heap.size w w' := by
  have hr : r = progD l0 l1 := (Option.some.inj h).symm
  subst hr
  clear h
  cases hg : doneD l0 l1 with
  | none =>
    have hcd : progD l0 l1 = -1 := by unfold progD; rw [hg]
    rw [hcd]
    have HG := Aside0.mk (doneIn_none A0 c0 l0 A1 c1 l1 w hT hr0 hc0 hr1 hc1 hg)
    clear hr0 hr1 hT hg hcd
    go_enter Tryd.func40, Tryd.ntmps40
    go_wp2_with (go_at_call 54; refine HG.out.mono ?_; rintro e w1 ⟨rfl, hB⟩)
    go_ret
    exact ⟨rfl, hB⟩
  | some GS =>
    obtain ⟨G, s⟩ := GS
    have hcd : progD l0 l1 = if G.tasks.length = 0 then 1000 else ((1000 * totalN G.tasks s / totalN G.tasks (2 ^ G.tasks.length - 1) : Nat) : Int) := by unfold progD; rw [hg]
    have HG := Aside0.mk (doneIn_some A0 c0 l0 A1 c1 l1 G s w hT hr0 hc0 hr1 hc1 hg)
    obtain ⟨ok, hsl, hs8, -, -, hgt⟩ := done_facts hg
    have h8 := ok.n8
    have htk : ∀ t ∈ G.tasks, taskOk t := by rw [hgt]; exact graphD_taskOk (doneD_spec hg).1
    have HTOT := Aside0.mk (fun (W : World) (b s : Nat) (hT : Tab W) (hgr : IsG W b G) (hs : s < 2 ^ G.tasks.length) => total_calls b G s W hT hgr h8 htk hs)
    have HT := Aside0.mk hT
    have hEV := everything_calls G.tasks.length h8
    have hfl : 2 ^ G.tasks.length - 1 < 2 ^ G.tasks.length := by have := Nat.two_pow_pos G.tasks.length; omega
    clear hr0 hr1 hT hg hgt ok
    by_cases hn : G.tasks.length = 0
    · rw [hcd, if_pos hn]
      have hn2 : ((G.tasks.length : Int) == 0) = true := by simp [hn]
      clear hcd hn HTOT hEV hfl hsl h8 htk
      go_enter Tryd.func40, Tryd.ntmps40
      go_wp2_with (first | (go_at_call 54; refine HG.out.mono ?_; rintro e w1 ⟨b, rfl, hB, hgr⟩) | (go_at_call 64; refine (size_calls b G _ hgr).mono ?_; rintro e w' ⟨rfl, rfl⟩))
      go_ret
      exact ⟨rfl, hB⟩
    · rw [hcd, if_neg hn]
      have hn2 : ((G.tasks.length : Int) == 0) = false := beq_eq_false_iff_ne.2 (by omega)
      have hd : 1 ≤ totalN G.tasks (2 ^ G.tasks.length - 1) := by
        have hm : 0 ∈ elemsN (2 ^ G.tasks.length - 1) := mem_elemsN.2 ⟨by omega, by rw [Nat.testBit_two_pow_sub_one]; simp; omega⟩
        have h1 := (tm_int htk (i := 0) (by omega)).2.1
        have : ∀ L : List Nat, 0 ∈ L → 1 ≤ totL G.tasks L := by
          intro L
          induction L with
          | nil => intro h; cases h
          | cons a L ih =>
            intro h
            simp only [totL, List.map_cons, List.sum_cons] at *
            rcases List.mem_cons.1 h with rfl | h
            · omega
            · have := ih h; omega
        exact this _ hm
      have hb1 : totalN G.tasks s ≤ 160 := Nat.le_trans (totL_le (tm20_of htk) _) (by have := elemsN_length s; omega)
      have HF := Aside0.mk hfl
      have HSL := Aside0.mk hsl
      generalize 2 ^ G.tasks.length - 1 = full at hd hEV hfl HF ⊢
      have htd : Int.tdiv (wrap64 (1000 * ((totalN G.tasks s : Nat) : Int))) ((totalN G.tasks full : Nat) : Int) = ((1000 * totalN G.tasks s / totalN G.tasks full : Nat) : Int) := by
        rw [w64 (by omega) (by omega), Int.tdiv_eq_ediv_of_nonneg (by omega)]
        simp
      have hTS := fun W b hT hg => HTOT.out W b s hT hg hsl
      have hTF := fun W b hT hg => HTOT.out W b full hT hg hfl
      obtain ⟨ts, hts⟩ : ∃ x : Int, x = ((totalN G.tasks s : Nat) : Int) := ⟨_, rfl⟩
      obtain ⟨tf, htf⟩ : ∃ x : Int, x = ((totalN G.tasks full : Nat) : Int) := ⟨_, rfl⟩
      obtain ⟨q, hq⟩ : ∃ x : Int, x = ((1000 * totalN G.tasks s / totalN G.tasks full : Nat) : Int) := ⟨_, rfl⟩
      obtain ⟨fi, hfi⟩ : ∃ x : Int, x = ((full : Nat) : Int) := ⟨_, rfl⟩
      have htf1 : 1 ≤ tf := by omega
      have hq64 : wrap64 q = q := by
        have h1 : 1000 * totalN G.tasks s / totalN G.tasks full ≤ 1000 * totalN G.tasks s := Nat.div_le_self _ _
        rw [hq]
        generalize 1000 * totalN G.tasks s / totalN G.tasks full = z at h1 ⊢
        exact w64 (by omega) (by omega)
      have HQ := Aside0.mk hq64
      clear hq64
      obtain ⟨si, hsi⟩ : ∃ x : Int, x = ((s : Nat) : Int) := ⟨_, rfl⟩
      rw [← hsi] at hTS HG
      rw [← hts, ← htf, ← hq] at htd
      rw [← hts] at hTS
      rw [← htf, ← hfi] at hTF
      rw [← hfi] at hEV
      rw [← hq]
      have HTS := Aside0.mk hTS
      have HTF := Aside0.mk hTF
      have HEV := Aside0.mk hEV
      have hz : (tf == 0) = false := beq_eq_false_iff_ne.2 (by omega)
      have hz2 : (tf = 0) = False := eq_false (by omega)
      clear hcd hn hTS hTF hEV hfl hsl h8 htk HTOT hts htf hq hfi htf1 hd hb1 hsi HF HSL
      go_enter Tryd.func40, Tryd.ntmps40
      go_wp2_with (first | (go_at_call 54; refine HG.out.mono ?_; rintro e w1 ⟨b, rfl, hB, hgr⟩) | (go_at_call 64; refine (size_calls b G _ hgr).mono ?_; rintro e w' ⟨rfl, rfl⟩) | (go_at_call 71; refine (HTS.out _ b (HT.out.of hB) hgr).mono ?_; rintro e w2 ⟨rfl, hB2⟩; replace hgr := hgr.move hB2; replace hB := below_step hB hB2; clear HTS) | (go_at_call 72; refine (HEV.out _).mono ?_; rintro e w' ⟨rfl, rfl⟩) | (go_at_call 71; refine (HTF.out _ b (HT.out.of hB) hgr).mono ?_; rintro e w3 ⟨rfl, hB3⟩; replace hB := below_step hB hB3))
      go_ret
      exact ⟨by rw [HQ.out]; rfl, hB⟩
end Go.Proofs.YtpgfcihmgdempaaDoor.P
end
section
namespace Go.Proofs.YtpgfcihmgdempaaDoor.P
open Go.Proofs.YtpgfcihmgdempaaDoor.Core (Tab Tab.of)
open Go.RowKit Go.Proofs.YtpgfcihmgdempaaDoorW.PrintWords Go.Proofs.YtpgfcihmgdempaaDoorW.PrintLast Go.Proofs.YtpgfcihmgdempaaDoorW.PrintMore
attribute [local go_sem] max2_int min2_int max_two min_two max_three min_three max_four min_four   -- for this text's walks alone
set_option linter.unusedVariables false
set_option linter.unusedSimpArgs false
noncomputable def laws_FnProgressOf.j0 : Nat → List (S30) → List Int → Int → Bool → Option (Bool)
  | 0, _, _, _, _ => none
  | k + 1, x3, x4, x5, x25 => if x25 = true then ((spec_ProgressOf.f k x3 x4).bind fun t639 => (some (x5 == t639))) else (if x5 ≤ 1000 then (if (x3.length : Int) = 0 then (some ((x5 == 1000) == ((x4.length : Int) == (x3.length : Int)))) else ((impl_ProgressOf.f x3 ([] : List Int)).bind fun t640 => (if t640 = 0 then (some ((x5 == 1000) == ((x4.length : Int) == (x3.length : Int)))) else (some false)))) else (some false))
noncomputable def laws_FnProgressOf.f (k : Nat) (l0 : List Int) : Option (Bool) := if (l0.length : Int) > 1048576 then (some true) else ((spec_DrawProgressOf.f k l0).bind fun bt631 => ((impl_ProgressOf.f bt631.1 bt631.2).bind fun t637 => ((spec_ProgressOf.f k bt631.1 bt631.2).bind fun t638 => (if t637 = t638 then (laws_FnProgressOf.j0 k bt631.1 bt631.2 t637 (decide (t637 < 0))) else (laws_FnProgressOf.j0 k bt631.1 bt631.2 t637 true)))))
theorem laws_FnProgressOf.mono_l : ∀ k, (∀ y0 y1 y2 y3, LeO (laws_FnProgressOf.j0 k y0 y1 y2 y3) (laws_FnProgressOf.j0 (k + 1) y0 y1 y2 y3))
  | 0 => fun _ _ _ _ r h => by simp [laws_FnProgressOf.j0] at h
  | k + 1 => by
    have ih0 := laws_FnProgressOf.mono_l k
    · intro y0 y1 y2 y3
      unfold laws_FnProgressOf.j0
      repeat' first
      | (with_reducible exact ih0 _ _ _ _)
      | (with_reducible exact spec_DrawProgressOf.mono _ _)
      | (with_reducible exact spec_ProgressOf.mono _ _ _)
      | (with_reducible exact LeO.refl _)
      | (with_reducible exact LeO.none _)
      | (with_reducible refine LeO.ite ?_ ?_)
      | (with_reducible refine LeO.bind ?_ (fun _ => ?_))
      | exact ih0 _ _ _ _
      | exact spec_DrawProgressOf.mono _ _
      | exact spec_ProgressOf.mono _ _ _
      | exact LeO.none _
      | refine LeO.ite ?_ ?_
      | refine LeO.bind ?_ (fun _ => ?_)
theorem laws_FnProgressOf.mono : ∀ a0 k, LeO (laws_FnProgressOf.f k a0) (laws_FnProgressOf.f (k + 1) a0) := by
  intro a0 k
  have ih0 := laws_FnProgressOf.mono_l k
  unfold laws_FnProgressOf.f
  repeat' first
      | (with_reducible exact ih0 _ _ _ _)
      | (with_reducible exact spec_DrawProgressOf.mono _ _)
      | (with_reducible exact spec_ProgressOf.mono _ _ _)
      | (with_reducible exact LeO.refl _)
      | (with_reducible exact LeO.none _)
      | (with_reducible refine LeO.ite ?_ ?_)
      | (with_reducible refine LeO.bind ?_ (fun _ => ?_))
      | exact ih0 _ _ _ _
      | exact spec_DrawProgressOf.mono _ _
      | exact spec_ProgressOf.mono _ _ _
      | exact LeO.none _
      | refine LeO.ite ?_ ?_
      | refine LeO.bind ?_ (fun _ => ?_)
set_option maxHeartbeats 8000000 in
set_option maxRecDepth 100000 in
theorem laws_FnProgressOf.calls (k : Nat) (A0 : Option Addr) (c0 : Nat) (l0 : List Int) (r : Bool) (w : World) (hr0 : Kd.C (Kd.int .u8) w A0 l0.length l0) (hc0 : l0.length ≤ c0) (hT : Tab w) (h : laws_FnProgressOf.f k l0 = some r) :
    Calls Tryd.prog 11 #[.slice A0 l0.length c0] w fun e w' => e = .returned (.bool r) ∧ Below w.heap.size w w' := by
  have HT := Aside0.mk hT
  clear hT
  have HR0 := Aside0.mk hr0
  have HC0 := Aside0.mk hc0
  clear hr0 hc0
  have HB := Aside0.mk (Below.refl w.heap.size w)
  have H : (if (l0.length : Int) > 1048576 then (some true) else ((spec_DrawProgressOf.f k l0).bind fun bt631 => ((impl_ProgressOf.f bt631.1 bt631.2).bind fun t637 => ((spec_ProgressOf.f k bt631.1 bt631.2).bind fun t638 => (if t637 = t638 then (laws_FnProgressOf.j0 k bt631.1 bt631.2 t637 (decide (t637 < 0))) else (laws_FnProgressOf.j0 k bt631.1 bt631.2 t637 true)))))) = some r := h
  clear h
  by_cases c2 : (l0.length : Int) > 1048576
  · rw [if_pos c2] at H
    have c2b0 : decide (1048576 < (l0.length : Int)) = true := decide_eq_true c2
    have c2b1 : decide (1048576 < l0.length) = true := decide_eq_true (by omega)
    clear c2
    obtain rfl := Option.some.inj H
    go_enter Tryd.func11, Tryd.ntmps11
    go_wp2
    go_ret
    exact ⟨by first | rfl | (simp [errW_none, errW_some] <;> rfl) | (simp [*, errW_none, errW_some] <;> rfl), by repeat (first | (with_reducible first | exact HB.out | apply below_alloc | apply pw_below_drewN | apply below_drew1) | exact HB.out)⟩
  · rw [if_neg c2] at H
    have c2b0 : decide (1048576 < (l0.length : Int)) = false := decide_eq_false c2
    have c2b1 : decide (1048576 < l0.length) = false := decide_eq_false (by omega)
    clear c2
    replace H := Option.bind_eq_some_iff.mp H
    obtain ⟨⟨t631, t632⟩, A30, H⟩ := H
    replace H : ((impl_ProgressOf.f t631 t632).bind fun t637 => ((spec_ProgressOf.f k t631 t632).bind fun t638 => (if t637 = t638 then (laws_FnProgressOf.j0 k t631 t632 t637 (decide (t637 < 0))) else (laws_FnProgressOf.j0 k t631 t632 t637 true)))) = some r := H
    have A3 := Aside0.mk A30
    clear A30
    replace H := Option.bind_eq_some_iff.mp H
    obtain ⟨t637, A40, H⟩ := H
    replace H : ((spec_ProgressOf.f k t631 t632).bind fun t638 => (if t637 = t638 then (laws_FnProgressOf.j0 k t631 t632 t637 (decide (t637 < 0))) else (laws_FnProgressOf.j0 k t631 t632 t637 true))) = some r := H
    have A4 := Aside0.mk A40
    clear A40
    have HC5 := Aside0.mk H
    clear H
    go_enter Tryd.func11, Tryd.ntmps11
    go_upto_region 5 with (first | ((with_reducible refine gate_callee (f := 39) rfl ?_); refine goesL_ (some 11) rfl rfl Tryd.func39 (by kernel_rfl) rfl #[.slice A0 l0.length c0] rfl (by (try simp only [List.map_toArray, List.map_cons, List.map_nil]); first | done | rfl | (simp only [List.length_drop, List.length_take]; rfl)) ?_; (with_reducible refine (spec_DrawProgressOf.calls k _ _ l0 t631 t632 _ ?side1 ?side2 A3.out).mono ?_); (case side1 => repeat (first | exact HR0.out | (with_reducible refine Kd.C_alloc ?_ _) | (with_reducible refine Kd.C_drewN ?_ _) | (with_reducible refine Kd.C_drew ?_))); (case side2 => exact HC0.out); rintro e w6 ⟨v633, v635, rfl, ho0, ho1, hb⟩; refine ⟨_, rfl, ?_⟩; have n0_ := Aside0.mk (Kd.S_lower ho0 (below_size (by repeat (first | (with_reducible first | exact HB.out | apply below_alloc | apply pw_below_drewN | apply below_drew1) | exact HB.out)))); have n1_ := Aside0.mk (Kd.Q_lower ho1 (below_size (by repeat (first | (with_reducible first | exact HB.out | apply below_alloc | apply pw_below_drewN | apply below_drew1) | exact HB.out)))); have n2_ := Aside0.mk (below_step (by repeat (first | (with_reducible first | exact HB.out | apply below_alloc | apply pw_below_drewN | apply below_drew1) | exact HB.out)) hb); clear HB; have HO634 := n0_; have HO636 := n1_; have HB := n2_; clear n0_ n1_ n2_; (try clear hb); (try clear hb2); (try clear hk); (try clear hi); (try clear ho0); (try clear ho1); obtain ⟨Ao7, co7, eo7⟩ := Kd.S_slice HO634.out; subst eo7; obtain ⟨Ao8, co8, eo8, _⟩ := Kd.Q_slice HO636.out; subst eo8) | ((with_reducible refine gate_callee (f := 40) rfl ?_); refine goesL_ (some 16) rfl rfl Tryd.func40 (by kernel_rfl) rfl #[.slice Ao7 t631.length co7, .slice Ao8 t632.length co8] rfl (by (try simp only [List.map_toArray, List.map_cons, List.map_nil]); first | done | rfl | (simp only [List.length_drop, List.length_take]; rfl)) ?_; (with_reducible refine (impl_ProgressOf.calls _ _ t631 _ _ t632 t637 _ ?side1 ?side2 ?side3 ?side4 ?side5 A4.out).mono ?_); (case side1 => repeat (first | exact (Kd.S_reads' HO634.out).2.2 | (with_reducible refine Kd.C_alloc ?_ _) | (with_reducible refine Kd.C_drewN ?_ _) | (with_reducible refine Kd.C_drew ?_))); (case side2 => exact (Kd.S_reads' HO634.out).2.1); (case side3 => repeat (first | exact (Kd.Q_reads' HO636.out).2.2 | (with_reducible refine Kd.C_alloc ?_ _) | (with_reducible refine Kd.C_drewN ?_ _) | (with_reducible refine Kd.C_drew ?_))); (case side4 => exact (Kd.Q_reads' HO636.out).2.1); (case side5 => exact Tab.of HT.out (by repeat (first | (with_reducible first | exact HB.out | apply below_alloc | apply pw_below_drewN | apply below_drew1) | exact HB.out))); rintro e w9 ⟨rfl, hb⟩; refine ⟨_, rfl, ?_⟩; have n0_ := Aside0.mk (Kd.S_below (by (with_reducible repeat (first | apply Kd.S_alloc | apply Kd.S_drewN | apply Kd.S_drew)); exact HO634.out) hb); have n1_ := Aside0.mk (Kd.Q_below (by (with_reducible repeat (first | apply Kd.Q_alloc | apply Kd.Q_drewN | apply Kd.Q_drew)); exact HO636.out) hb); have n2_ := Aside0.mk (below_step (by repeat (first | (with_reducible first | exact HB.out | apply below_alloc | apply pw_below_drewN | apply below_drew1) | exact HB.out)) hb); clear HO634; clear HO636; clear HB; have HO634 := n0_; have HO636 := n1_; have HB := n2_; clear n0_ n1_ n2_; (try clear hb); (try clear hb2); (try clear hk); (try clear hi)))
    (try simp only [Act.put, List.setIfInBounds_toArray, List.set_cons_zero, List.set_cons_succ])
    go_cut [25] (fun v25 wc => ∃ (kq : Nat) (x25_4 : Bool), v25 = .bool x25_4 ∧ Aside0 (laws_FnProgressOf.j0 kq t631 t632 t637 x25_4 = some r) ∧ Aside0 (kq ≤ k) ∧ Aside0 (Kd.S k30 30 wc w.heap.size (fun k_ => some k_ ≠ ((.slice Ao8 t632.length co8) : Value).ownBlock) (.slice Ao7 t631.length co7) t631) ∧ Aside0 (Kd.Q (Kd.int .i64) 3 wc w.heap.size (fun _ => True) (.slice Ao8 t632.length co8) t632) ∧ Aside0 (Below w.heap.size w wc))
    case first =>
      have H := HC5.out
      clear HC5
      replace H := Option.bind_eq_some_iff.mp H
      obtain ⟨t638, A100, H⟩ := H
      replace H : (if t637 = t638 then (laws_FnProgressOf.j0 k t631 t632 t637 (decide (t637 < 0))) else (laws_FnProgressOf.j0 k t631 t632 t637 true)) = some r := H
      have A10 := Aside0.mk A100
      clear A100
      by_cases c11 : t637 = t638
      · rw [if_pos c11] at H
        have c11b0 : (t637 == t638) = true := beq_iff_eq.mpr c11
        have c11b1 : (t637 != t638) = false := bne_eq_false_iff_eq.mpr c11
        clear c11
        (first | rw [c11b0] | (simp only [i64_w, i32_w]; rw [c11b0]) | skip)
        have H' := Aside0.mk H
        clear H
        go_wp2_with (first | ((with_reducible refine gate_callee (f := 41) rfl ?_); refine goesL_ (some 20) rfl rfl Tryd.func41 (by kernel_rfl) rfl #[.slice Ao7 t631.length co7, .slice Ao8 t632.length co8] rfl (by (try simp only [List.map_toArray, List.map_cons, List.map_nil]); first | done | rfl | (simp only [List.length_drop, List.length_take]; rfl)) ?_; (with_reducible refine (spec_ProgressOf.calls k _ _ t631 _ _ t632 t638 _ ?side1 ?side2 ?side3 ?side4 A10.out).mono ?_); (case side1 => repeat (first | exact (Kd.S_reads' HO634.out).2.2 | (with_reducible refine Kd.C_alloc ?_ _) | (with_reducible refine Kd.C_drewN ?_ _) | (with_reducible refine Kd.C_drew ?_))); (case side2 => exact (Kd.S_reads' HO634.out).2.1); (case side3 => repeat (first | exact (Kd.Q_reads' HO636.out).2.2 | (with_reducible refine Kd.C_alloc ?_ _) | (with_reducible refine Kd.C_drewN ?_ _) | (with_reducible refine Kd.C_drew ?_))); (case side4 => exact (Kd.Q_reads' HO636.out).2.1); rintro e w12 ⟨rfl, hb⟩; refine ⟨_, rfl, ?_⟩; have n0_ := Aside0.mk (Kd.S_below (by (with_reducible repeat (first | apply Kd.S_alloc | apply Kd.S_drewN | apply Kd.S_drew)); exact HO634.out) hb); have n1_ := Aside0.mk (Kd.Q_below (by (with_reducible repeat (first | apply Kd.Q_alloc | apply Kd.Q_drewN | apply Kd.Q_drew)); exact HO636.out) hb); have n2_ := Aside0.mk (below_step (by repeat (first | (with_reducible first | exact HB.out | apply below_alloc | apply pw_below_drewN | apply below_drew1) | exact HB.out)) hb); clear HO634; clear HO636; clear HB; have HO634 := n0_; have HO636 := n1_; have HB := n2_; clear n0_ n1_ n2_; (try clear hb); (try clear hb2); (try clear hk); (try clear hi)))
        go_meet
        case rel => exact ⟨_, (decide (t637 < 0)), (by first | rfl | (simp; done) | (simp [*]; done)), H', ⟨by first | omega | exact Nat.le_refl _⟩, ⟨by (with_reducible repeat (first | apply Kd.S_alloc | apply Kd.S_drewN | apply Kd.S_drew)); exact HO634.out⟩, ⟨by (with_reducible repeat (first | apply Kd.Q_alloc | apply Kd.Q_drewN | apply Kd.Q_drew)); exact HO636.out⟩, ⟨by repeat (first | (with_reducible first | exact HB.out | apply below_alloc | apply pw_below_drewN | apply below_drew1) | exact HB.out)⟩⟩
      · rw [if_neg c11] at H
        have c11b0 : (t637 == t638) = false := beq_eq_false_iff_ne.mpr c11
        have c11b1 : (t637 != t638) = true := bne_iff_ne.mpr c11
        (first | rw [c11b0] | (simp only [i64_w, i32_w]; rw [c11b0]) | skip)
        have H' := Aside0.mk H
        clear H
        go_wp2_with (first | ((with_reducible refine gate_callee (f := 41) rfl ?_); refine goesL_ (some 20) rfl rfl Tryd.func41 (by kernel_rfl) rfl #[.slice Ao7 t631.length co7, .slice Ao8 t632.length co8] rfl (by (try simp only [List.map_toArray, List.map_cons, List.map_nil]); first | done | rfl | (simp only [List.length_drop, List.length_take]; rfl)) ?_; (with_reducible refine (spec_ProgressOf.calls k _ _ t631 _ _ t632 t638 _ ?side1 ?side2 ?side3 ?side4 A10.out).mono ?_); (case side1 => repeat (first | exact (Kd.S_reads' HO634.out).2.2 | (with_reducible refine Kd.C_alloc ?_ _) | (with_reducible refine Kd.C_drewN ?_ _) | (with_reducible refine Kd.C_drew ?_))); (case side2 => exact (Kd.S_reads' HO634.out).2.1); (case side3 => repeat (first | exact (Kd.Q_reads' HO636.out).2.2 | (with_reducible refine Kd.C_alloc ?_ _) | (with_reducible refine Kd.C_drewN ?_ _) | (with_reducible refine Kd.C_drew ?_))); (case side4 => exact (Kd.Q_reads' HO636.out).2.1); rintro e w13 ⟨rfl, hb⟩; refine ⟨_, rfl, ?_⟩; have n0_ := Aside0.mk (Kd.S_below (by (with_reducible repeat (first | apply Kd.S_alloc | apply Kd.S_drewN | apply Kd.S_drew)); exact HO634.out) hb); have n1_ := Aside0.mk (Kd.Q_below (by (with_reducible repeat (first | apply Kd.Q_alloc | apply Kd.Q_drewN | apply Kd.Q_drew)); exact HO636.out) hb); have n2_ := Aside0.mk (below_step (by repeat (first | (with_reducible first | exact HB.out | apply below_alloc | apply pw_below_drewN | apply below_drew1) | exact HB.out)) hb); clear HO634; clear HO636; clear HB; have HO634 := n0_; have HO636 := n1_; have HB := n2_; clear n0_ n1_ n2_; (try clear hb); (try clear hb2); (try clear hk); (try clear hi)))
        go_meet
        case rel => exact ⟨_, (true), (by first | rfl | (simp; done) | (simp [*]; done)), H', ⟨by first | omega | exact Nat.le_refl _⟩, ⟨by (with_reducible repeat (first | apply Kd.S_alloc | apply Kd.S_drewN | apply Kd.S_drew)); exact HO634.out⟩, ⟨by (with_reducible repeat (first | apply Kd.Q_alloc | apply Kd.Q_drewN | apply Kd.Q_drew)); exact HO636.out⟩, ⟨by repeat (first | (with_reducible first | exact HB.out | apply below_alloc | apply pw_below_drewN | apply below_drew1) | exact HB.out)⟩⟩
    case rest =>
      clear HC5
      try clear c1
      try clear c2
      try clear c2b0
      try clear c2b1
      try clear p2
      try clear c3
      try clear c4
      try clear c11
      try clear c11b0
      try clear c11b1
      obtain ⟨kq, x25_4, rfl, HA, HJ4, HO_3, HO_4, HB⟩ := hcut
      cases kq with
      | zero => exact absurd HA.out (by simp [laws_FnProgressOf.j0])
      | succ kj4 =>
        have H := HA.out
        clear HA
        simp only [laws_FnProgressOf.j0] at H
        by_cases c14 : x25_4 = true
        · subst c14
          have H1 : ((spec_ProgressOf.f kj4 t631 t632).bind fun t639 => (some (t637 == t639))) = some r := by rw [if_pos rfl] at H; exact H
          clear H
          have H := H1
          clear H1
          replace H := Option.bind_eq_some_iff.mp H
          obtain ⟨t639, A150, H⟩ := H
          replace H : (some (t637 == t639)) = some r := H
          have A15 := Aside0.mk A150
          clear A150
          obtain rfl := Option.some.inj H
          go_wp2_with (first | ((with_reducible refine gate_callee (f := 41) rfl ?_); refine goesL_ (some 29) rfl rfl Tryd.func41 (by kernel_rfl) rfl #[.slice Ao7 t631.length co7, .slice Ao8 t632.length co8] rfl (by (try simp only [List.map_toArray, List.map_cons, List.map_nil]); first | done | rfl | (simp only [List.length_drop, List.length_take]; rfl)) ?_; (with_reducible refine (spec_ProgressOf.calls kj4 _ _ t631 _ _ t632 t639 _ ?side1 ?side2 ?side3 ?side4 A15.out).mono ?_); (case side1 => repeat (first | exact (Kd.S_reads' HO_3.out).2.2 | (with_reducible refine Kd.C_alloc ?_ _) | (with_reducible refine Kd.C_drewN ?_ _) | (with_reducible refine Kd.C_drew ?_))); (case side2 => exact (Kd.S_reads' HO_3.out).2.1); (case side3 => repeat (first | exact (Kd.Q_reads' HO_4.out).2.2 | (with_reducible refine Kd.C_alloc ?_ _) | (with_reducible refine Kd.C_drewN ?_ _) | (with_reducible refine Kd.C_drew ?_))); (case side4 => exact (Kd.Q_reads' HO_4.out).2.1); rintro e w16 ⟨rfl, hb⟩; refine ⟨_, rfl, ?_⟩; have n0_ := Aside0.mk (Kd.S_below (by (with_reducible repeat (first | apply Kd.S_alloc | apply Kd.S_drewN | apply Kd.S_drew)); exact HO_3.out) hb); have n1_ := Aside0.mk (Kd.Q_below (by (with_reducible repeat (first | apply Kd.Q_alloc | apply Kd.Q_drewN | apply Kd.Q_drew)); exact HO_4.out) hb); have n2_ := Aside0.mk (below_step (by repeat (first | (with_reducible first | exact HB.out | apply below_alloc | apply pw_below_drewN | apply below_drew1) | exact HB.out)) hb); clear HO_3; clear HO_4; clear HB; have HO_3 := n0_; have HO_4 := n1_; have HB := n2_; clear n0_ n1_ n2_; (try clear hb); (try clear hb2); (try clear hk); (try clear hi)))
          go_ret
          exact ⟨by first | rfl | (simp [errW_none, errW_some] <;> rfl) | (simp [*, errW_none, errW_some] <;> rfl), by repeat (first | (with_reducible first | exact HB.out | apply below_alloc | apply pw_below_drewN | apply below_drew1) | exact HB.out)⟩
        · replace c14 := Bool.eq_false_iff.mpr c14
          subst c14
          have H1 : (if t637 ≤ 1000 then (if (t631.length : Int) = 0 then (some ((t637 == 1000) == ((t632.length : Int) == (t631.length : Int)))) else ((impl_ProgressOf.f t631 ([] : List Int)).bind fun t640 => (if t640 = 0 then (some ((t637 == 1000) == ((t632.length : Int) == (t631.length : Int)))) else (some false)))) else (some false)) = some r := by rw [if_neg (show ¬ (false = true) by decide)] at H; exact H
          clear H
          have H := H1
          clear H1
          by_cases c17 : t637 ≤ 1000
          · rw [if_pos c17] at H
            have c17b0 : decide (t637 ≤ 1000) = true := decide_eq_true c17
            clear c17
            by_cases c18 : (t631.length : Int) = 0
            · rw [if_pos c18] at H
              have c18b0 : ((t631.length : Int) == 0) = true := beq_iff_eq.mpr c18
              have c18b1 : ((t631.length : Int) != 0) = false := bne_eq_false_iff_eq.mpr c18
              clear c18
              obtain rfl := Option.some.inj H
              go_wp2
              go_ret
              exact ⟨by first | rfl | (simp [errW_none, errW_some] <;> rfl) | (simp [*, errW_none, errW_some] <;> rfl), by repeat (first | (with_reducible first | exact HB.out | apply below_alloc | apply pw_below_drewN | apply below_drew1) | exact HB.out)⟩
            · rw [if_neg c18] at H
              have c18b0 : ((t631.length : Int) == 0) = false := beq_eq_false_iff_ne.mpr c18
              have c18b1 : ((t631.length : Int) != 0) = true := bne_iff_ne.mpr c18
              have c18b2 : ¬ (t631 = []) := fun h_ => c18 (by rw [h_]; rfl)
              replace H := Option.bind_eq_some_iff.mp H
              obtain ⟨t640, A190, H⟩ := H
              replace H : (if t640 = 0 then (some ((t637 == 1000) == ((t632.length : Int) == (t631.length : Int)))) else (some false)) = some r := H
              have A19 := Aside0.mk A190
              clear A190
              by_cases c20 : t640 = 0
              · rw [if_pos c20] at H
                have c20b0 : (t640 == 0) = true := beq_iff_eq.mpr c20
                have c20b1 : (t640 != 0) = false := bne_eq_false_iff_eq.mpr c20
                clear c20
                obtain rfl := Option.some.inj H
                go_wp2_with (first | (go_at_call 40; (refine (impl_ProgressOf.calls _ _ t631 _ _ ([] : List Int) t640 _ ?side1 ?side2 ?side3 ?side4 ?side5 A19.out).mono ?_); (case side1 => repeat (first | exact (Kd.S_reads' HO_3.out).2.2 | (with_reducible refine Kd.C_alloc ?_ _) | (with_reducible refine Kd.C_drewN ?_ _) | (with_reducible refine Kd.C_drew ?_))); (case side2 => exact (Kd.S_reads' HO_3.out).2.1); (case side3 => exact Kd.C_nil _ _); (case side4 => exact Nat.le_refl _); (case side5 => exact Tab.of HT.out (by repeat (first | (with_reducible first | exact HB.out | apply below_alloc | apply pw_below_drewN | apply below_drew1) | exact HB.out))); rintro e w21 ⟨rfl, hb⟩; have n0_ := Aside0.mk (Kd.S_below (by (with_reducible repeat (first | apply Kd.S_alloc | apply Kd.S_drewN | apply Kd.S_drew)); exact HO_3.out) hb); have n1_ := Aside0.mk (Kd.Q_below (by (with_reducible repeat (first | apply Kd.Q_alloc | apply Kd.Q_drewN | apply Kd.Q_drew)); exact HO_4.out) hb); have n2_ := Aside0.mk (below_step (by repeat (first | (with_reducible first | exact HB.out | apply below_alloc | apply pw_below_drewN | apply below_drew1) | exact HB.out)) hb); clear HO_3; clear HO_4; clear HB; have HO_3 := n0_; have HO_4 := n1_; have HB := n2_; clear n0_ n1_ n2_; (try clear hb); (try clear hb2); (try clear hk); (try clear hi)))
                go_ret
                exact ⟨by first | rfl | (simp [errW_none, errW_some] <;> rfl) | (simp [*, errW_none, errW_some] <;> rfl), by repeat (first | (with_reducible first | exact HB.out | apply below_alloc | apply pw_below_drewN | apply below_drew1) | exact HB.out)⟩
              · rw [if_neg c20] at H
                have c20b0 : (t640 == 0) = false := beq_eq_false_iff_ne.mpr c20
                have c20b1 : (t640 != 0) = true := bne_iff_ne.mpr c20
                obtain rfl := Option.some.inj H
                go_wp2_with (first | (go_at_call 40; (refine (impl_ProgressOf.calls _ _ t631 _ _ ([] : List Int) t640 _ ?side1 ?side2 ?side3 ?side4 ?side5 A19.out).mono ?_); (case side1 => repeat (first | exact (Kd.S_reads' HO_3.out).2.2 | (with_reducible refine Kd.C_alloc ?_ _) | (with_reducible refine Kd.C_drewN ?_ _) | (with_reducible refine Kd.C_drew ?_))); (case side2 => exact (Kd.S_reads' HO_3.out).2.1); (case side3 => exact Kd.C_nil _ _); (case side4 => exact Nat.le_refl _); (case side5 => exact Tab.of HT.out (by repeat (first | (with_reducible first | exact HB.out | apply below_alloc | apply pw_below_drewN | apply below_drew1) | exact HB.out))); rintro e w22 ⟨rfl, hb⟩; have n0_ := Aside0.mk (Kd.S_below (by (with_reducible repeat (first | apply Kd.S_alloc | apply Kd.S_drewN | apply Kd.S_drew)); exact HO_3.out) hb); have n1_ := Aside0.mk (Kd.Q_below (by (with_reducible repeat (first | apply Kd.Q_alloc | apply Kd.Q_drewN | apply Kd.Q_drew)); exact HO_4.out) hb); have n2_ := Aside0.mk (below_step (by repeat (first | (with_reducible first | exact HB.out | apply below_alloc | apply pw_below_drewN | apply below_drew1) | exact HB.out)) hb); clear HO_3; clear HO_4; clear HB; have HO_3 := n0_; have HO_4 := n1_; have HB := n2_; clear n0_ n1_ n2_; (try clear hb); (try clear hb2); (try clear hk); (try clear hi)))
                go_ret
                exact ⟨by first | rfl | (simp [errW_none, errW_some] <;> rfl) | (simp [*, errW_none, errW_some] <;> rfl), by repeat (first | (with_reducible first | exact HB.out | apply below_alloc | apply pw_below_drewN | apply below_drew1) | exact HB.out)⟩
          · rw [if_neg c17] at H
            have c17b0 : decide (t637 ≤ 1000) = false := decide_eq_false c17
            clear c17
            obtain rfl := Option.some.inj H
            go_wp2
            go_ret
            exact ⟨by first | rfl | (simp [errW_none, errW_some] <;> rfl) | (simp [*, errW_none, errW_some] <;> rfl), by repeat (first | (with_reducible first | exact HB.out | apply below_alloc | apply pw_below_drewN | apply below_drew1) | exact HB.out)⟩
end Go.Proofs.YtpgfcihmgdempaaDoor.P
end
section
set_option linter.unusedVariables false
set_option linter.unusedSimpArgs false
namespace Go.Proofs.YtpgfcihmgdempaaDoor.Core
open Go Go.RowKit Go.Proofs.YtpgfcihmgdempaaDoorW.PrintWords Go.Proofs.YtpgfcihmgdempaaDoorW.PrintMore Go.Proofs.YtpgfcihmgdempaaDoor.P
theorem toInt_eq (b : Bool) : spec_toInt.f b = some (if b then 1 else 0) := by unfold spec_toInt.f; cases b <;> rfl
/-- The sum of the times of a set's tasks among the first n. -/
def sumTo (g : List Tk) (d n : Nat) : Nat := totL g ((List.range n).filter (fun i => d.testBit i))
theorem sumTo_succ (g : List Tk) (d n : Nat) : sumTo g d (n + 1) = sumTo g d n + if d.testBit n then tmN g n else 0 := by
  unfold sumTo
  rw [List.range_succ, List.filter_append]
  cases h : d.testBit n with
  | true => rw [List.filter_cons_of_pos (by simpa using h), List.filter_nil, totL_snoc]; simp
  | false => rw [List.filter_cons_of_neg (by simp [h]), List.filter_nil, List.append_nil]; simp
theorem elemsN_range {s n : Nat} (hn : n ≤ 8) (hs : s < 2 ^ n) : elemsN s = (List.range n).filter (fun i => s.testBit i) := by
  have e8 : List.range 8 = List.range n ++ (List.range (8 - n)).map (n + ·) := by rw [← List.range_add]; congr 1; omega
  unfold elemsN
  rw [e8, List.filter_append]
  have e2 : ((List.range (8 - n)).map (n + ·)).filter (fun i => s.testBit i) = [] := by
    rw [List.filter_eq_nil_iff]
    intro y hy hb
    obtain ⟨z, _, rfl⟩ := List.mem_map.1 hy
    rw [Nat.testBit_lt_two_pow (Nat.lt_of_lt_of_le hs (Nat.pow_le_pow_right (by omega) (by omega)))] at hb
    cases hb
  rw [e2, List.append_nil]
theorem sumTo_full {g : List Tk} {s : Nat} (h8 : g.length ≤ 8) (hs : s < 2 ^ g.length) : sumTo g s g.length = totalN g s := by
  unfold sumTo totalN
  rw [elemsN_range h8 hs]
theorem sumTo_le {g : List Tk} (ht : tm20 g) (d n : Nat) : sumTo g d n ≤ n * 20 := by
  unfold sumTo
  have h1 := totL_le ht ((List.range n).filter (fun i => d.testBit i))
  have h2 := List.length_filter_le (fun i => d.testBit i) (List.range n)
  rw [List.length_range] at h2
  exact Nat.le_trans h1 (Nat.mul_le_mul_right 20 h2)
theorem total_pos {g : List Tk} (ht : ∀ t ∈ g, taskOk t) {s i : Nat} (h8 : g.length ≤ 8) (hi : i < g.length) (hb : s.testBit i = true) : 1 ≤ totalN g s := by
  have hm : i ∈ elemsN s := mem_elemsN.2 ⟨by omega, hb⟩
  have h1 := (tm_int ht hi).2.1
  have : ∀ L : List Nat, i ∈ L → 1 ≤ totL g L := by
    intro L
    induction L with
    | nil => intro h; cases h
    | cons a L ih =>
      intro h
      simp only [totL, List.map_cons, List.sum_cons] at *
      rcases List.mem_cons.1 h with rfl | h
      · omega
      · have := ih h; omega
  exact this _ hm
theorem pr_reckon {a b : Nat} (ha : a ≤ 160) (hb : 0 < b) : wrap64 (Int.tdiv (wrap64 (1000 * (a : Int))) (b : Int)) = ((1000 * a / b : Nat) : Int) := by
  rw [w64 (n := 1000 * (a : Int)) (by omega) (by omega), Int.tdiv_eq_ediv_of_nonneg (by omega)]
  have e : (1000 * (a : Int)) / (b : Int) = ((1000 * a / b : Nat) : Int) := by simp
  rw [e]
  have h1 : 1000 * a / b ≤ 1000 * a := Nat.div_le_self _ _
  generalize 1000 * a / b = z at *
  exact w64 (by omega) (by omega)
theorem pr_add {a b i : Nat} {t : Bool} (ha : a ≤ i * 20) (hb : b ≤ 20) (hi : i ≤ 8) : wrap64 ((a : Int) + wrap64 ((b : Int) * (if t = true then 1 else 0))) = ((a + (if t = true then b else 0) : Nat) : Int) := by
  have e : wrap64 ((b : Int) * (if t = true then 1 else 0)) = ((if t = true then b else 0 : Nat) : Int) := by
    cases t
    · simp only [Bool.false_eq_true, if_false, Int.mul_zero]; rw [w64 (by omega) (by omega)]; rfl
    · simp only [if_true, Int.mul_one]; rw [w64 (by omega) (by omega)]
  rw [e]
  exact (wadd (by omega) (by split <;> omega)).1
theorem ev_ProgressOf {g : List Tk} (hg : Fits g) {l : List Int} (hl : l.length < big) : Ev (fun k => spec_ProgressOf.f k g l) (progD g l) := by
  unfold spec_ProgressOf.f progD
  refine Ev.bind (ev_validDone hg hl) ?_
  cases h : doneD g l with
  | none => exact Ev.neg (by simp) (Ev.const _)
  | some GS =>
    obtain ⟨G, s⟩ := GS
    obtain ⟨v, hG, hs, rfl, _, _⟩ := done_list h
    have h8 := v.n8
    have htk : ∀ t ∈ g, taskOk t := fun t ht => (v.fine.1 t ht).1
    have ht20 := tm20_of htk
    refine Ev.pos (by first | rfl | trivial) ?_
    simp only [v.tasks]
    have hfull : 2 ^ g.length - 1 < 2 ^ g.length := by have := Nat.two_pow_pos g.length; omega
    have key : ∀ (m i : Nat), i + m = g.length → Ev (fun k => spec_ProgressOf.l0 k g (up (elemsN s)) ((sumTo g s i : Nat) : Int) ((sumTo g (2 ^ g.length - 1) i : Nat) : Int) (i : Int)) (if g.length = 0 then 1000 else ((1000 * totalN g s / totalN g (2 ^ g.length - 1) : Nat) : Int)) := by
      intro m
      induction m with
      | zero =>
        intro i hi
        have : i = g.length := by omega
        subst this
        rw [sumTo_full h8 hs, sumTo_full h8 hfull]
        refine Ev.succ ?_
        simp only [spec_ProgressOf.l0]
        refine Ev.neg (by omega) ?_
        by_cases h0 : g.length = 0
        · rw [if_pos h0]
          have e0 : totalN g (2 ^ g.length - 1) = 0 := by rw [h0]; rfl
          exact Ev.pos (by rw [e0]; rfl) (Ev.const _)
        · rw [if_neg h0]
          have hp := total_pos htk (s := 2 ^ g.length - 1) (i := 0) h8 (by omega) (by rw [Nat.testBit_two_pow_sub_one]; simp; omega)
          have ha : totalN g s ≤ 160 := by rw [← sumTo_full h8 hs]; have := sumTo_le ht20 s g.length; omega
          refine Ev.neg (by omega) ((Ev.const _).conv ?_)
          exact pr_reckon ha (by omega)
      | succ m ih =>
        intro i hi
        have hin := ev_isIn (L := up (elemsN s)) (by rw [up_length]; have := elemsN_length s; unfold big; omega) (i : Int)
        have e1 : decide ((i : Int) ∈ up (elemsN s)) = s.testBit i := by rw [Bool.eq_iff_iff, decide_eq_true_eq, mem_up, ← v.list_bit hs]
        rw [e1] at hin
        have hw : wrap64 ((i : Int) + 1) = ((i + 1 : Nat) : Int) := w64s (by unfold big; omega)
        have htm := tm_int htk (i := i) (by omega)
        have hf : (2 ^ g.length - 1).testBit i = true := by rw [Nat.testBit_two_pow_sub_one]; simp; omega
        have h := ih (i + 1) (by omega)
        rw [sumTo_succ, sumTo_succ, hf, if_pos rfl] at h
        have b1 := sumTo_le ht20 s i
        have b2 := sumTo_le ht20 (2 ^ g.length - 1) i
        generalize sumTo g (2 ^ g.length - 1) i = sf at h b2 ⊢
        generalize sumTo g s i = ss at h b1 ⊢
        have hw2 := (wadd (a := sf) (b := tmN g i) (by omega) (by omega)).1
        refine Ev.succ ?_
        simp only [spec_ProgressOf.l0, rdT_nat, hw, htm.1, hw2]
        refine Ev.pos (by omega) (Ev.pos (by omega) (Ev.bind hin ?_))
        rw [toInt_eq]
        refine Ev.sb ?_
        rw [pr_add b1 htm.2.2 (by omega)]
        exact h
    exact key g.length 0 (by omega)
end Go.Proofs.YtpgfcihmgdempaaDoor.Core
end
section
set_option linter.unusedVariables false
set_option linter.unusedSimpArgs false
namespace Go.Proofs.YtpgfcihmgdempaaDoor.Core
open Go Go.RowKit Go.Proofs.YtpgfcihmgdempaaDoorW.PrintWords Go.Proofs.YtpgfcihmgdempaaDoorW.PrintMore Go.Proofs.YtpgfcihmgdempaaDoor.P
theorem ev_DrawProgressOf {l : List Int} (h : Bytes l) : EvP (fun k => spec_DrawProgressOf.f k l) (fun r => GSmall 16 10 r.1 ∧ r.2.length ≤ 9) := by
  unfold spec_DrawProgressOf.f
  exact (ev_DrawValidDone h).bind fun a ha => EvP.ret ha
end Go.Proofs.YtpgfcihmgdempaaDoor.Core
end
section
set_option linter.unusedVariables false
set_option linter.unusedSimpArgs false
namespace Go.Proofs.YtpgfcihmgdempaaDoor.Core
open Go Go.RowKit Go.Proofs.YtpgfcihmgdempaaDoorW.PrintWords Go.Proofs.YtpgfcihmgdempaaDoorW.PrintMore Go.Proofs.YtpgfcihmgdempaaDoor.P
theorem sumTo_mono {g : List Tk} {n : Nat} (s : Nat) : ∀ i, i ≤ n → sumTo g s i ≤ sumTo g (2 ^ n - 1) i
  | 0, _ => by simp [sumTo, totL]
  | i + 1, hi => by
    have ih := sumTo_mono (g := g) (n := n) s i (by omega)
    have hf : (2 ^ n - 1).testBit i = true := by rw [Nat.testBit_two_pow_sub_one]; simp; omega
    rw [sumTo_succ, sumTo_succ, if_pos hf]
    split <;> omega
theorem sumTo_strict {g : List Tk} (htk : ∀ t ∈ g, taskOk t) {n s j : Nat} (hn : n ≤ g.length) (hj : s.testBit j = false) : ∀ i, j < i → i ≤ n → sumTo g s i < sumTo g (2 ^ n - 1) i
  | 0, h, _ => by omega
  | i + 1, h, hi => by
    have hm := sumTo_mono (g := g) (n := n) s i (by omega)
    have hf : (2 ^ n - 1).testBit i = true := by rw [Nat.testBit_two_pow_sub_one]; simp; omega
    rw [sumTo_succ, sumTo_succ, if_pos hf]
    have ht := (tm_int htk (i := i) (by omega)).2.1
    by_cases e : j = i
    · subst e
      rw [hj]
      simp only [Bool.false_eq_true, if_false]
      omega
    · have ih := sumTo_strict htk hn hj i (by omega) (by omega)
      split <;> omega
theorem total_le {g : List Tk} {s : Nat} (h8 : g.length ≤ 8) (hs : s < 2 ^ g.length) : totalN g s ≤ totalN g (2 ^ g.length - 1) := by
  have hf : 2 ^ g.length - 1 < 2 ^ g.length := by have := Nat.two_pow_pos g.length; omega
  rw [← sumTo_full h8 hs, ← sumTo_full h8 hf]
  exact sumTo_mono s _ (Nat.le_refl _)
theorem total_lt {g : List Tk} (htk : ∀ t ∈ g, taskOk t) {s : Nat} (h8 : g.length ≤ 8) (hs : s < 2 ^ g.length) (hne : s ≠ 2 ^ g.length - 1) : totalN g s < totalN g (2 ^ g.length - 1) := by
  have hf : 2 ^ g.length - 1 < 2 ^ g.length := by have := Nat.two_pow_pos g.length; omega
  obtain ⟨j, hj, hb⟩ : ∃ j, j < g.length ∧ s.testBit j = false := by
    refine Decidable.byContradiction fun h => hne (full_of_bits hs fun i hi => ?_)
    cases hb : s.testBit i with
    | true => rfl
    | false => exact absurd ⟨i, hi, hb⟩ h
  rw [← sumTo_full h8 hs, ← sumTo_full h8 hf]
  exact sumTo_strict htk (Nat.le_refl _) hb _ hj (Nat.le_refl _)
theorem pm_full {a b : Nat} (hb : 0 < b) (hab : a ≤ b) : 1000 * a / b ≤ 1000 ∧ (1000 * a / b = 1000 ↔ a = b) := by
  have h1 : 1000 * a / b ≤ 1000 := by
    refine Nat.div_le_of_le_mul ?_
    rw [Nat.mul_comm b 1000]
    exact Nat.mul_le_mul_left 1000 hab
  refine ⟨h1, fun h => ?_, fun h => ?_⟩
  · have h2 : 1000 * b ≤ 1000 * a := by
      have := Nat.div_mul_le_self (1000 * a) b
      rw [h] at this
      exact this
    omega
  · rw [h]
    exact Nat.mul_div_cancel _ hb
theorem FnProgressOf_pure (l0 : List Int) (hW : Bytes l0) : ∃ k, laws_FnProgressOf.f k l0 = some true := by
  refine Ev.one (f := fun k => laws_FnProgressOf.f k l0) (EvP.ev ?_)
  unfold laws_FnProgressOf.f
  refine EvP.ite (fun _ => EvP.ret rfl) (fun hlen => ?_)
  refine (ev_DrawProgressOf hW).bind fun ⟨g, l⟩ hg => ?_
  obtain ⟨hg, hl⟩ := hg
  dsimp only at hg hl ⊢
  have hf := hg.fits (by unfold big; omega) (by unfold big; omega)
  have hs := ev_ProgressOf hf (l := l) (by unfold big; omega)
  refine Ev.bindP (Ev.const (progD g l)) (Ev.bindP hs (EvP.pos rfl ?_))
  refine EvP.succ ?_
  simp only [laws_FnProgressOf.j0]
  cases h : doneD g l with
  | none =>
    have e : progD g l = -1 := by unfold progD; rw [h]
    rw [e] at hs ⊢
    exact EvP.pos (by first | rfl | trivial) (Ev.bindP hs (EvP.ret rfl))
  | some GS =>
    obtain ⟨G, s⟩ := GS
    obtain ⟨v, hG, hsl, rfl, _, hc⟩ := done_list h
    have h8 := v.n8
    have htk : ∀ t ∈ g, taskOk t := fun t ht => (v.fine.1 t ht).1
    have e : progD g (up (elemsN s)) = if g.length = 0 then 1000 else ((1000 * totalN g s / totalN g (2 ^ g.length - 1) : Nat) : Int) := by unfold progD; rw [h]; simp only [v.tasks]
    have hlen : (up (elemsN s)).length = g.length - zb g.length s := by rw [up_length]; have := elems_zb h8 hsl; omega
    have hzb := full_zb hsl
    by_cases h0 : g.length = 0
    · rw [if_pos h0] at e
      rw [e]
      refine EvP.neg (by simp) (EvP.pos (by omega) (EvP.pos (by omega) (EvP.ret ?_)))
      rw [hlen, h0]; rfl
    · rw [if_neg h0] at e
      have hp := total_pos htk (s := 2 ^ g.length - 1) (i := 0) h8 (by omega) (by rw [Nat.testBit_two_pow_sub_one]; simp; omega)
      obtain ⟨q1, q2⟩ := pm_full (show 0 < totalN g (2 ^ g.length - 1) by omega) (total_le h8 hsl)
      have e0 : progD g [] = 0 := by
        have hz : 0 < 2 ^ g.length := Nat.two_pow_pos _
        have d0 : doneD g [] = some (G, 0) := doneD_mk hG hz ((v.closed_iff hz).2 (fun i hi => by simp at hi))
        unfold progD
        rw [d0]
        simp only [v.tasks]
        rw [if_neg h0]
        have : totalN g 0 = 0 := by
          have : elemsN 0 = [] := by decide
          unfold totalN; rw [this]; rfl
        rw [this]
        simp
      have hlz : ((up (elemsN s)).length : Int) = (g.length : Int) ↔ zb g.length s = 0 := by
        have := elems_zb h8 hsl
        rw [up_length]
        omega
      have hfin : ((progD g (up (elemsN s)) == 1000) == (((up (elemsN s)).length : Int) == (g.length : Int))) = true := by
        rw [e, beq_iff_eq, Bool.eq_iff_iff, beq_iff_eq, beq_iff_eq, hlz, hzb]
        constructor
        · intro hq
          have hq2 : 1000 * totalN g s / totalN g (2 ^ g.length - 1) = 1000 := by omega
          have := q2.1 hq2
          refine Decidable.byContradiction fun hne => ?_
          have := total_lt htk h8 hsl hne
          omega
        · intro hq
          have : totalN g s = totalN g (2 ^ g.length - 1) := by rw [hq]
          have := q2.2 this
          omega
      have hle : progD g (up (elemsN s)) ≤ 1000 ∧ 0 ≤ progD g (up (elemsN s)) := by
        rw [e]
        generalize 1000 * totalN g s / totalN g (2 ^ g.length - 1) = z at *
        omega
      refine EvP.neg (by rw [decide_eq_false (by omega)]; simp) (EvP.pos hle.1 (EvP.neg (by omega) (Ev.bindP (Ev.const (progD g [])) (EvP.pos e0 (EvP.ret hfin)))))
end Go.Proofs.YtpgfcihmgdempaaDoor.Core
end
