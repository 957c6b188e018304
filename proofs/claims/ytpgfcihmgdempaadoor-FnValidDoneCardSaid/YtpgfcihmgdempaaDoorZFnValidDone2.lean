/- The law FnValidDone holds of the given program: the proof's own part, with its row and its card, part 2 of 3. -/
import Derived.Test.YtpgfcihmgdempaaDoorZFnValidDone1
section
set_option linter.unusedVariables false
set_option linter.unusedSimpArgs false
namespace Go.Proofs.YtpgfcihmgdempaaDoor.Core
open Go Go.RowKit Go.Proofs.YtpgfcihmgdempaaDoorW.PrintWords Go.Proofs.YtpgfcihmgdempaaDoorW.PrintMore Go.Proofs.YtpgfcihmgdempaaDoor.P
theorem VG.need_lt {g : List Tk} {G : GD} (v : VG g G) {i m : Nat} (h : (G.needs.getD i 0).testBit m = true) : m < g.length := by
  have h1 := getD_lt v.nb i
  have h2 := Nat.ge_two_pow_of_testBit h
  have h3 : 2 ^ m < 2 ^ g.length := Nat.lt_of_le_of_lt h2 h1
  exact (Nat.pow_lt_pow_iff_right (by omega)).1 h3
end Go.Proofs.YtpgfcihmgdempaaDoor.Core
end
section
set_option linter.unusedVariables false
set_option linter.unusedSimpArgs false
namespace Go.Proofs.YtpgfcihmgdempaaDoor.Core
open Go Go.RowKit Go.Shelf Go.Proofs.YtpgfcihmgdempaaDoorW.PrintWords Go.Proofs.YtpgfcihmgdempaaDoorW.PrintMore Go.Proofs.YtpgfcihmgdempaaDoor.P
attribute [local go_sem] Oper.semAt_some wide_fn wide_depth
theorem graphOf_row (A0 : Option Addr) (c0 : Nat) (l0 : List Tk) (G : GD) (w : World) (hT : Tab w) (hr0 : k30.C w A0 l0.length l0) (hc0 : l0.length ≤ c0) (hg : graphD l0 = some G) :
    Calls Tryd.prog 47 #[.slice A0 l0.length c0] w fun e w' => ∃ (b : Nat) (v : Value), e = .returned (.tuple #[.pointer (some ⟨b, 0, none⟩), .bool true]) ∧ Below w.heap.size w w' ∧ w.heap.size ≤ b ∧ IsG w' b G ∧ w'.cell? ⟨b, 2, none⟩ = some v ∧ (Kd.int .i64).R 3 w' w.heap.size (fun _ => True) v (up G.order) :=
  (graphOf_calls A0 c0 l0 w hT hr0 hc0).mono fun e w' h => by
    unfold graphPost at h
    rw [hg] at h
    obtain ⟨b, v, h1, h2, h3, h4, h5, h6, _⟩ := h
    exact ⟨b, v, h1, h2, h3, h4, h5, h6⟩
theorem graphOf_some (A0 : Option Addr) (c0 : Nat) (l0 : List Tk) (G : GD) (w : World) (hT : Tab w) (hr0 : k30.C w A0 l0.length l0) (hc0 : l0.length ≤ c0) (hg : graphD l0 = some G) :
    Calls Tryd.prog 47 #[.slice A0 l0.length c0] w fun e w' => ∃ b : Nat, e = .returned (.tuple #[.pointer (some ⟨b, 0, none⟩), .bool true]) ∧ Below w.heap.size w w' ∧ IsG w' b G :=
  (graphOf_row A0 c0 l0 G w hT hr0 hc0 hg).mono fun e w' ⟨b, v, h1, h2, _, h3, _⟩ => ⟨b, h1, h2, h3⟩
end Go.Proofs.YtpgfcihmgdempaaDoor.Core
end
section
namespace Go.Proofs.YtpgfcihmgdempaaDoor.P
open Go.RowKit Go.Proofs.YtpgfcihmgdempaaDoorW.PrintWords Go.Proofs.YtpgfcihmgdempaaDoorW.PrintLast Go.Proofs.YtpgfcihmgdempaaDoorW.PrintMore
attribute [local go_sem] max2_int min2_int max_two min_two max_three min_three max_four min_four   -- for this text's walks alone
set_option linter.unusedVariables false
set_option linter.unusedSimpArgs false
noncomputable def spec_DrawValidDone.f (k : Nat) (l0 : List Int) : Option ((List (S30)) × List Int) := (spec_newReader.f l0).bind fun bt376 => ((spec_anyGraph.f bt376.1 bt376.2).bind fun bt379 => ((spec_someDone.f k bt376.1 bt379.2 bt379.1).bind fun bt383 => (some (bt379.1, bt383.1))))
theorem spec_DrawValidDone.mono : ∀ a0 k, LeO (spec_DrawValidDone.f k a0) (spec_DrawValidDone.f (k + 1) a0) := by
  intro a0 k
  unfold spec_DrawValidDone.f
  repeat' first
      | (with_reducible exact spec_someDone.mono _ _ _ _)
      | (with_reducible exact LeO.refl _)
      | (with_reducible exact LeO.none _)
      | (with_reducible refine LeO.ite ?_ ?_)
      | (with_reducible refine LeO.bind ?_ (fun _ => ?_))
      | exact spec_someDone.mono _ _ _ _
      | exact LeO.none _
      | refine LeO.ite ?_ ?_
      | refine LeO.bind ?_ (fun _ => ?_)
set_option maxHeartbeats 8000000 in
set_option maxRecDepth 100000 in
theorem spec_DrawValidDone.calls (k : Nat) (A0 : Option Addr) (c0 : Nat) (l0 : List Int) (r1 : List (S30)) (r2 : List Int) (w : World) (hr0 : Kd.C (Kd.int .u8) w A0 l0.length l0) (hc0 : l0.length ≤ c0) (h : spec_DrawValidDone.f k l0 = some (r1, r2)) :
    Calls Tryd.prog 19 #[.slice A0 l0.length c0] w fun e w' => ∃ v0_ v1_ : Value, e = .returned (.tuple #[v0_, v1_]) ∧ Kd.S k30 30 w' w.heap.size (fun k_ => some k_ ≠ (v1_ : Value).ownBlock) v0_ r1 ∧ Kd.Q (Kd.int .i64) 3 w' w.heap.size (fun _ => True) v1_ r2 ∧ Below w.heap.size w w' := by
  have HR0 := Aside0.mk hr0
  have HC0 := Aside0.mk hc0
  clear hr0 hc0
  have HB := Aside0.mk (Below.refl w.heap.size w)
  have H : ((spec_newReader.f l0).bind fun bt376 => ((spec_anyGraph.f bt376.1 bt376.2).bind fun bt379 => ((spec_someDone.f k bt376.1 bt379.2 bt379.1).bind fun bt383 => (some (bt379.1, bt383.1))))) = some (r1, r2) := h
  clear h
  replace H := Option.bind_eq_some_iff.mp H
  obtain ⟨⟨t376, t377⟩, A20, H⟩ := H
  replace H : ((spec_anyGraph.f t376 t377).bind fun bt379 => ((spec_someDone.f k t376 bt379.2 bt379.1).bind fun bt383 => (some (bt379.1, bt383.1)))) = some (r1, r2) := H
  have A2 := Aside0.mk A20
  clear A20
  replace H := Option.bind_eq_some_iff.mp H
  obtain ⟨⟨t379, t382⟩, A30, H⟩ := H
  replace H : ((spec_someDone.f k t376 t382 t379).bind fun bt383 => (some (t379, bt383.1))) = some (r1, r2) := H
  have A3 := Aside0.mk A30
  clear A30
  replace H := Option.bind_eq_some_iff.mp H
  obtain ⟨⟨t383, t386⟩, A40, H⟩ := H
  replace H : (some (t379, t383)) = some (r1, r2) := H
  have A4 := Aside0.mk A40
  clear A40
  simp only [Option.some.injEq, Prod.mk.injEq] at H
  obtain ⟨rfl, rfl⟩ := H
  go_enter Tryd.func19, Tryd.ntmps19
  go_wp2_with (first | ((with_reducible refine gate_callee (f := 44) rfl ?_); refine goesL_ (some 7) rfl rfl Tryd.func44 (by kernel_rfl) rfl #[.slice A0 l0.length c0] rfl (by (try simp only [List.map_toArray, List.map_cons, List.map_nil]); first | done | rfl | (simp only [List.length_drop, List.length_take]; rfl)) ?_; (with_reducible refine (spec_newReader.calls _ _ l0 t376 t377 w _ ?side1 ?side2 ?side3 A2.out).mono ?_); (case side1 => repeat (first | (with_reducible first | exact HB.out | apply below_alloc | apply pw_below_drewN | apply below_drew1) | exact HB.out)); (case side2 => exact HR0.out); (case side3 => exact HC0.out); rintro e w5 ⟨g378, rfl, hi, hb, hb2⟩; refine ⟨_, rfl, ?_⟩; have n0_ := Aside0.mk (hb); have n1_ := Aside0.mk (hi); clear HB; have HB := n0_; have HI378 := n1_; clear n0_ n1_; (try clear hb); (try clear hb2); (try clear hk); (try clear hi)) | ((with_reducible refine gate_callee (f := 45) rfl ?_); refine goesL_ (some 9) rfl rfl Tryd.func45 (by kernel_rfl) rfl #[.pointer (some ⟨g378, 0, none⟩)] rfl (by (try simp only [List.map_toArray, List.map_cons, List.map_nil]); first | done | rfl | (simp only [List.length_drop, List.length_take]; rfl)) ?_; (with_reducible refine (spec_anyGraph.calls g378 t376 t377 t379 t382 w _ ?side1 ?side2 A3.out).mono ?_); (case side1 => repeat (first | (with_reducible first | exact HI378.out | apply IsS87.alloc | apply IsS87.drewN | apply IsS87.drew | apply IsS87.set_1) | exact HI378.out)); (case side2 => repeat (first | (with_reducible first | exact HB.out | apply below_alloc | apply pw_below_drewN | apply below_drew1 | refine below_set ?_ (IsS87.ge HI378.out)) | exact HB.out)); rintro e w6 ⟨v380, rfl, ho0, hi, hb, hk⟩; refine ⟨_, rfl, ?_⟩; have n0_ := Aside0.mk (Kd.S_lower ho0 (below_size (by repeat (first | (with_reducible first | exact HB.out | apply below_alloc | apply pw_below_drewN | apply below_drew1 | refine below_set ?_ (IsS87.ge HI378.out)) | exact HB.out)))); have n1_ := Aside0.mk (hb); have n2_ := Aside0.mk (hi); clear HB; clear HI378; have HO381 := n0_; have HB := n1_; have HI378 := n2_; clear n0_ n1_ n2_; (try clear hb); (try clear hb2); (try clear hk); (try clear hi); (try clear ho0); obtain ⟨Ao7, co7, eo7⟩ := Kd.S_slice HO381.out; subst eo7) | ((with_reducible refine gate_callee (f := 53) rfl ?_); refine goesL_ (some 13) rfl rfl Tryd.func53 (by kernel_rfl) rfl #[.pointer (some ⟨g378, 0, none⟩), .slice Ao7 t379.length co7] rfl (by (try simp only [List.map_toArray, List.map_cons, List.map_nil]); first | done | rfl | (simp only [List.length_drop, List.length_take]; rfl)) ?_; (with_reducible refine (spec_someDone.calls k g378 t376 t382 _ _ t379 t383 t386 w _ ?side1 ?side2 ?side3 ?side4 A4.out).mono ?_); (case side1 => repeat (first | (with_reducible first | exact HI378.out | apply IsS87.alloc | apply IsS87.drewN | apply IsS87.drew | apply IsS87.set_1) | exact HI378.out)); (case side2 => repeat (first | (with_reducible first | exact HB.out | apply below_alloc | apply pw_below_drewN | apply below_drew1 | refine below_set ?_ (IsS87.ge HI378.out)) | exact HB.out)); (case side3 => exact Kd.C_foot_own ((Kd.S_R (IsS87.apartS (show IsS87 w _ g378 t376 t382 from by repeat (first | (with_reducible first | exact HI378.out | apply IsS87.alloc | apply IsS87.drewN | apply IsS87.drew | apply IsS87.set_1) | exact HI378.out)) (by (with_reducible repeat (first | apply Kd.S_alloc | apply Kd.S_drewN | apply Kd.S_drew)); exact HO381.out) (by decide)))) (fun _ h_ => h_.2)); (case side4 => exact (Kd.S_reads' HO381.out).2.1); rintro e w8 ⟨v384, rfl, ho0, hi, hb, hk⟩; refine ⟨_, rfl, ?_⟩; have n0_ := Aside0.mk (Kd.S_mono (Kd.S_told (Kd.S_oldK (IsS87.apartS (show IsS87 w _ g378 t376 t382 from by repeat (first | (with_reducible first | exact HI378.out | apply IsS87.alloc | apply IsS87.drewN | apply IsS87.drew | apply IsS87.set_1) | exact HI378.out)) (by (with_reducible repeat (first | apply Kd.S_alloc | apply Kd.S_drewN | apply Kd.S_drew)); exact HO381.out) (by decide)) hk) (Kd.Q_base ho0)) (fun _ h_ => h_.1)); have n1_ := Aside0.mk (Kd.Q_lower ho0 (below_size (by repeat (first | (with_reducible first | exact HB.out | apply below_alloc | apply pw_below_drewN | apply below_drew1 | refine below_set ?_ (IsS87.ge HI378.out)) | exact HB.out)))); have n2_ := Aside0.mk (hb); have n3_ := Aside0.mk (hi); clear HO381; clear HB; clear HI378; have HO381 := n0_; have HO385 := n1_; have HB := n2_; have HI378 := n3_; clear n0_ n1_ n2_ n3_; (try clear hb); (try clear hb2); (try clear hk); (try clear hi); (try clear ho0)))
  go_ret2
  exact ⟨_, _, by first | rfl | (simp [errW_none, errW_some] <;> rfl) | (simp [*, errW_none, errW_some] <;> rfl), by (with_reducible repeat (first | apply Kd.S_alloc | apply Kd.S_drewN | apply Kd.S_drew)); exact Kd.S_mono HO381.out (fun _ hk => hk.2), by (with_reducible repeat (first | apply Kd.Q_alloc | apply Kd.Q_drewN | apply Kd.Q_drew)); exact HO385.out, by repeat (first | (with_reducible first | exact HB.out | apply below_alloc | apply pw_below_drewN | apply below_drew1 | refine below_set ?_ (IsS87.ge HI378.out)) | exact HB.out)⟩
def spec_ValidDone.f (k : Nat) (l0 : List (S30)) (l1 : List Int) : Option (Bool) := (spec_validDone.f k l0 l1).bind fun t387 => (some t387)
theorem spec_ValidDone.mono : ∀ a0 a1 k, LeO (spec_ValidDone.f k a0 a1) (spec_ValidDone.f (k + 1) a0 a1) := by
  intro a0 a1 k
  unfold spec_ValidDone.f
  repeat' first
      | (with_reducible exact spec_validDone.mono _ _ _)
      | (with_reducible exact LeO.refl _)
      | (with_reducible exact LeO.none _)
      | (with_reducible refine LeO.ite ?_ ?_)
      | (with_reducible refine LeO.bind ?_ (fun _ => ?_))
      | exact spec_validDone.mono _ _ _
      | exact LeO.none _
      | refine LeO.ite ?_ ?_
      | refine LeO.bind ?_ (fun _ => ?_)
set_option maxHeartbeats 8000000 in
set_option maxRecDepth 100000 in
theorem spec_ValidDone.calls (k : Nat) (A0 : Option Addr) (c0 : Nat) (l0 : List (S30)) (A1 : Option Addr) (c1 : Nat) (l1 : List Int) (r : Bool) (w : World) (hr0 : Kd.C k30 w A0 l0.length l0) (hc0 : l0.length ≤ c0) (hr1 : Kd.C (Kd.int .i64) w A1 l1.length l1) (hc1 : l1.length ≤ c1) (h : spec_ValidDone.f k l0 l1 = some r) :
    Calls Tryd.prog 21 #[.slice A0 l0.length c0, .slice A1 l1.length c1] w fun e w' => e = .returned (.bool r) ∧ Below w.heap.size w w' := by
  have HR0 := Aside0.mk hr0
  have HC0 := Aside0.mk hc0
  clear hr0 hc0
  have HR1 := Aside0.mk hr1
  have HC1 := Aside0.mk hc1
  clear hr1 hc1
  have HB := Aside0.mk (Below.refl w.heap.size w)
  have H : ((spec_validDone.f k l0 l1).bind fun t387 => (some t387)) = some r := h
  clear h
  replace H := Option.bind_eq_some_iff.mp H
  obtain ⟨t387, A30, H⟩ := H
  replace H : (some t387) = some r := H
  have A3 := Aside0.mk A30
  clear A30
  obtain rfl := Option.some.inj H
  go_enter Tryd.func21, Tryd.ntmps21
  go_wp2_with (first | ((with_reducible refine gate_callee (f := 55) rfl ?_); refine goesL_ (some 7) rfl rfl Tryd.func55 (by kernel_rfl) rfl #[.slice A0 l0.length c0, .slice A1 l1.length c1] rfl (by (try simp only [List.map_toArray, List.map_cons, List.map_nil]); first | done | rfl | (simp only [List.length_drop, List.length_take]; rfl)) ?_; (with_reducible refine (spec_validDone.calls k _ _ l0 _ _ l1 t387 _ ?side1 ?side2 ?side3 ?side4 A3.out).mono ?_); (case side1 => repeat (first | exact HR0.out | (with_reducible refine Kd.C_alloc ?_ _) | (with_reducible refine Kd.C_drewN ?_ _) | (with_reducible refine Kd.C_drew ?_))); (case side2 => exact HC0.out); (case side3 => repeat (first | exact HR1.out | (with_reducible refine Kd.C_alloc ?_ _) | (with_reducible refine Kd.C_drewN ?_ _) | (with_reducible refine Kd.C_drew ?_))); (case side4 => exact HC1.out); rintro e w4 ⟨rfl, hb⟩; refine ⟨_, rfl, ?_⟩; have n0_ := Aside0.mk (below_step (by repeat (first | (with_reducible first | exact HB.out | apply below_alloc | apply pw_below_drewN | apply below_drew1) | exact HB.out)) hb); clear HB; have HB := n0_; clear n0_; (try clear hb); (try clear hb2); (try clear hk); (try clear hi)))
  go_ret
  exact ⟨by first | rfl | (simp [errW_none, errW_some] <;> rfl) | (simp [*, errW_none, errW_some] <;> rfl), by repeat (first | (with_reducible first | exact HB.out | apply below_alloc | apply pw_below_drewN | apply below_drew1) | exact HB.out)⟩
end Go.Proofs.YtpgfcihmgdempaaDoor.P
end
section
set_option linter.unusedVariables false
set_option linter.unusedSimpArgs false
namespace Go.Proofs.YtpgfcihmgdempaaDoor.Core
open Go Go.RowKit Go.Proofs.YtpgfcihmgdempaaDoorW.PrintWords Go.Proofs.YtpgfcihmgdempaaDoorW.PrintMore Go.Proofs.YtpgfcihmgdempaaDoor.P
theorem ev_ValidDoneS {g : List Tk} (hg : Fits g) {l : List Int} (hl : l.length < big) : Ev (fun k => spec_ValidDone.f k g l) (doneD g l).isSome := by
  unfold spec_ValidDone.f
  exact Ev.bind (ev_validDone hg hl) (Ev.const _)
end Go.Proofs.YtpgfcihmgdempaaDoor.Core
end
section
set_option linter.unusedVariables false
set_option linter.unusedSimpArgs false
namespace Go.Proofs.YtpgfcihmgdempaaDoor.P
open Go Go.RowKit Go.Shelf Go.Proofs.YtpgfcihmgdempaaDoorW.PrintWords Go.Proofs.YtpgfcihmgdempaaDoorW.PrintMore Go.Proofs.YtpgfcihmgdempaaDoor.Core
attribute [local go_sem] Oper.semAt_some wide_fn wide_depth
def impl_ValidDone.f (l0 : List S30) (l1 : List Int) : Option Bool := some (doneD l0 l1).isSome
set_option maxRecDepth 100000 in
set_option maxHeartbeats 4000000 in
theorem impl_ValidDone.calls (A0 : Option Addr) (c0 : Nat) (l0 : List S30) (A1 : Option Addr) (c1 : Nat) (l1 : List Int) (r : Bool) (w : World) (hr0 : Kd.C k30 w A0 l0.length l0) (hc0 : l0.length ≤ c0) (hr1 : Kd.C (Kd.int .i64) w A1 l1.length l1) (hc1 : l1.length ≤ c1) (hT : Tab w) (h : impl_ValidDone.f l0 l1 = some r) :
    Calls Tryd.prog 20 #[.slice A0 l0.length c0, .slice A1 l1.length c1] w fun e w' => e = .returned (.bool r) ∧ Below w.heap.size w w' := by
  have hr : r = (doneD l0 l1).isSome := (Option.some.inj h).symm
  subst hr
  clear h
  cases hg : doneD l0 l1 with
  | none =>
    have HG := Aside0.mk (doneIn_none A0 c0 l0 A1 c1 l1 w hT hr0 hc0 hr1 hc1 hg)
    clear hr0 hr1 hT hg
    go_enter Tryd.func20, Tryd.ntmps20
    go_wp2_with (go_at_call 54; refine HG.out.mono ?_; rintro e w1 ⟨rfl, hB⟩)
    go_ret
    exact ⟨rfl, hB⟩
  | some GS =>
    obtain ⟨G, s⟩ := GS
    have HG := Aside0.mk (doneIn_some A0 c0 l0 A1 c1 l1 G s w hT hr0 hc0 hr1 hc1 hg)
    clear hr0 hr1 hT hg
    go_enter Tryd.func20, Tryd.ntmps20
    go_wp2_with (go_at_call 54; refine HG.out.mono ?_; rintro e w1 ⟨b, rfl, hB, _⟩)
    go_ret
    exact ⟨rfl, hB⟩
end Go.Proofs.YtpgfcihmgdempaaDoor.P
end
section
set_option linter.unusedVariables false
set_option linter.unusedSimpArgs false
namespace Go.Proofs.YtpgfcihmgdempaaDoor.P
open Go Go.RowKit Go.Shelf Go.Proofs.YtpgfcihmgdempaaDoorW.PrintWords Go.Proofs.YtpgfcihmgdempaaDoorW.PrintMore Go.Proofs.YtpgfcihmgdempaaDoor.Core
attribute [local go_sem] Oper.semAt_some wide_fn wide_depth
def impl_ValidGraph.f (l0 : List S30) : Option Bool := some (graphD l0).isSome
set_option maxRecDepth 100000 in
set_option maxHeartbeats 4000000 in
theorem impl_ValidGraph.calls (A0 : Option Addr) (c0 : Nat) (l0 : List S30) (r : Bool) (w : World) (hr0 : Kd.C k30 w A0 l0.length l0) (hc0 : l0.length ≤ c0) (hT : Tab w) (h : impl_ValidGraph.f l0 = some r) :
    Calls Tryd.prog 22 #[.slice A0 l0.length c0] w fun e w' => e = .returned (.bool r) ∧ Below w.heap.size w w' := by
  have hr : r = (graphD l0).isSome := (Option.some.inj h).symm
  subst hr
  clear h
  cases hg : graphD l0 with
  | none =>
    have HG := Aside0.mk (graphOf_none A0 c0 l0 w hT hr0 hc0 hg)
    clear hr0 hT hg
    go_enter Tryd.func22, Tryd.ntmps22
    go_wp2_with (go_at_call 47; refine HG.out.mono ?_; rintro e w' ⟨rfl, hB⟩)
    go_ret
    exact ⟨rfl, hB⟩
  | some G =>
    have HG := Aside0.mk (graphOf_some A0 c0 l0 G w hT hr0 hc0 hg)
    clear hr0 hT hg
    go_enter Tryd.func22, Tryd.ntmps22
    go_wp2_with (go_at_call 47; refine HG.out.mono ?_; rintro e w' ⟨b, rfl, hB, _⟩)
    go_ret
    exact ⟨rfl, hB⟩
end Go.Proofs.YtpgfcihmgdempaaDoor.P
end
section
namespace Go.Proofs.YtpgfcihmgdempaaDoor.P
open Go.Proofs.YtpgfcihmgdempaaDoor.Core (Tab Tab.of)
open Go.RowKit Go.Proofs.YtpgfcihmgdempaaDoorW.PrintWords Go.Proofs.YtpgfcihmgdempaaDoorW.PrintLast Go.Proofs.YtpgfcihmgdempaaDoorW.PrintMore
attribute [local go_sem] max2_int min2_int max_two min_two max_three min_three max_four min_four   -- for this text's walks alone
set_option linter.unusedVariables false
set_option linter.unusedSimpArgs false
mutual
noncomputable def laws_FnValidDone.j0 : Nat → List (S30) → List Int → Bool → Bool → Option (Bool)
  | 0, _, _, _, _ => none
  | k + 1, x3, x4, x5, x28 => if x28 = true then ((spec_ValidDone.f k x3 x4).bind fun t397 => (some (x5 == t397))) else (laws_FnValidDone.l0 k x3 (([] : List Int)) 0)
noncomputable def laws_FnValidDone.l0 : Nat → List (S30) → List Int → Int → Option (Bool)
  | 0, _, _, _ => none
  | k + 1, x3, x6, x7 => if x7 < (x3.length : Int) then (if x6.length < 17592186044416 then (laws_FnValidDone.l0 k x3 (x6 ++ [x7]) (wrap64 (x7 + 1))) else (none)) else ((impl_ValidDone.f x3 ([] : List Int)).bind fun t404 => (if t404 = true then ((impl_ValidDone.f x3 x6).bind fun t405 => (some t405)) else (some false)))
end
noncomputable def laws_FnValidDone.f (k : Nat) (l0 : List Int) : Option (Bool) := if (l0.length : Int) > 1048576 then (some true) else ((spec_DrawValidDone.f k l0).bind fun bt388 => ((impl_ValidDone.f bt388.1 bt388.2).bind fun t394 => ((spec_ValidDone.f k bt388.1 bt388.2).bind fun t395 => (if (t394 != t395) = true then (laws_FnValidDone.j0 k bt388.1 bt388.2 t394 true) else ((impl_ValidGraph.f bt388.1).bind fun t396 => (laws_FnValidDone.j0 k bt388.1 bt388.2 t394 (!t396)))))))
theorem laws_FnValidDone.mono_l : ∀ k, (∀ y0 y1 y2 y3, LeO (laws_FnValidDone.j0 k y0 y1 y2 y3) (laws_FnValidDone.j0 (k + 1) y0 y1 y2 y3)) ∧ (∀ y0 y1 y2, LeO (laws_FnValidDone.l0 k y0 y1 y2) (laws_FnValidDone.l0 (k + 1) y0 y1 y2))
  | 0 => ⟨fun _ _ _ _ r h => by simp [laws_FnValidDone.j0] at h, fun _ _ _ r h => by simp [laws_FnValidDone.l0] at h⟩
  | k + 1 => by
    obtain ⟨ih0, ih1⟩ := laws_FnValidDone.mono_l k
    refine ⟨?_, ?_⟩
    · intro y0 y1 y2 y3
      unfold laws_FnValidDone.j0
      repeat' first
      | (with_reducible exact ih0 _ _ _ _)
      | (with_reducible exact ih1 _ _ _)
      | (with_reducible exact spec_DrawValidDone.mono _ _)
      | (with_reducible exact spec_ValidDone.mono _ _ _)
      | (with_reducible exact LeO.refl _)
      | (with_reducible exact LeO.none _)
      | (with_reducible refine LeO.ite ?_ ?_)
      | (with_reducible refine LeO.bind ?_ (fun _ => ?_))
      | exact ih0 _ _ _ _
      | exact ih1 _ _ _
      | exact spec_DrawValidDone.mono _ _
      | exact spec_ValidDone.mono _ _ _
      | exact LeO.none _
      | refine LeO.ite ?_ ?_
      | refine LeO.bind ?_ (fun _ => ?_)
    · intro y0 y1 y2
      unfold laws_FnValidDone.l0
      repeat' first
      | (with_reducible exact ih0 _ _ _ _)
      | (with_reducible exact ih1 _ _ _)
      | (with_reducible exact spec_DrawValidDone.mono _ _)
      | (with_reducible exact spec_ValidDone.mono _ _ _)
      | (with_reducible exact LeO.refl _)
      | (with_reducible exact LeO.none _)
      | (with_reducible refine LeO.ite ?_ ?_)
      | (with_reducible refine LeO.bind ?_ (fun _ => ?_))
      | exact ih0 _ _ _ _
      | exact ih1 _ _ _
      | exact spec_DrawValidDone.mono _ _
      | exact spec_ValidDone.mono _ _ _
      | exact LeO.none _
      | refine LeO.ite ?_ ?_
      | refine LeO.bind ?_ (fun _ => ?_)
theorem laws_FnValidDone.mono : ∀ a0 k, LeO (laws_FnValidDone.f k a0) (laws_FnValidDone.f (k + 1) a0) := by
  intro a0 k
  obtain ⟨ih0, ih1⟩ := laws_FnValidDone.mono_l k
  unfold laws_FnValidDone.f
  repeat' first
      | (with_reducible exact ih0 _ _ _ _)
      | (with_reducible exact ih1 _ _ _)
      | (with_reducible exact spec_DrawValidDone.mono _ _)
      | (with_reducible exact spec_ValidDone.mono _ _ _)
      | (with_reducible exact LeO.refl _)
      | (with_reducible exact LeO.none _)
      | (with_reducible refine LeO.ite ?_ ?_)
      | (with_reducible refine LeO.bind ?_ (fun _ => ?_))
      | exact ih0 _ _ _ _
      | exact ih1 _ _ _
      | exact spec_DrawValidDone.mono _ _
      | exact spec_ValidDone.mono _ _ _
      | exact LeO.none _
      | refine LeO.ite ?_ ?_
      | refine LeO.bind ?_ (fun _ => ?_)
set_option maxHeartbeats 8000000 in
set_option maxRecDepth 100000 in
theorem laws_FnValidDone.calls (k : Nat) (A0 : Option Addr) (c0 : Nat) (l0 : List Int) (r : Bool) (w : World) (hr0 : Kd.C (Kd.int .u8) w A0 l0.length l0) (hc0 : l0.length ≤ c0) (hT : Tab w) (h : laws_FnValidDone.f k l0 = some r) :
    Calls Tryd.prog 5 #[.slice A0 l0.length c0] w fun e w' => e = .returned (.bool r) ∧ Below w.heap.size w w' := by
  have HT := Aside0.mk hT
  clear hT
  have HR0 := Aside0.mk hr0
  have HC0 := Aside0.mk hc0
  clear hr0 hc0
  have HB := Aside0.mk (Below.refl w.heap.size w)
  have H : (if (l0.length : Int) > 1048576 then (some true) else ((spec_DrawValidDone.f k l0).bind fun bt388 => ((impl_ValidDone.f bt388.1 bt388.2).bind fun t394 => ((spec_ValidDone.f k bt388.1 bt388.2).bind fun t395 => (if (t394 != t395) = true then (laws_FnValidDone.j0 k bt388.1 bt388.2 t394 true) else ((impl_ValidGraph.f bt388.1).bind fun t396 => (laws_FnValidDone.j0 k bt388.1 bt388.2 t394 (!t396)))))))) = some r := h
  clear h
  by_cases c2 : (l0.length : Int) > 1048576
  · rw [if_pos c2] at H
    have c2b0 : decide (1048576 < (l0.length : Int)) = true := decide_eq_true c2
    have c2b1 : decide (1048576 < l0.length) = true := decide_eq_true (by omega)
    clear c2
    obtain rfl := Option.some.inj H
    go_enter Tryd.func5, Tryd.ntmps5
    go_wp2
    go_ret
    exact ⟨by first | rfl | (simp [errW_none, errW_some] <;> rfl) | (simp [*, errW_none, errW_some] <;> rfl), by repeat (first | (with_reducible first | exact HB.out | apply below_alloc | apply pw_below_drewN | apply below_drew1) | exact HB.out)⟩
  · rw [if_neg c2] at H
    have c2b0 : decide (1048576 < (l0.length : Int)) = false := decide_eq_false c2
    have c2b1 : decide (1048576 < l0.length) = false := decide_eq_false (by omega)
    clear c2
    replace H := Option.bind_eq_some_iff.mp H
    obtain ⟨⟨t388, t389⟩, A30, H⟩ := H
    replace H : ((impl_ValidDone.f t388 t389).bind fun t394 => ((spec_ValidDone.f k t388 t389).bind fun t395 => (if (t394 != t395) = true then (laws_FnValidDone.j0 k t388 t389 t394 true) else ((impl_ValidGraph.f t388).bind fun t396 => (laws_FnValidDone.j0 k t388 t389 t394 (!t396)))))) = some r := H
    have A3 := Aside0.mk A30
    clear A30
    replace H := Option.bind_eq_some_iff.mp H
    obtain ⟨t394, A40, H⟩ := H
    replace H : ((spec_ValidDone.f k t388 t389).bind fun t395 => (if (t394 != t395) = true then (laws_FnValidDone.j0 k t388 t389 t394 true) else ((impl_ValidGraph.f t388).bind fun t396 => (laws_FnValidDone.j0 k t388 t389 t394 (!t396))))) = some r := H
    have A4 := Aside0.mk A40
    clear A40
    have HC5 := Aside0.mk H
    clear H
    go_enter Tryd.func5, Tryd.ntmps5
    go_upto_region 5 with (first | ((with_reducible refine gate_callee (f := 19) rfl ?_); refine goesL_ (some 13) rfl rfl Tryd.func19 (by kernel_rfl) rfl #[.slice A0 l0.length c0] rfl (by (try simp only [List.map_toArray, List.map_cons, List.map_nil]); first | done | rfl | (simp only [List.length_drop, List.length_take]; rfl)) ?_; (with_reducible refine (spec_DrawValidDone.calls k _ _ l0 t388 t389 _ ?side1 ?side2 A3.out).mono ?_); (case side1 => repeat (first | exact HR0.out | (with_reducible refine Kd.C_alloc ?_ _) | (with_reducible refine Kd.C_drewN ?_ _) | (with_reducible refine Kd.C_drew ?_))); (case side2 => exact HC0.out); rintro e w6 ⟨v390, v392, rfl, ho0, ho1, hb⟩; refine ⟨_, rfl, ?_⟩; have n0_ := Aside0.mk (Kd.S_lower ho0 (below_size (by repeat (first | (with_reducible first | exact HB.out | apply below_alloc | apply pw_below_drewN | apply below_drew1) | exact HB.out)))); have n1_ := Aside0.mk (Kd.Q_lower ho1 (below_size (by repeat (first | (with_reducible first | exact HB.out | apply below_alloc | apply pw_below_drewN | apply below_drew1) | exact HB.out)))); have n2_ := Aside0.mk (below_step (by repeat (first | (with_reducible first | exact HB.out | apply below_alloc | apply pw_below_drewN | apply below_drew1) | exact HB.out)) hb); clear HB; have HO391 := n0_; have HO393 := n1_; have HB := n2_; clear n0_ n1_ n2_; (try clear hb); (try clear hb2); (try clear hk); (try clear hi); (try clear ho0); (try clear ho1); obtain ⟨Ao7, co7, eo7⟩ := Kd.S_slice HO391.out; subst eo7; obtain ⟨Ao8, co8, eo8, _⟩ := Kd.Q_slice HO393.out; subst eo8) | ((with_reducible refine gate_callee (f := 20) rfl ?_); refine goesL_ (some 18) rfl rfl Tryd.func20 (by kernel_rfl) rfl #[.slice Ao7 t388.length co7, .slice Ao8 t389.length co8] rfl (by (try simp only [List.map_toArray, List.map_cons, List.map_nil]); first | done | rfl | (simp only [List.length_drop, List.length_take]; rfl)) ?_; (with_reducible refine (impl_ValidDone.calls _ _ t388 _ _ t389 t394 _ ?side1 ?side2 ?side3 ?side4 ?side5 A4.out).mono ?_); (case side1 => repeat (first | exact (Kd.S_reads' HO391.out).2.2 | (with_reducible refine Kd.C_alloc ?_ _) | (with_reducible refine Kd.C_drewN ?_ _) | (with_reducible refine Kd.C_drew ?_))); (case side2 => exact (Kd.S_reads' HO391.out).2.1); (case side3 => repeat (first | exact (Kd.Q_reads' HO393.out).2.2 | (with_reducible refine Kd.C_alloc ?_ _) | (with_reducible refine Kd.C_drewN ?_ _) | (with_reducible refine Kd.C_drew ?_))); (case side4 => exact (Kd.Q_reads' HO393.out).2.1); (case side5 => exact Tab.of HT.out (by repeat (first | (with_reducible first | exact HB.out | apply below_alloc | apply pw_below_drewN | apply below_drew1) | exact HB.out))); rintro e w9 ⟨rfl, hb⟩; refine ⟨_, rfl, ?_⟩; have n0_ := Aside0.mk (Kd.S_below (by (with_reducible repeat (first | apply Kd.S_alloc | apply Kd.S_drewN | apply Kd.S_drew)); exact HO391.out) hb); have n1_ := Aside0.mk (Kd.Q_below (by (with_reducible repeat (first | apply Kd.Q_alloc | apply Kd.Q_drewN | apply Kd.Q_drew)); exact HO393.out) hb); have n2_ := Aside0.mk (below_step (by repeat (first | (with_reducible first | exact HB.out | apply below_alloc | apply pw_below_drewN | apply below_drew1) | exact HB.out)) hb); clear HO391; clear HO393; clear HB; have HO391 := n0_; have HO393 := n1_; have HB := n2_; clear n0_ n1_ n2_; (try clear hb); (try clear hb2); (try clear hk); (try clear hi)))
    (try simp only [Act.put, List.setIfInBounds_toArray, List.set_cons_zero, List.set_cons_succ])
    go_cut [28] (fun v28 wc => ∃ (kq : Nat) (x28_4 : Bool), v28 = .bool x28_4 ∧ Aside0 (laws_FnValidDone.j0 kq t388 t389 t394 x28_4 = some r) ∧ Aside0 (kq ≤ k) ∧ Aside0 (Kd.S k30 30 wc w.heap.size (fun k_ => some k_ ≠ ((.slice Ao8 t389.length co8) : Value).ownBlock) (.slice Ao7 t388.length co7) t388) ∧ Aside0 (Kd.Q (Kd.int .i64) 3 wc w.heap.size (fun _ => True) (.slice Ao8 t389.length co8) t389) ∧ Aside0 (Below w.heap.size w wc))
    case first =>
      have H := HC5.out
      clear HC5
      replace H := Option.bind_eq_some_iff.mp H
      obtain ⟨t395, A100, H⟩ := H
      replace H : (if (t394 != t395) = true then (laws_FnValidDone.j0 k t388 t389 t394 true) else ((impl_ValidGraph.f t388).bind fun t396 => (laws_FnValidDone.j0 k t388 t389 t394 (!t396)))) = some r := H
      have A10 := Aside0.mk A100
      clear A100
      by_cases c11 : (t394 != t395) = true
      · rw [if_pos c11] at H
        have c11b0 : (t394 != t395) = true := c11
        (try (have c11b1 : decide (t394 = t395) = false := by simpa using c11))
        (try (have c11b2 : (t394 == t395) = false := by simpa using c11))
        (try (have c11b3 : ¬ (t394 = t395) := by simpa using c11))
        clear c11
        (first | rw [c11b0] | (simp only [i64_w, i32_w]; rw [c11b0]) | skip)
        have H' := Aside0.mk H
        clear H
        go_wp2_with (first | ((with_reducible refine gate_callee (f := 21) rfl ?_); refine goesL_ (some 22) rfl rfl Tryd.func21 (by kernel_rfl) rfl #[.slice Ao7 t388.length co7, .slice Ao8 t389.length co8] rfl (by (try simp only [List.map_toArray, List.map_cons, List.map_nil]); first | done | rfl | (simp only [List.length_drop, List.length_take]; rfl)) ?_; (with_reducible refine (spec_ValidDone.calls k _ _ t388 _ _ t389 t395 _ ?side1 ?side2 ?side3 ?side4 A10.out).mono ?_); (case side1 => repeat (first | exact (Kd.S_reads' HO391.out).2.2 | (with_reducible refine Kd.C_alloc ?_ _) | (with_reducible refine Kd.C_drewN ?_ _) | (with_reducible refine Kd.C_drew ?_))); (case side2 => exact (Kd.S_reads' HO391.out).2.1); (case side3 => repeat (first | exact (Kd.Q_reads' HO393.out).2.2 | (with_reducible refine Kd.C_alloc ?_ _) | (with_reducible refine Kd.C_drewN ?_ _) | (with_reducible refine Kd.C_drew ?_))); (case side4 => exact (Kd.Q_reads' HO393.out).2.1); rintro e w12 ⟨rfl, hb⟩; refine ⟨_, rfl, ?_⟩; have n0_ := Aside0.mk (Kd.S_below (by (with_reducible repeat (first | apply Kd.S_alloc | apply Kd.S_drewN | apply Kd.S_drew)); exact HO391.out) hb); have n1_ := Aside0.mk (Kd.Q_below (by (with_reducible repeat (first | apply Kd.Q_alloc | apply Kd.Q_drewN | apply Kd.Q_drew)); exact HO393.out) hb); have n2_ := Aside0.mk (below_step (by repeat (first | (with_reducible first | exact HB.out | apply below_alloc | apply pw_below_drewN | apply below_drew1) | exact HB.out)) hb); clear HO391; clear HO393; clear HB; have HO391 := n0_; have HO393 := n1_; have HB := n2_; clear n0_ n1_ n2_; (try clear hb); (try clear hb2); (try clear hk); (try clear hi)))
        go_meet
        case rel => exact ⟨_, (true), (by first | rfl | (simp; done) | (simp [*]; done)), H', ⟨by first | omega | exact Nat.le_refl _⟩, ⟨by (with_reducible repeat (first | apply Kd.S_alloc | apply Kd.S_drewN | apply Kd.S_drew)); exact HO391.out⟩, ⟨by (with_reducible repeat (first | apply Kd.Q_alloc | apply Kd.Q_drewN | apply Kd.Q_drew)); exact HO393.out⟩, ⟨by repeat (first | (with_reducible first | exact HB.out | apply below_alloc | apply pw_below_drewN | apply below_drew1) | exact HB.out)⟩⟩
      · rw [if_neg c11] at H
        have c11b0 : (t394 != t395) = false := by simpa using c11
        (try (have c11b1 : decide (t394 = t395) = true := by simpa using c11))
        (try (have c11b2 : (t394 == t395) = true := by simpa using c11))
        clear c11
        (first | rw [c11b0] | (simp only [i64_w, i32_w]; rw [c11b0]) | skip)
        replace H := Option.bind_eq_some_iff.mp H
        obtain ⟨t396, A130, H⟩ := H
        replace H : (laws_FnValidDone.j0 k t388 t389 t394 (!t396)) = some r := H
        have A13 := Aside0.mk A130
        clear A130
        have H' := Aside0.mk H
        clear H
        go_wp2_with (first | ((with_reducible refine gate_callee (f := 21) rfl ?_); refine goesL_ (some 22) rfl rfl Tryd.func21 (by kernel_rfl) rfl #[.slice Ao7 t388.length co7, .slice Ao8 t389.length co8] rfl (by (try simp only [List.map_toArray, List.map_cons, List.map_nil]); first | done | rfl | (simp only [List.length_drop, List.length_take]; rfl)) ?_; (with_reducible refine (spec_ValidDone.calls k _ _ t388 _ _ t389 t395 _ ?side1 ?side2 ?side3 ?side4 A10.out).mono ?_); (case side1 => repeat (first | exact (Kd.S_reads' HO391.out).2.2 | (with_reducible refine Kd.C_alloc ?_ _) | (with_reducible refine Kd.C_drewN ?_ _) | (with_reducible refine Kd.C_drew ?_))); (case side2 => exact (Kd.S_reads' HO391.out).2.1); (case side3 => repeat (first | exact (Kd.Q_reads' HO393.out).2.2 | (with_reducible refine Kd.C_alloc ?_ _) | (with_reducible refine Kd.C_drewN ?_ _) | (with_reducible refine Kd.C_drew ?_))); (case side4 => exact (Kd.Q_reads' HO393.out).2.1); rintro e w14 ⟨rfl, hb⟩; refine ⟨_, rfl, ?_⟩; have n0_ := Aside0.mk (Kd.S_below (by (with_reducible repeat (first | apply Kd.S_alloc | apply Kd.S_drewN | apply Kd.S_drew)); exact HO391.out) hb); have n1_ := Aside0.mk (Kd.Q_below (by (with_reducible repeat (first | apply Kd.Q_alloc | apply Kd.Q_drewN | apply Kd.Q_drew)); exact HO393.out) hb); have n2_ := Aside0.mk (below_step (by repeat (first | (with_reducible first | exact HB.out | apply below_alloc | apply pw_below_drewN | apply below_drew1) | exact HB.out)) hb); clear HO391; clear HO393; clear HB; have HO391 := n0_; have HO393 := n1_; have HB := n2_; clear n0_ n1_ n2_; (try clear hb); (try clear hb2); (try clear hk); (try clear hi)) | (go_at_call 22; (with_reducible refine (impl_ValidGraph.calls _ _ t388 t396 _ ?side1 ?side2 ?side3 A13.out).mono ?_); (case side1 => repeat (first | exact (Kd.S_reads' HO391.out).2.2 | (with_reducible refine Kd.C_alloc ?_ _) | (with_reducible refine Kd.C_drewN ?_ _) | (with_reducible refine Kd.C_drew ?_))); (case side2 => exact (Kd.S_reads' HO391.out).2.1); (case side3 => exact Tab.of HT.out (by repeat (first | (with_reducible first | exact HB.out | apply below_alloc | apply pw_below_drewN | apply below_drew1) | exact HB.out))); rintro e w15 ⟨rfl, hb⟩; have n0_ := Aside0.mk (Kd.S_below (by (with_reducible repeat (first | apply Kd.S_alloc | apply Kd.S_drewN | apply Kd.S_drew)); exact HO391.out) hb); have n1_ := Aside0.mk (Kd.Q_below (by (with_reducible repeat (first | apply Kd.Q_alloc | apply Kd.Q_drewN | apply Kd.Q_drew)); exact HO393.out) hb); have n2_ := Aside0.mk (below_step (by repeat (first | (with_reducible first | exact HB.out | apply below_alloc | apply pw_below_drewN | apply below_drew1) | exact HB.out)) hb); clear HO391; clear HO393; clear HB; have HO391 := n0_; have HO393 := n1_; have HB := n2_; clear n0_ n1_ n2_; (try clear hb); (try clear hb2); (try clear hk); (try clear hi)))
        go_meet
        case rel => exact ⟨_, (!t396), (by first | rfl | (simp; done) | (simp [*]; done)), H', ⟨by first | omega | exact Nat.le_refl _⟩, ⟨by (with_reducible repeat (first | apply Kd.S_alloc | apply Kd.S_drewN | apply Kd.S_drew)); exact HO391.out⟩, ⟨by (with_reducible repeat (first | apply Kd.Q_alloc | apply Kd.Q_drewN | apply Kd.Q_drew)); exact HO393.out⟩, ⟨by repeat (first | (with_reducible first | exact HB.out | apply below_alloc | apply pw_below_drewN | apply below_drew1) | exact HB.out)⟩⟩
    case rest =>
      clear HC5
      try clear c1
      try clear c2
      try clear c2b0
      try clear c2b1
      try clear p2
      try clear c5
      try clear c11
      try clear c11b0
      try clear c11b1
      try clear c11b2
      obtain ⟨kq, x28_4, rfl, HA, HJ4, HO_3, HO_4, HB⟩ := hcut
      cases kq with
      | zero => exact absurd HA.out (by simp [laws_FnValidDone.j0])
      | succ kj4 =>
        have H := HA.out
        clear HA
        simp only [laws_FnValidDone.j0] at H
        by_cases c16 : x28_4 = true
        · subst c16
          have H1 : ((spec_ValidDone.f kj4 t388 t389).bind fun t397 => (some (t394 == t397))) = some r := by rw [if_pos rfl] at H; exact H
          clear H
          have H := H1
          clear H1
          replace H := Option.bind_eq_some_iff.mp H
          obtain ⟨t397, A170, H⟩ := H
          replace H : (some (t394 == t397)) = some r := H
          have A17 := Aside0.mk A170
          clear A170
          obtain rfl := Option.some.inj H
          go_wp2_with (first | ((with_reducible refine gate_callee (f := 21) rfl ?_); refine goesL_ (some 32) rfl rfl Tryd.func21 (by kernel_rfl) rfl #[.slice Ao7 t388.length co7, .slice Ao8 t389.length co8] rfl (by (try simp only [List.map_toArray, List.map_cons, List.map_nil]); first | done | rfl | (simp only [List.length_drop, List.length_take]; rfl)) ?_; (with_reducible refine (spec_ValidDone.calls kj4 _ _ t388 _ _ t389 t397 _ ?side1 ?side2 ?side3 ?side4 A17.out).mono ?_); (case side1 => repeat (first | exact (Kd.S_reads' HO_3.out).2.2 | (with_reducible refine Kd.C_alloc ?_ _) | (with_reducible refine Kd.C_drewN ?_ _) | (with_reducible refine Kd.C_drew ?_))); (case side2 => exact (Kd.S_reads' HO_3.out).2.1); (case side3 => repeat (first | exact (Kd.Q_reads' HO_4.out).2.2 | (with_reducible refine Kd.C_alloc ?_ _) | (with_reducible refine Kd.C_drewN ?_ _) | (with_reducible refine Kd.C_drew ?_))); (case side4 => exact (Kd.Q_reads' HO_4.out).2.1); rintro e w18 ⟨rfl, hb⟩; refine ⟨_, rfl, ?_⟩; have n0_ := Aside0.mk (Kd.S_below (by (with_reducible repeat (first | apply Kd.S_alloc | apply Kd.S_drewN | apply Kd.S_drew)); exact HO_3.out) hb); have n1_ := Aside0.mk (Kd.Q_below (by (with_reducible repeat (first | apply Kd.Q_alloc | apply Kd.Q_drewN | apply Kd.Q_drew)); exact HO_4.out) hb); have n2_ := Aside0.mk (below_step (by repeat (first | (with_reducible first | exact HB.out | apply below_alloc | apply pw_below_drewN | apply below_drew1) | exact HB.out)) hb); clear HO_3; clear HO_4; clear HB; have HO_3 := n0_; have HO_4 := n1_; have HB := n2_; clear n0_ n1_ n2_; (try clear hb); (try clear hb2); (try clear hk); (try clear hi)))
          go_ret
          exact ⟨by first | rfl | (simp [errW_none, errW_some] <;> rfl) | (simp [*, errW_none, errW_some] <;> rfl), by repeat (first | (with_reducible first | exact HB.out | apply below_alloc | apply pw_below_drewN | apply below_drew1) | exact HB.out)⟩
        · replace c16 := Bool.eq_false_iff.mpr c16
          subst c16
          have H1 : (laws_FnValidDone.l0 kj4 t388 (([] : List Int)) 0) = some r := by rw [if_neg (show ¬ (false = true) by decide)] at H; exact H
          clear H
          have H := H1
          clear H1
          obtain ⟨y398, hy398⟩ : ∃ y_ : List Int, y_ = (([] : List Int)) := ⟨_, rfl⟩
          replace H : (laws_FnValidDone.l0 kj4 t388 y398 0) = some r := by first | (rw [hy398]; with_reducible exact H) | (have H2_ := (Option.bind_some _ _).symm.trans H; rw [hy398]; with_reducible exact H2_) | (have H2_ := (Option.bind_some _ _).symm.trans H; with_reducible exact H2_) | with_reducible exact H | (rw [hy398]; exact H) | exact H
          have Ny398 := Aside0.mk hy398
          clear hy398
          have H' := Aside0.mk H
          clear H
          go_wp2_with (first | ((with_reducible refine gate_dst (N := 34) rfl ?_); refine Kd.R_lit (Kd.int .i64) _ 3 ?hg (N := 34) ?hd (xs := ([] : List Int)) (inner := []) (ok := fun _ => True) (okp := fun _ => True) ?hr ?hp (fun _ hk => hk) trivial (Below.refl _ _) (Nat.le_refl _) (by simp) ?_; (case hd => rfl); (case hg => rfl); (case hr => first | (go_simp; done) | (go_simp; rfl)); (case hp => exact (Reps.none _ _)); intro v399 w19 ho20 hb hg_ hnew_; clear hg_ hnew_; (first | rw [← Ny398.out] at ho20 | (simp only [Int.reduceToNat] at ho20; rw [← Ny398.out] at ho20)); have n0_ := Aside0.mk (Kd.S_elder' (by (with_reducible repeat (first | apply Kd.S_alloc | apply Kd.S_drewN | apply Kd.S_drew)); exact HO_3.out) (Kd.R_base ho20) hb); have n1_ := Aside0.mk (Kd.Q_elder' (by (with_reducible repeat (first | apply Kd.Q_alloc | apply Kd.Q_drewN | apply Kd.Q_drew)); exact HO_4.out) (Kd.R_base ho20) hb); have n2_ := Aside0.mk (Kd.R_lower (Kd.R_new' ho20 (Kd.Q_lt (by (with_reducible repeat (first | apply Kd.Q_alloc | apply Kd.Q_drewN | apply Kd.Q_drew)); exact HO_4.out))) (below_size (by repeat (first | (with_reducible first | exact HB.out | apply below_alloc | apply pw_below_drewN | apply below_drew1) | exact HB.out)))); have n3_ := Aside0.mk (below_step (by repeat (first | (with_reducible first | exact HB.out | apply below_alloc | apply pw_below_drewN | apply below_drew1) | exact HB.out)) hb); clear HO_3; clear HO_4; clear HB; have HO_3 := n0_; have HO_4 := n1_; have HO400 := n2_; have HB := n3_; clear n0_ n1_ n2_ n3_; clear hb ho20))
          go_loopg [6, 7] kj4 (fun kq v6 v7 w' => ∃ (x6_2 : List Int) (x7_2 : Int), v7 = .int .i64 x7_2 ∧ Aside0 (laws_FnValidDone.l0 kq t388 x6_2 x7_2 = some r) ∧ Aside0 (kq ≤ kj4) ∧ Aside0 (Kd.S k30 30 w' w.heap.size (fun k_ => some k_ ≠ (v6 : Value).ownBlock) (.slice Ao7 t388.length co7) t388) ∧ Aside0 (Kd.R (Kd.int .i64) 3 w' w.heap.size (fun _ => True) v6 x6_2) ∧ Aside0 (Below w.heap.size w w'))
          case atStart => exact ⟨(y398), (0), (by first | rfl | (simp; done) | (simp [*]; done)), H', ⟨Nat.le_refl _⟩, ⟨by (with_reducible repeat (first | apply Kd.S_alloc | apply Kd.S_drewN | apply Kd.S_drew)); exact Kd.S_mono HO_3.out (fun _ hk => hk.2)⟩, ⟨by (with_reducible repeat (first | apply Kd.R_alloc | apply Kd.R_drewN | apply Kd.R_drew)); exact Kd.R_mono HO400.out (fun _ hk => trivial)⟩, ⟨by repeat (first | (with_reducible first | exact HB.out | apply below_alloc | apply pw_below_drewN | apply below_drew1) | exact HB.out)⟩⟩
          case round =>
            clear H'
            try clear c1
            try clear c2
            try clear c2b0
            try clear c2b1
            try clear p2
            try clear c5
            try clear c11
            try clear c11b0
            try clear c11b1
            try clear c11b2
            try clear c16
            try clear c19
            try clear c20
            try clear p2
            obtain ⟨x6_2, x7_2, rfl, HA, HK2, HO_3, HO_6, HB⟩ := hrel
            cases gk with
            | zero => exact absurd HA.out (by simp [laws_FnValidDone.l0])
            | succ k2 =>
              have H := HA.out
              clear HA
              simp only [laws_FnValidDone.l0] at H
              by_cases c21 : x7_2 < (t388.length : Int)
              · rw [if_pos c21] at H
                have c21b0 : decide (x7_2 < (t388.length : Int)) = true := decide_eq_true c21
                clear c21
                by_cases c22 : x6_2.length < 17592186044416
                · rw [if_pos c22] at H
                  have LMc22 := Aside0.mk c22
                  clear c22
                  obtain ⟨y401, hy401⟩ : ∃ y_ : List Int, y_ = (x6_2 ++ [x7_2]) := ⟨_, rfl⟩
                  replace H : (laws_FnValidDone.l0 k2 t388 y401 (wrap64 (x7_2 + 1))) = some r := by first | (rw [hy401]; with_reducible exact H) | (have H2_ := (Option.bind_some _ _).symm.trans H; rw [hy401]; with_reducible exact H2_) | (have H2_ := (Option.bind_some _ _).symm.trans H; with_reducible exact H2_) | with_reducible exact H | (rw [hy401]; exact H) | exact H
                  have Ny401 := Aside0.mk hy401
                  clear hy401
                  have H' := Aside0.mk H
                  clear H
                  go_wp2_with (first | ((with_reducible refine gate_builtin (b := .append) (xs := #[.tmp 41, .tmp 43]) rfl ?_); at_builtin; refine Kd.R_append (Kd.int .i64) (w0 := w) w.heap.size rfl (.tmp 41) (.tmp 43) 26 3 (.int .i64 0) 8 rfl Tryd.underlying26 info3 rfl (by decide) (by omega) u6 x6_2 x7_2 [.int .i64 x7_2] (fun _ => True) (fun _ => False) rfl rfl ?aP (fun _ hk => hk.elim) ?aF ?aO ?aB ?aS ?aL ?_; (case aP => exact rfl); (case aB => exact (by repeat (first | (with_reducible first | exact HB.out | apply below_alloc | apply pw_below_drewN | apply below_drew1) | exact HB.out))); (case aF => exact (fun _ _ => trivial)); (case aO => exact (by (with_reducible repeat (first | apply Kd.R_alloc | apply Kd.R_drewN | apply Kd.R_drew)); exact HO_6.out)); (case aS => exact (below_size (by repeat (first | (with_reducible first | exact HB.out | apply below_alloc | apply pw_below_drewN | apply below_drew1) | exact HB.out)))); (case aL => have := LMc22.out; omega); intro v402 w23 ho hb hg hat; rw [← Ny401.out] at ho; have n0_ := Aside0.mk (Kd.S_after (ok := (fun _ => True)) (by (with_reducible repeat (first | apply Kd.S_alloc | apply Kd.S_drewN | apply Kd.S_drew)); exact Kd.S_mono HO_3.out (fun _ hk => ⟨trivial, hk⟩)) hg hat); have n1_ := Aside0.mk (hb); have n2_ := Aside0.mk (ho); clear HO_3; clear HB; clear HO_6; have HO_3 := n0_; have HB := n1_; have HO403 := n2_; clear n0_ n1_ n2_; clear ho hb hg hat))
                  go_roundg k2
                  case measure => have := HJ4.out; have := HK2.out; omega
                  case rel => exact ⟨(y401), (wrap64 (x7_2 + 1)), (by first | rfl | (simp; done) | (simp [*]; done)), H', ⟨by have := HJ4.out; have := HK2.out; omega⟩, ⟨by (with_reducible repeat (first | apply Kd.S_alloc | apply Kd.S_drewN | apply Kd.S_drew)); exact Kd.S_mono HO_3.out (fun _ hk => hk.2)⟩, ⟨by (with_reducible repeat (first | apply Kd.R_alloc | apply Kd.R_drewN | apply Kd.R_drew)); exact HO403.out⟩, ⟨by repeat (first | (with_reducible first | exact HB.out | apply below_alloc | apply pw_below_drewN | apply below_drew1) | exact HB.out)⟩⟩
                · rw [if_neg c22] at H
                  exact absurd H (by simp)
              · rw [if_neg c21] at H
                have c21b0 : decide (x7_2 < (t388.length : Int)) = false := decide_eq_false c21
                clear c21
                replace H := Option.bind_eq_some_iff.mp H
                obtain ⟨t404, A240, H⟩ := H
                replace H : (if t404 = true then ((impl_ValidDone.f t388 x6_2).bind fun t405 => (some t405)) else (some false)) = some r := H
                have A24 := Aside0.mk A240
                clear A240
                by_cases c25 : t404 = true
                · subst c25
                  have H1 : ((impl_ValidDone.f t388 x6_2).bind fun t405 => (some t405)) = some r := by rw [if_pos rfl] at H; exact H
                  clear H
                  have H := H1
                  clear H1
                  replace H := Option.bind_eq_some_iff.mp H
                  obtain ⟨t405, A260, H⟩ := H
                  replace H : (some t405) = some r := H
                  have A26 := Aside0.mk A260
                  clear A260
                  obtain rfl := Option.some.inj H
                  go_wp2_with (first | ((with_reducible refine gate_callee (f := 20) rfl ?_); refine goesL_ (some 46) rfl rfl Tryd.func20 (by kernel_rfl) rfl #[.slice Ao7 t388.length co7, .slice none 0 0] rfl (by (try simp only [List.map_toArray, List.map_cons, List.map_nil]); first | done | rfl | (simp only [List.length_drop, List.length_take]; rfl)) ?_; (refine (impl_ValidDone.calls _ _ t388 _ _ ([] : List Int) true _ ?side1 ?side2 ?side3 ?side4 ?side5 A24.out).mono ?_); (case side1 => repeat (first | exact (Kd.S_reads' HO_3.out).2.2 | (with_reducible refine Kd.C_alloc ?_ _) | (with_reducible refine Kd.C_drewN ?_ _) | (with_reducible refine Kd.C_drew ?_))); (case side2 => exact (Kd.S_reads' HO_3.out).2.1); (case side3 => exact Kd.C_nil _ _); (case side4 => exact Nat.le_refl _); (case side5 => exact Tab.of HT.out (by repeat (first | (with_reducible first | exact HB.out | apply below_alloc | apply pw_below_drewN | apply below_drew1) | exact HB.out))); rintro e w27 ⟨rfl, hb⟩; refine ⟨_, rfl, ?_⟩; have n0_ := Aside0.mk (Kd.S_below (by (with_reducible repeat (first | apply Kd.S_alloc | apply Kd.S_drewN | apply Kd.S_drew)); exact HO_3.out) hb); have n1_ := Aside0.mk (Kd.R_below (by (with_reducible repeat (first | apply Kd.R_alloc | apply Kd.R_drewN | apply Kd.R_drew)); exact HO_6.out) hb); have n2_ := Aside0.mk (below_step (by repeat (first | (with_reducible first | exact HB.out | apply below_alloc | apply pw_below_drewN | apply below_drew1) | exact HB.out)) hb); clear HO_3; clear HO_6; clear HB; have HO_3 := n0_; have HO_6 := n1_; have HB := n2_; clear n0_ n1_ n2_; (try clear hb); (try clear hb2); (try clear hk); (try clear hi); obtain ⟨Ao28, co28, eo28⟩ := Kd.R_slice HO_6.out; subst eo28) | (go_at_call 20; (with_reducible refine (impl_ValidDone.calls _ _ t388 _ _ x6_2 t405 _ ?side1 ?side2 ?side3 ?side4 ?side5 A26.out).mono ?_); (case side1 => repeat (first | exact (Kd.S_reads' HO_3.out).2.2 | (with_reducible refine Kd.C_alloc ?_ _) | (with_reducible refine Kd.C_drewN ?_ _) | (with_reducible refine Kd.C_drew ?_))); (case side2 => exact (Kd.S_reads' HO_3.out).2.1); (case side3 => repeat (first | exact (Kd.R_reads' HO_6.out).2.2 | (with_reducible refine Kd.C_alloc ?_ _) | (with_reducible refine Kd.C_drewN ?_ _) | (with_reducible refine Kd.C_drew ?_))); (case side4 => exact (Kd.R_reads' HO_6.out).2.1); (case side5 => exact Tab.of HT.out (by repeat (first | (with_reducible first | exact HB.out | apply below_alloc | apply pw_below_drewN | apply below_drew1) | exact HB.out))); rintro e w29 ⟨rfl, hb⟩; have n0_ := Aside0.mk (Kd.S_below (by (with_reducible repeat (first | apply Kd.S_alloc | apply Kd.S_drewN | apply Kd.S_drew)); exact HO_3.out) hb); have n1_ := Aside0.mk (Kd.R_below (by (with_reducible repeat (first | apply Kd.R_alloc | apply Kd.R_drewN | apply Kd.R_drew)); exact HO_6.out) hb); have n2_ := Aside0.mk (below_step (by repeat (first | (with_reducible first | exact HB.out | apply below_alloc | apply pw_below_drewN | apply below_drew1) | exact HB.out)) hb); clear HO_3; clear HO_6; clear HB; have HO_3 := n0_; have HO_6 := n1_; have HB := n2_; clear n0_ n1_ n2_; (try clear hb); (try clear hb2); (try clear hk); (try clear hi)))
                  go_ret
                  exact ⟨by first | rfl | (simp [errW_none, errW_some] <;> rfl) | (simp [*, errW_none, errW_some] <;> rfl), by repeat (first | (with_reducible first | exact HB.out | apply below_alloc | apply pw_below_drewN | apply below_drew1) | exact HB.out)⟩
                · replace c25 := Bool.eq_false_iff.mpr c25
                  subst c25
                  have H1 : (some false) = some r := by rw [if_neg (show ¬ (false = true) by decide)] at H; exact H
                  clear H
                  have H := H1
                  clear H1
                  obtain rfl := Option.some.inj H
                  go_wp2_with (first | ((with_reducible refine gate_callee (f := 20) rfl ?_); refine goesL_ (some 46) rfl rfl Tryd.func20 (by kernel_rfl) rfl #[.slice Ao7 t388.length co7, .slice none 0 0] rfl (by (try simp only [List.map_toArray, List.map_cons, List.map_nil]); first | done | rfl | (simp only [List.length_drop, List.length_take]; rfl)) ?_; (refine (impl_ValidDone.calls _ _ t388 _ _ ([] : List Int) false _ ?side1 ?side2 ?side3 ?side4 ?side5 A24.out).mono ?_); (case side1 => repeat (first | exact (Kd.S_reads' HO_3.out).2.2 | (with_reducible refine Kd.C_alloc ?_ _) | (with_reducible refine Kd.C_drewN ?_ _) | (with_reducible refine Kd.C_drew ?_))); (case side2 => exact (Kd.S_reads' HO_3.out).2.1); (case side3 => exact Kd.C_nil _ _); (case side4 => exact Nat.le_refl _); (case side5 => exact Tab.of HT.out (by repeat (first | (with_reducible first | exact HB.out | apply below_alloc | apply pw_below_drewN | apply below_drew1) | exact HB.out))); rintro e w30 ⟨rfl, hb⟩; refine ⟨_, rfl, ?_⟩; have n0_ := Aside0.mk (Kd.S_below (by (with_reducible repeat (first | apply Kd.S_alloc | apply Kd.S_drewN | apply Kd.S_drew)); exact HO_3.out) hb); have n1_ := Aside0.mk (Kd.R_below (by (with_reducible repeat (first | apply Kd.R_alloc | apply Kd.R_drewN | apply Kd.R_drew)); exact HO_6.out) hb); have n2_ := Aside0.mk (below_step (by repeat (first | (with_reducible first | exact HB.out | apply below_alloc | apply pw_below_drewN | apply below_drew1) | exact HB.out)) hb); clear HO_3; clear HO_6; clear HB; have HO_3 := n0_; have HO_6 := n1_; have HB := n2_; clear n0_ n1_ n2_; (try clear hb); (try clear hb2); (try clear hk); (try clear hi)))
                  go_ret
                  exact ⟨by first | rfl | (simp [errW_none, errW_some] <;> rfl) | (simp [*, errW_none, errW_some] <;> rfl), by repeat (first | (with_reducible first | exact HB.out | apply below_alloc | apply pw_below_drewN | apply below_drew1) | exact HB.out)⟩
end Go.Proofs.YtpgfcihmgdempaaDoor.P
end
section
set_option linter.unusedVariables false
set_option linter.unusedSimpArgs false
namespace Go.Proofs.YtpgfcihmgdempaaDoor.Core
open Go Go.RowKit Go.Proofs.YtpgfcihmgdempaaDoorW.PrintWords Go.Proofs.YtpgfcihmgdempaaDoorW.PrintMore Go.Proofs.YtpgfcihmgdempaaDoor.P
theorem setD_elems {n s : Nat} (hn : n ≤ 8) (hs : s < 2 ^ n) : setD n (up (elemsN s)) = some s := by
  have hok : needsOk n (up (elemsN s)) := by
    refine ⟨fun x hx => ?_, asc_elems s⟩
    have := elems_lt hs hx
    omega
  obtain ⟨t, ht⟩ := setD_ok hok
  rw [ht]
  congr 1
  have h := set_list hn ht
  have e := up_inj h
  have hb := (setD_some ht).2
  refine Nat.eq_of_testBit_eq fun i => ?_
  rw [hb]
  by_cases hi : i < 8
  · cases hsb : s.testBit i with
    | true => exact decide_eq_true (mem_up.2 (mem_elemsN.2 ⟨hi, hsb⟩))
    | false => exact decide_eq_false (fun h => by have := (mem_elemsN.1 (mem_up.1 h)).2; rw [hsb] at this; cases this)
  · rw [Nat.testBit_lt_two_pow (Nat.lt_of_lt_of_le hs (Nat.pow_le_pow_right (by omega) (by omega)))]
    exact decide_eq_false (fun h => hi (mem_elemsN.1 (mem_up.1 h)).1)
theorem doneD_mk {g : List Tk} {G : GD} (hG : graphD g = some G) {s : Nat} (hs : s < 2 ^ g.length) (hc : closedD G.needs s = true) : doneD g (up (elemsN s)) = some (G, s) := by
  have v := vg_of hG
  unfold doneD
  rw [hG]
  simp only []
  rw [setD_elems v.n8 hs]
  simp only []
  rw [if_pos hc]
theorem elemsN_range' {s n : Nat} (hn : n ≤ 8) (hs : s < 2 ^ n) : elemsN s = (List.range n).filter (fun i => s.testBit i) := by
  have e8 : List.range 8 = List.range n ++ (List.range (8 - n)).map (n + ·) := by rw [← List.range_add]; congr 1; omega
  unfold elemsN
  rw [e8, List.filter_append]
  have e2 : ((List.range (8 - n)).map (n + ·)).filter (fun i => s.testBit i) = [] := by
    rw [List.filter_eq_nil_iff]
    intro y hy hb
    obtain ⟨z, _, rfl⟩ := List.mem_map.1 hy
    rw [Nat.testBit_lt_two_pow (Nat.lt_of_lt_of_le hs (Nat.pow_le_pow_right (by omega) (by omega)))] at hb
    cases hb
  rw [e2, List.append_nil]
theorem elemsN_full {n : Nat} (hn : n ≤ 8) : elemsN (2 ^ n - 1) = List.range n := by
  have hp : 2 ^ n - 1 < 2 ^ n := by have := Nat.two_pow_pos n; omega
  rw [elemsN_range' hn hp, List.filter_eq_self]
  intro i hi
  rw [Nat.testBit_two_pow_sub_one]
  simpa using hi
end Go.Proofs.YtpgfcihmgdempaaDoor.Core
end
section
set_option linter.unusedVariables false
set_option linter.unusedSimpArgs false
namespace Go.Proofs.YtpgfcihmgdempaaDoor.Core
open Go Go.RowKit Go.Proofs.YtpgfcihmgdempaaDoorW.PrintWords Go.Proofs.YtpgfcihmgdempaaDoorW.PrintMore Go.Proofs.YtpgfcihmgdempaaDoor.P
theorem ev_DrawValidDone {l : List Int} (h : Bytes l) : EvP (fun k => spec_DrawValidDone.f k l) (fun r => GSmall 16 10 r.1 ∧ r.2.length ≤ 9) := by
  unfold spec_DrawValidDone.f
  refine (ev_newReader h).bind fun a ha => ?_
  refine (ev_anyGraph ha (by omega)).bind fun b hb => ?_
  refine (ev_someDone hb.2 (by omega) (hb.1.fits (by unfold big; omega) (by unfold big; omega)) hb.1.1).bind fun d hd => ?_
  exact EvP.ret ⟨hb.1, hd.1⟩
end Go.Proofs.YtpgfcihmgdempaaDoor.Core
end
section
set_option linter.unusedVariables false
set_option linter.unusedSimpArgs false
namespace Go.Proofs.YtpgfcihmgdempaaDoor.Core
open Go Go.RowKit Go.Proofs.YtpgfcihmgdempaaDoorW.PrintWords Go.Proofs.YtpgfcihmgdempaaDoorW.PrintMore Go.Proofs.YtpgfcihmgdempaaDoor.P
theorem FnValidDone_pure (l0 : List Int) (hW : Bytes l0) : ∃ k, laws_FnValidDone.f k l0 = some true := by
  refine Ev.one (f := fun k => laws_FnValidDone.f k l0) (EvP.ev ?_)
  unfold laws_FnValidDone.f
  refine EvP.ite (fun _ => EvP.ret rfl) (fun hlen => ?_)
  refine (ev_DrawValidDone hW).bind fun ⟨g, l⟩ hg => ?_
  obtain ⟨hg, hl⟩ := hg
  have hf := hg.fits (by unfold big; omega) (by unfold big; omega)
  have hs := ev_ValidDoneS hf (l := l) (by unfold big; show l.length < _; have : l.length ≤ 9 := hl; omega)
  refine Ev.bindP (Ev.const (doneD g l).isSome) (Ev.bindP hs (EvP.neg (by simp) (Ev.bindP (Ev.const (graphD g).isSome) ?_)))
  cases hG : graphD g with
  | none =>
    refine EvP.succ ?_
    simp only [laws_FnValidDone.j0]
    exact EvP.pos (by first | rfl | trivial) (Ev.bindP hs (EvP.ret (by simp)))
  | some G =>
    have v := vg_of hG
    have h8 := v.n8
    refine EvP.succ ?_
    simp only [laws_FnValidDone.j0]
    refine EvP.neg (by simp) ?_
    have hz : 0 < 2 ^ g.length := Nat.two_pow_pos _
    have d0 : doneD g [] = some (G, 0) := doneD_mk hG hz ((v.closed_iff hz).2 (fun i hi => by simp at hi))
    have hfl : 2 ^ g.length - 1 < 2 ^ g.length := by omega
    have d1 : doneD g (up (List.range g.length)) = some (G, 2 ^ g.length - 1) := by
      rw [← elemsN_full h8]
      refine doneD_mk hG hfl ((v.closed_iff hfl).2 fun i hi j hj => ?_)
      rw [Nat.testBit_two_pow_sub_one]
      simpa using v.need_lt hj
    have key : ∀ (m i : Nat), i + m = g.length → EvP (fun k => laws_FnValidDone.l0 k g (up (List.range i)) (i : Int)) (fun x => x = true) := by
      intro m
      induction m with
      | zero =>
        intro i hi
        have : i = g.length := by omega
        subst this
        refine EvP.succ ?_
        simp only [laws_FnValidDone.l0]
        refine EvP.neg (by omega) (Ev.bindP (Ev.const (doneD g []).isSome) (EvP.pos (by rw [d0]; rfl) (Ev.bindP (Ev.const (doneD g (up (List.range g.length))).isSome) (EvP.ret (by rw [d1]; rfl)))))
      | succ m ih =>
        intro i hi
        have hw : wrap64 ((i : Int) + 1) = ((i + 1 : Nat) : Int) := w64s (by unfold big; omega)
        have e : up (List.range i) ++ [(i : Int)] = up (List.range (i + 1)) := by rw [List.range_succ]; simp [up]
        refine EvP.succ ?_
        simp only [laws_FnValidDone.l0, hw, e]
        exact EvP.pos (by omega) (EvP.pos (by rw [up_length, List.length_range]; omega) (ih (i + 1) (by omega)))
    exact key g.length 0 (by omega)
end Go.Proofs.YtpgfcihmgdempaaDoor.Core
end
