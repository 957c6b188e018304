/- The law FnBestTimeLess holds of the given program: the proof's own part, with its row and its card, part 6 of 9. -/
import Derived.Test.YtimbfcedigaffaaDoorZFnBestTimeLess5
import Derived.WalkSpells
set_option linter.unusedVariables false
set_option linter.unusedSimpArgs false
namespace Go.Proofs.YtimbfcedigaffaaDoor.P
abbrev T6q : Bool := true
abbrev F6q : Bool := false
end Go.Proofs.YtimbfcedigaffaaDoor.P
section
namespace Go.Proofs.YtimbfcedigaffaaDoor.P
open Go.RowKit Go.Proofs.YtimbfcedigaffaaDoorW.PrintWords Go.Proofs.YtimbfcedigaffaaDoorW.PrintLast Go.Proofs.YtimbfcedigaffaaDoorW.PrintMore
attribute [local go_sem] max2_int min2_int max_two min_two max_three min_three max_four min_four
noncomputable def spec_smallGraph.f (k : Nat) (s0_0 : List Int) (s0_1 : Int) : Option ((List (S39)) × Int) := (spec_reader_pick.f k s0_0 s0_1 10).bind fun bt440 => (if bt440.1 = 0 then ((spec_anyGraph.f s0_0 bt440.2).bind fun bt442 => (some (bt442.1, bt442.2))) else ((spec_someGraph.f k s0_0 bt440.2 5).bind fun bt446 => (some (bt446.1, bt446.2))))
theorem spec_smallGraph.mono : ∀ a0 a1 k, LeO (spec_smallGraph.f k a0 a1) (spec_smallGraph.f (k + 1) a0 a1) := by
 intro a0 a1 k
 unfold spec_smallGraph.f
 repeat' first
   | (with_reducible exact spec_reader_pick.mono _ _ _ _)
   | (with_reducible exact spec_someGraph.mono _ _ _ _)
   | (with_reducible exact LeO.refl _)
   | (with_reducible exact LeO.none _)
   | (with_reducible refine LeO.ite ?_ ?_)
   | (with_reducible refine LeO.bind ?_ (fun _ => ?_))
   | exact spec_reader_pick.mono _ _ _ _
   | exact spec_someGraph.mono _ _ _ _
   | exact LeO.none _
   | refine LeO.ite ?_ ?_
   | refine LeO.bind ?_ (fun _ => ?_)
set_option maxHeartbeats 8000000 in
set_option maxRecDepth 100000 in
theorem spec_smallGraph.calls (k : Nat) (g : Nat) (s0_0 : List Int) (s0_1 : Int) (r1 : List (S39)) (r2 : Int) (w0 w : World) (hI : IsS80 w0 w g s0_0 s0_1) (hB : Below w0.heap.size w0 w) (h : spec_smallGraph.f k s0_0 s0_1 = some (r1, r2)) :
  Calls Tryd.prog 35 #[.pointer (some ⟨g, 0, none⟩)] w fun e w' => ∃ v0_ : Value, e = .returned (v0_) ∧ Kd.S k39 39 w' w.heap.size (fun _ => True) v0_ r1 ∧ IsS80 w0 w' g s0_0 r2 ∧ Below w0.heap.size w0 w' ∧ KeepBut w w' g none := by
 have HI0 := m0 hI
 have HK := m0 (KeepBut.refl w g none)
 have HL := m0 hB.size
 clear hI
 have HW0 := m0 hB.size
 have HB := m0 hB
 clear hB
 have H : ((spec_reader_pick.f k s0_0 s0_1 10).bind fun bt440 => (if bt440.1 = 0 then ((spec_anyGraph.f s0_0 bt440.2).bind fun bt442 => (some (bt442.1, bt442.2))) else ((spec_someGraph.f k s0_0 bt440.2 5).bind fun bt446 => (some (bt446.1, bt446.2))))) = some (r1, r2) := h
 clear h
 replace H := Option.bind_eq_some_iff.mp H
 obtain ⟨⟨t440, t441⟩, A20, H⟩ := H
 replace H : (if t440 = 0 then ((spec_anyGraph.f s0_0 t441).bind fun bt442 => (some (bt442.1, bt442.2))) else ((spec_someGraph.f k s0_0 t441 5).bind fun bt446 => (some (bt446.1, bt446.2)))) = some (r1, r2) := H
 have A2 := m0 A20
 clear A20
 by_cases c3 : t440 = 0
 ·rw [if_pos c3] at H
  have c3b0 : (t440 == 0) = true := beq_iff_eq.mpr c3
  have c3b1 : (t440 != 0) = false := bne_eq_false_iff_eq.mpr c3
  clear c3
  replace H := Option.bind_eq_some_iff.mp H
  obtain ⟨⟨t442, t445⟩, A40, H⟩ := H
  replace H : (some (t442, t445)) = some (r1, r2) := H
  have A4 := m0 A40
  clear A40
  simp only [Option.some.injEq, Prod.mk.injEq] at H
  obtain ⟨rfl, rfl⟩ := H
  go_enter Tryd.func35, Tryd.ntmps35
  go_wp2_with (first | ((with_reducible refine gate_callee (f := 50) rfl ?_); refine goesL_ (some 4) rfl rfl Tryd.func50 (by kernel_rfl) rfl #[.pointer (some ⟨g, 0, none⟩), .int .i64 10] rfl (by (try simp only [List.map_toArray, List.map_cons, List.map_nil]); first | done | rfl | (simp only [List.length_drop, List.length_take]; rfl)) ?_; (with_reducible refine (spec_reader_pick.calls k g s0_0 s0_1 10 t440 t441 w0 _ ?side1 ?side2 A2.out).mono ?_); (case side1 => repeat (first | (with_reducible first | exact HI0.out | apply IsS80.alloc | apply IsS80.drewN | apply IsS80.drew | apply IsS80.set_1) | exact HI0.out)); (case side2 => repeat (first | (with_reducible first | exact HB.out | apply below_alloc | apply pw_below_drewN | apply below_drew1 | refine below_set ?_ (IsS80.ge HI0.out)) | exact HB.out)); rintro e w5 ⟨rfl, hi, hb, hk⟩; refine ⟨_, rfl, ?_⟩; have n0_ := m0 (KeepBut.trans (by repeat (first | (with_reducible first | exact HK.out | apply KeepBut.set_ | apply keep_drewN | apply keep_drew | apply keep_alloc) | exact HK.out)) hk (.inl rfl)); have n1_ := m0 (hb); have n2_ := m0 (hi); clear HK; clear HB; clear HI0; have HK := n0_; have HB := n1_; have HI0 := n2_; clear n0_ n1_ n2_; (try clear hb); (try clear hb2); (try clear hk); (try clear hi)) | ((with_reducible refine gate_callee (f := 51) rfl ?_); refine goesL_ (some 7) rfl rfl Tryd.func51 (by kernel_rfl) rfl #[.pointer (some ⟨g, 0, none⟩)] rfl (by (try simp only [List.map_toArray, List.map_cons, List.map_nil]); first | done | rfl | (simp only [List.length_drop, List.length_take]; rfl)) ?_; (with_reducible refine (spec_anyGraph.calls g s0_0 t441 t442 t445 w0 _ ?side1 ?side2 A4.out).mono ?_); (case side1 => repeat (first | (with_reducible first | exact HI0.out | apply IsS80.alloc | apply IsS80.drewN | apply IsS80.drew | apply IsS80.set_1) | exact HI0.out)); (case side2 => repeat (first | (with_reducible first | exact HB.out | apply below_alloc | apply pw_below_drewN | apply below_drew1 | refine below_set ?_ (IsS80.ge HI0.out)) | exact HB.out)); rintro e w6 ⟨v443, rfl, ho0, hi, hb, hk⟩; refine ⟨_, rfl, ?_⟩; have n0_ := m0 (Kd.S_lower ho0 (keep_size (w := w) (g := g) (row := none) (by repeat (first | (with_reducible first | exact HK.out | apply KeepBut.set_ | apply keep_drewN | apply keep_drew | apply keep_alloc) | exact HK.out)))); have n1_ := m0 (KeepBut.trans (by repeat (first | (with_reducible first | exact HK.out | apply KeepBut.set_ | apply keep_drewN | apply keep_drew | apply keep_alloc) | exact HK.out)) hk (.inl rfl)); have n2_ := m0 (hb); have n3_ := m0 (hi); clear HK; clear HB; clear HI0; have HO444 := n0_; have HK := n1_; have HB := n2_; have HI0 := n3_; clear n0_ n1_ n2_ n3_; (try clear hb); (try clear hb2); (try clear hk); (try clear hi); (try clear ho0)))
  go_ret
  exact ⟨_, by first | rfl | (simp [errW_none, errW_some] <;> rfl) | (simp [*, errW_none, errW_some] <;> rfl), by (with_reducible repeat (first | apply Kd.S_alloc | apply Kd.S_drewN | apply Kd.S_drew)); exact HO444.out, by repeat (first | (with_reducible first | exact HI0.out | apply IsS80.alloc | apply IsS80.drewN | apply IsS80.drew | apply IsS80.set_1) | exact HI0.out), by repeat (first | (with_reducible first | exact HB.out | apply below_alloc | apply pw_below_drewN | apply below_drew1 | refine below_set ?_ (IsS80.ge HI0.out)) | exact HB.out), by repeat (first | (with_reducible first | exact HK.out | apply KeepBut.set_ | apply keep_drewN | apply keep_drew | apply keep_alloc) | exact HK.out)⟩
 ·rw [if_neg c3] at H
  have c3b0 : (t440 == 0) = false := beq_eq_false_iff_ne.mpr c3
  have c3b1 : (t440 != 0) = true := bne_iff_ne.mpr c3
  replace H := Option.bind_eq_some_iff.mp H
  obtain ⟨⟨t446, t449⟩, A70, H⟩ := H
  replace H : (some (t446, t449)) = some (r1, r2) := H
  have A7 := m0 A70
  clear A70
  simp only [Option.some.injEq, Prod.mk.injEq] at H
  obtain ⟨rfl, rfl⟩ := H
  go_enter Tryd.func35, Tryd.ntmps35
  go_wp2_with (first | ((with_reducible refine gate_callee (f := 50) rfl ?_); refine goesL_ (some 4) rfl rfl Tryd.func50 (by kernel_rfl) rfl #[.pointer (some ⟨g, 0, none⟩), .int .i64 10] rfl (by (try simp only [List.map_toArray, List.map_cons, List.map_nil]); first | done | rfl | (simp only [List.length_drop, List.length_take]; rfl)) ?_; (with_reducible refine (spec_reader_pick.calls k g s0_0 s0_1 10 t440 t441 w0 _ ?side1 ?side2 A2.out).mono ?_); (case side1 => repeat (first | (with_reducible first | exact HI0.out | apply IsS80.alloc | apply IsS80.drewN | apply IsS80.drew | apply IsS80.set_1) | exact HI0.out)); (case side2 => repeat (first | (with_reducible first | exact HB.out | apply below_alloc | apply pw_below_drewN | apply below_drew1 | refine below_set ?_ (IsS80.ge HI0.out)) | exact HB.out)); rintro e w8 ⟨rfl, hi, hb, hk⟩; refine ⟨_, rfl, ?_⟩; have n0_ := m0 (KeepBut.trans (by repeat (first | (with_reducible first | exact HK.out | apply KeepBut.set_ | apply keep_drewN | apply keep_drew | apply keep_alloc) | exact HK.out)) hk (.inl rfl)); have n1_ := m0 (hb); have n2_ := m0 (hi); clear HK; clear HB; clear HI0; have HK := n0_; have HB := n1_; have HI0 := n2_; clear n0_ n1_ n2_; (try clear hb); (try clear hb2); (try clear hk); (try clear hi)) | ((with_reducible refine gate_callee (f := 52) rfl ?_); refine goesL_ (some 9) rfl rfl Tryd.func52 (by kernel_rfl) rfl #[.pointer (some ⟨g, 0, none⟩), .int .i64 5] rfl (by (try simp only [List.map_toArray, List.map_cons, List.map_nil]); first | done | rfl | (simp only [List.length_drop, List.length_take]; rfl)) ?_; (with_reducible refine (spec_someGraph.calls k g s0_0 t441 5 t446 t449 w0 _ ?side1 ?side2 A7.out).mono ?_); (case side1 => repeat (first | (with_reducible first | exact HI0.out | apply IsS80.alloc | apply IsS80.drewN | apply IsS80.drew | apply IsS80.set_1) | exact HI0.out)); (case side2 => repeat (first | (with_reducible first | exact HB.out | apply below_alloc | apply pw_below_drewN | apply below_drew1 | refine below_set ?_ (IsS80.ge HI0.out)) | exact HB.out)); rintro e w9 ⟨v447, rfl, ho0, hi, hb, hk⟩; refine ⟨_, rfl, ?_⟩; have n0_ := m0 (Kd.S_lower ho0 (keep_size (w := w) (g := g) (row := none) (by repeat (first | (with_reducible first | exact HK.out | apply KeepBut.set_ | apply keep_drewN | apply keep_drew | apply keep_alloc) | exact HK.out)))); have n1_ := m0 (KeepBut.trans (by repeat (first | (with_reducible first | exact HK.out | apply KeepBut.set_ | apply keep_drewN | apply keep_drew | apply keep_alloc) | exact HK.out)) hk (.inl rfl)); have n2_ := m0 (hb); have n3_ := m0 (hi); clear HK; clear HB; clear HI0; have HO448 := n0_; have HK := n1_; have HB := n2_; have HI0 := n3_; clear n0_ n1_ n2_ n3_; (try clear hb); (try clear hb2); (try clear hk); (try clear hi); (try clear ho0)))
  go_ret
  exact ⟨_, by first | rfl | (simp [errW_none, errW_some] <;> rfl) | (simp [*, errW_none, errW_some] <;> rfl), by (with_reducible repeat (first | apply Kd.S_alloc | apply Kd.S_drewN | apply Kd.S_drew)); exact HO448.out, by repeat (first | (with_reducible first | exact HI0.out | apply IsS80.alloc | apply IsS80.drewN | apply IsS80.drew | apply IsS80.set_1) | exact HI0.out), by repeat (first | (with_reducible first | exact HB.out | apply below_alloc | apply pw_below_drewN | apply below_drew1 | refine below_set ?_ (IsS80.ge HI0.out)) | exact HB.out), by repeat (first | (with_reducible first | exact HK.out | apply KeepBut.set_ | apply keep_drewN | apply keep_drew | apply keep_alloc) | exact HK.out)⟩
end Go.Proofs.YtimbfcedigaffaaDoor.P
end
section
namespace Go.Proofs.YtimbfcedigaffaaDoor.P
open Go.RowKit Go.Proofs.YtimbfcedigaffaaDoorW.PrintWords Go.Proofs.YtimbfcedigaffaaDoorW.PrintLast Go.Proofs.YtimbfcedigaffaaDoorW.PrintMore
attribute [local go_sem] max2_int min2_int max_two min_two max_three min_three max_four min_four
noncomputable def spec_DrawBestOrder.f (k : Nat) (l0 : List Int) : Option ((List (S39)) × List Int × Int) := (spec_newReader.f l0).bind fun bt477 => ((spec_smallGraph.f k bt477.1 bt477.2).bind fun bt480 => ((spec_someRoom.f k bt477.1 bt480.2).bind fun bt484 => ((spec_someWorkers.f k bt477.1 bt484.2).bind fun bt488 => (some (bt480.1, bt484.1, bt488.1)))))
theorem spec_DrawBestOrder.mono : ∀ a0 k, LeO (spec_DrawBestOrder.f k a0) (spec_DrawBestOrder.f (k + 1) a0) := by
 intro a0 k
 unfold spec_DrawBestOrder.f
 repeat' first
   | (with_reducible exact spec_smallGraph.mono _ _ _)
   | (with_reducible exact spec_someRoom.mono _ _ _)
   | (with_reducible exact spec_someWorkers.mono _ _ _)
   | (with_reducible exact LeO.refl _)
   | (with_reducible exact LeO.none _)
   | (with_reducible refine LeO.ite ?_ ?_)
   | (with_reducible refine LeO.bind ?_ (fun _ => ?_))
   | exact spec_smallGraph.mono _ _ _
   | exact spec_someRoom.mono _ _ _
   | exact spec_someWorkers.mono _ _ _
   | exact LeO.none _
   | refine LeO.ite ?_ ?_
   | refine LeO.bind ?_ (fun _ => ?_)
set_option maxHeartbeats 8000000 in
set_option maxRecDepth 100000 in
theorem spec_DrawBestOrder.calls (k : Nat) (A0 : Option Addr) (c0 : Nat) (l0 : List Int) (r1 : List (S39)) (r2 : List Int) (r3 : Int) (w : World) (hr0 : Kd.C (Kd.int .u8) w A0 l0.length l0) (hc0 : l0.length ≤ c0) (h : spec_DrawBestOrder.f k l0 = some (r1, r2, r3)) :
  Calls Tryd.prog 20 #[.slice A0 l0.length c0] w fun e w' => ∃ v0_ v1_ : Value, e = .returned (.tuple #[v0_, v1_, .int .i64 r3]) ∧ Kd.S k39 39 w' w.heap.size (fun k_ => some k_ ≠ (v1_ : Value).ownBlock) v0_ r1 ∧ Kd.Q (Kd.int .i64) 3 w' w.heap.size (fun _ => True) v1_ r2 ∧ Below w.heap.size w w' := by
 have HR0 := m0 hr0
 have HC0 := m0 hc0
 clear hr0 hc0
 have HB := m0 (Below.refl w.heap.size w)
 have H : ((spec_newReader.f l0).bind fun bt477 => ((spec_smallGraph.f k bt477.1 bt477.2).bind fun bt480 => ((spec_someRoom.f k bt477.1 bt480.2).bind fun bt484 => ((spec_someWorkers.f k bt477.1 bt484.2).bind fun bt488 => (some (bt480.1, bt484.1, bt488.1)))))) = some (r1, r2, r3) := h
 clear h
 replace H := Option.bind_eq_some_iff.mp H
 obtain ⟨⟨t477, t478⟩, A20, H⟩ := H
 replace H : ((spec_smallGraph.f k t477 t478).bind fun bt480 => ((spec_someRoom.f k t477 bt480.2).bind fun bt484 => ((spec_someWorkers.f k t477 bt484.2).bind fun bt488 => (some (bt480.1, bt484.1, bt488.1))))) = some (r1, r2, r3) := H
 have A2 := m0 A20
 clear A20
 replace H := Option.bind_eq_some_iff.mp H
 obtain ⟨⟨t480, t483⟩, A30, H⟩ := H
 replace H : ((spec_someRoom.f k t477 t483).bind fun bt484 => ((spec_someWorkers.f k t477 bt484.2).bind fun bt488 => (some (t480, bt484.1, bt488.1)))) = some (r1, r2, r3) := H
 have A3 := m0 A30
 clear A30
 replace H := Option.bind_eq_some_iff.mp H
 obtain ⟨⟨t484, t487⟩, A40, H⟩ := H
 replace H : ((spec_someWorkers.f k t477 t487).bind fun bt488 => (some (t480, t484, bt488.1))) = some (r1, r2, r3) := H
 have A4 := m0 A40
 clear A40
 replace H := Option.bind_eq_some_iff.mp H
 obtain ⟨⟨t488, t489⟩, A50, H⟩ := H
 replace H : (some (t480, t484, t488)) = some (r1, r2, r3) := H
 have A5 := m0 A50
 clear A50
 simp only [Option.some.injEq, Prod.mk.injEq] at H
 obtain ⟨rfl, rfl, rfl⟩ := H
 go_enter Tryd.func20, Tryd.ntmps20
 go_wp2_with (first | ((with_reducible refine gate_callee (f := 34) rfl ?_); refine goesL_ (some 9) rfl rfl Tryd.func34 (by kernel_rfl) rfl #[.slice A0 l0.length c0] rfl (by (try simp only [List.map_toArray, List.map_cons, List.map_nil]); first | done | rfl | (simp only [List.length_drop, List.length_take]; rfl)) ?_; (with_reducible refine (spec_newReader.calls _ _ l0 t477 t478 w _ ?side1 ?side2 ?side3 A2.out).mono ?_); (case side1 => repeat (first | (with_reducible first | exact HB.out | apply below_alloc | apply pw_below_drewN | apply below_drew1) | exact HB.out)); (case side2 => exact HR0.out); (case side3 => exact HC0.out); rintro e w6 ⟨g479, rfl, hi, hb, hb2⟩; refine ⟨_, rfl, ?_⟩; have n0_ := m0 (hb); have n1_ := m0 (hi); clear HB; have HB := n0_; have HI479 := n1_; clear n0_ n1_; (try clear hb); (try clear hb2); (try clear hk); (try clear hi)) | ((with_reducible refine gate_callee (f := 35) rfl ?_); refine goesL_ (some 11) rfl rfl Tryd.func35 (by kernel_rfl) rfl #[.pointer (some ⟨g479, 0, none⟩)] rfl (by (try simp only [List.map_toArray, List.map_cons, List.map_nil]); first | done | rfl | (simp only [List.length_drop, List.length_take]; rfl)) ?_; (with_reducible refine (spec_smallGraph.calls k g479 t477 t478 t480 t483 w _ ?side1 ?side2 A3.out).mono ?_); (case side1 => repeat (first | (with_reducible first | exact HI479.out | apply IsS80.alloc | apply IsS80.drewN | apply IsS80.drew | apply IsS80.set_1) | exact HI479.out)); (case side2 => repeat (first | (with_reducible first | exact HB.out | apply below_alloc | apply pw_below_drewN | apply below_drew1 | refine below_set ?_ (IsS80.ge HI479.out)) | exact HB.out)); rintro e w7 ⟨v481, rfl, ho0, hi, hb, hk⟩; refine ⟨_, rfl, ?_⟩; have n0_ := m0 (Kd.S_lower ho0 (below_size (by repeat (first | (with_reducible first | exact HB.out | apply below_alloc | apply pw_below_drewN | apply below_drew1 | refine below_set ?_ (IsS80.ge HI479.out)) | exact HB.out)))); have n1_ := m0 (hb); have n2_ := m0 (hi); clear HB; clear HI479; have HO482 := n0_; have HB := n1_; have HI479 := n2_; clear n0_ n1_ n2_; (try clear hb); (try clear hb2); (try clear hk); (try clear hi); (try clear ho0)) | ((with_reducible refine gate_callee (f := 36) rfl ?_); refine goesL_ (some 13) rfl rfl Tryd.func36 (by kernel_rfl) rfl #[.pointer (some ⟨g479, 0, none⟩)] rfl (by (try simp only [List.map_toArray, List.map_cons, List.map_nil]); first | done | rfl | (simp only [List.length_drop, List.length_take]; rfl)) ?_; (with_reducible refine (spec_someRoom.calls k g479 t477 t483 t484 t487 w _ ?side1 ?side2 A4.out).mono ?_); (case side1 => repeat (first | (with_reducible first | exact HI479.out | apply IsS80.alloc | apply IsS80.drewN | apply IsS80.drew | apply IsS80.set_1) | exact HI479.out)); (case side2 => repeat (first | (with_reducible first | exact HB.out | apply below_alloc | apply pw_below_drewN | apply below_drew1 | refine below_set ?_ (IsS80.ge HI479.out)) | exact HB.out)); rintro e w8 ⟨v485, rfl, ho0, hi, hb, hk⟩; refine ⟨_, rfl, ?_⟩; have n0_ := m0 (Kd.S_mono (Kd.S_told (Kd.S_oldK (IsS80.apartS (show IsS80 w _ g479 t477 t483 from by repeat (first | (with_reducible first | exact HI479.out | apply IsS80.alloc | apply IsS80.drewN | apply IsS80.drew | apply IsS80.set_1) | exact HI479.out)) (by (with_reducible repeat (first | apply Kd.S_alloc | apply Kd.S_drewN | apply Kd.S_drew)); exact HO482.out) (by decide)) hk) (Kd.Q_base ho0)) (fun _ h_ => h_.1)); have n1_ := m0 (Kd.Q_lower ho0 (below_size (by repeat (first | (with_reducible first | exact HB.out | apply below_alloc | apply pw_below_drewN | apply below_drew1 | refine below_set ?_ (IsS80.ge HI479.out)) | exact HB.out)))); have n2_ := m0 (hb); have n3_ := m0 (hi); clear HO482; clear HB; clear HI479; have HO482 := n0_; have HO486 := n1_; have HB := n2_; have HI479 := n3_; clear n0_ n1_ n2_ n3_; (try clear hb); (try clear hb2); (try clear hk); (try clear hi); (try clear ho0)) | ((with_reducible refine gate_callee (f := 37) rfl ?_); refine goesL_ (some 17) rfl rfl Tryd.func37 (by kernel_rfl) rfl #[.pointer (some ⟨g479, 0, none⟩)] rfl (by (try simp only [List.map_toArray, List.map_cons, List.map_nil]); first | done | rfl | (simp only [List.length_drop, List.length_take]; rfl)) ?_; (with_reducible refine (spec_someWorkers.calls k g479 t477 t487 t488 t489 w _ ?side1 ?side2 A5.out).mono ?_); (case side1 => repeat (first | (with_reducible first | exact HI479.out | apply IsS80.alloc | apply IsS80.drewN | apply IsS80.drew | apply IsS80.set_1) | exact HI479.out)); (case side2 => repeat (first | (with_reducible first | exact HB.out | apply below_alloc | apply pw_below_drewN | apply below_drew1 | refine below_set ?_ (IsS80.ge HI479.out)) | exact HB.out)); rintro e w9 ⟨rfl, hi, hb, hk⟩; refine ⟨_, rfl, ?_⟩; have n0_ := m0 (Kd.S_mono (Kd.S_keep (IsS80.apartS (show IsS80 w _ g479 t477 t487 from by repeat (first | (with_reducible first | exact HI479.out | apply IsS80.alloc | apply IsS80.drewN | apply IsS80.drew | apply IsS80.set_1) | exact HI479.out)) (by (with_reducible repeat (first | apply Kd.S_alloc | apply Kd.S_drewN | apply Kd.S_drew)); exact HO482.out) (by decide)) hk (fun _ h => h.2)) (fun _ h => h.1)); have n1_ := m0 (Kd.Q_mono (Kd.Q_keep (IsS80.apartQ (show IsS80 w _ g479 t477 t487 from by repeat (first | (with_reducible first | exact HI479.out | apply IsS80.alloc | apply IsS80.drewN | apply IsS80.drew | apply IsS80.set_1) | exact HI479.out)) (by (with_reducible repeat (first | apply Kd.Q_alloc | apply Kd.Q_drewN | apply Kd.Q_drew)); exact HO486.out) (by decide)) hk (fun _ h => h.2)) (fun _ h => h.1)); have n2_ := m0 (hb); have n3_ := m0 (hi); clear HO482; clear HO486; clear HB; clear HI479; have HO482 := n0_; have HO486 := n1_; have HB := n2_; have HI479 := n3_; clear n0_ n1_ n2_ n3_; (try clear hb); (try clear hb2); (try clear hk); (try clear hi)))
 go_ret3
 exact ⟨_, _, by first | rfl | (simp [errW_none, errW_some] <;> rfl) | (simp [*, errW_none, errW_some] <;> rfl), by (with_reducible repeat (first | apply Kd.S_alloc | apply Kd.S_drewN | apply Kd.S_drew)); exact Kd.S_mono HO482.out (fun _ hk => hk.2), by (with_reducible repeat (first | apply Kd.Q_alloc | apply Kd.Q_drewN | apply Kd.Q_drew)); exact HO486.out, by repeat (first | (with_reducible first | exact HB.out | apply below_alloc | apply pw_below_drewN | apply below_drew1 | refine below_set ?_ (IsS80.ge HI479.out)) | exact HB.out)⟩
end Go.Proofs.YtimbfcedigaffaaDoor.P
end
section
namespace Go.Proofs.YtimbfcedigaffaaDoor.P
open Go.RowKit Go.Proofs.YtimbfcedigaffaaDoorW.PrintWords Go.Proofs.YtimbfcedigaffaaDoorW.PrintLast Go.Proofs.YtimbfcedigaffaaDoorW.PrintMore
attribute [local go_sem] max2_int min2_int max_two min_two max_three min_three max_four min_four
noncomputable def spec_DrawBestTime.f (k : Nat) (l0 : List Int) : Option ((List (S39)) × List Int × Int) := (spec_DrawBestOrder.f k l0).bind fun bt520 => (some (bt520.1, bt520.2.1, bt520.2.2))
theorem spec_DrawBestTime.mono : ∀ a0 k, LeO (spec_DrawBestTime.f k a0) (spec_DrawBestTime.f (k + 1) a0) := by
 intro a0 k
 unfold spec_DrawBestTime.f
 repeat' first
   | (with_reducible exact spec_DrawBestOrder.mono _ _)
   | (with_reducible exact LeO.refl _)
   | (with_reducible exact LeO.none _)
   | (with_reducible refine LeO.ite ?_ ?_)
   | (with_reducible refine LeO.bind ?_ (fun _ => ?_))
   | exact spec_DrawBestOrder.mono _ _
   | exact LeO.none _
   | refine LeO.ite ?_ ?_
   | refine LeO.bind ?_ (fun _ => ?_)
set_option maxHeartbeats 8000000 in
set_option maxRecDepth 100000 in
theorem spec_DrawBestTime.calls (k : Nat) (A0 : Option Addr) (c0 : Nat) (l0 : List Int) (r1 : List (S39)) (r2 : List Int) (r3 : Int) (w : World) (hr0 : Kd.C (Kd.int .u8) w A0 l0.length l0) (hc0 : l0.length ≤ c0) (h : spec_DrawBestTime.f k l0 = some (r1, r2, r3)) :
  Calls Tryd.prog 22 #[.slice A0 l0.length c0] w fun e w' => ∃ v0_ v1_ : Value, e = .returned (.tuple #[v0_, v1_, .int .i64 r3]) ∧ Kd.S k39 39 w' w.heap.size (fun k_ => some k_ ≠ (v1_ : Value).ownBlock) v0_ r1 ∧ Kd.Q (Kd.int .i64) 3 w' w.heap.size (fun _ => True) v1_ r2 ∧ Below w.heap.size w w' := by
 have HR0 := m0 hr0
 have HC0 := m0 hc0
 clear hr0 hc0
 have HB := m0 (Below.refl w.heap.size w)
 have H : ((spec_DrawBestOrder.f k l0).bind fun bt520 => (some (bt520.1, bt520.2.1, bt520.2.2))) = some (r1, r2, r3) := h
 clear h
 replace H := Option.bind_eq_some_iff.mp H
 obtain ⟨⟨t520, t521, t522⟩, A20, H⟩ := H
 replace H : (some (t520, t521, t522)) = some (r1, r2, r3) := H
 have A2 := m0 A20
 clear A20
 simp only [Option.some.injEq, Prod.mk.injEq] at H
 obtain ⟨rfl, rfl, rfl⟩ := H
 go_enter Tryd.func22, Tryd.ntmps22
 go_wp2_with (first | ((with_reducible refine gate_callee (f := 20) rfl ?_); refine goesL_ (some 6) rfl rfl Tryd.func20 (by kernel_rfl) rfl #[.slice A0 l0.length c0] rfl (by (try simp only [List.map_toArray, List.map_cons, List.map_nil]); first | done | rfl | (simp only [List.length_drop, List.length_take]; rfl)) ?_; (with_reducible refine (spec_DrawBestOrder.calls k _ _ l0 t520 t521 t522 _ ?side1 ?side2 A2.out).mono ?_); (case side1 => repeat (first | exact HR0.out | (with_reducible refine Kd.C_alloc ?_ _) | (with_reducible refine Kd.C_drewN ?_ _) | (with_reducible refine Kd.C_drew ?_))); (case side2 => exact HC0.out); rintro e w3 ⟨v523, v525, rfl, ho0, ho1, hb⟩; refine ⟨_, rfl, ?_⟩; have n0_ := m0 (Kd.S_lower ho0 (below_size (by repeat (first | (with_reducible first | exact HB.out | apply below_alloc | apply pw_below_drewN | apply below_drew1) | exact HB.out)))); have n1_ := m0 (Kd.Q_lower ho1 (below_size (by repeat (first | (with_reducible first | exact HB.out | apply below_alloc | apply pw_below_drewN | apply below_drew1) | exact HB.out)))); have n2_ := m0 (below_step (by repeat (first | (with_reducible first | exact HB.out | apply below_alloc | apply pw_below_drewN | apply below_drew1) | exact HB.out)) hb); clear HB; have HO524 := n0_; have HO526 := n1_; have HB := n2_; clear n0_ n1_ n2_; (try clear hb); (try clear hb2); (try clear hk); (try clear hi); (try clear ho0); (try clear ho1)))
 go_ret3
 exact ⟨_, _, by first | rfl | (simp [errW_none, errW_some] <;> rfl) | (simp [*, errW_none, errW_some] <;> rfl), by (with_reducible repeat (first | apply Kd.S_alloc | apply Kd.S_drewN | apply Kd.S_drew)); exact HO524.out, by (with_reducible repeat (first | apply Kd.Q_alloc | apply Kd.Q_drewN | apply Kd.Q_drew)); exact HO526.out, by repeat (first | (with_reducible first | exact HB.out | apply below_alloc | apply pw_below_drewN | apply below_drew1) | exact HB.out)⟩
end Go.Proofs.YtimbfcedigaffaaDoor.P
end
section
namespace Go.Proofs.YtimbfcedigaffaaDoor.Core
open Go Go.RowKit Go.Proofs.YtimbfcedigaffaaDoorW.PrintWords Go.Proofs.YtimbfcedigaffaaDoorW.PrintMore Go.Proofs.YtimbfcedigaffaaDoor.P
/-- A reader's state: few bytes, not far read. -/
def RS (s0 : List Int) (N p : Int) : Prop := s0.length ≤ 2000 ∧ (∀ x ∈ s0, 0 ≤ x ∧ x ≤ 255) ∧ 0 ≤ p ∧ p ≤ N ∧ N ≤ 100000
theorem RS.mono {s0 : List Int} {N M p : Int} (h : RS s0 N p) (hM : N ≤ M) (h2 : M ≤ 100000) : RS s0 M p := ⟨h.1, h.2.1, h.2.2.1, by have := h.2.2.2.1; omega, h2⟩
theorem rd_byte {s0 : List Int} {N p i : Int} (h : RS s0 N p) (h0 : 0 ≤ i) (h1 : i < (s0.length : Int)) : 0 ≤ rd s0 i ∧ rd s0 i ≤ 255 := by
 refine h.2.1 _ ?_
 unfold rd
 rw [List.getD_eq_getElem?_getD, List.getElem?_eq_getElem (by omega), Option.getD_some]
 exact List.getElem_mem _
/-- What pick answers. -/
def PickOk (n : Int) (s0 : List Int) (N : Int) (r : Int × Int) : Prop := (n < 1 → r.1 = 0) ∧ (1 ≤ n → 0 ≤ r.1 ∧ r.1 < n) ∧ RS s0 (N + 1) r.2
theorem ev_pick {s0 : List Int} {N p n : Int} (h : RS s0 N p) (hN : N < 100000) : EvP (fun k => spec_reader_pick.f k s0 p n) (PickOk n s0 N) := by
 obtain ⟨hl, hb, h0, h1, _⟩ := h
 have hp : wrap64 (p + 1) = p + 1 := w64 (by omega) (by omega)
 have hp1 : wrap64 (p + 1 - 1) = p := by rw [Int.add_sub_cancel]; exact w64 (by omega) (by omega)
 have hRS : RS s0 (N + 1) (p + 1) := ⟨hl, hb, by omega, by omega, by omega⟩
 have hz : EvP (fun k => spec_reader_pick.j0 k n true s0 (p + 1)) (fun r => r = (0, p + 1)) := by
  refine EvP.succ ?_
  simp only [spec_reader_pick.j0, if_true]
  exact EvP.ret rfl
 unfold spec_reader_pick.f
 rw [hp]
 refine EvP.ite (fun hn => hz.mono fun a e => ?_) (fun hn => ?_)
 ·subst e; exact ⟨fun _ => rfl, fun _ => by omega, hRS⟩
 by_cases he : s0.length = 0
 ·rw [show ((s0.length : Int) == 0) = true by simp [he]]
  exact hz.mono fun a e => by subst e; exact ⟨fun _ => rfl, fun _ => by omega, hRS⟩
 rw [show ((s0.length : Int) == 0) = false from beq_eq_false_iff_ne.2 (by omega)]
 refine EvP.succ ?_
 simp only [spec_reader_pick.j0, hp1, Bool.false_eq_true, if_false]
 refine EvP.ite (fun hlt => ?_) (fun hge => ?_)
 ·have hr := hb (rd s0 p) (by
   unfold rd
   rw [List.getD_eq_getElem?_getD, List.getElem?_eq_getElem (by omega), Option.getD_some]
   exact List.getElem_mem _)
  refine EvP.pos h0 (EvP.neg (by omega) (EvP.ret ?_))
  rw [w64 (n := rd s0 p) (by omega) (by omega)]
  exact ⟨fun _ => by omega, fun _ => tmod_lt hr.1 (by omega), hRS⟩
 ·have hpos : (0 : Int) < s0.length := by omega
  have hm1 := tmod_lt h0 hpos
  have h7 : wrap64 (p * 7) = p * 7 := w64 (by omega) (by omega)
  have h73 : wrap64 (p * 7 + 3) = p * 7 + 3 := w64 (by omega) (by omega)
  have hm2 := tmod_lt (a := p * 7 + 3) (by omega) hpos
  have hd := tdiv_le h0 hpos
  have hr1 := rd_byte ⟨hl, hb, h0, h1, by omega⟩ hm1.1 hm1.2
  have hr2 := rd_byte ⟨hl, hb, h0, h1, by omega⟩ hm2.1 hm2.2
  rw [h7, h73]
  refine EvP.neg (by omega) (EvP.pos hm1.1 (EvP.pos hm1.2 (EvP.pos hm2.1 (EvP.pos hm2.2 (EvP.neg (by omega) (EvP.ret ?_))))))
  generalize rd s0 (Int.tmod p s0.length) = x1 at *
  generalize rd s0 (Int.tmod (p * 7 + 3) s0.length) = x2 at *
  generalize Int.tdiv p s0.length = dd at *
  have e : wrap64 (wrap64 (wrap64 (wrap64 (wrap64 x1 * 131) + wrap64 (wrap64 x2 * 1117)) + wrap64 (p * 29)) + wrap64 (wrap64 dd * 53)) = x1 * 131 + x2 * 1117 + p * 29 + dd * 53 := by
   rw [w64 (n := x1) (by omega) (by omega), w64 (n := x2) (by omega) (by omega), w64 (n := dd) (by omega) (by omega), w64 (n := x1 * 131) (by omega) (by omega), w64 (n := x2 * 1117) (by omega) (by omega), w64 (n := x1 * 131 + x2 * 1117) (by omega) (by omega), w64 (n := p * 29) (by omega) (by omega), w64 (n := x1 * 131 + x2 * 1117 + p * 29) (by omega) (by omega), w64 (n := dd * 53) (by omega) (by omega), w64 (by omega) (by omega)]
  rw [e]
  generalize hy : x1 * 131 + x2 * 1117 + p * 29 + dd * 53 = y at *
  have hq := tdiv_le (a := y) (n := 64) (by omega) (by omega)
  rw [w64 (n := Int.tdiv y 64) (by omega) (by omega)]
  have hx := i64_xor y (Int.tdiv y 64) (by omega) (by omega) (by omega) (by omega)
  exact ⟨fun _ => by omega, fun _ => tmod_lt hx.1 (by omega), hRS⟩
theorem ev_one {s0 : List Int} {N p : Int} (h : RS s0 N p) (hN : N < 100000) (L : List Int) (hL : 0 < L.length) : EvP (fun k => spec_reader_one.f k s0 p L) (fun r => r.1 ∈ L ∧ RS s0 (N + 1) r.2) := by
 unfold spec_reader_one.f
 refine (ev_pick h hN).bind fun a ha => ?_
 have h2 := ha.2.1 (by omega)
 refine EvP.pos h2.1 (EvP.pos h2.2 (EvP.ret ⟨?_, ha.2.2⟩))
 show rd L a.1 ∈ L
 unfold rd
 rw [List.getD_eq_getElem?_getD, List.getElem?_eq_getElem (by omega), Option.getD_some]
 exact List.getElem_mem _
theorem ev_spoil {s0 : List Int} {N p : Int} (h : RS s0 N p) (hN : N + 2 < 100000) (L : List Int) (n : Int) (hL : L.length ≤ 10000) : EvP (fun k => spec_reader_spoil.f k s0 p L n) (fun r => r.1.length ≤ L.length + 1 ∧ RS s0 (N + 3) r.2) := by
 unfold spec_reader_spoil.f
 rw [show spec_copyInts.f L = some L from copyInts_eq (by unfold big; omega) (by omega)]
 refine EvP.sb ?_
 refine (ev_pick h (by omega)).bind fun a ha => ?_
 have hm := ha.2.2.mono (M := N + 3) (by omega) (by omega)
 refine EvP.ite (fun _ => EvP.pos (by omega) (EvP.ret ⟨by simp, hm⟩)) (fun _ => ?_)
 refine EvP.ite (fun _ => EvP.ite (fun h0 => EvP.pos (by omega) (EvP.ret ⟨by simp; omega, hm⟩)) (fun _ => EvP.ret ⟨by show L.length ≤ _; omega, hm⟩)) (fun _ => ?_)
 refine EvP.ite (fun _ => EvP.ite (fun h0 => ?_) (fun _ => EvP.ret ⟨by show L.length ≤ _; omega, hm⟩)) (fun _ => EvP.ret ⟨by show L.length ≤ _; omega, hm⟩)
 refine (ev_pick ha.2.2 (by omega)).bind fun b hb => ?_
 refine (ev_one hb.2.2 (by omega) _ (by simp)).bind fun c hc => ?_
 have h2 := hb.2.1 (by omega)
 exact EvP.pos h2.1 (EvP.pos h2.2 (EvP.ret ⟨by simp, hc.2.mono (by omega) (by omega)⟩))
/-- A graph of few tasks, whose lists of needs are short. -/
def GSmall (n m : Nat) (g : List Tk) : Prop := g.length ≤ n ∧ ∀ t ∈ g, t.f1.length ≤ m
theorem GSmall.fits {n m : Nat} {g : List Tk} (h : GSmall n m g) (hn : n < big) (hm : m < big) : Fits g := ⟨by have := h.1; omega, fun t ht => by have := h.2 t ht; omega⟩
theorem ev_turned_in (x0 : List Tk) (x3 : List Tk) (x4 x5 : Int) (f0 f2 f3 : Int) (L : List Int) (hL : L.length ≤ 10000) (R : List Tk → Prop) (hx3 : x3.length ≤ 100) (hk : ∀ L2 : List Int, L2.length = L.length → EvP (fun k => spec_turned.l0 k x0 (x3 ++ [⟨f0, L2, f2, f3⟩]) x4 (wrap64 (x5 - 1))) R) :
  ∀ (m : Nat) (x7 : List Int), m ≤ L.length → x7.length + m = L.length → EvP (fun k => spec_turned.l1 k x0 x3 x4 x5 x7 ((m : Int) - 1) f0 L f2 f3) R
 | 0, x7, _, h => by
  refine EvP.succ ?_
  simp only [spec_turned.l1]
  exact EvP.neg (by omega) (EvP.pos (by omega) (hk x7 (by omega)))
 | m + 1, x7, hm, h => by
  refine EvP.succ ?_
  simp only [spec_turned.l1]
  refine EvP.pos (by omega) (EvP.pos (by omega) (EvP.pos (by omega) (EvP.pos (by omega) ?_)))
  have := ev_turned_in x0 x3 x4 x5 f0 f2 f3 L hL R hx3 hk m (x7 ++ [wrap64 (x4 - rd L (((m + 1 : Nat) : Int) - 1))]) (by omega) (by simp; omega)
  rw [show wrap64 (((m + 1 : Nat) : Int) - 1 - 1) = (m : Int) - 1 by rw [w64 (by omega) (by omega)]; omega]
  exact this
theorem ev_turned {n m : Nat} {g : List Tk} (hg : GSmall n m g) (hn : n ≤ 100) (hm : m ≤ 10000) : EvP (fun k => spec_turned.f k g) (fun r => r.length = g.length ∧ GSmall n m r) := by
 have key : ∀ (j : Nat) (x3 : List Tk) (x4 : Int), j ≤ g.length → x3.length + j = g.length → (∀ t ∈ x3, t.f1.length ≤ m) → EvP (fun k => spec_turned.l0 k g x3 x4 ((j : Int) - 1)) (fun r => r.length = g.length ∧ GSmall n m r) := by
  intro j
  induction j with
  | zero =>
   intro x3 x4 hj hl ht
   refine EvP.succ ?_
   simp only [spec_turned.l0]
   exact EvP.neg (by omega) (EvP.ret ⟨by show x3.length = _; omega, by have := hg.1; show x3.length ≤ n; omega, ht⟩)
  | succ j ih =>
   intro x3 x4 hj hl ht
   have hgl := hg.1
   refine EvP.succ ?_
   simp only [spec_turned.l0]
   refine EvP.pos (by omega) (EvP.pos (by omega) (EvP.pos (by omega) ?_))
   have hmem : rd_T39 g (((j + 1 : Nat) : Int) - 1) ∈ g := by
    unfold rd_T39
    rw [List.getD_eq_getElem?_getD, List.getElem?_eq_getElem (by omega), Option.getD_some]
    exact List.getElem_mem _
   have hlen := hg.2 _ hmem
   generalize rd_T39 g (((j + 1 : Nat) : Int) - 1) = t at *
   rw [show wrap64 ((t.f1.length : Int) - 1) = (t.f1.length : Int) - 1 from w64 (by omega) (by omega)]
   refine ev_turned_in g x3 x4 (((j + 1 : Nat) : Int) - 1) t.f0 t.f2 t.f3 t.f1 (by omega) _ (by omega) (fun L2 h2 => ?_) t.f1.length [] (Nat.le_refl _) (by simp)
   rw [show wrap64 (((j + 1 : Nat) : Int) - 1 - 1) = (j : Int) - 1 by rw [w64 (by omega) (by omega)]; omega]
   refine ih _ _ (by omega) (by simp; omega) (fun u hu => ?_)
   rcases List.mem_append.1 hu with hu | hu
   ·exact ht u hu
   ·rw [List.mem_singleton.1 hu]; show L2.length ≤ m; omega
 have hgl := hg.1
 unfold spec_turned.f
 rw [show wrap64 ((g.length : Int) - 1) = (g.length : Int) - 1 from w64 (by omega) (by omega)]
 exact key g.length [] _ (Nat.le_refl _) (by simp) (by simp)
theorem ev_some_in (g : List Tk) (x6 : Int) (s0 : List Int) (f0 f2 f3 : Int) (N : Int) (hg : g.length ≤ 8) (hN : N + 8 < 100000) (R : List Tk × Int → Prop)
  (hk : ∀ (L : List Int) (p : Int), L.length ≤ 8 → RS s0 (N + 8) p → EvP (fun k => spec_someGraph.l0 k (g ++ [⟨f0, L, f2, f3⟩]) (wrap64 (x6 - 1)) s0 p) R) :
  ∀ (d i : Nat) (L : List Int) (p : Int), i + d = g.length → L.length ≤ i → RS s0 (N + i) p → EvP (fun k => spec_someGraph.l1 k g x6 (i : Int) s0 p f0 L f2 f3) R
 | 0, i, L, p, h, hL, hp => by
  refine EvP.succ ?_
  simp only [spec_someGraph.l1]
  exact EvP.neg (by omega) (EvP.pos (by omega) (hk L p (by omega) (hp.mono (by omega) (by omega))))
 | d + 1, i, L, p, h, hL, hp => by
  refine EvP.succ ?_
  simp only [spec_someGraph.l1]
  refine EvP.pos (by omega) ?_
  refine (ev_pick hp (by omega)).bind fun a ha => ?_
  have hp2 : RS s0 (N + ((i + 1 : Nat) : Int)) a.2 := ha.2.2.mono (by omega) (by omega)
  rw [show wrap64 ((i : Int) + 1) = ((i + 1 : Nat) : Int) by rw [w64 (by omega) (by omega)]; omega]
  refine EvP.ite (fun _ => EvP.pos (by omega) ?_) (fun _ => ?_)
  ·exact ev_some_in g x6 s0 f0 f2 f3 N hg hN R hk d (i + 1) _ _ (by omega) (by simp; omega) hp2
  ·exact ev_some_in g x6 s0 f0 f2 f3 N hg hN R hk d (i + 1) _ _ (by omega) (by omega) hp2
theorem ev_some_out (s0 : List Int) : ∀ (j : Nat) (g : List Tk) (N p : Int), g.length + j ≤ 8 → N + j * 11 + 1 < 100000 → (∀ t ∈ g, t.f1.length ≤ 8) → RS s0 N p →
  EvP (fun k => spec_someGraph.l0 k g (j : Int) s0 p) (fun r => GSmall 8 8 r.1 ∧ RS s0 (N + j * 11 + 1) r.2)
 | 0, g, N, p, hg, hN, ht, hp => by
  refine EvP.succ ?_
  simp only [spec_someGraph.l0]
  refine EvP.neg (by omega) ?_
  refine EvP.ite (fun h1 => ?_) (fun _ => EvP.ret ⟨⟨by show g.length ≤ 8; omega, ht⟩, hp.mono (by omega) (by omega)⟩)
  refine (ev_pick hp (by omega)).bind fun a ha => ?_
  refine EvP.ite (fun _ => ?_) (fun _ => EvP.ret ⟨⟨by show g.length ≤ 8; omega, ht⟩, ha.2.2.mono (by omega) (by omega)⟩)
  refine (ev_turned (n := 8) (m := 8) ⟨by omega, ht⟩ (by omega) (by omega)).bind fun r hr => ?_
  exact EvP.ret ⟨hr.2, ha.2.2.mono (by omega) (by omega)⟩
 | j + 1, g, N, p, hg, hN, ht, hp => by
  refine EvP.succ ?_
  simp only [spec_someGraph.l0]
  refine EvP.pos (by omega) ?_
  refine (ev_one hp (by omega) _ (by simp)).bind fun a ha => ?_
  refine (ev_pick ha.2 (by omega)).bind fun b hb => ?_
  refine (ev_pick hb.2.2 (by omega)).bind fun c hc => ?_
  refine ev_some_in g ((j + 1 : Nat) : Int) s0 a.1 b.1 (wrap64 (1 + c.1)) (N + 1 + 1 + 1) (by omega) (by omega) _ (fun L q hL hq => ?_) g.length 0 [] _ (by omega) (by simp) (hc.2.2.mono (by omega) (by omega))
  rw [show wrap64 (((j + 1 : Nat) : Int) - 1) = (j : Int) by rw [w64 (by omega) (by omega)]; omega]
  refine (ev_some_out s0 j _ (N + 11) q (by simp; omega) (by omega) (fun u hu => ?_) (hq.mono (by omega) (by omega))).mono fun r hr => ⟨hr.1, hr.2.mono (by omega) (by omega)⟩
  rcases List.mem_append.1 hu with hu | hu
  ·exact ht u hu
  ·rw [List.mem_singleton.1 hu]; exact hL
theorem ev_someGraph {s0 : List Int} {N p : Int} (h : RS s0 N p) (hN : N + 100 < 100000) (a : Int) (ha : 0 ≤ a) : EvP (fun k => spec_someGraph.f k s0 p a) (fun r => GSmall 8 8 r.1 ∧ RS s0 (N + 100) r.2) := by
 unfold spec_someGraph.f
 refine (ev_one h (by omega) _ (by simp)).bind fun b hb => ?_
 have hb8 : 0 ≤ mn a b.1 ∧ mn a b.1 ≤ 8 := by
  have := hb.1
  simp at this
  unfold mn
  split <;> omega
 generalize mn a b.1 = c at *
 obtain ⟨j, rfl⟩ := Int.eq_ofNat_of_zero_le hb8.1
 exact (ev_some_out s0 j [] (N + 1) b.2 (by simp; omega) (by omega) (by simp) hb.2).mono fun r hr => ⟨hr.1, hr.2.mono (by omega) (by omega)⟩
theorem lim_evP {α : Type} {f : Nat → Option α} {Q : α → Prop} (hm : ∀ k, LeO (f k) (f (k + 1))) (h : EvP f Q) : EvP (fun _ => lim f) Q := by
 obtain ⟨r, h, q⟩ := h
 obtain ⟨k, hk⟩ := h.one
 exact ⟨r, ⟨0, fun _ _ => lim_of hm hk⟩, q⟩
theorem rdT_small {n m : Nat} {g : List Tk} (h : GSmall n m g) {i : Int} (h0 : 0 ≤ i) (h1 : i < (g.length : Int)) : (rd_T39 g i).f1.length ≤ m := by
 refine h.2 _ ?_
 unfold rd_T39
 rw [List.getD_eq_getElem?_getD, List.getElem?_eq_getElem (by omega), Option.getD_some]
 exact List.getElem_mem _
theorem small_set {n m m2 : Nat} {g : List Tk} (h : GSmall n m g) (i : Nat) (t : Tk) (ht : t.f1.length ≤ m2) (hm : m ≤ m2) {n2 : Nat} (hn : n ≤ n2) : GSmall n2 m2 (g.set i t) := by
 refine ⟨by rw [List.length_set]; have := h.1; omega, fun u hu => ?_⟩
 rcases List.mem_or_eq_of_mem_set hu with h1 | h1
 ·have := h.2 u h1; omega
 ·rw [h1]; exact ht
theorem ev_anyGraph {s0 : List Int} {N p : Int} (h : RS s0 N p) (hN : N + 210 < 100000) : EvP (fun _ => spec_anyGraph.f s0 p) (fun r => GSmall 16 10 r.1 ∧ RS s0 (N + 210) r.2) := by
 unfold spec_anyGraph.f
 refine lim_evP (fun k => spec_anyGraph.mono s0 p k) ?_
 unfold spec_anyGraph.fk
 refine (ev_someGraph h (by omega) 8 (by omega)).bind fun a ha => ?_
 have hs : GSmall 16 10 a.1 := ⟨by have := ha.1.1; omega, fun t ht => by have := ha.1.2 t ht; omega⟩
 refine EvP.ite (fun _ => EvP.ret ⟨hs, ha.2.mono (by omega) (by omega)⟩) (fun hne => ?_)
 refine (ev_pick ha.2 (by omega)).bind fun b hb => ?_
 refine (ev_pick hb.2.2 (by omega)).bind fun c hc => ?_
 have hb2 := hb.2.1 (by omega)
 refine EvP.neg (fun hh => hh hb2) ?_
 have hl := rdT_small ha.1 hb2.1 hb2.2
 generalize rd_T39 a.1 b.1 = tk at hl
 refine EvP.ite (fun _ => (ev_one hc.2.2 (by omega) _ (by simp)).bind fun d hd => EvP.ret ⟨small_set ha.1 _ _ (by show tk.f1.length ≤ 10; omega) (by omega) (by omega), hd.2.mono (by omega) (by omega)⟩) (fun _ => ?_)
 refine EvP.ite (fun _ => ?_) (fun _ => ?_)
 ·refine (ev_pick hc.2.2 (by omega)).bind fun d hd => ?_
  refine EvP.pos (by omega) ?_
  refine (ev_spoil hd.2.2 (by omega) _ 8 (by simp; omega)).bind fun e he => ?_
  have := he.1
  simp only [List.length_append, List.length_cons, List.length_nil] at this
  exact EvP.ret ⟨small_set ha.1 _ _ (by show e.1.length ≤ 10; omega) (by omega) (by omega), he.2.mono (by omega) (by omega)⟩
 refine EvP.ite (fun _ => (ev_one hc.2.2 (by omega) _ (by simp)).bind fun d hd => EvP.ret ⟨small_set ha.1 _ _ (by show tk.f1.length ≤ 10; omega) (by omega) (by omega), hd.2.mono (by omega) (by omega)⟩) (fun _ => ?_)
 refine EvP.ite (fun _ => (ev_one hc.2.2 (by omega) _ (by simp)).bind fun d hd => EvP.ret ⟨small_set ha.1 _ _ (by show tk.f1.length ≤ 10; omega) (by omega) (by omega), hd.2.mono (by omega) (by omega)⟩) (fun _ => ?_)
 refine EvP.ite (fun _ => ?_) (fun _ => EvP.ret ⟨hs, hc.2.2.mono (by omega) (by omega)⟩)
 refine (ev_someGraph hc.2.2 (by omega) 8 (by omega)).bind fun d hd => ?_
 have h1 := ha.1.1
 have h2 := hd.1.1
 refine EvP.pos (by omega) (EvP.ret ⟨⟨by simp; omega, fun t ht => ?_⟩, hd.2.mono (by omega) (by omega)⟩)
 rcases List.mem_append.1 ht with ht | ht
 ·have := ha.1.2 t ht; omega
 ·have := hd.1.2 t ht; omega
/-- The bytes of a code. -/
def Bytes (l : List Int) : Prop := ∀ x ∈ l, (Lit.int .u8 x).wf = true
theorem byte_of_wf {x : Int} (h : (Lit.int .u8 x).wf = true) : 0 ≤ x ∧ x ≤ 255 := by
 simp only [Lit.wf, IntKind.min, IntKind.max, IntKind.signed, IntKind.bits, Bool.and_eq_true, decide_eq_true_eq] at h
 simp at h
 omega
theorem ev_newReader {l : List Int} (h : Bytes l) : EvP (fun _ => spec_newReader.f l) (fun r => RS r.1 0 r.2) := by
 have hb : ∀ x ∈ l, 0 ≤ x ∧ x ≤ 255 := fun x hx => byte_of_wf (h x hx)
 unfold spec_newReader.f
 refine EvP.ite (fun h1 => EvP.pos (by omega) (EvP.ret ⟨by simp; omega, fun x hx => hb x (List.mem_of_mem_take hx), by omega, by omega, by omega⟩)) (fun h1 => EvP.ret ⟨by show l.length ≤ 2000; omega, hb, by show (0 : Int) ≤ 0; omega, by show (0 : Int) ≤ 0; omega, by omega⟩)
end Go.Proofs.YtimbfcedigaffaaDoor.Core
end
section
namespace Go.Proofs.YtimbfcedigaffaaDoor.Core
open Go Go.RowKit Go.Proofs.YtimbfcedigaffaaDoorW.PrintWords Go.Proofs.YtimbfcedigaffaaDoorW.PrintMore Go.Proofs.YtimbfcedigaffaaDoor.P
theorem ev_someRoomA {s0 : List Int} {N p : Int} (h : RS s0 N p) (hN : N + 100 < 100000) : EvP (fun k => spec_someRoom.f k s0 p) (fun r => r.1.length ≤ 4 ∧ RS s0 (N + 100) r.2) := by
 unfold spec_someRoom.f
 refine (ev_one h (by omega) _ (by simp)).bind fun a ha => ?_
 refine (ev_one ha.2 (by omega) _ (by simp)).bind fun b hb => ?_
 refine (ev_one hb.2 (by omega) _ (by simp)).bind fun c hc => ?_
 refine (ev_spoil hc.2 (by omega) _ 9 (by simp)).bind fun d hd => ?_
 exact EvP.ret ⟨by simpa using hd.1, hd.2.mono (by omega) (by omega)⟩
end Go.Proofs.YtimbfcedigaffaaDoor.Core
end
section
namespace Go.Proofs.YtimbfcedigaffaaDoor.Core
open Go Go.RowKit Go.Proofs.YtimbfcedigaffaaDoorW.PrintWords Go.Proofs.YtimbfcedigaffaaDoorW.PrintMore Go.Proofs.YtimbfcedigaffaaDoor.P
theorem ev_smallGraph {s0 : List Int} {N p : Int} (h : RS s0 N p) (hN : N + 211 < 100000) : EvP (fun k => spec_smallGraph.f k s0 p) (fun r => GSmall 16 10 r.1 ∧ RS s0 (N + 211) r.2) := by
 unfold spec_smallGraph.f
 refine (ev_pick h (by omega) (n := 10)).bind fun a ha => EvP.ite (fun _ => ?_) (fun _ => ?_)
 ·refine (ev_anyGraph ha.2.2 (by omega)).bind fun b hb => EvP.ret ⟨hb.1, hb.2.mono (by omega) (by omega)⟩
 ·refine (ev_someGraph ha.2.2 (by omega) 5 (by omega)).bind fun b hb => EvP.ret ⟨⟨Nat.le_trans hb.1.1 (by decide), fun t ht => Nat.le_trans (hb.1.2 t ht) (by decide)⟩, hb.2.mono (by omega) (by omega)⟩
theorem ev_someWorkers {s0 : List Int} {N p : Int} (h : RS s0 N p) (hN : N < 100000) : EvP (fun k => spec_someWorkers.f k s0 p) (fun r => (0 ≤ r.1 ∧ r.1 ≤ 5) ∧ RS s0 (N + 1) r.2) := by
 unfold spec_someWorkers.f
 refine (ev_one h hN _ (by simp)).bind fun a ha => EvP.ret ⟨?_, ha.2⟩
 have := ha.1
 simp only [List.mem_cons, List.not_mem_nil, or_false] at this
 dsimp only
 omega
end Go.Proofs.YtimbfcedigaffaaDoor.Core
end
section
namespace Go.Proofs.YtimbfcedigaffaaDoor.Core
open Go Go.RowKit Go.Proofs.YtimbfcedigaffaaDoorW.PrintWords Go.Proofs.YtimbfcedigaffaaDoorW.PrintMore Go.Proofs.YtimbfcedigaffaaDoor.P
theorem ev_DrawBestOrder {l : List Int} (h : Bytes l) : EvP (fun k => spec_DrawBestOrder.f k l) (fun r => GSmall 16 10 r.1 ∧ r.2.1.length ≤ 4 ∧ 0 ≤ r.2.2 ∧ r.2.2 ≤ 5) := by
 unfold spec_DrawBestOrder.f
 refine (ev_newReader h).bind fun a ha => ?_
 refine (ev_smallGraph ha (by omega)).bind fun b hb => ?_
 refine (ev_someRoomA hb.2 (by omega)).bind fun c hc => ?_
 refine (ev_someWorkers hc.2 (by omega)).bind fun d hd => EvP.ret ⟨hb.1, hc.1, hd.1.1, hd.1.2⟩
theorem ev_DrawBestTime {l : List Int} (h : Bytes l) : EvP (fun k => spec_DrawBestTime.f k l) (fun r => GSmall 16 10 r.1 ∧ r.2.1.length ≤ 4 ∧ 0 ≤ r.2.2 ∧ r.2.2 ≤ 5) := by
 unfold spec_DrawBestTime.f
 exact (ev_DrawBestOrder h).bind fun b hb => EvP.ret hb
theorem tsum_le {g : List Tk} (ht : tm20 g) : ∀ R : List Nat, tsum g R ≤ 20 * R.length
 | [] => Nat.zero_le _
 | j :: R => by
  have h1 := tsum_le ht R
  have h2 := ht j
  rw [tsum, List.length_cons]
  omega
end Go.Proofs.YtimbfcedigaffaaDoor.Core
end
section
namespace Go.Proofs.YtimbfcedigaffaaDoor.Core
open Go Go.RowKit Go.Proofs.YtimbfcedigaffaaDoorW.PrintWords Go.Proofs.YtimbfcedigaffaaDoorW.PrintMore Go.Proofs.YtimbfcedigaffaaDoor.P
/-- Beginnings that agree on a set of tasks. -/
def AgreeOn (pl : Nat) (L M : List Nat) : Prop := ∀ k, pl.testBit k = true → L.getD k 0 = M.getD k 0
theorem endN_congr {g : List Tk} {pl : Nat} {L M : List Nat} (h : AgreeOn pl L M) {k : Nat} (hk : pl.testBit k = true) : endN g L k = endN g M k := by unfold endN; rw [h k hk]
theorem cntOf_congr {g : List Tk} {pl : Nat} {L M : List Nat} (h : AgreeOn pl L M) (t : Nat) : cntOf g L pl t = cntOf g M pl t := by
 have key : ∀ (ks : List Nat) (c : Cn), (∀ k ∈ ks, pl.testBit k = true) → ks.foldl (cntStep g L t) c = ks.foldl (cntStep g M t) c := by
  intro ks
  induction ks with
  | nil => intro c _; rfl
  | cons k ks ih =>
   intro c hk
   have h1 := hk k List.mem_cons_self
   have e : cntStep g L t c k = cntStep g M t c k := by
    unfold cntStep runsAt
    rw [h k h1, endN_congr h h1]
   rw [List.foldl_cons, List.foldl_cons, e]
   exact ih _ (fun k hk' => hk k (List.mem_cons_of_mem _ hk'))
 exact key _ _ (fun k hk => (mem_elemsN.1 hk).2)
theorem freeN_congr {g : List Tk} {pl i : Nat} {room : List Int} {wk : Int} {L M : List Nat} (h : AgreeOn pl L M) : ∀ (d t : Nat), freeN g L pl i room wk d t = freeN g M pl i room wk d t
 | 0, _ => rfl
 | d + 1, t => by
  show (freeB g L pl i room wk t && freeN g L pl i room wk d (t + 1)) = (freeB g M pl i room wk t && freeN g M pl i room wk d (t + 1))
  rw [freeN_congr h d (t + 1)]
  unfold freeB
  rw [cntOf_congr h t]
theorem earlN_congr {g : List Tk} {pl i : Nat} {room : List Int} {wk : Int} {L M : List Nat} (h : AgreeOn pl L M) : ∀ (f a : Nat), earlN g L pl i room wk f a = earlN g M pl i room wk f a
 | 0, _ => rfl
 | f + 1, a => by
  unfold earlN
  rw [freeN_congr h, earlN_congr h f (a + 1)]
theorem needEnd_congr {g : List Tk} {s pl : Nat} {L M : List Nat} (h : AgreeOn pl L M) (hs : ∀ k, s.testBit k = true → pl.testBit k = true) : needEnd g L s = needEnd g M s := by
 have key : ∀ (ks : List Nat) (a : Nat), (∀ k ∈ ks, pl.testBit k = true) → ks.foldl (eStep g L) a = ks.foldl (eStep g M) a := by
  intro ks
  induction ks with
  | nil => intro a _; rfl
  | cons k ks ih =>
   intro a hk
   have e : eStep g L a k = eStep g M a k := by unfold eStep; rw [endN_congr h (hk k List.mem_cons_self)]
   rw [List.foldl_cons, List.foldl_cons, e]
   exact ih _ (fun k hk' => hk k (List.mem_cons_of_mem _ hk'))
 exact key _ _ (fun k hk => hs k (mem_elemsN.1 hk).2)
theorem earlD_congr {g : List Tk} {s pl i : Nat} {room : List Int} {wk : Int} {L M : List Nat} (h : AgreeOn pl L M) (hs : ∀ k, s.testBit k = true → pl.testBit k = true) : earlD g L s pl i room wk = earlD g M s pl i room wk := by
 unfold earlD
 rw [needEnd_congr h hs, earlN_congr h]
theorem AgreeOn.refl (pl : Nat) (L : List Nat) : AgreeOn pl L L := fun _ _ => rfl
/-- One more task, in both. -/
theorem AgreeOn.set {pl x e : Nat} {L M : List Nat} (h : AgreeOn pl L M) (hl : L.length = M.length) (hx : x < L.length) : AgreeOn (pl ||| 2 ^ x) (L.set x e) (M.set x e) := by
 intro k hk
 rw [or_bit] at hk
 by_cases e1 : x = k
 ·subst e1
  rw [List.getD_eq_getElem?_getD, List.getElem?_set_self hx, List.getD_eq_getElem?_getD, List.getElem?_set_self (by omega)]
 ·rw [decide_eq_false e1, Bool.or_false] at hk
  rw [List.getD_eq_getElem?_getD, List.getElem?_set_ne e1, List.getD_eq_getElem?_getD, List.getElem?_set_ne e1, ← List.getD_eq_getElem?_getD, ← List.getD_eq_getElem?_getD]
  exact h k hk
theorem AgreeOn.trans {pl : Nat} {L M K : List Nat} (h : AgreeOn pl L M) (h2 : AgreeOn pl M K) : AgreeOn pl L K := fun k hk => (h k hk).trans (h2 k hk)
end Go.Proofs.YtimbfcedigaffaaDoor.Core
end
section
namespace Go.Proofs.YtimbfcedigaffaaDoor.Core
open Go Go.RowKit Go.Shelf Go.Proofs.YtimbfcedigaffaaDoorW.PrintWords Go.Proofs.YtimbfcedigaffaaDoorW.PrintLast Go.Proofs.YtimbfcedigaffaaDoorW.PrintMore Go.Proofs.YtimbfcedigaffaaDoor.P
attribute [local go_sem] Oper.semAt_some wide_fn wide_depth
theorem infoIntC : (Tryd.prog.info? 3).map (fun i => (i.zero, i.size, i.bytes)) = some (some (.int .i64 0), 1, 8) := by kernel_rfl
set_option maxRecDepth 100000 in
set_option maxHeartbeats 1000000 in
theorem clone_calls (A : Option Addr) (c : Nat) (xs : List Int) (w : World) (hC : Kd.C (Kd.int .i64) w A xs.length xs) (hl : xs.length ≤ 100) :
  Calls Tryd.prog 64 #[.slice A xs.length c] w fun e w' => ∃ v, e = .returned v ∧ (Kd.int .i64).R 3 w' w.heap.size (fun _ => True) v xs ∧ Below w.heap.size w w' := by
 have HC := m0 hC
 have HB := m0 (Below.refl w.heap.size w)
 cases A with
 | none =>
  have hx : xs = [] := by
   cases xs with
   | nil => rfl
   | cons y ys =>
    obtain ⟨ad, e, _⟩ := Kd.at_int hC 0 (by omega) (by rw [List.length_cons]; omega)
    cases e
  subst hx
  clear hC
  have hq := Lib.run_eql_slice_nil (P := Tryd.prog) w 23 3 none 0 c 0 0 Tryd.underlying23
  simp only [List.length_nil]
  go_enter Tryd.func64, Tryd.ntmps64
  go_wp2
  go_ret
  exact ⟨_, rfl, Kd.R_nil _ _ _ _ _, HB.out⟩
 | some ad =>
  clear hC
  have hq := Lib.run_eql_slice_nil (P := Tryd.prog) w 23 3 (some ad) xs.length c 0 0 Tryd.underlying23
  go_enter Tryd.func64, Tryd.ntmps64
  go_wp2_with (first | ((with_reducible refine gate_dst (N := 5) rfl ?_); refine Kd.R_lit (Kd.int .i64) _ 3 ?hg (N := 5) ?hd (xs := ([] : List Int)) (inner := []) (ok := fun _ => True) (okp := fun _ => True) ?hr ?hp (fun _ hk => hk) trivial (Below.refl _ _) (Nat.le_refl _) (by simp) ?_; (case hd => rfl); (case hg => rfl); (case hr => first | (go_simp; done) | (go_simp; rfl)); (case hp => exact (Reps.none _ _)); intro v134 w4 ho4 hb hg_ hnew_; clear hg_ hnew_; have HB4 := m0 (below_step HB.out hb); have HC4 := m0 (Kd.C_below HC.out hb); have HO4 := m0 (Kd.R_lower ho4 HB.out.size); clear HB HC hb ho4) | ((with_reducible refine gate_builtin (b := .append) (xs := #[.tmp 5, .tmp 6]) rfl ?_); at_builtin; refine Kd.R_append_rows (Kd.int .i64) (w0 := w) w.heap.size rfl (.tmp 5) (.tmp 6) 23 3 (.int .i64 0) 8 rfl Tryd.underlying23 infoIntC rfl (by decide) (by omega) _ [] xs _ _ _ (fun _ => True) (fun _ => False) rfl rfl ?aO ?aR (fun _ _ h => h) (fun _ h => h.elim) ?aF ?aB ?aS ?aL ?_; (case aR => exact HC4.out); (case aB => exact HB4.out); (case aF => exact (fun _ _ => trivial)); (case aO => exact HO4.out); (case aS => exact HB4.out.size); (case aL => simp; omega); intro v137 w5 ho hb hg hat; clear HB4 HO4 HC4; have HB5 := m0 hb; have HO5 := m0 ho; clear ho hb hg hat))
  go_ret
  exact ⟨_, rfl, by simpa using HO5.out, HB5.out⟩
end Go.Proofs.YtimbfcedigaffaaDoor.Core
end
section
namespace Go.Proofs.YtimbfcedigaffaaDoor.Core
open Go Go.RowKit Go.Shelf Go.Proofs.YtimbfcedigaffaaDoorW.PrintWords Go.Proofs.YtimbfcedigaffaaDoorW.PrintLast Go.Proofs.YtimbfcedigaffaaDoorW.PrintMore Go.Proofs.YtimbfcedigaffaaDoor.P
attribute [local go_sem] Oper.semAt_some wide_fn wide_depth max2_int max_two
/-- The search's cells. -/
structure SB (W : World) (q b : Nat) (A1 : Option Addr) (n1 c1 : Nat) (wk : Int) (p n : Nat) (lv bv : Value) (e : Int) (f : Bool) : Prop where
 row : W.heap[q]? = some (.cells #[.pointer (some ⟨b, 0, none⟩), .slice A1 n1 c1, .int .i64 wk, .slice (some ⟨p, 0, none⟩) n n, lv, bv, .int .i64 e, .bool f] 74 (0, 0))
theorem SB.c7 {W : World} {q b : Nat} {A1 : Option Addr} {n1 c1 : Nat} {wk : Int} {p n : Nat} {lv bv : Value} {e : Int} {f : Bool} (h : SB W q b A1 n1 c1 wk p n lv bv e f) : W.cell? ⟨q, 7, none⟩ = some (.bool f) := by simp [World.cell?, h.row]
theorem SB.c6 {W : World} {q b : Nat} {A1 : Option Addr} {n1 c1 : Nat} {wk : Int} {p n : Nat} {lv bv : Value} {e : Int} {f : Bool} (h : SB W q b A1 n1 c1 wk p n lv bv e f) : W.cell? ⟨q, 6, none⟩ = some (.int .i64 e) := by simp [World.cell?, h.row]
theorem SB.move {W W' : World} {q b : Nat} {A1 : Option Addr} {n1 c1 : Nat} {wk : Int} {p n : Nat} {lv bv : Value} {e : Int} {f : Bool} (h : SB W q b A1 n1 c1 wk p n lv bv e f) (hb : Below W.heap.size W W') : SB W' q b A1 n1 c1 wk p n lv bv e f := ⟨(hb.block _ (cells_lt h.row)).trans h.row⟩
set_option maxRecDepth 100000 in
set_option maxHeartbeats 4000000 in
/-- A branch that is cut. -/
theorem from_cut (q b : Nat) (A1 : Option Addr) (n1 c1 : Nat) (wk : Int) (p n : Nat) (lv bv : Value) (se : Int) (d : Nat) (e : Int) (w : World) (hS : SB w q b A1 n1 c1 wk p n lv bv se true) (hcut : se ≤ e) :
  Calls Tryd.prog 47 #[.pointer (some ⟨q, 0, none⟩), .int .u16 (d : Int), .int .i64 e] w fun r w' => r = .returned (.tuple #[]) ∧ Below w.heap.size w w' := by
 obtain ⟨W3, hW3⟩ : ∃ W3, W3 = ((w.alloc (.cells #[.pointer (some ⟨q, 0, none⟩)] 71)).alloc (.cells #[.int .u16 (d : Int)] 77)).alloc (.cells #[.int .i64 e] 3) := ⟨_, rfl⟩
 have B3 : Below w.heap.size w W3 := by rw [hW3]; exact (((Below.refl w.heap.size w).alloc (Nat.le_refl _) _).alloc (by simp) _).alloc (by simp; omega) _
 have x3 : Boxed W3 w.heap.size 71 (.pointer (some ⟨q, 0, none⟩)) := by rw [hW3]; exact ((Boxed.new w _ _).alloc _).alloc _
 have e3 : Boxed W3 (w.heap.size + 1 + 1) 3 (.int .i64 e) := by
  have h := Boxed.new ((w.alloc (.cells #[.pointer (some ⟨q, 0, none⟩)] 71)).alloc (.cells #[.int .u16 (d : Int)] 77)) 3 (.int .i64 e)
  rw [hW3]
  simpa using h
 have S3 := hS.move B3
 have HB := m0 B3
 have HX := m0 x3
 have HE := m0 e3
 have HS := m0 S3
 have HW := m0 hW3
 have hge : decide (e ≥ se) = true := decide_eq_true hcut
 clear B3 x3 e3 S3 hW3 hS hcut
 refine calls_marks Tryd.func47 rfl ?_
 simp only [Tryd.ntmps47, List.size_toArray, List.length_cons, List.length_nil, Nat.reduceAdd, Nat.reduceSub, Array.replicate_succ, Array.replicate_zero, List.push_toArray, List.append_toArray, List.nil_append, List.cons_append]
 go_wp2
 rw [← HW.out]
 refine wp_region_still_tail 11 rfl (by kernel_rfl) ?_
 change wpStill _ _ W3.drew (fun a' => wpList _ _ _ _ a' W3.drew) _ _
 have hdr : Below W3.heap.size W3 W3.drew := below_drew (Below.refl _ _)
 revert hdr
 generalize W3.drew = Wd
 intro hdr
 have hcx : Wd.cell? ⟨w.heap.size, 0, none⟩ = some (.pointer (some ⟨q, 0, none⟩)) := Boxed.cell ((hdr.block _ HX.out.lt).trans HX.out)
 have hce : Wd.cell? ⟨w.heap.size + 1 + 1, 0, none⟩ = some (.int .i64 e) := Boxed.cell ((hdr.block _ HE.out.lt).trans HE.out)
 have Sd := HS.out.move hdr
 have hc7 := Sd.c7
 have hc6 := Sd.c6
 have HB2 := m0 (below_step HB.out hdr)
 clear hdr Sd HB HX HE HS HW
 simp only [List.take_succ_cons, List.take_zero, List.drop_succ_cons, List.drop_zero]
 repeat still_step
 refine wpStill_nil ?_
 go_wp2
 refine leave_ret (Marks.nil w.heap.size Wd.heap.size Wd) (fun W => results_list (rs := []) rfl (by simp) .nil) ?_
 intro W' ht
 exact ⟨rfl, ht.below HB2.out (Nat.le_refl _) (Nat.le_refl _)⟩
end Go.Proofs.YtimbfcedigaffaaDoor.Core
end
section
namespace Go.Proofs.YtimbfcedigaffaaDoor.Core
open Go Go.RowKit Go.Shelf Go.Proofs.YtimbfcedigaffaaDoorW.PrintWords Go.Proofs.YtimbfcedigaffaaDoorW.PrintLast Go.Proofs.YtimbfcedigaffaaDoorW.PrintMore Go.Proofs.YtimbfcedigaffaaDoor.P
/-- What does not change: the world ahead of the search, the search's block, the graph's, the room's row, the workers, the beginnings' block, the number of tasks. -/
structure FK where
 w0 : World
 q : Nat
 b : Nat
 A1 : Option Addr
 n1 : Nat
 c1 : Nat
 wk : Int
 p : Nat
 n : Nat
 hq : w0.heap.size ≤ q
 hp : w0.heap.size ≤ p
 hqp : q ≠ p
/-- The search's cells, the beginnings M, the list, the best so far; P: where the list's row may lie. -/
structure FX (K : FK) (P : Nat → Prop) (W : World) (lst M : List Nat) (s : Option (List Int × Nat)) (lA : Option Addr) (lc : Nat) (bv : Value) (se : Int) : Prop where
 sb : SB W K.q K.b K.A1 K.n1 K.c1 K.wk K.p K.n (.slice lA lst.length lc) bv se s.isSome
 row : W.heap[K.p]? = some (.cells (icells M) 3 (0, 0))
 lst : (Kd.int .i64).R 3 W K.w0.heap.size (fun k => P k ∧ k ≠ K.q ∧ k ≠ K.p ∧ some k ≠ bv.ownBlock) (.slice lA lst.length lc) (up lst)
 best : ∀ o, s = some o → se = (o.2 : Int) ∧ (Kd.int .i64).R 3 W K.w0.heap.size (fun k => k ≠ K.q ∧ k ≠ K.p) bv o.1
 bown : ∀ k, bv.ownBlock = some k → k < W.heap.size
 len : M.length = K.n
 le : leB 100 M
 below : Below K.w0.heap.size K.w0 W
/-- A row of numbers, told of other blocks. -/
theorem R_ok {e : Nat} {w : World} {base : Nat} {ok ok' : Nat → Prop} {v : Value} {xs : List Int} (h : (Kd.int .i64).R e w base ok v xs) (hk : ∀ k, v.ownBlock = some k → ok' k) : (Kd.int .i64).R e w base ok' v xs := Kd.R_of_own (Kd.own_of_R h) hk
section
variable {K : FK} {P : Nat → Prop} {W W' : World} {lst M : List Nat} {s : Option (List Int × Nat)} {lA : Option Addr} {lc : Nat} {bv : Value} {se : Int}
theorem FX.size (h : FX K P W lst M s lA lc bv se) : K.w0.heap.size ≤ W.heap.size := h.below.size
theorem FX.qlt (h : FX K P W lst M s lA lc bv se) : K.q < W.heap.size := cells_lt h.sb.row
theorem FX.plt (h : FX K P W lst M s lA lc bv se) : K.p < W.heap.size := cells_lt h.row
theorem FX.move (h : FX K P W lst M s lA lc bv se) (hb : Below W.heap.size W W') : FX K P W' lst M s lA lc bv se :=
 ⟨h.sb.move hb, (hb.block _ (cells_lt h.row)).trans h.row, Kd.R_below h.lst hb, fun o ho => ⟨(h.best o ho).1, Kd.R_below (h.best o ho).2 hb⟩, fun k hk => Nat.lt_of_lt_of_le (h.bown k hk) hb.size, h.len, h.le, below_step h.below hb⟩
theorem FX.alloc (h : FX K P W lst M s lA lc bv se) (o : Obj) : FX K P (W.alloc o) lst M s lA lc bv se := h.move ((Below.refl W.heap.size W).alloc (Nat.le_refl _) o)
theorem FX.tame {B : Nat} (h : FX K P W lst M s lA lc bv se) (hB : K.w0.heap.size ≤ B) (ht : Tame B W W') : FX K P W' lst M s lA lc bv se :=
 ⟨⟨ht.cells h.sb.row⟩, ht.cells h.row, ht.R h.lst, fun o ho => ⟨(h.best o ho).1, ht.R (h.best o ho).2⟩, fun k hk => Nat.lt_of_lt_of_le (h.bown k hk) ht.size, h.len, h.le, ht.below h.below (Nat.le_refl _) hB⟩
/-- The list's row may lie elsewhere. -/
theorem FX.with (h : FX K P W lst M s lA lc bv se) {P' : Nat → Prop} (hp : ∀ k, k < W.heap.size → P k → P' k) : FX K P' W lst M s lA lc bv se :=
 ⟨h.sb, h.row, Kd.R_mono (Kd.R_bound h.lst) (fun k hk => ⟨hp k hk.2.2.1 hk.1.1, hk.1.2⟩), h.best, h.bown, h.len, h.le, h.below⟩
/-- A task's beginning is stored. -/
theorem FX.start (h : FX K P W lst M s lA lc bv se) (i x : Nat) (hx : x ≤ 100) : FX K P (W.setCell ⟨K.p, i, none⟩ (.int .i64 (x : Int))) lst (M.set i x) s lA lc bv se :=
 ⟨⟨(sother _ K.hqp).trans h.sb.row⟩, iset h.row i x, Kd.R_far h.lst (fun k hk => hk.2.2.1) _, fun o ho => ⟨(h.best o ho).1, Kd.R_far (h.best o ho).2 (fun k hk => hk.2) _⟩, fun k hk => by rw [show (W.setCell ⟨K.p, i, none⟩ (.int .i64 (x : Int))).heap.size = W.heap.size by simp [World.setCell]]; exact h.bown k hk, by rw [List.length_set]; exact h.len, leB_set h.le hx, h.below.setCell (p := ⟨K.p, i, none⟩) K.hp _⟩
/-- The list has got one more. -/
theorem FX.appended (h : FX K P W lst M s lA lc bv se) {W1 : World} {lA1 : Option Addr} {lc1 i : Nat}
  (hR : (Kd.int .i64).R 3 W1 K.w0.heap.size (fun k => P k ∧ k ≠ K.q ∧ k ≠ K.p ∧ some k ≠ bv.ownBlock) (.slice lA1 (lst.length + 1) lc1) (up lst ++ [(i : Int)])) (hg : W.grownBy W1 (Value.slice lA lst.length lc).ownBlock) (hb : Below K.w0.heap.size K.w0 W1) :
  FX K P (W1.setCell ⟨K.q, 4, none⟩ (.slice lA1 (lst.length + 1) lc1)) (lst ++ [i]) M s lA1 lc1 bv se := by
 have hne : ∀ k, (∀ j, (Value.slice lA lst.length lc).ownBlock = some j → j ≠ k) → k < W.heap.size → W1.heap[k]? = W.heap[k]? := fun k hk hl => hg.block k hl (fun e => hk k e.symm rfl)
 have hq := hne K.q (fun j hj => (h.lst.1 j hj).2.1) h.qlt
 have hp := hne K.p (fun j hj => (h.lst.1 j hj).2.2.1) h.plt
 have hsz : (W1.setCell ⟨K.q, 4, none⟩ (.slice lA1 (lst.length + 1) lc1)).heap.size = W1.heap.size := by simp [World.setCell]
 have hlen : (lst ++ [i]).length = lst.length + 1 := by simp
 refine ⟨⟨?_⟩, ?_, ?_, ?_, ?_, h.len, h.le, hb.setCell (p := ⟨K.q, 4, none⟩) K.hq _⟩
 ·rw [blk_set (hq.trans h.sb.row) 4 _, hlen]
  simp
 ·exact (sother _ (Ne.symm K.hqp)).trans (hp.trans h.row)
 ·rw [hlen, show up (lst ++ [i]) = up lst ++ [(i : Int)] by simp [up]]
  exact Kd.R_far hR (fun k hk => hk.2.1) _
 ·intro o ho
  have h2 := (h.best o ho).2
  refine ⟨(h.best o ho).1, Kd.R_far ?_ (fun k hk => hk.1) _⟩
  have h3 := R_ok h2 (ok' := fun k => (k ≠ K.q ∧ k ≠ K.p) ∧ some k ≠ (Value.slice lA lst.length lc).ownBlock) (fun k hk => ⟨h2.1 k hk, fun e => (h.lst.1 k e.symm).2.2.2 hk.symm⟩)
  exact Kd.R_mono (Kd.R_step h3 (fun k hk hl => hg.block k hl hk.2)) (fun k hk => hk.1)
 ·intro k hk
  rw [hsz]
  exact Nat.lt_of_lt_of_le (h.bown k hk) hg.size
/-- The list is cut back. -/
theorem FX.cut {i : Nat} (h : FX K P W (lst ++ [i]) M s lA lc bv se) : FX K P (W.setCell ⟨K.q, 4, none⟩ (.slice lA lst.length lc)) lst M s lA lc bv se := by
 have hsz : (W.setCell ⟨K.q, 4, none⟩ (.slice lA lst.length lc)).heap.size = W.heap.size := by simp [World.setCell]
 have hlen : (lst ++ [i]).length = lst.length + 1 := by simp
 refine ⟨⟨?_⟩, ?_, ?_, ?_, ?_, h.len, h.le, h.below.setCell (p := ⟨K.q, 4, none⟩) K.hq _⟩
 ·rw [blk_set h.sb.row 4 _]
  simp
 ·exact (sother _ (Ne.symm K.hqp)).trans h.row
 ·have h1 := h.lst
  rw [hlen, show up (lst ++ [i]) = up lst ++ [(i : Int)] by simp [up]] at h1
  have h0 := Kd.own_of_R h1
  rw [show (up lst ++ [(i : Int)]).length = lst.length + 1 by simp [up]] at h0
  have h2 := own_take (m := lst.length) h0 (by omega)
  have h3 : W.ownsRow K.w0.heap.size 3 1 (.slice lA lst.length lc) (up lst).length (encs (Value.int .i64) (up lst)) := by
   rw [up_length]
   have e1 : (encs (Value.int .i64) (up lst ++ [(i : Int)])).take (lst.length * 1) = encs (Value.int .i64) (up lst) := by
    rw [Nat.mul_one, encs, List.map_append, List.take_append_of_le_length (by simp [up]), List.take_of_length_le (by simp [up])]
    rfl
   rw [← e1]
   exact h2
  refine Kd.R_far (Kd.R_of_own h3 (fun k hk => h1.1 k ?_)) (fun k hk => hk.2.1) _
  rw [← hk]
  cases lA <;> rfl
 ·intro o ho
  exact ⟨(h.best o ho).1, Kd.R_far (h.best o ho).2 (fun k hk => hk.1) _⟩
 ·intro k hk
  rw [hsz]
  exact h.bown k hk
/-- A better order is stored. -/
theorem FX.found (h : FX K P W lst M s lA lc bv se) {W1 : World} {v : Value} {e : Nat} (hb : Below W.heap.size W W1) (hR : (Kd.int .i64).R 3 W1 W.heap.size (fun _ => True) v (up lst)) :
  FX K P (((W1.setCell ⟨K.q, 5, none⟩ v).setCell ⟨K.q, 6, none⟩ (.int .i64 (e : Int))).setCell ⟨K.q, 7, none⟩ (.bool true)) lst M (some (up lst, e)) lA lc v (e : Int) := by
 have h1 := h.move hb
 have hsz : (((W1.setCell ⟨K.q, 5, none⟩ v).setCell ⟨K.q, 6, none⟩ (.int .i64 (e : Int))).setCell ⟨K.q, 7, none⟩ (.bool true)).heap.size = W1.heap.size := by simp [World.setCell]
 refine ⟨⟨?_⟩, ?_, ?_, ?_, ?_, h.len, h.le, ((h1.below.setCell (p := ⟨K.q, 5, none⟩) K.hq _).setCell (p := ⟨K.q, 6, none⟩) K.hq _).setCell (p := ⟨K.q, 7, none⟩) K.hq _⟩
 ·rw [blk_set (blk_set (blk_set h1.sb.row 5 v) 6 _) 7 _]
  simp
 ·exact (sother _ (Ne.symm K.hqp)).trans ((sother _ (Ne.symm K.hqp)).trans ((sother _ (Ne.symm K.hqp)).trans h1.row))
 ·refine Kd.R_far (Kd.R_far (Kd.R_far (R_ok h1.lst (fun k hk => ?_)) (fun k hk => hk.2.1) _) (fun k hk => hk.2.1) _) (fun k hk => hk.2.1) _
  obtain ⟨a, b, c, _⟩ := h1.lst.1 k hk
  refine ⟨a, b, c, fun e2 => ?_⟩
  have e3 := Kd.R_base hR k e2.symm
  have e4 := Kd.R_lt h.lst k hk
  omega
 ·intro o ho
  cases ho
  refine ⟨rfl, ?_⟩
  have h4 := R_ok (Kd.R_lower hR h.below.size) (ok' := fun k => k ≠ K.q ∧ k ≠ K.p) (fun k hk => ⟨fun e2 => ?_, fun e2 => ?_⟩)
  ·exact Kd.R_far (Kd.R_far (Kd.R_far h4 (fun k hk => hk.1) _) (fun k hk => hk.1) _) (fun k hk => hk.1) _
  ·have e3 := Kd.R_base hR k hk
   have e4 := h.qlt
   omega
  ·have e3 := Kd.R_base hR k hk
   have e4 := h.plt
   omega
 ·intro k hk
  rw [hsz]
  exact Kd.R_lt hR k hk
end
/-- What a call of from leaves. -/
structure FromRes (K : FK) (P : Nat → Prop) (w w' : World) (lst L : List Nat) (d : Nat) (s : Option (List Int × Nat)) : Prop where
 ex : ∃ M lA lc bv se, FX K P w' lst M s lA lc bv se ∧ AgreeOn d L M
 others : KeepsOthers w w'
 keep : ∀ k, k < w.heap.size → k ≠ K.q → k ≠ K.p → ¬ P k → w'.heap[k]? = w.heap[k]?
end Go.Proofs.YtimbfcedigaffaaDoor.Core
end
section
namespace Go.Proofs.YtimbfcedigaffaaDoor.Core
open Go Go.RowKit Go.Shelf Go.Proofs.YtimbfcedigaffaaDoorW.PrintWords Go.Proofs.YtimbfcedigaffaaDoorW.PrintLast Go.Proofs.YtimbfcedigaffaaDoorW.PrintMore Go.Proofs.YtimbfcedigaffaaDoor.P
/-- Where the list's row may lie: apart from three blocks of the call's own. -/
def PF (P : Nat → Prop) (r : Nat) (k : Nat) : Prop := P k ∧ k ≠ r ∧ k ≠ r + 1 ∧ k ≠ r + 1 + 1
structure FJ (K : FK) (P : Nat → Prop) (w : World) (L : List Nat) (d e : Nat) (W : World) (lst M : List Nat) (s : Option (List Int × Nat)) (lA : Option Addr) (lc : Nat) (bv : Value) (se : Int) : Prop where
 fx : FX K (PF P w.heap.size) W lst M s lA lc bv se
 agree : AgreeOn d L M
 x : Boxed W w.heap.size 71 (.pointer (some ⟨K.q, 0, none⟩))
 pl : Boxed W (w.heap.size + 1) 77 (.int .u16 (d : Int))
 en : Boxed W (w.heap.size + 1 + 1) 3 (.int .i64 (e : Int))
 keep : ∀ k, k < w.heap.size → k ≠ K.q → k ≠ K.p → ¬ P k → W.heap[k]? = w.heap[k]?
 others : KeepsOthers w W
 base : K.w0.heap.size ≤ w.heap.size
 ql : K.q < w.heap.size
 pll : K.p < w.heap.size
section
variable {K : FK} {P : Nat → Prop} {w W W' : World} {L : List Nat} {d e : Nat} {lst M : List Nat} {s : Option (List Int × Nat)} {lA : Option Addr} {lc : Nat} {bv : Value} {se : Int}
theorem FJ.size (h : FJ K P w L d e W lst M s lA lc bv se) : w.heap.size ≤ W.heap.size := h.others.size
theorem FJ.move (h : FJ K P w L d e W lst M s lA lc bv se) (hb : Below W.heap.size W W') : FJ K P w L d e W' lst M s lA lc bv se :=
 ⟨h.fx.move hb, h.agree, (hb.block _ h.x.lt).trans h.x, (hb.block _ h.pl.lt).trans h.pl, (hb.block _ h.en.lt).trans h.en, fun k h1 h2 h3 h4 => (hb.block k (Nat.lt_of_lt_of_le h1 h.size)).trans (h.keep k h1 h2 h3 h4), h.others.trans (keepsOthers_below hb), h.base, h.ql, h.pll⟩
theorem FJ.alloc (h : FJ K P w L d e W lst M s lA lc bv se) (o : Obj) : FJ K P w L d e (W.alloc o) lst M s lA lc bv se := h.move ((Below.refl W.heap.size W).alloc (Nat.le_refl _) o)
theorem FJ.tame {B : Nat} (h : FJ K P w L d e W lst M s lA lc bv se) (hB : w.heap.size ≤ B) (ht : Tame B W W') : FJ K P w L d e W' lst M s lA lc bv se :=
 ⟨h.fx.tame (Nat.le_trans h.base hB) ht, h.agree, ht.boxed h.x, ht.boxed h.pl, ht.boxed h.en, fun k h1 h2 h3 h4 => (ht.block k (Nat.lt_of_lt_of_le h1 h.size) (.inl (by omega))).trans (h.keep k h1 h2 h3 h4),
 ⟨Nat.le_trans h.size ht.size, fun k o hk ho => by
   have hlt := (Array.getElem?_eq_some_iff.1 hk).1
   exact (ht.block k (Nat.lt_of_lt_of_le hlt h.size) (.inl (by omega))).trans (h.others.same k o hk ho)⟩, h.base, h.ql, h.pll⟩
theorem AgreeOn.keepset {d i x : Nat} {L M : List Nat} (h : AgreeOn d L M) (hi : d.testBit i = false) : AgreeOn d L (M.set i x) := by
 intro k hk
 have hne : i ≠ k := by
  intro e1
  subst e1
  rw [hi] at hk
  cases hk
 rw [List.getD_eq_getElem?_getD (l := M.set i x), List.getElem?_set_ne hne, ← List.getD_eq_getElem?_getD]
 exact h k hk
/-- One task more, in both. -/
theorem AgreeOn.more {d i v : Nat} {L M : List Nat} (h : AgreeOn d L (M.set i v)) (hl : i < L.length) (hm : i < M.length) : AgreeOn (d ||| 2 ^ i) (L.set i v) (M.set i v) := by
 intro k hk
 by_cases e1 : i = k
 ·subst e1
  rw [List.getD_eq_getElem?_getD, List.getElem?_set_self hl, List.getD_eq_getElem?_getD, List.getElem?_set_self hm]
 ·rw [or_bit, decide_eq_false e1, Bool.or_false] at hk
  rw [List.getD_eq_getElem?_getD, List.getElem?_set_ne e1, ← List.getD_eq_getElem?_getD]
  exact h k hk
theorem over_more {g : List Tk} {d i v B C : Nat} {L : List Nat} (h : overBy g L d B) (hl : i < L.length) (hv : v + tmN g i ≤ C) (hB : B ≤ C) : overBy g (L.set i v) (d ||| 2 ^ i) C := by
 intro k hk
 unfold endN
 by_cases e1 : i = k
 ·subst e1
  rw [List.getD_eq_getElem?_getD, List.getElem?_set_self hl, Option.getD_some]
  exact hv
 ·rw [or_bit, decide_eq_false e1, Bool.or_false] at hk
  have := h k hk
  unfold endN at this
  rw [List.getD_eq_getElem?_getD, List.getElem?_set_ne e1, ← List.getD_eq_getElem?_getD]
  omega
theorem FJ.start (h : FJ K P w L d e W lst M s lA lc bv se) (i x : Nat) (hx : x ≤ 100) (hi : d.testBit i = false) : FJ K P w L d e (W.setCell ⟨K.p, i, none⟩ (.int .i64 (x : Int))) lst (M.set i x) s lA lc bv se := by
 have hp := h.pll
 exact ⟨h.fx.start i x hx, h.agree.keepset hi, (sother _ (by omega)).trans h.x, (sother _ (by omega)).trans h.pl, (sother _ (by omega)).trans h.en, fun k h1 h2 h3 h4 => (sother _ h3).trans (h.keep k h1 h2 h3 h4), h.others.trans (KeepsOthers.setCell _ _ _), h.base, h.ql, h.pll⟩
theorem FJ.appended (h : FJ K P w L d e W lst M s lA lc bv se) {W1 : World} {lA1 : Option Addr} {lc1 i : Nat}
  (hR : (Kd.int .i64).R 3 W1 K.w0.heap.size (fun k => PF P w.heap.size k ∧ k ≠ K.q ∧ k ≠ K.p ∧ some k ≠ bv.ownBlock) (.slice lA1 (lst.length + 1) lc1) (up lst ++ [(i : Int)])) (hg : W.grownBy W1 (Value.slice lA lst.length lc).ownBlock) (hb : Below K.w0.heap.size K.w0 W1) :
  FJ K P w L d e (W1.setCell ⟨K.q, 4, none⟩ (.slice lA1 (lst.length + 1) lc1)) (lst ++ [i]) M s lA1 lc1 bv se := by
 have hq := h.ql
 have hne : ∀ k, ¬ PF P w.heap.size k → k < W.heap.size → W1.heap[k]? = W.heap[k]? := fun k hk hl => hg.block k hl (fun e1 => hk (h.fx.lst.1 k e1.symm).1)
 refine ⟨h.fx.appended hR hg hb, h.agree, (sother _ (by omega)).trans ((hne _ (fun hk => hk.2.1 rfl) h.x.lt).trans h.x), (sother _ (by omega)).trans ((hne _ (fun hk => hk.2.2.1 rfl) h.pl.lt).trans h.pl), (sother _ (by omega)).trans ((hne _ (fun hk => hk.2.2.2 rfl) h.en.lt).trans h.en), fun k h1 h2 h3 h4 => (sother _ h2).trans ((hne k (fun hk => h4 hk.1) (Nat.lt_of_lt_of_le h1 h.size)).trans (h.keep k h1 h2 h3 h4)), (h.others.trans (KeepsOthers.of_grownBy hg ?_)).trans (KeepsOthers.setCell _ _ _), h.base, h.ql, h.pll⟩
 intro j o ej hj
 obtain ⟨cs, t, hc⟩ := Kd.R_ownTyped h.fx.lst j ej
 rw [hc] at hj
 cases hj
 rfl
theorem FJ.call (h : FJ K P w L d e W lst M s lA lc bv se) {s' : Option (List Int × Nat)} {i v : Nat} (hi : d.testBit i = false) (hr : FromRes K (PF P w.heap.size) W W' lst (L.set i v) (d ||| 2 ^ i) s') :
  ∃ M' lA' lc' bv' se', FJ K P w L d e W' lst M' s' lA' lc' bv' se' := by
 obtain ⟨⟨M', lA', lc', bv', se', hx, ha⟩, ho, hk⟩ := hr
 have hq := h.ql
 have hp := h.pll
 refine ⟨M', lA', lc', bv', se', hx, fun k hdk => ?_, (hk _ h.x.lt (by omega) (by omega) (fun hk => hk.2.1 rfl)).trans h.x, (hk _ h.pl.lt (by omega) (by omega) (fun hk => hk.2.2.1 rfl)).trans h.pl, (hk _ h.en.lt (by omega) (by omega) (fun hk => hk.2.2.2 rfl)).trans h.en, fun k h1 h2 h3 h4 => (hk k (Nat.lt_of_lt_of_le h1 h.size) h2 h3 (fun h5 => h4 h5.1)).trans (h.keep k h1 h2 h3 h4), h.others.trans ho, h.base, h.ql, h.pll⟩
 have hne : i ≠ k := by
  intro e1
  subst e1
  rw [hi] at hdk
  cases hdk
 have h1 := ha k (by rw [or_bit, hdk]; rfl)
 rw [List.getD_eq_getElem?_getD, List.getElem?_set_ne hne, ← List.getD_eq_getElem?_getD] at h1
 exact h1
theorem FJ.cut {i : Nat} (h : FJ K P w L d e W (lst ++ [i]) M s lA lc bv se) : FJ K P w L d e (W.setCell ⟨K.q, 4, none⟩ (.slice lA lst.length lc)) lst M s lA lc bv se := by
 have hq := h.ql
 exact ⟨h.fx.cut, h.agree, (sother _ (by omega)).trans h.x, (sother _ (by omega)).trans h.pl, (sother _ (by omega)).trans h.en, fun k h1 h2 h3 h4 => (sother _ h2).trans (h.keep k h1 h2 h3 h4), h.others.trans (KeepsOthers.setCell _ _ _), h.base, h.ql, h.pll⟩
theorem FJ.res (h : FJ K P w L d e W lst M s lA lc bv se) : FromRes K P w W lst L d s :=
 ⟨⟨M, lA, lc, bv, se, h.fx.with (fun k _ hk => hk.1), h.agree⟩, h.others, h.keep⟩
theorem FJ.found (h : FJ K P w L d e W lst M s lA lc bv se) {W1 : World} {v : Value} (hb : Below W.heap.size W W1) (hR : (Kd.int .i64).R 3 W1 W.heap.size (fun _ => True) v (up lst)) :
  FJ K P w L d e (((W1.setCell ⟨K.q, 5, none⟩ v).setCell ⟨K.q, 6, none⟩ (.int .i64 (e : Int))).setCell ⟨K.q, 7, none⟩ (.bool true)) lst M (some (up lst, e)) lA lc v (e : Int) := by
 have hq := h.ql
 have h1 := h.move hb
 exact ⟨h.fx.found hb hR, h.agree, (sother _ (by omega)).trans ((sother _ (by omega)).trans ((sother _ (by omega)).trans h1.x)), (sother _ (by omega)).trans ((sother _ (by omega)).trans ((sother _ (by omega)).trans h1.pl)), (sother _ (by omega)).trans ((sother _ (by omega)).trans ((sother _ (by omega)).trans h1.en)), fun k h1' h2 h3 h4 => (sother _ h2).trans ((sother _ h2).trans ((sother _ h2).trans (h1.keep k h1' h2 h3 h4))), ((h1.others.trans (KeepsOthers.setCell _ _ _)).trans (KeepsOthers.setCell _ _ _)).trans (KeepsOthers.setCell _ _ _), h.base, h.ql, h.pll⟩
/-- At the beginning: three blocks more. -/
theorem FJ.new (h : FX K P w lst M s lA lc bv se) (ha : AgreeOn d L M) :
  FJ K P w L d e (((w.alloc (.cells #[.pointer (some ⟨K.q, 0, none⟩)] 71)).alloc (.cells #[.int .u16 (d : Int)] 77)).alloc (.cells #[.int .i64 (e : Int)] 3)) lst M s lA lc bv se := by
 have s1 : (w.alloc (.cells #[.pointer (some ⟨K.q, 0, none⟩)] 71)).heap.size = w.heap.size + 1 := by simp
 have s2 : ((w.alloc (.cells #[.pointer (some ⟨K.q, 0, none⟩)] 71)).alloc (.cells #[.int .u16 (d : Int)] 77)).heap.size = w.heap.size + 1 + 1 := by simp
 have b1 := Boxed.new (w.alloc (.cells #[.pointer (some ⟨K.q, 0, none⟩)] 71)) 77 (.int .u16 (d : Int))
 rw [s1] at b1
 have b2 := Boxed.new ((w.alloc (.cells #[.pointer (some ⟨K.q, 0, none⟩)] 71)).alloc (.cells #[.int .u16 (d : Int)] 77)) 3 (.int .i64 (e : Int))
 rw [s2] at b2
 have hB : Below w.heap.size w (((w.alloc (.cells #[.pointer (some ⟨K.q, 0, none⟩)] 71)).alloc (.cells #[.int .u16 (d : Int)] 77)).alloc (.cells #[.int .i64 (e : Int)] 3)) := (((Below.refl w.heap.size w).alloc (Nat.le_refl _) _).alloc (by simp) _).alloc (by simp; omega) _
 have hF : FX K (PF P w.heap.size) w lst M s lA lc bv se := h.with (fun k hk hp => ⟨hp, by omega, by omega, by omega⟩)
 exact ⟨hF.move hB, ha, ((Boxed.new w _ _).alloc _).alloc _, b1.alloc _, b2, fun k h1 _ _ _ => hB.block k h1, keepsOthers_below hB, h.below.size, h.qlt, h.plt⟩
end
end Go.Proofs.YtimbfcedigaffaaDoor.Core
end
section
namespace Go.Proofs.YtimbfcedigaffaaDoor.Core
open Go Go.RowKit Go.Shelf Go.Proofs.YtimbfcedigaffaaDoorW.PrintWords Go.Proofs.YtimbfcedigaffaaDoorW.PrintLast Go.Proofs.YtimbfcedigaffaaDoorW.PrintMore Go.Proofs.YtimbfcedigaffaaDoor.P
attribute [local go_sem] Oper.semAt_some wide_fn wide_depth
set_option maxRecDepth 100000 in
set_option maxHeartbeats 4000000 in
theorem ready_calls (b : Nat) (G : GD) (d : Nat) (w : World) (hg : IsG w b G) (ok : GOk G) (hd : d < 256) :
  Calls Tryd.prog 65 #[.pointer (some ⟨b, 0, none⟩), .int .u16 (d : Int)] w fun e w' => e = .returned (.int .u16 ((G.ready d : Nat) : Int)) ∧ w = w' := by
 obtain ⟨A, c, hc, _, hC⟩ := hg.needs
 have hC := m0 hC
 go_enter Tryd.func65, Tryd.ntmps65
 go_wp2
 go_loopg [5, 13] G.needs.length (fun kq v5 v13 w' => ∃ (i : Nat) (x : Int) (o : Int), v5 = .int .u16 o ∧ v13 = .int .i64 x ∧ Aside0 (i + kq = G.needs.length ∧ x = (i : Int) ∧ o = ((readyTo G.needs d i : Nat) : Int)) ∧ w = w')
 case atStart => exact ⟨0, 0, 0, rfl, rfl, ⟨by omega, rfl, rfl⟩, rfl⟩
 case round =>
  obtain ⟨i, x, o, rfl, rfl, hh, rfl⟩ := hrel
  by_cases hlt : i < G.needs.length
  ·have p0 : 0 ≤ x := by have := hh.out.2.1; omega
   have q0 : x < (G.needs.length : Int) := by have := hh.out.2.1; omega
   have hlt0 : decide (x < (G.needs.length : Int)) = true := decide_eq_true q0
   obtain ⟨ad, e0, hx0⟩ := Kd.at_int hC.out x p0 q0
   subst e0
   rw [rd_up (i := i) hh.out.2.1] at hx0
   have h8 : G.needs.length ≤ 8 := by have := ok.n8; have := ok.nl; omega
   have hNi : G.needs.getD i 0 < 256 := Nat.lt_of_lt_of_le (getD_lt ok.nb i) (pow8 ok.n8)
   have hA := andNot_eq hNi hd
   have hW := readyTo_lt G.needs d i
   have hstep : readyTo G.needs d (i + 1) = if d.testBit i = false ∧ sub (G.needs.getD i 0) d = 0 then readyTo G.needs d i ||| 2 ^ i else readyTo G.needs d i := rfl
   have hB := has_calls d i hd (by omega) w
   have hWc := with_calls (readyTo G.needs d i) i (Nat.lt_of_lt_of_le hW (Nat.le_trans (Nat.pow_le_pow_right (by omega) (show i ≤ 8 by omega)) (by decide))) (by omega) w
   rw [← hh.out.2.2, ← hh.out.2.1] at hWc
   rw [← hh.out.2.1] at hB
   generalize G.needs.getD i 0 = s at hx0 hA hstep
   generalize hbb : d.testBit i = bb at hB hstep
   generalize hz : sub s d = z0 at hA hstep
   generalize hz2 : ((z0 : Nat) : Int) = z at hA
   generalize hr1 : readyTo G.needs d i ||| 2 ^ i = r1 at hWc hstep
   replace p0 := eq_true p0
   replace q0 := eq_true q0
   have HS := m0 hstep
   have HZ := m0 hz2
   have HL := m0 hlt
   clear hstep hbb hz hz2 hr1 hlt hW
   have hz01 : z = 0 ∨ z ≠ 0 := by omega
   cases bb with
   | true =>
    go_wp2_with (go_at_call 76; refine hB.mono ?_; rintro e w' ⟨rfl, rfl⟩)
    go_roundg (G.needs.length - (i + 1))
    case measure => have := hh.out.1; have := HL.out; omega
    case rel =>
     have h1 := hh.out; have := HL.out
     refine ⟨i + 1, _, _, rfl, rfl, ⟨by omega, by rw [h1.2.1]; unfold wrap64; omega, by rw [HS.out, h1.2.2]; simp⟩, rfl⟩
   | false =>
    rcases hz01 with rfl | hz0
    ·go_wp2_with (first | (go_at_call 76; refine hB.mono ?_; rintro e w' ⟨rfl, rfl⟩) | (go_at_call 68; refine hWc.mono ?_; rintro e w' ⟨rfl, rfl⟩))
     go_roundg (G.needs.length - (i + 1))
     case measure => have := hh.out.1; have := HL.out; omega
     case rel =>
      have h1 := hh.out; have := HL.out
      have hz3 : z0 = 0 := by have := HZ.out; omega
      refine ⟨i + 1, _, _, rfl, rfl, ⟨by omega, by rw [h1.2.1]; unfold wrap64; omega, by rw [HS.out, hz3]; simp⟩, rfl⟩
    ·have hz4 : (z == 0) = false := beq_eq_false_iff_ne.2 hz0
     go_wp2_with (first | (go_at_call 76; refine hB.mono ?_; rintro e w' ⟨rfl, rfl⟩) | (go_at_call 68; refine hWc.mono ?_; rintro e w' ⟨rfl, rfl⟩))
     go_roundg (G.needs.length - (i + 1))
     case measure => have := hh.out.1; have := HL.out; omega
     case rel =>
      have h1 := hh.out; have := HL.out
      have hz3 : z0 ≠ 0 := by have := HZ.out; omega
      refine ⟨i + 1, _, _, rfl, rfl, ⟨by omega, by rw [h1.2.1]; unfold wrap64; omega, by rw [HS.out, h1.2.2]; simp [hz3]⟩, rfl⟩
  ·have hlt0 : decide (x < (G.needs.length : Int)) = false := by have := hh.out; simp; omega
   have hi : i = G.needs.length := by have := hh.out; omega
   have ho := hh.out.2.2
   go_wp2
   go_ret
   refine ⟨?_, rfl⟩
   rw [ho, hi]
   rfl
end Go.Proofs.YtimbfcedigaffaaDoor.Core
end
section
namespace Go.Proofs.YtimbfcedigaffaaDoor.Core
open Go Go.RowKit Go.Shelf Go.Proofs.YtimbfcedigaffaaDoorW.PrintWords Go.Proofs.YtimbfcedigaffaaDoorW.PrintLast Go.Proofs.YtimbfcedigaffaaDoorW.PrintMore Go.Proofs.YtimbfcedigaffaaDoor.P
attribute [local go_sem] Oper.semAt_some wide_fn wide_depth max2_int max_two
/-- What is known of the search all the time. -/
structure FG (K : FK) (G : GD) (room : List Int) : Prop where
 tab : Tab K.w0
 g : IsG K.w0 K.b G
 ok : GOk G
 task : ∀ t ∈ G.tasks, taskOk t
 pool : ∀ t ∈ G.tasks, 0 ≤ t.f2 ∧ t.f2 ≤ 2
 fine : Fine G.tasks room K.wk
 n : K.n = G.tasks.length
 n5 : G.tasks.length ≤ 5
 r3 : room.length = 3
 rc : Kd.C (Kd.int .i64) K.w0 K.A1 room.length room
 n1 : K.n1 = room.length
 c1 : room.length ≤ K.c1
set_option maxRecDepth 100000 in
set_option maxHeartbeats 8000000 in
theorem from_calls (K : FK) (G : GD) (room : List Int) (F : FG K G room) : ∀ k, ∀ (P : Nat → Prop) (lst L M : List Nat) (d e : Nat) (s : Option (List Int × Nat)) (lA : Option Addr) (lc : Nat) (bv : Value) (se : Int) (w : World), K.n < lst.length + k → lst.length ≤ K.n → FX K P w lst M s lA lc bv se → (∀ j, w.heap.size ≤ j → P j) → AgreeOn d L M → L.length = K.n → d < 2 ^ K.n → overBy G.tasks L d (20 * lst.length) → e ≤ 20 * lst.length →
  Calls Tryd.prog 47 #[.pointer (some ⟨K.q, 0, none⟩), .int .u16 (d : Int), .int .i64 (e : Int)] w fun r w' => r = .returned (.tuple #[]) ∧ FromRes K P w w' lst L d (fromF G.tasks G.needs room K.wk k lst L d e s) := by
 intro k
 induction k with
 | zero => exact fun _ _ _ _ _ _ _ _ _ _ _ _ h1 h2 _ _ _ _ _ _ _ => absurd h1 (by omega)
 | succ k ih0 =>
  intro P lst L M d e s lA lc bv se w hk1 hln hX hP hA hLl hd2 hov he
  have ih := Lib.hid ih0
  clear ih0
  by_cases hcut : cutB s e = true
  ·-- a branch that is cut
   have hres : fromF G.tasks G.needs room K.wk (k + 1) lst L d e s = s := by unfold fromF; rw [if_pos hcut]
   rw [hres]
   cases s with
   | none => cases hcut
   | some o =>
    have hle : o.2 ≤ e := of_decide_eq_true hcut
    refine (from_cut K.q K.b K.A1 K.n1 K.c1 K.wk K.p K.n _ bv se d e w hX.sb (by rw [(hX.best o rfl).1]; omega)).mono ?_
    rintro r w' ⟨hr, hB⟩
    exact ⟨hr, ⟨⟨M, lA, lc, bv, se, hX.move hB, hA⟩, keepsOthers_below hB, fun k h _ _ _ => hB.block k h⟩⟩
  have h8 : G.tasks.length ≤ 8 := F.ok.n8
  have h256 := pow8 h8
  have hd256 : d < 256 := Nat.lt_of_lt_of_le (by rw [← F.n]; exact hd2) h256
  obtain ⟨RES, hRES⟩ : ∃ R, R = fromF G.tasks G.needs room K.wk (k + 1) lst L d e s := ⟨_, rfl⟩
  rw [← hRES]
  unfold fromF at hRES
  rw [if_neg hcut] at hRES
  obtain ⟨W3, hW3⟩ : ∃ W3, W3 = ((w.alloc (.cells #[.pointer (some ⟨K.q, 0, none⟩)] 71)).alloc (.cells #[.int .u16 (d : Int)] 77)).alloc (.cells #[.int .i64 (e : Int)] 3) := ⟨_, rfl⟩
  have J3 : FJ K P w L d e W3 lst M s lA lc bv se := by rw [hW3]; exact FJ.new hX hA
  have HJ := m0 J3
  have HW := m0 hW3
  have HRES := m0 hRES
  have HBEST := m0 hX.best
  have HF := m0 F
  have HP := m0 hP
  have HOV := m0 (show overBy G.tasks L d (20 * lst.length) ∧ L.length = K.n ∧ d < 2 ^ K.n ∧ e ≤ 20 * lst.length ∧ K.n < lst.length + (k + 1) ∧ lst.length ≤ K.n ∧ d < 256 from ⟨hov, hLl, hd2, he, hk1, hln, hd256⟩)
  have HIH := m0 ih.out
  have HQX := m0 (show w.heap.size ≠ K.q ∧ w.heap.size + 1 + 1 ≠ K.q from ⟨by have := J3.ql; omega, by have := J3.ql; omega⟩)
  have hge : s.isSome = true → decide ((e : Int) ≥ se) = false := by
   intro hs
   obtain ⟨o, rfl⟩ := Option.isSome_iff_exists.1 hs
   rw [(hX.best o rfl).1]
   refine decide_eq_false (fun h => hcut (decide_eq_true ?_))
   omega
  have HGE := m0 hge
  clear J3 hW3 hRES hX F hP hA hov hLl hd2 he hk1 hln ih hd256 hge hcut
  refine calls_marks Tryd.func47 rfl ?_
  simp only [Tryd.ntmps47, List.size_toArray, List.length_cons, List.length_nil, Nat.reduceAdd, Nat.reduceSub, Array.replicate_succ, Array.replicate_zero, List.push_toArray, List.append_toArray, List.nil_append, List.cons_append]
  go_wp2
  rw [← HW.out]
  refine wp_region_still_tail 11 rfl (by kernel_rfl) ?_
  change wpStill _ _ W3.drew (fun a' => wpList _ _ _ _ a' W3.drew) _ _
  have hdr : Below W3.heap.size W3 W3.drew := below_drew (Below.refl _ _)
  revert hdr
  generalize W3.drew = Wd
  intro hdr
  have HJ2 := m0 (HJ.out.move hdr)
  clear hdr HJ HW
  simp only [List.take_succ_cons, List.take_zero, List.drop_succ_cons, List.drop_zero]
  rename_i Q0 K1 a1 K0 a0
  have key : ∀ v7 v8 v9 v10 v11 v12 v13 v14 v15 v16 v17 v18 : Value, K1 { tmps := #[.pointer (some ⟨K.q, 0, none⟩), .int .u16 (d : Int), .int .i64 (e : Int), .pointer (some ⟨w.heap.size, 0, none⟩), .pointer (some ⟨w.heap.size + 1, 0, none⟩), .pointer (some ⟨w.heap.size + 1 + 1, 0, none⟩), undef, v7, v8, v9, v10, v11, v12, v13, v14, v15, v16, v17, v18, undef, undef, undef, undef, undef, undef, undef, undef, undef, undef, undef, undef, undef, undef, undef, undef, undef, undef, undef, undef, undef, undef, undef, undef, undef, undef, undef, undef, undef, undef, undef, undef, undef, undef, undef, undef, undef, undef, undef, undef, undef, undef, undef, undef, undef, undef, undef, undef, undef, undef, undef, undef, undef, undef, undef, undef, undef, undef, undef, undef, undef, undef, undef, undef, undef, undef, undef, undef, undef, undef, undef, undef, undef, undef, undef, undef, undef, undef, undef, undef, undef, undef, undef, undef, undef, undef, undef, undef, undef, undef, undef, undef, undef, undef, undef, undef, undef, undef, undef, undef, undef, undef, undef, undef, undef, undef, undef, undef, undef], defers := [] } Wd := by
   intro v7 v8 v9 v10 v11 v12 v13 v14 v15 v16 v17 v18
   refine a1 _ _ ?_
   go_wp2
   refine wp_region_still_tail 10 rfl (by kernel_rfl) ?_
   change wpStill _ _ Wd.drew (fun a' => wpList _ _ _ _ a' Wd.drew) _ _
   have hdr : Below Wd.heap.size Wd Wd.drew := below_drew (Below.refl _ _)
   revert hdr
   generalize Wd.drew = We
   intro hdr
   have HJ3 := m0 (HJ2.out.move hdr)
   clear hdr
   have hcx := HJ3.out.x.cell
   have hc4 : We.cell? ⟨K.q, 4, none⟩ = some (.slice lA lst.length lc) := by simp [World.cell?, HJ3.out.fx.sb.row]
   have hc0 : We.cell? ⟨K.q, 0, none⟩ = some (.pointer (some ⟨K.b, 0, none⟩)) := by simp [World.cell?, HJ3.out.fx.sb.row]
   have hsz : Calls Tryd.prog 46 #[.pointer (some ⟨K.b, 0, none⟩)] We (fun e w'' => e = .returned (.int .i64 (G.tasks.length : Int)) ∧ w'' = We) := (size_calls K.b G We (HF.out.g.move HJ3.out.fx.below)).mono (fun _ _ h => ⟨h.1, h.2.symm⟩)
   have HSZ := m0 hsz
   clear hsz
   simp only [List.take_succ_cons, List.take_zero, List.drop_succ_cons, List.drop_zero]
   iterate 9 still_step
   still_call HSZ.out
   refine wpStill_nil ?_
   have hnn : G.needs.length = K.n := by have := HF.out.ok.nl; have := HF.out.n; omega
   have hnt : G.tasks.length = K.n := HF.out.n.symm
   by_cases hfull : lst.length = K.n
   ·have heq : ((lst.length : Int) == (G.tasks.length : Int)) = true := beq_iff_eq.2 (by rw [hfull, hnt])
    have hrs := HRES.out
    rw [hnn, if_pos hfull] at hrs
    replace HRES := m0 hrs
    have HJ4 := m0 (HJ3.out.move (below_drew (Below.refl _ _)))
    have hcl := clone_calls lA lc (up lst) We.drew (Kd.R_reads' (by simpa [up_length] using HJ4.out.fx.lst)).2.2 (by rw [up_length]; have := HF.out.n5; omega)
    rw [up_length] at hcl
    have HCL := m0 hcl
    have hc4 : We.drew.cell? ⟨K.q, 4, none⟩ = some (.slice lA lst.length lc) := by simp [World.cell?, HJ4.out.fx.sb.row]
    clear hrs hcl hnn hnt hfull
    go_wp2
    clear heq hcx hc0
    refine wp_normal ?_
    refine start_ (n := 18) (S := fun w' => w'.cell? ⟨w.heap.size, 0, none⟩ = some (.pointer (some ⟨K.q, 0, none⟩)) ∧ w'.cell? ⟨w.heap.size + 1 + 1, 0, none⟩ = some (.int .i64 (e : Int)) ∧ w'.cell? ⟨K.q, 4, none⟩ = some (.slice lA lst.length lc)) (ds := []) #[F6q,F6q,F6q,F6q,F6q,F6q,F6q,F6q,F6q,F6q,F6q,F6q,F6q,F6q,F6q,F6q,F6q,F6q] rfl (by kernel_rfl) rfl ⟨HJ4.out.x.cell, HJ4.out.en.cell, hc4⟩ (fun hHeld => ?_)
    clear hc4
    revert hHeld HJ4 HCL
    generalize We.drew = Wf
    intro HJ4 HCL hHeld
    refine take_ (i := 0) (N := some 30) (v := ?_) (a' := ?_) #[T6q,F6q,F6q,F6q,F6q,F6q,F6q,F6q,F6q,F6q,F6q,F6q,F6q,F6q,F6q,F6q,F6q,F6q] rfl rfl (by kernel_rfl) (fun _ _ _ h => h) (Or.inl ⟨by rfl, ?_⟩) hHeld ?_ ?_
    rotate_left
    ·rintro w' ⟨s0, s1, s2⟩
     go_simp
     with_reducible rfl
    rotate_left
    ·simp only [Act.put, sIA, sC0, sCS, i64_w, i32_w]
     rfl
    refine take_ (i := 1) (N := some 31) (v := ?_) (a' := ?_) #[T6q,T6q,F6q,F6q,F6q,F6q,F6q,F6q,F6q,F6q,F6q,F6q,F6q,F6q,F6q,F6q,F6q,F6q] rfl rfl (by kernel_rfl) (fun _ _ _ h => h) (Or.inl ⟨by rfl, ?_⟩) hHeld ?_ ?_
    rotate_left
    ·rintro w' ⟨s0, s1, s2⟩
     go_simp
     with_reducible rfl
    rotate_left
    ·simp only [Act.put, sIA, sC0, sCS, i64_w, i32_w]
     rfl
    refine take_ (i := 2) (N := some 32) (v := ?_) (a' := ?_) #[T6q,T6q,T6q,F6q,F6q,F6q,F6q,F6q,F6q,F6q,F6q,F6q,F6q,F6q,F6q,F6q,F6q,F6q] rfl rfl (by kernel_rfl) (fun _ _ _ h => h) (Or.inl ⟨by rfl, ?_⟩) hHeld ?_ ?_
    rotate_left
    ·rintro w' ⟨s0, s1, s2⟩
     go_simp
     with_reducible rfl
    rotate_left
    ·simp only [Act.put, sIA, sC0, sCS, i64_w, i32_w]
     rfl
    refine take_ (i := 3) (N := some 33) (v := ?_) (a' := ?_) #[T6q,T6q,T6q,T6q,F6q,F6q,F6q,F6q,F6q,F6q,F6q,F6q,F6q,F6q,F6q,F6q,F6q,F6q] rfl rfl (by kernel_rfl) (fun _ _ _ h => h) (Or.inl ⟨by rfl, ?_⟩) hHeld ?_ ?_
    rotate_left
    ·rintro w' ⟨s0, s1, s2⟩
     go_simp
     with_reducible rfl
    rotate_left
    ·simp only [Act.put, sIA, sC0, sCS, i64_w, i32_w]
     rfl
    refine pure_ (i := 4) (N := some 34) (v := ?_) (a' := ?_) #[T6q,T6q,T6q,T6q,T6q,F6q,F6q,F6q,F6q,F6q,F6q,F6q,F6q,F6q,F6q,F6q,F6q,F6q] rfl rfl (by kernel_rfl) (fun _ _ _ h => h) (Or.inl ⟨by rfl, ?_⟩) ?_ ?_
    rotate_left
    ·intro w'
     go_simp
     with_reducible rfl
    rotate_left
    ·simp only [Act.put, sIA, sC0, sCS, i64_w, i32_w]
     rfl
    refine pure_ (i := 5) (N := some 35) (v := ?_) (a' := ?_) #[T6q,T6q,T6q,T6q,T6q,T6q,F6q,F6q,F6q,F6q,F6q,F6q,F6q,F6q,F6q,F6q,F6q,F6q] rfl rfl (by kernel_rfl) (fun _ _ _ h => h) (Or.inl ⟨by rfl, ?_⟩) ?_ ?_
    rotate_left
    ·intro w'
     go_simp
     with_reducible rfl
    rotate_left
    ·simp only [Act.put, sIA, sC0, sCS, i64_w, i32_w]
     rfl
    refine take_ (i := 6) (N := some 36) (v := ?_) (a' := ?_) #[T6q,T6q,T6q,T6q,T6q,T6q,T6q,F6q,F6q,F6q,F6q,F6q,F6q,F6q,F6q,F6q,F6q,F6q] rfl rfl (by kernel_rfl) (fun _ _ _ h => h) (Or.inl ⟨by rfl, ?_⟩) hHeld ?_ ?_
    rotate_left
    ·rintro w' ⟨s0, s1, s2⟩
     go_simp
     with_reducible rfl
    rotate_left
    ·simp only [Act.put, sIA, sC0, sCS, i64_w, i32_w]
     rfl
    refine take_ (i := 8) (N := some 38) (v := ?_) (a' := ?_) #[T6q,T6q,T6q,T6q,T6q,T6q,T6q,F6q,T6q,F6q,F6q,F6q,F6q,F6q,F6q,F6q,F6q,F6q] rfl rfl (by kernel_rfl) (fun _ _ _ h => h) (Or.inl ⟨by rfl, ?_⟩) hHeld ?_ ?_
    rotate_left
    ·rintro w' ⟨s0, s1, s2⟩
     go_simp
     with_reducible rfl
    rotate_left
    ·simp only [Act.put, sIA, sC0, sCS, i64_w, i32_w]
     rfl
    refine one_ (i := 7) (N := some 37) #[T6q,T6q,T6q,T6q,T6q,T6q,T6q,T6q,T6q,F6q,F6q,F6q,F6q,F6q,F6q,F6q,F6q,F6q] rfl rfl (by kernel_rfl) (by decide) (fun K_ hK => ?_)
    refine goes_ Tryd.func64 (by kernel_rfl) rfl #[.slice lA lst.length lc] (by rfl) rfl rfl (by (try simp only [List.map_toArray, List.map_cons, List.map_nil]); rfl) ?_
    refine (HCL.out).mono ?_
    rintro e_ w5 ⟨vc, rfl, hRv, hb5⟩
    obtain ⟨Ac, cc, ec⟩ := Kd.R_slice hRv
    subst ec
    refine ⟨_, rfl, ?_⟩
    have hHeld5 : w5.cell? ⟨w.heap.size, 0, none⟩ = some (.pointer (some ⟨K.q, 0, none⟩)) ∧ w5.cell? ⟨w.heap.size + 1 + 1, 0, none⟩ = some (.int .i64 (e : Int)) ∧ w5.cell? ⟨K.q, 4, none⟩ = some (.slice lA lst.length lc) := ⟨(hb5.cell (World.block_lt_of_cell? _ _ hHeld.1)).trans hHeld.1, (hb5.cell (World.block_lt_of_cell? _ _ hHeld.2.1)).trans hHeld.2.1, (hb5.cell (World.block_lt_of_cell? _ _ hHeld.2.2)).trans hHeld.2.2⟩
    refine hK.out _ _ hHeld5 (fun hHeld => ?_)
    clear hK K_ hHeld5
    refine norm_ (a' := ?_) ?_ ?_
    rotate_left
    ·show Act.put _ (some 37) _ = _
     simp only [Act.put, sIA, sC0, sCS, i64_w, i32_w]
     rfl
    have hj5 := HJ4.out.fx.move hb5
    have q5 := hj5.sb.row
    have HFD := m0 (HJ4.out.found hb5 hRv)
    have hqx := HQX.out
    refine pure_ (i := 9) (N := some 39) (v := ?_) (a' := ?_) #[T6q,T6q,T6q,T6q,T6q,T6q,T6q,T6q,T6q,T6q,F6q,F6q,F6q,F6q,F6q,F6q,F6q,F6q] rfl rfl (by kernel_rfl) (fun _ _ _ h => h) (Or.inl ⟨by rfl, ?_⟩) ?_ ?_
    rotate_left
    ·intro w'
     go_simp
     with_reducible rfl
    rotate_left
    ·simp only [Act.put, sIA, sC0, sCS, i64_w, i32_w]
     rfl
    refine pure_ (i := 10) (N := some 40) (v := ?_) (a' := ?_) #[T6q,T6q,T6q,T6q,T6q,T6q,T6q,T6q,T6q,T6q,T6q,F6q,F6q,F6q,F6q,F6q,F6q,F6q] rfl rfl (by kernel_rfl) (fun _ _ _ h => h) (Or.inl ⟨by rfl, ?_⟩) ?_ ?_
    rotate_left
    ·intro w'
     go_simp
     with_reducible rfl
    rotate_left
    ·simp only [Act.put, sIA, sC0, sCS, i64_w, i32_w]
     rfl
    refine one_ (i := 11) (N := none) #[T6q,T6q,T6q,T6q,T6q,T6q,T6q,T6q,T6q,T6q,T6q,T6q,F6q,F6q,F6q,F6q,F6q,F6q] rfl rfl (by kernel_rfl) (by decide) (fun K_ hK => ?_)
    refine skip_ (w1 := ?_) (by rfl) rfl ?_ ?_
    rotate_left
    ·have hcq : (w5).cell? ⟨K.q, 5, none⟩ = some bv := by simp [World.cell?, q5]
     have hfq : (w5).frozen? ⟨K.q, 5, none⟩ = false := by simp [World.frozen?, q5]
     go_simp
     rfl
    refine hK.out _ _ ?hs11 (fun hHeld => ?_)
    case hs11 =>
     exact ⟨(World.cell?_of_block (a := ⟨w.heap.size, 0, none⟩) (sother _ hqx.1)).trans hHeld.1, (World.cell?_of_block (a := ⟨w.heap.size + 1 + 1, 0, none⟩) (sother _ hqx.2)).trans hHeld.2.1, by rw [World.cell?, blk_set q5 5 _]; simp⟩
    clear hK K_
    have q6 := blk_set q5 5 (.slice Ac (up lst).length cc)
    simp only [sIA, sC0, sCS] at q6
    obtain ⟨w6, hw6⟩ : ∃ W_, W_ = (w5).setCell ⟨K.q, 5, none⟩ (.slice Ac (up lst).length cc) := ⟨_, rfl⟩
    rw [← hw6] at hHeld q6 ⊢
    have Hw6 := m0 hw6
    clear hw6
    refine pure_ (i := 12) (N := some 41) (v := ?_) (a' := ?_) #[T6q,T6q,T6q,T6q,T6q,T6q,T6q,T6q,T6q,T6q,T6q,T6q,T6q,F6q,F6q,F6q,F6q,F6q] rfl rfl (by kernel_rfl) (fun _ _ _ h => h) (Or.inl ⟨by rfl, ?_⟩) ?_ ?_
    rotate_left
    ·intro w'
     go_simp
     with_reducible rfl
    rotate_left
    ·simp only [Act.put, sIA, sC0, sCS, i64_w, i32_w]
     rfl
    refine pure_ (i := 13) (N := some 42) (v := ?_) (a' := ?_) #[T6q,T6q,T6q,T6q,T6q,T6q,T6q,T6q,T6q,T6q,T6q,T6q,T6q,T6q,F6q,F6q,F6q,F6q] rfl rfl (by kernel_rfl) (fun _ _ _ h => h) (Or.inl ⟨by rfl, ?_⟩) ?_ ?_
    rotate_left
    ·intro w'
     go_simp
     with_reducible rfl
    rotate_left
    ·simp only [Act.put, sIA, sC0, sCS, i64_w, i32_w]
     rfl
    refine one_ (i := 14) (N := none) #[T6q,T6q,T6q,T6q,T6q,T6q,T6q,T6q,T6q,T6q,T6q,T6q,T6q,T6q,T6q,F6q,F6q,F6q] rfl rfl (by kernel_rfl) (by decide) (fun K_ hK => ?_)
    refine skip_ (w1 := ?_) (by rfl) rfl ?_ ?_
    rotate_left
    ·have hcq : (w6).cell? ⟨K.q, 6, none⟩ = some (.int .i64 se) := by simp [World.cell?, q6]
     have hfq : (w6).frozen? ⟨K.q, 6, none⟩ = false := by simp [World.frozen?, q6]
     go_simp
     rfl
    refine hK.out _ _ ?hs14 (fun hHeld => ?_)
    case hs14 =>
     exact ⟨(World.cell?_of_block (a := ⟨w.heap.size, 0, none⟩) (sother _ hqx.1)).trans hHeld.1, (World.cell?_of_block (a := ⟨w.heap.size + 1 + 1, 0, none⟩) (sother _ hqx.2)).trans hHeld.2.1, by rw [World.cell?, blk_set q6 6 _]; simp⟩
    clear hK K_
    have q7 := blk_set q6 6 (.int .i64 (e : Int))
    simp only [sIA, sC0, sCS] at q7
    obtain ⟨w7, hw7⟩ : ∃ W_, W_ = (w6).setCell ⟨K.q, 6, none⟩ (.int .i64 (e : Int)) := ⟨_, rfl⟩
    rw [← hw7] at hHeld q7 ⊢
    have Hw7 := m0 hw7
    clear hw7
    refine pure_ (i := 15) (N := some 43) (v := ?_) (a' := ?_) #[T6q,T6q,T6q,T6q,T6q,T6q,T6q,T6q,T6q,T6q,T6q,T6q,T6q,T6q,T6q,T6q,F6q,F6q] rfl rfl (by kernel_rfl) (fun _ _ _ h => h) (Or.inl ⟨by rfl, ?_⟩) ?_ ?_
    rotate_left
    ·intro w'
     go_simp
     with_reducible rfl
    rotate_left
    ·simp only [Act.put, sIA, sC0, sCS, i64_w, i32_w]
     rfl
    refine pure_ (i := 16) (N := some 44) (v := ?_) (a' := ?_) #[T6q,T6q,T6q,T6q,T6q,T6q,T6q,T6q,T6q,T6q,T6q,T6q,T6q,T6q,T6q,T6q,T6q,F6q] rfl rfl (by kernel_rfl) (fun _ _ _ h => h) (Or.inl ⟨by rfl, ?_⟩) ?_ ?_
    rotate_left
    ·intro w'
     go_simp
     with_reducible rfl
    rotate_left
    ·simp only [Act.put, sIA, sC0, sCS, i64_w, i32_w]
     rfl
    refine one_ (i := 17) (N := none) #[T6q,T6q,T6q,T6q,T6q,T6q,T6q,T6q,T6q,T6q,T6q,T6q,T6q,T6q,T6q,T6q,T6q,T6q] rfl rfl (by kernel_rfl) (by decide) (fun K_ hK => ?_)
    refine skip_ (w1 := ?_) (by rfl) rfl ?_ ?_
    rotate_left
    ·have hcq : (w7).cell? ⟨K.q, 7, none⟩ = some (.bool s.isSome) := by simp [World.cell?, q7]
     have hfq : (w7).frozen? ⟨K.q, 7, none⟩ = false := by simp [World.frozen?, q7]
     go_simp
     rfl
    refine hK.out _ _ ?hs17 (fun hHeld => ?_)
    case hs17 =>
     exact ⟨(World.cell?_of_block (a := ⟨w.heap.size, 0, none⟩) (sother _ hqx.1)).trans hHeld.1, (World.cell?_of_block (a := ⟨w.heap.size + 1 + 1, 0, none⟩) (sother _ hqx.2)).trans hHeld.2.1, by rw [World.cell?, blk_set q7 7 _]; simp⟩
    clear hK K_
    have q8 := blk_set q7 7 (.bool true)
    simp only [sIA, sC0, sCS] at q8
    obtain ⟨w8, hw8⟩ : ∃ W_, W_ = (w7).setCell ⟨K.q, 7, none⟩ (.bool true) := ⟨_, rfl⟩
    rw [← hw8] at hHeld q8 ⊢
    have Hw8 := m0 hw8
    clear hw8
    refine done_ (by kernel_rfl) ?_
    have hfd := HFD.out
    rw [← Hw6.out, ← Hw7.out, ← Hw8.out] at hfd
    have HFD2 := m0 hfd
    clear hfd q5 q6 q7 q8 hj5 hqx Hw6 Hw7 Hw8 HFD
    go_wp2
    refine leave_ret (Marks.nil w.heap.size w.heap.size w8) (fun W => results_list (rs := []) rfl (by simp) .nil) ?_
    intro W' ht
    refine ⟨rfl, ?_⟩
    rw [HRES.out]
    exact (HFD2.out.tame (Nat.le_refl _) ht).res
   ·have heq : ((lst.length : Int) == (G.tasks.length : Int)) = false := beq_eq_false_iff_ne.2 (by rw [hnt]; omega)
    have hrs := HRES.out
    rw [if_neg (by rw [hnn]; exact hfull), ← elemsN_ready (by rw [hnn, ← hnt]; exact h8)] at hrs
    obtain ⟨stp, hstp⟩ : ∃ f : Option (List Int × Nat) → Nat → Option (List Int × Nat), f = (fun s i => fromF G.tasks G.needs room K.wk k (lst ++ [i]) (L.set i (earlD G.tasks L (G.needs.getD i 0) d i room K.wk)) (d ||| 2 ^ i) (max e (earlD G.tasks L (G.needs.getD i 0) d i room K.wk + tmN G.tasks i)) s) := ⟨_, rfl⟩
    rw [← hstp] at hrs
    replace HRES := m0 hrs
    have HSTP := m0 hstp
    have HNN := m0 (show G.needs.length = K.n ∧ G.tasks.length = K.n ∧ lst.length < K.n from ⟨hnn, hnt, by have := HOV.out; omega⟩)
    clear hrs hstp hnn hnt hfull hc4
    go_wp2
    clear heq hcx hc0
    refine wp_region_still_tail 6 rfl (by kernel_rfl) ?_
    change wpStill _ _ We.drew (fun a' => wpList _ _ _ _ a' We.drew) _ _
    have hdr : Below We.heap.size We We.drew := below_drew (Below.refl _ _)
    revert hdr
    generalize We.drew = Wf
    intro hdr
    have HJ4 := m0 (HJ3.out.move hdr)
    clear hdr
    have hcx := HJ4.out.x.cell
    have hcp := HJ4.out.pl.cell
    have hc0 : Wf.cell? ⟨K.q, 0, none⟩ = some (.pointer (some ⟨K.b, 0, none⟩)) := by simp [World.cell?, HJ4.out.fx.sb.row]
    have hrc := (ready_calls K.b G d Wf (HF.out.g.move HJ4.out.fx.below) HF.out.ok HOV.out.2.2.2.2.2.2).mono (R' := fun e w' => e = .returned (.int .u16 ((G.ready d : Nat) : Int)) ∧ w' = Wf) (fun _ _ h => ⟨h.1, h.2.symm⟩)
    have hrl : G.ready d < 256 := Nat.lt_of_lt_of_le (ready_lt G d) (by rw [HNN.out.1, ← HNN.out.2.1]; exact h256)
    generalize hr_ : G.ready d = rd at hrc hrl HRES
    have HRC := m0 hrc
    have HR := m0 hr_
    clear hrc hr_
    simp only [List.take_succ_cons, List.take_zero, List.drop_succ_cons, List.drop_zero]
    iterate 5 still_step
    still_call HRC.out
    refine wpStill_nil ?_
    clear hcx hcp hc0
    go_wp2_with (go_at_call 66; refine (all_calls rd _).mono ?_; rintro e_ w' ⟨rfl, rfl⟩)
    have hst := Boxed.new Wf 77 (.int .u16 (rd : Int))
    have J5 := HJ4.out.alloc (.cells #[.int .u16 (rd : Int)] 77)
    have hs5 : (Wf.alloc (.cells #[.int .u16 (rd : Int)] 77)).heap.size = Wf.heap.size + 1 := by simp
    revert hst J5 hs5
    generalize Wf.alloc (.cells #[.int .u16 (rd : Int)] 77) = w4
    intro hst J5 hs5
    have hle : w.heap.size ≤ w4.heap.size := J5.size
    refine wp_rangeSet Tab.tame (w := w4) (w0 := w4) (p := 52) (d := 6) rfl (enters_of Tryd.func77 (by kernel_rfl) rfl)
     (all_seq Wf.heap.size rd hrl w4 (HF.out.tab.of J5.fx.below) hst.cell) (Below.refl _ _) (by simp)
     (fun ys W' => ∃ zs M' lA' lc' bv' se', ys = up zs ∧ FJ K P w L d e W' lst M' (zs.foldl stp s) lA' lc' bv' se' ∧ w4.heap.size ≤ W'.heap.size) (fun _ _ _ => False)
     (ownFrom_tame (fun ys W' W'' ht ⟨zs, M', lA', lc', bv', se', a, j, f⟩ => ⟨zs, M', lA', lc', bv', se', a, j.tame hle ht, Nat.le_trans f ht.size⟩)) (fun _ => ownFrom_tame (fun _ _ _ _ h => h))
     ⟨[], M, lA, lc, bv, se, rfl, J5, Nat.le_refl _⟩ (fun ys W' ⟨_, _, _, _, _, _, _, j, _⟩ => HF.out.tab.of j.fx.below) ?body ?done (fun _ _ _ _ _ h _ => h.elim)
    case done =>
     rintro D W2 hD ⟨zs, M', lA', lc', bv', se', hzs, J6, hsz⟩ hk
     obtain rfl : elemsN rd = zs := up_inj hzs
     have hm := (Marks.nil w.heap.size w4.heap.size W2).cons hD hle hk
     clear hzs hk
     go_wp2
     refine leave_ret hm (fun W => results_list (rs := []) rfl (by simp) .nil) ?_
     intro W' ht
     refine ⟨rfl, ?_⟩
     rw [HRES.out]
     exact (J6.tame (Nat.le_refl _) ht).res
    case body =>
     rintro l pre1 x W1 hx ⟨zs, M1, lA1, lc1, bv1, se1, rfl, J1, hsz⟩ hlt1
     gi_wp2
     obtain ⟨i, hxi, hi8, hib⟩ := mem_elems.1 hx
     have hmr := (mem_ready (G := G) (d := d) (i := i) (by have := HNN.out.1; have := HF.out.n5; have := HNN.out.2.1; omega)).1 (mem_elemsN.2 ⟨hi8, by rw [HR.out]; exact hib⟩)
     obtain ⟨hin, hdi, hz⟩ := hmr
     have hnd8 : G.needs.getD i 0 < 256 := Nat.lt_of_lt_of_le (getD_lt HF.out.ok.nb i) h256
     have hsubs := sub_none hnd8 HOV.out.2.2.2.2.2.2 hz
     have hinG : i < G.tasks.length := by have := HNN.out.1; have := HNN.out.2.1; omega
     have hovM : overBy G.tasks M1 d (20 * lst.length) := fun k_ hk_ => by rw [← endN_congr J1.agree hk_]; exact HOV.out.1 k_ hk_
     have hB : 20 * lst.length ≤ 100 := by have := HF.out.n5; have := HNN.out.2.1; have := HNN.out.2.2; omega
     obtain ⟨hv1, -, -, hfr⟩ := earlD_le HF.out.fine hinG hovM (by omega) hsubs
     have hcg := earlD_congr (g := G.tasks) (i := i) (room := room) (wk := K.wk) J1.agree hsubs
     have hst1 : (zs ++ [i]).foldl stp s = stp (zs.foldl stp s) i := by rw [List.foldl_append]; rfl
     have hst2 : stp (zs.foldl stp s) i = fromF G.tasks G.needs room K.wk k (lst ++ [i]) (L.set i (earlD G.tasks L (G.needs.getD i 0) d i room K.wk)) (d ||| 2 ^ i) (max e (earlD G.tasks L (G.needs.getD i 0) d i room K.wk + tmN G.tasks i)) (zs.foldl stp s) := by rw [HSTP.out]
     have hecall := fun (W : World) (hB_ : Below K.w0.heap.size K.w0 W) (hrw : W.heap[K.p]? = some (.cells (icells M1) 3 (0, 0))) => earliest_calls K.b G d i M1 (some ⟨K.p, 0, none⟩) K.n K.A1 K.c1 room K.wk (20 * lst.length - needEnd G.tasks M1 (G.needs.getD i 0)) W (HF.out.tab.of hB_) (HF.out.g.move hB_) HF.out.ok HF.out.task HF.out.pool hinG (J1.fx.len.trans HF.out.n) (leB_mono J1.fx.le (by omega)) (Kd.R_reads' (icells_R (base := 0) (Nat.zero_le _) hrw J1.fx.len (by have := HF.out.n5; have := HNN.out.2.1; omega))).2.2 HF.out.r3 (Kd.C_below HF.out.rc hB_) HF.out.c1 (by have := HOV.out.2.2.1; rw [HNN.out.2.1]; exact this) (by omega) hfr
     rw [J1.fx.len, ← HF.out.n1] at hecall
     rw [hcg] at hst2
     generalize earlD G.tasks M1 (G.needs.getD i 0) d i room K.wk = v at hecall hst2 hv1
     have htm := tm_int HF.out.task hinG
     have hwith := fun W => with_calls d i HOV.out.2.2.2.2.2.2 hi8 W
     have hor : d ||| 2 ^ i < 2 ^ K.n := Nat.or_lt_two_pow HOV.out.2.2.1 (Nat.pow_lt_pow_right (by omega) (by have := HNN.out.2.1; omega))
     have hit : ((i : Nat) : Int).toNat = i := Int.toNat_natCast i
     have p1 : (0 ≤ ((i : Nat) : Int)) = True := eq_true (by omega)
     have q1 : (((i : Nat) : Int) < (K.n : Int)) = True := eq_true (by have := HNN.out.2.1; omega)
     have q2 : (((i : Nat) : Int) < (G.tasks.length : Int)) = True := eq_true (by omega)
     have hiK : (i : Int) = x := hxi.symm
     have HII := m0 (show i < G.tasks.length ∧ d.testBit i = false ∧ v ≤ 20 * lst.length ∧ 20 * lst.length ≤ 100 from ⟨hinG, hdi, hv1, hB⟩)
     rw [hiK] at hit p1 q1 q2 hecall hwith
     have HIT := m0 hit
     have HIK := m0 hiK
     have HST1 := m0 hst1
     have HST2 := m0 hst2
     have HEC := m0 hecall
     have HWI := m0 hwith
     have HTM := m0 htm
     have HOR := m0 hor
     have HJ6 := m0 J1
     clear hx hxi hi8 hib hin hdi hz hnd8 hsubs hinG hovM hB hv1 hfr hcg hst1 hst2 hecall htm hwith hor hit hiK J1 hlt1
     have hko := KeepsOthers.drew W1
     have hdr : Below W1.heap.size W1 W1.drew := below_drew (Below.refl _ _)
     have HJ7 := m0 (HJ6.out.move hdr)
     have HKO := m0 hko
     have HSZ6 := m0 (Nat.le_trans hsz hdr.size)
     have HEC2 := m0 (HEC.out _ HJ7.out.fx.below HJ7.out.fx.row)
     clear hdr hko hsz HJ6 HEC
     have hcx := HJ7.out.x.cell
     have hcp := HJ7.out.pl.cell
     have hc0 : W1.drew.cell? ⟨K.q, 0, none⟩ = some (.pointer (some ⟨K.b, 0, none⟩)) := by simp [World.cell?, HJ7.out.fx.sb.row]
     have hc1 : W1.drew.cell? ⟨K.q, 1, none⟩ = some (.slice K.A1 K.n1 K.c1) := by simp [World.cell?, HJ7.out.fx.sb.row]
     have hc2 : W1.drew.cell? ⟨K.q, 2, none⟩ = some (.int .i64 K.wk) := by simp [World.cell?, HJ7.out.fx.sb.row]
     have hc3 : W1.drew.cell? ⟨K.q, 3, none⟩ = some (.slice (some ⟨K.p, 0, none⟩) K.n K.n) := by simp [World.cell?, HJ7.out.fx.sb.row]
     refine start_in (n := 26) (S := fun w' => w'.cell? ⟨w.heap.size, 0, none⟩ = some (.pointer (some ⟨K.q, 0, none⟩)) ∧ w'.cell? ⟨w.heap.size + 1, 0, none⟩ = some (.int .u16 (d : Int)) ∧ w'.cell? ⟨K.q, 0, none⟩ = some (.pointer (some ⟨K.b, 0, none⟩)) ∧ w'.cell? ⟨K.q, 1, none⟩ = some (.slice K.A1 K.n1 K.c1) ∧ w'.cell? ⟨K.q, 2, none⟩ = some (.int .i64 K.wk) ∧ w'.cell? ⟨K.q, 3, none⟩ = some (.slice (some ⟨K.p, 0, none⟩) K.n K.n)) (ds := [25]) #[F6q,F6q,F6q,F6q,F6q,F6q,F6q,F6q,F6q,F6q,F6q,F6q,F6q,F6q,F6q,F6q,F6q,F6q,F6q,F6q,F6q,F6q,F6q,F6q,F6q,F6q] rfl (by kernel_rfl) (fun ⟨_, _, h⟩ => h) (by kernel_rfl) rfl ⟨hcx, hcp, hc0, hc1, hc2, hc3⟩ (fun hHeld => ?_)
     revert hHeld HJ7 HKO HSZ6 HEC2
     clear hcx hcp hc0 hc1 hc2 hc3
     generalize W1.drew = Wg
     intro HJ7 HKO HSZ6 HEC2 hHeld
     refine take_ (i := 0) (N := some 53) (v := ?_) (a' := ?_) #[T6q,F6q,F6q,F6q,F6q,F6q,F6q,F6q,F6q,F6q,F6q,F6q,F6q,F6q,F6q,F6q,F6q,F6q,F6q,F6q,F6q,F6q,F6q,F6q,F6q,F6q] rfl rfl (by kernel_rfl) (fun _ _ _ h => h) (Or.inl ⟨by rfl, ?_⟩) hHeld ?_ ?_
     rotate_left
     ·rintro w' ⟨s0, s1, s2, s3, s4, s5⟩
      go_simp
      with_reducible rfl
     rotate_left
     ·simp only [Act.put, sIA, sC0, sCS, i64_w, i32_w]
      rfl
     refine pure_ (i := 1) (N := some 54) (v := ?_) (a' := ?_) #[T6q,T6q,F6q,F6q,F6q,F6q,F6q,F6q,F6q,F6q,F6q,F6q,F6q,F6q,F6q,F6q,F6q,F6q,F6q,F6q,F6q,F6q,F6q,F6q,F6q,F6q] rfl rfl (by kernel_rfl) (fun _ _ _ h => h) (Or.inl ⟨by rfl, ?_⟩) ?_ ?_
     rotate_left
     ·intro w'
      go_simp
      with_reducible rfl
     rotate_left
     ·simp only [Act.put, sIA, sC0, sCS, i64_w, i32_w]
      rfl
     refine pure_ (i := 2) (N := some 55) (v := ?_) (a' := ?_) #[T6q,T6q,T6q,F6q,F6q,F6q,F6q,F6q,F6q,F6q,F6q,F6q,F6q,F6q,F6q,F6q,F6q,F6q,F6q,F6q,F6q,F6q,F6q,F6q,F6q,F6q] rfl rfl (by kernel_rfl) (fun _ _ _ h => h) (Or.inl ⟨by rfl, ?_⟩) ?_ ?_
     rotate_left
     ·intro w'
      go_simp
      with_reducible rfl
     rotate_left
     ·simp only [Act.put, sIA, sC0, sCS, i64_w, i32_w]
      rfl
     refine take_ (i := 3) (N := some 56) (v := ?_) (a' := ?_) #[T6q,T6q,T6q,T6q,F6q,F6q,F6q,F6q,F6q,F6q,F6q,F6q,F6q,F6q,F6q,F6q,F6q,F6q,F6q,F6q,F6q,F6q,F6q,F6q,F6q,F6q] rfl rfl (by kernel_rfl) (fun _ _ _ h => h) (Or.inl ⟨by rfl, ?_⟩) hHeld ?_ ?_
     rotate_left
     ·rintro w' ⟨s0, s1, s2, s3, s4, s5⟩
      go_simp
      with_reducible rfl
     rotate_left
     ·simp only [Act.put, sIA, sC0, sCS, i64_w, i32_w]
      rfl
     refine pure_ (i := 4) (N := some 57) (v := ?_) (a' := ?_) #[T6q,T6q,T6q,T6q,T6q,F6q,F6q,F6q,F6q,F6q,F6q,F6q,F6q,F6q,F6q,F6q,F6q,F6q,F6q,F6q,F6q,F6q,F6q,F6q,F6q,F6q] rfl rfl (by kernel_rfl) (fun _ _ _ h => h) (Or.inl ⟨by rfl, ?_⟩) ?_ ?_
     rotate_left
     ·intro w'
      go_simp
      with_reducible rfl
     rotate_left
     ·simp only [Act.put, sIA, sC0, sCS, i64_w, i32_w]
      rfl
     refine take_ (i := 5) (N := some 58) (v := ?_) (a' := ?_) #[T6q,T6q,T6q,T6q,T6q,T6q,F6q,F6q,F6q,F6q,F6q,F6q,F6q,F6q,F6q,F6q,F6q,F6q,F6q,F6q,F6q,F6q,F6q,F6q,F6q,F6q] rfl rfl (by kernel_rfl) (fun _ _ _ h => h) (Or.inl ⟨by rfl, ?_⟩) hHeld ?_ ?_
     rotate_left
     ·rintro w' ⟨s0, s1, s2, s3, s4, s5⟩
      go_simp
      with_reducible rfl
     rotate_left
     ·simp only [Act.put, sIA, sC0, sCS, i64_w, i32_w]
      rfl
     refine pure_ (i := 6) (N := some 59) (v := ?_) (a' := ?_) #[T6q,T6q,T6q,T6q,T6q,T6q,T6q,F6q,F6q,F6q,F6q,F6q,F6q,F6q,F6q,F6q,F6q,F6q,F6q,F6q,F6q,F6q,F6q,F6q,F6q,F6q] rfl rfl (by kernel_rfl) (fun _ _ _ h => h) (Or.inl ⟨by rfl, ?_⟩) ?_ ?_
     rotate_left
     ·intro w'
      go_simp
      with_reducible rfl
     rotate_left
     ·simp only [Act.put, sIA, sC0, sCS, i64_w, i32_w]
      rfl
     refine pure_ (i := 7) (N := some 60) (v := ?_) (a' := ?_) #[T6q,T6q,T6q,T6q,T6q,T6q,T6q,T6q,F6q,F6q,F6q,F6q,F6q,F6q,F6q,F6q,F6q,F6q,F6q,F6q,F6q,F6q,F6q,F6q,F6q,F6q] rfl rfl (by kernel_rfl) (fun _ _ _ h => h) (Or.inl ⟨by rfl, ?_⟩) ?_ ?_
     rotate_left
     ·intro w'
      go_simp
      with_reducible rfl
     rotate_left
     ·simp only [Act.put, sIA, sC0, sCS, i64_w, i32_w]
      rfl
     refine take_ (i := 8) (N := some 61) (v := ?_) (a' := ?_) #[T6q,T6q,T6q,T6q,T6q,T6q,T6q,T6q,T6q,F6q,F6q,F6q,F6q,F6q,F6q,F6q,F6q,F6q,F6q,F6q,F6q,F6q,F6q,F6q,F6q,F6q] rfl rfl (by kernel_rfl) (fun _ _ _ h => h) (Or.inl ⟨by rfl, ?_⟩) hHeld ?_ ?_
     rotate_left
     ·rintro w' ⟨s0, s1, s2, s3, s4, s5⟩
      go_simp
      with_reducible rfl
     rotate_left
     ·simp only [Act.put, sIA, sC0, sCS, i64_w, i32_w]
      rfl
     refine take_ (i := 9) (N := some 62) (v := ?_) (a' := ?_) #[T6q,T6q,T6q,T6q,T6q,T6q,T6q,T6q,T6q,T6q,F6q,F6q,F6q,F6q,F6q,F6q,F6q,F6q,F6q,F6q,F6q,F6q,F6q,F6q,F6q,F6q] rfl rfl (by kernel_rfl) (fun _ _ _ h => h) (Or.inl ⟨by rfl, ?_⟩) hHeld ?_ ?_
     rotate_left
     ·rintro w' ⟨s0, s1, s2, s3, s4, s5⟩
      go_simp
      with_reducible rfl
     rotate_left
     ·simp only [Act.put, sIA, sC0, sCS, i64_w, i32_w]
      rfl
     refine pure_ (i := 10) (N := some 63) (v := ?_) (a' := ?_) #[T6q,T6q,T6q,T6q,T6q,T6q,T6q,T6q,T6q,T6q,T6q,F6q,F6q,F6q,F6q,F6q,F6q,F6q,F6q,F6q,F6q,F6q,F6q,F6q,F6q,F6q] rfl rfl (by kernel_rfl) (fun _ _ _ h => h) (Or.inl ⟨by rfl, ?_⟩) ?_ ?_
     rotate_left
     ·intro w'
      go_simp
      with_reducible rfl
     rotate_left
     ·simp only [Act.put, sIA, sC0, sCS, i64_w, i32_w]
      rfl
     refine pure_ (i := 11) (N := some 64) (v := ?_) (a' := ?_) #[T6q,T6q,T6q,T6q,T6q,T6q,T6q,T6q,T6q,T6q,T6q,T6q,F6q,F6q,F6q,F6q,F6q,F6q,F6q,F6q,F6q,F6q,F6q,F6q,F6q,F6q] rfl rfl (by kernel_rfl) (fun _ _ _ h => h) (Or.inl ⟨by rfl, ?_⟩) ?_ ?_
     rotate_left
     ·intro w'
      go_simp
      with_reducible rfl
     rotate_left
     ·simp only [Act.put, sIA, sC0, sCS, i64_w, i32_w]
      rfl
     refine take_ (i := 12) (N := some 65) (v := ?_) (a' := ?_) #[T6q,T6q,T6q,T6q,T6q,T6q,T6q,T6q,T6q,T6q,T6q,T6q,T6q,F6q,F6q,F6q,F6q,F6q,F6q,F6q,F6q,F6q,F6q,F6q,F6q,F6q] rfl rfl (by kernel_rfl) (fun _ _ _ h => h) (Or.inl ⟨by rfl, ?_⟩) hHeld ?_ ?_
     rotate_left
     ·rintro w' ⟨s0, s1, s2, s3, s4, s5⟩
      go_simp
      with_reducible rfl
     rotate_left
     ·simp only [Act.put, sIA, sC0, sCS, i64_w, i32_w]
      rfl
     refine take_ (i := 13) (N := some 66) (v := ?_) (a' := ?_) #[T6q,T6q,T6q,T6q,T6q,T6q,T6q,T6q,T6q,T6q,T6q,T6q,T6q,T6q,F6q,F6q,F6q,F6q,F6q,F6q,F6q,F6q,F6q,F6q,F6q,F6q] rfl rfl (by kernel_rfl) (fun _ _ _ h => h) (Or.inl ⟨by rfl, ?_⟩) hHeld ?_ ?_
     rotate_left
     ·rintro w' ⟨s0, s1, s2, s3, s4, s5⟩
      go_simp
      with_reducible rfl
     rotate_left
     ·simp only [Act.put, sIA, sC0, sCS, i64_w, i32_w]
      rfl
     refine pure_ (i := 14) (N := some 67) (v := ?_) (a' := ?_) #[T6q,T6q,T6q,T6q,T6q,T6q,T6q,T6q,T6q,T6q,T6q,T6q,T6q,T6q,T6q,F6q,F6q,F6q,F6q,F6q,F6q,F6q,F6q,F6q,F6q,F6q] rfl rfl (by kernel_rfl) (fun _ _ _ h => h) (Or.inl ⟨by rfl, ?_⟩) ?_ ?_
     rotate_left
     ·intro w'
      go_simp
      with_reducible rfl
     rotate_left
     ·simp only [Act.put, sIA, sC0, sCS, i64_w, i32_w]
      rfl
     refine take_ (i := 15) (N := some 68) (v := ?_) (a' := ?_) #[T6q,T6q,T6q,T6q,T6q,T6q,T6q,T6q,T6q,T6q,T6q,T6q,T6q,T6q,T6q,T6q,F6q,F6q,F6q,F6q,F6q,F6q,F6q,F6q,F6q,F6q] rfl rfl (by kernel_rfl) (fun _ _ _ h => h) (Or.inl ⟨by rfl, ?_⟩) hHeld ?_ ?_
     rotate_left
     ·rintro w' ⟨s0, s1, s2, s3, s4, s5⟩
      go_simp
      with_reducible rfl
     rotate_left
     ·simp only [Act.put, sIA, sC0, sCS, i64_w, i32_w]
      rfl
     refine pure_ (i := 16) (N := some 69) (v := ?_) (a' := ?_) #[T6q,T6q,T6q,T6q,T6q,T6q,T6q,T6q,T6q,T6q,T6q,T6q,T6q,T6q,T6q,T6q,T6q,F6q,F6q,F6q,F6q,F6q,F6q,F6q,F6q,F6q] rfl rfl (by kernel_rfl) (fun _ _ _ h => h) (Or.inl ⟨by rfl, ?_⟩) ?_ ?_
     rotate_left
     ·intro w'
      go_simp
      with_reducible rfl
     rotate_left
     ·simp only [Act.put, sIA, sC0, sCS, i64_w, i32_w]
      rfl
     refine pure_ (i := 17) (N := some 70) (v := ?_) (a' := ?_) #[T6q,T6q,T6q,T6q,T6q,T6q,T6q,T6q,T6q,T6q,T6q,T6q,T6q,T6q,T6q,T6q,T6q,T6q,F6q,F6q,F6q,F6q,F6q,F6q,F6q,F6q] rfl rfl (by kernel_rfl) (fun _ _ _ h => h) (Or.inl ⟨by rfl, ?_⟩) ?_ ?_
     rotate_left
     ·intro w'
      go_simp
      with_reducible rfl
     rotate_left
     ·simp only [Act.put, sIA, sC0, sCS, i64_w, i32_w]
      rfl
     refine take_ (i := 18) (N := some 71) (v := ?_) (a' := ?_) #[T6q,T6q,T6q,T6q,T6q,T6q,T6q,T6q,T6q,T6q,T6q,T6q,T6q,T6q,T6q,T6q,T6q,T6q,T6q,F6q,F6q,F6q,F6q,F6q,F6q,F6q] rfl rfl (by kernel_rfl) (fun _ _ _ h => h) (Or.inl ⟨by rfl, ?_⟩) hHeld ?_ ?_
     rotate_left
     ·rintro w' ⟨s0, s1, s2, s3, s4, s5⟩
      go_simp
      with_reducible rfl
     rotate_left
     ·simp only [Act.put, sIA, sC0, sCS, i64_w, i32_w]
      rfl
     refine take_ (i := 19) (N := some 72) (v := ?_) (a' := ?_) #[T6q,T6q,T6q,T6q,T6q,T6q,T6q,T6q,T6q,T6q,T6q,T6q,T6q,T6q,T6q,T6q,T6q,T6q,T6q,T6q,F6q,F6q,F6q,F6q,F6q,F6q] rfl rfl (by kernel_rfl) (fun _ _ _ h => h) (Or.inl ⟨by rfl, ?_⟩) hHeld ?_ ?_
     rotate_left
     ·rintro w' ⟨s0, s1, s2, s3, s4, s5⟩
      go_simp
      with_reducible rfl
     rotate_left
     ·simp only [Act.put, sIA, sC0, sCS, i64_w, i32_w]
      rfl
     refine pure_ (i := 20) (N := some 73) (v := ?_) (a' := ?_) #[T6q,T6q,T6q,T6q,T6q,T6q,T6q,T6q,T6q,T6q,T6q,T6q,T6q,T6q,T6q,T6q,T6q,T6q,T6q,T6q,T6q,F6q,F6q,F6q,F6q,F6q] rfl rfl (by kernel_rfl) (fun _ _ _ h => h) (Or.inl ⟨by rfl, ?_⟩) ?_ ?_
     rotate_left
     ·intro w'
      go_simp
      with_reducible rfl
     rotate_left
     ·simp only [Act.put, sIA, sC0, sCS, i64_w, i32_w]
      rfl
     refine pure_ (i := 21) (N := some 74) (v := ?_) (a' := ?_) #[T6q,T6q,T6q,T6q,T6q,T6q,T6q,T6q,T6q,T6q,T6q,T6q,T6q,T6q,T6q,T6q,T6q,T6q,T6q,T6q,T6q,T6q,F6q,F6q,F6q,F6q] rfl rfl (by kernel_rfl) (fun _ _ _ h => h) (Or.inl ⟨by rfl, ?_⟩) ?_ ?_
     rotate_left
     ·intro w'
      go_simp
      with_reducible rfl
     rotate_left
     ·simp only [Act.put, sIA, sC0, sCS, i64_w, i32_w]
      rfl
     refine take_ (i := 22) (N := some 75) (v := ?_) (a' := ?_) #[T6q,T6q,T6q,T6q,T6q,T6q,T6q,T6q,T6q,T6q,T6q,T6q,T6q,T6q,T6q,T6q,T6q,T6q,T6q,T6q,T6q,T6q,T6q,F6q,F6q,F6q] rfl rfl (by kernel_rfl) (fun _ _ _ h => h) (Or.inl ⟨by rfl, ?_⟩) hHeld ?_ ?_
     rotate_left
     ·rintro w' ⟨s0, s1, s2, s3, s4, s5⟩
      go_simp
      with_reducible rfl
     rotate_left
     ·simp only [Act.put, sIA, sC0, sCS, i64_w, i32_w]
      rfl
     refine one_ (i := 23) (N := some 76) #[T6q,T6q,T6q,T6q,T6q,T6q,T6q,T6q,T6q,T6q,T6q,T6q,T6q,T6q,T6q,T6q,T6q,T6q,T6q,T6q,T6q,T6q,T6q,T6q,F6q,F6q] rfl rfl (by kernel_rfl) (by decide) (fun K_ hK => ?_)
     refine goes_ Tryd.func67 (by kernel_rfl) rfl #[.pointer (some ⟨K.b, 0, none⟩), .slice (some ⟨K.p, 0, none⟩) K.n K.n, .int .u16 (d : Int), .int .i64 x, .slice K.A1 K.n1 K.c1, .int .i64 K.wk] (by rfl) rfl rfl (by (try simp only [List.map_toArray, List.map_cons, List.map_nil]); rfl) ?_
     refine HEC2.out.mono ?_
     rintro e_ w5 ⟨rfl, hb5⟩
     refine ⟨_, rfl, ?_⟩
     have hHeld5 := (show (fun w' => w'.cell? ⟨w.heap.size, 0, none⟩ = some (.pointer (some ⟨K.q, 0, none⟩)) ∧ w'.cell? ⟨w.heap.size + 1, 0, none⟩ = some (.int .u16 (d : Int)) ∧ w'.cell? ⟨K.q, 0, none⟩ = some (.pointer (some ⟨K.b, 0, none⟩)) ∧ w'.cell? ⟨K.q, 1, none⟩ = some (.slice K.A1 K.n1 K.c1) ∧ w'.cell? ⟨K.q, 2, none⟩ = some (.int .i64 K.wk) ∧ w'.cell? ⟨K.q, 3, none⟩ = some (.slice (some ⟨K.p, 0, none⟩) K.n K.n)) w5 from ⟨(hb5.cell (World.block_lt_of_cell? _ _ hHeld.1)).trans hHeld.1, (hb5.cell (World.block_lt_of_cell? _ _ hHeld.2.1)).trans hHeld.2.1, (hb5.cell (World.block_lt_of_cell? _ _ hHeld.2.2.1)).trans hHeld.2.2.1, (hb5.cell (World.block_lt_of_cell? _ _ hHeld.2.2.2.1)).trans hHeld.2.2.2.1, (hb5.cell (World.block_lt_of_cell? _ _ hHeld.2.2.2.2.1)).trans hHeld.2.2.2.2.1, (hb5.cell (World.block_lt_of_cell? _ _ hHeld.2.2.2.2.2)).trans hHeld.2.2.2.2.2⟩)
     refine hK.out _ _ hHeld5 (fun _ => ?_)
     clear hK K_ hHeld5 hHeld
     refine norm_ (a' := ?_) ?_ ?_
     rotate_left
     ·show Act.put _ (some 76) _ = _
      simp only [Act.put, sIA, sC0, sCS, i64_w, i32_w]
      rfl
     have HJ8 := m0 (HJ7.out.move hb5)
     have HKO8 := m0 (HKO.out.trans (keepsOthers_below hb5))
     have HSZ8 := m0 (Nat.le_trans HSZ6.out hb5.size)
     clear hb5 HJ7 HKO HSZ6 HEC2
     have hci := icell HJ8.out.fx.row i (by have h1 := HJ8.out.fx.len; have h2 := HII.out.1; have h3 := HNN.out.2.1; omega)
     have hfi := ifrozen HJ8.out.fx.row i
     rw [← HIT.out] at hci hfi
     refine pure_ (i := 24) (N := some 77) (v := ?_) (a' := ?_) #[T6q,T6q,T6q,T6q,T6q,T6q,T6q,T6q,T6q,T6q,T6q,T6q,T6q,T6q,T6q,T6q,T6q,T6q,T6q,T6q,T6q,T6q,T6q,T6q,T6q,F6q] rfl rfl (by kernel_rfl) (fun _ _ _ h => h) (Or.inl ⟨by rfl, ?_⟩) ?_ ?_
     rotate_left
     ·intro w'
      go_simp
      with_reducible rfl
     rotate_left
     ·simp only [Act.put, sIA, sC0, sCS, i64_w, i32_w]
      rfl
     refine last_ (i := 25) (N := none) #[T6q,T6q,T6q,T6q,T6q,T6q,T6q,T6q,T6q,T6q,T6q,T6q,T6q,T6q,T6q,T6q,T6q,T6q,T6q,T6q,T6q,T6q,T6q,T6q,T6q,T6q] rfl rfl (by kernel_rfl) (by decide) (fun K_ hK => ?_)
     refine skip_ (w1 := ?_) (by rfl) rfl ?_ ?_
     rotate_left
     ·go_simp
      rfl
     refine hK.out _ _ ?_
     clear hK K_
     refine done_ (by kernel_rfl) ?_
     have J9 : FJ K P w L d e (w5.setCell ⟨K.p, x.toNat, none⟩ (.int .i64 (v : Int))) lst (M1.set i v) (zs.foldl stp s) lA1 lc1 bv1 se1 := by
      rw [HIT.out]
      exact HJ8.out.start i v (by have := HII.out.2.2.1; have := HII.out.2.2.2; omega) HII.out.2.1
     have ko9 := HKO8.out.trans (KeepsOthers.setCell w5 ⟨K.p, x.toNat, none⟩ (.int .i64 (v : Int)))
     have sz9 := Nat.le_trans HSZ8.out (KeepsOthers.setCell w5 ⟨K.p, x.toNat, none⟩ (.int .i64 (v : Int))).size
     have ml1 := HJ8.out.fx.len
     clear hci hfi HJ8 HKO8 HSZ8
     revert J9 ko9 sz9
     generalize w5.setCell ⟨K.p, x.toNat, none⟩ (.int .i64 (v : Int)) = w6
     intro J9 ko9 sz9
     have HML := m0 ml1
     clear ml1
     gi_wp2
     have hko := ko9.trans (KeepsOthers.drew w6)
     have hdr : Below w6.heap.size w6 w6.drew := below_drew (Below.refl _ _)
     have HJ10 := m0 (J9.move hdr)
     have HKO10 := m0 hko
     have HSZ10 := m0 (Nat.le_trans sz9 hdr.size)
     clear hdr hko sz9 ko9 J9
     have hcx := HJ10.out.x.cell
     have hc4 : w6.drew.cell? ⟨K.q, 4, none⟩ = some (.slice lA1 lst.length lc1) := by simp [World.cell?, HJ10.out.fx.sb.row]
     refine start_in (n := 11) (S := fun w' => w'.cell? ⟨w.heap.size, 0, none⟩ = some (.pointer (some ⟨K.q, 0, none⟩)) ∧ w'.cell? ⟨K.q, 4, none⟩ = some (.slice lA1 lst.length lc1)) (ds := [10]) #[F6q,F6q,F6q,F6q,F6q,F6q,F6q,F6q,F6q,F6q,F6q] rfl (by kernel_rfl) (fun ⟨_, _, h⟩ => h) (by kernel_rfl) rfl ⟨hcx, hc4⟩ (fun hHeld => ?_)
     revert hHeld HJ10 HKO10 HSZ10
     clear hcx hc4
     generalize w6.drew = Wh
     intro HJ10 HKO10 HSZ10 hHeld
     refine take_ (i := 0) (N := some 78) (v := ?_) (a' := ?_) #[T6q,F6q,F6q,F6q,F6q,F6q,F6q,F6q,F6q,F6q,F6q] rfl rfl (by kernel_rfl) (fun _ _ _ h => h) (Or.inl ⟨by rfl, ?_⟩) hHeld ?_ ?_
     rotate_left
     ·rintro w' ⟨s0, s1⟩
      go_simp
      with_reducible rfl
     rotate_left
     ·simp only [Act.put, sIA, sC0, sCS, i64_w, i32_w]
      rfl
     refine take_ (i := 1) (N := some 79) (v := ?_) (a' := ?_) #[T6q,T6q,F6q,F6q,F6q,F6q,F6q,F6q,F6q,F6q,F6q] rfl rfl (by kernel_rfl) (fun _ _ _ h => h) (Or.inl ⟨by rfl, ?_⟩) hHeld ?_ ?_
     rotate_left
     ·rintro w' ⟨s0, s1⟩
      go_simp
      with_reducible rfl
     rotate_left
     ·simp only [Act.put, sIA, sC0, sCS, i64_w, i32_w]
      rfl
     refine pure_ (i := 2) (N := some 80) (v := ?_) (a' := ?_) #[T6q,T6q,T6q,F6q,F6q,F6q,F6q,F6q,F6q,F6q,F6q] rfl rfl (by kernel_rfl) (fun _ _ _ h => h) (Or.inl ⟨by rfl, ?_⟩) ?_ ?_
     rotate_left
     ·intro w'
      go_simp
      with_reducible rfl
     rotate_left
     ·simp only [Act.put, sIA, sC0, sCS, i64_w, i32_w]
      rfl
     refine pure_ (i := 3) (N := some 81) (v := ?_) (a' := ?_) #[T6q,T6q,T6q,T6q,F6q,F6q,F6q,F6q,F6q,F6q,F6q] rfl rfl (by kernel_rfl) (fun _ _ _ h => h) (Or.inl ⟨by rfl, ?_⟩) ?_ ?_
     rotate_left
     ·intro w'
      go_simp
      with_reducible rfl
     rotate_left
     ·simp only [Act.put, sIA, sC0, sCS, i64_w, i32_w]
      rfl
     refine take_ (i := 4) (N := some 82) (v := ?_) (a' := ?_) #[T6q,T6q,T6q,T6q,T6q,F6q,F6q,F6q,F6q,F6q,F6q] rfl rfl (by kernel_rfl) (fun _ _ _ h => h) (Or.inl ⟨by rfl, ?_⟩) hHeld ?_ ?_
     rotate_left
     ·rintro w' ⟨s0, s1⟩
      go_simp
      with_reducible rfl
     rotate_left
     ·simp only [Act.put, sIA, sC0, sCS, i64_w, i32_w]
      rfl
     refine pure_ (i := 5) (N := some 83) (v := ?_) (a' := ?_) #[T6q,T6q,T6q,T6q,T6q,T6q,F6q,F6q,F6q,F6q,F6q] rfl rfl (by kernel_rfl) (fun _ _ _ h => h) (Or.inl ⟨by rfl, ?_⟩) ?_ ?_
     rotate_left
     ·intro w'
      go_simp
      with_reducible rfl
     rotate_left
     ·simp only [Act.put, sIA, sC0, sCS, i64_w, i32_w]
      rfl
     refine one_ (i := 6) (N := some 84) #[T6q,T6q,T6q,T6q,T6q,T6q,T6q,F6q,F6q,F6q,F6q] rfl rfl (by kernel_rfl) (by decide) (fun K_ hK => ?_)
     refine value_ (v := .slice (some ⟨Wh.heap.size, 0, none⟩) 1 1) (w1 := Wh.alloc (.cells #[.int .i64 x] 3)) (by rfl) rfl ?_ ?_
     ·go_simp
     refine hK.out _ _ ⟨(((Below.refl Wh.heap.size Wh).alloc (Nat.le_refl _) _).cell (World.block_lt_of_cell? _ _ hHeld.1)).trans hHeld.1, (((Below.refl Wh.heap.size Wh).alloc (Nat.le_refl _) _).cell (World.block_lt_of_cell? _ _ hHeld.2)).trans hHeld.2⟩ (fun _ => ?_)
     clear hK K_
     refine norm_ (a' := ?_) ?_ ?_
     rotate_left
     ·show Act.put _ (some 84) _ = _
      simp only [Act.put, sIA, sC0, sCS, i64_w, i32_w]
      rfl
     refine one_ (i := 7) (N := some 85) #[T6q,T6q,T6q,T6q,T6q,T6q,T6q,T6q,F6q,F6q,F6q] rfl rfl (by kernel_rfl) (by decide) (fun K_ hK => ?_)
     refine Kd.R_append_step (Kd.int .i64) (w0 := K.w0) K.w0.heap.size (by rfl) (.tmp 82) (.tmp 84) 23 3 (.int .i64 0) 8 rfl Tryd.underlying23 infoIntC rfl (by decide) (by omega) (.slice lA1 lst.length lc1) (up lst) x [.int .i64 x] (fun k_ => PF P w.heap.size k_ ∧ k_ ≠ K.q ∧ k_ ≠ K.p ∧ some k_ ≠ bv1.ownBlock) (fun _ => False) rfl rfl ?aP (fun _ hk => hk.elim) ?aF ?aO ?aB ?aS ?aL ?_
     case aP => exact rfl
     case aF => exact fun k_ hk_ => ⟨⟨HP.out k_ (Nat.le_trans HJ10.out.size hk_), by have := HJ10.out.x.lt; omega, by have := HJ10.out.pl.lt; omega, by have := HJ10.out.en.lt; omega⟩, by have := HJ10.out.fx.qlt; omega, by have := HJ10.out.fx.plt; omega, fun e2 => by have := HJ10.out.fx.bown k_ e2.symm; omega⟩
     case aO => exact HJ10.out.fx.lst
     case aB => exact HJ10.out.fx.below
     case aS => exact HJ10.out.fx.size
     case aL => rw [up_length]; have := HII.out.2.2.2; omega
     intro v1_ w7 ho hb hg hat
     obtain ⟨A9, c9, e9⟩ := Kd.R_slice ho
     rw [show (up lst ++ [x]).length = lst.length + 1 by simp [up]] at e9
     subst e9
     rw [← HIK.out] at ho
     have HJ11 := m0 (HJ10.out.appended ho hg hb)
     have HKO11 := m0 (HKO10.out.trans (KeepsOthers.of_grownBy hg (fun j o ej hj => by obtain ⟨cs, tt, hc⟩ := Kd.R_ownTyped HJ10.out.fx.lst j ej; rw [hc] at hj; cases hj; rfl)))
     have HSZ11 := m0 (Nat.le_trans HSZ10.out hg.size)
     have hq7 := (hg.block K.q HJ10.out.fx.qlt (fun e1 => (HJ10.out.fx.lst.1 K.q e1.symm).2.1 rfl)).trans HJ10.out.fx.sb.row
     have hx7 := (hg.block w.heap.size HJ10.out.x.lt (fun e1 => (HJ10.out.fx.lst.1 w.heap.size e1.symm).1.2.1 rfl)).trans HJ10.out.x
     have hc4 : w7.cell? ⟨K.q, 4, none⟩ = some (.slice lA1 lst.length lc1) := by simp [World.cell?, hq7]
     have hf4 : w7.frozen? ⟨K.q, 4, none⟩ = false := by simp [World.frozen?, hq7]
     refine hK.out _ _ ⟨Boxed.cell hx7, hc4⟩ (fun _ => ?_)
     clear hK K_ ho hb hg hat hq7 hx7 HJ10 HKO10 HSZ10 hHeld
     refine norm_ (a' := ?_) ?_ ?_
     rotate_left
     ·show Act.put _ (some 85) _ = _
      simp only [Act.put, sIA, sC0, sCS, i64_w, i32_w]
      rfl
     refine pure_ (i := 8) (N := some 86) (v := ?_) (a' := ?_) #[T6q,T6q,T6q,T6q,T6q,T6q,T6q,T6q,T6q,F6q,F6q] rfl rfl (by kernel_rfl) (fun _ _ _ h => h) (Or.inl ⟨by rfl, ?_⟩) ?_ ?_
     rotate_left
     ·intro w'
      go_simp
      with_reducible rfl
     rotate_left
     ·simp only [Act.put, sIA, sC0, sCS, i64_w, i32_w]
      rfl
     refine pure_ (i := 9) (N := some 87) (v := ?_) (a' := ?_) #[T6q,T6q,T6q,T6q,T6q,T6q,T6q,T6q,T6q,T6q,F6q] rfl rfl (by kernel_rfl) (fun _ _ _ h => h) (Or.inl ⟨by rfl, ?_⟩) ?_ ?_
     rotate_left
     ·intro w'
      go_simp
      with_reducible rfl
     rotate_left
     ·simp only [Act.put, sIA, sC0, sCS, i64_w, i32_w]
      rfl
     refine last_ (i := 10) (N := none) #[T6q,T6q,T6q,T6q,T6q,T6q,T6q,T6q,T6q,T6q,T6q] rfl rfl (by kernel_rfl) (by decide) (fun K_ hK => ?_)
     refine skip_ (w1 := ?_) (by rfl) rfl ?_ ?_
     rotate_left
     ·go_simp
      rfl
     refine hK.out _ _ ?_
     clear hK K_
     refine done_ (by kernel_rfl) ?_
     have J12 := HJ11.out
     have ko12 := HKO11.out.trans (KeepsOthers.setCell w7 ⟨K.q, 4, none⟩ (.slice A9 (lst.length + 1) c9))
     have sz12 := Nat.le_trans HSZ11.out (KeepsOthers.setCell w7 ⟨K.q, 4, none⟩ (.slice A9 (lst.length + 1) c9)).size
     clear hc4 hf4 HJ11 HKO11 HSZ11
     revert J12 ko12 sz12
     generalize w7.setCell ⟨K.q, 4, none⟩ (.slice A9 (lst.length + 1) c9) = w8
     intro J12 ko12 sz12
     gi_wp2
     have hor256 : d ||| 2 ^ i < 2 ^ K.n := HOR.out
     have hml : (M1.set i v).getD i 0 = v := by rw [List.getD_eq_getElem?_getD, List.getElem?_set_self (by have h1 := HML.out; have h2 := HII.out.1; have h3 := HNN.out.2.1; omega), Option.getD_some]
     have hmx : (if (e : Int) < IntKind.i64.wrap ((v : Int) + ((tmN G.tasks i : Nat) : Int)) then IntKind.i64.wrap ((v : Int) + ((tmN G.tasks i : Nat) : Int)) else (e : Int)) = ((max e (v + tmN G.tasks i) : Nat) : Int) := by
      rw [(wadd (a := v) (b := tmN G.tasks i) (by have := HII.out.2.2.1; have := HII.out.2.2.2; omega) (by have := HTM.out.2.2; omega)).2]
      exact wmax _ _
     have hmax_ := max2_int
     refine wpIn_still_tail 25 rfl (by kernel_rfl) (by kernel_rfl) (fun ⟨_, _, h⟩ => h) ?_
     change wpStill _ _ w8.drew (fun a' => wpList _ _ _ _ a' w8.drew) _ _
     have hdr : Below w8.heap.size w8 w8.drew := below_drew (Below.refl _ _)
     have hko := ko12.trans (KeepsOthers.drew w8)
     revert hdr hko
     generalize w8.drew = Wi
     intro hdr hko
     have HJ13 := m0 (J12.move hdr)
     have HKO13 := m0 hko
     have HSZ13 := m0 (Nat.le_trans sz12 hdr.size)
     clear hdr hko sz12 ko12 J12 hmax_
     have hcx := HJ13.out.x.cell
     have hcp := HJ13.out.pl.cell
     have hce := HJ13.out.en.cell
     have hc0 : Wi.cell? ⟨K.q, 0, none⟩ = some (.pointer (some ⟨K.b, 0, none⟩)) := by simp [World.cell?, HJ13.out.fx.sb.row]
     have hc3 : Wi.cell? ⟨K.q, 3, none⟩ = some (.slice (some ⟨K.p, 0, none⟩) K.n K.n) := by simp [World.cell?, HJ13.out.fx.sb.row]
     have hci := icell HJ13.out.fx.row i (by rw [List.length_set]; have h1 := HML.out; have h2 := HII.out.1; have h3 := HNN.out.2.1; omega)
     rw [hml, ← HIT.out] at hci
     obtain ⟨At_, ct_, hct0, hctl, hctC⟩ := (HF.out.g.move HJ13.out.fx.below).tasks
     obtain ⟨ad, At, ct, e0, h0, h1, h2, h3_, h4, h5⟩ := at_T39 hctC x (of_eq_true p1) (of_eq_true q2)
     subst e0
     have hrd : rd_T39 G.tasks x = G.tasks.getD i z39 := by rw [← HIK.out]; simp [rd_T39]
     rw [hrd, HTM.out.1] at h0
     have hrec := HIH.out (PF P w.heap.size) (lst ++ [i]) (L.set i v) (M1.set i v) (d ||| 2 ^ i) (max e (v + tmN G.tasks i)) (zs.foldl stp s) A9 c9 bv1 se1 Wi (by have := HOV.out.2.2.2.2.1; rw [List.length_append, List.length_singleton]; omega) (by have := HNN.out.2.2; rw [List.length_append, List.length_singleton]; omega) HJ13.out.fx (fun k_ hk_ => ⟨HP.out k_ (Nat.le_trans HJ13.out.size hk_), by have := HJ13.out.x.lt; omega, by have := HJ13.out.pl.lt; omega, by have := HJ13.out.en.lt; omega⟩) (HJ13.out.agree.more (by have h1 := HOV.out.2.1; have h2 := HII.out.1; have h3 := HNN.out.2.1; omega) (by have h1 := HML.out; have h2 := HII.out.1; have h3 := HNN.out.2.1; omega)) (by rw [List.length_set]; exact HOV.out.2.1) hor256 (over_more HOV.out.1 (by have h1 := HOV.out.2.1; have h2 := HII.out.1; have h3 := HNN.out.2.1; omega) (by have h1 := HII.out.2.2.1; have h2 := HTM.out.2.2; rw [List.length_append, List.length_singleton]; omega) (by rw [List.length_append, List.length_singleton]; omega)) (by have h1 := HII.out.2.2.1; have h2 := HTM.out.2.2; have h3 := HOV.out.2.2.2.1; rw [List.length_append, List.length_singleton]; omega)
     rw [← HST2.out, ← HST1.out] at hrec
     have HREC := m0 hrec
     have HMX := m0 hmx
     have HWW := m0 ((HWI.out Wi).mono (R' := fun e_ w_ => e_ = .returned (.int .u16 ((d ||| 2 ^ i : Nat) : Int)) ∧ w_ = Wi) (fun _ _ h => ⟨h.1, h.2.symm⟩))
     generalize ((v : Nat) : Int) = vI at hci HMX
     generalize ((tmN G.tasks i : Nat) : Int) = tI at h0 HMX
     clear hrec hmx hml hor256 hrd h1 h2 h3_ h4 h5 hctC hctl
     simp only [List.take_succ_cons, List.take_zero, List.drop_succ_cons, List.drop_zero]
     iterate 3 still_step
     still_call HWW.out
     iterate 21 still_step
     rw [HMX.out]
     refine wpStill_nil ?_
     clear hcx hcp hce hc0 hc3 hci hct0 h0
     go_wp2_with (go_at_call 47; refine HREC.out.mono ?_; rintro e_ w9 ⟨rfl, hres⟩; have hJ14 := HJ13.out.call HII.out.2.1 hres; have HKO14 := m0 (HKO13.out.trans hres.others); have HSZ14 := m0 (Nat.le_trans HSZ13.out hres.others.size); clear hres HKO13 HSZ13 HJ13 HREC)
     obtain ⟨M2, lA2, lc2, bv2, se2, J14⟩ := hJ14
     -- region 9
     try gi_wp2
     refine wpIn_still_tail 14 rfl (by kernel_rfl) (by kernel_rfl) (fun ⟨_, _, h⟩ => h) ?_
     change wpStill _ _ w9.drew (fun a' => wpList _ _ _ _ a' w9.drew) _ _
     have hdr : Below w9.heap.size w9 w9.drew := below_drew (Below.refl _ _)
     have hko := HKO14.out.trans (KeepsOthers.drew w9)
     revert hdr hko
     generalize w9.drew = Wj
     intro hdr hko
     have HJ15 := m0 (J14.move hdr)
     have HKO15 := m0 hko
     have HSZ15 := m0 (Nat.le_trans HSZ14.out hdr.size)
     clear hdr hko HKO14 HSZ14 J14
     have hcx := HJ15.out.x.cell
     have hc4 : Wj.cell? ⟨K.q, 4, none⟩ = some (.slice lA2 (lst.length + 1) lc2) := by
      have := HJ15.out.fx.sb.row
      rw [List.length_append, List.length_singleton] at this
      simp [World.cell?, this]
     have hf4 : Wj.frozen? ⟨K.q, 4, none⟩ = false := by simp [World.frozen?, HJ15.out.fx.sb.row]
     have hw_ : IntKind.i64.wrap (lst.length : Int) = (lst.length : Int) := by
      have := HII.out.2.2.2
      rw [i64_w, w64 (by omega) (by omega)]
     have hcap : lst.length + 1 ≤ lc2 := by
      have h1 := (Kd.R_reads' HJ15.out.fx.lst).2.1
      rw [List.length_append, List.length_singleton] at h1
      exact h1
     have hcp1 : ((lst.length : Int) ≤ (lc2 : Int)) = True := eq_true (by omega)
     have hcp2 : (lst.length ≤ lc2) = True := eq_true (by omega)
     clear hcap
     simp only [List.take_succ_cons, List.take_zero, List.drop_succ_cons, List.drop_zero]
     iterate 11 still_step
     iterate 3 still_step
     refine wpStill_nil ?_
     clear hcx hw_ hcp1 hcp2
     go_wp2
     refine ⟨(HKO15.out.trans (KeepsOthers.setCell _ _ _)).from _, zs ++ [i], M2, lA2, lc2, bv2, se2, ?_, HJ15.out.cut, Nat.le_trans HSZ15.out (KeepsOthers.setCell _ _ _).size⟩
     rw [← HIK.out]
     simp [up]
  clear a1
  have hcx := HJ2.out.x.cell
  have hce := HJ2.out.en.cell
  obtain ⟨fnd, hfnd⟩ : ∃ f : Bool, f = s.isSome := ⟨_, rfl⟩
  have hc7 := HJ2.out.fx.sb.c7
  rw [← hfnd] at hc7
  have hc6 := HJ2.out.fx.sb.c6
  have hge : fnd = true → decide ((e : Int) ≥ se) = false := fun h => HGE.out (by rw [← hfnd]; exact h)
  have HG2 := m0 hge
  clear hfnd hge
  by_cases hfd : fnd = false
  ·have hgf : (some fnd == some true) = false := by rw [hfd]; rfl
   have HFN := m0 hfd
   clear hfd hce hc6
   iterate 5 still_step
   repeat (refine wpStill_skip hgf ?_; simp only [Act.put, sIA, sC0, sCS])
   refine wpStill_nil ?_
   obtain rfl := HFN.out
   clear hgf hc7 hcx
   go_wp2
   exact key _ _ _ _ _ _ _ _ _ _ _ _
  ·have hfd1 : fnd = true := by
    cases fnd
    ·exact absurd rfl hfd
    ·rfl
   have hge := HG2.out hfd1
   have hgf : (some fnd == some true) = true := by rw [hfd1]; rfl
   have HFN := m0 hfd1
   clear hfd hfd1
   iterate 5 still_step
   repeat (refine wpStill_want hgf (fun K_ hK => ?_); go_simp; refine hK _ ?_; clear hK K_)
   refine wpStill_nil ?_
   obtain rfl := HFN.out
   clear hgf hc7 hcx
   go_wp2
   exact key _ _ _ _ _ _ _ _ _ _ _ _
end Go.Proofs.YtimbfcedigaffaaDoor.Core
end
section
namespace Go.Proofs.YtimbfcedigaffaaDoor.Core
open Go Go.RowKit Go.Shelf Go.Proofs.YtimbfcedigaffaaDoorW.PrintWords Go.Proofs.YtimbfcedigaffaaDoorW.PrintLast Go.Proofs.YtimbfcedigaffaaDoorW.PrintMore Go.Proofs.YtimbfcedigaffaaDoor.P
attribute [local go_sem] Oper.semAt_some wide_fn wide_depth
set_option maxRecDepth 100000 in
set_option maxHeartbeats 2000000 in
theorem bestIn_none (A0 : Option Addr) (c0 : Nat) (l0 : List Tk) (A1 : Option Addr) (c1 : Nat) (l1 : List Int) (wk : Int) (w : World) (hT : Tab w) (hr0 : k39.C w A0 l0.length l0) (hc0 : l0.length ≤ c0) (hr1 : (Kd.int .i64).C w A1 l1.length l1) (hc1 : l1.length ≤ c1) (h : fewD l0 l1 wk = none) :
  Calls Tryd.prog 30 #[.slice A0 l0.length c0, .slice A1 l1.length c1, .int .i64 wk] w fun e w' => e = .returned (.tuple #[.slice none 0 0, .int .i64 0, .bool false]) ∧ Below w.heap.size w w' := by
 have HP := m0 (fewIn_none A0 c0 l0 A1 c1 l1 wk w hT hr0 hc0 hr1 hc1 h)
 clear hr0 hr1 hT h
 go_enter Tryd.func30, Tryd.ntmps30
 go_wp2_with (go_at_call 45; refine HP.out.mono ?_; rintro e w1 ⟨rfl, hB⟩; have HB := m0 hB; clear hB)
 refine bodyPost_ret (results_list (rs := [.tmp 6, .tmp 7, .tmp 8]) rfl (by simp) (.tmp (.tmp (.tmp .nil)))) rfl ?_
 exact ⟨rfl, HB.out⟩
theorem bestD_some {g : List Tk} {room : List Int} {wk : Int} {b : List Int × Nat} (h : bestD g room wk = some b) : ∃ G, fewD g room wk = some G := by
 unfold bestD at h
 cases hf : fewD g room wk with
 | none => rw [hf] at h; cases h
 | some G => exact ⟨G, rfl⟩
theorem leB_zero (b n : Nat) : leB b (List.replicate n 0) := fun k => by rw [List.getD_eq_getElem?_getD, List.getElem?_replicate]; split <;> simp
/-- The search, begun. -/
theorem from_start (b_ : Nat) (G : GD) (A1 : Option Addr) (c1 : Nat) (l1 : List Int) (wk : Int) (b : List Int × Nat) (w1 : World) (hT : Tab w1) (hg : IsG w1 b_ G) (ok : GOk G) (htok : ∀ t ∈ G.tasks, taskOk t) (hpool : ∀ t ∈ G.tasks, 0 ≤ t.f2 ∧ t.f2 ≤ 2) (hf : Fine G.tasks l1 wk) (h5 : G.tasks.length ≤ 5) (h3 : l1.length = 3) (hC : Kd.C (Kd.int .i64) w1 A1 l1.length l1) (hc1 : l1.length ≤ c1) (hfb : fromF G.tasks G.needs l1 wk (G.tasks.length + 1) [] (List.replicate G.tasks.length 0) 0 0 none = some b) :
  Calls Tryd.prog 47 #[.pointer (some ⟨w1.heap.size + 1, 0, none⟩), .int .u16 0, .int .i64 0] ((w1.alloc (.cells (icells (List.replicate G.tasks.length 0)) 3)).alloc (.cells #[.pointer (some ⟨b_, 0, none⟩), .slice A1 l1.length c1, .int .i64 wk, .slice (some ⟨w1.heap.size, 0, none⟩) G.tasks.length G.tasks.length, .slice none 0 0, .slice none 0 0, .int .i64 0, .bool false] 74)) fun r w' => r = .returned (.tuple #[]) ∧ ∃ A c, w'.cell? ⟨w1.heap.size + 1, 5, none⟩ = some (.slice A b.1.length c) ∧ w'.cell? ⟨w1.heap.size + 1, 6, none⟩ = some (.int .i64 (b.2 : Int)) ∧ (Kd.int .i64).R 3 w' w1.heap.size (fun _ => True) (.slice A b.1.length c) b.1 ∧ Below w1.heap.size w1 w' := by
 have o1 : (w1.alloc (.cells (icells (List.replicate G.tasks.length 0)) 3)).heap.size = w1.heap.size + 1 := by simp
 have r1 := cells_new w1 (.cells (icells (List.replicate G.tasks.length 0)) 3)
 have B1 := (Below.refl w1.heap.size w1).alloc (Nat.le_refl _) (.cells (icells (List.replicate G.tasks.length 0)) 3)
 revert o1 r1 B1
 generalize w1.alloc (.cells (icells (List.replicate G.tasks.length 0)) 3) = w2
 intro o1 r1 B1
 have r2 := cells_new w2 (.cells #[.pointer (some ⟨b_, 0, none⟩), .slice A1 l1.length c1, .int .i64 wk, .slice (some ⟨w1.heap.size, 0, none⟩) G.tasks.length G.tasks.length, .slice none 0 0, .slice none 0 0, .int .i64 0, .bool false] 74)
 rw [o1] at r2
 have r1' := cells_alloc r1 (.cells #[.pointer (some ⟨b_, 0, none⟩), .slice A1 l1.length c1, .int .i64 wk, .slice (some ⟨w1.heap.size, 0, none⟩) G.tasks.length G.tasks.length, .slice none 0 0, .slice none 0 0, .int .i64 0, .bool false] 74)
 have B2 := B1.alloc (by omega) (.cells #[.pointer (some ⟨b_, 0, none⟩), .slice A1 l1.length c1, .int .i64 wk, .slice (some ⟨w1.heap.size, 0, none⟩) G.tasks.length G.tasks.length, .slice none 0 0, .slice none 0 0, .int .i64 0, .bool false] 74)
 clear r1 B1 o1
 revert r2 r1' B2
 generalize w2.alloc (.cells #[.pointer (some ⟨b_, 0, none⟩), .slice A1 l1.length c1, .int .i64 wk, .slice (some ⟨w1.heap.size, 0, none⟩) G.tasks.length G.tasks.length, .slice none 0 0, .slice none 0 0, .int .i64 0, .bool false] 74) = w3
 intro r2 r1 B2
 let K : FK := { w0 := w1, q := w1.heap.size + 1, b := b_, A1 := A1, n1 := l1.length, c1 := c1, wk := wk, p := w1.heap.size, n := G.tasks.length, hq := Nat.le_succ _, hp := Nat.le_refl _, hqp := Nat.succ_ne_self _ }
 have FGK : FG K G l1 := ⟨hT, hg, ok, htok, hpool, hf, rfl, h5, h3, hC, rfl, hc1⟩
 have hX : FX K (fun _ => True) w3 [] (List.replicate G.tasks.length 0) none none 0 (.slice none 0 0) 0 :=
  ⟨⟨r2⟩, r1, Kd.R_nil _ _ _ _ _, (fun o ho => by cases ho), (fun k hk => by simp [Value.ownBlock] at hk), (by simp [K]), leB_zero _ _, B2⟩
 have hc := from_calls K G l1 FGK (G.tasks.length + 1) (fun _ => True) [] (List.replicate G.tasks.length 0) (List.replicate G.tasks.length 0) 0 0 none none 0 (.slice none 0 0) 0 w3 (by show G.tasks.length < 0 + _; omega) (Nat.zero_le _) hX (fun _ _ => trivial) (fun _ _ => rfl) (by simp [K]) (Nat.two_pow_pos _) (fun k hk => by rw [Nat.zero_testBit] at hk; cases hk) (Nat.zero_le _)
 rw [show K.wk = wk from rfl, hfb] at hc
 refine hc.mono ?_
 rintro r w' ⟨hr, ⟨⟨M, lA, lc, bv, se, hx, _⟩, _, _⟩⟩
 obtain ⟨he, hR⟩ := hx.best b rfl
 obtain ⟨A, c, e1⟩ := Kd.R_slice hR
 subst e1
 have hrow := hx.sb.row
 refine ⟨hr, A, c, ?_, ?_, Kd.R_mono hR (fun _ _ => trivial), hx.below⟩
 ·have : w'.heap[w1.heap.size + 1]? = _ := hrow
  simp [World.cell?, this]
 ·have : w'.heap[w1.heap.size + 1]? = _ := hrow
  simp [World.cell?, this, he]
set_option maxRecDepth 100000 in
set_option maxHeartbeats 4000000 in
theorem bestIn_some (A0 : Option Addr) (c0 : Nat) (l0 : List Tk) (A1 : Option Addr) (c1 : Nat) (l1 : List Int) (wk : Int) (b : List Int × Nat) (w : World) (hT : Tab w) (hr0 : k39.C w A0 l0.length l0) (hc0 : l0.length ≤ c0) (hr1 : (Kd.int .i64).C w A1 l1.length l1) (hc1 : l1.length ≤ c1) (h : bestD l0 l1 wk = some b) :
  Calls Tryd.prog 30 #[.slice A0 l0.length c0, .slice A1 l1.length c1, .int .i64 wk] w fun e w' => ∃ v, e = .returned (.tuple #[v, .int .i64 (b.2 : Int), .bool true]) ∧ Kd.R (Kd.int .i64) 3 w' w.heap.size (fun _ => True) v b.1 ∧ Below w.heap.size w w' := by
 obtain ⟨G, hg⟩ := bestD_some h
 obtain ⟨h5, hp⟩ := fewD_some hg
 obtain ⟨hG, hroom, hw1, hw4⟩ := placeD_some hp
 have ok := graphD_ok hG
 have htk := graphD_tasks hG
 have htok := graphD_taskOk hG
 have hpool := graphD_pool hG
 have hfine := fine_of hG hroom hw1
 have h8 := ok.n8
 have hfb := fromF_best hg
 rw [h] at hfb
 have HG := m0 (fewIn_some A0 c0 l0 A1 c1 l1 wk G w hT hr0 hc0 hr1 hc1 hg)
 have HR1 := m0 hr1
 have HC1 := m0 hc1
 have HT := m0 hT
 have OK := m0 ok
 have HROOM := m0 hroom.1
 have HF := m0 hfine
 have HPO := m0 hpool
 subst htk
 have HTK := m0 htok
 have H5 := m0 h5
 have HFB := m0 hfb
 have hmk := run_make_ints G.tasks.length h8
 clear hr0 hr1 hT hp hG hroom ok htok hpool hfine hg hc0 hc1 h5 hfb h hw1 hw4
 go_enter Tryd.func30, Tryd.ntmps30
 go_wp2_with (first | (go_at_call 45; refine HG.out.mono ?_; rintro e w1 ⟨b_, rfl, hB, hgr⟩; have HB := m0 hB; have HI := m0 hgr; clear hB hgr) | (go_at_call 46; refine (size_calls b_ G _ HI.out).mono ?_; rintro e w2 ⟨rfl, rfl⟩) | (go_at_call 47; clear hmk; refine (from_start b_ G A1 c1 l1 wk b w1 (HT.out.of HB.out) HI.out OK.out HTK.out HPO.out HF.out H5.out HROOM.out (Kd.C_below HR1.out HB.out) HC1.out HFB.out).mono ?_; rintro e w3 ⟨rfl, A9, c9, hc5, hc6, hR9, hB9⟩; have HR9 := m0 hR9; have HB9 := m0 (below_step HB.out hB9); clear hR9 hB9))
 refine wp_region_still_lit rfl (by kernel_rfl) ?_
 change wpStill _ _ w3.drew (fun a' => Exit.then _ _ .normal a' w3.drew) _ _
 have hdr : Below w3.heap.size w3 w3.drew := below_drew (Below.refl _ _)
 revert hdr
 generalize w3.drew = w4
 intro hdr
 replace hc5 := pw_cell_below hdr hc5
 replace hc6 := pw_cell_below hdr hc6
 repeat still_step
 refine wpStill_nil ?_
 go_wp2
 refine bodyPost_ret (results_list (rs := [.tmp 6, .tmp 7, .tmp 8]) rfl (by simp) (.tmp (.tmp (.tmp .nil)))) rfl ?_
 exact ⟨_, rfl, Kd.R_below (Kd.R_lower HR9.out HB.out.size) hdr, below_step HB9.out hdr⟩
end Go.Proofs.YtimbfcedigaffaaDoor.Core
end
section
namespace Go.Proofs.YtimbfcedigaffaaDoor.P
open Go Go.RowKit Go.Shelf Go.Proofs.YtimbfcedigaffaaDoorW.PrintWords Go.Proofs.YtimbfcedigaffaaDoorW.PrintLast Go.Proofs.YtimbfcedigaffaaDoorW.PrintMore Go.Proofs.YtimbfcedigaffaaDoor.Core
attribute [local go_sem] Oper.semAt_some wide_fn wide_depth
def impl_BestTime.f (l0 : List S39) (l1 : List Int) (a2 : Int) : Option Int := some (bestTD l0 l1 a2)
set_option maxRecDepth 100000 in
set_option maxHeartbeats 2000000 in
theorem impl_BestTime.calls (A0 : Option Addr) (c0 : Nat) (l0 : List S39) (A1 : Option Addr) (c1 : Nat) (l1 : List Int) (a2 : Int) (r : Int) (w : World) (hr0 : Kd.C k39 w A0 l0.length l0) (hc0 : l0.length ≤ c0) (hr1 : Kd.C (Kd.int .i64) w A1 l1.length l1) (hc1 : l1.length ≤ c1) (hT : Tab w) (h : impl_BestTime.f l0 l1 a2 = some r) :
  Calls Tryd.prog 12 #[.slice A0 l0.length c0, .slice A1 l1.length c1, .int .i64 a2] w fun e w' => e = .returned (.int .i64 r) ∧ Below w.heap.size w w' := by
 have hr : bestTD l0 l1 a2 = r := Option.some.inj h
 clear h
 cases hb : bestD l0 l1 a2 with
 | none =>
  obtain rfl : -1 = r := by unfold bestTD at hr; rw [hb] at hr; exact hr
  have hfew : fewD l0 l1 a2 = none := best_none hb
  have HP := m0 (bestIn_none A0 c0 l0 A1 c1 l1 a2 w hT hr0 hc0 hr1 hc1 hfew)
  clear hr hb hfew hr0 hr1 hT
  go_enter Tryd.func12, Tryd.ntmps12
  go_wp2_with (go_at_call 30; refine HP.out.mono ?_; rintro e w1 ⟨rfl, hB⟩; have HB := m0 hB; clear hB)
  go_ret
  exact ⟨rfl, HB.out⟩
 | some b =>
  obtain rfl : (b.2 : Int) = r := by unfold bestTD at hr; rw [hb] at hr; exact hr
  have HP := m0 (bestIn_some A0 c0 l0 A1 c1 l1 a2 b w hT hr0 hc0 hr1 hc1 hb)
  clear hr hb hr0 hr1 hT
  go_enter Tryd.func12, Tryd.ntmps12
  go_wp2_with (go_at_call 30; refine HP.out.mono ?_; rintro e w1 ⟨v, rfl, hR, hB⟩; have HB := m0 hB; clear hB hR)
  go_ret
  exact ⟨rfl, HB.out⟩
end Go.Proofs.YtimbfcedigaffaaDoor.P
end
