/- The law FnExactUsedUnits holds of the given program: part 4: words and contracts that the proof uses. -/
import Derived.Test.YtffhdofcfkgoaaaDoorZFnExactUsedUnits3
import Derived.Laws.Bits64
section
namespace Go.Proofs.YtffhdofcfkgoaaaDoor.P
open Go.RowKit Go.Proofs.YtffhdofcfkgoaaaDoorW.PrintWords Go.Proofs.YtffhdofcfkgoaaaDoorW.PrintLast Go.Proofs.YtffhdofcfkgoaaaDoorW.PrintMore
attribute [local go_sem] max2_int min2_int max_two min_two max_three min_three max_four min_four   -- for this text's walks alone
set_option linter.unusedVariables false
set_option linter.unusedSimpArgs false
def laws_eqTaskS.l0 : Nat → List (S33) → List (S33) → Int → Option (Bool)
  | 0, _, _, _ => none
  | k + 1, x0, x1, x5 => if x5 < (x0.length : Int) then (if 0 ≤ x5 then (if x5 < (x1.length : Int) then ((laws_eqTask.f k ((rd_T33 x0 x5).f0) ((rd_T33 x0 x5).f1) ((rd_T33 x0 x5).f2) ((rd_T33 x0 x5).f3) ((rd_T33 x1 x5).f0) ((rd_T33 x1 x5).f1) ((rd_T33 x1 x5).f2) ((rd_T33 x1 x5).f3)).bind fun t224 => (if t224 = true then (laws_eqTaskS.l0 k x0 x1 (wrap64 (x5 + 1))) else (some false))) else (none)) else (none)) else (some true)
def laws_eqTaskS.f (k : Nat) (l0 : List (S33)) (l1 : List (S33)) : Option (Bool) := if (l0.length : Int) = (l1.length : Int) then (laws_eqTaskS.l0 k l0 l1 0) else (some false)
theorem laws_eqTaskS.mono_l : ∀ k, (∀ y0 y1 y2, LeO (laws_eqTaskS.l0 k y0 y1 y2) (laws_eqTaskS.l0 (k + 1) y0 y1 y2))
  | 0 => fun _ _ _ r h => by simp [laws_eqTaskS.l0] at h
  | k + 1 => by
    have ih0 := laws_eqTaskS.mono_l k
    · intro y0 y1 y2
      unfold laws_eqTaskS.l0
      repeat' first
      | (with_reducible exact ih0 _ _ _)
      | (with_reducible exact laws_eqTask.mono _ _ _ _ _ _ _ _ _)
      | (with_reducible exact LeO.refl _)
      | (with_reducible exact LeO.none _)
      | (with_reducible refine LeO.ite ?_ ?_)
      | (with_reducible refine LeO.bind ?_ (fun _ => ?_))
      | exact ih0 _ _ _
      | exact laws_eqTask.mono _ _ _ _ _ _ _ _ _
      | exact LeO.none _
      | refine LeO.ite ?_ ?_
      | refine LeO.bind ?_ (fun _ => ?_)
theorem laws_eqTaskS.mono : ∀ a0 a1 k, LeO (laws_eqTaskS.f k a0 a1) (laws_eqTaskS.f (k + 1) a0 a1) := by
  intro a0 a1 k
  have ih0 := laws_eqTaskS.mono_l k
  unfold laws_eqTaskS.f
  repeat' first
      | (with_reducible exact ih0 _ _ _)
      | (with_reducible exact laws_eqTask.mono _ _ _ _ _ _ _ _ _)
      | (with_reducible exact LeO.refl _)
      | (with_reducible exact LeO.none _)
      | (with_reducible refine LeO.ite ?_ ?_)
      | (with_reducible refine LeO.bind ?_ (fun _ => ?_))
      | exact ih0 _ _ _
      | exact laws_eqTask.mono _ _ _ _ _ _ _ _ _
      | exact LeO.none _
      | refine LeO.ite ?_ ?_
      | refine LeO.bind ?_ (fun _ => ?_)
def laws_eqTaskS.T6 : Bool × List (List Nat × List Nat) := (true, [([], []), ([], []), ([0, 1], [0, 1]), ([2], [2]), ([], []), ([], []), ([4, 5], [4, 5]), ([6], [6]), ([3, 7], [3, 7]), ([8], [8])])
def laws_eqTaskS.B6 : List Nat := [0, 0, 3, 7, 0, 0, 48, 112, 255, 511]
theorem laws_eqTaskS.tab6 : rtab .any (opsOf Tryd.f19 6) = laws_eqTaskS.T6 := by kernel_rfl
theorem laws_eqTaskS.bits6 : waitsOk laws_eqTaskS.T6.2 laws_eqTaskS.B6 = true := by kernel_rfl
set_option maxHeartbeats 8000000 in
set_option maxRecDepth 100000 in
theorem laws_eqTaskS.calls (k : Nat) (A0 : Option Addr) (c0 : Nat) (l0 : List (S33)) (A1 : Option Addr) (c1 : Nat) (l1 : List (S33)) (r : Bool) (w : World) (hr0 : Kd.C k33 w A0 l0.length l0) (hc0 : l0.length ≤ c0) (hr1 : Kd.C k33 w A1 l1.length l1) (hc1 : l1.length ≤ c1) (h : laws_eqTaskS.f k l0 l1 = some r) :
    Calls Tryd.prog 19 #[.slice A0 l0.length c0, .slice A1 l1.length c1] w fun e w' => e = .returned (.bool r) ∧ Below w.heap.size w w' := by
  have hu33 := Tryd.underlying33
  have HR0 := Aside0.mk hr0
  have HC0 := Aside0.mk hc0
  clear hr0 hc0
  have HR1 := Aside0.mk hr1
  have HC1 := Aside0.mk hc1
  clear hr1 hc1
  have HB := Aside0.mk (Below.refl w.heap.size w)
  have H : (if (l0.length : Int) = (l1.length : Int) then (laws_eqTaskS.l0 k l0 l1 0) else (some false)) = some r := h
  clear h
  by_cases c3 : (l0.length : Int) = (l1.length : Int)
  · rw [if_pos c3] at H
    have c3b0 : ((l0.length : Int) == (l1.length : Int)) = true := beq_iff_eq.mpr c3
    have c3b1 : ((l0.length : Int) != (l1.length : Int)) = false := bne_eq_false_iff_eq.mpr c3
    have c3b2 : (l0.length == l1.length) = true := by first | simpa using c3 | (simp at c3 ⊢; omega)
    clear c3
    have H' := Aside0.mk H
    clear H
    go_enter Tryd.func19, Tryd.ntmps19
    go_wp2
    go_loopg [5] k (fun kq v5 w' => ∃ (x5_1 : Int), v5 = .int .i64 x5_1 ∧ Aside0 (laws_eqTaskS.l0 kq l0 l1 x5_1 = some r) ∧ Aside0 (kq ≤ k) ∧ Aside0 (Below w.heap.size w w'))
    case atStart => exact ⟨(0), (by first | rfl | (simp; done) | (simp [*]; done)), H', ⟨Nat.le_refl _⟩, ⟨by repeat (first | (with_reducible first | exact HB.out | apply below_alloc | apply pw_below_drewN | apply below_drew1) | exact HB.out)⟩⟩
    case round =>
      clear H'
      try clear c1
      try clear p2
      try clear c3
      try clear c3b0
      try clear c3b1
      try clear c3b2
      obtain ⟨x5_1, rfl, HA, HK1, HB⟩ := hrel
      cases gk with
      | zero => exact absurd HA.out (by simp [laws_eqTaskS.l0])
      | succ k1 =>
        have H := HA.out
        clear HA
        simp only [laws_eqTaskS.l0] at H
        by_cases c4 : x5_1 < (l0.length : Int)
        · rw [if_pos c4] at H
          have c4b0 : decide (x5_1 < (l0.length : Int)) = true := decide_eq_true c4
          clear c4
          by_cases c5 : 0 ≤ x5_1
          · rw [if_pos c5] at H
            have c5b0 : decide (0 ≤ x5_1) = true := decide_eq_true c5
            clear c5
            by_cases c6 : x5_1 < (l1.length : Int)
            · rw [if_pos c6] at H
              have c6b0 : decide (x5_1 < (l1.length : Int)) = true := decide_eq_true c6
              clear c6
              replace H := Option.bind_eq_some_iff.mp H
              obtain ⟨t224, A70, H⟩ := H
              replace H : (if t224 = true then (laws_eqTaskS.l0 k1 l0 l1 (wrap64 (x5_1 + 1))) else (some false)) = some r := H
              have A7 := Aside0.mk A70
              clear A70
              by_cases c8 : t224 = true
              · subst c8
                have H1 : (laws_eqTaskS.l0 k1 l0 l1 (wrap64 (x5_1 + 1))) = some r := by rw [if_pos rfl] at H; exact H
                clear H
                have H := H1
                clear H1
                have H' := Aside0.mk H
                clear H
                try go_wp2
                have n0_ := Aside0.mk (below_drew1 HB.out)
                clear HB
                have HB := n0_
                clear n0_
                have p222 : 0 ≤ (x5_1 : Int) := of_decide_eq_true (by first | (with_reducible assumption) | assumption)
                have q222 : x5_1 < (l0.length : Int) := of_decide_eq_true (by first | (with_reducible assumption) | assumption)
                obtain ⟨ad222, A222_1, c222_1, e222, hx222_0, hx222_1, hx222_2, hx222_3, hl222_1, hi222_1⟩ := at_T33 HR0.out x5_1 p222 q222
                have hw222_3 := hx222_3
                have hw222_2 := hx222_2
                have hw222_1 := hx222_1
                have hw222_0 := hx222_0
                cases e222
                replace hx222_0 := (HB.out.cell (World.block_lt_of_cell? w _ hx222_0)).trans hx222_0
                replace hx222_1 := (HB.out.cell (World.block_lt_of_cell? w _ hx222_1)).trans hx222_1
                replace hx222_2 := (HB.out.cell (World.block_lt_of_cell? w _ hx222_2)).trans hx222_2
                replace hx222_3 := (HB.out.cell (World.block_lt_of_cell? w _ hx222_3)).trans hx222_3
                have HR222_1 := Aside0.mk hi222_1
                have HC222_1 := Aside0.mk hl222_1
                clear hi222_1 hl222_1
                replace p222 := eq_true p222
                replace q222 := eq_true q222
                have p223 : 0 ≤ (x5_1 : Int) := of_decide_eq_true (by first | (with_reducible assumption) | assumption)
                have q223 : x5_1 < (l1.length : Int) := of_decide_eq_true (by first | (with_reducible assumption) | assumption)
                obtain ⟨ad223, A223_1, c223_1, e223, hx223_0, hx223_1, hx223_2, hx223_3, hl223_1, hi223_1⟩ := at_T33 HR1.out x5_1 p223 q223
                have hw223_3 := hx223_3
                have hw223_2 := hx223_2
                have hw223_1 := hx223_1
                have hw223_0 := hx223_0
                cases e223
                replace hx223_0 := (HB.out.cell (World.block_lt_of_cell? w _ hx223_0)).trans hx223_0
                replace hx223_1 := (HB.out.cell (World.block_lt_of_cell? w _ hx223_1)).trans hx223_1
                replace hx223_2 := (HB.out.cell (World.block_lt_of_cell? w _ hx223_2)).trans hx223_2
                replace hx223_3 := (HB.out.cell (World.block_lt_of_cell? w _ hx223_3)).trans hx223_3
                have HR223_1 := Aside0.mk hi223_1
                have HC223_1 := Aside0.mk hl223_1
                clear hi223_1 hl223_1
                replace p223 := eq_true p223
                replace q223 := eq_true q223
                refine start_ (n := 10) (S := fun w' => w'.cell? (ad222.add ((x5_1).toNat * 4)) = some (.int .i64 ((rd_T33 l0 x5_1).f0)) ∧ w'.cell? ⟨(ad222.add ((x5_1).toNat * 4)).block, (ad222.add ((x5_1).toNat * 4)).off + 1, none⟩ = some (.slice A222_1 ((rd_T33 l0 x5_1).f1).length c222_1) ∧ w'.cell? ⟨(ad222.add ((x5_1).toNat * 4)).block, (ad222.add ((x5_1).toNat * 4)).off + 2, none⟩ = some (.int .i64 ((rd_T33 l0 x5_1).f2)) ∧ w'.cell? ⟨(ad222.add ((x5_1).toNat * 4)).block, (ad222.add ((x5_1).toNat * 4)).off + 3, none⟩ = some (.int .i64 ((rd_T33 l0 x5_1).f3)) ∧ w'.cell? (ad223.add ((x5_1).toNat * 4)) = some (.int .i64 ((rd_T33 l1 x5_1).f0)) ∧ w'.cell? ⟨(ad223.add ((x5_1).toNat * 4)).block, (ad223.add ((x5_1).toNat * 4)).off + 1, none⟩ = some (.slice A223_1 ((rd_T33 l1 x5_1).f1).length c223_1) ∧ w'.cell? ⟨(ad223.add ((x5_1).toNat * 4)).block, (ad223.add ((x5_1).toNat * 4)).off + 2, none⟩ = some (.int .i64 ((rd_T33 l1 x5_1).f2)) ∧ w'.cell? ⟨(ad223.add ((x5_1).toNat * 4)).block, (ad223.add ((x5_1).toNat * 4)).off + 3, none⟩ = some (.int .i64 ((rd_T33 l1 x5_1).f3))) (ds := []) #[false, false, false, false, false, false, false, false, false, false] (by kernel_rfl) rfl rfl ⟨((HB.out.cell (World.block_lt_of_cell? w _ hw222_0)).trans hw222_0), ((HB.out.cell (World.block_lt_of_cell? w _ hw222_1)).trans hw222_1), ((HB.out.cell (World.block_lt_of_cell? w _ hw222_2)).trans hw222_2), ((HB.out.cell (World.block_lt_of_cell? w _ hw222_3)).trans hw222_3), ((HB.out.cell (World.block_lt_of_cell? w _ hw223_0)).trans hw223_0), ((HB.out.cell (World.block_lt_of_cell? w _ hw223_1)).trans hw223_1), ((HB.out.cell (World.block_lt_of_cell? w _ hw223_2)).trans hw223_2), ((HB.out.cell (World.block_lt_of_cell? w _ hw223_3)).trans hw223_3)⟩ (fun hHeld => ?_); refine with_tabW laws_eqTaskS.tab6 laws_eqTaskS.bits6 (fun HT_ HW_ => ?_)
                generalize wr.drew = w9 at HB HR222_1 HR223_1 hx222_0 hx222_1 hx222_2 hx222_3 hx223_0 hx223_1 hx223_2 hx223_3 hHeld ⊢
                refine pure_ (i := 0) (N := some 17) (v := ?_) (a' := ?_) #[true, false, false, false, false, false, false, false, false, false] rfl rfl (any_of HT_.out (by kernel_rfl)) (fun _ _ _ h => h) (Or.inl ⟨by rfl, ?_⟩) ?_ ?_
                rotate_left
                · intro w'
                  go_simp
                  with_reducible rfl
                rotate_left
                · simp only [Act.put, List.setIfInBounds_toArray, List.set_cons_zero, List.set_cons_succ, i64_w, i32_w]
                  rfl
                refine pure_ (i := 1) (N := some 18) (v := ?_) (a' := ?_) #[true, true, false, false, false, false, false, false, false, false] rfl rfl (any_of HT_.out (by kernel_rfl)) (fun _ _ _ h => h) (Or.inl ⟨by rfl, ?_⟩) ?_ ?_
                rotate_left
                · intro w'
                  go_simp
                  with_reducible rfl
                rotate_left
                · simp only [Act.put, List.setIfInBounds_toArray, List.set_cons_zero, List.set_cons_succ, i64_w, i32_w]
                  rfl
                refine pure_ (i := 2) (N := some 19) (v := ?_) (a' := ?_) #[true, true, true, false, false, false, false, false, false, false] rfl rfl (any_of HT_.out (by kernel_rfl)) (fun _ _ _ h => h) (Or.inl ⟨by rfl, ?_⟩) ?_ ?_
                rotate_left
                · intro w'
                  go_simp
                  with_reducible rfl
                rotate_left
                · simp only [Act.put, List.setIfInBounds_toArray, List.set_cons_zero, List.set_cons_succ, i64_w, i32_w]
                  rfl
                refine pure_ (i := 4) (N := some 21) (v := ?_) (a' := ?_) #[true, true, true, false, true, false, false, false, false, false] rfl rfl (any_of HT_.out (by kernel_rfl)) (fun _ _ _ h => h) (Or.inl ⟨by rfl, ?_⟩) ?_ ?_
                rotate_left
                · intro w'
                  go_simp
                  with_reducible rfl
                rotate_left
                · simp only [Act.put, List.setIfInBounds_toArray, List.set_cons_zero, List.set_cons_succ, i64_w, i32_w]
                  rfl
                refine pure_ (i := 5) (N := some 22) (v := ?_) (a' := ?_) #[true, true, true, false, true, true, false, false, false, false] rfl rfl (any_of HT_.out (by kernel_rfl)) (fun _ _ _ h => h) (Or.inl ⟨by rfl, ?_⟩) ?_ ?_
                rotate_left
                · intro w'
                  go_simp
                  with_reducible rfl
                rotate_left
                · simp only [Act.put, List.setIfInBounds_toArray, List.set_cons_zero, List.set_cons_succ, i64_w, i32_w]
                  rfl
                refine pure_ (i := 6) (N := some 23) (v := ?_) (a' := ?_) #[true, true, true, false, true, true, true, false, false, false] rfl rfl (any_of HT_.out (by kernel_rfl)) (fun _ _ _ h => h) (Or.inl ⟨by rfl, ?_⟩) ?_ ?_
                rotate_left
                · intro w'
                  go_simp
                  with_reducible rfl
                rotate_left
                · simp only [Act.put, List.setIfInBounds_toArray, List.set_cons_zero, List.set_cons_succ, i64_w, i32_w]
                  rfl
                refine take_ (i := 3) (N := some 20) (v := ?_) (a' := ?_) #[true, true, true, true, true, true, true, false, false, false] rfl rfl (take_ofW HT_.out HW_.out (by kernel_rfl)) (fun _ _ _ h => h) (Or.inl ⟨by rfl, ?_⟩) hHeld ?_ ?_
                rotate_left
                · rintro w' ⟨s0, s1, s2, s3, s4, s5, s6, s7⟩
                  go_simp
                  with_reducible rfl
                rotate_left
                · simp only [Act.put, List.setIfInBounds_toArray, List.set_cons_zero, List.set_cons_succ, i64_w, i32_w]
                  rfl
                refine take_ (i := 7) (N := some 24) (v := ?_) (a' := ?_) #[true, true, true, true, true, true, true, true, false, false] rfl rfl (take_ofW HT_.out HW_.out (by kernel_rfl)) (fun _ _ _ h => h) (Or.inl ⟨by rfl, ?_⟩) hHeld ?_ ?_
                rotate_left
                · rintro w' ⟨s0, s1, s2, s3, s4, s5, s6, s7⟩
                  go_simp
                  with_reducible rfl
                rotate_left
                · simp only [Act.put, List.setIfInBounds_toArray, List.set_cons_zero, List.set_cons_succ, i64_w, i32_w]
                  rfl
                refine one_ (i := 8) (N := some 25) #[true, true, true, true, true, true, true, true, true, false] rfl rfl (one_of HT_.out (by kernel_rfl)) (by decide) (fun K hK => ?_)
                refine goes_ Tryd.func49 (by kernel_rfl) rfl #[.agg #[.int .i64 ((rd_T33 l0 x5_1).f0), .slice A222_1 ((rd_T33 l0 x5_1).f1).length c222_1, .int .i64 ((rd_T33 l0 x5_1).f2), .int .i64 ((rd_T33 l0 x5_1).f3)], .agg #[.int .i64 ((rd_T33 l1 x5_1).f0), .slice A223_1 ((rd_T33 l1 x5_1).f1).length c223_1, .int .i64 ((rd_T33 l1 x5_1).f2), .int .i64 ((rd_T33 l1 x5_1).f3)]] (by rfl) rfl rfl (by (try simp only [List.map_toArray, List.map_cons, List.map_nil]); first | done | rfl | (simp only [List.length_drop, List.length_take]; rfl)) ?_
                with_reducible refine (laws_eqTask.calls k1 ((rd_T33 l0 x5_1).f0) _ _ ((rd_T33 l0 x5_1).f1) ((rd_T33 l0 x5_1).f2) ((rd_T33 l0 x5_1).f3) ((rd_T33 l1 x5_1).f0) _ _ ((rd_T33 l1 x5_1).f1) ((rd_T33 l1 x5_1).f2) ((rd_T33 l1 x5_1).f3) true _ ?side1 ?side2 ?side3 ?side4 A7.out).mono ?_
                (case side1 => repeat (first | exact (Kd.C_below HR222_1.out HB.out) | (with_reducible refine Kd.C_alloc ?_ _) | (with_reducible refine Kd.C_drewN ?_ _) | (with_reducible refine Kd.C_drew ?_)))
                (case side2 => exact HC222_1.out)
                (case side3 => repeat (first | exact (Kd.C_below HR223_1.out HB.out) | (with_reducible refine Kd.C_alloc ?_ _) | (with_reducible refine Kd.C_drewN ?_ _) | (with_reducible refine Kd.C_drew ?_)))
                (case side4 => exact HC223_1.out)
                rintro e w10 ⟨rfl, hb⟩
                refine ⟨_, rfl, ?_⟩
                have n0_ := Aside0.mk (below_step (by repeat (first | (with_reducible first | exact HB.out | apply below_alloc | apply pw_below_drewN | apply below_drew1) | exact HB.out)) hb)
                clear HB
                have HB := n0_
                clear n0_
                (try clear hb)
                (try clear hb2)
                (try clear hk)
                (try clear hi)
                refine hK.out _ _ ⟨((HB.out.cell (World.block_lt_of_cell? w _ hw222_0)).trans hw222_0), ((HB.out.cell (World.block_lt_of_cell? w _ hw222_1)).trans hw222_1), ((HB.out.cell (World.block_lt_of_cell? w _ hw222_2)).trans hw222_2), ((HB.out.cell (World.block_lt_of_cell? w _ hw222_3)).trans hw222_3), ((HB.out.cell (World.block_lt_of_cell? w _ hw223_0)).trans hw223_0), ((HB.out.cell (World.block_lt_of_cell? w _ hw223_1)).trans hw223_1), ((HB.out.cell (World.block_lt_of_cell? w _ hw223_2)).trans hw223_2), ((HB.out.cell (World.block_lt_of_cell? w _ hw223_3)).trans hw223_3)⟩ (fun hHeld => ?_)
                clear hK K
                refine norm_ (a' := ?_) ?_ ?_
                rotate_left
                · show Act.put _ (some 25) _ = _
                  simp only [Act.put, List.setIfInBounds_toArray, List.set_cons_zero, List.set_cons_succ, i64_w, i32_w]
                  rfl
                refine pure_ (i := 9) (N := some 26) (v := ?_) (a' := ?_) #[true, true, true, true, true, true, true, true, true, true] rfl rfl (any_of HT_.out (by kernel_rfl)) (fun _ _ _ h => h) (Or.inl ⟨by rfl, ?_⟩) ?_ ?_
                rotate_left
                · intro w'
                  go_simp
                  with_reducible rfl
                rotate_left
                · simp only [Act.put, List.setIfInBounds_toArray, List.set_cons_zero, List.set_cons_succ, i64_w, i32_w]
                  rfl
                refine done_ (done_of HT_.out (by kernel_rfl)) ?_
                try go_wp2
                go_roundg k1
                case measure => have := HK1.out; omega
                case rel => exact ⟨(wrap64 (x5_1 + 1)), (by first | rfl | (simp; done) | (simp [*]; done)), H', ⟨by have := HK1.out; omega⟩, ⟨by repeat (first | (with_reducible first | exact HB.out | apply below_alloc | apply pw_below_drewN | apply below_drew1) | exact HB.out)⟩⟩
              · replace c8 := Bool.eq_false_iff.mpr c8
                subst c8
                have H1 : (some false) = some r := by rw [if_neg (show ¬ (false = true) by decide)] at H; exact H
                clear H
                have H := H1
                clear H1
                obtain rfl := Option.some.inj H
                try go_wp2
                have n0_ := Aside0.mk (below_drew1 HB.out)
                clear HB
                have HB := n0_
                clear n0_
                have p222 : 0 ≤ (x5_1 : Int) := of_decide_eq_true (by first | (with_reducible assumption) | assumption)
                have q222 : x5_1 < (l0.length : Int) := of_decide_eq_true (by first | (with_reducible assumption) | assumption)
                obtain ⟨ad222, A222_1, c222_1, e222, hx222_0, hx222_1, hx222_2, hx222_3, hl222_1, hi222_1⟩ := at_T33 HR0.out x5_1 p222 q222
                have hw222_3 := hx222_3
                have hw222_2 := hx222_2
                have hw222_1 := hx222_1
                have hw222_0 := hx222_0
                cases e222
                replace hx222_0 := (HB.out.cell (World.block_lt_of_cell? w _ hx222_0)).trans hx222_0
                replace hx222_1 := (HB.out.cell (World.block_lt_of_cell? w _ hx222_1)).trans hx222_1
                replace hx222_2 := (HB.out.cell (World.block_lt_of_cell? w _ hx222_2)).trans hx222_2
                replace hx222_3 := (HB.out.cell (World.block_lt_of_cell? w _ hx222_3)).trans hx222_3
                have HR222_1 := Aside0.mk hi222_1
                have HC222_1 := Aside0.mk hl222_1
                clear hi222_1 hl222_1
                replace p222 := eq_true p222
                replace q222 := eq_true q222
                have p223 : 0 ≤ (x5_1 : Int) := of_decide_eq_true (by first | (with_reducible assumption) | assumption)
                have q223 : x5_1 < (l1.length : Int) := of_decide_eq_true (by first | (with_reducible assumption) | assumption)
                obtain ⟨ad223, A223_1, c223_1, e223, hx223_0, hx223_1, hx223_2, hx223_3, hl223_1, hi223_1⟩ := at_T33 HR1.out x5_1 p223 q223
                have hw223_3 := hx223_3
                have hw223_2 := hx223_2
                have hw223_1 := hx223_1
                have hw223_0 := hx223_0
                cases e223
                replace hx223_0 := (HB.out.cell (World.block_lt_of_cell? w _ hx223_0)).trans hx223_0
                replace hx223_1 := (HB.out.cell (World.block_lt_of_cell? w _ hx223_1)).trans hx223_1
                replace hx223_2 := (HB.out.cell (World.block_lt_of_cell? w _ hx223_2)).trans hx223_2
                replace hx223_3 := (HB.out.cell (World.block_lt_of_cell? w _ hx223_3)).trans hx223_3
                have HR223_1 := Aside0.mk hi223_1
                have HC223_1 := Aside0.mk hl223_1
                clear hi223_1 hl223_1
                replace p223 := eq_true p223
                replace q223 := eq_true q223
                refine start_ (n := 10) (S := fun w' => w'.cell? (ad222.add ((x5_1).toNat * 4)) = some (.int .i64 ((rd_T33 l0 x5_1).f0)) ∧ w'.cell? ⟨(ad222.add ((x5_1).toNat * 4)).block, (ad222.add ((x5_1).toNat * 4)).off + 1, none⟩ = some (.slice A222_1 ((rd_T33 l0 x5_1).f1).length c222_1) ∧ w'.cell? ⟨(ad222.add ((x5_1).toNat * 4)).block, (ad222.add ((x5_1).toNat * 4)).off + 2, none⟩ = some (.int .i64 ((rd_T33 l0 x5_1).f2)) ∧ w'.cell? ⟨(ad222.add ((x5_1).toNat * 4)).block, (ad222.add ((x5_1).toNat * 4)).off + 3, none⟩ = some (.int .i64 ((rd_T33 l0 x5_1).f3)) ∧ w'.cell? (ad223.add ((x5_1).toNat * 4)) = some (.int .i64 ((rd_T33 l1 x5_1).f0)) ∧ w'.cell? ⟨(ad223.add ((x5_1).toNat * 4)).block, (ad223.add ((x5_1).toNat * 4)).off + 1, none⟩ = some (.slice A223_1 ((rd_T33 l1 x5_1).f1).length c223_1) ∧ w'.cell? ⟨(ad223.add ((x5_1).toNat * 4)).block, (ad223.add ((x5_1).toNat * 4)).off + 2, none⟩ = some (.int .i64 ((rd_T33 l1 x5_1).f2)) ∧ w'.cell? ⟨(ad223.add ((x5_1).toNat * 4)).block, (ad223.add ((x5_1).toNat * 4)).off + 3, none⟩ = some (.int .i64 ((rd_T33 l1 x5_1).f3))) (ds := []) #[false, false, false, false, false, false, false, false, false, false] (by kernel_rfl) rfl rfl ⟨((HB.out.cell (World.block_lt_of_cell? w _ hw222_0)).trans hw222_0), ((HB.out.cell (World.block_lt_of_cell? w _ hw222_1)).trans hw222_1), ((HB.out.cell (World.block_lt_of_cell? w _ hw222_2)).trans hw222_2), ((HB.out.cell (World.block_lt_of_cell? w _ hw222_3)).trans hw222_3), ((HB.out.cell (World.block_lt_of_cell? w _ hw223_0)).trans hw223_0), ((HB.out.cell (World.block_lt_of_cell? w _ hw223_1)).trans hw223_1), ((HB.out.cell (World.block_lt_of_cell? w _ hw223_2)).trans hw223_2), ((HB.out.cell (World.block_lt_of_cell? w _ hw223_3)).trans hw223_3)⟩ (fun hHeld => ?_); refine with_tabW laws_eqTaskS.tab6 laws_eqTaskS.bits6 (fun HT_ HW_ => ?_)
                generalize wr.drew = w11 at HB HR222_1 HR223_1 hx222_0 hx222_1 hx222_2 hx222_3 hx223_0 hx223_1 hx223_2 hx223_3 hHeld ⊢
                refine pure_ (i := 0) (N := some 17) (v := ?_) (a' := ?_) #[true, false, false, false, false, false, false, false, false, false] rfl rfl (any_of HT_.out (by kernel_rfl)) (fun _ _ _ h => h) (Or.inl ⟨by rfl, ?_⟩) ?_ ?_
                rotate_left
                · intro w'
                  go_simp
                  with_reducible rfl
                rotate_left
                · simp only [Act.put, List.setIfInBounds_toArray, List.set_cons_zero, List.set_cons_succ, i64_w, i32_w]
                  rfl
                refine pure_ (i := 1) (N := some 18) (v := ?_) (a' := ?_) #[true, true, false, false, false, false, false, false, false, false] rfl rfl (any_of HT_.out (by kernel_rfl)) (fun _ _ _ h => h) (Or.inl ⟨by rfl, ?_⟩) ?_ ?_
                rotate_left
                · intro w'
                  go_simp
                  with_reducible rfl
                rotate_left
                · simp only [Act.put, List.setIfInBounds_toArray, List.set_cons_zero, List.set_cons_succ, i64_w, i32_w]
                  rfl
                refine pure_ (i := 2) (N := some 19) (v := ?_) (a' := ?_) #[true, true, true, false, false, false, false, false, false, false] rfl rfl (any_of HT_.out (by kernel_rfl)) (fun _ _ _ h => h) (Or.inl ⟨by rfl, ?_⟩) ?_ ?_
                rotate_left
                · intro w'
                  go_simp
                  with_reducible rfl
                rotate_left
                · simp only [Act.put, List.setIfInBounds_toArray, List.set_cons_zero, List.set_cons_succ, i64_w, i32_w]
                  rfl
                refine pure_ (i := 4) (N := some 21) (v := ?_) (a' := ?_) #[true, true, true, false, true, false, false, false, false, false] rfl rfl (any_of HT_.out (by kernel_rfl)) (fun _ _ _ h => h) (Or.inl ⟨by rfl, ?_⟩) ?_ ?_
                rotate_left
                · intro w'
                  go_simp
                  with_reducible rfl
                rotate_left
                · simp only [Act.put, List.setIfInBounds_toArray, List.set_cons_zero, List.set_cons_succ, i64_w, i32_w]
                  rfl
                refine pure_ (i := 5) (N := some 22) (v := ?_) (a' := ?_) #[true, true, true, false, true, true, false, false, false, false] rfl rfl (any_of HT_.out (by kernel_rfl)) (fun _ _ _ h => h) (Or.inl ⟨by rfl, ?_⟩) ?_ ?_
                rotate_left
                · intro w'
                  go_simp
                  with_reducible rfl
                rotate_left
                · simp only [Act.put, List.setIfInBounds_toArray, List.set_cons_zero, List.set_cons_succ, i64_w, i32_w]
                  rfl
                refine pure_ (i := 6) (N := some 23) (v := ?_) (a' := ?_) #[true, true, true, false, true, true, true, false, false, false] rfl rfl (any_of HT_.out (by kernel_rfl)) (fun _ _ _ h => h) (Or.inl ⟨by rfl, ?_⟩) ?_ ?_
                rotate_left
                · intro w'
                  go_simp
                  with_reducible rfl
                rotate_left
                · simp only [Act.put, List.setIfInBounds_toArray, List.set_cons_zero, List.set_cons_succ, i64_w, i32_w]
                  rfl
                refine take_ (i := 3) (N := some 20) (v := ?_) (a' := ?_) #[true, true, true, true, true, true, true, false, false, false] rfl rfl (take_ofW HT_.out HW_.out (by kernel_rfl)) (fun _ _ _ h => h) (Or.inl ⟨by rfl, ?_⟩) hHeld ?_ ?_
                rotate_left
                · rintro w' ⟨s0, s1, s2, s3, s4, s5, s6, s7⟩
                  go_simp
                  with_reducible rfl
                rotate_left
                · simp only [Act.put, List.setIfInBounds_toArray, List.set_cons_zero, List.set_cons_succ, i64_w, i32_w]
                  rfl
                refine take_ (i := 7) (N := some 24) (v := ?_) (a' := ?_) #[true, true, true, true, true, true, true, true, false, false] rfl rfl (take_ofW HT_.out HW_.out (by kernel_rfl)) (fun _ _ _ h => h) (Or.inl ⟨by rfl, ?_⟩) hHeld ?_ ?_
                rotate_left
                · rintro w' ⟨s0, s1, s2, s3, s4, s5, s6, s7⟩
                  go_simp
                  with_reducible rfl
                rotate_left
                · simp only [Act.put, List.setIfInBounds_toArray, List.set_cons_zero, List.set_cons_succ, i64_w, i32_w]
                  rfl
                refine one_ (i := 8) (N := some 25) #[true, true, true, true, true, true, true, true, true, false] rfl rfl (one_of HT_.out (by kernel_rfl)) (by decide) (fun K hK => ?_)
                refine goes_ Tryd.func49 (by kernel_rfl) rfl #[.agg #[.int .i64 ((rd_T33 l0 x5_1).f0), .slice A222_1 ((rd_T33 l0 x5_1).f1).length c222_1, .int .i64 ((rd_T33 l0 x5_1).f2), .int .i64 ((rd_T33 l0 x5_1).f3)], .agg #[.int .i64 ((rd_T33 l1 x5_1).f0), .slice A223_1 ((rd_T33 l1 x5_1).f1).length c223_1, .int .i64 ((rd_T33 l1 x5_1).f2), .int .i64 ((rd_T33 l1 x5_1).f3)]] (by rfl) rfl rfl (by (try simp only [List.map_toArray, List.map_cons, List.map_nil]); first | done | rfl | (simp only [List.length_drop, List.length_take]; rfl)) ?_
                with_reducible refine (laws_eqTask.calls k1 ((rd_T33 l0 x5_1).f0) _ _ ((rd_T33 l0 x5_1).f1) ((rd_T33 l0 x5_1).f2) ((rd_T33 l0 x5_1).f3) ((rd_T33 l1 x5_1).f0) _ _ ((rd_T33 l1 x5_1).f1) ((rd_T33 l1 x5_1).f2) ((rd_T33 l1 x5_1).f3) false _ ?side1 ?side2 ?side3 ?side4 A7.out).mono ?_
                (case side1 => repeat (first | exact (Kd.C_below HR222_1.out HB.out) | (with_reducible refine Kd.C_alloc ?_ _) | (with_reducible refine Kd.C_drewN ?_ _) | (with_reducible refine Kd.C_drew ?_)))
                (case side2 => exact HC222_1.out)
                (case side3 => repeat (first | exact (Kd.C_below HR223_1.out HB.out) | (with_reducible refine Kd.C_alloc ?_ _) | (with_reducible refine Kd.C_drewN ?_ _) | (with_reducible refine Kd.C_drew ?_)))
                (case side4 => exact HC223_1.out)
                rintro e w12 ⟨rfl, hb⟩
                refine ⟨_, rfl, ?_⟩
                have n0_ := Aside0.mk (below_step (by repeat (first | (with_reducible first | exact HB.out | apply below_alloc | apply pw_below_drewN | apply below_drew1) | exact HB.out)) hb)
                clear HB
                have HB := n0_
                clear n0_
                (try clear hb)
                (try clear hb2)
                (try clear hk)
                (try clear hi)
                refine hK.out _ _ ⟨((HB.out.cell (World.block_lt_of_cell? w _ hw222_0)).trans hw222_0), ((HB.out.cell (World.block_lt_of_cell? w _ hw222_1)).trans hw222_1), ((HB.out.cell (World.block_lt_of_cell? w _ hw222_2)).trans hw222_2), ((HB.out.cell (World.block_lt_of_cell? w _ hw222_3)).trans hw222_3), ((HB.out.cell (World.block_lt_of_cell? w _ hw223_0)).trans hw223_0), ((HB.out.cell (World.block_lt_of_cell? w _ hw223_1)).trans hw223_1), ((HB.out.cell (World.block_lt_of_cell? w _ hw223_2)).trans hw223_2), ((HB.out.cell (World.block_lt_of_cell? w _ hw223_3)).trans hw223_3)⟩ (fun hHeld => ?_)
                clear hK K
                refine norm_ (a' := ?_) ?_ ?_
                rotate_left
                · show Act.put _ (some 25) _ = _
                  simp only [Act.put, List.setIfInBounds_toArray, List.set_cons_zero, List.set_cons_succ, i64_w, i32_w]
                  rfl
                refine pure_ (i := 9) (N := some 26) (v := ?_) (a' := ?_) #[true, true, true, true, true, true, true, true, true, true] rfl rfl (any_of HT_.out (by kernel_rfl)) (fun _ _ _ h => h) (Or.inl ⟨by rfl, ?_⟩) ?_ ?_
                rotate_left
                · intro w'
                  go_simp
                  with_reducible rfl
                rotate_left
                · simp only [Act.put, List.setIfInBounds_toArray, List.set_cons_zero, List.set_cons_succ, i64_w, i32_w]
                  rfl
                refine done_ (done_of HT_.out (by kernel_rfl)) ?_
                try go_wp2
                go_ret
                exact ⟨by first | rfl | (simp [errW_none, errW_some] <;> rfl) | (simp [*, errW_none, errW_some] <;> rfl), by repeat (first | (with_reducible first | exact HB.out | apply below_alloc | apply pw_below_drewN | apply below_drew1) | exact HB.out)⟩
            · rw [if_neg c6] at H
              exact absurd H (by simp)
          · rw [if_neg c5] at H
            exact absurd H (by simp)
        · rw [if_neg c4] at H
          have c4b0 : decide (x5_1 < (l0.length : Int)) = false := decide_eq_false c4
          clear c4
          obtain rfl := Option.some.inj H
          go_wp2
          go_ret
          exact ⟨by first | rfl | (simp [errW_none, errW_some] <;> rfl) | (simp [*, errW_none, errW_some] <;> rfl), by repeat (first | (with_reducible first | exact HB.out | apply below_alloc | apply pw_below_drewN | apply below_drew1) | exact HB.out)⟩
  · rw [if_neg c3] at H
    have c3b0 : ((l0.length : Int) == (l1.length : Int)) = false := beq_eq_false_iff_ne.mpr c3
    have c3b1 : ((l0.length : Int) != (l1.length : Int)) = true := bne_iff_ne.mpr c3
    have c3b2 : (l0.length == l1.length) = false := by first | simpa using c3 | (simp at c3 ⊢; omega)
    obtain rfl := Option.some.inj H
    go_enter Tryd.func19, Tryd.ntmps19
    go_wp2
    go_ret
    exact ⟨by first | rfl | (simp [errW_none, errW_some] <;> rfl) | (simp [*, errW_none, errW_some] <;> rfl), by repeat (first | (with_reducible first | exact HB.out | apply below_alloc | apply pw_below_drewN | apply below_drew1) | exact HB.out)⟩
end Go.Proofs.YtffhdofcfkgoaaaDoor.P
end
section
namespace Go.Proofs.YtffhdofcfkgoaaaDoor.P
open Go.RowKit Go.Proofs.YtffhdofcfkgoaaaDoorW.PrintWords Go.Proofs.YtffhdofcfkgoaaaDoorW.PrintLast Go.Proofs.YtffhdofcfkgoaaaDoorW.PrintMore
attribute [local go_sem] max2_int min2_int max_two min_two max_three min_three max_four min_four   -- for this text's walks alone
set_option linter.unusedVariables false
set_option linter.unusedSimpArgs false
def laws_markIntS.l0 : Nat → List Int → Int → Int → Option (Int × List Int)
  | 0, _, _, _ => none
  | k + 1, x0, x1, x5 => if x5 < (x0.length : Int) then (if 0 ≤ x5 then (laws_markIntS.l0 k (x0.set (x5 : Int).toNat x1) (wrap64 (x1 + 1)) (wrap64 (x5 + 1))) else (none)) else (some (x1, x0))
def laws_markIntS.f (k : Nat) (l0 : List Int) (a1 : Int) : Option (Int × List Int) := laws_markIntS.l0 k l0 a1 0
theorem laws_markIntS.mono_l : ∀ k, (∀ y0 y1 y2, LeO (laws_markIntS.l0 k y0 y1 y2) (laws_markIntS.l0 (k + 1) y0 y1 y2))
  | 0 => fun _ _ _ r h => by simp [laws_markIntS.l0] at h
  | k + 1 => by
    have ih0 := laws_markIntS.mono_l k
    · intro y0 y1 y2
      unfold laws_markIntS.l0
      repeat' first
      | (with_reducible exact ih0 _ _ _)
      | (with_reducible exact LeO.refl _)
      | (with_reducible exact LeO.none _)
      | (with_reducible refine LeO.ite ?_ ?_)
      | (with_reducible refine LeO.bind ?_ (fun _ => ?_))
      | exact ih0 _ _ _
      | exact LeO.none _
      | refine LeO.ite ?_ ?_
      | refine LeO.bind ?_ (fun _ => ?_)
theorem laws_markIntS.mono : ∀ a0 a1 k, LeO (laws_markIntS.f k a0 a1) (laws_markIntS.f (k + 1) a0 a1) := by
  intro a0 a1 k
  have ih0 := laws_markIntS.mono_l k
  unfold laws_markIntS.f
  repeat' first
      | (with_reducible exact ih0 _ _ _)
      | (with_reducible exact LeO.refl _)
      | (with_reducible exact LeO.none _)
      | (with_reducible refine LeO.ite ?_ ?_)
      | (with_reducible refine LeO.bind ?_ (fun _ => ?_))
      | exact ih0 _ _ _
      | exact LeO.none _
      | refine LeO.ite ?_ ?_
      | refine LeO.bind ?_ (fun _ => ?_)
set_option maxHeartbeats 8000000 in
set_option maxRecDepth 100000 in
theorem laws_markIntS.calls (k : Nat) {e_ : TypeId} (P0_ : Nat → Prop) (u9000_ : Value) (l0 : List Int) (a1 : Int) (r1 : Int) (r2 : List Int) (w0 w : World) (hB : Below w0.heap.size w0 w) (ho0 : Kd.R (Kd.int .i64) e_ w w0.heap.size P0_ u9000_ l0) (h : laws_markIntS.f k l0 a1 = some (r1, r2)) :
    Calls Tryd.prog 28 #[u9000_, .int .i64 a1] w fun e w' => e = .returned (.int .i64 r1) ∧ Kd.R (Kd.int .i64) e_ w' w0.heap.size (fun k_ => (P0_ k_ ∨ w.heap.size ≤ k_)) u9000_ r2 ∧ Below w0.heap.size w0 w' ∧ Kept w w' (fun k_ => P0_ k_) := by
  have HO0 := Aside0.mk (show Kd.R (Kd.int .i64) e_ w w0.heap.size (fun k_ => (P0_ k_ ∨ w.heap.size ≤ k_)) u9000_ l0 from Kd.R_mono ho0 (fun k_ hk => (.inl hk)))
  have HK := Aside0.mk (Kept.refl w (fun k_ => P0_ k_))
  have HW0 := Aside0.mk hB.size
  have HB := Aside0.mk hB
  clear hB
  have H : (laws_markIntS.l0 k l0 a1 0) = some (r1, r2) := h
  clear h
  have H' := Aside0.mk H
  clear H
  go_enter Tryd.func28, Tryd.ntmps28
  go_wp2
  go_loopg [1, 5] k (fun kq v1 v5 w' => ∃ (x0_1 : List Int) (x1_1 : Int) (x5_1 : Int), v1 = .int .i64 x1_1 ∧ v5 = .int .i64 x5_1 ∧ Aside0 (laws_markIntS.l0 kq x0_1 x1_1 x5_1 = some (r1, r2)) ∧ Aside0 (kq ≤ k) ∧ Aside0 (Kd.R (Kd.int .i64) e_ w' w0.heap.size (fun k_ => (P0_ k_ ∨ w.heap.size ≤ k_)) u9000_ x0_1) ∧ Aside0 (Kept w w' (fun k_ => P0_ k_)) ∧ Aside0 (Below w0.heap.size w0 w'))
  case atStart => exact ⟨(l0), (a1), (0), (by first | rfl | (simp; done) | (simp [*]; done)), (by first | rfl | (simp; done) | (simp [*]; done)), H', ⟨Nat.le_refl _⟩, ⟨by (with_reducible repeat (first | apply Kd.R_alloc | apply Kd.R_drewN | apply Kd.R_drew)); exact HO0.out⟩, ⟨by repeat (first | (with_reducible first | exact HK.out | apply Kept.alloc | apply Kept.drewN | apply Kept.drew) | exact HK.out)⟩, ⟨by repeat (first | (with_reducible first | exact HB.out | apply below_alloc | apply pw_below_drewN | apply below_drew1) | exact HB.out)⟩⟩
  case round =>
    clear H'
    try clear c2
    try clear p2
    obtain ⟨x0_1, x1_1, x5_1, rfl, rfl, HA, HK1, HO_0, HK, HB⟩ := hrel
    cases gk with
    | zero => exact absurd HA.out (by simp [laws_markIntS.l0])
    | succ k1 =>
      have H := HA.out
      clear HA
      simp only [laws_markIntS.l0] at H
      by_cases c3 : x5_1 < (x0_1.length : Int)
      · rw [if_pos c3] at H
        have c3b0 : decide (x5_1 < (x0_1.length : Int)) = true := decide_eq_true c3
        clear c3
        by_cases c4 : 0 ≤ x5_1
        · rw [if_pos c4] at H
          have c4b0 : decide (0 ≤ x5_1) = true := decide_eq_true c4
          clear c4
          obtain ⟨y405, hy405⟩ : ∃ y_ : List Int, y_ = (x0_1.set (x5_1 : Int).toNat x1_1) := ⟨_, rfl⟩
          replace H : (laws_markIntS.l0 k1 y405 (wrap64 (x1_1 + 1)) (wrap64 (x5_1 + 1))) = some (r1, r2) := by first | (rw [hy405]; with_reducible exact H) | (have H2_ := (Option.bind_some _ _).symm.trans H; rw [hy405]; with_reducible exact H2_) | (have H2_ := (Option.bind_some _ _).symm.trans H; with_reducible exact H2_) | with_reducible exact H | (rw [hy405]; exact H) | exact H
          have Ny405 := Aside0.mk hy405
          clear hy405
          have H' := Aside0.mk H
          clear H
          obtain ⟨Ao6, co6, eo6⟩ := Kd.R_slice HO_0.out
          subst eo6
          have p5 : 0 ≤ (x5_1 : Int) := of_decide_eq_true (by first | (with_reducible assumption) | assumption)
          have q5 : (x5_1 : Int) < ((x0_1.length : Int) : Int) := of_decide_eq_true (by first | (with_reducible assumption) | assumption)
          obtain ⟨go5, co5, eo5, gb5, gl5, cl5, HG5⟩ := Kd.R_form HO_0.out (by omega)
          (first | cases eo5 | (injection eo5 with ea_ en_ ec_; (first | subst ea_ | (injection ea_ with ea_; subst ea_)); subst ec_; clear en_))
          have GB5 := Aside0.mk gb5
          have GG5 := Aside0.mk HG5
          clear gb5 gl5 HG5
          have HMgo5 := Aside0.mk (show (P0_ go5 ∨ w.heap.size ≤ go5) from (HO_0.out.1 _ rfl))
          obtain ⟨hx5_0, hf5_0⟩ := Kd.R_celln 0 HO_0.out (x5_1 : Int) p5 q5
          replace p5 := eq_true p5
          replace q5 := eq_true q5
          have HP7 := Kd.R_putg HO_0.out (x5_1 : Int) x1_1
          go_wp2_with (first | ((with_reducible refine gate_store (t := 3) (p := 15) rfl ?_); refine store_event (t := 3) (p := 15) (v := ?vo_w8) (w1 := (wr.setCell ⟨go5, (x5_1 : Int).toNat, none⟩ (.int .i64 x1_1))) ?hg ?ho ?hn ?hr ?_; (case ho => rfl); (case hg => rfl); (case hn => rfl); (case hr => (first | (go_simp; done) | (go_simp; rfl))); intro w8 hw; have hg : wr.grownBy w8 (some go5) := (by rw [hw]; exact HP7.2); have hp_ : Kd.R (Kd.int .i64) e_ w8 w0.heap.size (fun k_ => (P0_ k_ ∨ w.heap.size ≤ k_)) (.slice (some ⟨go5, 0, none⟩) x0_1.length co6) y405 := (by rw [hw, Ny405.out]; exact HP7.1); clear HP7; have n0_ := Aside0.mk (hp_); have n1_ := Aside0.mk ((by rw [hw]; exact below_set (HB.out) GB5.out : Below w0.heap.size w0 w8)); have n2_ := Aside0.mk (Kept.of_grown (S := (fun k_ => P0_ k_)) hg (by repeat (first | (with_reducible first | exact HK.out | apply Kept.alloc | apply Kept.drewN | apply Kept.drew) | exact HK.out)) (fun k_ e_ => (HO_0.out.1 k_ e_))); clear HO_0; clear HB; clear HK; have HO_0 := n0_; have HB := n1_; have HK := n2_; clear n0_ n1_ n2_; clear hg hw hp_))
          go_roundg k1
          case measure => have := HK1.out; omega
          case rel => exact ⟨(y405), (wrap64 (x1_1 + 1)), (wrap64 (x5_1 + 1)), (by first | rfl | (simp; done) | (simp [*]; done)), (by first | rfl | (simp; done) | (simp [*]; done)), H', ⟨by have := HK1.out; omega⟩, ⟨by (with_reducible repeat (first | apply Kd.R_alloc | apply Kd.R_drewN | apply Kd.R_drew)); exact HO_0.out⟩, ⟨by repeat (first | (with_reducible first | exact HK.out | apply Kept.alloc | apply Kept.drewN | apply Kept.drew) | exact HK.out)⟩, ⟨by repeat (first | (with_reducible first | exact HB.out | apply below_alloc | apply pw_below_drewN | apply below_drew1) | exact HB.out)⟩⟩
        · rw [if_neg c4] at H
          exact absurd H (by simp)
      · rw [if_neg c3] at H
        have c3b0 : decide (x5_1 < (x0_1.length : Int)) = false := decide_eq_false c3
        clear c3
        simp only [Option.some.injEq, Prod.mk.injEq] at H
        obtain ⟨rfl, rfl⟩ := H
        obtain ⟨Ao9, co9, eo9⟩ := Kd.R_slice HO_0.out
        subst eo9
        go_wp2
        go_ret
        exact ⟨by first | rfl | (simp [errW_none, errW_some] <;> rfl) | (simp [*, errW_none, errW_some] <;> rfl), by (with_reducible repeat (first | apply Kd.R_alloc | apply Kd.R_drewN | apply Kd.R_drew)); exact HO_0.out, by repeat (first | (with_reducible first | exact HB.out | apply below_alloc | apply pw_below_drewN | apply below_drew1) | exact HB.out), by repeat (first | (with_reducible first | exact HK.out | apply Kept.alloc | apply Kept.drewN | apply Kept.drew) | exact HK.out)⟩
end Go.Proofs.YtffhdofcfkgoaaaDoor.P
end
section
namespace Go.Proofs.YtffhdofcfkgoaaaDoor.P
open Go.RowKit Go.Proofs.YtffhdofcfkgoaaaDoorW.PrintWords Go.Proofs.YtffhdofcfkgoaaaDoorW.PrintLast Go.Proofs.YtffhdofcfkgoaaaDoorW.PrintMore
attribute [local go_sem] max2_int min2_int max_two min_two max_three min_three max_four min_four   -- for this text's walks alone
set_option linter.unusedVariables false
set_option linter.unusedSimpArgs false
def spec_used.l0 : Nat → List (S33) → List Int → Int → Int → Int → Option (Int)
  | 0, _, _, _, _, _ => none
  | k + 1, x0, x1, x2, x7, x8 => if x8 < (x1.length : Int) then (if 0 ≤ x8 then (if 0 ≤ (rd x1 x8) then (if (rd x1 x8) < (x0.length : Int) then (if ((rd_T33 x0 (rd x1 x8)).f2) = x2 then (spec_used.l0 k x0 x1 x2 (wrap64 (x7 + ((rd_T33 x0 (rd x1 x8)).f3))) (wrap64 (x8 + 1))) else (spec_used.l0 k x0 x1 x2 x7 (wrap64 (x8 + 1)))) else (none)) else (none)) else (none)) else (some x7)
def spec_used.f (k : Nat) (l0 : List (S33)) (l1 : List Int) (a2 : Int) : Option (Int) := spec_used.l0 k l0 l1 a2 0 0
theorem spec_used.mono_l : ∀ k, (∀ y0 y1 y2 y3 y4, LeO (spec_used.l0 k y0 y1 y2 y3 y4) (spec_used.l0 (k + 1) y0 y1 y2 y3 y4))
  | 0 => fun _ _ _ _ _ r h => by simp [spec_used.l0] at h
  | k + 1 => by
    have ih0 := spec_used.mono_l k
    · intro y0 y1 y2 y3 y4
      unfold spec_used.l0
      repeat' first
      | (with_reducible exact ih0 _ _ _ _ _)
      | (with_reducible exact LeO.refl _)
      | (with_reducible exact LeO.none _)
      | (with_reducible refine LeO.ite ?_ ?_)
      | (with_reducible refine LeO.bind ?_ (fun _ => ?_))
      | exact ih0 _ _ _ _ _
      | exact LeO.none _
      | refine LeO.ite ?_ ?_
      | refine LeO.bind ?_ (fun _ => ?_)
theorem spec_used.mono : ∀ a0 a1 a2 k, LeO (spec_used.f k a0 a1 a2) (spec_used.f (k + 1) a0 a1 a2) := by
  intro a0 a1 a2 k
  have ih0 := spec_used.mono_l k
  unfold spec_used.f
  repeat' first
      | (with_reducible exact ih0 _ _ _ _ _)
      | (with_reducible exact LeO.refl _)
      | (with_reducible exact LeO.none _)
      | (with_reducible refine LeO.ite ?_ ?_)
      | (with_reducible refine LeO.bind ?_ (fun _ => ?_))
      | exact ih0 _ _ _ _ _
      | exact LeO.none _
      | refine LeO.ite ?_ ?_
      | refine LeO.bind ?_ (fun _ => ?_)
set_option maxHeartbeats 8000000 in
set_option maxRecDepth 100000 in
theorem spec_used.calls (k : Nat) (A0 : Option Addr) (c0 : Nat) (l0 : List (S33)) (A1 : Option Addr) (c1 : Nat) (l1 : List Int) (a2 : Int) (r : Int) (w : World) (hr0 : Kd.C k33 w A0 l0.length l0) (hc0 : l0.length ≤ c0) (hr1 : Kd.C (Kd.int .i64) w A1 l1.length l1) (hc1 : l1.length ≤ c1) (h : spec_used.f k l0 l1 a2 = some r) :
    Calls Tryd.prog 59 #[.slice A0 l0.length c0, .slice A1 l1.length c1, .int .i64 a2] w fun e w' => e = .returned (.int .i64 r) ∧ Drawn0 w w' := by
  have HR0 := Aside0.mk hr0
  have HC0 := Aside0.mk hc0
  clear hr0 hc0
  have HR1 := Aside0.mk hr1
  have HC1 := Aside0.mk hc1
  clear hr1 hc1
  have H : (spec_used.l0 k l0 l1 a2 0 0) = some r := h
  clear h
  have H' := Aside0.mk H
  clear H
  go_enter Tryd.func59, Tryd.ntmps59
  go_wp2
  go_loopg [7, 8] k (fun kq v7 v8 w' => ∃ (x7_1 : Int) (x8_1 : Int), v7 = .int .i64 x7_1 ∧ v8 = .int .i64 x8_1 ∧ Aside0 (spec_used.l0 kq l0 l1 a2 x7_1 x8_1 = some r) ∧ Aside0 (kq ≤ k) ∧ Drawn0 w w')
  case atStart => exact ⟨(0), (0), (by first | rfl | (simp; done) | (simp [*]; done)), (by first | rfl | (simp; done) | (simp [*]; done)), H', ⟨Nat.le_refl _⟩, by repeat (first | exact Drawn0.refl _ | apply Drawn0.step)⟩
  case round =>
    clear H'
    try clear c1
    try clear p2
    obtain ⟨x7_1, x8_1, rfl, rfl, HA, HK1, ⟨m1, rfl⟩⟩ := hrel
    cases gk with
    | zero => exact absurd HA.out (by simp [spec_used.l0])
    | succ k1 =>
      have H := HA.out
      clear HA
      simp only [spec_used.l0] at H
      by_cases c4 : x8_1 < (l1.length : Int)
      · rw [if_pos c4] at H
        have c4b0 : decide (x8_1 < (l1.length : Int)) = true := decide_eq_true c4
        clear c4
        by_cases c5 : 0 ≤ x8_1
        · rw [if_pos c5] at H
          have c5b0 : decide (0 ≤ x8_1) = true := decide_eq_true c5
          clear c5
          by_cases c6 : 0 ≤ (rd l1 x8_1)
          · rw [if_pos c6] at H
            have c6b0 : decide (0 ≤ (rd l1 x8_1)) = true := decide_eq_true c6
            clear c6
            by_cases c7 : (rd l1 x8_1) < (l0.length : Int)
            · rw [if_pos c7] at H
              have c7b0 : decide ((rd l1 x8_1) < (l0.length : Int)) = true := decide_eq_true c7
              clear c7
              by_cases c8 : ((rd_T33 l0 (rd l1 x8_1)).f2) = a2
              · rw [if_pos c8] at H
                have c8b0 : (((rd_T33 l0 (rd l1 x8_1)).f2) == a2) = true := beq_iff_eq.mpr c8
                have c8b1 : (((rd_T33 l0 (rd l1 x8_1)).f2) != a2) = false := bne_eq_false_iff_eq.mpr c8
                clear c8
                have H' := Aside0.mk H
                clear H
                have p348 : 0 ≤ (x8_1 : Int) := of_decide_eq_true (by first | (with_reducible assumption) | assumption)
                have q348 : x8_1 < (l1.length : Int) := of_decide_eq_true (by first | (with_reducible assumption) | assumption)
                obtain ⟨ad348, e348, hx348_0⟩ := Kd.at_int HR1.out x8_1 p348 q348
                cases e348
                replace p348 := eq_true p348
                replace q348 := eq_true q348
                have p349 : 0 ≤ ((rd l1 x8_1) : Int) := of_decide_eq_true (by first | (with_reducible assumption) | assumption)
                have q349 : (rd l1 x8_1) < (l0.length : Int) := of_decide_eq_true (by first | (with_reducible assumption) | assumption)
                obtain ⟨ad349, A349_1, c349_1, e349, hx349_0, hx349_1, hx349_2, hx349_3, hl349_1, hi349_1⟩ := at_T33 HR0.out (rd l1 x8_1) p349 q349
                cases e349
                have HR349_1 := Aside0.mk hi349_1
                have HC349_1 := Aside0.mk hl349_1
                clear hi349_1 hl349_1
                replace p349 := eq_true p349
                replace q349 := eq_true q349
                have p350 : 0 ≤ (x8_1 : Int) := of_decide_eq_true (by first | (with_reducible assumption) | assumption)
                have q350 : x8_1 < (l1.length : Int) := of_decide_eq_true (by first | (with_reducible assumption) | assumption)
                obtain ⟨ad350, e350, hx350_0⟩ := Kd.at_int HR1.out x8_1 p350 q350
                obtain rfl : ad348 = ad350 := (by injection e350)
                replace p350 := eq_true p350
                replace q350 := eq_true q350
                have p351 : 0 ≤ ((rd l1 x8_1) : Int) := of_decide_eq_true (by first | (with_reducible assumption) | assumption)
                have q351 : (rd l1 x8_1) < (l0.length : Int) := of_decide_eq_true (by first | (with_reducible assumption) | assumption)
                obtain ⟨ad351, A351_1, c351_1, e351, hx351_0, hx351_1, hx351_2, hx351_3, hl351_1, hi351_1⟩ := at_T33 HR0.out (rd l1 x8_1) p351 q351
                obtain rfl : ad349 = ad351 := (by injection e351)
                have HR351_1 := Aside0.mk hi351_1
                have HC351_1 := Aside0.mk hl351_1
                clear hi351_1 hl351_1
                replace p351 := eq_true p351
                replace q351 := eq_true q351
                have ea_ := Option.some.inj (hx349_1.symm.trans hx351_1)
                injection ea_ with ea_ en_ ec_
                subst ea_
                subst ec_
                clear en_
                go_wp2
                go_roundg k1
                case measure => have := HK1.out; omega
                case rel => exact ⟨(wrap64 (x7_1 + ((rd_T33 l0 (rd l1 x8_1)).f3))), (wrap64 (x8_1 + 1)), (by first | rfl | (simp; done) | (simp [*]; done)), (by first | rfl | (simp; done) | (simp [*]; done)), H', ⟨by have := HK1.out; omega⟩, by repeat (first | exact Drawn0.refl _ | apply Drawn0.step)⟩
              · rw [if_neg c8] at H
                have c8b0 : (((rd_T33 l0 (rd l1 x8_1)).f2) == a2) = false := beq_eq_false_iff_ne.mpr c8
                have c8b1 : (((rd_T33 l0 (rd l1 x8_1)).f2) != a2) = true := bne_iff_ne.mpr c8
                have H' := Aside0.mk H
                clear H
                have p348 : 0 ≤ (x8_1 : Int) := of_decide_eq_true (by first | (with_reducible assumption) | assumption)
                have q348 : x8_1 < (l1.length : Int) := of_decide_eq_true (by first | (with_reducible assumption) | assumption)
                obtain ⟨ad348, e348, hx348_0⟩ := Kd.at_int HR1.out x8_1 p348 q348
                cases e348
                replace p348 := eq_true p348
                replace q348 := eq_true q348
                have p349 : 0 ≤ ((rd l1 x8_1) : Int) := of_decide_eq_true (by first | (with_reducible assumption) | assumption)
                have q349 : (rd l1 x8_1) < (l0.length : Int) := of_decide_eq_true (by first | (with_reducible assumption) | assumption)
                obtain ⟨ad349, A349_1, c349_1, e349, hx349_0, hx349_1, hx349_2, hx349_3, hl349_1, hi349_1⟩ := at_T33 HR0.out (rd l1 x8_1) p349 q349
                cases e349
                have HR349_1 := Aside0.mk hi349_1
                have HC349_1 := Aside0.mk hl349_1
                clear hi349_1 hl349_1
                replace p349 := eq_true p349
                replace q349 := eq_true q349
                go_wp2
                go_roundg k1
                case measure => have := HK1.out; omega
                case rel => exact ⟨(x7_1), (wrap64 (x8_1 + 1)), (by first | rfl | (simp; done) | (simp [*]; done)), (by first | rfl | (simp; done) | (simp [*]; done)), H', ⟨by have := HK1.out; omega⟩, by repeat (first | exact Drawn0.refl _ | apply Drawn0.step)⟩
            · rw [if_neg c7] at H
              exact absurd H (by simp)
          · rw [if_neg c6] at H
            exact absurd H (by simp)
        · rw [if_neg c5] at H
          exact absurd H (by simp)
      · rw [if_neg c4] at H
        have c4b0 : decide (x8_1 < (l1.length : Int)) = false := decide_eq_false c4
        clear c4
        obtain rfl := Option.some.inj H
        go_wp2
        go_ret
        exact ⟨by first | rfl | (simp; done) | (simp [*]; done), by repeat (first | exact Drawn0.refl _ | apply Drawn0.step)⟩
end Go.Proofs.YtffhdofcfkgoaaaDoor.P
end
section
namespace Go.Proofs.YtffhdofcfkgoaaaDoor.P
open Go.RowKit Go.Proofs.YtffhdofcfkgoaaaDoorW.PrintWords Go.Proofs.YtffhdofcfkgoaaaDoorW.PrintLast Go.Proofs.YtffhdofcfkgoaaaDoorW.PrintMore
attribute [local go_sem] max2_int min2_int max_two min_two max_three min_three max_four min_four   -- for this text's walks alone
set_option linter.unusedVariables false
set_option linter.unusedSimpArgs false
def spec_validRoom.f (k : Nat) (l0 : List Int) : Option (Bool) := if (l0.length : Int) = 3 then ((spec_allIn.f k l0 4 8).bind fun t352 => (some t352)) else (some false)
theorem spec_validRoom.mono : ∀ a0 k, LeO (spec_validRoom.f k a0) (spec_validRoom.f (k + 1) a0) := by
  intro a0 k
  unfold spec_validRoom.f
  repeat' first
      | (with_reducible exact spec_allIn.mono _ _ _ _)
      | (with_reducible exact LeO.refl _)
      | (with_reducible exact LeO.none _)
      | (with_reducible refine LeO.ite ?_ ?_)
      | (with_reducible refine LeO.bind ?_ (fun _ => ?_))
      | exact spec_allIn.mono _ _ _ _
      | exact LeO.none _
      | refine LeO.ite ?_ ?_
      | refine LeO.bind ?_ (fun _ => ?_)
set_option maxHeartbeats 8000000 in
set_option maxRecDepth 100000 in
theorem spec_validRoom.calls (k : Nat) (A0 : Option Addr) (c0 : Nat) (l0 : List Int) (r : Bool) (w : World) (hr0 : Kd.C (Kd.int .i64) w A0 l0.length l0) (hc0 : l0.length ≤ c0) (h : spec_validRoom.f k l0 = some r) :
    Calls Tryd.prog 82 #[.slice A0 l0.length c0] w fun e w' => e = .returned (.bool r) ∧ Drawn0 w w' := by
  have HR0 := Aside0.mk hr0
  have HC0 := Aside0.mk hc0
  clear hr0 hc0
  have H : (if (l0.length : Int) = 3 then ((spec_allIn.f k l0 4 8).bind fun t352 => (some t352)) else (some false)) = some r := h
  clear h
  by_cases c2 : (l0.length : Int) = 3
  · rw [if_pos c2] at H
    have c2b0 : ((l0.length : Int) == 3) = true := beq_iff_eq.mpr c2
    have c2b1 : ((l0.length : Int) != 3) = false := bne_eq_false_iff_eq.mpr c2
    clear c2
    replace H := Option.bind_eq_some_iff.mp H
    obtain ⟨t352, A30, H⟩ := H
    replace H : (some t352) = some r := H
    have A3 := Aside0.mk A30
    clear A30
    obtain rfl := Option.some.inj H
    go_enter Tryd.func82, Tryd.ntmps82
    go_wp2_with (first | (go_at_call 58; (with_reducible refine (spec_allIn.calls k _ _ l0 4 8 t352 _ ?side1 ?side2 A3.out).mono ?_); (case side1 => repeat (first | exact HR0.out | (with_reducible refine Kd.C_alloc ?_ _) | (with_reducible refine Kd.C_drewN ?_ _) | (with_reducible refine Kd.C_drew ?_))); (case side2 => exact HC0.out); rintro e w' ⟨rfl, ⟨nd, rfl⟩⟩))
    go_ret
    exact ⟨by first | rfl | (simp; done) | (simp [*]; done), by repeat (first | exact Drawn0.refl _ | apply Drawn0.step)⟩
  · rw [if_neg c2] at H
    have c2b0 : ((l0.length : Int) == 3) = false := beq_eq_false_iff_ne.mpr c2
    have c2b1 : ((l0.length : Int) != 3) = true := bne_iff_ne.mpr c2
    obtain rfl := Option.some.inj H
    go_enter Tryd.func82, Tryd.ntmps82
    go_wp2
    go_ret
    exact ⟨by first | rfl | (simp; done) | (simp [*]; done), by repeat (first | exact Drawn0.refl _ | apply Drawn0.step)⟩
end Go.Proofs.YtffhdofcfkgoaaaDoor.P
end
section
namespace Go.Proofs.YtffhdofcfkgoaaaDoor.P
open Go.RowKit Go.Proofs.YtffhdofcfkgoaaaDoorW.PrintWords Go.Proofs.YtffhdofcfkgoaaaDoorW.PrintLast Go.Proofs.YtffhdofcfkgoaaaDoorW.PrintMore
attribute [local go_sem] max2_int min2_int max_two min_two max_three min_three max_four min_four   -- for this text's walks alone
set_option linter.unusedVariables false
set_option linter.unusedSimpArgs false
mutual
def spec_UsedUnits.j0 : Nat → List (S33) → List Int → List Int → Bool → Option (List Int)
  | 0, _, _, _, _ => none
  | k + 1, x0, x1, x5, x23 => if x23 = true then (some ([] : List Int)) else (spec_UsedUnits.l0 k x0 x1 x5 0)
def spec_UsedUnits.l0 : Nat → List (S33) → List Int → List Int → Int → Option (List Int)
  | 0, _, _, _, _ => none
  | k + 1, x0, x1, x5, x6 => if x6 < 3 then ((spec_used.f k x0 x1 x6).bind fun t401 => (if x5.length < 17592186044416 then (spec_UsedUnits.l0 k x0 x1 (x5 ++ [t401]) (wrap64 (x6 + 1))) else (none))) else (some x5)
end
def spec_UsedUnits.f (k : Nat) (l0 : List (S33)) (l1 : List Int) : Option (List Int) := (some (([] : List Int) : List Int)).bind fun y395 => ((spec_validGraph.f k l0).bind fun t398 => (if t398 = true then ((spec_ascends.f k l1).bind fun t399 => (if t399 = true then ((spec_allIn.f k l1 0 (wrap64 ((l0.length : Int) - 1))).bind fun t400 => (spec_UsedUnits.j0 k l0 l1 y395 (!t400))) else (spec_UsedUnits.j0 k l0 l1 y395 true))) else (spec_UsedUnits.j0 k l0 l1 y395 true)))
theorem spec_UsedUnits.mono_l : ∀ k, (∀ y0 y1 y2 y3, LeO (spec_UsedUnits.j0 k y0 y1 y2 y3) (spec_UsedUnits.j0 (k + 1) y0 y1 y2 y3)) ∧ (∀ y0 y1 y2 y3, LeO (spec_UsedUnits.l0 k y0 y1 y2 y3) (spec_UsedUnits.l0 (k + 1) y0 y1 y2 y3))
  | 0 => ⟨fun _ _ _ _ r h => by simp [spec_UsedUnits.j0] at h, fun _ _ _ _ r h => by simp [spec_UsedUnits.l0] at h⟩
  | k + 1 => by
    obtain ⟨ih0, ih1⟩ := spec_UsedUnits.mono_l k
    refine ⟨?_, ?_⟩
    · intro y0 y1 y2 y3
      unfold spec_UsedUnits.j0
      repeat' first
      | (with_reducible exact ih0 _ _ _ _)
      | (with_reducible exact ih1 _ _ _ _)
      | (with_reducible exact spec_allIn.mono _ _ _ _)
      | (with_reducible exact spec_ascends.mono _ _)
      | (with_reducible exact spec_used.mono _ _ _ _)
      | (with_reducible exact spec_validGraph.mono _ _)
      | (with_reducible exact LeO.refl _)
      | (with_reducible exact LeO.none _)
      | (with_reducible refine LeO.ite ?_ ?_)
      | (with_reducible refine LeO.bind ?_ (fun _ => ?_))
      | exact ih0 _ _ _ _
      | exact ih1 _ _ _ _
      | exact spec_allIn.mono _ _ _ _
      | exact spec_ascends.mono _ _
      | exact spec_used.mono _ _ _ _
      | exact spec_validGraph.mono _ _
      | exact LeO.none _
      | refine LeO.ite ?_ ?_
      | refine LeO.bind ?_ (fun _ => ?_)
    · intro y0 y1 y2 y3
      unfold spec_UsedUnits.l0
      repeat' first
      | (with_reducible exact ih0 _ _ _ _)
      | (with_reducible exact ih1 _ _ _ _)
      | (with_reducible exact spec_allIn.mono _ _ _ _)
      | (with_reducible exact spec_ascends.mono _ _)
      | (with_reducible exact spec_used.mono _ _ _ _)
      | (with_reducible exact spec_validGraph.mono _ _)
      | (with_reducible exact LeO.refl _)
      | (with_reducible exact LeO.none _)
      | (with_reducible refine LeO.ite ?_ ?_)
      | (with_reducible refine LeO.bind ?_ (fun _ => ?_))
      | exact ih0 _ _ _ _
      | exact ih1 _ _ _ _
      | exact spec_allIn.mono _ _ _ _
      | exact spec_ascends.mono _ _
      | exact spec_used.mono _ _ _ _
      | exact spec_validGraph.mono _ _
      | exact LeO.none _
      | refine LeO.ite ?_ ?_
      | refine LeO.bind ?_ (fun _ => ?_)
theorem spec_UsedUnits.mono : ∀ a0 a1 k, LeO (spec_UsedUnits.f k a0 a1) (spec_UsedUnits.f (k + 1) a0 a1) := by
  intro a0 a1 k
  obtain ⟨ih0, ih1⟩ := spec_UsedUnits.mono_l k
  unfold spec_UsedUnits.f
  repeat' first
      | (with_reducible exact ih0 _ _ _ _)
      | (with_reducible exact ih1 _ _ _ _)
      | (with_reducible exact spec_allIn.mono _ _ _ _)
      | (with_reducible exact spec_ascends.mono _ _)
      | (with_reducible exact spec_used.mono _ _ _ _)
      | (with_reducible exact spec_validGraph.mono _ _)
      | (with_reducible exact LeO.refl _)
      | (with_reducible exact LeO.none _)
      | (with_reducible refine LeO.ite ?_ ?_)
      | (with_reducible refine LeO.bind ?_ (fun _ => ?_))
      | exact ih0 _ _ _ _
      | exact ih1 _ _ _ _
      | exact spec_allIn.mono _ _ _ _
      | exact spec_ascends.mono _ _
      | exact spec_used.mono _ _ _ _
      | exact spec_validGraph.mono _ _
      | exact LeO.none _
      | refine LeO.ite ?_ ?_
      | refine LeO.bind ?_ (fun _ => ?_)
set_option maxHeartbeats 8000000 in
set_option maxRecDepth 100000 in
theorem spec_UsedUnits.calls (k : Nat) (A0 : Option Addr) (c0 : Nat) (l0 : List (S33)) (A1 : Option Addr) (c1 : Nat) (l1 : List Int) (r : List Int) (w : World) (hr0 : Kd.C k33 w A0 l0.length l0) (hc0 : l0.length ≤ c0) (hr1 : Kd.C (Kd.int .i64) w A1 l1.length l1) (hc1 : l1.length ≤ c1) (h : spec_UsedUnits.f k l0 l1 = some r) :
    Calls Tryd.prog 25 #[.slice A0 l0.length c0, .slice A1 l1.length c1] w fun e w' => ∃ v0_ : Value, e = .returned (v0_) ∧ Kd.R (Kd.int .i64) 3 w' w.heap.size (fun _ => True) v0_ r ∧ Below w.heap.size w w' := by
  have HR0 := Aside0.mk hr0
  have HC0 := Aside0.mk hc0
  clear hr0 hc0
  have HR1 := Aside0.mk hr1
  have HC1 := Aside0.mk hc1
  clear hr1 hc1
  have HB := Aside0.mk (Below.refl w.heap.size w)
  have H : ((some (([] : List Int) : List Int)).bind fun y395 => ((spec_validGraph.f k l0).bind fun t398 => (if t398 = true then ((spec_ascends.f k l1).bind fun t399 => (if t399 = true then ((spec_allIn.f k l1 0 (wrap64 ((l0.length : Int) - 1))).bind fun t400 => (spec_UsedUnits.j0 k l0 l1 y395 (!t400))) else (spec_UsedUnits.j0 k l0 l1 y395 true))) else (spec_UsedUnits.j0 k l0 l1 y395 true)))) = some r := h
  clear h
  obtain ⟨y395, hy395⟩ : ∃ y_ : List Int, y_ = (([] : List Int)) := ⟨_, rfl⟩
  replace H : ((spec_validGraph.f k l0).bind fun t398 => (if t398 = true then ((spec_ascends.f k l1).bind fun t399 => (if t399 = true then ((spec_allIn.f k l1 0 (wrap64 ((l0.length : Int) - 1))).bind fun t400 => (spec_UsedUnits.j0 k l0 l1 y395 (!t400))) else (spec_UsedUnits.j0 k l0 l1 y395 true))) else (spec_UsedUnits.j0 k l0 l1 y395 true))) = some r := by first | (rw [hy395]; with_reducible exact H) | (have H2_ := (Option.bind_some _ _).symm.trans H; rw [hy395]; with_reducible exact H2_) | (have H2_ := (Option.bind_some _ _).symm.trans H; with_reducible exact H2_) | with_reducible exact H | (rw [hy395]; exact H) | exact H
  have Ny395 := Aside0.mk hy395
  clear hy395
  have HC3 := Aside0.mk H
  clear H
  go_enter Tryd.func25, Tryd.ntmps25
  go_upto_region 2 with (first | ((with_reducible refine gate_dst (N := 7) rfl ?_); (try (refine gate_guard (by rfl) ?_; dsimp only)); refine Kd.R_lit (Kd.int .i64) _ 3 ?hg (N := 7) ?hd (xs := ([] : List Int)) (inner := []) (ok := fun _ => True) (okp := fun _ => True) ?hr ?hp (fun _ hk => hk) trivial (Below.refl _ _) (Nat.le_refl _) (by simp) ?_; (case hd => rfl); (case hg => rfl); (case hr => first | (go_simp; done) | (go_simp; rfl)); (case hp => exact (Reps.none _ _)); intro v396 w4 ho5 hb hg_ hnew_; clear hg_ hnew_; (first | rw [← Ny395.out] at ho5 | (simp only [Int.reduceToNat] at ho5; rw [← Ny395.out] at ho5)); have n0_ := Aside0.mk (Kd.R_lower ho5 (below_size (by repeat (first | (with_reducible first | exact HB.out | apply below_alloc | apply pw_below_drewN | apply below_drew1) | exact HB.out)))); have n1_ := Aside0.mk (below_step (by repeat (first | (with_reducible first | exact HB.out | apply below_alloc | apply pw_below_drewN | apply below_drew1) | exact HB.out)) hb); clear HB; have HO397 := n0_; have HB := n1_; clear n0_ n1_; clear hb ho5))
  (try simp only [Act.put, List.setIfInBounds_toArray, List.set_cons_zero, List.set_cons_succ])
  go_cut [23] (fun v23 wc => ∃ (kq : Nat) (x23_2 : Bool), v23 = .bool x23_2 ∧ Aside0 (spec_UsedUnits.j0 kq l0 l1 y395 x23_2 = some r) ∧ Aside0 (kq ≤ k) ∧ Aside0 (Kd.R (Kd.int .i64) 3 wc w.heap.size (fun _ => True) v396 y395) ∧ Aside0 (Below w.heap.size w wc))
  case first =>
    have H := HC3.out
    clear HC3
    replace H := Option.bind_eq_some_iff.mp H
    obtain ⟨t398, A60, H⟩ := H
    replace H : (if t398 = true then ((spec_ascends.f k l1).bind fun t399 => (if t399 = true then ((spec_allIn.f k l1 0 (wrap64 ((l0.length : Int) - 1))).bind fun t400 => (spec_UsedUnits.j0 k l0 l1 y395 (!t400))) else (spec_UsedUnits.j0 k l0 l1 y395 true))) else (spec_UsedUnits.j0 k l0 l1 y395 true)) = some r := H
    have A6 := Aside0.mk A60
    clear A60
    by_cases c7 : t398 = true
    · subst c7
      have H1 : ((spec_ascends.f k l1).bind fun t399 => (if t399 = true then ((spec_allIn.f k l1 0 (wrap64 ((l0.length : Int) - 1))).bind fun t400 => (spec_UsedUnits.j0 k l0 l1 y395 (!t400))) else (spec_UsedUnits.j0 k l0 l1 y395 true))) = some r := by rw [if_pos rfl] at H; exact H
      clear H
      have H := H1
      clear H1
      replace H := Option.bind_eq_some_iff.mp H
      obtain ⟨t399, A80, H⟩ := H
      replace H : (if t399 = true then ((spec_allIn.f k l1 0 (wrap64 ((l0.length : Int) - 1))).bind fun t400 => (spec_UsedUnits.j0 k l0 l1 y395 (!t400))) else (spec_UsedUnits.j0 k l0 l1 y395 true)) = some r := H
      have A8 := Aside0.mk A80
      clear A80
      by_cases c9 : t399 = true
      · subst c9
        have H1 : ((spec_allIn.f k l1 0 (wrap64 ((l0.length : Int) - 1))).bind fun t400 => (spec_UsedUnits.j0 k l0 l1 y395 (!t400))) = some r := by rw [if_pos rfl] at H; exact H
        clear H
        have H := H1
        clear H1
        replace H := Option.bind_eq_some_iff.mp H
        obtain ⟨t400, A100, H⟩ := H
        replace H : (spec_UsedUnits.j0 k l0 l1 y395 (!t400)) = some r := H
        have A10 := Aside0.mk A100
        clear A100
        have H' := Aside0.mk H
        clear H
        go_wp2_with (first | ((with_reducible refine gate_callee (f := 44) rfl ?_); refine goesL_ (some 9) rfl rfl Tryd.func44 (by kernel_rfl) rfl #[.slice A0 l0.length c0] rfl (by (try simp only [List.map_toArray, List.map_cons, List.map_nil]); first | done | rfl | (simp only [List.length_drop, List.length_take]; rfl)) ?_; (with_reducible refine (spec_validGraph.calls k _ _ l0 true _ ?side1 ?side2 A6.out).mono ?_); (case side1 => repeat (first | exact (Kd.C_below HR0.out HB.out) | (with_reducible refine Kd.C_alloc ?_ _) | (with_reducible refine Kd.C_drewN ?_ _) | (with_reducible refine Kd.C_drew ?_))); (case side2 => exact HC0.out); rintro e w11 ⟨rfl, hb⟩; refine ⟨_, rfl, ?_⟩; have n0_ := Aside0.mk (Kd.R_below (by (with_reducible repeat (first | apply Kd.R_alloc | apply Kd.R_drewN | apply Kd.R_drew)); exact HO397.out) hb); have n1_ := Aside0.mk (below_step (by repeat (first | (with_reducible first | exact HB.out | apply below_alloc | apply pw_below_drewN | apply below_drew1) | exact HB.out)) hb); clear HO397; clear HB; have HO397 := n0_; have HB := n1_; clear n0_ n1_; (try clear hb); (try clear hb2); (try clear hk); (try clear hi)) | (go_at_call 57; (with_reducible refine (spec_ascends.calls k _ _ l1 true _ ?side1 ?side2 A8.out).mono ?_); (case side1 => repeat (first | exact (Kd.C_below HR1.out HB.out) | (with_reducible refine Kd.C_alloc ?_ _) | (with_reducible refine Kd.C_drewN ?_ _) | (with_reducible refine Kd.C_drew ?_))); (case side2 => exact HC1.out); rintro e w' ⟨rfl, ⟨nd, rfl⟩⟩) | (go_at_call 58; (with_reducible refine (spec_allIn.calls k _ _ l1 0 (wrap64 ((l0.length : Int) - 1)) t400 _ ?side1 ?side2 A10.out).mono ?_); (case side1 => repeat (first | exact (Kd.C_below HR1.out (by repeat (first | (with_reducible first | exact HB.out | apply below_alloc | apply pw_below_drewN | apply below_drew1) | exact HB.out))) | (with_reducible refine Kd.C_alloc ?_ _) | (with_reducible refine Kd.C_drewN ?_ _) | (with_reducible refine Kd.C_drew ?_))); (case side2 => exact HC1.out); rintro e w' ⟨rfl, ⟨nd, rfl⟩⟩))
        go_meet
        case rel => exact ⟨_, (!t400), (by first | rfl | (simp; done) | (simp [*]; done)), H', ⟨by first | omega | exact Nat.le_refl _⟩, ⟨by (with_reducible repeat (first | apply Kd.R_alloc | apply Kd.R_drewN | apply Kd.R_drew)); exact HO397.out⟩, ⟨by repeat (first | (with_reducible first | exact HB.out | apply below_alloc | apply pw_below_drewN | apply below_drew1) | exact HB.out)⟩⟩
      · replace c9 := Bool.eq_false_iff.mpr c9
        subst c9
        have H1 : (spec_UsedUnits.j0 k l0 l1 y395 true) = some r := by rw [if_neg (show ¬ (false = true) by decide)] at H; exact H
        clear H
        have H := H1
        clear H1
        have H' := Aside0.mk H
        clear H
        go_wp2_with (first | ((with_reducible refine gate_callee (f := 44) rfl ?_); refine goesL_ (some 9) rfl rfl Tryd.func44 (by kernel_rfl) rfl #[.slice A0 l0.length c0] rfl (by (try simp only [List.map_toArray, List.map_cons, List.map_nil]); first | done | rfl | (simp only [List.length_drop, List.length_take]; rfl)) ?_; (with_reducible refine (spec_validGraph.calls k _ _ l0 true _ ?side1 ?side2 A6.out).mono ?_); (case side1 => repeat (first | exact (Kd.C_below HR0.out HB.out) | (with_reducible refine Kd.C_alloc ?_ _) | (with_reducible refine Kd.C_drewN ?_ _) | (with_reducible refine Kd.C_drew ?_))); (case side2 => exact HC0.out); rintro e w12 ⟨rfl, hb⟩; refine ⟨_, rfl, ?_⟩; have n0_ := Aside0.mk (Kd.R_below (by (with_reducible repeat (first | apply Kd.R_alloc | apply Kd.R_drewN | apply Kd.R_drew)); exact HO397.out) hb); have n1_ := Aside0.mk (below_step (by repeat (first | (with_reducible first | exact HB.out | apply below_alloc | apply pw_below_drewN | apply below_drew1) | exact HB.out)) hb); clear HO397; clear HB; have HO397 := n0_; have HB := n1_; clear n0_ n1_; (try clear hb); (try clear hb2); (try clear hk); (try clear hi)) | (go_at_call 57; (with_reducible refine (spec_ascends.calls k _ _ l1 false _ ?side1 ?side2 A8.out).mono ?_); (case side1 => repeat (first | exact (Kd.C_below HR1.out HB.out) | (with_reducible refine Kd.C_alloc ?_ _) | (with_reducible refine Kd.C_drewN ?_ _) | (with_reducible refine Kd.C_drew ?_))); (case side2 => exact HC1.out); rintro e w' ⟨rfl, ⟨nd, rfl⟩⟩))
        go_meet
        case rel => exact ⟨_, (true), (by first | rfl | (simp; done) | (simp [*]; done)), H', ⟨by first | omega | exact Nat.le_refl _⟩, ⟨by (with_reducible repeat (first | apply Kd.R_alloc | apply Kd.R_drewN | apply Kd.R_drew)); exact HO397.out⟩, ⟨by repeat (first | (with_reducible first | exact HB.out | apply below_alloc | apply pw_below_drewN | apply below_drew1) | exact HB.out)⟩⟩
    · replace c7 := Bool.eq_false_iff.mpr c7
      subst c7
      have H1 : (spec_UsedUnits.j0 k l0 l1 y395 true) = some r := by rw [if_neg (show ¬ (false = true) by decide)] at H; exact H
      clear H
      have H := H1
      clear H1
      have H' := Aside0.mk H
      clear H
      go_wp2_with (first | ((with_reducible refine gate_callee (f := 44) rfl ?_); refine goesL_ (some 9) rfl rfl Tryd.func44 (by kernel_rfl) rfl #[.slice A0 l0.length c0] rfl (by (try simp only [List.map_toArray, List.map_cons, List.map_nil]); first | done | rfl | (simp only [List.length_drop, List.length_take]; rfl)) ?_; (with_reducible refine (spec_validGraph.calls k _ _ l0 false _ ?side1 ?side2 A6.out).mono ?_); (case side1 => repeat (first | exact (Kd.C_below HR0.out HB.out) | (with_reducible refine Kd.C_alloc ?_ _) | (with_reducible refine Kd.C_drewN ?_ _) | (with_reducible refine Kd.C_drew ?_))); (case side2 => exact HC0.out); rintro e w13 ⟨rfl, hb⟩; refine ⟨_, rfl, ?_⟩; have n0_ := Aside0.mk (Kd.R_below (by (with_reducible repeat (first | apply Kd.R_alloc | apply Kd.R_drewN | apply Kd.R_drew)); exact HO397.out) hb); have n1_ := Aside0.mk (below_step (by repeat (first | (with_reducible first | exact HB.out | apply below_alloc | apply pw_below_drewN | apply below_drew1) | exact HB.out)) hb); clear HO397; clear HB; have HO397 := n0_; have HB := n1_; clear n0_ n1_; (try clear hb); (try clear hb2); (try clear hk); (try clear hi)))
      go_meet
      case rel => exact ⟨_, (true), (by first | rfl | (simp; done) | (simp [*]; done)), H', ⟨by first | omega | exact Nat.le_refl _⟩, ⟨by (with_reducible repeat (first | apply Kd.R_alloc | apply Kd.R_drewN | apply Kd.R_drew)); exact HO397.out⟩, ⟨by repeat (first | (with_reducible first | exact HB.out | apply below_alloc | apply pw_below_drewN | apply below_drew1) | exact HB.out)⟩⟩
  case rest =>
    clear HC3
    try clear c1
    try clear c2
    try clear p2
    try clear c4
    try clear p6
    try clear c7
    try clear c9
    obtain ⟨kq, x23_2, rfl, HA, HJ2, HO_5, HB⟩ := hcut
    cases kq with
    | zero => exact absurd HA.out (by simp [spec_UsedUnits.j0])
    | succ kj2 =>
      have H := HA.out
      clear HA
      simp only [spec_UsedUnits.j0] at H
      by_cases c14 : x23_2 = true
      · subst c14
        have H1 : (some ([] : List Int)) = some r := by rw [if_pos rfl] at H; exact H
        clear H
        have H := H1
        clear H1
        obtain rfl := Option.some.inj H
        go_wp2
        go_ret
        exact ⟨_, by first | rfl | (simp [errW_none, errW_some] <;> rfl) | (simp [*, errW_none, errW_some] <;> rfl), by first | exact Kd.R_nil _ _ _ _ _ | exact Kd.N_nil _ _ _ _ _ | exact Kd.V_nil _ _ _ _ _ | exact Kd.Q_nil _ _ _ _ _ | exact Kd.S_nil _ _ _ _ _, by repeat (first | (with_reducible first | exact HB.out | apply below_alloc | apply pw_below_drewN | apply below_drew1) | exact HB.out)⟩
      · replace c14 := Bool.eq_false_iff.mpr c14
        subst c14
        have H1 : (spec_UsedUnits.l0 kj2 l0 l1 y395 0) = some r := by rw [if_neg (show ¬ (false = true) by decide)] at H; exact H
        clear H
        have H := H1
        clear H1
        have H' := Aside0.mk H
        clear H
        go_wp2
        go_loopg [5, 6] kj2 (fun kq v5 v6 w' => ∃ (x5_2 : List Int) (x6_2 : Int), v6 = .int .i64 x6_2 ∧ Aside0 (spec_UsedUnits.l0 kq l0 l1 x5_2 x6_2 = some r) ∧ Aside0 (kq ≤ kj2) ∧ Aside0 (Kd.R (Kd.int .i64) 3 w' w.heap.size (fun _ => True) v5 x5_2) ∧ Aside0 (Below w.heap.size w w'))
        case atStart => exact ⟨(y395), (0), (by first | rfl | (simp; done) | (simp [*]; done)), H', ⟨Nat.le_refl _⟩, ⟨by (with_reducible repeat (first | apply Kd.R_alloc | apply Kd.R_drewN | apply Kd.R_drew)); exact HO_5.out⟩, ⟨by repeat (first | (with_reducible first | exact HB.out | apply below_alloc | apply pw_below_drewN | apply below_drew1) | exact HB.out)⟩⟩
        case round =>
          clear H'
          try clear c1
          try clear c2
          try clear p2
          try clear c4
          try clear p6
          try clear c7
          try clear c9
          try clear c14
          try clear p2
          try clear p6
          obtain ⟨x5_2, x6_2, rfl, HA, HK2, HO_5, HB⟩ := hrel
          cases gk with
          | zero => exact absurd HA.out (by simp [spec_UsedUnits.l0])
          | succ k2 =>
            have H := HA.out
            clear HA
            simp only [spec_UsedUnits.l0] at H
            by_cases c15 : x6_2 < 3
            · rw [if_pos c15] at H
              have c15b0 : decide (x6_2 < 3) = true := decide_eq_true c15
              clear c15
              replace H := Option.bind_eq_some_iff.mp H
              obtain ⟨t401, A160, H⟩ := H
              replace H : (if x5_2.length < 17592186044416 then (spec_UsedUnits.l0 k2 l0 l1 (x5_2 ++ [t401]) (wrap64 (x6_2 + 1))) else (none)) = some r := H
              have A16 := Aside0.mk A160
              clear A160
              by_cases c17 : x5_2.length < 17592186044416
              · rw [if_pos c17] at H
                have LMc17 := Aside0.mk c17
                clear c17
                obtain ⟨y402, hy402⟩ : ∃ y_ : List Int, y_ = (x5_2 ++ [t401]) := ⟨_, rfl⟩
                replace H : (spec_UsedUnits.l0 k2 l0 l1 y402 (wrap64 (x6_2 + 1))) = some r := by first | (rw [hy402]; with_reducible exact H) | (have H2_ := (Option.bind_some _ _).symm.trans H; rw [hy402]; with_reducible exact H2_) | (have H2_ := (Option.bind_some _ _).symm.trans H; with_reducible exact H2_) | with_reducible exact H | (rw [hy402]; exact H) | exact H
                have Ny402 := Aside0.mk hy402
                clear hy402
                have H' := Aside0.mk H
                clear H
                go_wp2_with (first | ((with_reducible refine gate_callee (f := 59) rfl ?_); refine goesL_ (some 32) rfl rfl Tryd.func59 (by kernel_rfl) rfl #[.slice A0 l0.length c0, .slice A1 l1.length c1, .int .i64 x6_2] rfl (by (try simp only [List.map_toArray, List.map_cons, List.map_nil]); first | done | rfl | (simp only [List.length_drop, List.length_take]; rfl)) ?_; (with_reducible refine (spec_used.calls k2 _ _ l0 _ _ l1 x6_2 t401 _ ?side1 ?side2 ?side3 ?side4 A16.out).mono ?_); (case side1 => repeat (first | exact (Kd.C_below HR0.out HB.out) | (with_reducible refine Kd.C_alloc ?_ _) | (with_reducible refine Kd.C_drewN ?_ _) | (with_reducible refine Kd.C_drew ?_))); (case side2 => exact HC0.out); (case side3 => repeat (first | exact (Kd.C_below HR1.out HB.out) | (with_reducible refine Kd.C_alloc ?_ _) | (with_reducible refine Kd.C_drewN ?_ _) | (with_reducible refine Kd.C_drew ?_))); (case side4 => exact HC1.out); rintro e w' ⟨rfl, ⟨nd, rfl⟩⟩; refine ⟨_, rfl, ?_⟩) | ((with_reducible refine gate_builtin (b := .append) (xs := #[.tmp 28, .tmp 33]) rfl ?_); (try (refine gate_guard (by rfl) ?_; dsimp only)); at_builtin; refine Kd.R_append (Kd.int .i64) (w0 := w) w.heap.size rfl (.tmp 28) (.tmp 33) 31 3 (.int .i64 0) 8 rfl Tryd.underlying31 info3 rfl (by decide) (by omega) u5 x5_2 t401 [.int .i64 t401] (fun _ => True) (fun _ => False) rfl rfl ?aP (fun _ hk => hk.elim) ?aF ?aO ?aB ?aS ?aL ?_; (case aP => exact rfl); (case aB => exact (by repeat (first | (with_reducible first | exact HB.out | apply below_alloc | apply pw_below_drewN | apply below_drew1) | exact HB.out))); (case aF => exact (fun _ _ => trivial)); (case aO => exact (by (with_reducible repeat (first | apply Kd.R_alloc | apply Kd.R_drewN | apply Kd.R_drew)); exact HO_5.out)); (case aS => exact (below_size (by repeat (first | (with_reducible first | exact HB.out | apply below_alloc | apply pw_below_drewN | apply below_drew1) | exact HB.out)))); (case aL => have := LMc17.out; omega); intro v403 w18 ho hb hg hat; rw [← Ny402.out] at ho; have n0_ := Aside0.mk (hb); have n1_ := Aside0.mk (ho); clear HB; clear HO_5; have HB := n0_; have HO404 := n1_; clear n0_ n1_; clear ho hb hg hat))
                go_roundg k2
                case measure => have := HJ2.out; have := HK2.out; omega
                case rel => exact ⟨(y402), (wrap64 (x6_2 + 1)), (by first | rfl | (simp; done) | (simp [*]; done)), H', ⟨by have := HJ2.out; have := HK2.out; omega⟩, ⟨by (with_reducible repeat (first | apply Kd.R_alloc | apply Kd.R_drewN | apply Kd.R_drew)); exact HO404.out⟩, ⟨by repeat (first | (with_reducible first | exact HB.out | apply below_alloc | apply pw_below_drewN | apply below_drew1) | exact HB.out)⟩⟩
              · rw [if_neg c17] at H
                exact absurd H (by simp)
            · rw [if_neg c15] at H
              have c15b0 : decide (x6_2 < 3) = false := decide_eq_false c15
              clear c15
              obtain rfl := Option.some.inj H
              go_wp2
              go_ret
              exact ⟨_, by first | rfl | (simp [errW_none, errW_some] <;> rfl) | (simp [*, errW_none, errW_some] <;> rfl), by (with_reducible repeat (first | apply Kd.R_alloc | apply Kd.R_drewN | apply Kd.R_drew)); exact HO_5.out, by repeat (first | (with_reducible first | exact HB.out | apply below_alloc | apply pw_below_drewN | apply below_drew1) | exact HB.out)⟩
end Go.Proofs.YtffhdofcfkgoaaaDoor.P
end
section
set_option linter.unusedVariables false
set_option linter.unusedSimpArgs false
namespace Go.Proofs.YtffhdofcfkgoaaaDoor.Core
open Go Go.RowKit Go.Proofs.YtffhdofcfkgoaaaDoorW.PrintWords Go.Proofs.YtffhdofcfkgoaaaDoorW.PrintLast Go.Proofs.YtffhdofcfkgoaaaDoorW.PrintMore Go.Proofs.YtffhdofcfkgoaaaDoor.P
/-- No block changes its kind or its size. -/
def Shape (w w' : World) : Prop := ∀ (k : Nat) (cur : Array Value) (t : TypeId), w.heap[k]? = some (.cells cur t (0, 0)) → ∃ cur', w'.heap[k]? = some (.cells cur' t (0, 0)) ∧ cur'.size = cur.size
theorem Shape.refl (w : World) : Shape w w := fun _ cur _ h => ⟨cur, h, rfl⟩
theorem Shape.trans {a b c : World} (h : Shape a b) (g : Shape b c) : Shape a c := fun k cur t hk => by
  obtain ⟨c1, h1, e1⟩ := h k cur t hk
  obtain ⟨c2, h2, e2⟩ := g k c1 t h1
  exact ⟨c2, h2, e2.trans e1⟩
theorem Shape.set {a w : World} (h : Shape a w) (g o : Nat) (u : Value) : Shape a (w.setCell ⟨g, o, none⟩ u) := h.trans fun k cur t hk => by
  by_cases e : k = g
  · subst e
    exact ⟨_, blk_set hk o u, by simp⟩
  · exact ⟨cur, by rw [Below.heap_setCell w _ u k e]; exact hk, rfl⟩
/-- A row of whatever whole numbers, from block B on. -/
def IRow (w : World) (B : Nat) (v : Value) (n : Nat) : Prop := ∃ A c, v = .slice A n c ∧ n ≤ maxLen ∧ (n = 0 ∨ ∃ g off cur e, A = some ⟨g, off, none⟩ ∧ B ≤ g ∧ w.heap[g]? = some (.cells cur e (0, 0)) ∧ off + n ≤ cur.size)
theorem IRow.mv {w w' : World} {B n : Nat} {v : Value} (h : IRow w B v n) (hs : Shape w w') : IRow w' B v n := by
  obtain ⟨A, c, hv, hn, h⟩ := h
  refine ⟨A, c, hv, hn, h.imp_right ?_⟩
  rintro ⟨g, off, cur, e, hA, hB, hg, hl⟩
  obtain ⟨cur', h1, h2⟩ := hs g cur e hg
  exact ⟨g, off, cur', e, hA, hB, h1, by omega⟩
/-- One more at each of n cells. -/
def upI : Nat → Int → Int
  | 0, a => a
  | n + 1, a => wrap64 (upI n a + 1)
/-- What a mark changes: the blocks of S, from B on; no block's kind or size. -/
structure Marks' (B : Nat) (S : Nat → Prop) (w w' : World) : Prop where
  below : Below B w w'
  kept : Kept w w' S
  shape : Shape w w'
theorem Marks'.refl (B : Nat) (S : Nat → Prop) (w : World) : Marks' B S w w := ⟨Below.refl _ _, Kept.refl _ _, Shape.refl _⟩
theorem Marks'.trans {B : Nat} {S S2 : Nat → Prop} {a b c : World} (h : Marks' B S a b) (g : Marks' B S2 b c) (hs : ∀ k, S2 k → S k) : Marks' B S a c :=
  ⟨h.below.trans g.below, h.kept.then_ g.kept (fun k hk => .inl (hs k hk)), h.shape.trans g.shape⟩
theorem Marks'.set {B : Nat} {S : Nat → Prop} {a w : World} (h : Marks' B S a w) {g : Nat} (hB : B ≤ g) (hS : S g) (o : Nat) (u : Value) : Marks' B S a (w.setCell ⟨g, o, none⟩ u) :=
  ⟨h.below.setCell (p := ⟨g, o, none⟩) hB u, h.kept.setCell (p := ⟨g, o, none⟩) (.inl hS) u, h.shape.set g o u⟩
theorem Marks'.drewN {B : Nat} {S : Nat → Prop} {a w : World} (h : Marks' B S a w) (m : Nat) : Marks' B S a (w.drewN m) := ⟨pw_below_drewN h.below m, h.kept.drewN m, h.shape⟩
theorem Marks'.drew {B : Nat} {S : Nat → Prop} {a w : World} (h : Marks' B S a w) : Marks' B S a w.drew := ⟨h.below.drew, h.kept.drew, h.shape⟩
set_option maxRecDepth 100000 in
set_option maxHeartbeats 4000000 in
theorem markIntS_row (B : Nat) (v : Value) (n : Nat) (a : Int) (w : World) (h : IRow w B v n) :
    Calls Tryd.prog 28 #[v, .int .i64 a] w fun e w' => e = .returned (.int .i64 (upI n a)) ∧ Marks' B (fun k => some k = v.ownBlock) w w' := by
  obtain ⟨A, c, rfl, hn, hrow⟩ := h
  have HW := Aside0.mk hrow
  have HN := Aside0.mk hn
  clear hrow hn
  go_enter Tryd.func28, Tryd.ntmps28
  go_wp2
  go_loopg [1, 5] n (fun kq v1 v5 w' => ∃ (i : Nat) (x y : Int), v1 = .int .i64 y ∧ v5 = .int .i64 x ∧ Aside0 (kq + i = n ∧ x = (i : Int) ∧ y = upI i a) ∧ Aside0 (Marks' B (fun k => some k = (Value.slice A n c).ownBlock) w w'))
  case atStart => exact ⟨0, 0, a, rfl, rfl, ⟨rfl, rfl, rfl⟩, ⟨Marks'.refl _ _ _⟩⟩
  case round =>
    obtain ⟨i, x, y, rfl, rfl, HI, HM⟩ := hrel
    have hn := HN.out
    have h1 := HI.out.1
    have h2 := HI.out.2.1
    have h3 := HI.out.2.2
    by_cases hlt : i < n
    · have hd : decide (x < (n : Int)) = true := decide_eq_true (by omega)
      obtain ⟨g, off, cur0, e, hA, hB, hg0, hl0⟩ : ∃ g off cur e, A = some ⟨g, off, none⟩ ∧ B ≤ g ∧ w.heap[g]? = some (.cells cur e (0, 0)) ∧ off + n ≤ cur.size := HW.out.resolve_left (by omega)
      subst hA
      obtain ⟨cur, hg, hl⟩ := HM.out.shape g cur0 e hg0
      have p0 : 0 ≤ x := by omega
      have q0 : x < (n : Int) := by omega
      obtain ⟨u, hx⟩ : ∃ u, wr.cell? ⟨g, off + x.toNat, none⟩ = some u := by
        rw [cell_of_row wr g _ cur e (0, 0) hg]
        exact ⟨_, Array.getElem?_eq_getElem (by omega)⟩
      have hf : wr.frozen? ⟨g, off + x.toNat, none⟩ = false := blk_frozen hg _
      have HM2 := Aside0.mk (HM.out.set (g := g) hB rfl (off + x.toNat) (.int .i64 y))
      have HI2 := Aside0.mk (show (n - (i + 1)) + (i + 1) = n ∧ wrap64 (x + 1) = ((i + 1 : Nat) : Int) ∧ wrap64 (y + 1) = upI (i + 1) a from ⟨by omega, by unfold maxLen at hn; unfold wrap64; omega, by rw [h3]; rfl⟩)
      replace p0 := eq_true p0
      replace q0 := eq_true q0
      have hk : gk = (n - (i + 1)) + 1 := by omega
      clear h1 h2 h3 hn hg hg0 hl hl0 HI HM
      subst hk
      clear hd
      go_wp2
      go_roundg (n - (i + 1))
      case measure => omega
      case rel => exact ⟨i + 1, _, _, rfl, rfl, HI2, HM2⟩
    · have hd : decide (x < (n : Int)) = false := decide_eq_false (by omega)
      have hi : i = n := by omega
      subst hi
      rw [h3]
      clear h1 h2 h3 hlt hn
      go_wp2
      go_ret
      exact ⟨rfl, HM.out⟩
/-- What the marks of tasks come to. -/
def mkT (l : List S33) (a : Int) : Nat → Int
  | 0 => a
  | i + 1 => wrap64 (wrap64 (upI (l.getD i z33).f1.length (wrap64 (mkT l a i + 1)) + 1) + 1)
theorem task_size {w : World} {B : Nat} {S : Nat → Prop} {g n cap : Nat} {l : List S33} (h : Kd.R k33 33 w B S (.slice (some ⟨g, 0, none⟩) n cap) l) {i : Nat} (hi : i < n) {cur : Array Value} {e : TypeId} (hg : w.heap[g]? = some (.cells cur e (0, 0))) : i * 4 + 3 < cur.size := by
  obtain ⟨c, hcl, hM, hcc, _⟩ := Kd.R_elem h z33 (i : Int) (by omega) (by omega)
  have h3 : (3 : Nat) < c.length := by rw [hcl]; decide
  have := hcc 3 _ (List.getElem?_eq_getElem h3)
  rw [cell_of_row w g _ cur e (0, 0) hg] at this
  obtain ⟨hl, _⟩ := Array.getElem?_eq_some_iff.1 this
  exact hl
/-- A cell of a block that is there. -/
theorem cell_here {w : World} {g o : Nat} {cur : Array Value} {e : TypeId} (hg : w.heap[g]? = some (.cells cur e (0, 0))) (h : o < cur.size) : (∃ u, w.cell? ⟨g, o, none⟩ = some u) ∧ w.frozen? ⟨g, o, none⟩ = false :=
  ⟨by rw [cell_of_row w g _ cur e (0, 0) hg]; exact ⟨_, Array.getElem?_eq_getElem h⟩, blk_frozen hg _⟩
theorem head_set {w wr : World} {g o : Nat} {u : Value} {cur : Array Value} {e : TypeId} (hg : wr.heap[g]? = some (.cells cur e (0, 0))) (h : ∀ j : Nat, wr.cell? ⟨g, j * 4 + 1, none⟩ = w.cell? ⟨g, j * 4 + 1, none⟩) (ho : o % 4 ≠ 1) : ∀ j : Nat, (wr.setCell ⟨g, o, none⟩ u).cell? ⟨g, j * 4 + 1, none⟩ = w.cell? ⟨g, j * 4 + 1, none⟩ := by
  intro j
  rw [← h j]
  rw [cell_of_row wr g _ cur e (0, 0) hg, cell_of_row _ g _ _ e (0, 0) (blk_set hg o u), Array.getElem?_setIfInBounds_ne (by omega)]
theorem head_kept {w w1 w2 : World} {S : Nat → Prop} {g : Nat} {cur : Array Value} {e : TypeId} (hs : Shape w w1) (hg : w.heap[g]? = some (.cells cur e (0, 0))) (hk : Kept w1 w2 S) (hn : ¬ S g) (o : Nat) : w2.cell? ⟨g, o, none⟩ = w1.cell? ⟨g, o, none⟩ := by
  obtain ⟨cur1, h1, _⟩ := hs g cur e hg
  exact World.cell?_of_block (w := w1) (hk.2 g (blk_lt h1) hn)
/-- A task's needs: the cell, and what it leads to. -/
theorem task_needs {w : World} {B : Nat} {S : Nat → Prop} {g n cap : Nat} {l : List S33} (h : Kd.R k33 33 w B S (.slice (some ⟨g, 0, none⟩) n cap) l) {i : Nat} (hi : i < n) :
    ∃ v1, w.cell? ⟨g, i * 4 + 1, none⟩ = some v1 ∧ IRow w B v1 (l.getD i z33).f1.length ∧ ∀ k, v1.ownBlock = some k → S k ∧ k ≠ g := by
  obtain ⟨c, hcl, hM, hcc, _⟩ := Kd.R_elem h z33 (i : Int) (by omega) (by omega)
  obtain ⟨v1, hc, hQ⟩ := k33_openM hM
  simp only [Int.toNat_natCast] at hcc hQ
  refine ⟨v1, hcc 1 v1 (by rw [hc]; rfl), ?_, fun k hk => ⟨(hQ.1 k hk).1, ?_⟩⟩
  · obtain ⟨h0, inner, hq, hr⟩ := hQ
    have hmax := q_max hq
    rcases hq.2 with ⟨h1, A, hv, hA⟩ | ⟨g1, off, cap1, cur, hv, hb, hg, hnc, hcm, hcs, _⟩
    · exact ⟨A, 0, by rw [hv, h1], hmax, .inl h1⟩
    · refine ⟨_, cap1, hv, hmax, .inr ⟨g1, off, cur, _, by rw [show off * (Kd.int .i64).sz = off from Nat.mul_one off], hb, hg, ?_⟩⟩
      rw [show (off + cap1) * (Kd.int .i64).sz = off + cap1 from Nat.mul_one _] at hcs
      rw [hcs]
      exact Nat.add_le_add_left hnc off
  · intro e
    exact (hQ.1 k hk).2 e
set_option maxRecDepth 100000 in
set_option maxHeartbeats 4000000 in
theorem markTaskS_row (B : Nat) (S : Nat → Prop) (v : Value) (l : List S33) (a : Int) (w : World) (h : Kd.R k33 33 w B S v l) :
    Calls Tryd.prog 27 #[v, .int .i64 a] w fun e w' => e = .returned (.int .i64 (mkT l a l.length)) ∧ Marks' B S w w' := by
  obtain ⟨A, c, rfl, hlc, hC⟩ := Kd.R_reads h
  have hn : l.length ≤ maxLen := hC.2.1
  have HN := Aside0.mk hn
  have HR := Aside0.mk h
  have HS := Aside0.mk h.1
  clear hn h hC hlc
  obtain ⟨n, HNL⟩ : ∃ n, Aside0 (n = l.length) := ⟨_, ⟨rfl⟩⟩
  rw [← HNL.out] at HN HR HS ⊢
  go_enter Tryd.func27, Tryd.ntmps27
  go_wp2
  go_loopg [1, 5] n (fun kq v1 v5 w' => ∃ (i : Nat) (x y : Int), v1 = .int .i64 y ∧ v5 = .int .i64 x ∧ Aside0 (kq + i = n ∧ x = (i : Int) ∧ y = mkT l a i) ∧ Aside0 (Marks' B S w w' ∧ ∀ g, A = some ⟨g, 0, none⟩ → ∀ j : Nat, w'.cell? ⟨g, j * 4 + 1, none⟩ = w.cell? ⟨g, j * 4 + 1, none⟩))
  case atStart => exact ⟨0, 0, a, rfl, rfl, ⟨rfl, rfl, rfl⟩, ⟨Marks'.refl _ _ _, fun _ _ _ => rfl⟩⟩
  case round =>
    obtain ⟨i, x, y, rfl, rfl, HI, HM⟩ := hrel
    have hn := HN.out
    have h1 := HI.out.1
    have h2 := HI.out.2.1
    have h3 := HI.out.2.2
    by_cases hlt : i < n
    · have hd : decide (x < (n : Int)) = true := decide_eq_true (by omega)
      obtain ⟨g, cap, hv, hB, hgl, cur0, hg0⟩ := Kd.R_form HR.out (by have := HNL.out; omega)
      injection hv with hA hln hc
      subst hA
      clear hln
      have p0 : 0 ≤ x := by omega
      have q0 : x < (n : Int) := by omega
      replace p0 := eq_true p0
      replace q0 := eq_true q0
      have hk : gk = (n - (i + 1)) + 1 := by omega
      obtain ⟨X, hX⟩ : ∃ X, X = x.toNat := ⟨_, rfl⟩
      have hXi : X = i := by omega
      have hsz := task_size HR.out hlt hg0
      obtain ⟨v1, hv1, hrow, hown⟩ := task_needs HR.out hlt
      obtain ⟨m, hm⟩ : ∃ m, m = (l.getD i z33).f1.length := ⟨_, rfl⟩
      rw [← hm] at hrow
      have Hv1 := Aside0.mk hv1
      have Hrow := Aside0.mk hrow
      have Hown := Aside0.mk hown
      have HSg := Aside0.mk (HS.out g rfl)
      have HB := Aside0.mk hB
      have HG := Aside0.mk hg0
      have HSZ := Aside0.mk hsz
      obtain ⟨cur1, hg1, hl1⟩ := HM.out.1.shape g cur0 _ hg0
      obtain ⟨⟨ua, hx0⟩, hf0⟩ := cell_here (o := x.toNat * 4) hg1 (by omega)
      have M1 := Aside0.mk (HM.out.1.set (g := g) hB (HS.out g rfl) (x.toNat * 4) (.int .i64 y))
      have H1 := Aside0.mk (head_set hg1 (o := x.toNat * 4) (u := .int .i64 y) (HM.out.2 g rfl) (by omega))
      have HX := Aside0.mk (show x.toNat = i by omega)
      have HI2 := Aside0.mk (show (n - (i + 1)) + (i + 1) = n ∧ wrap64 (x + 1) = ((i + 1 : Nat) : Int) ∧ wrap64 (wrap64 (upI m (wrap64 (y + 1)) + 1) + 1) = mkT l a (i + 1) from ⟨by omega, by unfold maxLen at hn; unfold wrap64; omega, by rw [hm, h3]; rfl⟩)
      clear h1 h2 h3 hn hXi hX hv1 hrow hown hB hg0 hsz hg1 hl1 HI HM hc hgl hlt hm
      subst hk
      clear hd
      go_wp2_with (first | ((with_reducible refine gate_store (t := 3) (p := 16) rfl ?_); refine store_event (t := 3) (p := 16) (v := ?vo_w8) (w1 := (wr.setCell ⟨g, x.toNat * 4, none⟩ (.int .i64 y))) ?hg ?ho ?hn ?hr ?_; (case ho => rfl); (case hg => rfl); (case hn => rfl); (case hr => (first | (go_simp; done) | (go_simp; rfl))); intro w1 hw; rw [← hw] at M1 H1; clear hw hx0 hf0; have hv1 : w1.cell? ⟨g, x.toNat * 4 + 1, none⟩ = some v1 := (by rw [H1.out (x.toNat), HX.out]; exact Hv1.out); have HC := Aside0.mk (markIntS_row B v1 m (wrap64 (y + 1)) w1 (Hrow.out.mv M1.out.shape))) | (go_at_call 28; refine HC.out.mono ?_; rintro e w2 ⟨rfl, hm⟩; have M2 := Aside0.mk (M1.out.trans hm (fun k hk => (Hown.out k hk.symm).1)); have H2 := Aside0.mk (show ∀ j : Nat, w2.cell? ⟨g, j * 4 + 1, none⟩ = w.cell? ⟨g, j * 4 + 1, none⟩ from fun j => (head_kept M1.out.shape HG.out hm.kept (fun he => (Hown.out g he.symm).2 rfl) _).trans (H1.out j)); clear hm HC M1 H1 hv1; obtain ⟨cur2, hg2, hl2⟩ := M2.out.shape g cur0 _ HG.out; obtain ⟨⟨u2, hx2⟩, hf2⟩ := cell_here (o := x.toNat * 4 + 2) hg2 (by have h5 := HX.out; have h6 := HSZ.out; omega); have M3 := Aside0.mk (M2.out.set (g := g) HB.out HSg.out (x.toNat * 4 + 2) (.int .i64 (upI m (wrap64 (y + 1))))); have H3 := Aside0.mk (head_set hg2 (o := x.toNat * 4 + 2) (u := .int .i64 (upI m (wrap64 (y + 1)))) H2.out (by omega)); clear M2 H2 hg2 hl2; obtain ⟨cur3, hg3, hl3⟩ := M3.out.shape g cur0 _ HG.out; obtain ⟨⟨u3, hx3⟩, hf3⟩ := cell_here (o := x.toNat * 4 + 3) hg3 (by have h5 := HX.out; have h6 := HSZ.out; omega); have M4 := Aside0.mk (M3.out.set (g := g) HB.out HSg.out (x.toNat * 4 + 3) (.int .i64 (wrap64 (upI m (wrap64 (y + 1)) + 1)))); have H4 := Aside0.mk (head_set hg3 (o := x.toNat * 4 + 3) (u := .int .i64 (wrap64 (upI m (wrap64 (y + 1)) + 1))) H3.out (by omega)); clear M3 H3 hg3 hl3))
      go_roundg (n - (i + 1))
      case measure => omega
      case rel => exact ⟨i + 1, _, _, rfl, rfl, HI2, ⟨M4.out, fun g' hg' => by cases hg'; exact H4.out⟩⟩
    · have hd : decide (x < (n : Int)) = false := decide_eq_false (by omega)
      have hi : i = n := by omega
      subst hi
      rw [h3]
      clear h1 h2 h3 hlt hn
      go_wp2
      go_ret
      exact ⟨by rw [HNL.out]; rfl, HM.out.1⟩
theorem of_if_some {p : Prop} {d_ : Decidable p} {a b : Bool} (h : (if p then some a else none) = some b) : p ∧ a = b := by
  by_cases hp : p
  · rw [if_pos hp] at h
    exact ⟨hp, Option.some.inj h⟩
  · rw [if_neg hp] at h
    cases h
theorem drawn0_below {w w' : World} (h : Drawn0 w w') : Below w.heap.size w w' := by
  obtain ⟨m, rfl⟩ := h
  exact pw_below_drewN (Below.refl _ _) m
theorem irow_of_R {w : World} {B : Nat} {ok : Nat → Prop} {e : TypeId} {v : Value} {xs : List Int} (h : Kd.R (Kd.int .i64) e w B ok v xs) : IRow w B v xs.length := by
  obtain ⟨h0, inner, hq, hr⟩ := Kd.Q_of_R h
  have hmax := q_max hq
  rcases hq.2 with ⟨h1, A, hv, hA⟩ | ⟨g1, off, cap1, cur, hv, hb, hg, hnc, hcm, hcs, _⟩
  · exact ⟨A, 0, by rw [hv, h1], hmax, .inl h1⟩
  · refine ⟨_, cap1, hv, hmax, .inr ⟨g1, off, cur, _, by rw [show off * (Kd.int .i64).sz = off from Nat.mul_one off], hb, hg, ?_⟩⟩
    rw [show (off + cap1) * (Kd.int .i64).sz = off + cap1 from Nat.mul_one _] at hcs
    rw [hcs]
    exact Nat.add_le_add_left hnc off
theorem Marks'.mono {B : Nat} {S S' : Nat → Prop} {w w' : World} (h : Marks' B S w w') (hs : ∀ k, S k → S' k) : Marks' B S' w w' := ⟨h.below, h.kept.mono hs, h.shape⟩
theorem markIntS_in (lo hi : Nat) (v : Value) (xs : List Int) (a : Int) (w : World) {e : TypeId} (h : Kd.R (Kd.int .i64) e w lo (fun k => k < hi) v xs) :
    Calls Tryd.prog 28 #[v, .int .i64 a] w fun e w' => e = .returned (.int .i64 (upI xs.length a)) ∧ Marks' lo (fun k => lo ≤ k ∧ k < hi) w w' :=
  (markIntS_row lo v xs.length a w (irow_of_R h)).mono fun e w' hh => ⟨hh.1, hh.2.mono fun k hk => ⟨((Kd.R_bound h).1 k hk.symm).2.1, h.1 k hk.symm⟩⟩
theorem markTaskS_in (lo hi : Nat) (v : Value) (l : List S33) (a : Int) (w : World) (h : Kd.R k33 33 w lo (fun k => k < hi) v l) :
    Calls Tryd.prog 27 #[v, .int .i64 a] w fun e w' => e = .returned (.int .i64 (mkT l a l.length)) ∧ Marks' lo (fun k => lo ≤ k ∧ k < hi) w w' :=
  markTaskS_row lo _ v l a w (Kd.R_mono (Kd.R_bound h) (fun k hk => ⟨hk.2.1, hk.1⟩))
end Go.Proofs.YtffhdofcfkgoaaaDoor.Core
end
section
set_option linter.unusedVariables false
namespace Go.Proofs.YtffhdofcfkgoaaaDoor.Core
open Go Go.RowKit Go.Proofs.YtffhdofcfkgoaaaDoorW.PrintWords Go.Proofs.YtffhdofcfkgoaaaDoorW.PrintLast Go.Proofs.YtffhdofcfkgoaaaDoorW.PrintMore Go.Proofs.YtffhdofcfkgoaaaDoor.P
theorem heldIntS_n {k : Nat} {A : Option Addr} {c n : Nat} {l : List Int} {a r : Int} {w : World} (hn : n = l.length ∧ n ≤ c ∧ (Kd.int .i64).C w A l.length l) (h : laws_heldIntS.f k l a = some r) :
    Calls Tryd.prog 29 #[.slice A n c, .int .i64 a] w fun e w' => e = .returned (.int .i64 r) ∧ Drawn0 w w' := by
  obtain ⟨rfl, hc, hC⟩ := hn
  exact laws_heldIntS.calls k A c l a r w hC hc h
end Go.Proofs.YtffhdofcfkgoaaaDoor.Core
end
section
set_option linter.unusedVariables false
set_option linter.unusedSimpArgs false
namespace Go.Proofs.YtffhdofcfkgoaaaDoor.Core
open Go Go.RowKit Go.Shelf Go.Proofs.YtffhdofcfkgoaaaDoorW.PrintWords Go.Proofs.YtffhdofcfkgoaaaDoor.P
attribute [local go_sem] Oper.semAt_some wide_fn wide_depth
def countD (g : List Tk) : Int := match graphD g with
  | none => -1
  | some G => if g.length > 5 then -1 else ((ordersF G 9 0 : Nat) : Int)
end Go.Proofs.YtffhdofcfkgoaaaDoor.Core
namespace Go.Proofs.YtffhdofcfkgoaaaDoor.P
open Go Go.RowKit Go.Shelf Go.Proofs.YtffhdofcfkgoaaaDoorW.PrintWords Go.Proofs.YtffhdofcfkgoaaaDoor.Core
attribute [local go_sem] Oper.semAt_some wide_fn wide_depth
def impl_CountOrders.f (l0 : List S33) : Option Int := some (countD l0)
set_option maxRecDepth 100000 in
set_option maxHeartbeats 4000000 in
theorem impl_CountOrders.calls (A0 : Option Addr) (c0 : Nat) (l0 : List S33) (r : Int) (w : World) (hr0 : Kd.C k33 w A0 l0.length l0) (hc0 : l0.length ≤ c0) (hT : Tab w) (h : impl_CountOrders.f l0 = some r) :
    Calls Tryd.prog 18 #[.slice A0 l0.length c0] w fun e w' => e = .returned (.int .i64 r) ∧ Below w.heap.size w w' := by
  have hr : r = countD l0 := (Option.some.inj h).symm
  subst hr
  have HG := Aside0.mk (graphOf_calls A0 c0 l0 w hT hr0 hc0)
  cases hg : graphD l0 with
  | none =>
    have hcd : countD l0 = -1 := by unfold countD; rw [hg]
    rw [hcd]
    have HG2 := Aside0.mk (HG.out.mono (R' := fun e w' => e = .returned (.tuple #[.pointer none, .bool false]) ∧ Below w.heap.size w w') (fun e w' h => by unfold graphPost at h; rw [hg] at h; exact h))
    clear h HG hr0 hc0 hcd hg
    go_enter Tryd.func18, Tryd.ntmps18
    go_wp2_with (go_at_call 47; refine HG2.out.mono ?_; rintro e w' ⟨rfl, hB⟩)
    go_ret
    exact ⟨rfl, hB⟩
  | some G =>
    have ok := graphD_ok hg
    have htk := graphD_tasks hg
    have HG2 := Aside0.mk (HG.out.mono (R' := fun e w' => ∃ (b : Nat) (v : Value), e = .returned (.tuple #[.pointer (some ⟨b, 0, none⟩), .bool true]) ∧ Below w.heap.size w w' ∧ w.heap.size ≤ b ∧ IsG w' b G ∧ w'.cell? ⟨b, 2, none⟩ = some v ∧ (Kd.int .i64).R 3 w' w.heap.size (fun _ => True) v (up G.order)) (fun e w' h => by unfold graphPost at h; rw [hg] at h; exact h))
    have hlen : countD l0 = if l0.length > 5 then -1 else ((ordersF G 9 0 : Nat) : Int) := by unfold countD; rw [hg]
    have HD := Aside0.mk hlen
    have HK := Aside0.mk (show G.tasks.length = l0.length by rw [htk])
    clear h HG hr0 hc0 hlen hg htk
    by_cases h5 : l0.length > 5
    · have h5' : decide ((l0.length : Int) > 5) = true := by simp; omega
      have hz : (0 < l0.length) = True := eq_true (by omega)
      go_enter Tryd.func18, Tryd.ntmps18
      go_wp2_with (go_at_call 47; refine HG2.out.mono ?_; rintro e w' ⟨b, v, rfl, hB, hb, hG, _, _⟩)
      go_ret
      exact ⟨by rw [HD.out, if_pos h5]; rfl, hB⟩
    · have h5' : decide ((l0.length : Int) > 5) = false := by simp; omega
      go_enter Tryd.func18, Tryd.ntmps18
      go_wp2_with (first | (go_at_call 47; refine HG2.out.mono ?_; rintro e w1 ⟨b, v, rfl, hB, hb, hG, _, _⟩) | (go_at_call 48; refine (orders_calls b G ok 9 (by omega) 0 w1 (Nat.two_pow_pos _) (by rw [zb_zero]; have := ok.n8; omega) (hT.of hB) hG).mono ?_; rintro e w2 ⟨rfl, hB2⟩))
      go_ret
      exact ⟨by rw [HD.out, if_neg h5]; rfl, below_step hB hB2⟩
end Go.Proofs.YtffhdofcfkgoaaaDoor.P
end
section
set_option linter.unusedVariables false
set_option linter.unusedSimpArgs false
namespace Go.Proofs.YtffhdofcfkgoaaaDoor.Core
open Go Go.RowKit Go.Proofs.YtffhdofcfkgoaaaDoorW.PrintWords Go.Proofs.YtffhdofcfkgoaaaDoorW.PrintMore Go.Proofs.YtffhdofcfkgoaaaDoor.P
abbrev big : Nat := 4611686018427387904
theorem w64s {n : Nat} (h : n < big) : wrap64 ((n : Int) + 1) = ((n + 1 : Nat) : Int) := by rw [w64 (by omega) (by unfold big at h; omega)]; omega
theorem inRange_eq (x a b : Int) : spec_inRange.f x a b = some (decide (a ≤ x ∧ x ≤ b)) := by
  unfold spec_inRange.f
  by_cases h : a ≤ x
  · rw [if_pos h]; simp; omega
  · rw [if_neg h]; simp; omega
theorem ev_isIn_from (L : List Int) (x : Int) (hL : L.length < big) : ∀ (r pre : List Int), L = pre ++ r → Ev (fun k => spec_isIn.l0 k L x (pre.length : Int)) (decide (x ∈ r))
  | [], pre, hp => by
    refine Ev.succ ((Ev.const _).of fun k => ?_)
    rw [List.append_nil] at hp
    subst hp
    rw [spec_isIn.l0, if_neg (by omega)]
    simp
  | y :: r, pre, hp => by
    have hlen : L.length = pre.length + (r.length + 1) := by rw [hp]; simp
    have hrd : rd L (pre.length : Int) = y := by rw [hp]; exact rd_mid rfl
    refine Ev.succ ?_
    by_cases hy : y = x
    · refine (Ev.const _).of fun k => ?_
      rw [spec_isIn.l0, if_pos (by omega), if_pos (by omega), hrd, if_pos hy]
      simp [hy]
    · have ih := ev_isIn_from L x hL r (pre ++ [y]) (by rw [hp]; simp)
      have e : decide (x ∈ y :: r) = decide (x ∈ r) := by
        have : x ≠ y := fun h => hy h.symm
        simp [this]
      rw [e]
      refine ih.of fun k => ?_
      rw [spec_isIn.l0, if_pos (by omega), if_pos (by omega), hrd, if_neg hy, w64s (by omega)]
      simp
theorem ev_isIn {L : List Int} (hL : L.length < big) (x : Int) : Ev (fun k => spec_isIn.f k L x) (decide (x ∈ L)) := ev_isIn_from L x hL L [] rfl
theorem ev_allIn_from (L : List Int) (a b : Int) (hL : L.length < big) : ∀ (r pre : List Int), L = pre ++ r → Ev (fun k => spec_allIn.l0 k L a b (pre.length : Int)) (decide (∀ x ∈ r, a ≤ x ∧ x ≤ b))
  | [], pre, hp => by
    refine Ev.succ ((Ev.const _).of fun k => ?_)
    rw [List.append_nil] at hp
    subst hp
    rw [spec_allIn.l0, if_neg (by omega)]
    simp
  | y :: r, pre, hp => by
    have hlen : L.length = pre.length + (r.length + 1) := by rw [hp]; simp
    have hrd : rd L (pre.length : Int) = y := by rw [hp]; exact rd_mid rfl
    refine Ev.succ ?_
    by_cases hy : a ≤ y ∧ y ≤ b
    · have ih := ev_allIn_from L a b hL r (pre ++ [y]) (by rw [hp]; simp)
      have e : decide (∀ x ∈ y :: r, a ≤ x ∧ x ≤ b) = decide (∀ x ∈ r, a ≤ x ∧ x ≤ b) := by simp [hy]
      rw [e]
      refine ih.of fun k => ?_
      rw [spec_allIn.l0, if_pos (by omega), if_pos (by omega), hrd, inRange_eq, decide_eq_true hy, Option.bind_some, if_pos rfl, w64s (by omega)]
      simp
    · refine (Ev.const _).of fun k => ?_
      rw [spec_allIn.l0, if_pos (by omega), if_pos (by omega), hrd, inRange_eq, decide_eq_false hy, Option.bind_some, if_neg (by simp)]
      simp only [Option.some.injEq]
      rw [eq_comm, decide_eq_false_iff_not]
      exact fun h => hy (h y List.mem_cons_self)
theorem ev_allIn {L : List Int} (hL : L.length < big) (a b : Int) : Ev (fun k => spec_allIn.f k L a b) (decide (∀ x ∈ L, a ≤ x ∧ x ≤ b)) := ev_allIn_from L a b hL L [] rfl
def ascD : List Int → Bool
  | [] => true
  | [_] => true
  | x :: y :: r => decide (x < y) && ascD (y :: r)
theorem ev_asc_from (L : List Int) (hL : L.length < big) : ∀ (r pre : List Int) (x : Int), L = pre ++ x :: r → Ev (fun k => spec_ascends.l0 k L ((pre.length + 1 : Nat) : Int)) (ascD (x :: r))
  | [], pre, x, hp => by
    have hlen : L.length = pre.length + 1 := by rw [hp]; simp
    refine Ev.succ ((Ev.const _).of fun k => ?_)
    rw [spec_ascends.l0, if_neg (by omega)]
    rfl
  | y :: r, pre, x, hp => by
    have hlen : L.length = pre.length + (r.length + 1 + 1) := by rw [hp]; simp
    have hw : wrap64 (((pre.length + 1 : Nat) : Int) - 1) = (pre.length : Int) := by rw [w64 (by omega) (by unfold big at hL; omega)]; omega
    have hrd : rd L (pre.length : Int) = x := by rw [hp]; exact rd_mid rfl
    have hrd2 : rd L ((pre.length + 1 : Nat) : Int) = y := by
      have : L = (pre ++ [x]) ++ y :: r := by rw [hp]; simp
      rw [this]; exact rd_mid (by simp)
    refine Ev.succ ?_
    by_cases hy : x < y
    · have ih := ev_asc_from L hL r (pre ++ [x]) y (by rw [hp]; simp)
      have e : ascD (x :: y :: r) = ascD (y :: r) := by simp [ascD, hy]
      rw [e]
      refine ih.of fun k => ?_
      rw [spec_ascends.l0, if_pos (by omega), if_pos (by omega), hw, if_pos (by omega), if_pos (by omega), hrd, hrd2, if_neg (by omega), w64s (by omega)]
      simp
    · have e : ascD (x :: y :: r) = false := by simp [ascD, hy]
      rw [e]
      refine (Ev.const _).of fun k => ?_
      rw [spec_ascends.l0, if_pos (by omega), if_pos (by omega), hw, if_pos (by omega), if_pos (by omega), hrd, hrd2, if_pos (by omega)]
theorem ev_ascends {L : List Int} (hL : L.length < big) : Ev (fun k => spec_ascends.f k L) (ascD L) := by
  cases L with
  | nil =>
    refine Ev.of (Ev.succ ((Ev.const true).of (g := fun k => spec_ascends.l0 (k + 1) [] 1) fun k => ?_)) (fun k => rfl)
    rw [spec_ascends.l0, if_neg (by simp)]
  | cons x r => exact ev_asc_from (x :: r) hL r [] x rfl
theorem ev_allDone_from (L M : List Int) (hL : L.length < big) (hM : M.length < big) : ∀ (r pre : List Int), L = pre ++ r → Ev (fun k => spec_allDone.l0 k L M (pre.length : Int)) (decide (∀ x ∈ r, x ∈ M))
  | [], pre, hp => by
    refine Ev.succ ((Ev.const _).of fun k => ?_)
    rw [List.append_nil] at hp
    subst hp
    rw [spec_allDone.l0, if_neg (by omega)]
    simp
  | y :: r, pre, hp => by
    have hlen : L.length = pre.length + (r.length + 1) := by rw [hp]; simp
    have hrd : rd L (pre.length : Int) = y := by rw [hp]; exact rd_mid rfl
    have hi := ev_isIn hM y
    refine Ev.succ ?_
    by_cases hy : y ∈ M
    · have ih := ev_allDone_from L M hL hM r (pre ++ [y]) (by rw [hp]; simp)
      have e : decide (∀ x ∈ y :: r, x ∈ M) = decide (∀ x ∈ r, x ∈ M) := by simp [hy]
      rw [e]
      rw [decide_eq_true hy] at hi
      refine (hi.bind (g := fun k t => if t = true then spec_allDone.l0 k L M ((pre ++ [y]).length : Int) else some false) (ih.of fun k => if_pos rfl)).of fun k => ?_
      rw [spec_allDone.l0, if_pos (by omega), if_pos (by omega), hrd, w64s (by omega)]
      simp
    · have e : decide (∀ x ∈ y :: r, x ∈ M) = false := by
        rw [decide_eq_false_iff_not]
        exact fun h => hy (h y List.mem_cons_self)
      rw [e]
      rw [decide_eq_false hy] at hi
      refine (hi.bind (g := fun k t => if t = true then spec_allDone.l0 k L M ((pre ++ [y]).length : Int) else some false) ((Ev.const false).of fun k => if_neg (by simp))).of fun k => ?_
      rw [spec_allDone.l0, if_pos (by omega), if_pos (by omega), hrd, w64s (by omega)]
      simp
theorem ev_allDone {L M : List Int} (hL : L.length < big) (hM : M.length < big) : Ev (fun k => spec_allDone.f k L M) (decide (∀ x ∈ L, x ∈ M)) := ev_allDone_from L M hL hM L [] rfl
def needsOk (n : Nat) (l : List Int) : Prop := (∀ x ∈ l, 0 ≤ x ∧ x ≤ (n : Int) - 1) ∧ ascD l = true
instance (n : Nat) (l : List Int) : Decidable (needsOk n l) := by unfold needsOk; infer_instance
theorem ev_validTask {t : Tk} (ht : t.f1.length < big) {n : Nat} (hn : n < big) : Ev (fun k => spec_validTask.f k t.f0 t.f1 t.f2 t.f3 (n : Int)) (decide (taskOk t ∧ needsOk n t.f1)) := by
  have hw : wrap64 ((n : Int) - 1) = (n : Int) - 1 := w64 (by omega) (by unfold big at hn; omega)
  have hA := ev_allIn ht 0 ((n : Int) - 1)
  have hB := ev_ascends ht
  by_cases h1 : 1 ≤ t.f0 ∧ t.f0 ≤ 20
  · by_cases h2 : 0 ≤ t.f2 ∧ t.f2 ≤ 2
    · by_cases h3 : 1 ≤ t.f3 ∧ t.f3 ≤ 4
      · have hok : taskOk t := ⟨h1, h2, h3⟩
        have hu : ∀ k, spec_validTask.f k t.f0 t.f1 t.f2 t.f3 (n : Int) = (spec_allIn.f k t.f1 0 ((n : Int) - 1)).bind fun t113 => (if t113 = true then ((spec_ascends.f k t.f1).bind fun t114 => (some t114)) else (some false)) := by
          intro k
          unfold spec_validTask.f
          rw [inRange_eq, inRange_eq, inRange_eq, decide_eq_true h1, decide_eq_true h2, decide_eq_true h3, hw]
          rfl
        refine Ev.of ?_ hu
        refine (hA.bind (g := fun k t113 => if t113 = true then ((spec_ascends.f k t.f1).bind fun t114 => (some t114)) else (some false)) (b := decide (taskOk t ∧ needsOk n t.f1)) ?_)
        by_cases h4 : ∀ x ∈ t.f1, 0 ≤ x ∧ x ≤ (n : Int) - 1
        · rw [decide_eq_true h4]
          have e : decide (taskOk t ∧ needsOk n t.f1) = ascD t.f1 := by
            cases h5 : ascD t.f1
            · rw [decide_eq_false_iff_not]; intro h; have := h.2.2; rw [h5] at this; cases this
            · rw [decide_eq_true_eq]; exact ⟨hok, h4, h5⟩
          rw [e]
          refine (hB.bind (g := fun _ t114 => some t114) (Ev.const _)).of fun k => ?_
          rw [if_pos rfl]
        · rw [decide_eq_false h4]
          have e : decide (taskOk t ∧ needsOk n t.f1) = false := by rw [decide_eq_false_iff_not]; exact fun h => h4 h.2.1
          rw [e]
          exact (Ev.const false).of fun k => if_neg (by simp)
      · have e : decide (taskOk t ∧ needsOk n t.f1) = false := by rw [decide_eq_false_iff_not]; exact fun h => h3 h.1.2.2
        rw [e]
        refine (Ev.const false).of fun k => ?_
        unfold spec_validTask.f
        rw [inRange_eq, inRange_eq, inRange_eq, decide_eq_true h1, decide_eq_true h2, decide_eq_false h3]
        rfl
    · have e : decide (taskOk t ∧ needsOk n t.f1) = false := by rw [decide_eq_false_iff_not]; exact fun h => h2 h.1.2.1
      rw [e]
      refine (Ev.const false).of fun k => ?_
      unfold spec_validTask.f
      rw [inRange_eq, inRange_eq, decide_eq_true h1, decide_eq_false h2]
      rfl
  · have e : decide (taskOk t ∧ needsOk n t.f1) = false := by rw [decide_eq_false_iff_not]; exact fun h => h1 h.1.1
    rw [e]
    refine (Ev.const false).of fun k => ?_
    unfold spec_validTask.f
    rw [inRange_eq, decide_eq_false h1]
    rfl
/-- All lists are of a size that fits. -/
def Fits (g : List Tk) : Prop := g.length < big ∧ ∀ t ∈ g, t.f1.length < big
theorem ev_tasksFine_from (g : List Tk) (hg : Fits g) : ∀ (r pre : List Tk), g = pre ++ r → Ev (fun k => spec_tasksFine.l0 k g (pre.length : Int)) (decide ((∀ t ∈ r, taskOk t ∧ needsOk g.length t.f1) ∧ g.length ≤ 8))
  | [], pre, hp => by
    refine Ev.succ ((Ev.const _).of fun k => ?_)
    rw [List.append_nil] at hp
    subst hp
    rw [spec_tasksFine.l0, if_neg (by omega)]
    congr 1
    rw [decide_eq_decide]
    constructor
    · intro h; exact ⟨by simp, by omega⟩
    · intro h; omega
  | t :: r, pre, hp => by
    have hlen : g.length = pre.length + (r.length + 1) := by rw [hp]; simp
    have hbig := hg.1
    have hrd : rd_T33 g (pre.length : Int) = t := by rw [hp]; exact rdT_mid rfl
    have hv := ev_validTask (hg.2 t (by rw [hp]; simp)) hg.1
    refine Ev.succ ?_
    by_cases hy : taskOk t ∧ needsOk g.length t.f1
    · have ih := ev_tasksFine_from g hg r (pre ++ [t]) (by rw [hp]; simp)
      have e : decide ((∀ t' ∈ t :: r, taskOk t' ∧ needsOk g.length t'.f1) ∧ g.length ≤ 8) = decide ((∀ t ∈ r, taskOk t ∧ needsOk g.length t.f1) ∧ g.length ≤ 8) := by simp [hy]
      rw [e]
      rw [decide_eq_true hy] at hv
      refine (hv.bind (g := fun k b => if b = true then spec_tasksFine.l0 k g ((pre ++ [t]).length : Int) else some false) (ih.of fun k => if_pos rfl)).of fun k => ?_
      rw [spec_tasksFine.l0, if_pos (by omega), if_pos (by omega), hrd, w64s (by omega)]
      simp
    · have e : decide ((∀ t' ∈ t :: r, taskOk t' ∧ needsOk g.length t'.f1) ∧ g.length ≤ 8) = false := by
        rw [decide_eq_false_iff_not]
        exact fun h => hy (h.1 t List.mem_cons_self)
      rw [e]
      rw [decide_eq_false hy] at hv
      refine (hv.bind (g := fun k b => if b = true then spec_tasksFine.l0 k g ((pre ++ [t]).length : Int) else some false) ((Ev.const false).of fun k => if_neg (by simp))).of fun k => ?_
      rw [spec_tasksFine.l0, if_pos (by omega), if_pos (by omega), hrd, w64s (by omega)]
      simp
def fineD (g : List Tk) : Prop := (∀ t ∈ g, taskOk t ∧ needsOk g.length t.f1) ∧ g.length ≤ 8
instance (g : List Tk) : Decidable (fineD g) := by unfold fineD; infer_instance
theorem ev_tasksFine {g : List Tk} (hg : Fits g) : Ev (fun k => spec_tasksFine.f k g) (decide (fineD g)) := ev_tasksFine_from g hg g [] rfl
end Go.Proofs.YtffhdofcfkgoaaaDoor.Core
namespace Go.Proofs.YtffhdofcfkgoaaaDoor.Core
open Go Go.RowKit Go.Proofs.YtffhdofcfkgoaaaDoorW.PrintWords Go.Proofs.YtffhdofcfkgoaaaDoorW.PrintMore Go.Proofs.YtffhdofcfkgoaaaDoor.P
theorem asc_lt : ∀ {r : List Int} {x : Int}, ascD (x :: r) = true → ascD r = true ∧ ∀ y ∈ r, x < y
  | [], x, _ => ⟨rfl, by simp⟩
  | y :: r, x, h => by
    simp only [ascD, Bool.and_eq_true, decide_eq_true_eq] at h
    have h2 := asc_lt h.2
    refine ⟨h.2, fun z hz => ?_⟩
    rcases List.mem_cons.1 hz with rfl | hz
    · exact h.1
    · have := h2.2 z hz; omega
theorem asc_mk {r : List Int} {x : Int} (h : ascD r = true) (h2 : ∀ y ∈ r, x < y) : ascD (x :: r) = true := by
  cases r with
  | nil => rfl
  | cons y r => simp [ascD, h, h2 y List.mem_cons_self]
theorem setGo_some {n : Nat} : ∀ {r : List Int} {s : Nat} {last : Int} {t : Nat}, -1 ≤ last → setGo n r s last = some t → (∀ x ∈ r, last + 1 ≤ x ∧ x ≤ (n : Int) - 1) ∧ ascD r = true ∧ ∀ i : Nat, t.testBit i = (s.testBit i || decide ((i : Int) ∈ r))
  | [], s, last, t, hl, h => by
    rw [setGo] at h
    cases h
    exact ⟨by simp, rfl, by simp⟩
  | x :: r, s, last, t, hl, h => by
    rw [setGo] at h
    by_cases hx : last + 1 ≤ x ∧ x ≤ (n : Int) - 1
    · rw [if_pos hx] at h
      obtain ⟨h1, h2, h3⟩ := setGo_some (by omega) h
      refine ⟨fun y hy => ?_, asc_mk h2 (fun y hy => by have := h1 y hy; omega), fun i => ?_⟩
      · rcases List.mem_cons.1 hy with rfl | hy
        · exact hx
        · have := h1 y hy; omega
      · rw [h3, or_bit]
        have : decide (x.toNat = i) = decide ((i : Int) = x) := by rw [decide_eq_decide]; omega
        rw [this]
        by_cases e : (i : Int) = x
        · simp [e]
        · simp [e]
    · rw [if_neg hx] at h; cases h
theorem setGo_ok {n : Nat} : ∀ {r : List Int} (s : Nat) {last : Int}, (∀ x ∈ r, last + 1 ≤ x ∧ x ≤ (n : Int) - 1) → ascD r = true → ∃ t, setGo n r s last = some t
  | [], s, last, _, _ => ⟨s, rfl⟩
  | x :: r, s, last, h, ha => by
    have h2 := asc_lt ha
    have hx := h x List.mem_cons_self
    rw [setGo, if_pos hx]
    exact setGo_ok _ (fun y hy => ⟨by have := h2.2 y hy; omega, (h y (List.mem_cons_of_mem _ hy)).2⟩) h2.1
theorem setD_some {n : Nat} {l : List Int} {t : Nat} (h : setD n l = some t) : needsOk n l ∧ ∀ i : Nat, t.testBit i = decide ((i : Int) ∈ l) := by
  obtain ⟨h1, h2, h3⟩ := setGo_some (by omega) h
  exact ⟨⟨fun x hx => by have := h1 x hx; omega, h2⟩, fun i => by rw [h3]; simp⟩
theorem setD_ok {n : Nat} {l : List Int} (h : needsOk n l) : ∃ t, setD n l = some t := setGo_ok 0 (fun x hx => by have := h.1 x hx; omega) h.2
theorem setD_none {n : Nat} {l : List Int} (h : setD n l = none) : ¬needsOk n l := fun h2 => by
  obtain ⟨t, ht⟩ := setD_ok h2
  rw [h] at ht
  cases ht
theorem needsGo_ok {n : Nat} : ∀ {r : List Tk}, (∀ t ∈ r, taskOk t ∧ needsOk n t.f1) → ∃ N, needsGo n r = some N
  | [], _ => ⟨[], rfl⟩
  | t :: r, h => by
    obtain ⟨s, hs⟩ := setD_ok (h t List.mem_cons_self).2
    obtain ⟨N, hN⟩ := needsGo_ok (fun t' ht => h t' (List.mem_cons_of_mem _ ht))
    rw [needsGo, hs]
    simp only [(h t List.mem_cons_self).1, if_true, hN]
    exact ⟨_, rfl⟩
theorem needsGo_fine {n : Nat} : ∀ {r : List Tk} {N : List Nat}, needsGo n r = some N → (∀ t ∈ r, taskOk t ∧ needsOk n t.f1) ∧ ∀ i, i < r.length → ∀ j : Nat, (N.getD i 0).testBit j = decide ((j : Int) ∈ (r.getD i z33).f1)
  | [], N, h => ⟨by simp, by intro i hi; simp at hi⟩
  | t :: r, N, h => by
    rw [needsGo] at h
    cases he : setD n t.f1 with
    | none => rw [he] at h; cases h
    | some s =>
      rw [he] at h
      by_cases hok : taskOk t
      · simp only [hok, if_true] at h
        cases hg : needsGo n r with
        | none => rw [hg] at h; cases h
        | some M =>
          rw [hg] at h
          cases h
          have ih := needsGo_fine hg
          have hs := setD_some he
          refine ⟨fun t' ht => ?_, fun i hi j => ?_⟩
          · rcases List.mem_cons.1 ht with rfl | ht
            · exact ⟨hok, hs.1⟩
            · exact ih.1 t' ht
          · cases i with
            | zero => simpa using hs.2 j
            | succ i => simpa using ih.2 i (by simpa using hi) j
      · simp [hok] at h
theorem needsD_fine {g : List Tk} {N : List Nat} (h : needsD g = some N) : fineD g ∧ ∀ i, i < g.length → ∀ j : Nat, (N.getD i 0).testBit j = decide ((j : Int) ∈ (g.getD i z33).f1) := by
  have h8 := (needsD_spec h).1
  unfold needsD at h
  rw [if_pos h8] at h
  have := needsGo_fine h
  exact ⟨⟨this.1, h8⟩, this.2⟩
theorem fineD_needs {g : List Tk} (h : fineD g) : ∃ N, needsD g = some N := by
  unfold needsD
  rw [if_pos h.2]
  exact needsGo_ok h.1
theorem sub_zero {a b : Nat} (ha : a < 256) (hb : b < 256) : sub a b = 0 ↔ ∀ j, a.testBit j = true → b.testBit j = true := by
  constructor
  · intro h j hj
    have := sub_testBit (i := j) ha hb
    rw [h, hj] at this
    simpa using this
  · intro h
    apply Nat.eq_of_testBit_eq
    intro j
    rw [sub_testBit ha hb, Nat.zero_testBit]
    cases e : a.testBit j
    · rfl
    · rw [h j e]; rfl
theorem mem_up {L : List Nat} {i : Nat} : (i : Int) ∈ up L ↔ i ∈ L := by
  unfold up
  rw [List.mem_map]
  constructor
  · rintro ⟨a, ha, e⟩
    have : a = i := Int.ofNat.inj e
    exact this ▸ ha
  · intro h
    exact ⟨i, h, rfl⟩
/-- All needs of a task are among some, said both ways. -/
theorem done_iff {g : List Tk} {N : List Nat} (hN : needsD g = some N) {L : List Nat} {d : Nat} (hd : d < 256) (hs : ∀ i, d.testBit i = true ↔ i ∈ L) {i : Nat} (hi : i < g.length) : (∀ x ∈ (g.getD i z33).f1, x ∈ up L) ↔ sub (N.getD i 0) d = 0 := by
  obtain ⟨h8, hl, hb⟩ := needsD_spec hN
  obtain ⟨hf, hbit⟩ := needsD_fine hN
  rw [sub_zero (Nat.lt_of_lt_of_le (getD_lt hb i) (pow8 h8)) hd]
  constructor
  · intro h j hj
    rw [hbit i hi j, decide_eq_true_eq] at hj
    exact (hs j).2 (mem_up.1 (h _ hj))
  · intro h x hx
    have hmem : g.getD i z33 ∈ g := by
      rw [List.getD_eq_getElem?_getD, List.getElem?_eq_getElem hi]
      exact List.getElem_mem hi
    have h0 := (hf.1 _ hmem).2.1 x hx
    obtain ⟨j, rfl⟩ : ∃ j : Nat, x = (j : Int) := ⟨x.toNat, by omega⟩
    refine mem_up.2 ((hs j).1 (h j ?_))
    rw [hbit i hi j, decide_eq_true_eq]
    exact hx
theorem rdT_nat (g : List Tk) (i : Nat) : rd_T33 g (i : Int) = g.getD i z33 := by simp [rd_T33]
theorem getD_mem {g : List Tk} {i : Nat} (hi : i < g.length) : g.getD i z33 ∈ g := by
  rw [List.getD_eq_getElem?_getD, List.getElem?_eq_getElem hi]
  exact List.getElem_mem hi
theorem ev_top_found {g : List Tk} (hg : Fits g) (L : List Nat) (hL : L.length ≤ 100) (j : Nat) (i : Int) (R : List Int) (h : Ev (fun k => spec_topOrder.l0 k g (up (L ++ [j]))) R) : Ev (fun k => spec_topOrder.l1 k g (up L) (j : Int) i) R := by
  have e : up (L ++ [j]) = up L ++ [(j : Int)] := by simp [up]
  have h2 : Ev (fun k => spec_topOrder.j2 k g (up L) (j : Int) i false) R := by
    refine Ev.succ (h.of fun k => ?_)
    rw [spec_topOrder.j2, if_neg (by simp), if_neg (by omega), if_pos (by rw [up_length]; omega), e]
  refine Ev.succ (h2.of fun k => ?_)
  rw [spec_topOrder.l1, show decide ((j : Int) < 0) = false by simp]
  split <;> rfl
theorem ev_top_scan {g : List Tk} (hg : Fits g) {N : List Nat} (hN : needsD g = some N) (L : List Nat) (d : Nat) (hL : L.length ≤ 100) (hd : d < 256) (hs : ∀ i, d.testBit i = true ↔ i ∈ L) (R : Option Nat → List Int) (hR : R none = up L) : ∀ (m i : Nat), i + m = g.length →
    (∀ j, nextFrom N d i m = some j → Ev (fun k => spec_topOrder.l0 k g (up (L ++ [j]))) (R (some j))) → Ev (fun k => spec_topOrder.l1 k g (up L) (-1) (i : Int)) (R (nextFrom N d i m))
  | 0, i, hi, ho => by
    rw [nextFrom, hR]
    refine Ev.succ ?_
    have h2 : Ev (fun k => spec_topOrder.j2 k g (up L) (-1) (i : Int) false) (up L) := by
      refine Ev.succ ((Ev.const _).of fun k => ?_)
      rw [spec_topOrder.j2, if_neg (by simp), if_pos (by omega)]
    refine h2.of fun k => ?_
    rw [spec_topOrder.l1, if_neg (by omega)]
  | m + 1, i, hi, ho => by
    have hig : i < g.length := by omega
    have h8 := (needsD_spec hN).1
    have hin := ev_isIn (L := up L) (by rw [up_length]; unfold big; omega) (i : Int)
    have hdn := ev_allDone (L := (g.getD i z33).f1) (M := up L) (hg.2 _ (getD_mem hig)) (by rw [up_length]; unfold big; omega)
    have e1 : decide ((i : Int) ∈ up L) = d.testBit i := by
      rw [Bool.eq_iff_iff, decide_eq_true_eq, mem_up, hs]
    have e2 : decide (∀ x ∈ (g.getD i z33).f1, x ∈ up L) = decide (sub (N.getD i 0) d = 0) := by
      rw [decide_eq_decide]; exact done_iff hN hd hs hig
    rw [e1] at hin
    rw [e2] at hdn
    have hw : wrap64 ((i : Int) + 1) = ((i + 1 : Nat) : Int) := w64s (by unfold big; omega)
    refine Ev.succ ?_
    have hj2 : Ev (fun k => spec_topOrder.j2 k g (up L) (-1) (i : Int) true) (R (nextFrom N d i (m + 1))) := by
      refine Ev.succ ?_
      have hu : ∀ k, spec_topOrder.j2 (k + 1) g (up L) (-1) (i : Int) true = (spec_isIn.f k (up L) (i : Int)).bind fun t126 => (if t126 = true then (spec_topOrder.l1 k g (up L) (-1) ((i + 1 : Nat) : Int)) else ((spec_allDone.f k (g.getD i z33).f1 (up L)).bind fun t128 => (if t128 = true then (spec_topOrder.l1 k g (up L) (i : Int) ((i + 1 : Nat) : Int)) else (spec_topOrder.l1 k g (up L) (-1) ((i + 1 : Nat) : Int))))) := by
        intro k
        rw [spec_topOrder.j2, if_pos rfl, hw, if_pos (show 0 ≤ (i : Int) by omega), if_pos (show (i : Int) < (g.length : Int) by omega), rdT_nat]
      refine Ev.of ?_ hu
      refine hin.bind (g := fun k t126 => (if t126 = true then (spec_topOrder.l1 k g (up L) (-1) ((i + 1 : Nat) : Int)) else ((spec_allDone.f k (g.getD i z33).f1 (up L)).bind fun t128 => (if t128 = true then (spec_topOrder.l1 k g (up L) (i : Int) ((i + 1 : Nat) : Int)) else (spec_topOrder.l1 k g (up L) (-1) ((i + 1 : Nat) : Int)))))) ?_
      cases hbit : d.testBit i with
      | true =>
        have hg2 : nextFrom N d i (m + 1) = nextFrom N d (i + 1) m := by rw [nextFrom, if_neg (by simp [hbit])]
        rw [hg2] at ho ⊢
        exact (ev_top_scan hg hN L d hL hd hs R hR m (i + 1) (by omega) ho).of fun k => if_pos rfl
      | false =>
        by_cases hz : sub (N.getD i 0) d = 0
        · have hg2 : nextFrom N d i (m + 1) = some i := by rw [nextFrom, if_pos ⟨hbit, hz⟩]
          rw [hg2]
          rw [decide_eq_true hz] at hdn
          have hf := ev_top_found hg L hL i ((i + 1 : Nat) : Int) _ (ho i hg2)
          refine (hdn.bind (g := fun k t128 => if t128 = true then (spec_topOrder.l1 k g (up L) (i : Int) ((i + 1 : Nat) : Int)) else (spec_topOrder.l1 k g (up L) (-1) ((i + 1 : Nat) : Int))) (hf.of fun k => if_pos rfl)).of fun k => ?_
          rw [if_neg (by simp)]
        · have hg2 : nextFrom N d i (m + 1) = nextFrom N d (i + 1) m := by rw [nextFrom, if_neg (fun h => hz h.2)]
          rw [hg2] at ho ⊢
          rw [decide_eq_false hz] at hdn
          have ih := ev_top_scan hg hN L d hL hd hs R hR m (i + 1) (by omega) ho
          refine (hdn.bind (g := fun k t128 => if t128 = true then (spec_topOrder.l1 k g (up L) (i : Int) ((i + 1 : Nat) : Int)) else (spec_topOrder.l1 k g (up L) (-1) ((i + 1 : Nat) : Int))) (ih.of fun k => if_neg (by simp))).of fun k => ?_
          rw [if_neg (by simp)]
    refine hj2.of fun k => ?_
    rw [spec_topOrder.l1, if_pos (by omega)]
    rfl
theorem orderGo_none {N : List Nat} {d : Nat} (h : nextD N d = none) : ∀ (m : Nat) (L : List Nat), orderGo N m L d = (L, d)
  | 0, L => rfl
  | m + 1, L => by rw [orderGo, h]; exact orderGo_none h m L
theorem next_zb {N : List Nat} {d j : Nat} (h : nextD N d = some j) : zb N.length (d ||| 2 ^ j) < zb N.length d := by
  have := nextD_spec h
  exact zb_lt this.2.1 this.1
theorem ev_top_go {g : List Tk} (hg : Fits g) {N : List Nat} (hN : needsD g = some N) : ∀ (m : Nat) (L : List Nat) (d : Nat), OrdOk N L d → zb N.length d ≤ m → Ev (fun k => spec_topOrder.l0 k g (up L)) (up (orderGo N m L d).1) := by
  obtain ⟨h8, hl, hb⟩ := needsD_spec hN
  have hb' : below1 N.length N := by rw [hl]; exact hb
  intro m
  induction m with
  | zero =>
    intro L d ok hz
    have hlt := Nat.lt_of_lt_of_le ok.dlt (pow8 (n := N.length) (by omega))
    have hnone : nextD N d = none := by
      cases h : nextD N d with
      | none => rfl
      | some j => have := next_zb h; omega
    have h := ev_top_scan hg hN L d (by have := ok.len; omega) hlt ok.set (fun _ => up L) rfl g.length 0 (by omega) (fun j hj => by
      have : nextD N d = some j := by unfold nextD; rw [hl]; exact hj
      rw [hnone] at this; cases this)
    refine Ev.succ (h.of fun k => ?_)
    rw [spec_topOrder.l0]
    rfl
  | succ m ih =>
    intro L d ok hz
    have hlt := Nat.lt_of_lt_of_le ok.dlt (pow8 (n := N.length) (by omega))
    have h := ev_top_scan hg hN L d (by have := ok.len; omega) hlt ok.set (fun o => match o with | some i => up (orderGo N m (L ++ [i]) (d ||| 2 ^ i)).1 | none => up L) rfl g.length 0 (by omega) (fun j hj => by
      have hj2 : nextD N d = some j := by unfold nextD; rw [hl]; exact hj
      have hsp := nextD_spec hj2
      have := next_zb hj2
      exact ih (L ++ [j]) (d ||| 2 ^ j) (ok.step (by omega) hb' hsp.1 hsp.2.1 hsp.2.2) (by omega))
    have e : (match nextFrom N d 0 g.length with | some i => up (orderGo N m (L ++ [i]) (d ||| 2 ^ i)).1 | none => up L) = up (orderGo N (m + 1) L d).1 := by
      rw [orderGo]
      have e2 : nextD N d = nextFrom N d 0 g.length := by unfold nextD; rw [hl]
      rw [e2]
      cases hx : nextFrom N d 0 g.length with
      | none => simp only []; rw [orderGo_none (by rw [e2]; exact hx)]
      | some i => rfl
    rw [← e]
    refine Ev.succ (h.of fun k => ?_)
    rw [spec_topOrder.l0]
    rfl
theorem ordOk_nil (N : List Nat) : OrdOk N [] 0 := ⟨by simp, by simp, Nat.two_pow_pos _, by simp, by rw [zb_zero]; simp, by simp⟩
theorem ev_topOrder {g : List Tk} (hg : Fits g) {N : List Nat} (hN : needsD g = some N) : Ev (fun k => spec_topOrder.f k g) (up (orderD N).1) :=
  ev_top_go hg hN N.length [] 0 (ordOk_nil N) (by rw [zb_zero]; exact Nat.le_refl _)
theorem zb_zero_full {n : Nat} : ∀ {m d : Nat}, zb m d = 0 → ∀ i, i < m → d.testBit i = true
  | 0, d, _, i, h => by omega
  | m + 1, d, h, i, hi => by
    simp only [zb] at h
    by_cases e : i = m
    · subst e
      cases hb : d.testBit i
      · simp [hb] at h
      · rfl
    · exact zb_zero_full (n := n) (m := m) (by omega) i (by omega)
theorem full_iff {N L : List Nat} {d : Nat} (ok : OrdOk N L d) : d = 2 ^ N.length - 1 ↔ L.length = N.length := by
  constructor
  · intro h
    have := ok.len
    rw [h, zb_full _ _ (Nat.le_refl _)] at this
    exact this
  · intro h
    have hz : zb N.length d = 0 := by have := ok.len; omega
    apply Nat.eq_of_testBit_eq
    intro i
    rw [Nat.testBit_two_pow_sub_one]
    by_cases hi : i < N.length
    · rw [zb_zero_full (n := 0) hz i hi]; simp [hi]
    · cases hb : d.testBit i
      · simp [hi]
      · exact absurd (ok.lt i ((ok.set i).1 hb)) hi
theorem ev_validGraph {g : List Tk} (hg : Fits g) : Ev (fun k => spec_validGraph.f k g) (graphD g).isSome := by
  have hf := ev_tasksFine hg
  unfold graphD
  by_cases h : fineD g
  · obtain ⟨N, hN⟩ := fineD_needs h
    obtain ⟨h8, hl, hb⟩ := needsD_spec hN
    rw [decide_eq_true h] at hf
    have ht := ev_topOrder hg hN
    have ok := orderD_ok (N := N) (by omega) (by rw [hl]; exact hb)
    have hfull := full_iff ok
    rw [hN]
    simp only []
    refine (hf.bind (g := fun k b => if b = true then ((spec_topOrder.f k g).bind fun t130 => (some ((t130.length : Int) == (g.length : Int)))) else some false) ?_).of fun k => rfl
    refine (ht.bind (g := fun k t130 => some ((t130.length : Int) == (g.length : Int))) (b := (if (orderD N).2 = 2 ^ g.length - 1 then some (mkG g N) else none).isSome) ((Ev.const _).of fun k => ?_)).of fun k => if_pos rfl
    rw [up_length]
    congr 1
    by_cases hd : (orderD N).2 = 2 ^ g.length - 1
    · rw [if_pos hd]
      have := hfull.1 (by rw [hl]; exact hd)
      simp [this, hl]
    · rw [if_neg hd]
      have : (orderD N).1.length ≠ g.length := fun e => hd (by rw [← hl]; exact hfull.2 (by omega))
      simp [this]
      omega
  · rw [decide_eq_false h] at hf
    have hn : needsD g = none := by
      cases e : needsD g with
      | none => rfl
      | some N => exact absurd (needsD_fine e).1 h
    rw [hn]
    refine (hf.bind (g := fun k b => if b = true then ((spec_topOrder.f k g).bind fun t130 => (some ((t130.length : Int) == (g.length : Int)))) else some false) ((Ev.const false).of fun k => if_neg (by simp))).of fun k => rfl
end Go.Proofs.YtffhdofcfkgoaaaDoor.Core
namespace Go.Proofs.YtffhdofcfkgoaaaDoor.Core
open Go Go.RowKit Go.Proofs.YtffhdofcfkgoaaaDoorW.PrintWords Go.Proofs.YtffhdofcfkgoaaaDoorW.PrintMore Go.Proofs.YtffhdofcfkgoaaaDoor.P
end Go.Proofs.YtffhdofcfkgoaaaDoor.Core
end
section
set_option linter.unusedVariables false
set_option linter.unusedSimpArgs false
namespace Go.Proofs.YtffhdofcfkgoaaaDoor.Core
open Go Go.RowKit Go.Proofs.YtffhdofcfkgoaaaDoorW.PrintWords Go.Proofs.YtffhdofcfkgoaaaDoorW.PrintMore Go.Proofs.YtffhdofcfkgoaaaDoor.P
theorem Ev.pos {α : Type} {c : Prop} [Decidable c] {f g : Nat → Option α} {r : α} (hc : c) (h : Ev f r) : Ev (fun k => if c then f k else g k) r := h.of fun k => if_pos hc
theorem Ev.neg {α : Type} {c : Prop} [Decidable c] {f g : Nat → Option α} {r : α} (hc : ¬ c) (h : Ev g r) : Ev (fun k => if c then f k else g k) r := h.of fun k => if_neg hc
theorem Ev.sb {α β : Type} {g : Nat → α → Option β} {a : α} {b : β} (h : Ev (fun k => g k a) b) : Ev (fun k => (some a).bind (g k)) b := h.of fun k => rfl
theorem Ev.conv {α : Type} {f : Nat → Option α} {a b : α} (h : Ev f a) (e : a = b) : Ev f b := e ▸ h
def EvP {α : Type} (f : Nat → Option α) (Q : α → Prop) : Prop := ∃ r, Ev f r ∧ Q r
theorem EvP.ret {α : Type} {Q : α → Prop} {a : α} (h : Q a) : EvP (fun _ => some a) Q := ⟨a, Ev.const a, h⟩
theorem EvP.bind {α β : Type} {f : Nat → Option α} {g : Nat → α → Option β} {Q : α → Prop} {R : β → Prop} (h : EvP f Q) (h2 : ∀ a, Q a → EvP (fun k => g k a) R) : EvP (fun k => (f k).bind (g k)) R := by
  obtain ⟨a, h, q⟩ := h
  obtain ⟨b, h2, q2⟩ := h2 a q
  exact ⟨b, h.bind h2, q2⟩
theorem EvP.sb {α β : Type} {g : Nat → α → Option β} {a : α} {R : β → Prop} (h : EvP (fun k => g k a) R) : EvP (fun k => (some a).bind (g k)) R := h
theorem EvP.pos {α : Type} {c : Prop} [Decidable c] {f g : Nat → Option α} {Q : α → Prop} (hc : c) (h : EvP f Q) : EvP (fun k => if c then f k else g k) Q := by
  obtain ⟨r, h, q⟩ := h
  exact ⟨r, h.pos hc, q⟩
theorem EvP.neg {α : Type} {c : Prop} [Decidable c] {f g : Nat → Option α} {Q : α → Prop} (hc : ¬ c) (h : EvP g Q) : EvP (fun k => if c then f k else g k) Q := by
  obtain ⟨r, h, q⟩ := h
  exact ⟨r, h.neg hc, q⟩
theorem EvP.ite {α : Type} {c : Prop} [Decidable c] {f g : Nat → Option α} {Q : α → Prop} (h1 : c → EvP f Q) (h2 : ¬ c → EvP g Q) : EvP (fun k => if c then f k else g k) Q :=
  if hc : c then EvP.pos hc (h1 hc) else EvP.neg hc (h2 hc)
theorem EvP.succ {α : Type} {f : Nat → Option α} {Q : α → Prop} (h : EvP (fun k => f (k + 1)) Q) : EvP f Q := by
  obtain ⟨r, h, q⟩ := h
  exact ⟨r, h.succ, q⟩
theorem EvP.of {α : Type} {f g : Nat → Option α} {Q : α → Prop} (h : EvP f Q) (e : ∀ k, g k = f k) : EvP g Q := by
  obtain ⟨r, h, q⟩ := h
  exact ⟨r, h.of e, q⟩
theorem EvP.mono {α : Type} {f : Nat → Option α} {Q R : α → Prop} (h : EvP f Q) (hq : ∀ a, Q a → R a) : EvP f R := by
  obtain ⟨r, h, q⟩ := h
  exact ⟨r, h, hq r q⟩
theorem Ev.p {α : Type} {f : Nat → Option α} {r : α} {Q : α → Prop} (h : Ev f r) (q : Q r) : EvP f Q := ⟨r, h, q⟩
end Go.Proofs.YtffhdofcfkgoaaaDoor.Core
end
section
set_option linter.unusedVariables false
set_option linter.unusedSimpArgs false
namespace Go.Proofs.YtffhdofcfkgoaaaDoor.Core
open Go Go.RowKit Go.Proofs.YtffhdofcfkgoaaaDoorW.PrintWords Go.Proofs.YtffhdofcfkgoaaaDoorW.PrintMore Go.Proofs.YtffhdofcfkgoaaaDoor.P
theorem asc_ext : ∀ {a b : List Int}, ascD a = true → ascD b = true → (∀ x, x ∈ a ↔ x ∈ b) → a = b
  | [], [], _, _, _ => rfl
  | [], y :: b, _, _, h => by have := (h y).2 List.mem_cons_self; cases this
  | x :: a, [], _, _, h => by have := (h x).1 List.mem_cons_self; cases this
  | x :: a, y :: b, ha, hb, h => by
    have h1 := asc_lt ha
    have h2 := asc_lt hb
    have e : x = y := by
      rcases List.mem_cons.1 ((h x).1 List.mem_cons_self) with e | e
      · exact e
      · rcases List.mem_cons.1 ((h y).2 List.mem_cons_self) with e' | e'
        · exact e'.symm
        · have := h1.2 y e'
          have := h2.2 x e
          omega
    subst e
    rw [asc_ext h1.1 h2.1 (fun z => ⟨fun hz => ?_, fun hz => ?_⟩)]
    · rcases List.mem_cons.1 ((h z).1 (List.mem_cons_of_mem _ hz)) with e | e
      · have := h1.2 z hz; omega
      · exact e
    · rcases List.mem_cons.1 ((h z).2 (List.mem_cons_of_mem _ hz)) with e | e
      · have := h2.2 z hz; omega
      · exact e
theorem asc_filter (p : Nat → Bool) : ∀ (m i : Nat), ascD (up ((List.range' i m).filter p)) = true ∧ ∀ x ∈ up ((List.range' i m).filter p), (i : Int) ≤ x
  | 0, i => ⟨rfl, by simp [up]⟩
  | m + 1, i => by
    have ih := asc_filter p m (i + 1)
    rw [List.range'_succ, List.filter_cons]
    split
    · refine ⟨asc_mk ih.1 (fun y hy => by have := ih.2 y hy; show (i : Int) < y; omega), fun x hx => ?_⟩
      rcases List.mem_cons.1 hx with rfl | hx
      · exact Int.le_refl _
      · have := ih.2 x hx; omega
    · exact ⟨ih.1, fun x hx => by have := ih.2 x hx; omega⟩
theorem asc_elems (s : Nat) : ascD (up (elemsN s)) = true := by
  unfold elemsN
  rw [List.range_eq_range']
  exact (asc_filter (fun i => s.testBit i) 8 0).1
/-- A list of ascending numbers is its set's. -/
theorem set_list {n : Nat} (hn : n ≤ 8) {l : List Int} {s : Nat} (h : setD n l = some s) : up (elemsN s) = l := by
  obtain ⟨h1, h2⟩ := setD_some h
  refine asc_ext (asc_elems s) h1.2 (fun x => ?_)
  constructor
  · intro hx
    obtain ⟨i, rfl, _, hi⟩ := mem_elems.1 hx
    rw [h2] at hi
    simpa using hi
  · intro hx
    have h3 := h1.1 x hx
    obtain ⟨i, rfl⟩ := Int.eq_ofNat_of_zero_le h3.1
    refine mem_elems.2 ⟨i, rfl, by omega, ?_⟩
    rw [h2]
    simpa using hx
theorem set_cases (n : Nat) (l : List Int) : (∃ s, setD n l = some s ∧ needsOk n l) ∨ (setD n l = none ∧ ¬ needsOk n l) := by
  cases h : setD n l with
  | some s => exact .inl ⟨s, rfl, (setD_some h).1⟩
  | none => exact .inr ⟨rfl, setD_none h⟩
/-- How many units of a pool tasks take. -/
def usedN (g : List Tk) (p : Int) : List Nat → Int
  | [] => 0
  | i :: r => (if (g.getD i z33).f2 = p then (g.getD i z33).f3 else 0) + usedN g p r
def UOk (g : List Tk) (L : List Nat) : Prop := ∀ i ∈ L, 1 ≤ (g.getD i z33).f3 ∧ (g.getD i z33).f3 ≤ 4
theorem count_fold (g : List Tk) : ∀ (L : List Nat) (c : Cn), UOk g L → L.length ≤ 100 → 0 ≤ c.u0 → c.u0 ≤ 1000 → 0 ≤ c.u1 → c.u1 ≤ 1000 → 0 ≤ c.u2 → c.u2 ≤ 1000 → c.u0 + 4 * L.length ≤ 1000 → c.u1 + 4 * L.length ≤ 1000 → c.u2 + 4 * L.length ≤ 1000 →
    (L.foldl (cstep g) c).u0 = c.u0 + usedN g 0 L ∧ (L.foldl (cstep g) c).u1 = c.u1 + usedN g 1 L ∧ (L.foldl (cstep g) c).u2 = c.u2 + usedN g 2 L
  | [], c, _, _, _, _, _, _, _, _, _, _, _ => by simp [usedN]
  | i :: r, c, h, hl, a0, b0, a1, b1, a2, b2, d0, d1, d2 => by
    have hi := h i List.mem_cons_self
    rw [List.foldl_cons]
    simp only [List.length_cons] at hl d0 d1 d2
    have e0 : (cstep g c i).u0 = c.u0 + (if (g.getD i z33).f2 = 0 then (g.getD i z33).f3 else 0) := by
      simp only [cstep, Cn.add]; split <;> (first | (rw [w64 (n := 1 * _) (by omega) (by omega), w64 (by omega) (by omega)]; omega) | omega)
    have e1 : (cstep g c i).u1 = c.u1 + (if (g.getD i z33).f2 = 1 then (g.getD i z33).f3 else 0) := by
      simp only [cstep, Cn.add]; split <;> (first | (rw [w64 (n := 1 * _) (by omega) (by omega), w64 (by omega) (by omega)]; omega) | omega)
    have e2 : (cstep g c i).u2 = c.u2 + (if (g.getD i z33).f2 = 2 then (g.getD i z33).f3 else 0) := by
      simp only [cstep, Cn.add]; split <;> (first | (rw [w64 (n := 1 * _) (by omega) (by omega), w64 (by omega) (by omega)]; omega) | omega)
    have b0' : (cstep g c i).u0 ≤ c.u0 + 4 ∧ c.u0 ≤ (cstep g c i).u0 := by rw [e0]; split <;> omega
    have b1' : (cstep g c i).u1 ≤ c.u1 + 4 ∧ c.u1 ≤ (cstep g c i).u1 := by rw [e1]; split <;> omega
    have b2' : (cstep g c i).u2 ≤ c.u2 + 4 ∧ c.u2 ≤ (cstep g c i).u2 := by rw [e2]; split <;> omega
    obtain ⟨r0, r1, r2⟩ := count_fold g r (cstep g c i) (fun j hj => h j (List.mem_cons_of_mem _ hj)) (by omega) (by omega) (by omega) (by omega) (by omega) (by omega) (by omega) (by omega) (by omega) (by omega)
    rw [r0, r1, r2, e0, e1, e2]
    simp only [usedN]
    omega
theorem countSet_used {g : List Tk} {s : Nat} (h : UOk g (elemsN s)) : (countSet g s).u0 = usedN g 0 (elemsN s) ∧ (countSet g s).u1 = usedN g 1 (elemsN s) ∧ (countSet g s).u2 = usedN g 2 (elemsN s) := by
  have hl := elemsN_length s
  obtain ⟨r0, r1, r2⟩ := count_fold g (elemsN s) Cn.zero h (by omega) (by decide) (by decide) (by decide) (by decide) (by decide) (by decide) (by simp [Cn.zero]; omega) (by simp [Cn.zero]; omega) (by simp [Cn.zero]; omega)
  unfold countSet
  rw [r0, r1, r2]
  simp [Cn.zero]
theorem rd_up' (L : List Nat) (i : Nat) : rd (up L) (i : Int) = ((L.getD i 0 : Nat) : Int) := rd_up rfl
theorem ev_used {g : List Tk} (p : Int) (L0 : List Nat) (hb : L0.length ≤ 100) (hL : ∀ i ∈ L0, i < g.length) (hu : UOk g L0) : Ev (fun k => spec_used.f k g (up L0) p) (usedN g p L0) := by
  have key : ∀ (r pre : List Nat) (acc : Int), L0 = pre ++ r → 0 ≤ acc → acc + 4 * r.length ≤ 1000 → Ev (fun k => spec_used.l0 k g (up L0) p acc (pre.length : Int)) (acc + usedN g p r) := by
    intro r
    induction r with
    | nil =>
      intro pre acc hp h0 h1
      rw [List.append_nil] at hp
      subst hp
      refine Ev.succ ?_
      simp only [spec_used.l0, up_length]
      refine Ev.neg (by omega) ((Ev.const _).conv ?_)
      simp [usedN]
    | cons i r ih =>
      intro pre acc hp h0 h1
      have hi : i < g.length := hL i (by rw [hp]; simp)
      have hui := hu i (by rw [hp]; simp)
      have hlen : L0.length = pre.length + (r.length + 1) := by rw [hp]; simp
      have hrd : rd (up L0) (pre.length : Int) = (i : Int) := by
        rw [rd_up', hp]; simp
      simp only [List.length_cons] at h1
      refine Ev.succ ?_
      simp only [spec_used.l0, up_length, hrd, rdT_nat]
      rw [w64 (n := (pre.length : Int) + 1) (by omega) (by omega)]
      refine Ev.pos (by omega) (Ev.pos (by omega) (Ev.pos (by omega) (Ev.pos (by omega) ?_)))
      by_cases h : (g.getD i z33).f2 = p
      · refine Ev.pos h ?_
        have := ih (pre ++ [i]) (acc + (g.getD i z33).f3) (by rw [hp]; simp) (by omega) (by omega)
        rw [w64 (by omega) (by omega)]
        have e : ((pre ++ [i]).length : Int) = (pre.length : Int) + 1 := by simp
        rw [e] at this
        refine this.conv ?_
        simp only [usedN, if_pos h]
        omega
      · refine Ev.neg h ?_
        have := ih (pre ++ [i]) acc (by rw [hp]; simp) (by omega) (by omega)
        have e : ((pre ++ [i]).length : Int) = (pre.length : Int) + 1 := by simp
        rw [e] at this
        refine this.conv ?_
        simp only [usedN, if_neg h]
        omega
  exact (key L0 [] 0 rfl (by omega) (by omega)).conv (by omega)
theorem graphD_uok {g : List Tk} {G : GD} (h : graphD g = some G) (s : Nat) (hs : s < 2 ^ g.length) : UOk g (elemsN s) ∧ ∀ i ∈ elemsN s, i < g.length := by
  have hlt : ∀ i ∈ elemsN s, i < g.length := fun i hi => elemsN_lt hs hi
  exact ⟨fun i hi => (graphD_taskOk h _ (getD_mem (hlt i hi))).2.2, hlt⟩
end Go.Proofs.YtffhdofcfkgoaaaDoor.Core
end
section
set_option linter.unusedVariables false
set_option linter.unusedSimpArgs false
namespace Go.Proofs.YtffhdofcfkgoaaaDoor.Core
open Go Go.RowKit Go.Shelf Go.Proofs.YtffhdofcfkgoaaaDoorW.PrintWords Go.Proofs.YtffhdofcfkgoaaaDoorW.PrintMore Go.Proofs.YtffhdofcfkgoaaaDoor.P
def usedD (g : List Tk) (running : List Int) : List Int := match graphD g with
  | none => []
  | some _ => match setD g.length running with
    | none => []
    | some s => [(countSet g s).u0, (countSet g s).u1, (countSet g s).u2]
/-- A row of three numbers, the whole of an array. -/
theorem R_three {w : World} {b base t : Nat} {x y z : Int} (h : w.heap[b]? = some (.cells #[.int .i64 x, .int .i64 y, .int .i64 z] t (0, 0))) (hb : base ≤ b) : (Kd.int .i64).R t w base (fun _ => True) (.slice (some ⟨b, 0, none⟩) 3 3) [x, y, z] :=
  row_R (k := .i64) (xs := [x, y, z]) ⟨rfl, .inr ⟨b, 3, #[.int .i64 x, .int .i64 y, .int .i64 z], rfl, hb, h, Nat.le_refl _, by decide, rfl, rfl⟩⟩
end Go.Proofs.YtffhdofcfkgoaaaDoor.Core
namespace Go.Proofs.YtffhdofcfkgoaaaDoor.P
open Go Go.RowKit Go.Shelf Go.Proofs.YtffhdofcfkgoaaaDoorW.PrintWords Go.Proofs.YtffhdofcfkgoaaaDoorW.PrintMore Go.Proofs.YtffhdofcfkgoaaaDoor.Core
attribute [local go_sem] Oper.semAt_some wide_fn wide_depth
def impl_UsedUnits.f (l0 : List S33) (l1 : List Int) : Option (List Int) := some (usedD l0 l1)
set_option maxRecDepth 100000 in
set_option maxHeartbeats 4000000 in
theorem impl_UsedUnits.calls (A0 : Option Addr) (c0 : Nat) (l0 : List S33) (A1 : Option Addr) (c1 : Nat) (l1 : List Int) (r : List Int) (w : World) (hr0 : Kd.C k33 w A0 l0.length l0) (hc0 : l0.length ≤ c0) (hr1 : Kd.C (Kd.int .i64) w A1 l1.length l1) (hc1 : l1.length ≤ c1) (hT : Tab w) (h : impl_UsedUnits.f l0 l1 = some r) :
    Calls Tryd.prog 26 #[.slice A0 l0.length c0, .slice A1 l1.length c1] w fun e w' => ∃ v0_ : Value, e = .returned (v0_) ∧ Kd.R (Kd.int .i64) 73 w' w.heap.size (fun _ => True) v0_ r ∧ Below w.heap.size w w' := by
  have hr : r = usedD l0 l1 := (Option.some.inj h).symm
  subst hr
  clear h
  cases hg : graphD l0 with
  | none =>
    have hcd : usedD l0 l1 = [] := by unfold usedD; rw [hg]
    rw [hcd]
    have HG := Aside0.mk (graphOf_none A0 c0 l0 w hT hr0 hc0 hg)
    clear hr0 hr1 hT hcd hg
    go_enter Tryd.func26, Tryd.ntmps26
    go_wp2_with (go_at_call 47; refine HG.out.mono ?_; rintro e w' ⟨rfl, hB⟩)
    go_ret
    exact ⟨_, rfl, Kd.R_nil _ _ _ _ _, hB⟩
  | some G =>
    have ok := graphD_ok hg
    have htk := graphD_tasks hg
    have HP := Aside0.mk (graphD_pool hg)
    have HG := Aside0.mk (graphOf_some A0 c0 l0 G w hT hr0 hc0 hg)
    have HR1 := Aside0.mk hr1
    have HT := Aside0.mk hT
    have hn8 := ok.n8
    have hdf : usedD l0 l1 = match setD l0.length l1 with
      | none => []
      | some s => [(countSet l0 s).u0, (countSet l0 s).u1, (countSet l0 s).u2] := by unfold usedD; rw [hg]
    subst htk
    clear hr0 hr1 hT hg
    cases hs : setD G.tasks.length l1 with
    | none =>
      rw [hs] at hdf
      simp only [] at hdf
      rw [hdf]
      have HS := Aside0.mk hs
      clear hs hdf
      go_enter Tryd.func26, Tryd.ntmps26
      go_wp2_with (first
        | (go_at_call 47; refine HG.out.mono ?_; rintro e w1 ⟨b, rfl, hB, hG⟩)
        | (go_at_call 54; refine (size_calls b G _ hG).mono ?_; rintro e w3 ⟨rfl, rfl⟩)
        | (go_at_call 53; refine (setOf_none hn8 A1 c1 l1 _ (Kd.C_below HR1.out hB) hc1 HS.out).mono ?_; rintro e w4 ⟨rfl, hB4⟩))
      go_ret
      exact ⟨_, rfl, Kd.R_nil _ _ _ _ _, below_step hB hB4⟩
    | some s =>
      rw [hs] at hdf
      simp only [] at hdf
      have HD := Aside0.mk hdf
      have hslt := setD_lt hs
      have HS := Aside0.mk hs
      clear hs hdf
      have hfld : ∀ (t a b d : Int) (W : World), (Instr.field 75 (.agg #[.int .i64 t, .int .i64 a, .int .i64 b, .int .i64 d]) 1).run Tryd.prog W = .ok (.agg #[.int .i64 a, .int .i64 b, .int .i64 d]) W := fun _ _ _ _ _ => by kernel_rfl
      go_enter Tryd.func26, Tryd.ntmps26
      go_wp2_with (first
        | (go_at_call 47; refine HG.out.mono ?_; rintro e w1 ⟨b, rfl, hB, hG⟩)
        | (go_at_call 54; refine (size_calls b G _ hG).mono ?_; rintro e w3 ⟨rfl, rfl⟩)
        | (go_at_call 53; refine (setOf_some hn8 A1 c1 l1 s _ (Kd.C_below HR1.out hB) hc1 HS.out).mono ?_; rintro e w4 ⟨rfl, hB4⟩; have hG5 := hG.move hB4; have hB5 := below_step hB hB4; clear hB4)
        | (go_at_call 55; refine (counted_calls b G s _ (HT.out.of hB5) hG5 hn8 HP.out hslt).mono ?_; rintro e w6 ⟨rfl, hB6⟩; have hB7 := below_step hB5 hB6; clear hB6))
      go_ret
      rw [HD.out]
      exact ⟨_, rfl, R_three (cells_new _ _) hB7.size, hB7.alloc hB7.size _⟩
end Go.Proofs.YtffhdofcfkgoaaaDoor.P
end
section
set_option linter.unusedVariables false
set_option linter.unusedSimpArgs false
namespace Go.Proofs.YtffhdofcfkgoaaaDoor.Core
open Go Go.RowKit Go.Proofs.YtffhdofcfkgoaaaDoorW.PrintWords Go.Proofs.YtffhdofcfkgoaaaDoorW.PrintMore Go.Proofs.YtffhdofcfkgoaaaDoor.P
theorem ev_uu_no (g : List Tk) (l : List Int) : Ev (fun k => spec_UsedUnits.j0 k g l [] true) [] := by
  refine Ev.succ ?_
  simp only [spec_UsedUnits.j0, if_true]
  exact Ev.const _
theorem ev_uu_loop {g : List Tk} {L : List Nat} (hb : L.length ≤ 100) (hL : ∀ i ∈ L, i < g.length) (hu : UOk g L) :
    Ev (fun k => spec_UsedUnits.l0 k g (up L) [] 0) [usedN g 0 L, usedN g 1 L, usedN g 2 L] := by
  refine Ev.succ ?_
  simp only [spec_UsedUnits.l0]
  refine Ev.pos (by omega) (Ev.bind (ev_used 0 L hb hL hu) (Ev.pos (by simp) (Ev.succ ?_)))
  simp only [spec_UsedUnits.l0, show wrap64 (0 + 1) = 1 from by unfold wrap64; omega]
  refine Ev.pos (by omega) (Ev.bind (ev_used 1 L hb hL hu) (Ev.pos (by simp) (Ev.succ ?_)))
  simp only [spec_UsedUnits.l0, show wrap64 (1 + 1) = 2 from by unfold wrap64; omega]
  refine Ev.pos (by omega) (Ev.bind (ev_used 2 L hb hL hu) (Ev.pos (by simp) (Ev.succ ?_)))
  simp only [spec_UsedUnits.l0, show wrap64 (2 + 1) = 3 from by unfold wrap64; omega]
  exact Ev.neg (by omega) (Ev.const _)
theorem usedD_some {g : List Tk} {G : GD} (hG : graphD g = some G) {l : List Int} {s : Nat} (hs : setD g.length l = some s) : usedD g l = [usedN g 0 (elemsN s), usedN g 1 (elemsN s), usedN g 2 (elemsN s)] := by
  obtain ⟨hu, hL⟩ := graphD_uok hG s (setD_lt hs)
  obtain ⟨e0, e1, e2⟩ := countSet_used hu
  unfold usedD
  rw [hG]
  simp only []
  rw [hs]
  simp only [e0, e1, e2]
theorem ev_UsedUnits {g : List Tk} (hg : Fits g) {l : List Int} (hl : l.length < big) : Ev (fun k => spec_UsedUnits.f k g l) (usedD g l) := by
  unfold spec_UsedUnits.f
  refine Ev.sb (Ev.bind (ev_validGraph hg) ?_)
  cases hG : graphD g with
  | none => exact Ev.neg (by simp) ((ev_uu_no g l).conv (by unfold usedD; rw [hG]))
  | some G =>
    refine Ev.pos rfl (Ev.bind (ev_ascends hl) ?_)
    have hbig := hg.1
    rw [w64 (n := (g.length : Int) - 1) (by omega) (by unfold big at hbig; omega)]
    have h8 : g.length ≤ 8 := by have := (graphD_ok hG).n8; rw [graphD_tasks hG] at this; exact this
    have hall := ev_allIn hl 0 ((g.length : Int) - 1)
    rcases set_cases g.length l with ⟨s, hs, hok⟩ | ⟨hs, hok⟩
    · refine Ev.pos hok.2 (Ev.bind hall ?_)
      rw [decide_eq_true hok.1]
      refine Ev.succ ?_
      simp only [spec_UsedUnits.j0, Bool.not_true, Bool.false_eq_true, if_false]
      obtain ⟨hu, hL⟩ := graphD_uok hG s (setD_lt hs)
      have := ev_uu_loop (g := g) (L := elemsN s) (by have := elemsN_length s; omega) hL hu
      rw [set_list h8 hs] at this
      exact this.conv (usedD_some hG hs).symm
    · have e : usedD g l = [] := by unfold usedD; rw [hG]; simp only []; rw [hs]
      by_cases ha : ascD l = true
      · refine Ev.pos ha (Ev.bind hall ?_)
        rw [decide_eq_false (fun h => hok ⟨h, ha⟩)]
        exact (ev_uu_no g l).conv e.symm
      · exact Ev.neg ha ((ev_uu_no g l).conv e.symm)
end Go.Proofs.YtffhdofcfkgoaaaDoor.Core
end
section
set_option linter.unusedVariables false
set_option linter.unusedSimpArgs false
namespace Go.Proofs.YtffhdofcfkgoaaaDoor.P
open Go Go.RowKit Go.Shelf Go.Proofs.YtffhdofcfkgoaaaDoorW.PrintWords Go.Proofs.YtffhdofcfkgoaaaDoorW.PrintLast Go.Proofs.YtffhdofcfkgoaaaDoorW.PrintMore Go.Proofs.YtffhdofcfkgoaaaDoor.Core
/-- What the walk takes: the functions' results. -/
structure laws_FnExactUsedUnits.Facts (k : Nat) (l0 : List S57) (l1 : List Int) : Prop where
  out : ∃ (y0 : List S33) (y1 : List Int) (R R' : List Int) (M : Int), laws_toTaskS.f k l0 = some y0 ∧ laws_toIntS.f k l1 = some y1 ∧ spec_UsedUnits.f k y0 y1 = some R ∧ impl_UsedUnits.f y0 y1 = some R ∧ laws_eqIntS.f k R R = some true ∧ laws_eqTaskS.f k y0 y0 = some true ∧ laws_eqIntS.f k y1 y1 = some true ∧ laws_markIntS.f k R 1 = some (M, R') ∧ laws_heldIntS.f k R' 1 = some M ∧ 0 ≤ M ∧ 0 ≤ upI y1.length (mkT y0 (1) y0.length)
open Classical in
noncomputable def laws_FnExactUsedUnits.f (k : Nat) (l0 : List S57) (l1 : List Int) : Option Bool := if (l1.length : Int) > 1048576 then some true else ((laws_szTaskS.f k l0 1048576).bind fun left => if left < 0 then some true else (if laws_FnExactUsedUnits.Facts k l0 l1 then some true else none))
set_option maxRecDepth 100000 in
set_option maxHeartbeats 16000000 in
theorem laws_FnExactUsedUnits.calls (k : Nat) (A0 : Option Addr) (c0 : Nat) (l0 : List S57) (A1 : Option Addr) (c1 : Nat) (l1 : List Int) (r : Bool) (w : World) (hr0 : Kd.C k57 w A0 l0.length l0) (hc0 : l0.length ≤ c0) (hr1 : Kd.C (Kd.int .i64) w A1 l1.length l1) (hc1 : l1.length ≤ c1) (hT : Tab w) (h : laws_FnExactUsedUnits.f k l0 l1 = some r) :
    Calls Tryd.prog 6 #[.slice A0 l0.length c0, .slice A1 l1.length c1] w fun e w' => e = .returned (.bool r) ∧ Below w.heap.size w w' := by
  have HR0 := Aside0.mk hr0
  have HC0 := Aside0.mk hc0
  have HR1 := Aside0.mk hr1
  have HC1 := Aside0.mk hc1
  have HT := Aside0.mk hT
  have HB := Aside0.mk (Below.refl w.heap.size w)
  clear hT hr0 hc0 hr1 hc1
  unfold laws_FnExactUsedUnits.f at h
  by_cases b1 : (l1.length : Int) > 1048576
  · rw [if_pos b1] at h
    obtain rfl := Option.some.inj h
    have d1 : decide (1048576 < (l1.length : Int)) = true := decide_eq_true b1
    have d2 : decide (1048576 < l1.length) = true := decide_eq_true (by omega)
    clear h b1
    go_enter Tryd.func6, Tryd.ntmps6
    go_wp2
    go_ret
    exact ⟨rfl, HB.out⟩
  rw [if_neg b1] at h
  have d1_1 : decide (1048576 < (l1.length : Int)) = false := decide_eq_false b1
  have d1_2 : decide (1048576 < l1.length) = false := decide_eq_false (by omega)
  clear b1
  obtain ⟨left, hl, h⟩ := Option.bind_eq_some_iff.mp h
  have FZ := Aside0.mk hl
  clear hl
  by_cases bl : left < 0
  · rw [if_pos bl] at h
    obtain rfl := Option.some.inj h
    have d1 : decide (left < 0) = true := decide_eq_true bl
    clear h bl
    go_enter Tryd.func6, Tryd.ntmps6
    go_wp2_with (go_at_call 15; refine (laws_szTaskS.calls (hr0 := HR0.out) (hc0 := HC0.out) (h := FZ.out)).mono ?_; rintro e w1 ⟨rfl, hb⟩; replace HB := Aside0.mk hb; clear hb)
    go_ret
    exact ⟨rfl, HB.out⟩
  rw [if_neg bl] at h
  have dl : decide (left < 0) = false := decide_eq_false bl
  clear bl
  have hF := Core.of_if_some h
  obtain rfl := hF.2
  have hF := hF.1
  clear h
  obtain ⟨y0, y1, R, R', M, f0, f1, fs, fi, er, e0, e1, fm, fh, hM, fk⟩ := hF.out
  have F0 := Aside0.mk f0
  have F1 := Aside0.mk f1
  have FS := Aside0.mk fs
  have FI := Aside0.mk fi
  have ER := Aside0.mk er
  have E0 := Aside0.mk e0
  have E1 := Aside0.mk e1
  have FM := Aside0.mk fm
  have FH := Aside0.mk fh
  have FK := Aside0.mk fk
  have dM : decide (M < 0) = false := decide_eq_false (by omega)
  clear hF f0 f1 fs fi er e0 e1 fm fh hM fk
  go_enter Tryd.func6, Tryd.ntmps6
  go_wp2_with (go_at_call 15; refine (laws_szTaskS.calls (hr0 := HR0.out) (hc0 := HC0.out) (h := FZ.out)).mono ?_; rintro e w1 ⟨rfl, hb⟩; have z1 := Aside0.mk (hb).size; replace HB := Aside0.mk (below_step HB.out hb); clear hb)
  go_wp2_with (go_at_call 17; refine (laws_toTaskS.calls (hr0 := Kd.C_below HR0.out HB.out) (hc0 := HC0.out) (h := F0.out)).mono ?_; rintro e w2 ⟨v_w0_aG, rfl, ho, hb⟩; have z2 := Aside0.mk (hb).size; replace HB := Aside0.mk (below_step HB.out hb); have H_w0_aG := Aside0.mk (Kd.R_mono (Kd.R_bound (Kd.S_R ho)) (fun k_ hk_ => hk_.2.2.1) : Kd.R k33 33 w2 w1.heap.size (fun k_ => k_ < w2.heap.size) v_w0_aG _); obtain ⟨A_w0_aG, c_w0_aG, e_w0_aG⟩ := Kd.R_slice H_w0_aG.out; subst e_w0_aG; clear ho hb)
  go_wp2_with (go_at_call 22; refine (laws_toIntS.calls (hr0 := Kd.C_below HR1.out HB.out) (hc0 := HC1.out) (h := F1.out)).mono ?_; rintro e w3 ⟨v_w0_aRunning, rfl, ho, hb⟩; have z3 := Aside0.mk (hb).size; replace HB := Aside0.mk (below_step HB.out hb); replace H_w0_aG := Aside0.mk (Kd.R_below H_w0_aG.out hb); have H_w0_aRunning := Aside0.mk (Kd.R_mono (Kd.R_bound ho) (fun k_ hk_ => hk_.2.2.1) : Kd.R (Kd.int .i64) 3 w3 w2.heap.size (fun k_ => k_ < w3.heap.size) v_w0_aRunning _); obtain ⟨A_w0_aRunning, c_w0_aRunning, e_w0_aRunning⟩ := Kd.R_slice H_w0_aRunning.out; subst e_w0_aRunning; clear ho hb)
  go_wp2_with (go_at_call 25; refine (spec_UsedUnits.calls (hr0 := (Kd.R_reads' H_w0_aG.out).2.2) (hc0 := (Kd.R_reads' H_w0_aG.out).2.1) (hr1 := (Kd.R_reads' H_w0_aRunning.out).2.2) (hc1 := (Kd.R_reads' H_w0_aRunning.out).2.1) (h := FS.out)).mono ?_; rintro e w4 ⟨v_w0, rfl, ho, hb⟩; have z4 := Aside0.mk (hb).size; replace HB := Aside0.mk (below_step HB.out hb); replace H_w0_aG := Aside0.mk (Kd.R_below H_w0_aG.out hb); replace H_w0_aRunning := Aside0.mk (Kd.R_below H_w0_aRunning.out hb); have H_w0 := Aside0.mk (Kd.R_mono (Kd.R_bound ho) (fun k_ hk_ => hk_.2.2.1) : Kd.R (Kd.int .i64) 3 w4 w3.heap.size (fun k_ => k_ < w4.heap.size) v_w0 _); obtain ⟨A_w0, c_w0, e_w0⟩ := Kd.R_slice H_w0.out; subst e_w0; clear ho hb)
  clear H_w0_aG
  clear H_w0_aRunning
  go_wp2_with (go_at_call 17; refine (laws_toTaskS.calls (hr0 := Kd.C_below HR0.out HB.out) (hc0 := HC0.out) (h := F0.out)).mono ?_; rintro e w5 ⟨v_x0, rfl, ho, hb⟩; have z5 := Aside0.mk (hb).size; replace HB := Aside0.mk (below_step HB.out hb); replace H_w0 := Aside0.mk (Kd.R_below H_w0.out hb); have H_x0 := Aside0.mk (Kd.R_mono (Kd.R_bound (Kd.S_R ho)) (fun k_ hk_ => hk_.2.2.1) : Kd.R k33 33 w5 w4.heap.size (fun k_ => k_ < w5.heap.size) v_x0 _); obtain ⟨A_x0, c_x0, e_x0⟩ := Kd.R_slice H_x0.out; subst e_x0; clear ho hb)
  go_wp2_with (go_at_call 22; refine (laws_toIntS.calls (hr0 := Kd.C_below HR1.out HB.out) (hc0 := HC1.out) (h := F1.out)).mono ?_; rintro e w6 ⟨v_x1, rfl, ho, hb⟩; have z6 := Aside0.mk (hb).size; replace HB := Aside0.mk (below_step HB.out hb); replace H_w0 := Aside0.mk (Kd.R_below H_w0.out hb); replace H_x0 := Aside0.mk (Kd.R_below H_x0.out hb); have H_x1 := Aside0.mk (Kd.R_mono (Kd.R_bound ho) (fun k_ hk_ => hk_.2.2.1) : Kd.R (Kd.int .i64) 3 w6 w5.heap.size (fun k_ => k_ < w6.heap.size) v_x1 _); obtain ⟨A_x1, c_x1, e_x1⟩ := Kd.R_slice H_x1.out; subst e_x1; clear ho hb)
  go_wp2_with (go_at_call 26; refine (impl_UsedUnits.calls (hr0 := (Kd.R_reads' H_x0.out).2.2) (hc0 := (Kd.R_reads' H_x0.out).2.1) (hr1 := (Kd.R_reads' H_x1.out).2.2) (hc1 := (Kd.R_reads' H_x1.out).2.1) (hT := Tab.of HT.out HB.out) (h := FI.out)).mono ?_; rintro e w7 ⟨v_g0, rfl, ho, hb⟩; have z7 := Aside0.mk (hb).size; replace HB := Aside0.mk (below_step HB.out hb); replace H_w0 := Aside0.mk (Kd.R_below H_w0.out hb); replace H_x0 := Aside0.mk (Kd.R_below H_x0.out hb); replace H_x1 := Aside0.mk (Kd.R_below H_x1.out hb); have H_g0 := Aside0.mk (Kd.R_mono (Kd.R_bound ho) (fun k_ hk_ => hk_.2.2.1) : Kd.R (Kd.int .i64) 73 w7 w6.heap.size (fun k_ => k_ < w7.heap.size) v_g0 _); obtain ⟨A_g0, c_g0, e_g0⟩ := Kd.R_slice H_g0.out; subst e_g0; clear ho hb)
  go_wp2_with (go_at_call 24; refine (laws_eqIntS.calls (hr0 := (Kd.R_reads' H_g0.out).2.2) (hc0 := (Kd.R_reads' H_g0.out).2.1) (hr1 := (Kd.R_reads' H_w0.out).2.2) (hc1 := (Kd.R_reads' H_w0.out).2.1) (h := ER.out)).mono ?_; rintro e w8 ⟨rfl, hd⟩; have hb := drawn0_below hd; have z8 := Aside0.mk (hb).size; replace HB := Aside0.mk (below_step HB.out hb); replace H_w0 := Aside0.mk (Kd.R_below H_w0.out hb); replace H_x0 := Aside0.mk (Kd.R_below H_x0.out hb); replace H_x1 := Aside0.mk (Kd.R_below H_x1.out hb); replace H_g0 := Aside0.mk (Kd.R_below H_g0.out hb); clear hd hb)
  go_wp2_with (go_at_call 17; refine (laws_toTaskS.calls (hr0 := Kd.C_below HR0.out HB.out) (hc0 := HC0.out) (h := F0.out)).mono ?_; rintro e w9 ⟨v_t_aG, rfl, ho, hb⟩; have z9 := Aside0.mk (hb).size; replace HB := Aside0.mk (below_step HB.out hb); replace H_w0 := Aside0.mk (Kd.R_below H_w0.out hb); replace H_x0 := Aside0.mk (Kd.R_below H_x0.out hb); replace H_x1 := Aside0.mk (Kd.R_below H_x1.out hb); replace H_g0 := Aside0.mk (Kd.R_below H_g0.out hb); have H_t_aG := Aside0.mk (Kd.R_mono (Kd.R_bound (Kd.S_R ho)) (fun k_ hk_ => hk_.2.2.1) : Kd.R k33 33 w9 w8.heap.size (fun k_ => k_ < w9.heap.size) v_t_aG _); obtain ⟨A_t_aG, c_t_aG, e_t_aG⟩ := Kd.R_slice H_t_aG.out; subst e_t_aG; clear ho hb)
  go_wp2_with (go_at_call 19; refine (laws_eqTaskS.calls (hr0 := (Kd.R_reads' H_x0.out).2.2) (hc0 := (Kd.R_reads' H_x0.out).2.1) (hr1 := (Kd.R_reads' H_t_aG.out).2.2) (hc1 := (Kd.R_reads' H_t_aG.out).2.1) (h := E0.out)).mono ?_; rintro e w10 ⟨rfl, hd⟩; have hb := hd; have z10 := Aside0.mk (hb).size; replace HB := Aside0.mk (below_step HB.out hb); replace H_w0 := Aside0.mk (Kd.R_below H_w0.out hb); replace H_x0 := Aside0.mk (Kd.R_below H_x0.out hb); replace H_x1 := Aside0.mk (Kd.R_below H_x1.out hb); replace H_g0 := Aside0.mk (Kd.R_below H_g0.out hb); replace H_t_aG := Aside0.mk (Kd.R_below H_t_aG.out hb); clear hd hb)
  clear H_t_aG
  go_wp2_with (go_at_call 22; refine (laws_toIntS.calls (hr0 := Kd.C_below HR1.out HB.out) (hc0 := HC1.out) (h := F1.out)).mono ?_; rintro e w11 ⟨v_t_aRunning, rfl, ho, hb⟩; have z11 := Aside0.mk (hb).size; replace HB := Aside0.mk (below_step HB.out hb); replace H_w0 := Aside0.mk (Kd.R_below H_w0.out hb); replace H_x0 := Aside0.mk (Kd.R_below H_x0.out hb); replace H_x1 := Aside0.mk (Kd.R_below H_x1.out hb); replace H_g0 := Aside0.mk (Kd.R_below H_g0.out hb); have H_t_aRunning := Aside0.mk (Kd.R_mono (Kd.R_bound ho) (fun k_ hk_ => hk_.2.2.1) : Kd.R (Kd.int .i64) 3 w11 w10.heap.size (fun k_ => k_ < w11.heap.size) v_t_aRunning _); obtain ⟨A_t_aRunning, c_t_aRunning, e_t_aRunning⟩ := Kd.R_slice H_t_aRunning.out; subst e_t_aRunning; clear ho hb)
  go_wp2_with (go_at_call 24; refine (laws_eqIntS.calls (hr0 := (Kd.R_reads' H_x1.out).2.2) (hc0 := (Kd.R_reads' H_x1.out).2.1) (hr1 := (Kd.R_reads' H_t_aRunning.out).2.2) (hc1 := (Kd.R_reads' H_t_aRunning.out).2.1) (h := E1.out)).mono ?_; rintro e w12 ⟨rfl, hd⟩; have hb := drawn0_below hd; have z12 := Aside0.mk (hb).size; replace HB := Aside0.mk (below_step HB.out hb); replace H_w0 := Aside0.mk (Kd.R_below H_w0.out hb); replace H_x0 := Aside0.mk (Kd.R_below H_x0.out hb); replace H_x1 := Aside0.mk (Kd.R_below H_x1.out hb); replace H_g0 := Aside0.mk (Kd.R_below H_g0.out hb); replace H_t_aRunning := Aside0.mk (Kd.R_below H_t_aRunning.out hb); clear hd hb)
  clear H_t_aRunning
  obtain ⟨K13, hK13⟩ : ∃ x_, x_ = mkT y0 (1) y0.length := ⟨_, rfl⟩
  have HK13 := Aside0.mk hK13
  clear hK13
  go_wp2_with (go_at_call 27; refine (markTaskS_in w4.heap.size w5.heap.size _ y0 (1) _ H_x0.out).mono ?_; rintro e w13 ⟨he, hm⟩; rw [← HK13.out] at he; subst he; have z13 := Aside0.mk (hm).below.size; have hlo : w.heap.size ≤ w4.heap.size := (by have q1 := z1.out; have q2 := z2.out; have q3 := z3.out; have q4 := z4.out; have q5 := z5.out; have q6 := z6.out; have q7 := z7.out; have q8 := z8.out; have q9 := z9.out; have q10 := z10.out; have q11 := z11.out; have q12 := z12.out; omega); replace HB := Aside0.mk (HB.out.trans ((hm).below.mono hlo)); clear hlo; replace H_w0 := Aside0.mk (Kd.R_kept (Kd.R_bound H_w0.out) (hm).kept (fun k_ hk_ hs_ => by have q1 := z1.out; have q2 := z2.out; have q3 := z3.out; have q4 := z4.out; have q5 := z5.out; have q6 := z6.out; have q7 := z7.out; have q8 := z8.out; have q9 := z9.out; have q10 := z10.out; have q11 := z11.out; have q12 := z12.out; have e1_ := hk_.1; have e2_ := hk_.2.1; have e3_ := hs_.1; have e4_ := hs_.2; omega)); replace H_w0 := Aside0.mk (Kd.R_mono H_w0.out (fun k_ hk_ => hk_.1)); replace H_x1 := Aside0.mk (Kd.R_kept (Kd.R_bound H_x1.out) (hm).kept (fun k_ hk_ hs_ => by have q1 := z1.out; have q2 := z2.out; have q3 := z3.out; have q4 := z4.out; have q5 := z5.out; have q6 := z6.out; have q7 := z7.out; have q8 := z8.out; have q9 := z9.out; have q10 := z10.out; have q11 := z11.out; have q12 := z12.out; have e1_ := hk_.1; have e2_ := hk_.2.1; have e3_ := hs_.1; have e4_ := hs_.2; omega)); replace H_x1 := Aside0.mk (Kd.R_mono H_x1.out (fun k_ hk_ => hk_.1)); replace H_g0 := Aside0.mk (Kd.R_kept (Kd.R_bound H_g0.out) (hm).kept (fun k_ hk_ hs_ => by have q1 := z1.out; have q2 := z2.out; have q3 := z3.out; have q4 := z4.out; have q5 := z5.out; have q6 := z6.out; have q7 := z7.out; have q8 := z8.out; have q9 := z9.out; have q10 := z10.out; have q11 := z11.out; have q12 := z12.out; have e1_ := hk_.1; have e2_ := hk_.2.1; have e3_ := hs_.1; have e4_ := hs_.2; omega)); replace H_g0 := Aside0.mk (Kd.R_mono H_g0.out (fun k_ hk_ => hk_.1)); clear hm H_x0)
  obtain ⟨K14, hK14⟩ : ∃ x_, x_ = upI y1.length (K13) := ⟨_, rfl⟩
  have dK : decide (K14 < 0) = false := decide_eq_false (by have h1 := FK.out; rw [← HK13.out, ← hK14] at h1; omega)
  have HK14 := Aside0.mk hK14
  clear hK14
  go_wp2_with (go_at_call 28; refine (markIntS_in w5.heap.size w6.heap.size _ y1 (K13) _ H_x1.out).mono ?_; rintro e w14 ⟨he, hm⟩; rw [← HK14.out] at he; subst he; have z14 := Aside0.mk (hm).below.size; have hlo : w.heap.size ≤ w5.heap.size := (by have q1 := z1.out; have q2 := z2.out; have q3 := z3.out; have q4 := z4.out; have q5 := z5.out; have q6 := z6.out; have q7 := z7.out; have q8 := z8.out; have q9 := z9.out; have q10 := z10.out; have q11 := z11.out; have q12 := z12.out; have q13 := z13.out; omega); replace HB := Aside0.mk (HB.out.trans ((hm).below.mono hlo)); clear hlo; replace H_w0 := Aside0.mk (Kd.R_kept (Kd.R_bound H_w0.out) (hm).kept (fun k_ hk_ hs_ => by have q1 := z1.out; have q2 := z2.out; have q3 := z3.out; have q4 := z4.out; have q5 := z5.out; have q6 := z6.out; have q7 := z7.out; have q8 := z8.out; have q9 := z9.out; have q10 := z10.out; have q11 := z11.out; have q12 := z12.out; have q13 := z13.out; have e1_ := hk_.1; have e2_ := hk_.2.1; have e3_ := hs_.1; have e4_ := hs_.2; omega)); replace H_w0 := Aside0.mk (Kd.R_mono H_w0.out (fun k_ hk_ => hk_.1)); replace H_g0 := Aside0.mk (Kd.R_kept (Kd.R_bound H_g0.out) (hm).kept (fun k_ hk_ hs_ => by have q1 := z1.out; have q2 := z2.out; have q3 := z3.out; have q4 := z4.out; have q5 := z5.out; have q6 := z6.out; have q7 := z7.out; have q8 := z8.out; have q9 := z9.out; have q10 := z10.out; have q11 := z11.out; have q12 := z12.out; have q13 := z13.out; have e1_ := hk_.1; have e2_ := hk_.2.1; have e3_ := hs_.1; have e4_ := hs_.2; omega)); replace H_g0 := Aside0.mk (Kd.R_mono H_g0.out (fun k_ hk_ => hk_.1)); clear hm H_x1)
  go_wp2_with (go_at_call 24; refine (laws_eqIntS.calls (hr0 := (Kd.R_reads' H_g0.out).2.2) (hc0 := (Kd.R_reads' H_g0.out).2.1) (hr1 := (Kd.R_reads' H_w0.out).2.2) (hc1 := (Kd.R_reads' H_w0.out).2.1) (h := ER.out)).mono ?_; rintro e w15 ⟨rfl, hd⟩; have hb := drawn0_below hd; have z15 := Aside0.mk (hb).size; replace HB := Aside0.mk (below_step HB.out hb); replace H_w0 := Aside0.mk (Kd.R_below H_w0.out hb); replace H_g0 := Aside0.mk (Kd.R_below H_g0.out hb); clear hd hb)
  have HL := Aside0.mk (show w.heap.size ≤ w6.heap.size from (by have q1 := z1.out; have q2 := z2.out; have q3 := z3.out; have q4 := z4.out; have q5 := z5.out; have q6 := z6.out; have q7 := z7.out; have q8 := z8.out; have q9 := z9.out; have q10 := z10.out; have q11 := z11.out; have q12 := z12.out; have q13 := z13.out; have q14 := z14.out; have q15 := z15.out; omega))
  go_wp2_with (go_at_call 28; refine (laws_markIntS.calls (w0 := w) (P0_ := fun k_ => w6.heap.size ≤ k_ ∧ k_ < w7.heap.size) (hB := HB.out) (ho0 := Kd.R_lower (Kd.R_mono (Kd.R_bound H_g0.out) (fun k_ hk_ => ⟨hk_.2.1, hk_.1⟩)) HL.out) (h := FM.out)).mono ?_; rintro e w16 ⟨rfl, ho, hb, hkp⟩; have z16 := Aside0.mk hkp.1; replace HB := Aside0.mk hb; replace H_w0 := Aside0.mk (Kd.R_kept (Kd.R_bound H_w0.out) hkp (fun k_ hk_ hs_ => by have q1 := z1.out; have q2 := z2.out; have q3 := z3.out; have q4 := z4.out; have q5 := z5.out; have q6 := z6.out; have q7 := z7.out; have q8 := z8.out; have q9 := z9.out; have q10 := z10.out; have q11 := z11.out; have q12 := z12.out; have q13 := z13.out; have q14 := z14.out; have q15 := z15.out; have e1_ := hk_.1; have e2_ := hk_.2.1; have e3_ := hs_.1; have e4_ := hs_.2; omega)); replace H_w0 := Aside0.mk (Kd.R_mono H_w0.out (fun k_ hk_ => hk_.1)); replace H_g0 := Aside0.mk ho; clear ho hb hkp)
  go_wp2_with (go_at_call 29; refine (heldIntS_n (Kd.R_reads' H_g0.out) FH.out).mono ?_; rintro e w17 ⟨rfl, hd⟩; have hb := drawn0_below hd; have z17 := Aside0.mk (hb).size; replace HB := Aside0.mk (below_step HB.out hb); replace H_w0 := Aside0.mk (Kd.R_below H_w0.out hb); replace H_g0 := Aside0.mk (Kd.R_below H_g0.out hb); clear hd hb)
  go_wp2_with (go_at_call 17; refine (laws_toTaskS.calls (hr0 := Kd.C_below HR0.out HB.out) (hc0 := HC0.out) (h := F0.out)).mono ?_; rintro e w18 ⟨v_h0_aG, rfl, ho, hb⟩; have z18 := Aside0.mk (hb).size; replace HB := Aside0.mk (below_step HB.out hb); replace H_w0 := Aside0.mk (Kd.R_below H_w0.out hb); replace H_g0 := Aside0.mk (Kd.R_below H_g0.out hb); have H_h0_aG := Aside0.mk (Kd.R_mono (Kd.R_bound (Kd.S_R ho)) (fun k_ hk_ => hk_.2.2.1) : Kd.R k33 33 w18 w17.heap.size (fun k_ => k_ < w18.heap.size) v_h0_aG _); obtain ⟨A_h0_aG, c_h0_aG, e_h0_aG⟩ := Kd.R_slice H_h0_aG.out; subst e_h0_aG; clear ho hb)
  go_wp2_with (go_at_call 22; refine (laws_toIntS.calls (hr0 := Kd.C_below HR1.out HB.out) (hc0 := HC1.out) (h := F1.out)).mono ?_; rintro e w19 ⟨v_h0_aRunning, rfl, ho, hb⟩; have z19 := Aside0.mk (hb).size; replace HB := Aside0.mk (below_step HB.out hb); replace H_w0 := Aside0.mk (Kd.R_below H_w0.out hb); replace H_g0 := Aside0.mk (Kd.R_below H_g0.out hb); replace H_h0_aG := Aside0.mk (Kd.R_below H_h0_aG.out hb); have H_h0_aRunning := Aside0.mk (Kd.R_mono (Kd.R_bound ho) (fun k_ hk_ => hk_.2.2.1) : Kd.R (Kd.int .i64) 3 w19 w18.heap.size (fun k_ => k_ < w19.heap.size) v_h0_aRunning _); obtain ⟨A_h0_aRunning, c_h0_aRunning, e_h0_aRunning⟩ := Kd.R_slice H_h0_aRunning.out; subst e_h0_aRunning; clear ho hb)
  go_wp2_with (go_at_call 26; refine (impl_UsedUnits.calls (hr0 := (Kd.R_reads' H_h0_aG.out).2.2) (hc0 := (Kd.R_reads' H_h0_aG.out).2.1) (hr1 := (Kd.R_reads' H_h0_aRunning.out).2.2) (hc1 := (Kd.R_reads' H_h0_aRunning.out).2.1) (hT := Tab.of HT.out HB.out) (h := FI.out)).mono ?_; rintro e w20 ⟨v_h0, rfl, ho, hb⟩; have z20 := Aside0.mk (hb).size; replace HB := Aside0.mk (below_step HB.out hb); replace H_w0 := Aside0.mk (Kd.R_below H_w0.out hb); replace H_g0 := Aside0.mk (Kd.R_below H_g0.out hb); replace H_h0_aG := Aside0.mk (Kd.R_below H_h0_aG.out hb); replace H_h0_aRunning := Aside0.mk (Kd.R_below H_h0_aRunning.out hb); have H_h0 := Aside0.mk (Kd.R_mono (Kd.R_bound ho) (fun k_ hk_ => hk_.2.2.1) : Kd.R (Kd.int .i64) 73 w20 w19.heap.size (fun k_ => k_ < w20.heap.size) v_h0 _); obtain ⟨A_h0, c_h0, e_h0⟩ := Kd.R_slice H_h0.out; subst e_h0; clear ho hb)
  clear H_h0_aG
  clear H_h0_aRunning
  go_wp2_with (go_at_call 24; refine (laws_eqIntS.calls (hr0 := (Kd.R_reads' H_h0.out).2.2) (hc0 := (Kd.R_reads' H_h0.out).2.1) (hr1 := (Kd.R_reads' H_w0.out).2.2) (hc1 := (Kd.R_reads' H_w0.out).2.1) (h := ER.out)).mono ?_; rintro e w21 ⟨rfl, hd⟩; have hb := drawn0_below hd; have z21 := Aside0.mk (hb).size; replace HB := Aside0.mk (below_step HB.out hb); replace H_w0 := Aside0.mk (Kd.R_below H_w0.out hb); replace H_g0 := Aside0.mk (Kd.R_below H_g0.out hb); replace H_h0 := Aside0.mk (Kd.R_below H_h0.out hb); clear hd hb)
  go_wp2_with (go_at_call 29; refine (heldIntS_n (Kd.R_reads' H_g0.out) FH.out).mono ?_; rintro e w22 ⟨rfl, hd⟩; have hb := drawn0_below hd; have z22 := Aside0.mk (hb).size; replace HB := Aside0.mk (below_step HB.out hb); replace H_w0 := Aside0.mk (Kd.R_below H_w0.out hb); replace H_g0 := Aside0.mk (Kd.R_below H_g0.out hb); replace H_h0 := Aside0.mk (Kd.R_below H_h0.out hb); clear hd hb)
  go_ret
  exact ⟨rfl, HB.out⟩
end Go.Proofs.YtffhdofcfkgoaaaDoor.P
end
