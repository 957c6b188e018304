/- What the proofs of several laws use: words and contracts, part 4 of 6. -/
import Derived.Test.YtnhkajanbfgbiaaDoorZCO13
namespace Go.Proofs.YtnhkajanbfgbiaaDoor.P
abbrev T4qc : Bool := true
abbrev F4qc : Bool := false
end Go.Proofs.YtnhkajanbfgbiaaDoor.P
section
namespace Go.Proofs.YtnhkajanbfgbiaaDoor.P
open Go.RowKit Go.Proofs.YtnhkajanbfgbiaaDoorW.PrintWords Go.Proofs.YtnhkajanbfgbiaaDoorW.PrintLast Go.Proofs.YtnhkajanbfgbiaaDoorW.PrintMore
attribute [local go_sem] max2_int min2_int max_two min_two max_three min_three max_four min_four   -- for this text's walks alone
set_option linter.unusedVariables false
set_option linter.unusedSimpArgs false
def spec_isOrder.l0 : Nat → List (S38) → List Int → Int → Option (Bool)
 | 0, _, _, _ => none
 | k + 1, x0, x1, x5 => if x5 < (x1.length : Int) then (if 0 ≤ x5 then ((spec_inRange.f (rd x1 x5) 0 (wrap64 ((x0.length : Int) - 1))).bind fun t138 => (if t138 = true then (if x5 ≤ (x1.length : Int) then ((spec_isIn.f k (x1.take (x5 : Int).toNat) (rd x1 x5)).bind fun t141 => (if t141 = true then (some false) else (if 0 ≤ (rd x1 x5) then (if (rd x1 x5) < (x0.length : Int) then ((spec_allDone.f k ((rd_T38 x0 (rd x1 x5)).f1) (x1.take (x5 : Int).toNat)).bind fun t145 => (if t145 = true then (spec_isOrder.l0 k x0 x1 (wrap64 (x5 + 1))) else (some false))) else (none)) else (none)))) else (none)) else (some false))) else (none)) else (some true)
def spec_isOrder.f (k : Nat) (l0 : List (S38)) (l1 : List Int) : Option (Bool) := if (l1.length : Int) = (l0.length : Int) then (spec_isOrder.l0 k l0 l1 0) else (some false)
theorem spec_isOrder.mono_l : ∀ k, (∀ y0 y1 y2, LeO (spec_isOrder.l0 k y0 y1 y2) (spec_isOrder.l0 (k + 1) y0 y1 y2))
 | 0 => fun _ _ _ r h => by simp [spec_isOrder.l0] at h
 | k + 1 => by
  have ih0 := spec_isOrder.mono_l k
  ·intro y0 y1 y2
   unfold spec_isOrder.l0
   repeat' first
   | (with_reducible exact ih0 _ _ _)
   | (with_reducible exact spec_allDone.mono _ _ _)
   | (with_reducible exact spec_isIn.mono _ _ _)
   | (with_reducible exact LeO.refl _)
   | (with_reducible exact LeO.none _)
   | (with_reducible refine LeO.ite ?_ ?_)
   | (with_reducible refine LeO.bind ?_ (fun _ => ?_))
   | exact ih0 _ _ _
   | exact spec_allDone.mono _ _ _
   | exact spec_isIn.mono _ _ _
   | exact LeO.none _
   | refine LeO.ite ?_ ?_
   | refine LeO.bind ?_ (fun _ => ?_)
theorem spec_isOrder.mono : ∀ a0 a1 k, LeO (spec_isOrder.f k a0 a1) (spec_isOrder.f (k + 1) a0 a1) := by
 intro a0 a1 k
 have ih0 := spec_isOrder.mono_l k
 unfold spec_isOrder.f
 repeat' first
   | (with_reducible exact ih0 _ _ _)
   | (with_reducible exact spec_allDone.mono _ _ _)
   | (with_reducible exact spec_isIn.mono _ _ _)
   | (with_reducible exact LeO.refl _)
   | (with_reducible exact LeO.none _)
   | (with_reducible refine LeO.ite ?_ ?_)
   | (with_reducible refine LeO.bind ?_ (fun _ => ?_))
   | exact ih0 _ _ _
   | exact spec_allDone.mono _ _ _
   | exact spec_isIn.mono _ _ _
   | exact LeO.none _
   | refine LeO.ite ?_ ?_
   | refine LeO.bind ?_ (fun _ => ?_)
def spec_isOrder.T6 : Bool × List (List Nat × List Nat) := (true, [([], []), ([], []), ([0, 1], [0, 1]), ([2], [2]), ([], []), ([4], [4]), ([5], [5]), ([3, 6], [3, 6]), ([7], [7]), ([8, 7], [8]), ([9], [9]), ([9], [9]), ([10, 11, 9], [9, 10, 11]), ([9], [9]), ([9], [9]), ([13, 14, 9], [9, 13, 14]), ([15, 9], [9, 15]), ([12, 16, 9, 9], [9, 12, 16]), ([9, 17], [9, 17]), ([18, 17], [18]), ([19], [19]), ([19], [19]), ([19], [19]), ([21, 22, 19], [19, 21, 22]), ([23, 19], [19, 23]), ([20, 24, 19], [19, 20, 24]), ([25, 19], [19, 25]), ([26, 19], [19, 26]), ([19], [19]), ([19], [19]), ([28, 29, 19], [19, 28, 29]), ([27, 30, 19, 19], [19, 27, 30]), ([31, 19], [19, 31]), ([19, 32], [19, 32])])
def spec_isOrder.B6 : List Nat := [0, 0, 3, 7, 0, 16, 48, 127, 255, 511, 1023, 1023, 4095, 1023, 1023, 25599, 58367, 131071, 262143, 524287, 1048575, 1048575, 1048575, 7340031, 15728639, 33554431, 67108863, 134217727, 1048575, 1048575, 806354943, 2147483647, 4294967295, 8589934591]
theorem spec_isOrder.tab6 : rtab .any (opsOf Tryd.f19 6) = spec_isOrder.T6 := by kernel_rfl
theorem spec_isOrder.bits6 : waitsOk spec_isOrder.T6.2 spec_isOrder.B6 = true := by kernel_rfl
set_option maxHeartbeats 8000000 in
set_option maxRecDepth 100000 in
theorem spec_isOrder.calls (k : Nat) (A0 : Option Addr) (c0 : Nat) (l0 : List (S38)) (A1 : Option Addr) (c1 : Nat) (l1 : List Int) (r : Bool) (w : World) (hr0 : Kd.C k38 w A0 l0.length l0) (hc0 : l0.length ≤ c0) (hr1 : Kd.C (Kd.int .i64) w A1 l1.length l1) (hc1 : l1.length ≤ c1) (h : spec_isOrder.f k l0 l1 = some r) :
  Calls Tryd.prog 19 #[.slice A0 l0.length c0, .slice A1 l1.length c1] w fun e w' => e = .returned (.bool r) ∧ Below w.heap.size w w' := by
 have HR0 := Aside0.mk hr0
 have HC0 := Aside0.mk hc0
 clear hr0 hc0
 have HR1 := Aside0.mk hr1
 have HC1 := Aside0.mk hc1
 clear hr1 hc1
 have HB := Aside0.mk (Below.refl w.heap.size w)
 have H : (if (l1.length : Int) = (l0.length : Int) then (spec_isOrder.l0 k l0 l1 0) else (some false)) = some r := h
 clear h
 by_cases c3 : (l1.length : Int) = (l0.length : Int)
 ·rw [if_pos c3] at H
  have c3b0 : ((l1.length : Int) == (l0.length : Int)) = true := beq_iff_eq.mpr c3
  have c3b1 : ((l1.length : Int) != (l0.length : Int)) = false := bne_eq_false_iff_eq.mpr c3
  have c3b2 : (l1.length == l0.length) = true := by first | simpa using c3 | (simp at c3 ⊢; omega)
  clear c3
  have H' := Aside0.mk H
  clear H
  go_enter Tryd.func19, Tryd.ntmps19
  go_wp2
  go_loopg [5] k (fun kq v5 w' => ∃ (x5_1 : Int), v5 = .int .i64 x5_1 ∧ Aside0 (spec_isOrder.l0 kq l0 l1 x5_1 = some r) ∧ Aside0 (kq ≤ k) ∧ Aside0 (Below w.heap.size w w'))
  case atStart => exact ⟨(0), (by first | rfl | (simp; done) | (simp [*]; done)), H', ⟨Nat.le_refl _⟩, ⟨by repeat (first | (with_reducible first | exact HB.out | apply below_alloc | apply pw_below_drewN | apply below_drew1) | exact HB.out)⟩⟩
  case round =>
   clear H'
   try clear c1
   try clear p2
   try clear c3
   try clear c3b0
   try clear c3b1
   try clear c3b2
   obtain ⟨x5_1, rfl, HA, HK1, HB⟩ := hrel
   cases gk with
   | zero => exact absurd HA.out (by simp [spec_isOrder.l0])
   | succ k1 =>
    have H := HA.out
    clear HA
    simp only [spec_isOrder.l0] at H
    by_cases c4 : x5_1 < (l1.length : Int)
    ·rw [if_pos c4] at H
     have c4b0 : decide (x5_1 < (l1.length : Int)) = true := decide_eq_true c4
     clear c4
     by_cases c5 : 0 ≤ x5_1
     ·rw [if_pos c5] at H
      have c5b0 : decide (0 ≤ x5_1) = true := decide_eq_true c5
      clear c5
      replace H := Option.bind_eq_some_iff.mp H
      obtain ⟨t138, A60, H⟩ := H
      replace H : (if t138 = true then (if x5_1 ≤ (l1.length : Int) then ((spec_isIn.f k1 (l1.take (x5_1 : Int).toNat) (rd l1 x5_1)).bind fun t141 => (if t141 = true then (some false) else (if 0 ≤ (rd l1 x5_1) then (if (rd l1 x5_1) < (l0.length : Int) then ((spec_allDone.f k1 ((rd_T38 l0 (rd l1 x5_1)).f1) (l1.take (x5_1 : Int).toNat)).bind fun t145 => (if t145 = true then (spec_isOrder.l0 k1 l0 l1 (wrap64 (x5_1 + 1))) else (some false))) else (none)) else (none)))) else (none)) else (some false)) = some r := H
      have A6 := Aside0.mk A60
      clear A60
      by_cases c7 : t138 = true
      ·subst c7
       have H1 : (if x5_1 ≤ (l1.length : Int) then ((spec_isIn.f k1 (l1.take (x5_1 : Int).toNat) (rd l1 x5_1)).bind fun t141 => (if t141 = true then (some false) else (if 0 ≤ (rd l1 x5_1) then (if (rd l1 x5_1) < (l0.length : Int) then ((spec_allDone.f k1 ((rd_T38 l0 (rd l1 x5_1)).f1) (l1.take (x5_1 : Int).toNat)).bind fun t145 => (if t145 = true then (spec_isOrder.l0 k1 l0 l1 (wrap64 (x5_1 + 1))) else (some false))) else (none)) else (none)))) else (none)) = some r := by rw [if_pos rfl] at H; exact H
       clear H
       have H := H1
       clear H1
       have c8b0 := eq_true (of_decide_eq_true (by first | (with_reducible assumption) | assumption) : 0 ≤ x5_1)
       by_cases c9 : x5_1 ≤ (l1.length : Int)
       ·rw [if_pos c9] at H
        have c9b0 := eq_true c9
        have c9b1 : decide (x5_1 ≤ (l1.length : Int)) = true := decide_eq_true c9
        clear c9
        replace H := Option.bind_eq_some_iff.mp H
        obtain ⟨t141, A100, H⟩ := H
        replace H : (if t141 = true then (some false) else (if 0 ≤ (rd l1 x5_1) then (if (rd l1 x5_1) < (l0.length : Int) then ((spec_allDone.f k1 ((rd_T38 l0 (rd l1 x5_1)).f1) (l1.take (x5_1 : Int).toNat)).bind fun t145 => (if t145 = true then (spec_isOrder.l0 k1 l0 l1 (wrap64 (x5_1 + 1))) else (some false))) else (none)) else (none))) = some r := H
        have A10 := Aside0.mk A100
        clear A100
        by_cases c11 : t141 = true
        ·subst c11
         have H1 : (some false) = some r := by rw [if_pos rfl] at H; exact H
         clear H
         have H := H1
         clear H1
         obtain rfl := Option.some.inj H
         try go_wp2
         have n0_ := Aside0.mk (below_drew1 HB.out)
         clear HB
         have HB := n0_
         clear n0_
         have p137 : 0 ≤ (x5_1 : Int) := of_decide_eq_true (by first | (with_reducible assumption) | assumption)
         have q137 : x5_1 < (l1.length : Int) := of_decide_eq_true (by first | (with_reducible assumption) | assumption)
         obtain ⟨ad137, e137, hx137_0⟩ := Kd.at_int HR1.out x5_1 p137 q137
         have hw137_0 := hx137_0
         cases e137
         (try replace hx137_0 := (HB.out.cell (World.block_lt_of_cell? w _ hx137_0)).trans hx137_0)
         replace p137 := eq_true p137
         replace q137 := eq_true q137
         have p140 : 0 ≤ (x5_1 : Int) := of_decide_eq_true (by first | (with_reducible assumption) | assumption)
         have q140 : x5_1 < (l1.length : Int) := of_decide_eq_true (by first | (with_reducible assumption) | assumption)
         obtain ⟨ad140, e140, hx140_0⟩ := Kd.at_int HR1.out x5_1 p140 q140
         have hw140_0 := hx140_0
         obtain rfl : ad137 = ad140 := (by injection e140)
         (try replace hx140_0 := (HB.out.cell (World.block_lt_of_cell? w _ hx140_0)).trans hx140_0)
         replace p140 := eq_true p140
         replace q140 := eq_true q140
         refine start_ (n := 34) (S := fun w' => w'.cell? (ad137.add (x5_1).toNat) = some (.int .i64 (rd l1 x5_1)) ∧ w'.cell? (ad137.add (x5_1).toNat) = some (.int .i64 (rd l1 x5_1))) (ds := []) #[F4qc,F4qc,F4qc,F4qc,F4qc,F4qc,F4qc,F4qc,F4qc,F4qc,F4qc,F4qc,F4qc,F4qc,F4qc,F4qc,F4qc,F4qc,F4qc,F4qc,F4qc,F4qc,F4qc,F4qc,F4qc,F4qc,F4qc,F4qc,F4qc,F4qc,F4qc,F4qc,F4qc,F4qc] (by kernel_rfl) rfl rfl ⟨(by first | exact ((HB.out.cell (World.block_lt_of_cell? w _ hw137_0)).trans hw137_0) | exact HS0_ | exact hHeld.1 | exact hw137_0), (by first | exact ((HB.out.cell (World.block_lt_of_cell? w _ hw140_0)).trans hw140_0) | exact HS0_ | exact hHeld.1 | exact hw140_0)⟩ (fun hHeld => ?_); refine with_tabW spec_isOrder.tab6 spec_isOrder.bits6 (fun HT_ HW_ => ?_)
         generalize wr.drew = w12 at HB hx137_0 hx140_0 hHeld ⊢
         refine pure_ (i := 0) (N := some 17) (v := ?_) (a' := ?_) #[T4qc,F4qc,F4qc,F4qc,F4qc,F4qc,F4qc,F4qc,F4qc,F4qc,F4qc,F4qc,F4qc,F4qc,F4qc,F4qc,F4qc,F4qc,F4qc,F4qc,F4qc,F4qc,F4qc,F4qc,F4qc,F4qc,F4qc,F4qc,F4qc,F4qc,F4qc,F4qc,F4qc,F4qc] rfl rfl (any_of HT_.out (by kernel_rfl)) (fun _ _ _ h => h) (Or.inl ⟨by rfl, ?_⟩) ?_ ?_
         rotate_left
         ·intro w'
          go_simp
          with_reducible rfl
         rotate_left
         ·simp only [Act.put, List.setIfInBounds_toArray, List.set_cons_zero, List.set_cons_succ, i64_w, i32_w]
          rfl
         refine pure_ (i := 1) (N := some 18) (v := ?_) (a' := ?_) #[T4qc,T4qc,F4qc,F4qc,F4qc,F4qc,F4qc,F4qc,F4qc,F4qc,F4qc,F4qc,F4qc,F4qc,F4qc,F4qc,F4qc,F4qc,F4qc,F4qc,F4qc,F4qc,F4qc,F4qc,F4qc,F4qc,F4qc,F4qc,F4qc,F4qc,F4qc,F4qc,F4qc,F4qc] rfl rfl (any_of HT_.out (by kernel_rfl)) (fun _ _ _ h => h) (Or.inl ⟨by rfl, ?_⟩) ?_ ?_
         rotate_left
         ·intro w'
          go_simp
          with_reducible rfl
         rotate_left
         ·simp only [Act.put, List.setIfInBounds_toArray, List.set_cons_zero, List.set_cons_succ, i64_w, i32_w]
          rfl
         refine pure_ (i := 2) (N := some 19) (v := ?_) (a' := ?_) #[T4qc,T4qc,T4qc,F4qc,F4qc,F4qc,F4qc,F4qc,F4qc,F4qc,F4qc,F4qc,F4qc,F4qc,F4qc,F4qc,F4qc,F4qc,F4qc,F4qc,F4qc,F4qc,F4qc,F4qc,F4qc,F4qc,F4qc,F4qc,F4qc,F4qc,F4qc,F4qc,F4qc,F4qc] rfl rfl (any_of HT_.out (by kernel_rfl)) (fun _ _ _ h => h) (Or.inl ⟨by rfl, ?_⟩) ?_ ?_
         rotate_left
         ·intro w'
          go_simp
          with_reducible rfl
         rotate_left
         ·simp only [Act.put, List.setIfInBounds_toArray, List.set_cons_zero, List.set_cons_succ, i64_w, i32_w]
          rfl
         refine pure_ (i := 4) (N := some 21) (v := ?_) (a' := ?_) #[T4qc,T4qc,T4qc,F4qc,T4qc,F4qc,F4qc,F4qc,F4qc,F4qc,F4qc,F4qc,F4qc,F4qc,F4qc,F4qc,F4qc,F4qc,F4qc,F4qc,F4qc,F4qc,F4qc,F4qc,F4qc,F4qc,F4qc,F4qc,F4qc,F4qc,F4qc,F4qc,F4qc,F4qc] rfl rfl (any_of HT_.out (by kernel_rfl)) (fun _ _ _ h => h) (Or.inl ⟨by rfl, ?_⟩) ?_ ?_
         rotate_left
         ·intro w'
          go_simp
          with_reducible rfl
         rotate_left
         ·simp only [Act.put, List.setIfInBounds_toArray, List.set_cons_zero, List.set_cons_succ, i64_w, i32_w]
          rfl
         refine pure_ (i := 5) (N := some 22) (v := ?_) (a' := ?_) #[T4qc,T4qc,T4qc,F4qc,T4qc,T4qc,F4qc,F4qc,F4qc,F4qc,F4qc,F4qc,F4qc,F4qc,F4qc,F4qc,F4qc,F4qc,F4qc,F4qc,F4qc,F4qc,F4qc,F4qc,F4qc,F4qc,F4qc,F4qc,F4qc,F4qc,F4qc,F4qc,F4qc,F4qc] rfl rfl (any_of HT_.out (by kernel_rfl)) (fun _ _ _ h => h) (Or.inl ⟨by rfl, ?_⟩) ?_ ?_
         rotate_left
         ·intro w'
          go_simp
          with_reducible rfl
         rotate_left
         ·simp only [Act.put, List.setIfInBounds_toArray, List.set_cons_zero, List.set_cons_succ, i64_w, i32_w]
          rfl
         refine pure_ (i := 6) (N := some 23) (v := ?_) (a' := ?_) #[T4qc,T4qc,T4qc,F4qc,T4qc,T4qc,T4qc,F4qc,F4qc,F4qc,F4qc,F4qc,F4qc,F4qc,F4qc,F4qc,F4qc,F4qc,F4qc,F4qc,F4qc,F4qc,F4qc,F4qc,F4qc,F4qc,F4qc,F4qc,F4qc,F4qc,F4qc,F4qc,F4qc,F4qc] rfl rfl (any_of HT_.out (by kernel_rfl)) (fun _ _ _ h => h) (Or.inl ⟨by rfl, ?_⟩) ?_ ?_
         rotate_left
         ·intro w'
          go_simp
          with_reducible rfl
         rotate_left
         ·simp only [Act.put, List.setIfInBounds_toArray, List.set_cons_zero, List.set_cons_succ, i64_w, i32_w]
          rfl
         refine take_ (i := 3) (N := some 20) (v := ?_) (a' := ?_) #[T4qc,T4qc,T4qc,T4qc,T4qc,T4qc,T4qc,F4qc,F4qc,F4qc,F4qc,F4qc,F4qc,F4qc,F4qc,F4qc,F4qc,F4qc,F4qc,F4qc,F4qc,F4qc,F4qc,F4qc,F4qc,F4qc,F4qc,F4qc,F4qc,F4qc,F4qc,F4qc,F4qc,F4qc] rfl rfl (take_ofW HT_.out HW_.out (by kernel_rfl)) (fun _ _ _ h => h) (Or.inl ⟨by rfl, ?_⟩) hHeld ?_ ?_
         rotate_left
         ·rintro w' ⟨s0, s1⟩
          go_simp
          with_reducible rfl
         rotate_left
         ·simp only [Act.put, List.setIfInBounds_toArray, List.set_cons_zero, List.set_cons_succ, i64_w, i32_w]
          rfl
         refine one_ (i := 7) (N := some 24) #[T4qc,T4qc,T4qc,T4qc,T4qc,T4qc,T4qc,T4qc,F4qc,F4qc,F4qc,F4qc,F4qc,F4qc,F4qc,F4qc,F4qc,F4qc,F4qc,F4qc,F4qc,F4qc,F4qc,F4qc,F4qc,F4qc,F4qc,F4qc,F4qc,F4qc,F4qc,F4qc,F4qc,F4qc] rfl rfl (one_of HT_.out (by kernel_rfl)) (by decide) (fun K hK => ?_)
         refine goes_ Tryd.func40 (by kernel_rfl) rfl #[.int .i64 (rd l1 x5_1), .int .i64 0, .int .i64 (wrap64 ((l0.length : Int) - 1))] (by rfl) rfl rfl (by (try simp only [List.map_toArray, List.map_cons, List.map_nil]); first | done | rfl | (simp only [List.length_drop, List.length_take]; rfl)) ?_
         with_reducible refine (spec_inRange.calls (rd l1 x5_1) 0 (wrap64 ((l0.length : Int) - 1)) true _ A6.out).mono ?_
         rintro e w' ⟨rfl, ⟨nd, rfl⟩⟩
         refine ⟨_, rfl, ?_⟩
         obtain ⟨i013, hi013, _, hsz13, _⟩ := info_parts info3
         obtain ⟨hcut13, hA13, hC13⟩ := print_take_of (P := Tryd.prog) (Value.int .i64) 0 23 3 .i64 Tryd.underlying23 hi013 hsz13 (some ad137) c1 l1 x5_1 (of_decide_eq_true (by first | (with_reducible assumption) | assumption)) (of_decide_eq_true (by first | (with_reducible assumption) | assumption)) HC1.out
         have HR139 := Aside0.mk (Kd.C_of_reads (h1 := fun _ => rfl) (hA13 _ (Kd.reads_of_C HR1.out)))
         have HC139 := Aside0.mk hC13
         clear hA13 hC13 hi013 hsz13
         refine hK.out _ _ ⟨(by first | exact ((HB.out.cell (World.block_lt_of_cell? w _ hw137_0)).trans hw137_0) | exact HS0_ | exact hHeld.1 | exact hw137_0), (by first | exact ((HB.out.cell (World.block_lt_of_cell? w _ hw140_0)).trans hw140_0) | exact HS0_ | exact hHeld.1 | exact hw140_0)⟩ (fun hHeld => ?_)
         clear hK K
         refine norm_ (a' := ?_) ?_ ?_
         rotate_left
         ·show Act.put _ (some 24) _ = _
          simp only [Act.put, List.setIfInBounds_toArray, List.set_cons_zero, List.set_cons_succ, i64_w, i32_w]
          rfl
         refine pure_ (i := 8) (N := some 25) (v := ?_) (a' := ?_) #[T4qc,T4qc,T4qc,T4qc,T4qc,T4qc,T4qc,T4qc,T4qc,F4qc,F4qc,F4qc,F4qc,F4qc,F4qc,F4qc,F4qc,F4qc,F4qc,F4qc,F4qc,F4qc,F4qc,F4qc,F4qc,F4qc,F4qc,F4qc,F4qc,F4qc,F4qc,F4qc,F4qc,F4qc] rfl rfl (any_of HT_.out (by kernel_rfl)) (fun _ _ _ h => h) (Or.inl ⟨by rfl, ?_⟩) ?_ ?_
         rotate_left
         ·intro w'
          go_simp
          with_reducible rfl
         rotate_left
         ·simp only [Act.put, List.setIfInBounds_toArray, List.set_cons_zero, List.set_cons_succ, i64_w, i32_w]
          rfl
         refine pure_ (i := 9) (N := some 26) (v := ?_) (a' := ?_) #[T4qc,T4qc,T4qc,T4qc,T4qc,T4qc,T4qc,T4qc,T4qc,T4qc,F4qc,F4qc,F4qc,F4qc,F4qc,F4qc,F4qc,F4qc,F4qc,F4qc,F4qc,F4qc,F4qc,F4qc,F4qc,F4qc,F4qc,F4qc,F4qc,F4qc,F4qc,F4qc,F4qc,F4qc] rfl rfl (any_of HT_.out (by kernel_rfl)) (fun _ _ _ h => h) (Or.inl ⟨by rfl, ?_⟩) ?_ ?_
         rotate_left
         ·intro w'
          go_simp
          with_reducible rfl
         rotate_left
         ·simp only [Act.put, List.setIfInBounds_toArray, List.set_cons_zero, List.set_cons_succ, i64_w, i32_w]
          rfl
         refine pure_ (i := 10) (N := some 27) (v := ?_) (a' := ?_) #[T4qc,T4qc,T4qc,T4qc,T4qc,T4qc,T4qc,T4qc,T4qc,T4qc,T4qc,F4qc,F4qc,F4qc,F4qc,F4qc,F4qc,F4qc,F4qc,F4qc,F4qc,F4qc,F4qc,F4qc,F4qc,F4qc,F4qc,F4qc,F4qc,F4qc,F4qc,F4qc,F4qc,F4qc] rfl rfl (any_of HT_.out (by kernel_rfl)) (fun _ _ _ h => h) (Or.inl ⟨by rfl, ?_⟩) ?_ ?_
         rotate_left
         ·intro w'
          go_simp
          with_reducible rfl
         rotate_left
         ·simp only [Act.put, List.setIfInBounds_toArray, List.set_cons_zero, List.set_cons_succ, i64_w, i32_w]
          rfl
         refine pure_ (i := 11) (N := some 28) (v := ?_) (a' := ?_) #[T4qc,T4qc,T4qc,T4qc,T4qc,T4qc,T4qc,T4qc,T4qc,T4qc,T4qc,T4qc,F4qc,F4qc,F4qc,F4qc,F4qc,F4qc,F4qc,F4qc,F4qc,F4qc,F4qc,F4qc,F4qc,F4qc,F4qc,F4qc,F4qc,F4qc,F4qc,F4qc,F4qc,F4qc] rfl rfl (any_of HT_.out (by kernel_rfl)) (fun _ _ _ h => h) (Or.inl ⟨by rfl, ?_⟩) ?_ ?_
         rotate_left
         ·intro w'
          go_simp
          with_reducible rfl
         rotate_left
         ·simp only [Act.put, List.setIfInBounds_toArray, List.set_cons_zero, List.set_cons_succ, i64_w, i32_w]
          rfl
         refine pure_ (i := 12) (N := some 29) (v := ?_) (a' := ?_) #[T4qc,T4qc,T4qc,T4qc,T4qc,T4qc,T4qc,T4qc,T4qc,T4qc,T4qc,T4qc,T4qc,F4qc,F4qc,F4qc,F4qc,F4qc,F4qc,F4qc,F4qc,F4qc,F4qc,F4qc,F4qc,F4qc,F4qc,F4qc,F4qc,F4qc,F4qc,F4qc,F4qc,F4qc] rfl rfl (any_of HT_.out (by kernel_rfl)) (fun _ _ _ h => h) (Or.inl ⟨by rfl, ?_⟩) ?_ ?_
         rotate_left
         ·intro w'
          go_simp
          with_reducible rfl
         rotate_left
         ·simp only [Act.put, List.setIfInBounds_toArray, List.set_cons_zero, List.set_cons_succ, i64_w, i32_w]
          rfl
         refine pure_ (i := 13) (N := some 30) (v := ?_) (a' := ?_) #[T4qc,T4qc,T4qc,T4qc,T4qc,T4qc,T4qc,T4qc,T4qc,T4qc,T4qc,T4qc,T4qc,T4qc,F4qc,F4qc,F4qc,F4qc,F4qc,F4qc,F4qc,F4qc,F4qc,F4qc,F4qc,F4qc,F4qc,F4qc,F4qc,F4qc,F4qc,F4qc,F4qc,F4qc] rfl rfl (any_of HT_.out (by kernel_rfl)) (fun _ _ _ h => h) (Or.inl ⟨by rfl, ?_⟩) ?_ ?_
         rotate_left
         ·intro w'
          go_simp
          with_reducible rfl
         rotate_left
         ·simp only [Act.put, List.setIfInBounds_toArray, List.set_cons_zero, List.set_cons_succ, i64_w, i32_w]
          rfl
         refine pure_ (i := 14) (N := some 31) (v := ?_) (a' := ?_) #[T4qc,T4qc,T4qc,T4qc,T4qc,T4qc,T4qc,T4qc,T4qc,T4qc,T4qc,T4qc,T4qc,T4qc,T4qc,F4qc,F4qc,F4qc,F4qc,F4qc,F4qc,F4qc,F4qc,F4qc,F4qc,F4qc,F4qc,F4qc,F4qc,F4qc,F4qc,F4qc,F4qc,F4qc] rfl rfl (any_of HT_.out (by kernel_rfl)) (fun _ _ _ h => h) (Or.inl ⟨by rfl, ?_⟩) ?_ ?_
         rotate_left
         ·intro w'
          go_simp
          with_reducible rfl
         rotate_left
         ·simp only [Act.put, List.setIfInBounds_toArray, List.set_cons_zero, List.set_cons_succ, i64_w, i32_w]
          rfl
         refine pure_ (i := 15) (N := some 32) (v := ?_) (a' := ?_) #[T4qc,T4qc,T4qc,T4qc,T4qc,T4qc,T4qc,T4qc,T4qc,T4qc,T4qc,T4qc,T4qc,T4qc,T4qc,T4qc,F4qc,F4qc,F4qc,F4qc,F4qc,F4qc,F4qc,F4qc,F4qc,F4qc,F4qc,F4qc,F4qc,F4qc,F4qc,F4qc,F4qc,F4qc] rfl rfl (any_of HT_.out (by kernel_rfl)) (fun _ _ _ h => h) (Or.inl ⟨by rfl, ?_⟩) ?_ ?_
         rotate_left
         ·intro w'
          go_simp
          with_reducible rfl
         rotate_left
         ·simp only [Act.put, List.setIfInBounds_toArray, List.set_cons_zero, List.set_cons_succ, i64_w, i32_w]
          rfl
         refine take_ (i := 16) (N := some 33) (v := ?_) (a' := ?_) #[T4qc,T4qc,T4qc,T4qc,T4qc,T4qc,T4qc,T4qc,T4qc,T4qc,T4qc,T4qc,T4qc,T4qc,T4qc,T4qc,T4qc,F4qc,F4qc,F4qc,F4qc,F4qc,F4qc,F4qc,F4qc,F4qc,F4qc,F4qc,F4qc,F4qc,F4qc,F4qc,F4qc,F4qc] rfl rfl (take_ofW HT_.out HW_.out (by kernel_rfl)) (fun _ _ _ h => h) (Or.inl ⟨by rfl, ?_⟩) hHeld ?_ ?_
         rotate_left
         ·rintro w' ⟨s0, s1⟩
          go_simp
          with_reducible rfl
         rotate_left
         ·simp only [Act.put, List.setIfInBounds_toArray, List.set_cons_zero, List.set_cons_succ, i64_w, i32_w]
          rfl
         refine one_ (i := 17) (N := some 34) #[T4qc,T4qc,T4qc,T4qc,T4qc,T4qc,T4qc,T4qc,T4qc,T4qc,T4qc,T4qc,T4qc,T4qc,T4qc,T4qc,T4qc,T4qc,F4qc,F4qc,F4qc,F4qc,F4qc,F4qc,F4qc,F4qc,F4qc,F4qc,F4qc,F4qc,F4qc,F4qc,F4qc,F4qc] rfl rfl (one_of HT_.out (by kernel_rfl)) (by decide) (fun K hK => ?_)
         refine goes_ Tryd.func33 (by kernel_rfl) rfl #[.slice (some ad137) (l1.take (x5_1 : Int).toNat).length c1, .int .i64 (rd l1 x5_1)] (by rfl) rfl rfl (by (try simp only [List.map_toArray, List.map_cons, List.map_nil]); first | done | (rw [show (l1.take (x5_1 : Int).toNat).length = x5_1.toNat from (by rw [List.length_take]; have h_ : (x5_1 : Int) ≤ (l1.length : Int) := of_decide_eq_true (by first | (with_reducible assumption) | assumption); omega)] <;> rfl) | rfl | (simp only [List.length_drop, List.length_take]; rfl)) ?_
         with_reducible refine (spec_isIn.calls k1 _ _ (l1.take (x5_1 : Int).toNat) (rd l1 x5_1) true _ ?side1 ?side2 A10.out).mono ?_
         (case side1 => repeat (first | exact (Kd.C_below HR139.out (by repeat (first | (with_reducible first | exact HB.out | apply below_alloc | apply pw_below_drewN | apply below_drew1) | exact HB.out))) | (with_reducible refine Kd.C_alloc ?_ _) | (with_reducible refine Kd.C_drewN ?_ _) | (with_reducible refine Kd.C_drew ?_)))
         (case side2 => exact HC139.out)
         rintro e w' ⟨rfl, ⟨nd, rfl⟩⟩
         refine ⟨_, rfl, ?_⟩
         refine hK.out _ _ ⟨(by first | exact ((HB.out.cell (World.block_lt_of_cell? w _ hw137_0)).trans hw137_0) | exact HS0_ | exact hHeld.1 | exact hw137_0), (by first | exact ((HB.out.cell (World.block_lt_of_cell? w _ hw140_0)).trans hw140_0) | exact HS0_ | exact hHeld.1 | exact hw140_0)⟩ (fun hHeld => ?_)
         clear hK K
         refine norm_ (a' := ?_) ?_ ?_
         rotate_left
         ·show Act.put _ (some 34) _ = _
          simp only [Act.put, List.setIfInBounds_toArray, List.set_cons_zero, List.set_cons_succ, i64_w, i32_w]
          rfl
         refine pure_ (i := 18) (N := some 35) (v := ?_) (a' := ?_) #[T4qc,T4qc,T4qc,T4qc,T4qc,T4qc,T4qc,T4qc,T4qc,T4qc,T4qc,T4qc,T4qc,T4qc,T4qc,T4qc,T4qc,T4qc,T4qc,F4qc,F4qc,F4qc,F4qc,F4qc,F4qc,F4qc,F4qc,F4qc,F4qc,F4qc,F4qc,F4qc,F4qc,F4qc] rfl rfl (any_of HT_.out (by kernel_rfl)) (fun _ _ _ h => h) (Or.inl ⟨by rfl, ?_⟩) ?_ ?_
         rotate_left
         ·intro w'
          go_simp
          with_reducible rfl
         rotate_left
         ·simp only [Act.put, List.setIfInBounds_toArray, List.set_cons_zero, List.set_cons_succ, i64_w, i32_w]
          rfl
         refine pure_ (i := 19) (N := some 36) (v := ?_) (a' := ?_) #[T4qc,T4qc,T4qc,T4qc,T4qc,T4qc,T4qc,T4qc,T4qc,T4qc,T4qc,T4qc,T4qc,T4qc,T4qc,T4qc,T4qc,T4qc,T4qc,T4qc,F4qc,F4qc,F4qc,F4qc,F4qc,F4qc,F4qc,F4qc,F4qc,F4qc,F4qc,F4qc,F4qc,F4qc] rfl rfl (any_of HT_.out (by kernel_rfl)) (fun _ _ _ h => h) (Or.inl ⟨by rfl, ?_⟩) ?_ ?_
         rotate_left
         ·intro w'
          go_simp
          with_reducible rfl
         rotate_left
         ·simp only [Act.put, List.setIfInBounds_toArray, List.set_cons_zero, List.set_cons_succ, i64_w, i32_w]
          rfl
         refine pure_ (i := 20) (N := some 37) (v := undef) (a' := ?_) #[T4qc,T4qc,T4qc,T4qc,T4qc,T4qc,T4qc,T4qc,T4qc,T4qc,T4qc,T4qc,T4qc,T4qc,T4qc,T4qc,T4qc,T4qc,T4qc,T4qc,T4qc,F4qc,F4qc,F4qc,F4qc,F4qc,F4qc,F4qc,F4qc,F4qc,F4qc,F4qc,F4qc,F4qc] rfl rfl (any_of HT_.out (by kernel_rfl)) (fun _ _ _ h => h) (Or.inr ⟨by rfl, rfl⟩) ?_ ?_
         rotate_left
         ·simp only [Act.put, List.setIfInBounds_toArray, List.set_cons_zero, List.set_cons_succ, i64_w, i32_w]
          rfl
         refine pure_ (i := 21) (N := some 38) (v := undef) (a' := ?_) #[T4qc,T4qc,T4qc,T4qc,T4qc,T4qc,T4qc,T4qc,T4qc,T4qc,T4qc,T4qc,T4qc,T4qc,T4qc,T4qc,T4qc,T4qc,T4qc,T4qc,T4qc,T4qc,F4qc,F4qc,F4qc,F4qc,F4qc,F4qc,F4qc,F4qc,F4qc,F4qc,F4qc,F4qc] rfl rfl (any_of HT_.out (by kernel_rfl)) (fun _ _ _ h => h) (Or.inr ⟨by rfl, rfl⟩) ?_ ?_
         rotate_left
         ·simp only [Act.put, List.setIfInBounds_toArray, List.set_cons_zero, List.set_cons_succ, i64_w, i32_w]
          rfl
         refine pure_ (i := 22) (N := some 39) (v := undef) (a' := ?_) #[T4qc,T4qc,T4qc,T4qc,T4qc,T4qc,T4qc,T4qc,T4qc,T4qc,T4qc,T4qc,T4qc,T4qc,T4qc,T4qc,T4qc,T4qc,T4qc,T4qc,T4qc,T4qc,T4qc,F4qc,F4qc,F4qc,F4qc,F4qc,F4qc,F4qc,F4qc,F4qc,F4qc,F4qc] rfl rfl (any_of HT_.out (by kernel_rfl)) (fun _ _ _ h => h) (Or.inr ⟨by rfl, rfl⟩) ?_ ?_
         rotate_left
         ·simp only [Act.put, List.setIfInBounds_toArray, List.set_cons_zero, List.set_cons_succ, i64_w, i32_w]
          rfl
         refine pure_ (i := 23) (N := some 40) (v := undef) (a' := ?_) #[T4qc,T4qc,T4qc,T4qc,T4qc,T4qc,T4qc,T4qc,T4qc,T4qc,T4qc,T4qc,T4qc,T4qc,T4qc,T4qc,T4qc,T4qc,T4qc,T4qc,T4qc,T4qc,T4qc,T4qc,F4qc,F4qc,F4qc,F4qc,F4qc,F4qc,F4qc,F4qc,F4qc,F4qc] rfl rfl (any_of HT_.out (by kernel_rfl)) (fun _ _ _ h => h) (Or.inr ⟨by rfl, rfl⟩) ?_ ?_
         rotate_left
         ·simp only [Act.put, List.setIfInBounds_toArray, List.set_cons_zero, List.set_cons_succ, i64_w, i32_w]
          rfl
         refine pure_ (i := 24) (N := some 41) (v := undef) (a' := ?_) #[T4qc,T4qc,T4qc,T4qc,T4qc,T4qc,T4qc,T4qc,T4qc,T4qc,T4qc,T4qc,T4qc,T4qc,T4qc,T4qc,T4qc,T4qc,T4qc,T4qc,T4qc,T4qc,T4qc,T4qc,T4qc,F4qc,F4qc,F4qc,F4qc,F4qc,F4qc,F4qc,F4qc,F4qc] rfl rfl (any_of HT_.out (by kernel_rfl)) (fun _ _ _ h => h) (Or.inr ⟨by rfl, rfl⟩) ?_ ?_
         rotate_left
         ·simp only [Act.put, List.setIfInBounds_toArray, List.set_cons_zero, List.set_cons_succ, i64_w, i32_w]
          rfl
         refine pure_ (i := 25) (N := some 42) (v := undef) (a' := ?_) #[T4qc,T4qc,T4qc,T4qc,T4qc,T4qc,T4qc,T4qc,T4qc,T4qc,T4qc,T4qc,T4qc,T4qc,T4qc,T4qc,T4qc,T4qc,T4qc,T4qc,T4qc,T4qc,T4qc,T4qc,T4qc,T4qc,F4qc,F4qc,F4qc,F4qc,F4qc,F4qc,F4qc,F4qc] rfl rfl (any_of HT_.out (by kernel_rfl)) (fun _ _ _ h => h) (Or.inr ⟨by rfl, rfl⟩) ?_ ?_
         rotate_left
         ·simp only [Act.put, List.setIfInBounds_toArray, List.set_cons_zero, List.set_cons_succ, i64_w, i32_w]
          rfl
         refine pure_ (i := 26) (N := some 43) (v := undef) (a' := ?_) #[T4qc,T4qc,T4qc,T4qc,T4qc,T4qc,T4qc,T4qc,T4qc,T4qc,T4qc,T4qc,T4qc,T4qc,T4qc,T4qc,T4qc,T4qc,T4qc,T4qc,T4qc,T4qc,T4qc,T4qc,T4qc,T4qc,T4qc,F4qc,F4qc,F4qc,F4qc,F4qc,F4qc,F4qc] rfl rfl (any_of HT_.out (by kernel_rfl)) (fun _ _ _ h => h) (Or.inr ⟨by rfl, rfl⟩) ?_ ?_
         rotate_left
         ·simp only [Act.put, List.setIfInBounds_toArray, List.set_cons_zero, List.set_cons_succ, i64_w, i32_w]
          rfl
         refine pure_ (i := 27) (N := some 44) (v := undef) (a' := ?_) #[T4qc,T4qc,T4qc,T4qc,T4qc,T4qc,T4qc,T4qc,T4qc,T4qc,T4qc,T4qc,T4qc,T4qc,T4qc,T4qc,T4qc,T4qc,T4qc,T4qc,T4qc,T4qc,T4qc,T4qc,T4qc,T4qc,T4qc,T4qc,F4qc,F4qc,F4qc,F4qc,F4qc,F4qc] rfl rfl (any_of HT_.out (by kernel_rfl)) (fun _ _ _ h => h) (Or.inr ⟨by rfl, rfl⟩) ?_ ?_
         rotate_left
         ·simp only [Act.put, List.setIfInBounds_toArray, List.set_cons_zero, List.set_cons_succ, i64_w, i32_w]
          rfl
         refine pure_ (i := 28) (N := some 45) (v := undef) (a' := ?_) #[T4qc,T4qc,T4qc,T4qc,T4qc,T4qc,T4qc,T4qc,T4qc,T4qc,T4qc,T4qc,T4qc,T4qc,T4qc,T4qc,T4qc,T4qc,T4qc,T4qc,T4qc,T4qc,T4qc,T4qc,T4qc,T4qc,T4qc,T4qc,T4qc,F4qc,F4qc,F4qc,F4qc,F4qc] rfl rfl (any_of HT_.out (by kernel_rfl)) (fun _ _ _ h => h) (Or.inr ⟨by rfl, rfl⟩) ?_ ?_
         rotate_left
         ·simp only [Act.put, List.setIfInBounds_toArray, List.set_cons_zero, List.set_cons_succ, i64_w, i32_w]
          rfl
         refine pure_ (i := 29) (N := some 46) (v := undef) (a' := ?_) #[T4qc,T4qc,T4qc,T4qc,T4qc,T4qc,T4qc,T4qc,T4qc,T4qc,T4qc,T4qc,T4qc,T4qc,T4qc,T4qc,T4qc,T4qc,T4qc,T4qc,T4qc,T4qc,T4qc,T4qc,T4qc,T4qc,T4qc,T4qc,T4qc,T4qc,F4qc,F4qc,F4qc,F4qc] rfl rfl (any_of HT_.out (by kernel_rfl)) (fun _ _ _ h => h) (Or.inr ⟨by rfl, rfl⟩) ?_ ?_
         rotate_left
         ·simp only [Act.put, List.setIfInBounds_toArray, List.set_cons_zero, List.set_cons_succ, i64_w, i32_w]
          rfl
         refine pure_ (i := 30) (N := some 47) (v := undef) (a' := ?_) #[T4qc,T4qc,T4qc,T4qc,T4qc,T4qc,T4qc,T4qc,T4qc,T4qc,T4qc,T4qc,T4qc,T4qc,T4qc,T4qc,T4qc,T4qc,T4qc,T4qc,T4qc,T4qc,T4qc,T4qc,T4qc,T4qc,T4qc,T4qc,T4qc,T4qc,T4qc,F4qc,F4qc,F4qc] rfl rfl (any_of HT_.out (by kernel_rfl)) (fun _ _ _ h => h) (Or.inr ⟨by rfl, rfl⟩) ?_ ?_
         rotate_left
         ·simp only [Act.put, List.setIfInBounds_toArray, List.set_cons_zero, List.set_cons_succ, i64_w, i32_w]
          rfl
         refine pure_ (i := 31) (N := some 48) (v := undef) (a' := ?_) #[T4qc,T4qc,T4qc,T4qc,T4qc,T4qc,T4qc,T4qc,T4qc,T4qc,T4qc,T4qc,T4qc,T4qc,T4qc,T4qc,T4qc,T4qc,T4qc,T4qc,T4qc,T4qc,T4qc,T4qc,T4qc,T4qc,T4qc,T4qc,T4qc,T4qc,T4qc,T4qc,F4qc,F4qc] rfl rfl (any_of HT_.out (by kernel_rfl)) (fun _ _ _ h => h) (Or.inr ⟨by rfl, rfl⟩) ?_ ?_
         rotate_left
         ·simp only [Act.put, List.setIfInBounds_toArray, List.set_cons_zero, List.set_cons_succ, i64_w, i32_w]
          rfl
         refine pure_ (i := 32) (N := some 49) (v := undef) (a' := ?_) #[T4qc,T4qc,T4qc,T4qc,T4qc,T4qc,T4qc,T4qc,T4qc,T4qc,T4qc,T4qc,T4qc,T4qc,T4qc,T4qc,T4qc,T4qc,T4qc,T4qc,T4qc,T4qc,T4qc,T4qc,T4qc,T4qc,T4qc,T4qc,T4qc,T4qc,T4qc,T4qc,T4qc,F4qc] rfl rfl (any_of HT_.out (by kernel_rfl)) (fun _ _ _ h => h) (Or.inr ⟨by rfl, rfl⟩) ?_ ?_
         rotate_left
         ·simp only [Act.put, List.setIfInBounds_toArray, List.set_cons_zero, List.set_cons_succ, i64_w, i32_w]
          rfl
         refine pure_ (i := 33) (N := some 50) (v := ?_) (a' := ?_) #[T4qc,T4qc,T4qc,T4qc,T4qc,T4qc,T4qc,T4qc,T4qc,T4qc,T4qc,T4qc,T4qc,T4qc,T4qc,T4qc,T4qc,T4qc,T4qc,T4qc,T4qc,T4qc,T4qc,T4qc,T4qc,T4qc,T4qc,T4qc,T4qc,T4qc,T4qc,T4qc,T4qc,T4qc] rfl rfl (any_of HT_.out (by kernel_rfl)) (fun _ _ _ h => h) (Or.inl ⟨by rfl, ?_⟩) ?_ ?_
         rotate_left
         ·intro w'
          go_simp
          with_reducible rfl
         rotate_left
         ·simp only [Act.put, List.setIfInBounds_toArray, List.set_cons_zero, List.set_cons_succ, i64_w, i32_w]
          rfl
         refine done_ (done_of HT_.out (by kernel_rfl)) ?_
         try go_wp2
         go_ret
         exact ⟨by first | rfl | (simp [errW_none, errW_some] <;> rfl) | (simp [*, errW_none, errW_some] <;> rfl), by repeat (first | (with_reducible first | exact HB.out | apply below_alloc | apply pw_below_drewN | apply below_drew1) | exact HB.out)⟩
        ·replace c11 := Bool.eq_false_iff.mpr c11
         subst c11
         have H1 : (if 0 ≤ (rd l1 x5_1) then (if (rd l1 x5_1) < (l0.length : Int) then ((spec_allDone.f k1 ((rd_T38 l0 (rd l1 x5_1)).f1) (l1.take (x5_1 : Int).toNat)).bind fun t145 => (if t145 = true then (spec_isOrder.l0 k1 l0 l1 (wrap64 (x5_1 + 1))) else (some false))) else (none)) else (none)) = some r := by rw [if_neg (show ¬ (false = true) by decide)] at H; exact H
         clear H
         have H := H1
         clear H1
         by_cases c14 : 0 ≤ (rd l1 x5_1)
         ·rw [if_pos c14] at H
          have c14b0 : decide (0 ≤ (rd l1 x5_1)) = true := decide_eq_true c14
          clear c14
          by_cases c15 : (rd l1 x5_1) < (l0.length : Int)
          ·rw [if_pos c15] at H
           have c15b0 : decide ((rd l1 x5_1) < (l0.length : Int)) = true := decide_eq_true c15
           clear c15
           have c16b0 := eq_true (of_decide_eq_true (by first | (with_reducible assumption) | assumption) : 0 ≤ x5_1)
           have c17b0 := eq_true (of_decide_eq_true (by first | (with_reducible assumption) | assumption) : x5_1 ≤ (l1.length : Int))
           replace H := Option.bind_eq_some_iff.mp H
           obtain ⟨t145, A180, H⟩ := H
           replace H : (if t145 = true then (spec_isOrder.l0 k1 l0 l1 (wrap64 (x5_1 + 1))) else (some false)) = some r := H
           have A18 := Aside0.mk A180
           clear A180
           by_cases c19 : t145 = true
           ·subst c19
            have H1 : (spec_isOrder.l0 k1 l0 l1 (wrap64 (x5_1 + 1))) = some r := by rw [if_pos rfl] at H; exact H
            clear H
            have H := H1
            clear H1
            have H' := Aside0.mk H
            clear H
            try go_wp2
            have n0_ := Aside0.mk (below_drew1 HB.out)
            clear HB
            have HB := n0_
            clear n0_
            have p137 : 0 ≤ (x5_1 : Int) := of_decide_eq_true (by first | (with_reducible assumption) | assumption)
            have q137 : x5_1 < (l1.length : Int) := of_decide_eq_true (by first | (with_reducible assumption) | assumption)
            obtain ⟨ad137, e137, hx137_0⟩ := Kd.at_int HR1.out x5_1 p137 q137
            have hw137_0 := hx137_0
            cases e137
            (try replace hx137_0 := (HB.out.cell (World.block_lt_of_cell? w _ hx137_0)).trans hx137_0)
            replace p137 := eq_true p137
            replace q137 := eq_true q137
            have p140 : 0 ≤ (x5_1 : Int) := of_decide_eq_true (by first | (with_reducible assumption) | assumption)
            have q140 : x5_1 < (l1.length : Int) := of_decide_eq_true (by first | (with_reducible assumption) | assumption)
            obtain ⟨ad140, e140, hx140_0⟩ := Kd.at_int HR1.out x5_1 p140 q140
            have hw140_0 := hx140_0
            obtain rfl : ad137 = ad140 := (by injection e140)
            (try replace hx140_0 := (HB.out.cell (World.block_lt_of_cell? w _ hx140_0)).trans hx140_0)
            replace p140 := eq_true p140
            replace q140 := eq_true q140
            have p142 : 0 ≤ (x5_1 : Int) := of_decide_eq_true (by first | (with_reducible assumption) | assumption)
            have q142 : x5_1 < (l1.length : Int) := of_decide_eq_true (by first | (with_reducible assumption) | assumption)
            obtain ⟨ad142, e142, hx142_0⟩ := Kd.at_int HR1.out x5_1 p142 q142
            have hw142_0 := hx142_0
            obtain rfl : ad137 = ad142 := (by injection e142)
            (try replace hx142_0 := (HB.out.cell (World.block_lt_of_cell? w _ hx142_0)).trans hx142_0)
            replace p142 := eq_true p142
            replace q142 := eq_true q142
            have p143 : 0 ≤ ((rd l1 x5_1) : Int) := of_decide_eq_true (by first | (with_reducible assumption) | assumption)
            have q143 : (rd l1 x5_1) < (l0.length : Int) := of_decide_eq_true (by first | (with_reducible assumption) | assumption)
            obtain ⟨ad143, A143_1, c143_1, e143, hx143_0, hx143_1, hx143_2, hx143_3, hl143_1, hi143_1⟩ := at_T38 HR0.out (rd l1 x5_1) p143 q143
            have hw143_3 := hx143_3
            have hw143_2 := hx143_2
            have hw143_1 := hx143_1
            have hw143_0 := hx143_0
            cases e143
            (try replace hx143_0 := (HB.out.cell (World.block_lt_of_cell? w _ hx143_0)).trans hx143_0)
            (try replace hx143_1 := (HB.out.cell (World.block_lt_of_cell? w _ hx143_1)).trans hx143_1)
            (try replace hx143_2 := (HB.out.cell (World.block_lt_of_cell? w _ hx143_2)).trans hx143_2)
            (try replace hx143_3 := (HB.out.cell (World.block_lt_of_cell? w _ hx143_3)).trans hx143_3)
            have HR143_1 := Aside0.mk hi143_1
            have HC143_1 := Aside0.mk hl143_1
            clear hi143_1 hl143_1
            replace p143 := eq_true p143
            replace q143 := eq_true q143
            refine start_ (n := 34) (S := fun w' => w'.cell? (ad137.add (x5_1).toNat) = some (.int .i64 (rd l1 x5_1)) ∧ w'.cell? (ad137.add (x5_1).toNat) = some (.int .i64 (rd l1 x5_1)) ∧ w'.cell? (ad137.add (x5_1).toNat) = some (.int .i64 (rd l1 x5_1)) ∧ w'.cell? (ad143.add (((rd l1 x5_1)).toNat * 4)) = some (.int .i64 ((rd_T38 l0 (rd l1 x5_1)).f0)) ∧ w'.cell? ⟨(ad143.add (((rd l1 x5_1)).toNat * 4)).block, (ad143.add (((rd l1 x5_1)).toNat * 4)).off + 1, none⟩ = some (.slice A143_1 ((rd_T38 l0 (rd l1 x5_1)).f1).length c143_1) ∧ w'.cell? ⟨(ad143.add (((rd l1 x5_1)).toNat * 4)).block, (ad143.add (((rd l1 x5_1)).toNat * 4)).off + 2, none⟩ = some (.int .i64 ((rd_T38 l0 (rd l1 x5_1)).f2)) ∧ w'.cell? ⟨(ad143.add (((rd l1 x5_1)).toNat * 4)).block, (ad143.add (((rd l1 x5_1)).toNat * 4)).off + 3, none⟩ = some (.int .i64 ((rd_T38 l0 (rd l1 x5_1)).f3))) (ds := []) #[F4qc,F4qc,F4qc,F4qc,F4qc,F4qc,F4qc,F4qc,F4qc,F4qc,F4qc,F4qc,F4qc,F4qc,F4qc,F4qc,F4qc,F4qc,F4qc,F4qc,F4qc,F4qc,F4qc,F4qc,F4qc,F4qc,F4qc,F4qc,F4qc,F4qc,F4qc,F4qc,F4qc,F4qc] (by kernel_rfl) rfl rfl ⟨(by first | exact ((HB.out.cell (World.block_lt_of_cell? w _ hw137_0)).trans hw137_0) | exact HS0_ | exact hHeld.1 | exact hw137_0), (by first | exact ((HB.out.cell (World.block_lt_of_cell? w _ hw140_0)).trans hw140_0) | exact HS0_ | exact hHeld.1 | exact hw140_0), (by first | exact ((HB.out.cell (World.block_lt_of_cell? w _ hw142_0)).trans hw142_0) | exact HS0_ | exact hHeld.1 | exact hw142_0), (by first | exact ((HB.out.cell (World.block_lt_of_cell? w _ hw143_0)).trans hw143_0) | exact HS0_ | exact hHeld.1 | exact hw143_0), (by first | exact ((HB.out.cell (World.block_lt_of_cell? w _ hw143_1)).trans hw143_1) | exact HS0_ | exact hHeld.1 | exact hw143_1), (by first | exact ((HB.out.cell (World.block_lt_of_cell? w _ hw143_2)).trans hw143_2) | exact HS0_ | exact hHeld.1 | exact hw143_2), (by first | exact ((HB.out.cell (World.block_lt_of_cell? w _ hw143_3)).trans hw143_3) | exact HS0_ | exact hHeld.1 | exact hw143_3)⟩ (fun hHeld => ?_); refine with_tabW spec_isOrder.tab6 spec_isOrder.bits6 (fun HT_ HW_ => ?_)
            generalize wr.drew = w20 at HB HR143_1 hx137_0 hx140_0 hx142_0 hx143_0 hx143_1 hx143_2 hx143_3 hHeld ⊢
            refine pure_ (i := 0) (N := some 17) (v := ?_) (a' := ?_) #[T4qc,F4qc,F4qc,F4qc,F4qc,F4qc,F4qc,F4qc,F4qc,F4qc,F4qc,F4qc,F4qc,F4qc,F4qc,F4qc,F4qc,F4qc,F4qc,F4qc,F4qc,F4qc,F4qc,F4qc,F4qc,F4qc,F4qc,F4qc,F4qc,F4qc,F4qc,F4qc,F4qc,F4qc] rfl rfl (any_of HT_.out (by kernel_rfl)) (fun _ _ _ h => h) (Or.inl ⟨by rfl, ?_⟩) ?_ ?_
            rotate_left
            ·intro w'
             go_simp
             with_reducible rfl
            rotate_left
            ·simp only [Act.put, List.setIfInBounds_toArray, List.set_cons_zero, List.set_cons_succ, i64_w, i32_w]
             rfl
            refine pure_ (i := 1) (N := some 18) (v := ?_) (a' := ?_) #[T4qc,T4qc,F4qc,F4qc,F4qc,F4qc,F4qc,F4qc,F4qc,F4qc,F4qc,F4qc,F4qc,F4qc,F4qc,F4qc,F4qc,F4qc,F4qc,F4qc,F4qc,F4qc,F4qc,F4qc,F4qc,F4qc,F4qc,F4qc,F4qc,F4qc,F4qc,F4qc,F4qc,F4qc] rfl rfl (any_of HT_.out (by kernel_rfl)) (fun _ _ _ h => h) (Or.inl ⟨by rfl, ?_⟩) ?_ ?_
            rotate_left
            ·intro w'
             go_simp
             with_reducible rfl
            rotate_left
            ·simp only [Act.put, List.setIfInBounds_toArray, List.set_cons_zero, List.set_cons_succ, i64_w, i32_w]
             rfl
            refine pure_ (i := 2) (N := some 19) (v := ?_) (a' := ?_) #[T4qc,T4qc,T4qc,F4qc,F4qc,F4qc,F4qc,F4qc,F4qc,F4qc,F4qc,F4qc,F4qc,F4qc,F4qc,F4qc,F4qc,F4qc,F4qc,F4qc,F4qc,F4qc,F4qc,F4qc,F4qc,F4qc,F4qc,F4qc,F4qc,F4qc,F4qc,F4qc,F4qc,F4qc] rfl rfl (any_of HT_.out (by kernel_rfl)) (fun _ _ _ h => h) (Or.inl ⟨by rfl, ?_⟩) ?_ ?_
            rotate_left
            ·intro w'
             go_simp
             with_reducible rfl
            rotate_left
            ·simp only [Act.put, List.setIfInBounds_toArray, List.set_cons_zero, List.set_cons_succ, i64_w, i32_w]
             rfl
            refine pure_ (i := 4) (N := some 21) (v := ?_) (a' := ?_) #[T4qc,T4qc,T4qc,F4qc,T4qc,F4qc,F4qc,F4qc,F4qc,F4qc,F4qc,F4qc,F4qc,F4qc,F4qc,F4qc,F4qc,F4qc,F4qc,F4qc,F4qc,F4qc,F4qc,F4qc,F4qc,F4qc,F4qc,F4qc,F4qc,F4qc,F4qc,F4qc,F4qc,F4qc] rfl rfl (any_of HT_.out (by kernel_rfl)) (fun _ _ _ h => h) (Or.inl ⟨by rfl, ?_⟩) ?_ ?_
            rotate_left
            ·intro w'
             go_simp
             with_reducible rfl
            rotate_left
            ·simp only [Act.put, List.setIfInBounds_toArray, List.set_cons_zero, List.set_cons_succ, i64_w, i32_w]
             rfl
            refine pure_ (i := 5) (N := some 22) (v := ?_) (a' := ?_) #[T4qc,T4qc,T4qc,F4qc,T4qc,T4qc,F4qc,F4qc,F4qc,F4qc,F4qc,F4qc,F4qc,F4qc,F4qc,F4qc,F4qc,F4qc,F4qc,F4qc,F4qc,F4qc,F4qc,F4qc,F4qc,F4qc,F4qc,F4qc,F4qc,F4qc,F4qc,F4qc,F4qc,F4qc] rfl rfl (any_of HT_.out (by kernel_rfl)) (fun _ _ _ h => h) (Or.inl ⟨by rfl, ?_⟩) ?_ ?_
            rotate_left
            ·intro w'
             go_simp
             with_reducible rfl
            rotate_left
            ·simp only [Act.put, List.setIfInBounds_toArray, List.set_cons_zero, List.set_cons_succ, i64_w, i32_w]
             rfl
            refine pure_ (i := 6) (N := some 23) (v := ?_) (a' := ?_) #[T4qc,T4qc,T4qc,F4qc,T4qc,T4qc,T4qc,F4qc,F4qc,F4qc,F4qc,F4qc,F4qc,F4qc,F4qc,F4qc,F4qc,F4qc,F4qc,F4qc,F4qc,F4qc,F4qc,F4qc,F4qc,F4qc,F4qc,F4qc,F4qc,F4qc,F4qc,F4qc,F4qc,F4qc] rfl rfl (any_of HT_.out (by kernel_rfl)) (fun _ _ _ h => h) (Or.inl ⟨by rfl, ?_⟩) ?_ ?_
            rotate_left
            ·intro w'
             go_simp
             with_reducible rfl
            rotate_left
            ·simp only [Act.put, List.setIfInBounds_toArray, List.set_cons_zero, List.set_cons_succ, i64_w, i32_w]
             rfl
            refine take_ (i := 3) (N := some 20) (v := ?_) (a' := ?_) #[T4qc,T4qc,T4qc,T4qc,T4qc,T4qc,T4qc,F4qc,F4qc,F4qc,F4qc,F4qc,F4qc,F4qc,F4qc,F4qc,F4qc,F4qc,F4qc,F4qc,F4qc,F4qc,F4qc,F4qc,F4qc,F4qc,F4qc,F4qc,F4qc,F4qc,F4qc,F4qc,F4qc,F4qc] rfl rfl (take_ofW HT_.out HW_.out (by kernel_rfl)) (fun _ _ _ h => h) (Or.inl ⟨by rfl, ?_⟩) hHeld ?_ ?_
            rotate_left
            ·rintro w' ⟨s0, s1, s2, s3, s4, s5, s6⟩
             go_simp
             with_reducible rfl
            rotate_left
            ·simp only [Act.put, List.setIfInBounds_toArray, List.set_cons_zero, List.set_cons_succ, i64_w, i32_w]
             rfl
            refine one_ (i := 7) (N := some 24) #[T4qc,T4qc,T4qc,T4qc,T4qc,T4qc,T4qc,T4qc,F4qc,F4qc,F4qc,F4qc,F4qc,F4qc,F4qc,F4qc,F4qc,F4qc,F4qc,F4qc,F4qc,F4qc,F4qc,F4qc,F4qc,F4qc,F4qc,F4qc,F4qc,F4qc,F4qc,F4qc,F4qc,F4qc] rfl rfl (one_of HT_.out (by kernel_rfl)) (by decide) (fun K hK => ?_)
            refine goes_ Tryd.func40 (by kernel_rfl) rfl #[.int .i64 (rd l1 x5_1), .int .i64 0, .int .i64 (wrap64 ((l0.length : Int) - 1))] (by rfl) rfl rfl (by (try simp only [List.map_toArray, List.map_cons, List.map_nil]); first | done | rfl | (simp only [List.length_drop, List.length_take]; rfl)) ?_
            with_reducible refine (spec_inRange.calls (rd l1 x5_1) 0 (wrap64 ((l0.length : Int) - 1)) true _ A6.out).mono ?_
            rintro e w' ⟨rfl, ⟨nd, rfl⟩⟩
            refine ⟨_, rfl, ?_⟩
            obtain ⟨i021, hi021, _, hsz21, _⟩ := info_parts info3
            obtain ⟨hcut21, hA21, hC21⟩ := print_take_of (P := Tryd.prog) (Value.int .i64) 0 23 3 .i64 Tryd.underlying23 hi021 hsz21 (some ad137) c1 l1 x5_1 (of_decide_eq_true (by first | (with_reducible assumption) | assumption)) (of_decide_eq_true (by first | (with_reducible assumption) | assumption)) HC1.out
            have HR139 := Aside0.mk (Kd.C_of_reads (h1 := fun _ => rfl) (hA21 _ (Kd.reads_of_C HR1.out)))
            have HC139 := Aside0.mk hC21
            clear hA21 hC21 hi021 hsz21
            refine hK.out _ _ ⟨(by first | exact ((HB.out.cell (World.block_lt_of_cell? w _ hw137_0)).trans hw137_0) | exact HS0_ | exact hHeld.1 | exact hw137_0), (by first | exact ((HB.out.cell (World.block_lt_of_cell? w _ hw140_0)).trans hw140_0) | exact HS0_ | exact hHeld.1 | exact hw140_0), (by first | exact ((HB.out.cell (World.block_lt_of_cell? w _ hw142_0)).trans hw142_0) | exact HS0_ | exact hHeld.1 | exact hw142_0), (by first | exact ((HB.out.cell (World.block_lt_of_cell? w _ hw143_0)).trans hw143_0) | exact HS0_ | exact hHeld.1 | exact hw143_0), (by first | exact ((HB.out.cell (World.block_lt_of_cell? w _ hw143_1)).trans hw143_1) | exact HS0_ | exact hHeld.1 | exact hw143_1), (by first | exact ((HB.out.cell (World.block_lt_of_cell? w _ hw143_2)).trans hw143_2) | exact HS0_ | exact hHeld.1 | exact hw143_2), (by first | exact ((HB.out.cell (World.block_lt_of_cell? w _ hw143_3)).trans hw143_3) | exact HS0_ | exact hHeld.1 | exact hw143_3)⟩ (fun hHeld => ?_)
            clear hK K
            refine norm_ (a' := ?_) ?_ ?_
            rotate_left
            ·show Act.put _ (some 24) _ = _
             simp only [Act.put, List.setIfInBounds_toArray, List.set_cons_zero, List.set_cons_succ, i64_w, i32_w]
             rfl
            refine pure_ (i := 8) (N := some 25) (v := ?_) (a' := ?_) #[T4qc,T4qc,T4qc,T4qc,T4qc,T4qc,T4qc,T4qc,T4qc,F4qc,F4qc,F4qc,F4qc,F4qc,F4qc,F4qc,F4qc,F4qc,F4qc,F4qc,F4qc,F4qc,F4qc,F4qc,F4qc,F4qc,F4qc,F4qc,F4qc,F4qc,F4qc,F4qc,F4qc,F4qc] rfl rfl (any_of HT_.out (by kernel_rfl)) (fun _ _ _ h => h) (Or.inl ⟨by rfl, ?_⟩) ?_ ?_
            rotate_left
            ·intro w'
             go_simp
             with_reducible rfl
            rotate_left
            ·simp only [Act.put, List.setIfInBounds_toArray, List.set_cons_zero, List.set_cons_succ, i64_w, i32_w]
             rfl
            refine pure_ (i := 9) (N := some 26) (v := ?_) (a' := ?_) #[T4qc,T4qc,T4qc,T4qc,T4qc,T4qc,T4qc,T4qc,T4qc,T4qc,F4qc,F4qc,F4qc,F4qc,F4qc,F4qc,F4qc,F4qc,F4qc,F4qc,F4qc,F4qc,F4qc,F4qc,F4qc,F4qc,F4qc,F4qc,F4qc,F4qc,F4qc,F4qc,F4qc,F4qc] rfl rfl (any_of HT_.out (by kernel_rfl)) (fun _ _ _ h => h) (Or.inl ⟨by rfl, ?_⟩) ?_ ?_
            rotate_left
            ·intro w'
             go_simp
             with_reducible rfl
            rotate_left
            ·simp only [Act.put, List.setIfInBounds_toArray, List.set_cons_zero, List.set_cons_succ, i64_w, i32_w]
             rfl
            refine pure_ (i := 10) (N := some 27) (v := ?_) (a' := ?_) #[T4qc,T4qc,T4qc,T4qc,T4qc,T4qc,T4qc,T4qc,T4qc,T4qc,T4qc,F4qc,F4qc,F4qc,F4qc,F4qc,F4qc,F4qc,F4qc,F4qc,F4qc,F4qc,F4qc,F4qc,F4qc,F4qc,F4qc,F4qc,F4qc,F4qc,F4qc,F4qc,F4qc,F4qc] rfl rfl (any_of HT_.out (by kernel_rfl)) (fun _ _ _ h => h) (Or.inl ⟨by rfl, ?_⟩) ?_ ?_
            rotate_left
            ·intro w'
             go_simp
             with_reducible rfl
            rotate_left
            ·simp only [Act.put, List.setIfInBounds_toArray, List.set_cons_zero, List.set_cons_succ, i64_w, i32_w]
             rfl
            refine pure_ (i := 11) (N := some 28) (v := ?_) (a' := ?_) #[T4qc,T4qc,T4qc,T4qc,T4qc,T4qc,T4qc,T4qc,T4qc,T4qc,T4qc,T4qc,F4qc,F4qc,F4qc,F4qc,F4qc,F4qc,F4qc,F4qc,F4qc,F4qc,F4qc,F4qc,F4qc,F4qc,F4qc,F4qc,F4qc,F4qc,F4qc,F4qc,F4qc,F4qc] rfl rfl (any_of HT_.out (by kernel_rfl)) (fun _ _ _ h => h) (Or.inl ⟨by rfl, ?_⟩) ?_ ?_
            rotate_left
            ·intro w'
             go_simp
             with_reducible rfl
            rotate_left
            ·simp only [Act.put, List.setIfInBounds_toArray, List.set_cons_zero, List.set_cons_succ, i64_w, i32_w]
             rfl
            refine pure_ (i := 12) (N := some 29) (v := ?_) (a' := ?_) #[T4qc,T4qc,T4qc,T4qc,T4qc,T4qc,T4qc,T4qc,T4qc,T4qc,T4qc,T4qc,T4qc,F4qc,F4qc,F4qc,F4qc,F4qc,F4qc,F4qc,F4qc,F4qc,F4qc,F4qc,F4qc,F4qc,F4qc,F4qc,F4qc,F4qc,F4qc,F4qc,F4qc,F4qc] rfl rfl (any_of HT_.out (by kernel_rfl)) (fun _ _ _ h => h) (Or.inl ⟨by rfl, ?_⟩) ?_ ?_
            rotate_left
            ·intro w'
             go_simp
             with_reducible rfl
            rotate_left
            ·simp only [Act.put, List.setIfInBounds_toArray, List.set_cons_zero, List.set_cons_succ, i64_w, i32_w]
             rfl
            refine pure_ (i := 13) (N := some 30) (v := ?_) (a' := ?_) #[T4qc,T4qc,T4qc,T4qc,T4qc,T4qc,T4qc,T4qc,T4qc,T4qc,T4qc,T4qc,T4qc,T4qc,F4qc,F4qc,F4qc,F4qc,F4qc,F4qc,F4qc,F4qc,F4qc,F4qc,F4qc,F4qc,F4qc,F4qc,F4qc,F4qc,F4qc,F4qc,F4qc,F4qc] rfl rfl (any_of HT_.out (by kernel_rfl)) (fun _ _ _ h => h) (Or.inl ⟨by rfl, ?_⟩) ?_ ?_
            rotate_left
            ·intro w'
             go_simp
             with_reducible rfl
            rotate_left
            ·simp only [Act.put, List.setIfInBounds_toArray, List.set_cons_zero, List.set_cons_succ, i64_w, i32_w]
             rfl
            refine pure_ (i := 14) (N := some 31) (v := ?_) (a' := ?_) #[T4qc,T4qc,T4qc,T4qc,T4qc,T4qc,T4qc,T4qc,T4qc,T4qc,T4qc,T4qc,T4qc,T4qc,T4qc,F4qc,F4qc,F4qc,F4qc,F4qc,F4qc,F4qc,F4qc,F4qc,F4qc,F4qc,F4qc,F4qc,F4qc,F4qc,F4qc,F4qc,F4qc,F4qc] rfl rfl (any_of HT_.out (by kernel_rfl)) (fun _ _ _ h => h) (Or.inl ⟨by rfl, ?_⟩) ?_ ?_
            rotate_left
            ·intro w'
             go_simp
             with_reducible rfl
            rotate_left
            ·simp only [Act.put, List.setIfInBounds_toArray, List.set_cons_zero, List.set_cons_succ, i64_w, i32_w]
             rfl
            refine pure_ (i := 15) (N := some 32) (v := ?_) (a' := ?_) #[T4qc,T4qc,T4qc,T4qc,T4qc,T4qc,T4qc,T4qc,T4qc,T4qc,T4qc,T4qc,T4qc,T4qc,T4qc,T4qc,F4qc,F4qc,F4qc,F4qc,F4qc,F4qc,F4qc,F4qc,F4qc,F4qc,F4qc,F4qc,F4qc,F4qc,F4qc,F4qc,F4qc,F4qc] rfl rfl (any_of HT_.out (by kernel_rfl)) (fun _ _ _ h => h) (Or.inl ⟨by rfl, ?_⟩) ?_ ?_
            rotate_left
            ·intro w'
             go_simp
             with_reducible rfl
            rotate_left
            ·simp only [Act.put, List.setIfInBounds_toArray, List.set_cons_zero, List.set_cons_succ, i64_w, i32_w]
             rfl
            refine take_ (i := 16) (N := some 33) (v := ?_) (a' := ?_) #[T4qc,T4qc,T4qc,T4qc,T4qc,T4qc,T4qc,T4qc,T4qc,T4qc,T4qc,T4qc,T4qc,T4qc,T4qc,T4qc,T4qc,F4qc,F4qc,F4qc,F4qc,F4qc,F4qc,F4qc,F4qc,F4qc,F4qc,F4qc,F4qc,F4qc,F4qc,F4qc,F4qc,F4qc] rfl rfl (take_ofW HT_.out HW_.out (by kernel_rfl)) (fun _ _ _ h => h) (Or.inl ⟨by rfl, ?_⟩) hHeld ?_ ?_
            rotate_left
            ·rintro w' ⟨s0, s1, s2, s3, s4, s5, s6⟩
             go_simp
             with_reducible rfl
            rotate_left
            ·simp only [Act.put, List.setIfInBounds_toArray, List.set_cons_zero, List.set_cons_succ, i64_w, i32_w]
             rfl
            refine one_ (i := 17) (N := some 34) #[T4qc,T4qc,T4qc,T4qc,T4qc,T4qc,T4qc,T4qc,T4qc,T4qc,T4qc,T4qc,T4qc,T4qc,T4qc,T4qc,T4qc,T4qc,F4qc,F4qc,F4qc,F4qc,F4qc,F4qc,F4qc,F4qc,F4qc,F4qc,F4qc,F4qc,F4qc,F4qc,F4qc,F4qc] rfl rfl (one_of HT_.out (by kernel_rfl)) (by decide) (fun K hK => ?_)
            refine goes_ Tryd.func33 (by kernel_rfl) rfl #[.slice (some ad137) (l1.take (x5_1 : Int).toNat).length c1, .int .i64 (rd l1 x5_1)] (by rfl) rfl rfl (by (try simp only [List.map_toArray, List.map_cons, List.map_nil]); first | done | (rw [show (l1.take (x5_1 : Int).toNat).length = x5_1.toNat from (by rw [List.length_take]; have h_ : (x5_1 : Int) ≤ (l1.length : Int) := of_decide_eq_true (by first | (with_reducible assumption) | assumption); omega)] <;> rfl) | rfl | (simp only [List.length_drop, List.length_take]; rfl)) ?_
            with_reducible refine (spec_isIn.calls k1 _ _ (l1.take (x5_1 : Int).toNat) (rd l1 x5_1) false _ ?side1 ?side2 A10.out).mono ?_
            (case side1 => repeat (first | exact (Kd.C_below HR139.out (by repeat (first | (with_reducible first | exact HB.out | apply below_alloc | apply pw_below_drewN | apply below_drew1) | exact HB.out))) | (with_reducible refine Kd.C_alloc ?_ _) | (with_reducible refine Kd.C_drewN ?_ _) | (with_reducible refine Kd.C_drew ?_)))
            (case side2 => exact HC139.out)
            rintro e w' ⟨rfl, ⟨nd, rfl⟩⟩
            refine ⟨_, rfl, ?_⟩
            obtain ⟨i022, hi022, _, hsz22, _⟩ := info_parts info3
            obtain ⟨hcut22, hA22, hC22⟩ := print_take_of (P := Tryd.prog) (Value.int .i64) 0 23 3 .i64 Tryd.underlying23 hi022 hsz22 (some ad137) c1 l1 x5_1 (of_decide_eq_true (by first | (with_reducible assumption) | assumption)) (of_decide_eq_true (by first | (with_reducible assumption) | assumption)) HC1.out
            have HR144 := Aside0.mk (Kd.C_of_reads (h1 := fun _ => rfl) (hA22 _ (Kd.reads_of_C HR1.out)))
            have HC144 := Aside0.mk hC22
            clear hA22 hC22 hi022 hsz22
            refine hK.out _ _ ⟨(by first | exact ((HB.out.cell (World.block_lt_of_cell? w _ hw137_0)).trans hw137_0) | exact HS0_ | exact hHeld.1 | exact hw137_0), (by first | exact ((HB.out.cell (World.block_lt_of_cell? w _ hw140_0)).trans hw140_0) | exact HS0_ | exact hHeld.1 | exact hw140_0), (by first | exact ((HB.out.cell (World.block_lt_of_cell? w _ hw142_0)).trans hw142_0) | exact HS0_ | exact hHeld.1 | exact hw142_0), (by first | exact ((HB.out.cell (World.block_lt_of_cell? w _ hw143_0)).trans hw143_0) | exact HS0_ | exact hHeld.1 | exact hw143_0), (by first | exact ((HB.out.cell (World.block_lt_of_cell? w _ hw143_1)).trans hw143_1) | exact HS0_ | exact hHeld.1 | exact hw143_1), (by first | exact ((HB.out.cell (World.block_lt_of_cell? w _ hw143_2)).trans hw143_2) | exact HS0_ | exact hHeld.1 | exact hw143_2), (by first | exact ((HB.out.cell (World.block_lt_of_cell? w _ hw143_3)).trans hw143_3) | exact HS0_ | exact hHeld.1 | exact hw143_3)⟩ (fun hHeld => ?_)
            clear hK K
            refine norm_ (a' := ?_) ?_ ?_
            rotate_left
            ·show Act.put _ (some 34) _ = _
             simp only [Act.put, List.setIfInBounds_toArray, List.set_cons_zero, List.set_cons_succ, i64_w, i32_w]
             rfl
            refine pure_ (i := 18) (N := some 35) (v := ?_) (a' := ?_) #[T4qc,T4qc,T4qc,T4qc,T4qc,T4qc,T4qc,T4qc,T4qc,T4qc,T4qc,T4qc,T4qc,T4qc,T4qc,T4qc,T4qc,T4qc,T4qc,F4qc,F4qc,F4qc,F4qc,F4qc,F4qc,F4qc,F4qc,F4qc,F4qc,F4qc,F4qc,F4qc,F4qc,F4qc] rfl rfl (any_of HT_.out (by kernel_rfl)) (fun _ _ _ h => h) (Or.inl ⟨by rfl, ?_⟩) ?_ ?_
            rotate_left
            ·intro w'
             go_simp
             with_reducible rfl
            rotate_left
            ·simp only [Act.put, List.setIfInBounds_toArray, List.set_cons_zero, List.set_cons_succ, i64_w, i32_w]
             rfl
            refine pure_ (i := 19) (N := some 36) (v := ?_) (a' := ?_) #[T4qc,T4qc,T4qc,T4qc,T4qc,T4qc,T4qc,T4qc,T4qc,T4qc,T4qc,T4qc,T4qc,T4qc,T4qc,T4qc,T4qc,T4qc,T4qc,T4qc,F4qc,F4qc,F4qc,F4qc,F4qc,F4qc,F4qc,F4qc,F4qc,F4qc,F4qc,F4qc,F4qc,F4qc] rfl rfl (any_of HT_.out (by kernel_rfl)) (fun _ _ _ h => h) (Or.inl ⟨by rfl, ?_⟩) ?_ ?_
            rotate_left
            ·intro w'
             go_simp
             with_reducible rfl
            rotate_left
            ·simp only [Act.put, List.setIfInBounds_toArray, List.set_cons_zero, List.set_cons_succ, i64_w, i32_w]
             rfl
            refine pure_ (i := 20) (N := some 37) (v := ?_) (a' := ?_) #[T4qc,T4qc,T4qc,T4qc,T4qc,T4qc,T4qc,T4qc,T4qc,T4qc,T4qc,T4qc,T4qc,T4qc,T4qc,T4qc,T4qc,T4qc,T4qc,T4qc,T4qc,F4qc,F4qc,F4qc,F4qc,F4qc,F4qc,F4qc,F4qc,F4qc,F4qc,F4qc,F4qc,F4qc] rfl rfl (any_of HT_.out (by kernel_rfl)) (fun _ _ _ h => h) (Or.inl ⟨by rfl, ?_⟩) ?_ ?_
            rotate_left
            ·intro w'
             go_simp
             with_reducible rfl
            rotate_left
            ·simp only [Act.put, List.setIfInBounds_toArray, List.set_cons_zero, List.set_cons_succ, i64_w, i32_w]
             rfl
            refine pure_ (i := 21) (N := some 38) (v := ?_) (a' := ?_) #[T4qc,T4qc,T4qc,T4qc,T4qc,T4qc,T4qc,T4qc,T4qc,T4qc,T4qc,T4qc,T4qc,T4qc,T4qc,T4qc,T4qc,T4qc,T4qc,T4qc,T4qc,T4qc,F4qc,F4qc,F4qc,F4qc,F4qc,F4qc,F4qc,F4qc,F4qc,F4qc,F4qc,F4qc] rfl rfl (any_of HT_.out (by kernel_rfl)) (fun _ _ _ h => h) (Or.inl ⟨by rfl, ?_⟩) ?_ ?_
            rotate_left
            ·intro w'
             go_simp
             with_reducible rfl
            rotate_left
            ·simp only [Act.put, List.setIfInBounds_toArray, List.set_cons_zero, List.set_cons_succ, i64_w, i32_w]
             rfl
            refine pure_ (i := 22) (N := some 39) (v := ?_) (a' := ?_) #[T4qc,T4qc,T4qc,T4qc,T4qc,T4qc,T4qc,T4qc,T4qc,T4qc,T4qc,T4qc,T4qc,T4qc,T4qc,T4qc,T4qc,T4qc,T4qc,T4qc,T4qc,T4qc,T4qc,F4qc,F4qc,F4qc,F4qc,F4qc,F4qc,F4qc,F4qc,F4qc,F4qc,F4qc] rfl rfl (any_of HT_.out (by kernel_rfl)) (fun _ _ _ h => h) (Or.inl ⟨by rfl, ?_⟩) ?_ ?_
            rotate_left
            ·intro w'
             go_simp
             with_reducible rfl
            rotate_left
            ·simp only [Act.put, List.setIfInBounds_toArray, List.set_cons_zero, List.set_cons_succ, i64_w, i32_w]
             rfl
            refine pure_ (i := 23) (N := some 40) (v := ?_) (a' := ?_) #[T4qc,T4qc,T4qc,T4qc,T4qc,T4qc,T4qc,T4qc,T4qc,T4qc,T4qc,T4qc,T4qc,T4qc,T4qc,T4qc,T4qc,T4qc,T4qc,T4qc,T4qc,T4qc,T4qc,T4qc,F4qc,F4qc,F4qc,F4qc,F4qc,F4qc,F4qc,F4qc,F4qc,F4qc] rfl rfl (any_of HT_.out (by kernel_rfl)) (fun _ _ _ h => h) (Or.inl ⟨by rfl, ?_⟩) ?_ ?_
            rotate_left
            ·intro w'
             go_simp
             with_reducible rfl
            rotate_left
            ·simp only [Act.put, List.setIfInBounds_toArray, List.set_cons_zero, List.set_cons_succ, i64_w, i32_w]
             rfl
            refine pure_ (i := 28) (N := some 45) (v := ?_) (a' := ?_) #[T4qc,T4qc,T4qc,T4qc,T4qc,T4qc,T4qc,T4qc,T4qc,T4qc,T4qc,T4qc,T4qc,T4qc,T4qc,T4qc,T4qc,T4qc,T4qc,T4qc,T4qc,T4qc,T4qc,T4qc,F4qc,F4qc,F4qc,F4qc,T4qc,F4qc,F4qc,F4qc,F4qc,F4qc] rfl rfl (any_of HT_.out (by kernel_rfl)) (fun _ _ _ h => h) (Or.inl ⟨by rfl, ?_⟩) ?_ ?_
            rotate_left
            ·intro w'
             go_simp
             with_reducible rfl
            rotate_left
            ·simp only [Act.put, List.setIfInBounds_toArray, List.set_cons_zero, List.set_cons_succ, i64_w, i32_w]
             rfl
            refine pure_ (i := 29) (N := some 46) (v := ?_) (a' := ?_) #[T4qc,T4qc,T4qc,T4qc,T4qc,T4qc,T4qc,T4qc,T4qc,T4qc,T4qc,T4qc,T4qc,T4qc,T4qc,T4qc,T4qc,T4qc,T4qc,T4qc,T4qc,T4qc,T4qc,T4qc,F4qc,F4qc,F4qc,F4qc,T4qc,T4qc,F4qc,F4qc,F4qc,F4qc] rfl rfl (any_of HT_.out (by kernel_rfl)) (fun _ _ _ h => h) (Or.inl ⟨by rfl, ?_⟩) ?_ ?_
            rotate_left
            ·intro w'
             go_simp
             with_reducible rfl
            rotate_left
            ·simp only [Act.put, List.setIfInBounds_toArray, List.set_cons_zero, List.set_cons_succ, i64_w, i32_w]
             rfl
            refine pure_ (i := 30) (N := some 47) (v := ?_) (a' := ?_) #[T4qc,T4qc,T4qc,T4qc,T4qc,T4qc,T4qc,T4qc,T4qc,T4qc,T4qc,T4qc,T4qc,T4qc,T4qc,T4qc,T4qc,T4qc,T4qc,T4qc,T4qc,T4qc,T4qc,T4qc,F4qc,F4qc,F4qc,F4qc,T4qc,T4qc,T4qc,F4qc,F4qc,F4qc] rfl rfl (any_of HT_.out (by kernel_rfl)) (fun _ _ _ h => h) (Or.inl ⟨by rfl, ?_⟩) ?_ ?_
            rotate_left
            ·intro w'
             go_simp
             with_reducible rfl
            rotate_left
            ·simp only [Act.put, List.setIfInBounds_toArray, List.set_cons_zero, List.set_cons_succ, i64_w, i32_w]
             rfl
            refine take_ (i := 24) (N := some 41) (v := ?_) (a' := ?_) #[T4qc,T4qc,T4qc,T4qc,T4qc,T4qc,T4qc,T4qc,T4qc,T4qc,T4qc,T4qc,T4qc,T4qc,T4qc,T4qc,T4qc,T4qc,T4qc,T4qc,T4qc,T4qc,T4qc,T4qc,T4qc,F4qc,F4qc,F4qc,T4qc,T4qc,T4qc,F4qc,F4qc,F4qc] rfl rfl (take_ofW HT_.out HW_.out (by kernel_rfl)) (fun _ _ _ h => h) (Or.inl ⟨by rfl, ?_⟩) hHeld ?_ ?_
            rotate_left
            ·rintro w' ⟨s0, s1, s2, s3, s4, s5, s6⟩
             go_simp
             with_reducible rfl
            rotate_left
            ·simp only [Act.put, List.setIfInBounds_toArray, List.set_cons_zero, List.set_cons_succ, i64_w, i32_w]
             rfl
            refine pure_ (i := 25) (N := some 42) (v := ?_) (a' := ?_) #[T4qc,T4qc,T4qc,T4qc,T4qc,T4qc,T4qc,T4qc,T4qc,T4qc,T4qc,T4qc,T4qc,T4qc,T4qc,T4qc,T4qc,T4qc,T4qc,T4qc,T4qc,T4qc,T4qc,T4qc,T4qc,T4qc,F4qc,F4qc,T4qc,T4qc,T4qc,F4qc,F4qc,F4qc] rfl rfl (any_of HT_.out (by kernel_rfl)) (fun _ _ _ h => h) (Or.inl ⟨by rfl, ?_⟩) ?_ ?_
            rotate_left
            ·intro w'
             go_simp
             with_reducible rfl
            rotate_left
            ·simp only [Act.put, List.setIfInBounds_toArray, List.set_cons_zero, List.set_cons_succ, i64_w, i32_w]
             rfl
            refine pure_ (i := 26) (N := some 43) (v := ?_) (a' := ?_) #[T4qc,T4qc,T4qc,T4qc,T4qc,T4qc,T4qc,T4qc,T4qc,T4qc,T4qc,T4qc,T4qc,T4qc,T4qc,T4qc,T4qc,T4qc,T4qc,T4qc,T4qc,T4qc,T4qc,T4qc,T4qc,T4qc,T4qc,F4qc,T4qc,T4qc,T4qc,F4qc,F4qc,F4qc] rfl rfl (any_of HT_.out (by kernel_rfl)) (fun _ _ _ h => h) (Or.inl ⟨by rfl, ?_⟩) ?_ ?_
            rotate_left
            ·intro w'
             go_simp
             with_reducible rfl
            rotate_left
            ·simp only [Act.put, List.setIfInBounds_toArray, List.set_cons_zero, List.set_cons_succ, i64_w, i32_w]
             rfl
            refine take_ (i := 27) (N := some 44) (v := ?_) (a' := ?_) #[T4qc,T4qc,T4qc,T4qc,T4qc,T4qc,T4qc,T4qc,T4qc,T4qc,T4qc,T4qc,T4qc,T4qc,T4qc,T4qc,T4qc,T4qc,T4qc,T4qc,T4qc,T4qc,T4qc,T4qc,T4qc,T4qc,T4qc,T4qc,T4qc,T4qc,T4qc,F4qc,F4qc,F4qc] rfl rfl (take_ofW HT_.out HW_.out (by kernel_rfl)) (fun _ _ _ h => h) (Or.inl ⟨by rfl, ?_⟩) hHeld ?_ ?_
            rotate_left
            ·rintro w' ⟨s0, s1, s2, s3, s4, s5, s6⟩
             go_simp
             with_reducible rfl
            rotate_left
            ·simp only [Act.put, List.setIfInBounds_toArray, List.set_cons_zero, List.set_cons_succ, i64_w, i32_w]
             rfl
            refine one_ (i := 31) (N := some 48) #[T4qc,T4qc,T4qc,T4qc,T4qc,T4qc,T4qc,T4qc,T4qc,T4qc,T4qc,T4qc,T4qc,T4qc,T4qc,T4qc,T4qc,T4qc,T4qc,T4qc,T4qc,T4qc,T4qc,T4qc,T4qc,T4qc,T4qc,T4qc,T4qc,T4qc,T4qc,T4qc,F4qc,F4qc] rfl rfl (one_of HT_.out (by kernel_rfl)) (by decide) (fun K hK => ?_)
            refine goes_ Tryd.func34 (by kernel_rfl) rfl #[.slice A143_1 ((rd_T38 l0 (rd l1 x5_1)).f1).length c143_1, .slice (some ad137) (l1.take (x5_1 : Int).toNat).length c1] (by rfl) rfl rfl (by (try simp only [List.map_toArray, List.map_cons, List.map_nil]); first | done | (rw [show (l1.take (x5_1 : Int).toNat).length = x5_1.toNat from (by rw [List.length_take]; have h_ : (x5_1 : Int) ≤ (l1.length : Int) := of_decide_eq_true (by first | (with_reducible assumption) | assumption); omega)] <;> rfl) | rfl | (simp only [List.length_drop, List.length_take]; rfl)) ?_
            with_reducible refine (spec_allDone.calls k1 _ _ ((rd_T38 l0 (rd l1 x5_1)).f1) _ _ (l1.take (x5_1 : Int).toNat) true _ ?side1 ?side2 ?side3 ?side4 A18.out).mono ?_
            (case side1 => repeat (first | exact (Kd.C_below HR143_1.out (by repeat (first | (with_reducible first | exact HB.out | apply below_alloc | apply pw_below_drewN | apply below_drew1) | exact HB.out))) | (with_reducible refine Kd.C_alloc ?_ _) | (with_reducible refine Kd.C_drewN ?_ _) | (with_reducible refine Kd.C_drew ?_)))
            (case side2 => exact HC143_1.out)
            (case side3 => repeat (first | exact (Kd.C_below HR144.out (by repeat (first | (with_reducible first | exact HB.out | apply below_alloc | apply pw_below_drewN | apply below_drew1) | exact HB.out))) | (with_reducible refine Kd.C_alloc ?_ _) | (with_reducible refine Kd.C_drewN ?_ _) | (with_reducible refine Kd.C_drew ?_)))
            (case side4 => exact HC144.out)
            rintro e w' ⟨rfl, ⟨nd, rfl⟩⟩
            refine ⟨_, rfl, ?_⟩
            refine hK.out _ _ ⟨(by first | exact ((HB.out.cell (World.block_lt_of_cell? w _ hw137_0)).trans hw137_0) | exact HS0_ | exact hHeld.1 | exact hw137_0), (by first | exact ((HB.out.cell (World.block_lt_of_cell? w _ hw140_0)).trans hw140_0) | exact HS0_ | exact hHeld.1 | exact hw140_0), (by first | exact ((HB.out.cell (World.block_lt_of_cell? w _ hw142_0)).trans hw142_0) | exact HS0_ | exact hHeld.1 | exact hw142_0), (by first | exact ((HB.out.cell (World.block_lt_of_cell? w _ hw143_0)).trans hw143_0) | exact HS0_ | exact hHeld.1 | exact hw143_0), (by first | exact ((HB.out.cell (World.block_lt_of_cell? w _ hw143_1)).trans hw143_1) | exact HS0_ | exact hHeld.1 | exact hw143_1), (by first | exact ((HB.out.cell (World.block_lt_of_cell? w _ hw143_2)).trans hw143_2) | exact HS0_ | exact hHeld.1 | exact hw143_2), (by first | exact ((HB.out.cell (World.block_lt_of_cell? w _ hw143_3)).trans hw143_3) | exact HS0_ | exact hHeld.1 | exact hw143_3)⟩ (fun hHeld => ?_)
            clear hK K
            refine norm_ (a' := ?_) ?_ ?_
            rotate_left
            ·show Act.put _ (some 48) _ = _
             simp only [Act.put, List.setIfInBounds_toArray, List.set_cons_zero, List.set_cons_succ, i64_w, i32_w]
             rfl
            refine pure_ (i := 32) (N := some 49) (v := ?_) (a' := ?_) #[T4qc,T4qc,T4qc,T4qc,T4qc,T4qc,T4qc,T4qc,T4qc,T4qc,T4qc,T4qc,T4qc,T4qc,T4qc,T4qc,T4qc,T4qc,T4qc,T4qc,T4qc,T4qc,T4qc,T4qc,T4qc,T4qc,T4qc,T4qc,T4qc,T4qc,T4qc,T4qc,T4qc,F4qc] rfl rfl (any_of HT_.out (by kernel_rfl)) (fun _ _ _ h => h) (Or.inl ⟨by rfl, ?_⟩) ?_ ?_
            rotate_left
            ·intro w'
             go_simp
             with_reducible rfl
            rotate_left
            ·simp only [Act.put, List.setIfInBounds_toArray, List.set_cons_zero, List.set_cons_succ, i64_w, i32_w]
             rfl
            refine pure_ (i := 33) (N := some 50) (v := ?_) (a' := ?_) #[T4qc,T4qc,T4qc,T4qc,T4qc,T4qc,T4qc,T4qc,T4qc,T4qc,T4qc,T4qc,T4qc,T4qc,T4qc,T4qc,T4qc,T4qc,T4qc,T4qc,T4qc,T4qc,T4qc,T4qc,T4qc,T4qc,T4qc,T4qc,T4qc,T4qc,T4qc,T4qc,T4qc,T4qc] rfl rfl (any_of HT_.out (by kernel_rfl)) (fun _ _ _ h => h) (Or.inl ⟨by rfl, ?_⟩) ?_ ?_
            rotate_left
            ·intro w'
             go_simp
             with_reducible rfl
            rotate_left
            ·simp only [Act.put, List.setIfInBounds_toArray, List.set_cons_zero, List.set_cons_succ, i64_w, i32_w]
             rfl
            refine done_ (done_of HT_.out (by kernel_rfl)) ?_
            try go_wp2
            go_roundg k1
            case measure => have := HK1.out; omega
            case rel => exact ⟨(wrap64 (x5_1 + 1)), (by first | rfl | (simp; done) | (simp [*]; done)), H', ⟨by have := HK1.out; omega⟩, ⟨by repeat (first | (with_reducible first | exact HB.out | apply below_alloc | apply pw_below_drewN | apply below_drew1) | exact HB.out)⟩⟩
           ·replace c19 := Bool.eq_false_iff.mpr c19
            subst c19
            have H1 : (some false) = some r := by rw [if_neg (show ¬ (false = true) by decide)] at H; exact H
            clear H
            have H := H1
            clear H1
            obtain rfl := Option.some.inj H
            try go_wp2
            have n0_ := Aside0.mk (below_drew1 HB.out)
            clear HB
            have HB := n0_
            clear n0_
            have p137 : 0 ≤ (x5_1 : Int) := of_decide_eq_true (by first | (with_reducible assumption) | assumption)
            have q137 : x5_1 < (l1.length : Int) := of_decide_eq_true (by first | (with_reducible assumption) | assumption)
            obtain ⟨ad137, e137, hx137_0⟩ := Kd.at_int HR1.out x5_1 p137 q137
            have hw137_0 := hx137_0
            cases e137
            (try replace hx137_0 := (HB.out.cell (World.block_lt_of_cell? w _ hx137_0)).trans hx137_0)
            replace p137 := eq_true p137
            replace q137 := eq_true q137
            have p140 : 0 ≤ (x5_1 : Int) := of_decide_eq_true (by first | (with_reducible assumption) | assumption)
            have q140 : x5_1 < (l1.length : Int) := of_decide_eq_true (by first | (with_reducible assumption) | assumption)
            obtain ⟨ad140, e140, hx140_0⟩ := Kd.at_int HR1.out x5_1 p140 q140
            have hw140_0 := hx140_0
            obtain rfl : ad137 = ad140 := (by injection e140)
            (try replace hx140_0 := (HB.out.cell (World.block_lt_of_cell? w _ hx140_0)).trans hx140_0)
            replace p140 := eq_true p140
            replace q140 := eq_true q140
            have p142 : 0 ≤ (x5_1 : Int) := of_decide_eq_true (by first | (with_reducible assumption) | assumption)
            have q142 : x5_1 < (l1.length : Int) := of_decide_eq_true (by first | (with_reducible assumption) | assumption)
            obtain ⟨ad142, e142, hx142_0⟩ := Kd.at_int HR1.out x5_1 p142 q142
            have hw142_0 := hx142_0
            obtain rfl : ad137 = ad142 := (by injection e142)
            (try replace hx142_0 := (HB.out.cell (World.block_lt_of_cell? w _ hx142_0)).trans hx142_0)
            replace p142 := eq_true p142
            replace q142 := eq_true q142
            have p143 : 0 ≤ ((rd l1 x5_1) : Int) := of_decide_eq_true (by first | (with_reducible assumption) | assumption)
            have q143 : (rd l1 x5_1) < (l0.length : Int) := of_decide_eq_true (by first | (with_reducible assumption) | assumption)
            obtain ⟨ad143, A143_1, c143_1, e143, hx143_0, hx143_1, hx143_2, hx143_3, hl143_1, hi143_1⟩ := at_T38 HR0.out (rd l1 x5_1) p143 q143
            have hw143_3 := hx143_3
            have hw143_2 := hx143_2
            have hw143_1 := hx143_1
            have hw143_0 := hx143_0
            cases e143
            (try replace hx143_0 := (HB.out.cell (World.block_lt_of_cell? w _ hx143_0)).trans hx143_0)
            (try replace hx143_1 := (HB.out.cell (World.block_lt_of_cell? w _ hx143_1)).trans hx143_1)
            (try replace hx143_2 := (HB.out.cell (World.block_lt_of_cell? w _ hx143_2)).trans hx143_2)
            (try replace hx143_3 := (HB.out.cell (World.block_lt_of_cell? w _ hx143_3)).trans hx143_3)
            have HR143_1 := Aside0.mk hi143_1
            have HC143_1 := Aside0.mk hl143_1
            clear hi143_1 hl143_1
            replace p143 := eq_true p143
            replace q143 := eq_true q143
            refine start_ (n := 34) (S := fun w' => w'.cell? (ad137.add (x5_1).toNat) = some (.int .i64 (rd l1 x5_1)) ∧ w'.cell? (ad137.add (x5_1).toNat) = some (.int .i64 (rd l1 x5_1)) ∧ w'.cell? (ad137.add (x5_1).toNat) = some (.int .i64 (rd l1 x5_1)) ∧ w'.cell? (ad143.add (((rd l1 x5_1)).toNat * 4)) = some (.int .i64 ((rd_T38 l0 (rd l1 x5_1)).f0)) ∧ w'.cell? ⟨(ad143.add (((rd l1 x5_1)).toNat * 4)).block, (ad143.add (((rd l1 x5_1)).toNat * 4)).off + 1, none⟩ = some (.slice A143_1 ((rd_T38 l0 (rd l1 x5_1)).f1).length c143_1) ∧ w'.cell? ⟨(ad143.add (((rd l1 x5_1)).toNat * 4)).block, (ad143.add (((rd l1 x5_1)).toNat * 4)).off + 2, none⟩ = some (.int .i64 ((rd_T38 l0 (rd l1 x5_1)).f2)) ∧ w'.cell? ⟨(ad143.add (((rd l1 x5_1)).toNat * 4)).block, (ad143.add (((rd l1 x5_1)).toNat * 4)).off + 3, none⟩ = some (.int .i64 ((rd_T38 l0 (rd l1 x5_1)).f3))) (ds := []) #[F4qc,F4qc,F4qc,F4qc,F4qc,F4qc,F4qc,F4qc,F4qc,F4qc,F4qc,F4qc,F4qc,F4qc,F4qc,F4qc,F4qc,F4qc,F4qc,F4qc,F4qc,F4qc,F4qc,F4qc,F4qc,F4qc,F4qc,F4qc,F4qc,F4qc,F4qc,F4qc,F4qc,F4qc] (by kernel_rfl) rfl rfl ⟨(by first | exact ((HB.out.cell (World.block_lt_of_cell? w _ hw137_0)).trans hw137_0) | exact HS0_ | exact hHeld.1 | exact hw137_0), (by first | exact ((HB.out.cell (World.block_lt_of_cell? w _ hw140_0)).trans hw140_0) | exact HS0_ | exact hHeld.1 | exact hw140_0), (by first | exact ((HB.out.cell (World.block_lt_of_cell? w _ hw142_0)).trans hw142_0) | exact HS0_ | exact hHeld.1 | exact hw142_0), (by first | exact ((HB.out.cell (World.block_lt_of_cell? w _ hw143_0)).trans hw143_0) | exact HS0_ | exact hHeld.1 | exact hw143_0), (by first | exact ((HB.out.cell (World.block_lt_of_cell? w _ hw143_1)).trans hw143_1) | exact HS0_ | exact hHeld.1 | exact hw143_1), (by first | exact ((HB.out.cell (World.block_lt_of_cell? w _ hw143_2)).trans hw143_2) | exact HS0_ | exact hHeld.1 | exact hw143_2), (by first | exact ((HB.out.cell (World.block_lt_of_cell? w _ hw143_3)).trans hw143_3) | exact HS0_ | exact hHeld.1 | exact hw143_3)⟩ (fun hHeld => ?_); refine with_tabW spec_isOrder.tab6 spec_isOrder.bits6 (fun HT_ HW_ => ?_)
            generalize wr.drew = w23 at HB HR143_1 hx137_0 hx140_0 hx142_0 hx143_0 hx143_1 hx143_2 hx143_3 hHeld ⊢
            refine pure_ (i := 0) (N := some 17) (v := ?_) (a' := ?_) #[T4qc,F4qc,F4qc,F4qc,F4qc,F4qc,F4qc,F4qc,F4qc,F4qc,F4qc,F4qc,F4qc,F4qc,F4qc,F4qc,F4qc,F4qc,F4qc,F4qc,F4qc,F4qc,F4qc,F4qc,F4qc,F4qc,F4qc,F4qc,F4qc,F4qc,F4qc,F4qc,F4qc,F4qc] rfl rfl (any_of HT_.out (by kernel_rfl)) (fun _ _ _ h => h) (Or.inl ⟨by rfl, ?_⟩) ?_ ?_
            rotate_left
            ·intro w'
             go_simp
             with_reducible rfl
            rotate_left
            ·simp only [Act.put, List.setIfInBounds_toArray, List.set_cons_zero, List.set_cons_succ, i64_w, i32_w]
             rfl
            refine pure_ (i := 1) (N := some 18) (v := ?_) (a' := ?_) #[T4qc,T4qc,F4qc,F4qc,F4qc,F4qc,F4qc,F4qc,F4qc,F4qc,F4qc,F4qc,F4qc,F4qc,F4qc,F4qc,F4qc,F4qc,F4qc,F4qc,F4qc,F4qc,F4qc,F4qc,F4qc,F4qc,F4qc,F4qc,F4qc,F4qc,F4qc,F4qc,F4qc,F4qc] rfl rfl (any_of HT_.out (by kernel_rfl)) (fun _ _ _ h => h) (Or.inl ⟨by rfl, ?_⟩) ?_ ?_
            rotate_left
            ·intro w'
             go_simp
             with_reducible rfl
            rotate_left
            ·simp only [Act.put, List.setIfInBounds_toArray, List.set_cons_zero, List.set_cons_succ, i64_w, i32_w]
             rfl
            refine pure_ (i := 2) (N := some 19) (v := ?_) (a' := ?_) #[T4qc,T4qc,T4qc,F4qc,F4qc,F4qc,F4qc,F4qc,F4qc,F4qc,F4qc,F4qc,F4qc,F4qc,F4qc,F4qc,F4qc,F4qc,F4qc,F4qc,F4qc,F4qc,F4qc,F4qc,F4qc,F4qc,F4qc,F4qc,F4qc,F4qc,F4qc,F4qc,F4qc,F4qc] rfl rfl (any_of HT_.out (by kernel_rfl)) (fun _ _ _ h => h) (Or.inl ⟨by rfl, ?_⟩) ?_ ?_
            rotate_left
            ·intro w'
             go_simp
             with_reducible rfl
            rotate_left
            ·simp only [Act.put, List.setIfInBounds_toArray, List.set_cons_zero, List.set_cons_succ, i64_w, i32_w]
             rfl
            refine pure_ (i := 4) (N := some 21) (v := ?_) (a' := ?_) #[T4qc,T4qc,T4qc,F4qc,T4qc,F4qc,F4qc,F4qc,F4qc,F4qc,F4qc,F4qc,F4qc,F4qc,F4qc,F4qc,F4qc,F4qc,F4qc,F4qc,F4qc,F4qc,F4qc,F4qc,F4qc,F4qc,F4qc,F4qc,F4qc,F4qc,F4qc,F4qc,F4qc,F4qc] rfl rfl (any_of HT_.out (by kernel_rfl)) (fun _ _ _ h => h) (Or.inl ⟨by rfl, ?_⟩) ?_ ?_
            rotate_left
            ·intro w'
             go_simp
             with_reducible rfl
            rotate_left
            ·simp only [Act.put, List.setIfInBounds_toArray, List.set_cons_zero, List.set_cons_succ, i64_w, i32_w]
             rfl
            refine pure_ (i := 5) (N := some 22) (v := ?_) (a' := ?_) #[T4qc,T4qc,T4qc,F4qc,T4qc,T4qc,F4qc,F4qc,F4qc,F4qc,F4qc,F4qc,F4qc,F4qc,F4qc,F4qc,F4qc,F4qc,F4qc,F4qc,F4qc,F4qc,F4qc,F4qc,F4qc,F4qc,F4qc,F4qc,F4qc,F4qc,F4qc,F4qc,F4qc,F4qc] rfl rfl (any_of HT_.out (by kernel_rfl)) (fun _ _ _ h => h) (Or.inl ⟨by rfl, ?_⟩) ?_ ?_
            rotate_left
            ·intro w'
             go_simp
             with_reducible rfl
            rotate_left
            ·simp only [Act.put, List.setIfInBounds_toArray, List.set_cons_zero, List.set_cons_succ, i64_w, i32_w]
             rfl
            refine pure_ (i := 6) (N := some 23) (v := ?_) (a' := ?_) #[T4qc,T4qc,T4qc,F4qc,T4qc,T4qc,T4qc,F4qc,F4qc,F4qc,F4qc,F4qc,F4qc,F4qc,F4qc,F4qc,F4qc,F4qc,F4qc,F4qc,F4qc,F4qc,F4qc,F4qc,F4qc,F4qc,F4qc,F4qc,F4qc,F4qc,F4qc,F4qc,F4qc,F4qc] rfl rfl (any_of HT_.out (by kernel_rfl)) (fun _ _ _ h => h) (Or.inl ⟨by rfl, ?_⟩) ?_ ?_
            rotate_left
            ·intro w'
             go_simp
             with_reducible rfl
            rotate_left
            ·simp only [Act.put, List.setIfInBounds_toArray, List.set_cons_zero, List.set_cons_succ, i64_w, i32_w]
             rfl
            refine take_ (i := 3) (N := some 20) (v := ?_) (a' := ?_) #[T4qc,T4qc,T4qc,T4qc,T4qc,T4qc,T4qc,F4qc,F4qc,F4qc,F4qc,F4qc,F4qc,F4qc,F4qc,F4qc,F4qc,F4qc,F4qc,F4qc,F4qc,F4qc,F4qc,F4qc,F4qc,F4qc,F4qc,F4qc,F4qc,F4qc,F4qc,F4qc,F4qc,F4qc] rfl rfl (take_ofW HT_.out HW_.out (by kernel_rfl)) (fun _ _ _ h => h) (Or.inl ⟨by rfl, ?_⟩) hHeld ?_ ?_
            rotate_left
            ·rintro w' ⟨s0, s1, s2, s3, s4, s5, s6⟩
             go_simp
             with_reducible rfl
            rotate_left
            ·simp only [Act.put, List.setIfInBounds_toArray, List.set_cons_zero, List.set_cons_succ, i64_w, i32_w]
             rfl
            refine one_ (i := 7) (N := some 24) #[T4qc,T4qc,T4qc,T4qc,T4qc,T4qc,T4qc,T4qc,F4qc,F4qc,F4qc,F4qc,F4qc,F4qc,F4qc,F4qc,F4qc,F4qc,F4qc,F4qc,F4qc,F4qc,F4qc,F4qc,F4qc,F4qc,F4qc,F4qc,F4qc,F4qc,F4qc,F4qc,F4qc,F4qc] rfl rfl (one_of HT_.out (by kernel_rfl)) (by decide) (fun K hK => ?_)
            refine goes_ Tryd.func40 (by kernel_rfl) rfl #[.int .i64 (rd l1 x5_1), .int .i64 0, .int .i64 (wrap64 ((l0.length : Int) - 1))] (by rfl) rfl rfl (by (try simp only [List.map_toArray, List.map_cons, List.map_nil]); first | done | rfl | (simp only [List.length_drop, List.length_take]; rfl)) ?_
            with_reducible refine (spec_inRange.calls (rd l1 x5_1) 0 (wrap64 ((l0.length : Int) - 1)) true _ A6.out).mono ?_
            rintro e w' ⟨rfl, ⟨nd, rfl⟩⟩
            refine ⟨_, rfl, ?_⟩
            obtain ⟨i024, hi024, _, hsz24, _⟩ := info_parts info3
            obtain ⟨hcut24, hA24, hC24⟩ := print_take_of (P := Tryd.prog) (Value.int .i64) 0 23 3 .i64 Tryd.underlying23 hi024 hsz24 (some ad137) c1 l1 x5_1 (of_decide_eq_true (by first | (with_reducible assumption) | assumption)) (of_decide_eq_true (by first | (with_reducible assumption) | assumption)) HC1.out
            have HR139 := Aside0.mk (Kd.C_of_reads (h1 := fun _ => rfl) (hA24 _ (Kd.reads_of_C HR1.out)))
            have HC139 := Aside0.mk hC24
            clear hA24 hC24 hi024 hsz24
            refine hK.out _ _ ⟨(by first | exact ((HB.out.cell (World.block_lt_of_cell? w _ hw137_0)).trans hw137_0) | exact HS0_ | exact hHeld.1 | exact hw137_0), (by first | exact ((HB.out.cell (World.block_lt_of_cell? w _ hw140_0)).trans hw140_0) | exact HS0_ | exact hHeld.1 | exact hw140_0), (by first | exact ((HB.out.cell (World.block_lt_of_cell? w _ hw142_0)).trans hw142_0) | exact HS0_ | exact hHeld.1 | exact hw142_0), (by first | exact ((HB.out.cell (World.block_lt_of_cell? w _ hw143_0)).trans hw143_0) | exact HS0_ | exact hHeld.1 | exact hw143_0), (by first | exact ((HB.out.cell (World.block_lt_of_cell? w _ hw143_1)).trans hw143_1) | exact HS0_ | exact hHeld.1 | exact hw143_1), (by first | exact ((HB.out.cell (World.block_lt_of_cell? w _ hw143_2)).trans hw143_2) | exact HS0_ | exact hHeld.1 | exact hw143_2), (by first | exact ((HB.out.cell (World.block_lt_of_cell? w _ hw143_3)).trans hw143_3) | exact HS0_ | exact hHeld.1 | exact hw143_3)⟩ (fun hHeld => ?_)
            clear hK K
            refine norm_ (a' := ?_) ?_ ?_
            rotate_left
            ·show Act.put _ (some 24) _ = _
             simp only [Act.put, List.setIfInBounds_toArray, List.set_cons_zero, List.set_cons_succ, i64_w, i32_w]
             rfl
            refine pure_ (i := 8) (N := some 25) (v := ?_) (a' := ?_) #[T4qc,T4qc,T4qc,T4qc,T4qc,T4qc,T4qc,T4qc,T4qc,F4qc,F4qc,F4qc,F4qc,F4qc,F4qc,F4qc,F4qc,F4qc,F4qc,F4qc,F4qc,F4qc,F4qc,F4qc,F4qc,F4qc,F4qc,F4qc,F4qc,F4qc,F4qc,F4qc,F4qc,F4qc] rfl rfl (any_of HT_.out (by kernel_rfl)) (fun _ _ _ h => h) (Or.inl ⟨by rfl, ?_⟩) ?_ ?_
            rotate_left
            ·intro w'
             go_simp
             with_reducible rfl
            rotate_left
            ·simp only [Act.put, List.setIfInBounds_toArray, List.set_cons_zero, List.set_cons_succ, i64_w, i32_w]
             rfl
            refine pure_ (i := 9) (N := some 26) (v := ?_) (a' := ?_) #[T4qc,T4qc,T4qc,T4qc,T4qc,T4qc,T4qc,T4qc,T4qc,T4qc,F4qc,F4qc,F4qc,F4qc,F4qc,F4qc,F4qc,F4qc,F4qc,F4qc,F4qc,F4qc,F4qc,F4qc,F4qc,F4qc,F4qc,F4qc,F4qc,F4qc,F4qc,F4qc,F4qc,F4qc] rfl rfl (any_of HT_.out (by kernel_rfl)) (fun _ _ _ h => h) (Or.inl ⟨by rfl, ?_⟩) ?_ ?_
            rotate_left
            ·intro w'
             go_simp
             with_reducible rfl
            rotate_left
            ·simp only [Act.put, List.setIfInBounds_toArray, List.set_cons_zero, List.set_cons_succ, i64_w, i32_w]
             rfl
            refine pure_ (i := 10) (N := some 27) (v := ?_) (a' := ?_) #[T4qc,T4qc,T4qc,T4qc,T4qc,T4qc,T4qc,T4qc,T4qc,T4qc,T4qc,F4qc,F4qc,F4qc,F4qc,F4qc,F4qc,F4qc,F4qc,F4qc,F4qc,F4qc,F4qc,F4qc,F4qc,F4qc,F4qc,F4qc,F4qc,F4qc,F4qc,F4qc,F4qc,F4qc] rfl rfl (any_of HT_.out (by kernel_rfl)) (fun _ _ _ h => h) (Or.inl ⟨by rfl, ?_⟩) ?_ ?_
            rotate_left
            ·intro w'
             go_simp
             with_reducible rfl
            rotate_left
            ·simp only [Act.put, List.setIfInBounds_toArray, List.set_cons_zero, List.set_cons_succ, i64_w, i32_w]
             rfl
            refine pure_ (i := 11) (N := some 28) (v := ?_) (a' := ?_) #[T4qc,T4qc,T4qc,T4qc,T4qc,T4qc,T4qc,T4qc,T4qc,T4qc,T4qc,T4qc,F4qc,F4qc,F4qc,F4qc,F4qc,F4qc,F4qc,F4qc,F4qc,F4qc,F4qc,F4qc,F4qc,F4qc,F4qc,F4qc,F4qc,F4qc,F4qc,F4qc,F4qc,F4qc] rfl rfl (any_of HT_.out (by kernel_rfl)) (fun _ _ _ h => h) (Or.inl ⟨by rfl, ?_⟩) ?_ ?_
            rotate_left
            ·intro w'
             go_simp
             with_reducible rfl
            rotate_left
            ·simp only [Act.put, List.setIfInBounds_toArray, List.set_cons_zero, List.set_cons_succ, i64_w, i32_w]
             rfl
            refine pure_ (i := 12) (N := some 29) (v := ?_) (a' := ?_) #[T4qc,T4qc,T4qc,T4qc,T4qc,T4qc,T4qc,T4qc,T4qc,T4qc,T4qc,T4qc,T4qc,F4qc,F4qc,F4qc,F4qc,F4qc,F4qc,F4qc,F4qc,F4qc,F4qc,F4qc,F4qc,F4qc,F4qc,F4qc,F4qc,F4qc,F4qc,F4qc,F4qc,F4qc] rfl rfl (any_of HT_.out (by kernel_rfl)) (fun _ _ _ h => h) (Or.inl ⟨by rfl, ?_⟩) ?_ ?_
            rotate_left
            ·intro w'
             go_simp
             with_reducible rfl
            rotate_left
            ·simp only [Act.put, List.setIfInBounds_toArray, List.set_cons_zero, List.set_cons_succ, i64_w, i32_w]
             rfl
            refine pure_ (i := 13) (N := some 30) (v := ?_) (a' := ?_) #[T4qc,T4qc,T4qc,T4qc,T4qc,T4qc,T4qc,T4qc,T4qc,T4qc,T4qc,T4qc,T4qc,T4qc,F4qc,F4qc,F4qc,F4qc,F4qc,F4qc,F4qc,F4qc,F4qc,F4qc,F4qc,F4qc,F4qc,F4qc,F4qc,F4qc,F4qc,F4qc,F4qc,F4qc] rfl rfl (any_of HT_.out (by kernel_rfl)) (fun _ _ _ h => h) (Or.inl ⟨by rfl, ?_⟩) ?_ ?_
            rotate_left
            ·intro w'
             go_simp
             with_reducible rfl
            rotate_left
            ·simp only [Act.put, List.setIfInBounds_toArray, List.set_cons_zero, List.set_cons_succ, i64_w, i32_w]
             rfl
            refine pure_ (i := 14) (N := some 31) (v := ?_) (a' := ?_) #[T4qc,T4qc,T4qc,T4qc,T4qc,T4qc,T4qc,T4qc,T4qc,T4qc,T4qc,T4qc,T4qc,T4qc,T4qc,F4qc,F4qc,F4qc,F4qc,F4qc,F4qc,F4qc,F4qc,F4qc,F4qc,F4qc,F4qc,F4qc,F4qc,F4qc,F4qc,F4qc,F4qc,F4qc] rfl rfl (any_of HT_.out (by kernel_rfl)) (fun _ _ _ h => h) (Or.inl ⟨by rfl, ?_⟩) ?_ ?_
            rotate_left
            ·intro w'
             go_simp
             with_reducible rfl
            rotate_left
            ·simp only [Act.put, List.setIfInBounds_toArray, List.set_cons_zero, List.set_cons_succ, i64_w, i32_w]
             rfl
            refine pure_ (i := 15) (N := some 32) (v := ?_) (a' := ?_) #[T4qc,T4qc,T4qc,T4qc,T4qc,T4qc,T4qc,T4qc,T4qc,T4qc,T4qc,T4qc,T4qc,T4qc,T4qc,T4qc,F4qc,F4qc,F4qc,F4qc,F4qc,F4qc,F4qc,F4qc,F4qc,F4qc,F4qc,F4qc,F4qc,F4qc,F4qc,F4qc,F4qc,F4qc] rfl rfl (any_of HT_.out (by kernel_rfl)) (fun _ _ _ h => h) (Or.inl ⟨by rfl, ?_⟩) ?_ ?_
            rotate_left
            ·intro w'
             go_simp
             with_reducible rfl
            rotate_left
            ·simp only [Act.put, List.setIfInBounds_toArray, List.set_cons_zero, List.set_cons_succ, i64_w, i32_w]
             rfl
            refine take_ (i := 16) (N := some 33) (v := ?_) (a' := ?_) #[T4qc,T4qc,T4qc,T4qc,T4qc,T4qc,T4qc,T4qc,T4qc,T4qc,T4qc,T4qc,T4qc,T4qc,T4qc,T4qc,T4qc,F4qc,F4qc,F4qc,F4qc,F4qc,F4qc,F4qc,F4qc,F4qc,F4qc,F4qc,F4qc,F4qc,F4qc,F4qc,F4qc,F4qc] rfl rfl (take_ofW HT_.out HW_.out (by kernel_rfl)) (fun _ _ _ h => h) (Or.inl ⟨by rfl, ?_⟩) hHeld ?_ ?_
            rotate_left
            ·rintro w' ⟨s0, s1, s2, s3, s4, s5, s6⟩
             go_simp
             with_reducible rfl
            rotate_left
            ·simp only [Act.put, List.setIfInBounds_toArray, List.set_cons_zero, List.set_cons_succ, i64_w, i32_w]
             rfl
            refine one_ (i := 17) (N := some 34) #[T4qc,T4qc,T4qc,T4qc,T4qc,T4qc,T4qc,T4qc,T4qc,T4qc,T4qc,T4qc,T4qc,T4qc,T4qc,T4qc,T4qc,T4qc,F4qc,F4qc,F4qc,F4qc,F4qc,F4qc,F4qc,F4qc,F4qc,F4qc,F4qc,F4qc,F4qc,F4qc,F4qc,F4qc] rfl rfl (one_of HT_.out (by kernel_rfl)) (by decide) (fun K hK => ?_)
            refine goes_ Tryd.func33 (by kernel_rfl) rfl #[.slice (some ad137) (l1.take (x5_1 : Int).toNat).length c1, .int .i64 (rd l1 x5_1)] (by rfl) rfl rfl (by (try simp only [List.map_toArray, List.map_cons, List.map_nil]); first | done | (rw [show (l1.take (x5_1 : Int).toNat).length = x5_1.toNat from (by rw [List.length_take]; have h_ : (x5_1 : Int) ≤ (l1.length : Int) := of_decide_eq_true (by first | (with_reducible assumption) | assumption); omega)] <;> rfl) | rfl | (simp only [List.length_drop, List.length_take]; rfl)) ?_
            with_reducible refine (spec_isIn.calls k1 _ _ (l1.take (x5_1 : Int).toNat) (rd l1 x5_1) false _ ?side1 ?side2 A10.out).mono ?_
            (case side1 => repeat (first | exact (Kd.C_below HR139.out (by repeat (first | (with_reducible first | exact HB.out | apply below_alloc | apply pw_below_drewN | apply below_drew1) | exact HB.out))) | (with_reducible refine Kd.C_alloc ?_ _) | (with_reducible refine Kd.C_drewN ?_ _) | (with_reducible refine Kd.C_drew ?_)))
            (case side2 => exact HC139.out)
            rintro e w' ⟨rfl, ⟨nd, rfl⟩⟩
            refine ⟨_, rfl, ?_⟩
            obtain ⟨i025, hi025, _, hsz25, _⟩ := info_parts info3
            obtain ⟨hcut25, hA25, hC25⟩ := print_take_of (P := Tryd.prog) (Value.int .i64) 0 23 3 .i64 Tryd.underlying23 hi025 hsz25 (some ad137) c1 l1 x5_1 (of_decide_eq_true (by first | (with_reducible assumption) | assumption)) (of_decide_eq_true (by first | (with_reducible assumption) | assumption)) HC1.out
            have HR144 := Aside0.mk (Kd.C_of_reads (h1 := fun _ => rfl) (hA25 _ (Kd.reads_of_C HR1.out)))
            have HC144 := Aside0.mk hC25
            clear hA25 hC25 hi025 hsz25
            refine hK.out _ _ ⟨(by first | exact ((HB.out.cell (World.block_lt_of_cell? w _ hw137_0)).trans hw137_0) | exact HS0_ | exact hHeld.1 | exact hw137_0), (by first | exact ((HB.out.cell (World.block_lt_of_cell? w _ hw140_0)).trans hw140_0) | exact HS0_ | exact hHeld.1 | exact hw140_0), (by first | exact ((HB.out.cell (World.block_lt_of_cell? w _ hw142_0)).trans hw142_0) | exact HS0_ | exact hHeld.1 | exact hw142_0), (by first | exact ((HB.out.cell (World.block_lt_of_cell? w _ hw143_0)).trans hw143_0) | exact HS0_ | exact hHeld.1 | exact hw143_0), (by first | exact ((HB.out.cell (World.block_lt_of_cell? w _ hw143_1)).trans hw143_1) | exact HS0_ | exact hHeld.1 | exact hw143_1), (by first | exact ((HB.out.cell (World.block_lt_of_cell? w _ hw143_2)).trans hw143_2) | exact HS0_ | exact hHeld.1 | exact hw143_2), (by first | exact ((HB.out.cell (World.block_lt_of_cell? w _ hw143_3)).trans hw143_3) | exact HS0_ | exact hHeld.1 | exact hw143_3)⟩ (fun hHeld => ?_)
            clear hK K
            refine norm_ (a' := ?_) ?_ ?_
            rotate_left
            ·show Act.put _ (some 34) _ = _
             simp only [Act.put, List.setIfInBounds_toArray, List.set_cons_zero, List.set_cons_succ, i64_w, i32_w]
             rfl
            refine pure_ (i := 18) (N := some 35) (v := ?_) (a' := ?_) #[T4qc,T4qc,T4qc,T4qc,T4qc,T4qc,T4qc,T4qc,T4qc,T4qc,T4qc,T4qc,T4qc,T4qc,T4qc,T4qc,T4qc,T4qc,T4qc,F4qc,F4qc,F4qc,F4qc,F4qc,F4qc,F4qc,F4qc,F4qc,F4qc,F4qc,F4qc,F4qc,F4qc,F4qc] rfl rfl (any_of HT_.out (by kernel_rfl)) (fun _ _ _ h => h) (Or.inl ⟨by rfl, ?_⟩) ?_ ?_
            rotate_left
            ·intro w'
             go_simp
             with_reducible rfl
            rotate_left
            ·simp only [Act.put, List.setIfInBounds_toArray, List.set_cons_zero, List.set_cons_succ, i64_w, i32_w]
             rfl
            refine pure_ (i := 19) (N := some 36) (v := ?_) (a' := ?_) #[T4qc,T4qc,T4qc,T4qc,T4qc,T4qc,T4qc,T4qc,T4qc,T4qc,T4qc,T4qc,T4qc,T4qc,T4qc,T4qc,T4qc,T4qc,T4qc,T4qc,F4qc,F4qc,F4qc,F4qc,F4qc,F4qc,F4qc,F4qc,F4qc,F4qc,F4qc,F4qc,F4qc,F4qc] rfl rfl (any_of HT_.out (by kernel_rfl)) (fun _ _ _ h => h) (Or.inl ⟨by rfl, ?_⟩) ?_ ?_
            rotate_left
            ·intro w'
             go_simp
             with_reducible rfl
            rotate_left
            ·simp only [Act.put, List.setIfInBounds_toArray, List.set_cons_zero, List.set_cons_succ, i64_w, i32_w]
             rfl
            refine pure_ (i := 20) (N := some 37) (v := ?_) (a' := ?_) #[T4qc,T4qc,T4qc,T4qc,T4qc,T4qc,T4qc,T4qc,T4qc,T4qc,T4qc,T4qc,T4qc,T4qc,T4qc,T4qc,T4qc,T4qc,T4qc,T4qc,T4qc,F4qc,F4qc,F4qc,F4qc,F4qc,F4qc,F4qc,F4qc,F4qc,F4qc,F4qc,F4qc,F4qc] rfl rfl (any_of HT_.out (by kernel_rfl)) (fun _ _ _ h => h) (Or.inl ⟨by rfl, ?_⟩) ?_ ?_
            rotate_left
            ·intro w'
             go_simp
             with_reducible rfl
            rotate_left
            ·simp only [Act.put, List.setIfInBounds_toArray, List.set_cons_zero, List.set_cons_succ, i64_w, i32_w]
             rfl
            refine pure_ (i := 21) (N := some 38) (v := ?_) (a' := ?_) #[T4qc,T4qc,T4qc,T4qc,T4qc,T4qc,T4qc,T4qc,T4qc,T4qc,T4qc,T4qc,T4qc,T4qc,T4qc,T4qc,T4qc,T4qc,T4qc,T4qc,T4qc,T4qc,F4qc,F4qc,F4qc,F4qc,F4qc,F4qc,F4qc,F4qc,F4qc,F4qc,F4qc,F4qc] rfl rfl (any_of HT_.out (by kernel_rfl)) (fun _ _ _ h => h) (Or.inl ⟨by rfl, ?_⟩) ?_ ?_
            rotate_left
            ·intro w'
             go_simp
             with_reducible rfl
            rotate_left
            ·simp only [Act.put, List.setIfInBounds_toArray, List.set_cons_zero, List.set_cons_succ, i64_w, i32_w]
             rfl
            refine pure_ (i := 22) (N := some 39) (v := ?_) (a' := ?_) #[T4qc,T4qc,T4qc,T4qc,T4qc,T4qc,T4qc,T4qc,T4qc,T4qc,T4qc,T4qc,T4qc,T4qc,T4qc,T4qc,T4qc,T4qc,T4qc,T4qc,T4qc,T4qc,T4qc,F4qc,F4qc,F4qc,F4qc,F4qc,F4qc,F4qc,F4qc,F4qc,F4qc,F4qc] rfl rfl (any_of HT_.out (by kernel_rfl)) (fun _ _ _ h => h) (Or.inl ⟨by rfl, ?_⟩) ?_ ?_
            rotate_left
            ·intro w'
             go_simp
             with_reducible rfl
            rotate_left
            ·simp only [Act.put, List.setIfInBounds_toArray, List.set_cons_zero, List.set_cons_succ, i64_w, i32_w]
             rfl
            refine pure_ (i := 23) (N := some 40) (v := ?_) (a' := ?_) #[T4qc,T4qc,T4qc,T4qc,T4qc,T4qc,T4qc,T4qc,T4qc,T4qc,T4qc,T4qc,T4qc,T4qc,T4qc,T4qc,T4qc,T4qc,T4qc,T4qc,T4qc,T4qc,T4qc,T4qc,F4qc,F4qc,F4qc,F4qc,F4qc,F4qc,F4qc,F4qc,F4qc,F4qc] rfl rfl (any_of HT_.out (by kernel_rfl)) (fun _ _ _ h => h) (Or.inl ⟨by rfl, ?_⟩) ?_ ?_
            rotate_left
            ·intro w'
             go_simp
             with_reducible rfl
            rotate_left
            ·simp only [Act.put, List.setIfInBounds_toArray, List.set_cons_zero, List.set_cons_succ, i64_w, i32_w]
             rfl
            refine pure_ (i := 28) (N := some 45) (v := ?_) (a' := ?_) #[T4qc,T4qc,T4qc,T4qc,T4qc,T4qc,T4qc,T4qc,T4qc,T4qc,T4qc,T4qc,T4qc,T4qc,T4qc,T4qc,T4qc,T4qc,T4qc,T4qc,T4qc,T4qc,T4qc,T4qc,F4qc,F4qc,F4qc,F4qc,T4qc,F4qc,F4qc,F4qc,F4qc,F4qc] rfl rfl (any_of HT_.out (by kernel_rfl)) (fun _ _ _ h => h) (Or.inl ⟨by rfl, ?_⟩) ?_ ?_
            rotate_left
            ·intro w'
             go_simp
             with_reducible rfl
            rotate_left
            ·simp only [Act.put, List.setIfInBounds_toArray, List.set_cons_zero, List.set_cons_succ, i64_w, i32_w]
             rfl
            refine pure_ (i := 29) (N := some 46) (v := ?_) (a' := ?_) #[T4qc,T4qc,T4qc,T4qc,T4qc,T4qc,T4qc,T4qc,T4qc,T4qc,T4qc,T4qc,T4qc,T4qc,T4qc,T4qc,T4qc,T4qc,T4qc,T4qc,T4qc,T4qc,T4qc,T4qc,F4qc,F4qc,F4qc,F4qc,T4qc,T4qc,F4qc,F4qc,F4qc,F4qc] rfl rfl (any_of HT_.out (by kernel_rfl)) (fun _ _ _ h => h) (Or.inl ⟨by rfl, ?_⟩) ?_ ?_
            rotate_left
            ·intro w'
             go_simp
             with_reducible rfl
            rotate_left
            ·simp only [Act.put, List.setIfInBounds_toArray, List.set_cons_zero, List.set_cons_succ, i64_w, i32_w]
             rfl
            refine pure_ (i := 30) (N := some 47) (v := ?_) (a' := ?_) #[T4qc,T4qc,T4qc,T4qc,T4qc,T4qc,T4qc,T4qc,T4qc,T4qc,T4qc,T4qc,T4qc,T4qc,T4qc,T4qc,T4qc,T4qc,T4qc,T4qc,T4qc,T4qc,T4qc,T4qc,F4qc,F4qc,F4qc,F4qc,T4qc,T4qc,T4qc,F4qc,F4qc,F4qc] rfl rfl (any_of HT_.out (by kernel_rfl)) (fun _ _ _ h => h) (Or.inl ⟨by rfl, ?_⟩) ?_ ?_
            rotate_left
            ·intro w'
             go_simp
             with_reducible rfl
            rotate_left
            ·simp only [Act.put, List.setIfInBounds_toArray, List.set_cons_zero, List.set_cons_succ, i64_w, i32_w]
             rfl
            refine take_ (i := 24) (N := some 41) (v := ?_) (a' := ?_) #[T4qc,T4qc,T4qc,T4qc,T4qc,T4qc,T4qc,T4qc,T4qc,T4qc,T4qc,T4qc,T4qc,T4qc,T4qc,T4qc,T4qc,T4qc,T4qc,T4qc,T4qc,T4qc,T4qc,T4qc,T4qc,F4qc,F4qc,F4qc,T4qc,T4qc,T4qc,F4qc,F4qc,F4qc] rfl rfl (take_ofW HT_.out HW_.out (by kernel_rfl)) (fun _ _ _ h => h) (Or.inl ⟨by rfl, ?_⟩) hHeld ?_ ?_
            rotate_left
            ·rintro w' ⟨s0, s1, s2, s3, s4, s5, s6⟩
             go_simp
             with_reducible rfl
            rotate_left
            ·simp only [Act.put, List.setIfInBounds_toArray, List.set_cons_zero, List.set_cons_succ, i64_w, i32_w]
             rfl
            refine pure_ (i := 25) (N := some 42) (v := ?_) (a' := ?_) #[T4qc,T4qc,T4qc,T4qc,T4qc,T4qc,T4qc,T4qc,T4qc,T4qc,T4qc,T4qc,T4qc,T4qc,T4qc,T4qc,T4qc,T4qc,T4qc,T4qc,T4qc,T4qc,T4qc,T4qc,T4qc,T4qc,F4qc,F4qc,T4qc,T4qc,T4qc,F4qc,F4qc,F4qc] rfl rfl (any_of HT_.out (by kernel_rfl)) (fun _ _ _ h => h) (Or.inl ⟨by rfl, ?_⟩) ?_ ?_
            rotate_left
            ·intro w'
             go_simp
             with_reducible rfl
            rotate_left
            ·simp only [Act.put, List.setIfInBounds_toArray, List.set_cons_zero, List.set_cons_succ, i64_w, i32_w]
             rfl
            refine pure_ (i := 26) (N := some 43) (v := ?_) (a' := ?_) #[T4qc,T4qc,T4qc,T4qc,T4qc,T4qc,T4qc,T4qc,T4qc,T4qc,T4qc,T4qc,T4qc,T4qc,T4qc,T4qc,T4qc,T4qc,T4qc,T4qc,T4qc,T4qc,T4qc,T4qc,T4qc,T4qc,T4qc,F4qc,T4qc,T4qc,T4qc,F4qc,F4qc,F4qc] rfl rfl (any_of HT_.out (by kernel_rfl)) (fun _ _ _ h => h) (Or.inl ⟨by rfl, ?_⟩) ?_ ?_
            rotate_left
            ·intro w'
             go_simp
             with_reducible rfl
            rotate_left
            ·simp only [Act.put, List.setIfInBounds_toArray, List.set_cons_zero, List.set_cons_succ, i64_w, i32_w]
             rfl
            refine take_ (i := 27) (N := some 44) (v := ?_) (a' := ?_) #[T4qc,T4qc,T4qc,T4qc,T4qc,T4qc,T4qc,T4qc,T4qc,T4qc,T4qc,T4qc,T4qc,T4qc,T4qc,T4qc,T4qc,T4qc,T4qc,T4qc,T4qc,T4qc,T4qc,T4qc,T4qc,T4qc,T4qc,T4qc,T4qc,T4qc,T4qc,F4qc,F4qc,F4qc] rfl rfl (take_ofW HT_.out HW_.out (by kernel_rfl)) (fun _ _ _ h => h) (Or.inl ⟨by rfl, ?_⟩) hHeld ?_ ?_
            rotate_left
            ·rintro w' ⟨s0, s1, s2, s3, s4, s5, s6⟩
             go_simp
             with_reducible rfl
            rotate_left
            ·simp only [Act.put, List.setIfInBounds_toArray, List.set_cons_zero, List.set_cons_succ, i64_w, i32_w]
             rfl
            refine one_ (i := 31) (N := some 48) #[T4qc,T4qc,T4qc,T4qc,T4qc,T4qc,T4qc,T4qc,T4qc,T4qc,T4qc,T4qc,T4qc,T4qc,T4qc,T4qc,T4qc,T4qc,T4qc,T4qc,T4qc,T4qc,T4qc,T4qc,T4qc,T4qc,T4qc,T4qc,T4qc,T4qc,T4qc,T4qc,F4qc,F4qc] rfl rfl (one_of HT_.out (by kernel_rfl)) (by decide) (fun K hK => ?_)
            refine goes_ Tryd.func34 (by kernel_rfl) rfl #[.slice A143_1 ((rd_T38 l0 (rd l1 x5_1)).f1).length c143_1, .slice (some ad137) (l1.take (x5_1 : Int).toNat).length c1] (by rfl) rfl rfl (by (try simp only [List.map_toArray, List.map_cons, List.map_nil]); first | done | (rw [show (l1.take (x5_1 : Int).toNat).length = x5_1.toNat from (by rw [List.length_take]; have h_ : (x5_1 : Int) ≤ (l1.length : Int) := of_decide_eq_true (by first | (with_reducible assumption) | assumption); omega)] <;> rfl) | rfl | (simp only [List.length_drop, List.length_take]; rfl)) ?_
            with_reducible refine (spec_allDone.calls k1 _ _ ((rd_T38 l0 (rd l1 x5_1)).f1) _ _ (l1.take (x5_1 : Int).toNat) false _ ?side1 ?side2 ?side3 ?side4 A18.out).mono ?_
            (case side1 => repeat (first | exact (Kd.C_below HR143_1.out (by repeat (first | (with_reducible first | exact HB.out | apply below_alloc | apply pw_below_drewN | apply below_drew1) | exact HB.out))) | (with_reducible refine Kd.C_alloc ?_ _) | (with_reducible refine Kd.C_drewN ?_ _) | (with_reducible refine Kd.C_drew ?_)))
            (case side2 => exact HC143_1.out)
            (case side3 => repeat (first | exact (Kd.C_below HR144.out (by repeat (first | (with_reducible first | exact HB.out | apply below_alloc | apply pw_below_drewN | apply below_drew1) | exact HB.out))) | (with_reducible refine Kd.C_alloc ?_ _) | (with_reducible refine Kd.C_drewN ?_ _) | (with_reducible refine Kd.C_drew ?_)))
            (case side4 => exact HC144.out)
            rintro e w' ⟨rfl, ⟨nd, rfl⟩⟩
            refine ⟨_, rfl, ?_⟩
            refine hK.out _ _ ⟨(by first | exact ((HB.out.cell (World.block_lt_of_cell? w _ hw137_0)).trans hw137_0) | exact HS0_ | exact hHeld.1 | exact hw137_0), (by first | exact ((HB.out.cell (World.block_lt_of_cell? w _ hw140_0)).trans hw140_0) | exact HS0_ | exact hHeld.1 | exact hw140_0), (by first | exact ((HB.out.cell (World.block_lt_of_cell? w _ hw142_0)).trans hw142_0) | exact HS0_ | exact hHeld.1 | exact hw142_0), (by first | exact ((HB.out.cell (World.block_lt_of_cell? w _ hw143_0)).trans hw143_0) | exact HS0_ | exact hHeld.1 | exact hw143_0), (by first | exact ((HB.out.cell (World.block_lt_of_cell? w _ hw143_1)).trans hw143_1) | exact HS0_ | exact hHeld.1 | exact hw143_1), (by first | exact ((HB.out.cell (World.block_lt_of_cell? w _ hw143_2)).trans hw143_2) | exact HS0_ | exact hHeld.1 | exact hw143_2), (by first | exact ((HB.out.cell (World.block_lt_of_cell? w _ hw143_3)).trans hw143_3) | exact HS0_ | exact hHeld.1 | exact hw143_3)⟩ (fun hHeld => ?_)
            clear hK K
            refine norm_ (a' := ?_) ?_ ?_
            rotate_left
            ·show Act.put _ (some 48) _ = _
             simp only [Act.put, List.setIfInBounds_toArray, List.set_cons_zero, List.set_cons_succ, i64_w, i32_w]
             rfl
            refine pure_ (i := 32) (N := some 49) (v := ?_) (a' := ?_) #[T4qc,T4qc,T4qc,T4qc,T4qc,T4qc,T4qc,T4qc,T4qc,T4qc,T4qc,T4qc,T4qc,T4qc,T4qc,T4qc,T4qc,T4qc,T4qc,T4qc,T4qc,T4qc,T4qc,T4qc,T4qc,T4qc,T4qc,T4qc,T4qc,T4qc,T4qc,T4qc,T4qc,F4qc] rfl rfl (any_of HT_.out (by kernel_rfl)) (fun _ _ _ h => h) (Or.inl ⟨by rfl, ?_⟩) ?_ ?_
            rotate_left
            ·intro w'
             go_simp
             with_reducible rfl
            rotate_left
            ·simp only [Act.put, List.setIfInBounds_toArray, List.set_cons_zero, List.set_cons_succ, i64_w, i32_w]
             rfl
            refine pure_ (i := 33) (N := some 50) (v := ?_) (a' := ?_) #[T4qc,T4qc,T4qc,T4qc,T4qc,T4qc,T4qc,T4qc,T4qc,T4qc,T4qc,T4qc,T4qc,T4qc,T4qc,T4qc,T4qc,T4qc,T4qc,T4qc,T4qc,T4qc,T4qc,T4qc,T4qc,T4qc,T4qc,T4qc,T4qc,T4qc,T4qc,T4qc,T4qc,T4qc] rfl rfl (any_of HT_.out (by kernel_rfl)) (fun _ _ _ h => h) (Or.inl ⟨by rfl, ?_⟩) ?_ ?_
            rotate_left
            ·intro w'
             go_simp
             with_reducible rfl
            rotate_left
            ·simp only [Act.put, List.setIfInBounds_toArray, List.set_cons_zero, List.set_cons_succ, i64_w, i32_w]
             rfl
            refine done_ (done_of HT_.out (by kernel_rfl)) ?_
            try go_wp2
            go_ret
            exact ⟨by first | rfl | (simp [errW_none, errW_some] <;> rfl) | (simp [*, errW_none, errW_some] <;> rfl), by repeat (first | (with_reducible first | exact HB.out | apply below_alloc | apply pw_below_drewN | apply below_drew1) | exact HB.out)⟩
          ·rw [if_neg c15] at H
           exact absurd H (by simp)
         ·rw [if_neg c14] at H
          exact absurd H (by simp)
       ·rw [if_neg c9] at H
        exact absurd H (by simp)
      ·replace c7 := Bool.eq_false_iff.mpr c7
       subst c7
       have H1 : (some false) = some r := by rw [if_neg (show ¬ (false = true) by decide)] at H; exact H
       clear H
       have H := H1
       clear H1
       obtain rfl := Option.some.inj H
       try go_wp2
       have n0_ := Aside0.mk (below_drew1 HB.out)
       clear HB
       have HB := n0_
       clear n0_
       have p137 : 0 ≤ (x5_1 : Int) := of_decide_eq_true (by first | (with_reducible assumption) | assumption)
       have q137 : x5_1 < (l1.length : Int) := of_decide_eq_true (by first | (with_reducible assumption) | assumption)
       obtain ⟨ad137, e137, hx137_0⟩ := Kd.at_int HR1.out x5_1 p137 q137
       have hw137_0 := hx137_0
       cases e137
       (try replace hx137_0 := (HB.out.cell (World.block_lt_of_cell? w _ hx137_0)).trans hx137_0)
       replace p137 := eq_true p137
       replace q137 := eq_true q137
       refine start_ (n := 34) (S := fun w' => w'.cell? (ad137.add (x5_1).toNat) = some (.int .i64 (rd l1 x5_1))) (ds := []) #[F4qc,F4qc,F4qc,F4qc,F4qc,F4qc,F4qc,F4qc,F4qc,F4qc,F4qc,F4qc,F4qc,F4qc,F4qc,F4qc,F4qc,F4qc,F4qc,F4qc,F4qc,F4qc,F4qc,F4qc,F4qc,F4qc,F4qc,F4qc,F4qc,F4qc,F4qc,F4qc,F4qc,F4qc] (by kernel_rfl) rfl rfl ((by first | exact ((HB.out.cell (World.block_lt_of_cell? w _ hw137_0)).trans hw137_0) | exact HS0_ | exact hHeld.1 | exact hw137_0)) (fun hHeld => ?_); refine with_tabW spec_isOrder.tab6 spec_isOrder.bits6 (fun HT_ HW_ => ?_)
       generalize wr.drew = w26 at HB hx137_0 hHeld ⊢
       refine pure_ (i := 0) (N := some 17) (v := ?_) (a' := ?_) #[T4qc,F4qc,F4qc,F4qc,F4qc,F4qc,F4qc,F4qc,F4qc,F4qc,F4qc,F4qc,F4qc,F4qc,F4qc,F4qc,F4qc,F4qc,F4qc,F4qc,F4qc,F4qc,F4qc,F4qc,F4qc,F4qc,F4qc,F4qc,F4qc,F4qc,F4qc,F4qc,F4qc,F4qc] rfl rfl (any_of HT_.out (by kernel_rfl)) (fun _ _ _ h => h) (Or.inl ⟨by rfl, ?_⟩) ?_ ?_
       rotate_left
       ·intro w'
        go_simp
        with_reducible rfl
       rotate_left
       ·simp only [Act.put, List.setIfInBounds_toArray, List.set_cons_zero, List.set_cons_succ, i64_w, i32_w]
        rfl
       refine pure_ (i := 1) (N := some 18) (v := ?_) (a' := ?_) #[T4qc,T4qc,F4qc,F4qc,F4qc,F4qc,F4qc,F4qc,F4qc,F4qc,F4qc,F4qc,F4qc,F4qc,F4qc,F4qc,F4qc,F4qc,F4qc,F4qc,F4qc,F4qc,F4qc,F4qc,F4qc,F4qc,F4qc,F4qc,F4qc,F4qc,F4qc,F4qc,F4qc,F4qc] rfl rfl (any_of HT_.out (by kernel_rfl)) (fun _ _ _ h => h) (Or.inl ⟨by rfl, ?_⟩) ?_ ?_
       rotate_left
       ·intro w'
        go_simp
        with_reducible rfl
       rotate_left
       ·simp only [Act.put, List.setIfInBounds_toArray, List.set_cons_zero, List.set_cons_succ, i64_w, i32_w]
        rfl
       refine pure_ (i := 2) (N := some 19) (v := ?_) (a' := ?_) #[T4qc,T4qc,T4qc,F4qc,F4qc,F4qc,F4qc,F4qc,F4qc,F4qc,F4qc,F4qc,F4qc,F4qc,F4qc,F4qc,F4qc,F4qc,F4qc,F4qc,F4qc,F4qc,F4qc,F4qc,F4qc,F4qc,F4qc,F4qc,F4qc,F4qc,F4qc,F4qc,F4qc,F4qc] rfl rfl (any_of HT_.out (by kernel_rfl)) (fun _ _ _ h => h) (Or.inl ⟨by rfl, ?_⟩) ?_ ?_
       rotate_left
       ·intro w'
        go_simp
        with_reducible rfl
       rotate_left
       ·simp only [Act.put, List.setIfInBounds_toArray, List.set_cons_zero, List.set_cons_succ, i64_w, i32_w]
        rfl
       refine pure_ (i := 4) (N := some 21) (v := ?_) (a' := ?_) #[T4qc,T4qc,T4qc,F4qc,T4qc,F4qc,F4qc,F4qc,F4qc,F4qc,F4qc,F4qc,F4qc,F4qc,F4qc,F4qc,F4qc,F4qc,F4qc,F4qc,F4qc,F4qc,F4qc,F4qc,F4qc,F4qc,F4qc,F4qc,F4qc,F4qc,F4qc,F4qc,F4qc,F4qc] rfl rfl (any_of HT_.out (by kernel_rfl)) (fun _ _ _ h => h) (Or.inl ⟨by rfl, ?_⟩) ?_ ?_
       rotate_left
       ·intro w'
        go_simp
        with_reducible rfl
       rotate_left
       ·simp only [Act.put, List.setIfInBounds_toArray, List.set_cons_zero, List.set_cons_succ, i64_w, i32_w]
        rfl
       refine pure_ (i := 5) (N := some 22) (v := ?_) (a' := ?_) #[T4qc,T4qc,T4qc,F4qc,T4qc,T4qc,F4qc,F4qc,F4qc,F4qc,F4qc,F4qc,F4qc,F4qc,F4qc,F4qc,F4qc,F4qc,F4qc,F4qc,F4qc,F4qc,F4qc,F4qc,F4qc,F4qc,F4qc,F4qc,F4qc,F4qc,F4qc,F4qc,F4qc,F4qc] rfl rfl (any_of HT_.out (by kernel_rfl)) (fun _ _ _ h => h) (Or.inl ⟨by rfl, ?_⟩) ?_ ?_
       rotate_left
       ·intro w'
        go_simp
        with_reducible rfl
       rotate_left
       ·simp only [Act.put, List.setIfInBounds_toArray, List.set_cons_zero, List.set_cons_succ, i64_w, i32_w]
        rfl
       refine pure_ (i := 6) (N := some 23) (v := ?_) (a' := ?_) #[T4qc,T4qc,T4qc,F4qc,T4qc,T4qc,T4qc,F4qc,F4qc,F4qc,F4qc,F4qc,F4qc,F4qc,F4qc,F4qc,F4qc,F4qc,F4qc,F4qc,F4qc,F4qc,F4qc,F4qc,F4qc,F4qc,F4qc,F4qc,F4qc,F4qc,F4qc,F4qc,F4qc,F4qc] rfl rfl (any_of HT_.out (by kernel_rfl)) (fun _ _ _ h => h) (Or.inl ⟨by rfl, ?_⟩) ?_ ?_
       rotate_left
       ·intro w'
        go_simp
        with_reducible rfl
       rotate_left
       ·simp only [Act.put, List.setIfInBounds_toArray, List.set_cons_zero, List.set_cons_succ, i64_w, i32_w]
        rfl
       refine take_ (i := 3) (N := some 20) (v := ?_) (a' := ?_) #[T4qc,T4qc,T4qc,T4qc,T4qc,T4qc,T4qc,F4qc,F4qc,F4qc,F4qc,F4qc,F4qc,F4qc,F4qc,F4qc,F4qc,F4qc,F4qc,F4qc,F4qc,F4qc,F4qc,F4qc,F4qc,F4qc,F4qc,F4qc,F4qc,F4qc,F4qc,F4qc,F4qc,F4qc] rfl rfl (take_ofW HT_.out HW_.out (by kernel_rfl)) (fun _ _ _ h => h) (Or.inl ⟨by rfl, ?_⟩) hHeld ?_ ?_
       rotate_left
       ·intro w' s0
        go_simp
        with_reducible rfl
       rotate_left
       ·simp only [Act.put, List.setIfInBounds_toArray, List.set_cons_zero, List.set_cons_succ, i64_w, i32_w]
        rfl
       refine one_ (i := 7) (N := some 24) #[T4qc,T4qc,T4qc,T4qc,T4qc,T4qc,T4qc,T4qc,F4qc,F4qc,F4qc,F4qc,F4qc,F4qc,F4qc,F4qc,F4qc,F4qc,F4qc,F4qc,F4qc,F4qc,F4qc,F4qc,F4qc,F4qc,F4qc,F4qc,F4qc,F4qc,F4qc,F4qc,F4qc,F4qc] rfl rfl (one_of HT_.out (by kernel_rfl)) (by decide) (fun K hK => ?_)
       refine goes_ Tryd.func40 (by kernel_rfl) rfl #[.int .i64 (rd l1 x5_1), .int .i64 0, .int .i64 (wrap64 ((l0.length : Int) - 1))] (by rfl) rfl rfl (by (try simp only [List.map_toArray, List.map_cons, List.map_nil]); first | done | rfl | (simp only [List.length_drop, List.length_take]; rfl)) ?_
       with_reducible refine (spec_inRange.calls (rd l1 x5_1) 0 (wrap64 ((l0.length : Int) - 1)) false _ A6.out).mono ?_
       rintro e w' ⟨rfl, ⟨nd, rfl⟩⟩
       refine ⟨_, rfl, ?_⟩
       refine hK.out _ _ ((by first | exact ((HB.out.cell (World.block_lt_of_cell? w _ hw137_0)).trans hw137_0) | exact HS0_ | exact hHeld.1 | exact hw137_0)) (fun hHeld => ?_)
       clear hK K
       refine norm_ (a' := ?_) ?_ ?_
       rotate_left
       ·show Act.put _ (some 24) _ = _
        simp only [Act.put, List.setIfInBounds_toArray, List.set_cons_zero, List.set_cons_succ, i64_w, i32_w]
        rfl
       refine pure_ (i := 8) (N := some 25) (v := ?_) (a' := ?_) #[T4qc,T4qc,T4qc,T4qc,T4qc,T4qc,T4qc,T4qc,T4qc,F4qc,F4qc,F4qc,F4qc,F4qc,F4qc,F4qc,F4qc,F4qc,F4qc,F4qc,F4qc,F4qc,F4qc,F4qc,F4qc,F4qc,F4qc,F4qc,F4qc,F4qc,F4qc,F4qc,F4qc,F4qc] rfl rfl (any_of HT_.out (by kernel_rfl)) (fun _ _ _ h => h) (Or.inl ⟨by rfl, ?_⟩) ?_ ?_
       rotate_left
       ·intro w'
        go_simp
        with_reducible rfl
       rotate_left
       ·simp only [Act.put, List.setIfInBounds_toArray, List.set_cons_zero, List.set_cons_succ, i64_w, i32_w]
        rfl
       refine pure_ (i := 9) (N := some 26) (v := ?_) (a' := ?_) #[T4qc,T4qc,T4qc,T4qc,T4qc,T4qc,T4qc,T4qc,T4qc,T4qc,F4qc,F4qc,F4qc,F4qc,F4qc,F4qc,F4qc,F4qc,F4qc,F4qc,F4qc,F4qc,F4qc,F4qc,F4qc,F4qc,F4qc,F4qc,F4qc,F4qc,F4qc,F4qc,F4qc,F4qc] rfl rfl (any_of HT_.out (by kernel_rfl)) (fun _ _ _ h => h) (Or.inl ⟨by rfl, ?_⟩) ?_ ?_
       rotate_left
       ·intro w'
        go_simp
        with_reducible rfl
       rotate_left
       ·simp only [Act.put, List.setIfInBounds_toArray, List.set_cons_zero, List.set_cons_succ, i64_w, i32_w]
        rfl
       refine pure_ (i := 10) (N := some 27) (v := undef) (a' := ?_) #[T4qc,T4qc,T4qc,T4qc,T4qc,T4qc,T4qc,T4qc,T4qc,T4qc,T4qc,F4qc,F4qc,F4qc,F4qc,F4qc,F4qc,F4qc,F4qc,F4qc,F4qc,F4qc,F4qc,F4qc,F4qc,F4qc,F4qc,F4qc,F4qc,F4qc,F4qc,F4qc,F4qc,F4qc] rfl rfl (any_of HT_.out (by kernel_rfl)) (fun _ _ _ h => h) (Or.inr ⟨by rfl, rfl⟩) ?_ ?_
       rotate_left
       ·simp only [Act.put, List.setIfInBounds_toArray, List.set_cons_zero, List.set_cons_succ, i64_w, i32_w]
        rfl
       refine pure_ (i := 11) (N := some 28) (v := undef) (a' := ?_) #[T4qc,T4qc,T4qc,T4qc,T4qc,T4qc,T4qc,T4qc,T4qc,T4qc,T4qc,T4qc,F4qc,F4qc,F4qc,F4qc,F4qc,F4qc,F4qc,F4qc,F4qc,F4qc,F4qc,F4qc,F4qc,F4qc,F4qc,F4qc,F4qc,F4qc,F4qc,F4qc,F4qc,F4qc] rfl rfl (any_of HT_.out (by kernel_rfl)) (fun _ _ _ h => h) (Or.inr ⟨by rfl, rfl⟩) ?_ ?_
       rotate_left
       ·simp only [Act.put, List.setIfInBounds_toArray, List.set_cons_zero, List.set_cons_succ, i64_w, i32_w]
        rfl
       refine pure_ (i := 12) (N := some 29) (v := undef) (a' := ?_) #[T4qc,T4qc,T4qc,T4qc,T4qc,T4qc,T4qc,T4qc,T4qc,T4qc,T4qc,T4qc,T4qc,F4qc,F4qc,F4qc,F4qc,F4qc,F4qc,F4qc,F4qc,F4qc,F4qc,F4qc,F4qc,F4qc,F4qc,F4qc,F4qc,F4qc,F4qc,F4qc,F4qc,F4qc] rfl rfl (any_of HT_.out (by kernel_rfl)) (fun _ _ _ h => h) (Or.inr ⟨by rfl, rfl⟩) ?_ ?_
       rotate_left
       ·simp only [Act.put, List.setIfInBounds_toArray, List.set_cons_zero, List.set_cons_succ, i64_w, i32_w]
        rfl
       refine pure_ (i := 13) (N := some 30) (v := undef) (a' := ?_) #[T4qc,T4qc,T4qc,T4qc,T4qc,T4qc,T4qc,T4qc,T4qc,T4qc,T4qc,T4qc,T4qc,T4qc,F4qc,F4qc,F4qc,F4qc,F4qc,F4qc,F4qc,F4qc,F4qc,F4qc,F4qc,F4qc,F4qc,F4qc,F4qc,F4qc,F4qc,F4qc,F4qc,F4qc] rfl rfl (any_of HT_.out (by kernel_rfl)) (fun _ _ _ h => h) (Or.inr ⟨by rfl, rfl⟩) ?_ ?_
       rotate_left
       ·simp only [Act.put, List.setIfInBounds_toArray, List.set_cons_zero, List.set_cons_succ, i64_w, i32_w]
        rfl
       refine pure_ (i := 14) (N := some 31) (v := undef) (a' := ?_) #[T4qc,T4qc,T4qc,T4qc,T4qc,T4qc,T4qc,T4qc,T4qc,T4qc,T4qc,T4qc,T4qc,T4qc,T4qc,F4qc,F4qc,F4qc,F4qc,F4qc,F4qc,F4qc,F4qc,F4qc,F4qc,F4qc,F4qc,F4qc,F4qc,F4qc,F4qc,F4qc,F4qc,F4qc] rfl rfl (any_of HT_.out (by kernel_rfl)) (fun _ _ _ h => h) (Or.inr ⟨by rfl, rfl⟩) ?_ ?_
       rotate_left
       ·simp only [Act.put, List.setIfInBounds_toArray, List.set_cons_zero, List.set_cons_succ, i64_w, i32_w]
        rfl
       refine pure_ (i := 15) (N := some 32) (v := undef) (a' := ?_) #[T4qc,T4qc,T4qc,T4qc,T4qc,T4qc,T4qc,T4qc,T4qc,T4qc,T4qc,T4qc,T4qc,T4qc,T4qc,T4qc,F4qc,F4qc,F4qc,F4qc,F4qc,F4qc,F4qc,F4qc,F4qc,F4qc,F4qc,F4qc,F4qc,F4qc,F4qc,F4qc,F4qc,F4qc] rfl rfl (any_of HT_.out (by kernel_rfl)) (fun _ _ _ h => h) (Or.inr ⟨by rfl, rfl⟩) ?_ ?_
       rotate_left
       ·simp only [Act.put, List.setIfInBounds_toArray, List.set_cons_zero, List.set_cons_succ, i64_w, i32_w]
        rfl
       refine pure_ (i := 16) (N := some 33) (v := undef) (a' := ?_) #[T4qc,T4qc,T4qc,T4qc,T4qc,T4qc,T4qc,T4qc,T4qc,T4qc,T4qc,T4qc,T4qc,T4qc,T4qc,T4qc,T4qc,F4qc,F4qc,F4qc,F4qc,F4qc,F4qc,F4qc,F4qc,F4qc,F4qc,F4qc,F4qc,F4qc,F4qc,F4qc,F4qc,F4qc] rfl rfl (any_of HT_.out (by kernel_rfl)) (fun _ _ _ h => h) (Or.inr ⟨by rfl, rfl⟩) ?_ ?_
       rotate_left
       ·simp only [Act.put, List.setIfInBounds_toArray, List.set_cons_zero, List.set_cons_succ, i64_w, i32_w]
        rfl
       refine pure_ (i := 17) (N := some 34) (v := undef) (a' := ?_) #[T4qc,T4qc,T4qc,T4qc,T4qc,T4qc,T4qc,T4qc,T4qc,T4qc,T4qc,T4qc,T4qc,T4qc,T4qc,T4qc,T4qc,T4qc,F4qc,F4qc,F4qc,F4qc,F4qc,F4qc,F4qc,F4qc,F4qc,F4qc,F4qc,F4qc,F4qc,F4qc,F4qc,F4qc] rfl rfl (any_of HT_.out (by kernel_rfl)) (fun _ _ _ h => h) (Or.inr ⟨by rfl, rfl⟩) ?_ ?_
       rotate_left
       ·simp only [Act.put, List.setIfInBounds_toArray, List.set_cons_zero, List.set_cons_succ, i64_w, i32_w]
        rfl
       refine pure_ (i := 18) (N := some 35) (v := ?_) (a' := ?_) #[T4qc,T4qc,T4qc,T4qc,T4qc,T4qc,T4qc,T4qc,T4qc,T4qc,T4qc,T4qc,T4qc,T4qc,T4qc,T4qc,T4qc,T4qc,T4qc,F4qc,F4qc,F4qc,F4qc,F4qc,F4qc,F4qc,F4qc,F4qc,F4qc,F4qc,F4qc,F4qc,F4qc,F4qc] rfl rfl (any_of HT_.out (by kernel_rfl)) (fun _ _ _ h => h) (Or.inl ⟨by rfl, ?_⟩) ?_ ?_
       rotate_left
       ·intro w'
        go_simp
        with_reducible rfl
       rotate_left
       ·simp only [Act.put, List.setIfInBounds_toArray, List.set_cons_zero, List.set_cons_succ, i64_w, i32_w]
        rfl
       refine pure_ (i := 19) (N := some 36) (v := ?_) (a' := ?_) #[T4qc,T4qc,T4qc,T4qc,T4qc,T4qc,T4qc,T4qc,T4qc,T4qc,T4qc,T4qc,T4qc,T4qc,T4qc,T4qc,T4qc,T4qc,T4qc,T4qc,F4qc,F4qc,F4qc,F4qc,F4qc,F4qc,F4qc,F4qc,F4qc,F4qc,F4qc,F4qc,F4qc,F4qc] rfl rfl (any_of HT_.out (by kernel_rfl)) (fun _ _ _ h => h) (Or.inl ⟨by rfl, ?_⟩) ?_ ?_
       rotate_left
       ·intro w'
        go_simp
        with_reducible rfl
       rotate_left
       ·simp only [Act.put, List.setIfInBounds_toArray, List.set_cons_zero, List.set_cons_succ, i64_w, i32_w]
        rfl
       refine pure_ (i := 20) (N := some 37) (v := undef) (a' := ?_) #[T4qc,T4qc,T4qc,T4qc,T4qc,T4qc,T4qc,T4qc,T4qc,T4qc,T4qc,T4qc,T4qc,T4qc,T4qc,T4qc,T4qc,T4qc,T4qc,T4qc,T4qc,F4qc,F4qc,F4qc,F4qc,F4qc,F4qc,F4qc,F4qc,F4qc,F4qc,F4qc,F4qc,F4qc] rfl rfl (any_of HT_.out (by kernel_rfl)) (fun _ _ _ h => h) (Or.inr ⟨by rfl, rfl⟩) ?_ ?_
       rotate_left
       ·simp only [Act.put, List.setIfInBounds_toArray, List.set_cons_zero, List.set_cons_succ, i64_w, i32_w]
        rfl
       refine pure_ (i := 21) (N := some 38) (v := undef) (a' := ?_) #[T4qc,T4qc,T4qc,T4qc,T4qc,T4qc,T4qc,T4qc,T4qc,T4qc,T4qc,T4qc,T4qc,T4qc,T4qc,T4qc,T4qc,T4qc,T4qc,T4qc,T4qc,T4qc,F4qc,F4qc,F4qc,F4qc,F4qc,F4qc,F4qc,F4qc,F4qc,F4qc,F4qc,F4qc] rfl rfl (any_of HT_.out (by kernel_rfl)) (fun _ _ _ h => h) (Or.inr ⟨by rfl, rfl⟩) ?_ ?_
       rotate_left
       ·simp only [Act.put, List.setIfInBounds_toArray, List.set_cons_zero, List.set_cons_succ, i64_w, i32_w]
        rfl
       refine pure_ (i := 22) (N := some 39) (v := undef) (a' := ?_) #[T4qc,T4qc,T4qc,T4qc,T4qc,T4qc,T4qc,T4qc,T4qc,T4qc,T4qc,T4qc,T4qc,T4qc,T4qc,T4qc,T4qc,T4qc,T4qc,T4qc,T4qc,T4qc,T4qc,F4qc,F4qc,F4qc,F4qc,F4qc,F4qc,F4qc,F4qc,F4qc,F4qc,F4qc] rfl rfl (any_of HT_.out (by kernel_rfl)) (fun _ _ _ h => h) (Or.inr ⟨by rfl, rfl⟩) ?_ ?_
       rotate_left
       ·simp only [Act.put, List.setIfInBounds_toArray, List.set_cons_zero, List.set_cons_succ, i64_w, i32_w]
        rfl
       refine pure_ (i := 23) (N := some 40) (v := undef) (a' := ?_) #[T4qc,T4qc,T4qc,T4qc,T4qc,T4qc,T4qc,T4qc,T4qc,T4qc,T4qc,T4qc,T4qc,T4qc,T4qc,T4qc,T4qc,T4qc,T4qc,T4qc,T4qc,T4qc,T4qc,T4qc,F4qc,F4qc,F4qc,F4qc,F4qc,F4qc,F4qc,F4qc,F4qc,F4qc] rfl rfl (any_of HT_.out (by kernel_rfl)) (fun _ _ _ h => h) (Or.inr ⟨by rfl, rfl⟩) ?_ ?_
       rotate_left
       ·simp only [Act.put, List.setIfInBounds_toArray, List.set_cons_zero, List.set_cons_succ, i64_w, i32_w]
        rfl
       refine pure_ (i := 24) (N := some 41) (v := undef) (a' := ?_) #[T4qc,T4qc,T4qc,T4qc,T4qc,T4qc,T4qc,T4qc,T4qc,T4qc,T4qc,T4qc,T4qc,T4qc,T4qc,T4qc,T4qc,T4qc,T4qc,T4qc,T4qc,T4qc,T4qc,T4qc,T4qc,F4qc,F4qc,F4qc,F4qc,F4qc,F4qc,F4qc,F4qc,F4qc] rfl rfl (any_of HT_.out (by kernel_rfl)) (fun _ _ _ h => h) (Or.inr ⟨by rfl, rfl⟩) ?_ ?_
       rotate_left
       ·simp only [Act.put, List.setIfInBounds_toArray, List.set_cons_zero, List.set_cons_succ, i64_w, i32_w]
        rfl
       refine pure_ (i := 25) (N := some 42) (v := undef) (a' := ?_) #[T4qc,T4qc,T4qc,T4qc,T4qc,T4qc,T4qc,T4qc,T4qc,T4qc,T4qc,T4qc,T4qc,T4qc,T4qc,T4qc,T4qc,T4qc,T4qc,T4qc,T4qc,T4qc,T4qc,T4qc,T4qc,T4qc,F4qc,F4qc,F4qc,F4qc,F4qc,F4qc,F4qc,F4qc] rfl rfl (any_of HT_.out (by kernel_rfl)) (fun _ _ _ h => h) (Or.inr ⟨by rfl, rfl⟩) ?_ ?_
       rotate_left
       ·simp only [Act.put, List.setIfInBounds_toArray, List.set_cons_zero, List.set_cons_succ, i64_w, i32_w]
        rfl
       refine pure_ (i := 26) (N := some 43) (v := undef) (a' := ?_) #[T4qc,T4qc,T4qc,T4qc,T4qc,T4qc,T4qc,T4qc,T4qc,T4qc,T4qc,T4qc,T4qc,T4qc,T4qc,T4qc,T4qc,T4qc,T4qc,T4qc,T4qc,T4qc,T4qc,T4qc,T4qc,T4qc,T4qc,F4qc,F4qc,F4qc,F4qc,F4qc,F4qc,F4qc] rfl rfl (any_of HT_.out (by kernel_rfl)) (fun _ _ _ h => h) (Or.inr ⟨by rfl, rfl⟩) ?_ ?_
       rotate_left
       ·simp only [Act.put, List.setIfInBounds_toArray, List.set_cons_zero, List.set_cons_succ, i64_w, i32_w]
        rfl
       refine pure_ (i := 27) (N := some 44) (v := undef) (a' := ?_) #[T4qc,T4qc,T4qc,T4qc,T4qc,T4qc,T4qc,T4qc,T4qc,T4qc,T4qc,T4qc,T4qc,T4qc,T4qc,T4qc,T4qc,T4qc,T4qc,T4qc,T4qc,T4qc,T4qc,T4qc,T4qc,T4qc,T4qc,T4qc,F4qc,F4qc,F4qc,F4qc,F4qc,F4qc] rfl rfl (any_of HT_.out (by kernel_rfl)) (fun _ _ _ h => h) (Or.inr ⟨by rfl, rfl⟩) ?_ ?_
       rotate_left
       ·simp only [Act.put, List.setIfInBounds_toArray, List.set_cons_zero, List.set_cons_succ, i64_w, i32_w]
        rfl
       refine pure_ (i := 28) (N := some 45) (v := undef) (a' := ?_) #[T4qc,T4qc,T4qc,T4qc,T4qc,T4qc,T4qc,T4qc,T4qc,T4qc,T4qc,T4qc,T4qc,T4qc,T4qc,T4qc,T4qc,T4qc,T4qc,T4qc,T4qc,T4qc,T4qc,T4qc,T4qc,T4qc,T4qc,T4qc,T4qc,F4qc,F4qc,F4qc,F4qc,F4qc] rfl rfl (any_of HT_.out (by kernel_rfl)) (fun _ _ _ h => h) (Or.inr ⟨by rfl, rfl⟩) ?_ ?_
       rotate_left
       ·simp only [Act.put, List.setIfInBounds_toArray, List.set_cons_zero, List.set_cons_succ, i64_w, i32_w]
        rfl
       refine pure_ (i := 29) (N := some 46) (v := undef) (a' := ?_) #[T4qc,T4qc,T4qc,T4qc,T4qc,T4qc,T4qc,T4qc,T4qc,T4qc,T4qc,T4qc,T4qc,T4qc,T4qc,T4qc,T4qc,T4qc,T4qc,T4qc,T4qc,T4qc,T4qc,T4qc,T4qc,T4qc,T4qc,T4qc,T4qc,T4qc,F4qc,F4qc,F4qc,F4qc] rfl rfl (any_of HT_.out (by kernel_rfl)) (fun _ _ _ h => h) (Or.inr ⟨by rfl, rfl⟩) ?_ ?_
       rotate_left
       ·simp only [Act.put, List.setIfInBounds_toArray, List.set_cons_zero, List.set_cons_succ, i64_w, i32_w]
        rfl
       refine pure_ (i := 30) (N := some 47) (v := undef) (a' := ?_) #[T4qc,T4qc,T4qc,T4qc,T4qc,T4qc,T4qc,T4qc,T4qc,T4qc,T4qc,T4qc,T4qc,T4qc,T4qc,T4qc,T4qc,T4qc,T4qc,T4qc,T4qc,T4qc,T4qc,T4qc,T4qc,T4qc,T4qc,T4qc,T4qc,T4qc,T4qc,F4qc,F4qc,F4qc] rfl rfl (any_of HT_.out (by kernel_rfl)) (fun _ _ _ h => h) (Or.inr ⟨by rfl, rfl⟩) ?_ ?_
       rotate_left
       ·simp only [Act.put, List.setIfInBounds_toArray, List.set_cons_zero, List.set_cons_succ, i64_w, i32_w]
        rfl
       refine pure_ (i := 31) (N := some 48) (v := undef) (a' := ?_) #[T4qc,T4qc,T4qc,T4qc,T4qc,T4qc,T4qc,T4qc,T4qc,T4qc,T4qc,T4qc,T4qc,T4qc,T4qc,T4qc,T4qc,T4qc,T4qc,T4qc,T4qc,T4qc,T4qc,T4qc,T4qc,T4qc,T4qc,T4qc,T4qc,T4qc,T4qc,T4qc,F4qc,F4qc] rfl rfl (any_of HT_.out (by kernel_rfl)) (fun _ _ _ h => h) (Or.inr ⟨by rfl, rfl⟩) ?_ ?_
       rotate_left
       ·simp only [Act.put, List.setIfInBounds_toArray, List.set_cons_zero, List.set_cons_succ, i64_w, i32_w]
        rfl
       refine pure_ (i := 32) (N := some 49) (v := undef) (a' := ?_) #[T4qc,T4qc,T4qc,T4qc,T4qc,T4qc,T4qc,T4qc,T4qc,T4qc,T4qc,T4qc,T4qc,T4qc,T4qc,T4qc,T4qc,T4qc,T4qc,T4qc,T4qc,T4qc,T4qc,T4qc,T4qc,T4qc,T4qc,T4qc,T4qc,T4qc,T4qc,T4qc,T4qc,F4qc] rfl rfl (any_of HT_.out (by kernel_rfl)) (fun _ _ _ h => h) (Or.inr ⟨by rfl, rfl⟩) ?_ ?_
       rotate_left
       ·simp only [Act.put, List.setIfInBounds_toArray, List.set_cons_zero, List.set_cons_succ, i64_w, i32_w]
        rfl
       refine pure_ (i := 33) (N := some 50) (v := ?_) (a' := ?_) #[T4qc,T4qc,T4qc,T4qc,T4qc,T4qc,T4qc,T4qc,T4qc,T4qc,T4qc,T4qc,T4qc,T4qc,T4qc,T4qc,T4qc,T4qc,T4qc,T4qc,T4qc,T4qc,T4qc,T4qc,T4qc,T4qc,T4qc,T4qc,T4qc,T4qc,T4qc,T4qc,T4qc,T4qc] rfl rfl (any_of HT_.out (by kernel_rfl)) (fun _ _ _ h => h) (Or.inl ⟨by rfl, ?_⟩) ?_ ?_
       rotate_left
       ·intro w'
        go_simp
        with_reducible rfl
       rotate_left
       ·simp only [Act.put, List.setIfInBounds_toArray, List.set_cons_zero, List.set_cons_succ, i64_w, i32_w]
        rfl
       refine done_ (done_of HT_.out (by kernel_rfl)) ?_
       try go_wp2
       go_ret
       exact ⟨by first | rfl | (simp [errW_none, errW_some] <;> rfl) | (simp [*, errW_none, errW_some] <;> rfl), by repeat (first | (with_reducible first | exact HB.out | apply below_alloc | apply pw_below_drewN | apply below_drew1) | exact HB.out)⟩
     ·rw [if_neg c5] at H
      exact absurd H (by simp)
    ·rw [if_neg c4] at H
     have c4b0 : decide (x5_1 < (l1.length : Int)) = false := decide_eq_false c4
     clear c4
     obtain rfl := Option.some.inj H
     go_wp2
     go_ret
     exact ⟨by first | rfl | (simp [errW_none, errW_some] <;> rfl) | (simp [*, errW_none, errW_some] <;> rfl), by repeat (first | (with_reducible first | exact HB.out | apply below_alloc | apply pw_below_drewN | apply below_drew1) | exact HB.out)⟩
 ·rw [if_neg c3] at H
  have c3b0 : ((l1.length : Int) == (l0.length : Int)) = false := beq_eq_false_iff_ne.mpr c3
  have c3b1 : ((l1.length : Int) != (l0.length : Int)) = true := bne_iff_ne.mpr c3
  have c3b2 : (l1.length == l0.length) = false := by first | simpa using c3 | (simp at c3 ⊢; omega)
  obtain rfl := Option.some.inj H
  go_enter Tryd.func19, Tryd.ntmps19
  go_wp2
  go_ret
  exact ⟨by first | rfl | (simp [errW_none, errW_some] <;> rfl) | (simp [*, errW_none, errW_some] <;> rfl), by repeat (first | (with_reducible first | exact HB.out | apply below_alloc | apply pw_below_drewN | apply below_drew1) | exact HB.out)⟩
end Go.Proofs.YtnhkajanbfgbiaaDoor.P
end
section
namespace Go.Proofs.YtnhkajanbfgbiaaDoor.P
open Go.RowKit Go.Proofs.YtnhkajanbfgbiaaDoorW.PrintWords Go.Proofs.YtnhkajanbfgbiaaDoorW.PrintLast Go.Proofs.YtnhkajanbfgbiaaDoorW.PrintMore
attribute [local go_sem] max2_int min2_int max_two min_two max_three min_three max_four min_four   -- for this text's walks alone
set_option linter.unusedVariables false
set_option linter.unusedSimpArgs false
def spec_validSearch.f (k : Nat) (l0 : List (S38)) (l1 : List Int) (a2 : Int) : Option (Bool) := (spec_validGraph.f k l0).bind fun t134 => (if t134 = true then (if (l0.length : Int) ≤ 5 then ((spec_validRoom.f k l1).bind fun t135 => (if t135 = true then ((spec_inRange.f a2 1 4).bind fun t136 => (some t136)) else (some false))) else (some false)) else (some false))
theorem spec_validSearch.mono : ∀ a0 a1 a2 k, LeO (spec_validSearch.f k a0 a1 a2) (spec_validSearch.f (k + 1) a0 a1 a2) := by
 intro a0 a1 a2 k
 unfold spec_validSearch.f
 repeat' first
   | (with_reducible exact spec_validGraph.mono _ _)
   | (with_reducible exact spec_validRoom.mono _ _)
   | (with_reducible exact LeO.refl _)
   | (with_reducible exact LeO.none _)
   | (with_reducible refine LeO.ite ?_ ?_)
   | (with_reducible refine LeO.bind ?_ (fun _ => ?_))
   | exact spec_validGraph.mono _ _
   | exact spec_validRoom.mono _ _
   | exact LeO.none _
   | refine LeO.ite ?_ ?_
   | refine LeO.bind ?_ (fun _ => ?_)
set_option maxHeartbeats 8000000 in
set_option maxRecDepth 100000 in
theorem spec_validSearch.calls (k : Nat) (A0 : Option Addr) (c0 : Nat) (l0 : List (S38)) (A1 : Option Addr) (c1 : Nat) (l1 : List Int) (a2 : Int) (r : Bool) (w : World) (hr0 : Kd.C k38 w A0 l0.length l0) (hc0 : l0.length ≤ c0) (hr1 : Kd.C (Kd.int .i64) w A1 l1.length l1) (hc1 : l1.length ≤ c1) (h : spec_validSearch.f k l0 l1 a2 = some r) :
  Calls Tryd.prog 18 #[.slice A0 l0.length c0, .slice A1 l1.length c1, .int .i64 a2] w fun e w' => e = .returned (.bool r) ∧ Below w.heap.size w w' := by
 have HR0 := Aside0.mk hr0
 have HC0 := Aside0.mk hc0
 clear hr0 hc0
 have HR1 := Aside0.mk hr1
 have HC1 := Aside0.mk hc1
 clear hr1 hc1
 have HB := Aside0.mk (Below.refl w.heap.size w)
 have H : ((spec_validGraph.f k l0).bind fun t134 => (if t134 = true then (if (l0.length : Int) ≤ 5 then ((spec_validRoom.f k l1).bind fun t135 => (if t135 = true then ((spec_inRange.f a2 1 4).bind fun t136 => (some t136)) else (some false))) else (some false)) else (some false))) = some r := h
 clear h
 replace H := Option.bind_eq_some_iff.mp H
 obtain ⟨t134, A40, H⟩ := H
 replace H : (if t134 = true then (if (l0.length : Int) ≤ 5 then ((spec_validRoom.f k l1).bind fun t135 => (if t135 = true then ((spec_inRange.f a2 1 4).bind fun t136 => (some t136)) else (some false))) else (some false)) else (some false)) = some r := H
 have A4 := Aside0.mk A40
 clear A40
 by_cases c5 : t134 = true
 ·subst c5
  have H1 : (if (l0.length : Int) ≤ 5 then ((spec_validRoom.f k l1).bind fun t135 => (if t135 = true then ((spec_inRange.f a2 1 4).bind fun t136 => (some t136)) else (some false))) else (some false)) = some r := by rw [if_pos rfl] at H; exact H
  clear H
  have H := H1
  clear H1
  by_cases c6 : (l0.length : Int) ≤ 5
  ·rw [if_pos c6] at H
   have c6b0 : decide ((l0.length : Int) ≤ 5) = true := decide_eq_true c6
   have c6b1 : decide (l0.length ≤ 5) = true := decide_eq_true (by omega)
   clear c6
   replace H := Option.bind_eq_some_iff.mp H
   obtain ⟨t135, A70, H⟩ := H
   replace H : (if t135 = true then ((spec_inRange.f a2 1 4).bind fun t136 => (some t136)) else (some false)) = some r := H
   have A7 := Aside0.mk A70
   clear A70
   by_cases c8 : t135 = true
   ·subst c8
    have H1 : ((spec_inRange.f a2 1 4).bind fun t136 => (some t136)) = some r := by rw [if_pos rfl] at H; exact H
    clear H
    have H := H1
    clear H1
    replace H := Option.bind_eq_some_iff.mp H
    obtain ⟨t136, A90, H⟩ := H
    replace H : (some t136) = some r := H
    have A9 := Aside0.mk A90
    clear A90
    obtain rfl := Option.some.inj H
    go_enter Tryd.func18, Tryd.ntmps18
    go_wp2_with (first | ((with_reducible refine gate_callee (f := 38) rfl ?_); refine goesL_ (some 8) rfl rfl Tryd.func38 (by kernel_rfl) rfl #[.slice A0 l0.length c0] rfl (by (try simp only [List.map_toArray, List.map_cons, List.map_nil]); first | done | rfl | (simp only [List.length_drop, List.length_take]; rfl)) ?_; (with_reducible refine (spec_validGraph.calls k _ _ l0 true _ ?side1 ?side2 A4.out).mono ?_); (case side1 => repeat (first | exact HR0.out | (with_reducible refine Kd.C_alloc ?_ _) | (with_reducible refine Kd.C_drewN ?_ _) | (with_reducible refine Kd.C_drew ?_))); (case side2 => exact HC0.out); rintro e w10 ⟨rfl, hb⟩; refine ⟨_, rfl, ?_⟩; have n0_ := Aside0.mk (below_step (by repeat (first | (with_reducible first | exact HB.out | apply below_alloc | apply pw_below_drewN | apply below_drew1) | exact HB.out)) hb); clear HB; have HB := n0_; clear n0_; (try clear hb); (try clear hb2); (try clear hk); (try clear hi)) | (go_at_call 39; (with_reducible refine (spec_validRoom.calls k _ _ l1 true _ ?side1 ?side2 A7.out).mono ?_); (case side1 => repeat (first | exact (Kd.C_below HR1.out HB.out) | (with_reducible refine Kd.C_alloc ?_ _) | (with_reducible refine Kd.C_drewN ?_ _) | (with_reducible refine Kd.C_drew ?_))); (case side2 => exact HC1.out); rintro e w' ⟨rfl, ⟨nd, rfl⟩⟩) | (go_at_call 40; (with_reducible refine (spec_inRange.calls a2 1 4 t136 _ A9.out).mono ?_); rintro e w' ⟨rfl, ⟨nd, rfl⟩⟩))
    go_ret
    exact ⟨by first | rfl | (simp [errW_none, errW_some] <;> rfl) | (simp [*, errW_none, errW_some] <;> rfl), by repeat (first | (with_reducible first | exact HB.out | apply below_alloc | apply pw_below_drewN | apply below_drew1) | exact HB.out)⟩
   ·replace c8 := Bool.eq_false_iff.mpr c8
    subst c8
    have H1 : (some false) = some r := by rw [if_neg (show ¬ (false = true) by decide)] at H; exact H
    clear H
    have H := H1
    clear H1
    obtain rfl := Option.some.inj H
    go_enter Tryd.func18, Tryd.ntmps18
    go_wp2_with (first | ((with_reducible refine gate_callee (f := 38) rfl ?_); refine goesL_ (some 8) rfl rfl Tryd.func38 (by kernel_rfl) rfl #[.slice A0 l0.length c0] rfl (by (try simp only [List.map_toArray, List.map_cons, List.map_nil]); first | done | rfl | (simp only [List.length_drop, List.length_take]; rfl)) ?_; (with_reducible refine (spec_validGraph.calls k _ _ l0 true _ ?side1 ?side2 A4.out).mono ?_); (case side1 => repeat (first | exact HR0.out | (with_reducible refine Kd.C_alloc ?_ _) | (with_reducible refine Kd.C_drewN ?_ _) | (with_reducible refine Kd.C_drew ?_))); (case side2 => exact HC0.out); rintro e w11 ⟨rfl, hb⟩; refine ⟨_, rfl, ?_⟩; have n0_ := Aside0.mk (below_step (by repeat (first | (with_reducible first | exact HB.out | apply below_alloc | apply pw_below_drewN | apply below_drew1) | exact HB.out)) hb); clear HB; have HB := n0_; clear n0_; (try clear hb); (try clear hb2); (try clear hk); (try clear hi)) | (go_at_call 39; (with_reducible refine (spec_validRoom.calls k _ _ l1 false _ ?side1 ?side2 A7.out).mono ?_); (case side1 => repeat (first | exact (Kd.C_below HR1.out HB.out) | (with_reducible refine Kd.C_alloc ?_ _) | (with_reducible refine Kd.C_drewN ?_ _) | (with_reducible refine Kd.C_drew ?_))); (case side2 => exact HC1.out); rintro e w' ⟨rfl, ⟨nd, rfl⟩⟩))
    go_ret
    exact ⟨by first | rfl | (simp [errW_none, errW_some] <;> rfl) | (simp [*, errW_none, errW_some] <;> rfl), by repeat (first | (with_reducible first | exact HB.out | apply below_alloc | apply pw_below_drewN | apply below_drew1) | exact HB.out)⟩
  ·rw [if_neg c6] at H
   have c6b0 : decide ((l0.length : Int) ≤ 5) = false := decide_eq_false c6
   have c6b1 : decide (l0.length ≤ 5) = false := decide_eq_false (by omega)
   clear c6
   obtain rfl := Option.some.inj H
   go_enter Tryd.func18, Tryd.ntmps18
   go_wp2_with (first | ((with_reducible refine gate_callee (f := 38) rfl ?_); refine goesL_ (some 8) rfl rfl Tryd.func38 (by kernel_rfl) rfl #[.slice A0 l0.length c0] rfl (by (try simp only [List.map_toArray, List.map_cons, List.map_nil]); first | done | rfl | (simp only [List.length_drop, List.length_take]; rfl)) ?_; (with_reducible refine (spec_validGraph.calls k _ _ l0 true _ ?side1 ?side2 A4.out).mono ?_); (case side1 => repeat (first | exact HR0.out | (with_reducible refine Kd.C_alloc ?_ _) | (with_reducible refine Kd.C_drewN ?_ _) | (with_reducible refine Kd.C_drew ?_))); (case side2 => exact HC0.out); rintro e w12 ⟨rfl, hb⟩; refine ⟨_, rfl, ?_⟩; have n0_ := Aside0.mk (below_step (by repeat (first | (with_reducible first | exact HB.out | apply below_alloc | apply pw_below_drewN | apply below_drew1) | exact HB.out)) hb); clear HB; have HB := n0_; clear n0_; (try clear hb); (try clear hb2); (try clear hk); (try clear hi)))
   go_ret
   exact ⟨by first | rfl | (simp [errW_none, errW_some] <;> rfl) | (simp [*, errW_none, errW_some] <;> rfl), by repeat (first | (with_reducible first | exact HB.out | apply below_alloc | apply pw_below_drewN | apply below_drew1) | exact HB.out)⟩
 ·replace c5 := Bool.eq_false_iff.mpr c5
  subst c5
  have H1 : (some false) = some r := by rw [if_neg (show ¬ (false = true) by decide)] at H; exact H
  clear H
  have H := H1
  clear H1
  obtain rfl := Option.some.inj H
  go_enter Tryd.func18, Tryd.ntmps18
  go_wp2_with (first | ((with_reducible refine gate_callee (f := 38) rfl ?_); refine goesL_ (some 8) rfl rfl Tryd.func38 (by kernel_rfl) rfl #[.slice A0 l0.length c0] rfl (by (try simp only [List.map_toArray, List.map_cons, List.map_nil]); first | done | rfl | (simp only [List.length_drop, List.length_take]; rfl)) ?_; (with_reducible refine (spec_validGraph.calls k _ _ l0 false _ ?side1 ?side2 A4.out).mono ?_); (case side1 => repeat (first | exact HR0.out | (with_reducible refine Kd.C_alloc ?_ _) | (with_reducible refine Kd.C_drewN ?_ _) | (with_reducible refine Kd.C_drew ?_))); (case side2 => exact HC0.out); rintro e w13 ⟨rfl, hb⟩; refine ⟨_, rfl, ?_⟩; have n0_ := Aside0.mk (below_step (by repeat (first | (with_reducible first | exact HB.out | apply below_alloc | apply pw_below_drewN | apply below_drew1) | exact HB.out)) hb); clear HB; have HB := n0_; clear n0_; (try clear hb); (try clear hb2); (try clear hk); (try clear hi)))
  go_ret
  exact ⟨by first | rfl | (simp [errW_none, errW_some] <;> rfl) | (simp [*, errW_none, errW_some] <;> rfl), by repeat (first | (with_reducible first | exact HB.out | apply below_alloc | apply pw_below_drewN | apply below_drew1) | exact HB.out)⟩
end Go.Proofs.YtnhkajanbfgbiaaDoor.P
end
section
namespace Go.Proofs.YtnhkajanbfgbiaaDoor.P
open Go.RowKit Go.Proofs.YtnhkajanbfgbiaaDoorW.PrintWords Go.Proofs.YtnhkajanbfgbiaaDoorW.PrintLast Go.Proofs.YtnhkajanbfgbiaaDoorW.PrintMore
attribute [local go_sem] max2_int min2_int max_two min_two max_three min_three max_four min_four   -- for this text's walks alone
set_option linter.unusedVariables false
set_option linter.unusedSimpArgs false
def spec_OrderStarts.f (k : Nat) (l0 : List (S38)) (l1 : List Int) (a2 : Int) (l3 : List Int) : Option (List Int) := (spec_validSearch.f k l0 l1 a2).bind fun t182 => (if t182 = true then ((spec_isOrder.f k l0 l3).bind fun t183 => (if t183 = true then ((spec_order.f k l0 l1 a2 l3).bind fun t184 => (some t184)) else (some ([] : List Int)))) else (some ([] : List Int)))
theorem spec_OrderStarts.mono : ∀ a0 a1 a2 a3 k, LeO (spec_OrderStarts.f k a0 a1 a2 a3) (spec_OrderStarts.f (k + 1) a0 a1 a2 a3) := by
 intro a0 a1 a2 a3 k
 unfold spec_OrderStarts.f
 repeat' first
   | (with_reducible exact spec_isOrder.mono _ _ _)
   | (with_reducible exact spec_order.mono _ _ _ _ _)
   | (with_reducible exact spec_validSearch.mono _ _ _ _)
   | (with_reducible exact LeO.refl _)
   | (with_reducible exact LeO.none _)
   | (with_reducible refine LeO.ite ?_ ?_)
   | (with_reducible refine LeO.bind ?_ (fun _ => ?_))
   | exact spec_isOrder.mono _ _ _
   | exact spec_order.mono _ _ _ _ _
   | exact spec_validSearch.mono _ _ _ _
   | exact LeO.none _
   | refine LeO.ite ?_ ?_
   | refine LeO.bind ?_ (fun _ => ?_)
set_option maxHeartbeats 8000000 in
set_option maxRecDepth 100000 in
theorem spec_OrderStarts.calls (k : Nat) (A0 : Option Addr) (c0 : Nat) (l0 : List (S38)) (A1 : Option Addr) (c1 : Nat) (l1 : List Int) (a2 : Int) (A3 : Option Addr) (c3 : Nat) (l3 : List Int) (r : List Int) (w : World) (hr0 : Kd.C k38 w A0 l0.length l0) (hc0 : l0.length ≤ c0) (hr1 : Kd.C (Kd.int .i64) w A1 l1.length l1) (hc1 : l1.length ≤ c1) (hr3 : Kd.C (Kd.int .i64) w A3 l3.length l3) (hc3 : l3.length ≤ c3) (h : spec_OrderStarts.f k l0 l1 a2 l3 = some r) :
  Calls Tryd.prog 6 #[.slice A0 l0.length c0, .slice A1 l1.length c1, .int .i64 a2, .slice A3 l3.length c3] w fun e w' => ∃ v0_ : Value, e = .returned (v0_) ∧ Kd.R (Kd.int .i64) 3 w' w.heap.size (fun _ => True) v0_ r ∧ Below w.heap.size w w' := by
 have HR0 := Aside0.mk hr0
 have HC0 := Aside0.mk hc0
 clear hr0 hc0
 have HR1 := Aside0.mk hr1
 have HC1 := Aside0.mk hc1
 clear hr1 hc1
 have HR3 := Aside0.mk hr3
 have HC3 := Aside0.mk hc3
 clear hr3 hc3
 have HB := Aside0.mk (Below.refl w.heap.size w)
 have H : ((spec_validSearch.f k l0 l1 a2).bind fun t182 => (if t182 = true then ((spec_isOrder.f k l0 l3).bind fun t183 => (if t183 = true then ((spec_order.f k l0 l1 a2 l3).bind fun t184 => (some t184)) else (some ([] : List Int)))) else (some ([] : List Int)))) = some r := h
 clear h
 replace H := Option.bind_eq_some_iff.mp H
 obtain ⟨t182, A50, H⟩ := H
 replace H : (if t182 = true then ((spec_isOrder.f k l0 l3).bind fun t183 => (if t183 = true then ((spec_order.f k l0 l1 a2 l3).bind fun t184 => (some t184)) else (some ([] : List Int)))) else (some ([] : List Int))) = some r := H
 have A5 := Aside0.mk A50
 clear A50
 by_cases c6 : t182 = true
 ·subst c6
  have H1 : ((spec_isOrder.f k l0 l3).bind fun t183 => (if t183 = true then ((spec_order.f k l0 l1 a2 l3).bind fun t184 => (some t184)) else (some ([] : List Int)))) = some r := by rw [if_pos rfl] at H; exact H
  clear H
  have H := H1
  clear H1
  replace H := Option.bind_eq_some_iff.mp H
  obtain ⟨t183, A70, H⟩ := H
  replace H : (if t183 = true then ((spec_order.f k l0 l1 a2 l3).bind fun t184 => (some t184)) else (some ([] : List Int))) = some r := H
  have A7 := Aside0.mk A70
  clear A70
  by_cases c8 : t183 = true
  ·subst c8
   have H1 : ((spec_order.f k l0 l1 a2 l3).bind fun t184 => (some t184)) = some r := by rw [if_pos rfl] at H; exact H
   clear H
   have H := H1
   clear H1
   replace H := Option.bind_eq_some_iff.mp H
   obtain ⟨t184, A90, H⟩ := H
   replace H : (some t184) = some r := H
   have A9 := Aside0.mk A90
   clear A90
   obtain rfl := Option.some.inj H
   go_enter Tryd.func6, Tryd.ntmps6
   go_wp2_with (first | ((with_reducible refine gate_callee (f := 18) rfl ?_); refine goesL_ (some 12) rfl rfl Tryd.func18 (by kernel_rfl) rfl #[.slice A0 l0.length c0, .slice A1 l1.length c1, .int .i64 a2] rfl (by (try simp only [List.map_toArray, List.map_cons, List.map_nil]); first | done | rfl | (simp only [List.length_drop, List.length_take]; rfl)) ?_; (with_reducible refine (spec_validSearch.calls k _ _ l0 _ _ l1 a2 true _ ?side1 ?side2 ?side3 ?side4 A5.out).mono ?_); (case side1 => repeat (first | exact HR0.out | (with_reducible refine Kd.C_alloc ?_ _) | (with_reducible refine Kd.C_drewN ?_ _) | (with_reducible refine Kd.C_drew ?_))); (case side2 => exact HC0.out); (case side3 => repeat (first | exact HR1.out | (with_reducible refine Kd.C_alloc ?_ _) | (with_reducible refine Kd.C_drewN ?_ _) | (with_reducible refine Kd.C_drew ?_))); (case side4 => exact HC1.out); rintro e w10 ⟨rfl, hb⟩; refine ⟨_, rfl, ?_⟩; have n0_ := Aside0.mk (below_step (by repeat (first | (with_reducible first | exact HB.out | apply below_alloc | apply pw_below_drewN | apply below_drew1) | exact HB.out)) hb); clear HB; have HB := n0_; clear n0_; (try clear hb); (try clear hb2); (try clear hk); (try clear hi)) | (go_at_call 19; (with_reducible refine (spec_isOrder.calls k _ _ l0 _ _ l3 true _ ?side1 ?side2 ?side3 ?side4 A7.out).mono ?_); (case side1 => repeat (first | exact (Kd.C_below HR0.out HB.out) | (with_reducible refine Kd.C_alloc ?_ _) | (with_reducible refine Kd.C_drewN ?_ _) | (with_reducible refine Kd.C_drew ?_))); (case side2 => exact HC0.out); (case side3 => repeat (first | exact (Kd.C_below HR3.out HB.out) | (with_reducible refine Kd.C_alloc ?_ _) | (with_reducible refine Kd.C_drewN ?_ _) | (with_reducible refine Kd.C_drew ?_))); (case side4 => exact HC3.out); rintro e w11 ⟨rfl, hb⟩; have n0_ := Aside0.mk (below_step (by repeat (first | (with_reducible first | exact HB.out | apply below_alloc | apply pw_below_drewN | apply below_drew1) | exact HB.out)) hb); clear HB; have HB := n0_; clear n0_; (try clear hb); (try clear hb2); (try clear hk); (try clear hi)) | ((with_reducible refine gate_callee (f := 20) rfl ?_); refine goesL_ (some 24) rfl rfl Tryd.func20 (by kernel_rfl) rfl #[.slice A0 l0.length c0, .slice A1 l1.length c1, .int .i64 a2, .slice A3 l3.length c3] rfl (by (try simp only [List.map_toArray, List.map_cons, List.map_nil]); first | done | rfl | (simp only [List.length_drop, List.length_take]; rfl)) ?_; (with_reducible refine (spec_order.calls k _ _ l0 _ _ l1 a2 _ _ l3 t184 _ ?side1 ?side2 ?side3 ?side4 ?side5 ?side6 A9.out).mono ?_); (case side1 => repeat (first | exact (Kd.C_below HR0.out HB.out) | (with_reducible refine Kd.C_alloc ?_ _) | (with_reducible refine Kd.C_drewN ?_ _) | (with_reducible refine Kd.C_drew ?_))); (case side2 => exact HC0.out); (case side3 => repeat (first | exact (Kd.C_below HR1.out HB.out) | (with_reducible refine Kd.C_alloc ?_ _) | (with_reducible refine Kd.C_drewN ?_ _) | (with_reducible refine Kd.C_drew ?_))); (case side4 => exact HC1.out); (case side5 => repeat (first | exact (Kd.C_below HR3.out HB.out) | (with_reducible refine Kd.C_alloc ?_ _) | (with_reducible refine Kd.C_drewN ?_ _) | (with_reducible refine Kd.C_drew ?_))); (case side6 => exact HC3.out); rintro e w12 ⟨v185, rfl, ho0, hb⟩; refine ⟨_, rfl, ?_⟩; have n0_ := Aside0.mk (Kd.R_lower ho0 (below_size (by repeat (first | (with_reducible first | exact HB.out | apply below_alloc | apply pw_below_drewN | apply below_drew1) | exact HB.out)))); have n1_ := Aside0.mk (below_step (by repeat (first | (with_reducible first | exact HB.out | apply below_alloc | apply pw_below_drewN | apply below_drew1) | exact HB.out)) hb); clear HB; have HO186 := n0_; have HB := n1_; clear n0_ n1_; (try clear hb); (try clear hb2); (try clear hk); (try clear hi); (try clear ho0)))
   go_ret
   exact ⟨_, by first | rfl | (simp [errW_none, errW_some] <;> rfl) | (simp [*, errW_none, errW_some] <;> rfl), by (with_reducible repeat (first | apply Kd.R_alloc | apply Kd.R_drewN | apply Kd.R_drew)); exact HO186.out, by repeat (first | (with_reducible first | exact HB.out | apply below_alloc | apply pw_below_drewN | apply below_drew1) | exact HB.out)⟩
  ·replace c8 := Bool.eq_false_iff.mpr c8
   subst c8
   have H1 : (some ([] : List Int)) = some r := by rw [if_neg (show ¬ (false = true) by decide)] at H; exact H
   clear H
   have H := H1
   clear H1
   obtain rfl := Option.some.inj H
   go_enter Tryd.func6, Tryd.ntmps6
   go_wp2_with (first | ((with_reducible refine gate_callee (f := 18) rfl ?_); refine goesL_ (some 12) rfl rfl Tryd.func18 (by kernel_rfl) rfl #[.slice A0 l0.length c0, .slice A1 l1.length c1, .int .i64 a2] rfl (by (try simp only [List.map_toArray, List.map_cons, List.map_nil]); first | done | rfl | (simp only [List.length_drop, List.length_take]; rfl)) ?_; (with_reducible refine (spec_validSearch.calls k _ _ l0 _ _ l1 a2 true _ ?side1 ?side2 ?side3 ?side4 A5.out).mono ?_); (case side1 => repeat (first | exact HR0.out | (with_reducible refine Kd.C_alloc ?_ _) | (with_reducible refine Kd.C_drewN ?_ _) | (with_reducible refine Kd.C_drew ?_))); (case side2 => exact HC0.out); (case side3 => repeat (first | exact HR1.out | (with_reducible refine Kd.C_alloc ?_ _) | (with_reducible refine Kd.C_drewN ?_ _) | (with_reducible refine Kd.C_drew ?_))); (case side4 => exact HC1.out); rintro e w13 ⟨rfl, hb⟩; refine ⟨_, rfl, ?_⟩; have n0_ := Aside0.mk (below_step (by repeat (first | (with_reducible first | exact HB.out | apply below_alloc | apply pw_below_drewN | apply below_drew1) | exact HB.out)) hb); clear HB; have HB := n0_; clear n0_; (try clear hb); (try clear hb2); (try clear hk); (try clear hi)) | (go_at_call 19; (with_reducible refine (spec_isOrder.calls k _ _ l0 _ _ l3 false _ ?side1 ?side2 ?side3 ?side4 A7.out).mono ?_); (case side1 => repeat (first | exact (Kd.C_below HR0.out HB.out) | (with_reducible refine Kd.C_alloc ?_ _) | (with_reducible refine Kd.C_drewN ?_ _) | (with_reducible refine Kd.C_drew ?_))); (case side2 => exact HC0.out); (case side3 => repeat (first | exact (Kd.C_below HR3.out HB.out) | (with_reducible refine Kd.C_alloc ?_ _) | (with_reducible refine Kd.C_drewN ?_ _) | (with_reducible refine Kd.C_drew ?_))); (case side4 => exact HC3.out); rintro e w14 ⟨rfl, hb⟩; have n0_ := Aside0.mk (below_step (by repeat (first | (with_reducible first | exact HB.out | apply below_alloc | apply pw_below_drewN | apply below_drew1) | exact HB.out)) hb); clear HB; have HB := n0_; clear n0_; (try clear hb); (try clear hb2); (try clear hk); (try clear hi)))
   go_ret
   exact ⟨_, by first | rfl | (simp [errW_none, errW_some] <;> rfl) | (simp [*, errW_none, errW_some] <;> rfl), by first | exact Kd.R_nil _ _ _ _ _ | exact Kd.N_nil _ _ _ _ _ | exact Kd.V_nil _ _ _ _ _ | exact Kd.Q_nil _ _ _ _ _ | exact Kd.S_nil _ _ _ _ _, by repeat (first | (with_reducible first | exact HB.out | apply below_alloc | apply pw_below_drewN | apply below_drew1) | exact HB.out)⟩
 ·replace c6 := Bool.eq_false_iff.mpr c6
  subst c6
  have H1 : (some ([] : List Int)) = some r := by rw [if_neg (show ¬ (false = true) by decide)] at H; exact H
  clear H
  have H := H1
  clear H1
  obtain rfl := Option.some.inj H
  go_enter Tryd.func6, Tryd.ntmps6
  go_wp2_with (first | ((with_reducible refine gate_callee (f := 18) rfl ?_); refine goesL_ (some 12) rfl rfl Tryd.func18 (by kernel_rfl) rfl #[.slice A0 l0.length c0, .slice A1 l1.length c1, .int .i64 a2] rfl (by (try simp only [List.map_toArray, List.map_cons, List.map_nil]); first | done | rfl | (simp only [List.length_drop, List.length_take]; rfl)) ?_; (with_reducible refine (spec_validSearch.calls k _ _ l0 _ _ l1 a2 false _ ?side1 ?side2 ?side3 ?side4 A5.out).mono ?_); (case side1 => repeat (first | exact HR0.out | (with_reducible refine Kd.C_alloc ?_ _) | (with_reducible refine Kd.C_drewN ?_ _) | (with_reducible refine Kd.C_drew ?_))); (case side2 => exact HC0.out); (case side3 => repeat (first | exact HR1.out | (with_reducible refine Kd.C_alloc ?_ _) | (with_reducible refine Kd.C_drewN ?_ _) | (with_reducible refine Kd.C_drew ?_))); (case side4 => exact HC1.out); rintro e w15 ⟨rfl, hb⟩; refine ⟨_, rfl, ?_⟩; have n0_ := Aside0.mk (below_step (by repeat (first | (with_reducible first | exact HB.out | apply below_alloc | apply pw_below_drewN | apply below_drew1) | exact HB.out)) hb); clear HB; have HB := n0_; clear n0_; (try clear hb); (try clear hb2); (try clear hk); (try clear hi)))
  go_ret
  exact ⟨_, by first | rfl | (simp [errW_none, errW_some] <;> rfl) | (simp [*, errW_none, errW_some] <;> rfl), by first | exact Kd.R_nil _ _ _ _ _ | exact Kd.N_nil _ _ _ _ _ | exact Kd.V_nil _ _ _ _ _ | exact Kd.Q_nil _ _ _ _ _ | exact Kd.S_nil _ _ _ _ _, by repeat (first | (with_reducible first | exact HB.out | apply below_alloc | apply pw_below_drewN | apply below_drew1) | exact HB.out)⟩
end Go.Proofs.YtnhkajanbfgbiaaDoor.P
end
section
set_option linter.unusedVariables false
set_option linter.unusedSimpArgs false
namespace Go.Proofs.YtnhkajanbfgbiaaDoor.Core
open Go Go.RowKit Go.Shelf Go.Proofs.YtnhkajanbfgbiaaDoorW.PrintWords Go.Proofs.YtnhkajanbfgbiaaDoorW.PrintLast Go.Proofs.YtnhkajanbfgbiaaDoorW.PrintMore Go.Proofs.YtnhkajanbfgbiaaDoor.P
attribute [local go_sem] Oper.semAt_some wide_fn wide_depth
/-- What holds of each valid graph. -/
structure GOk (G : GD) : Prop where
 n8 : G.tasks.length ≤ 8
 nl : G.needs.length = G.tasks.length
 nb : below1 G.tasks.length G.needs
 ol : G.order.length = G.tasks.length
 ob : ∀ i ∈ G.order, i < G.tasks.length
 bl : G.below.length = G.tasks.length
 bb : below1 G.tasks.length G.below
 al : G.above.length = G.tasks.length
 ab : below1 G.tasks.length G.above
theorem IsG.move {w w' : World} {b : Nat} {G : GD} (h : IsG w b G) (hb : Below w.heap.size w w') : IsG w' b G := by
 obtain ⟨A0, A1, A2, A3, A4, c0, c1, c2, c3, c4, hh, h0, h1, h2, h3, h4⟩ := h
 exact ⟨A0, A1, A2, A3, A4, c0, c1, c2, c3, c4, (hb.block b (cells_lt hh)).trans hh, ⟨h0.1, Kd.C_below h0.2 hb⟩, ⟨h1.1, Kd.C_below h1.2 hb⟩, ⟨h2.1, Kd.C_below h2.2 hb⟩, ⟨h3.1, Kd.C_below h3.2 hb⟩, ⟨h4.1, Kd.C_below h4.2 hb⟩⟩
theorem IsG.lt {w : World} {b : Nat} {G : GD} (h : IsG w b G) : b < w.heap.size := by
 obtain ⟨A0, A1, A2, A3, A4, c0, c1, c2, c3, c4, hh, _⟩ := h
 exact cells_lt hh
theorem IsG.tasks {w : World} {b : Nat} {G : GD} (h : IsG w b G) : ∃ A c, w.cell? ⟨b, 0, none⟩ = some (.slice A G.tasks.length c) ∧ G.tasks.length ≤ c ∧ k38.C w A G.tasks.length G.tasks := by
 obtain ⟨A0, A1, A2, A3, A4, c0, c1, c2, c3, c4, hh, h0, h1, h2, h3, h4⟩ := h
 exact ⟨A0, c0, by simp [World.cell?, hh], h0.1, h0.2⟩
theorem IsG.needs {w : World} {b : Nat} {G : GD} (h : IsG w b G) : ∃ A c, w.cell? ⟨b, 1, none⟩ = some (.slice A G.needs.length c) ∧ G.needs.length ≤ c ∧ (Kd.int .u16).C w A G.needs.length (up G.needs) := by
 obtain ⟨A0, A1, A2, A3, A4, c0, c1, c2, c3, c4, hh, h0, h1, h2, h3, h4⟩ := h
 exact ⟨A1, c1, by simp [World.cell?, hh], h1.1, h1.2⟩
theorem IsG.order {w : World} {b : Nat} {G : GD} (h : IsG w b G) : ∃ A c, w.cell? ⟨b, 2, none⟩ = some (.slice A G.order.length c) ∧ G.order.length ≤ c ∧ (Kd.int .i64).C w A G.order.length (up G.order) := by
 obtain ⟨A0, A1, A2, A3, A4, c0, c1, c2, c3, c4, hh, h0, h1, h2, h3, h4⟩ := h
 exact ⟨A2, c2, by simp [World.cell?, hh], h2.1, h2.2⟩
theorem IsG.below {w : World} {b : Nat} {G : GD} (h : IsG w b G) : ∃ A c, w.cell? ⟨b, 3, none⟩ = some (.slice A G.below.length c) ∧ G.below.length ≤ c ∧ (Kd.int .u16).C w A G.below.length (up G.below) := by
 obtain ⟨A0, A1, A2, A3, A4, c0, c1, c2, c3, c4, hh, h0, h1, h2, h3, h4⟩ := h
 exact ⟨A3, c3, by simp [World.cell?, hh], h3.1, h3.2⟩
theorem IsG.above {w : World} {b : Nat} {G : GD} (h : IsG w b G) : ∃ A c, w.cell? ⟨b, 4, none⟩ = some (.slice A G.above.length c) ∧ G.above.length ≤ c ∧ (Kd.int .u16).C w A G.above.length (up G.above) := by
 obtain ⟨A0, A1, A2, A3, A4, c0, c1, c2, c3, c4, hh, h0, h1, h2, h3, h4⟩ := h
 exact ⟨A4, c4, by simp [World.cell?, hh], h4.1, h4.2⟩
set_option maxHeartbeats 1000000 in
theorem size_calls (b : Nat) (G : GD) (w : World) (hg : IsG w b G) :
  Calls Tryd.prog 23 #[.pointer (some ⟨b, 0, none⟩)] w fun e w' => e = .returned (.int .i64 (G.tasks.length : Int)) ∧ w = w' := by
 obtain ⟨A, c, hc, _, _⟩ := hg.tasks
 go_enter Tryd.func23, Tryd.ntmps23
 go_wp2
 go_ret
 exact ⟨rfl, rfl⟩
/-- The tasks that can come next, among the first ones. -/
def readyTo (N : List Nat) (d : Nat) : Nat → Nat
 | 0 => 0
 | i + 1 => if d.testBit i = false ∧ sub (N.getD i 0) d = 0 then readyTo N d i ||| 2 ^ i else readyTo N d i
def GD.ready (G : GD) (d : Nat) : Nat := readyTo G.needs d G.needs.length
end Go.Proofs.YtnhkajanbfgbiaaDoor.Core
end
section
set_option linter.unusedVariables false
set_option linter.unusedSimpArgs false
namespace Go.Proofs.YtnhkajanbfgbiaaDoor.Core
open Go Go.RowKit Go.Shelf Go.Proofs.YtnhkajanbfgbiaaDoorW.PrintWords Go.Proofs.YtnhkajanbfgbiaaDoorW.PrintLast Go.Proofs.YtnhkajanbfgbiaaDoorW.PrintMore Go.Proofs.YtnhkajanbfgbiaaDoor.P
/-- How many of the first n numbers a set lacks. -/
def zb : Nat → Nat → Nat
 | 0, _ => 0
 | n + 1, p => zb n p + (if p.testBit n then 0 else 1)
theorem or_bit (p i j : Nat) : (p ||| 2 ^ i).testBit j = (p.testBit j || decide (i = j)) := by rw [Nat.testBit_or, Nat.testBit_two_pow]
theorem zb_le (p i : Nat) : ∀ n, zb n (p ||| 2 ^ i) ≤ zb n p
 | 0 => Nat.le_refl _
 | n + 1 => by
  have := zb_le p i n
  simp only [zb, or_bit]
  by_cases h : i = n
  ·subst h; cases p.testBit i <;> simp <;> omega
  ·cases p.testBit n <;> simp [h] <;> omega
theorem zb_lt {p i : Nat} (hp : p.testBit i = false) : ∀ {n : Nat}, i < n → zb n (p ||| 2 ^ i) < zb n p
 | 0, h => by omega
 | n + 1, h => by
  simp only [zb, or_bit]
  by_cases hi : i = n
  ·subst hi
   have := zb_le p i i
   simp [hp]
   omega
  ·have := zb_lt hp (n := n) (by omega)
   cases p.testBit n <;> simp [hi] <;> omega
theorem readyTo_bit (N : List Nat) (d i : Nat) : ∀ n, (readyTo N d n).testBit i = true → i < n ∧ d.testBit i = false ∧ sub (N.getD i 0) d = 0
 | 0 => by simp [readyTo]
 | n + 1 => by
  intro h
  unfold readyTo at h
  split at h
  ·rename_i hc
   rw [or_bit] at h
   by_cases hi : n = i
   ·subst hi; exact ⟨by omega, hc⟩
   ·have := readyTo_bit N d i n (by simpa [hi] using h)
    exact ⟨by omega, this.2⟩
  ·have := readyTo_bit N d i n h
   exact ⟨by omega, this.2⟩
theorem readyTo_bit' (N : List Nat) (d i : Nat) : ∀ n, i < n → d.testBit i = false → sub (N.getD i 0) d = 0 → (readyTo N d n).testBit i = true
 | 0 => by intro h; omega
 | n + 1 => by
  intro h h1 h2
  unfold readyTo
  by_cases hi : n = i
  ·subst hi
   rw [if_pos ⟨h1, h2⟩, or_bit]
   simp
  ·have := readyTo_bit' N d i n (by omega) h1 h2
   split
   ·rw [or_bit, this]; rfl
   ·exact this
theorem mem_ready {G : GD} {d i : Nat} (h8 : G.needs.length ≤ 8) : i ∈ elemsN (G.ready d) ↔ i < G.needs.length ∧ d.testBit i = false ∧ sub (G.needs.getD i 0) d = 0 := by
 rw [mem_elemsN]
 constructor
 ·intro h
  exact readyTo_bit _ _ _ _ h.2
 ·intro h
  exact ⟨by omega, readyTo_bit' _ _ _ _ h.1 h.2.1 h.2.2⟩
theorem elemsN_length (s : Nat) : (elemsN s).length ≤ 8 := by
 have := elems_length s
 rwa [elems, List.length_map] at this
end Go.Proofs.YtnhkajanbfgbiaaDoor.Core
end
section
set_option linter.unusedVariables false
set_option linter.unusedSimpArgs false
namespace Go.Proofs.YtnhkajanbfgbiaaDoor.Core
open Go Go.RowKit Go.Proofs.YtnhkajanbfgbiaaDoorW.PrintWords Go.Proofs.YtnhkajanbfgbiaaDoorW.PrintMore Go.Proofs.YtnhkajanbfgbiaaDoor.P
/-- From some number on, f says r. -/
def Ev {α : Type} (f : Nat → Option α) (r : α) : Prop := ∃ K, ∀ k, K ≤ k → f k = some r
theorem Ev.const {α : Type} (r : α) : Ev (fun _ => some r) r := ⟨0, fun _ _ => rfl⟩
theorem Ev.bind {α β : Type} {f : Nat → Option α} {g : Nat → α → Option β} {a : α} {b : β} (h : Ev f a) (h2 : Ev (fun k => g k a) b) : Ev (fun k => (f k).bind (g k)) b := by
 obtain ⟨K, h⟩ := h
 obtain ⟨K2, h2⟩ := h2
 exact ⟨max K K2, fun k hk => by show (f k).bind (g k) = some b; rw [h k (by omega)]; exact h2 k (by omega)⟩
theorem Ev.succ {α : Type} {f : Nat → Option α} {r : α} (h : Ev (fun k => f (k + 1)) r) : Ev f r := by
 obtain ⟨K, h⟩ := h
 refine ⟨K + 1, fun k hk => ?_⟩
 obtain ⟨m, rfl⟩ : ∃ m, k = m + 1 := ⟨k - 1, by omega⟩
 exact h m (by omega)
theorem Ev.of {α : Type} {f g : Nat → Option α} {r : α} (h : Ev f r) (e : ∀ k, g k = f k) : Ev g r := by
 obtain ⟨K, h⟩ := h
 exact ⟨K, fun k hk => (e k).trans (h k hk)⟩
theorem Ev.both {α β : Type} {f : Nat → Option α} {g : Nat → Option β} {a : α} {b : β} (h : Ev f a) (h2 : Ev g b) : ∃ k, f k = some a ∧ g k = some b := by
 obtain ⟨K, h⟩ := h
 obtain ⟨K2, h2⟩ := h2
 exact ⟨max K K2, h _ (by omega), h2 _ (by omega)⟩
theorem Ev.one {α : Type} {f : Nat → Option α} {a : α} (h : Ev f a) : ∃ k, f k = some a := by
 obtain ⟨K, h⟩ := h
 exact ⟨K, h _ (by omega)⟩
theorem w64 {n : Int} (h0 : -9223372036854775808 ≤ n) (h1 : n ≤ 9223372036854775807) : wrap64 n = n := by unfold wrap64; omega
theorem rd_mid {pre r : List Int} {x : Int} {i : Int} (hi : i = (pre.length : Int)) : rd (pre ++ x :: r) i = x := by
 subst hi
 simp [rd]
theorem within_eq (x a b : Int) : impl_within.f x a b = some (decide (a ≤ x ∧ x ≤ b)) := by
 unfold impl_within.f
 by_cases h : x ≥ a
 ·rw [if_pos h]; simp; omega
 ·rw [if_neg h]; simp; omega
theorem setwith_eq {s k : Nat} (hs : s < 256) (hk : k < 8) : impl_set_with.f (s : Int) (k : Int) = some ((s ||| 2 ^ k : Nat) : Int) := by
 unfold impl_set_with.f
 rw [if_pos (by omega)]
 have : shl .u16 1 (k : Int) = IntKind.u16.wrap (2 ^ k) := by
  unfold shl
  rw [Int.toNat_natCast, Nat.min_eq_left (by show k ≤ 16; omega), Int.one_mul]
 rw [this, with_eq hs hk]
theorem sethas_eq {s k : Nat} (hs : s < 256) (hk : k < 8) : impl_set_has.f (s : Int) (k : Int) = some (s.testBit k) := by
 unfold impl_set_has.f
 rw [if_pos (by omega)]
 have : shr .u16 (s : Int) (k : Int) = (s : Int) / 2 ^ k := by
  unfold shr
  rw [Int.toNat_natCast, Nat.min_eq_left (by show k ≤ 16; omega)]
 rw [this, has_eq hs]
/-- The set of ascending numbers below n. -/
def setGo (n : Nat) : List Int → Nat → Int → Option Nat
 | [], s, _ => some s
 | x :: r, s, last => if last + 1 ≤ x ∧ x ≤ (n : Int) - 1 then setGo n r (s ||| 2 ^ x.toNat) x else none
def setD (n : Nat) (L : List Int) : Option Nat := setGo n L 0 (-1)
def setR (o : Option Nat) : Int × Bool := match o with | some s => ((s : Int), true) | none => (0, false)
theorem ev_setGo {n : Nat} (hn : n ≤ 8) (L : List Int) : ∀ (r pre : List Int) (s : Nat) (last : Int), L = pre ++ r → s < 2 ^ n → (pre.length : Int) ≤ last + 1 → last ≤ (n : Int) - 1 →
  Ev (fun k => impl_setOf.l0 k (n : Int) (s : Int) last L (L.length : Int) (pre.length : Int)) (setR (setGo n r s last))
 | [], pre, s, last, hL, hs, h1, h2 => by
  refine Ev.succ ((Ev.const _).of fun k => ?_)
  rw [List.append_nil] at hL
  subst hL
  simp only [impl_setOf.l0]
  rw [if_neg (by omega)]
  rfl
 | x :: r, pre, s, last, hL, hs, h1, h2 => by
  have hlen : L.length = pre.length + (r.length + 1) := by rw [hL]; simp
  have hw1 : wrap64 (last + 1) = last + 1 := w64 (by omega) (by omega)
  have hw2 : wrap64 ((n : Int) - 1) = (n : Int) - 1 := w64 (by omega) (by omega)
  have hrd : rd L (pre.length : Int) = x := by rw [hL]; exact rd_mid rfl
  refine Ev.succ ?_
  by_cases hx : last + 1 ≤ x ∧ x ≤ (n : Int) - 1
  ·have hx0 : 0 ≤ x := by omega
   obtain ⟨m, rfl⟩ : ∃ m : Nat, x = (m : Int) := ⟨x.toNat, by omega⟩
   have hs8 : s < 256 := Nat.lt_of_lt_of_le hs (pow8 hn)
   have ih := ev_setGo hn L r (pre ++ [(m : Int)]) (s ||| 2 ^ m) m (by rw [hL]; simp) (Nat.or_lt_two_pow hs (Nat.pow_lt_pow_right (by omega) (by omega))) (by simp; omega) (by omega)
   have hg : setGo n ((m : Int) :: r) s last = setGo n r (s ||| 2 ^ m) m := by
    rw [setGo, if_pos hx, Int.toNat_natCast]
   rw [hg]
   refine ih.of fun k => ?_
   simp only [impl_setOf.l0]
   rw [if_pos (by omega), if_pos (by omega), if_pos (by omega), hrd, hw1, hw2, within_eq, decide_eq_true hx]
   simp only [Option.bind_some, if_true]
   rw [setwith_eq hs8 (by omega)]
   simp only [Option.bind_some, List.length_append, List.length_cons, List.length_nil]
   rw [w64 (by omega) (by omega)]
   rfl
  ·have hg : setGo n (x :: r) s last = none := by rw [setGo, if_neg hx]
   rw [hg]
   refine (Ev.const _).of fun k => ?_
   simp only [impl_setOf.l0]
   rw [if_pos (by omega), if_pos (by omega), if_pos (by omega), hrd, hw1, hw2, within_eq, decide_eq_false hx]
   rfl
theorem ev_setOf {n : Nat} (hn : n ≤ 8) (L : List Int) : Ev (fun k => impl_setOf.f k L (n : Int)) (setR (setD n L)) :=
 ev_setGo hn L L [] 0 (-1) rfl (Nat.two_pow_pos n) (by simp) (by omega)
theorem setGo_lt {n : Nat} : ∀ {r : List Int} {s : Nat} {last : Int} {t : Nat}, setGo n r s last = some t → s < 2 ^ n → -1 ≤ last → t < 2 ^ n
 | [], s, last, t, h, hs, hl => by rw [setGo] at h; cases h; exact hs
 | x :: r, s, last, t, h, hs, hl => by
  rw [setGo] at h
  by_cases hx : last + 1 ≤ x ∧ x ≤ (n : Int) - 1
  ·rw [if_pos hx] at h
   exact setGo_lt h (Nat.or_lt_two_pow hs (Nat.pow_lt_pow_right (by omega) (by omega))) (by omega)
  ·rw [if_neg hx] at h; cases h
theorem setD_lt {n : Nat} {L : List Int} {t : Nat} (h : setD n L = some t) : t < 2 ^ n := setGo_lt h (Nat.two_pow_pos n) (by omega)
def taskOk (t : Tk) : Prop := (1 ≤ t.f0 ∧ t.f0 ≤ 20) ∧ (0 ≤ t.f2 ∧ t.f2 ≤ 2) ∧ (1 ≤ t.f3 ∧ t.f3 ≤ 4)
instance (t : Tk) : Decidable (taskOk t) := by unfold taskOk; infer_instance
def needsGo (n : Nat) : List Tk → Option (List Nat)
 | [] => some []
 | t :: r => match setD n t.f1 with
  | none => none
  | some s => if taskOk t then (needsGo n r).map (s :: ·) else none
def needsD (g : List Tk) : Option (List Nat) := if g.length ≤ 8 then needsGo g.length g else none
def needsR (o : Option (List Nat)) : List Int × Bool := match o with | some N => (up N, true) | none => ([], false)
theorem rdT_mid {pre r : List Tk} {x : Tk} {i : Int} (hi : i = (pre.length : Int)) : rd_T38 (pre ++ x :: r) i = x := by
 subst hi
 simp [rd_T38]
theorem ev_needsGo (G : List Tk) (h8 : G.length ≤ 8) : ∀ (r pre : List Tk) (N : List Nat), G = pre ++ r → N.length = pre.length →
  Ev (fun k => impl_needsOf.l0 k G (up N) G (G.length : Int) (pre.length : Int)) (needsR ((needsGo G.length r).map (N ++ ·)))
 | [], pre, N, hG, hN => by
  refine Ev.succ ((Ev.const _).of fun k => ?_)
  rw [List.append_nil] at hG
  subst hG
  simp only [impl_needsOf.l0]
  rw [if_neg (by omega)]
  simp [needsGo, needsR]
 | t :: r, pre, N, hG, hN => by
  have hlen : G.length = pre.length + (r.length + 1) := by rw [hG]; simp
  have hrd : rd_T38 G (pre.length : Int) = t := by rw [hG]; exact rdT_mid rfl
  have hs := ev_setOf h8 t.f1
  refine Ev.succ ?_
  cases he : setD G.length t.f1 with
  | none =>
   rw [he] at hs
   have hg : needsGo G.length (t :: r) = none := by rw [needsGo, he]
   rw [hg]
   obtain ⟨K, h2⟩ := hs
   dsimp only at h2
   refine ⟨K, fun k hk => ?_⟩
   show impl_needsOf.l0 (k + 1) _ _ _ _ _ = _
   simp only [impl_needsOf.l0]
   rw [if_pos (by omega), if_pos (by omega), if_pos (by omega), hrd, h2 k hk]
   rfl
  | some s =>
   rw [he] at hs
   by_cases hok : taskOk t
   ·have hg : needsGo G.length (t :: r) = (needsGo G.length r).map (s :: ·) := by rw [needsGo, he]; simp [hok]
    have ih := ev_needsGo G h8 r (pre ++ [t]) (N ++ [s]) (by rw [hG]; simp) (by simp [hN])
    have e1 : ((needsGo G.length r).map (s :: ·)).map (N ++ ·) = (needsGo G.length r).map ((N ++ [s]) ++ ·) := by cases needsGo G.length r <;> simp
    rw [hg, e1]
    obtain ⟨K, h2⟩ := hs
    dsimp only at h2
    obtain ⟨K2, h3⟩ := ih
    dsimp only at h3
    refine ⟨max K K2, fun k hk => ?_⟩
    show impl_needsOf.l0 (k + 1) _ _ _ _ _ = _
    simp only [impl_needsOf.l0]
    rw [if_pos (by omega), if_pos (by omega), if_pos (by omega), hrd, h2 k (by omega)]
    simp only [setR, Option.bind_some, if_true]
    rw [within_eq, decide_eq_true hok.1]
    simp only [Option.bind_some, if_true]
    rw [within_eq, decide_eq_true hok.2.1]
    simp only [Option.bind_some, if_true]
    rw [within_eq, decide_eq_true hok.2.2]
    simp only [Option.bind_some, if_true]
    rw [if_pos (by rw [up_length]; omega), w64 (by omega) (by omega)]
    have := h3 k (by omega)
    simpa [up] using this
   ·have hg : needsGo G.length (t :: r) = none := by rw [needsGo, he]; simp [hok]
    rw [hg]
    obtain ⟨K, h2⟩ := hs
    dsimp only at h2
    refine ⟨K, fun k hk => ?_⟩
    show impl_needsOf.l0 (k + 1) _ _ _ _ _ = _
    simp only [impl_needsOf.l0]
    rw [if_pos (by omega), if_pos (by omega), if_pos (by omega), hrd, h2 k (by omega)]
    simp only [setR, Option.bind_some, if_true]
    rw [within_eq, within_eq, within_eq]
    simp only [Option.bind_some]
    by_cases h1 : 1 ≤ t.f0 ∧ t.f0 ≤ 20
    ·by_cases h2 : 0 ≤ t.f2 ∧ t.f2 ≤ 2
     ·by_cases h3 : 1 ≤ t.f3 ∧ t.f3 ≤ 4
      ·exact absurd ⟨h1, h2, h3⟩ hok
      ·simp [h1, h2, h3, needsR]
     ·simp [h1, h2, needsR]
    ·simp [h1, needsR]
theorem ev_needsOf (G : List Tk) : Ev (fun k => impl_needsOf.f k G) (needsR (needsD G)) := by
 unfold needsD
 by_cases h : G.length ≤ 8
 ·rw [if_pos h]
  have h2 := ev_needsGo G h G [] [] rfl rfl
  have e : (needsGo G.length G).map (([] : List Nat) ++ ·) = needsGo G.length G := by cases needsGo G.length G <;> simp
  rw [e] at h2
  refine h2.of fun k => ?_
  unfold impl_needsOf.f
  rw [if_neg (by omega), if_pos (by omega), if_pos (by omega)]
  rfl
 ·rw [if_neg h]
  refine (Ev.const _).of fun k => ?_
  unfold impl_needsOf.f
  rw [if_pos (by omega)]
  rfl
theorem needsGo_spec {n : Nat} : ∀ {r : List Tk} {N : List Nat}, needsGo n r = some N → N.length = r.length ∧ below1 n N
 | [], N, h => by rw [needsGo] at h; cases h; exact ⟨rfl, fun x hx => by cases hx⟩
 | t :: r, N, h => by
  rw [needsGo] at h
  cases he : setD n t.f1 with
  | none => rw [he] at h; cases h
  | some s =>
   rw [he] at h
   by_cases hok : taskOk t
   ·simp only [hok, if_true] at h
    cases hg : needsGo n r with
    | none => rw [hg] at h; cases h
    | some M =>
     rw [hg] at h
     cases h
     have := needsGo_spec hg
     refine ⟨by simp [this.1], fun x hx => ?_⟩
     rcases List.mem_cons.1 hx with rfl | hx
     ·exact setD_lt he
     ·exact this.2 x hx
   ·simp [hok] at h
theorem needsD_spec {g : List Tk} {N : List Nat} (h : needsD g = some N) : g.length ≤ 8 ∧ N.length = g.length ∧ below1 g.length N := by
 unfold needsD at h
 by_cases h8 : g.length ≤ 8
 ·rw [if_pos h8] at h
  exact ⟨h8, needsGo_spec h⟩
 ·rw [if_neg h8] at h; cases h
end Go.Proofs.YtnhkajanbfgbiaaDoor.Core
namespace Go.Proofs.YtnhkajanbfgbiaaDoor.Core
open Go Go.RowKit Go.Shelf Go.Proofs.YtnhkajanbfgbiaaDoorW.PrintWords Go.Proofs.YtnhkajanbfgbiaaDoorW.PrintMore Go.Proofs.YtnhkajanbfgbiaaDoor.P
attribute [local go_sem] Oper.semAt_some wide_fn wide_depth
def nextFrom (N : List Nat) (d : Nat) : Nat → Nat → Option Nat
 | _, 0 => none
 | i, m + 1 => if d.testBit i = false ∧ sub (N.getD i 0) d = 0 then some i else nextFrom N d (i + 1) m
def nextD (N : List Nat) (d : Nat) : Option Nat := nextFrom N d 0 N.length
def orderGo (N : List Nat) : Nat → List Nat → Nat → List Nat × Nat
 | 0, L, d => (L, d)
 | m + 1, L, d => match nextD N d with
  | some i => orderGo N m (L ++ [i]) (d ||| 2 ^ i)
  | none => orderGo N m L d
def orderD (N : List Nat) : List Nat × Nat := orderGo N N.length [] 0
theorem nextFrom_spec {N : List Nat} {d : Nat} : ∀ {m i j : Nat}, nextFrom N d i m = some j → i ≤ j ∧ j < i + m ∧ d.testBit j = false ∧ sub (N.getD j 0) d = 0
 | 0, i, j, h => by rw [nextFrom] at h; cases h
 | m + 1, i, j, h => by
  rw [nextFrom] at h
  by_cases hc : d.testBit i = false ∧ sub (N.getD i 0) d = 0
  ·rw [if_pos hc] at h
   cases h
   exact ⟨by omega, by omega, hc⟩
  ·rw [if_neg hc] at h
   have := nextFrom_spec h
   exact ⟨by omega, by omega, this.2.2⟩
theorem nextD_spec {N : List Nat} {d j : Nat} (h : nextD N d = some j) : j < N.length ∧ d.testBit j = false ∧ sub (N.getD j 0) d = 0 := by
 have := nextFrom_spec h
 exact ⟨by omega, this.2.2⟩
def ordR (x : List Nat × Nat) : List Int × Int := (up x.1, (x.2 : Int))
theorem order_step {N : List Nat} {n : Nat} (hN : N.length = n) (hn : n ≤ 8) (L : List Nat) (d i j k : Nat) (hd8 : d < 256) (hNi : N.getD i 0 < 256) (hi : i < n) (hj : j ≤ 8) (hL : L.length ≤ j) : impl_order.l1 (k + 1) (up N) (up L) (d : Int) (n : Int) (j : Int) (up N) (n : Int) (i : Int) = (if d.testBit i = true then impl_order.l1 k (up N) (up L) (d : Int) (n : Int) (j : Int) (up N) (n : Int) ((i + 1 : Nat) : Int) else if ((sub (N.getD i 0) d : Nat) : Int) = 0 then impl_order.l0 k (up N) (up (L ++ [i])) ((d ||| 2 ^ i : Nat) : Int) (n : Int) ((j + 1 : Nat) : Int) else impl_order.l1 k (up N) (up L) (d : Int) (n : Int) (j : Int) (up N) (n : Int) ((i + 1 : Nat) : Int)) := by
 have h8 : up (L ++ [i]) = up L ++ [(i : Int)] := by simp [up]
 have hwj : ((j + 1 : Nat) : Int) = wrap64 ((j : Int) + 1) := by rw [w64 (by omega) (by omega)]; omega
 have hw : ((i + 1 : Nat) : Int) = wrap64 ((i : Int) + 1) := by rw [w64 (by omega) (by omega)]; omega
 rw [h8, hwj, hw, ← andNot_eq hNi hd8, impl_order.l1, if_pos (by omega), if_pos (by omega), if_pos (by rw [up_length, hN]; omega), sethas_eq hd8 (by omega), Option.bind_some, rd_up (L := N) (i := i) rfl]
 congr 1
 congr 1
 rw [if_pos (by rw [up_length]; omega), setwith_eq hd8 (by omega), Option.bind_some]
theorem ev_next {N : List Nat} {n : Nat} (hN : N.length = n) (hn : n ≤ 8) (hb : below1 n N) (L : List Nat) (d : Nat) (hd : d < 2 ^ n) (j : Nat) (hL : L.length ≤ j) (hj : j ≤ 8) (R : List Nat → Nat → List Int × Int)
  (ho : ∀ (L' : List Nat) (d' : Nat), d' < 2 ^ n → L'.length ≤ j + 1 → Ev (fun k => impl_order.l0 k (up N) (up L') (d' : Int) (n : Int) ((j + 1 : Nat) : Int)) (R L' d')) (m : Nat) : ∀ i, i + m = n →
  Ev (fun k => impl_order.l1 k (up N) (up L) (d : Int) (n : Int) (j : Int) (up N) (n : Int) (i : Int)) (match nextFrom N d i m with | some i => R (L ++ [i]) (d ||| 2 ^ i) | none => R L d) := by
 induction m with
 | zero =>
  intro i hi
  have hwj : wrap64 ((j : Int) + 1) = ((j + 1 : Nat) : Int) := by rw [w64 (by omega) (by omega)]; omega
  have hg : nextFrom N d i 0 = none := by rw [nextFrom]
  have h0 := ho L d hd (by omega)
  rw [hg]
  refine Ev.succ (h0.of fun k => ?_)
  rw [impl_order.l1, if_neg (by omega), hwj]
 | succ m ih =>
  intro i hi
  have h256 := pow8 hn
  have hd8 : d < 256 := Nat.lt_of_lt_of_le hd h256
  have hNi : N.getD i 0 < 256 := Nat.lt_of_lt_of_le (getD_lt hb i) h256
  have hstep := fun k => order_step hN hn L d i j k hd8 hNi (by omega) hj hL
  have ih := ih (i + 1) (by omega)
  refine Ev.succ ?_
  cases hbit : d.testBit i with
  | true =>
   have hg : nextFrom N d i (m + 1) = nextFrom N d (i + 1) m := by rw [nextFrom, if_neg (by simp [hbit])]
   rw [hg]
   refine ih.of fun k => ?_
   rw [hstep, if_pos hbit]
  | false =>
   by_cases hz : sub (N.getD i 0) d = 0
   ·have hg : nextFrom N d i (m + 1) = some i := by rw [nextFrom, if_pos ⟨hbit, hz⟩]
    rw [hg]
    have h0 := ho (L ++ [i]) (d ||| 2 ^ i) (Nat.or_lt_two_pow hd (Nat.pow_lt_pow_right (by omega) (by omega))) (by simp; omega)
    refine h0.of fun k => ?_
    rw [hstep, if_neg (by simp [hbit]), if_pos (by omega)]
   ·have hg : nextFrom N d i (m + 1) = nextFrom N d (i + 1) m := by rw [nextFrom, if_neg (fun h => hz h.2)]
    rw [hg]
    refine ih.of fun k => ?_
    rw [hstep, if_neg (by simp [hbit]), if_neg (by omega)]
theorem ev_orderGo {N : List Nat} {n : Nat} (hN : N.length = n) (hn : n ≤ 8) (hb : below1 n N) : ∀ (m j : Nat) (L : List Nat) (d : Nat), j + m = n → d < 2 ^ n → L.length ≤ j →
  Ev (fun k => impl_order.l0 k (up N) (up L) (d : Int) (n : Int) (j : Int)) (ordR (orderGo N m L d))
 | 0, j, L, d, hj, hd, hL => by
  refine Ev.succ ((Ev.const _).of fun k => ?_)
  simp only [impl_order.l0]
  rw [if_neg (by omega)]
  rfl
 | m + 1, j, L, d, hj, hd, hL => by
  refine Ev.succ ?_
  have h := ev_next hN hn hb L d hd j hL (by omega) (fun L' d' => ordR (orderGo N m L' d')) (fun L' d' hd' hL' => ev_orderGo hN hn hb m (j + 1) L' d' (by omega) hd' hL') N.length 0 (by omega)
  have e : (match nextFrom N d 0 N.length with | some i => ordR (orderGo N m (L ++ [i]) (d ||| 2 ^ i)) | none => ordR (orderGo N m L d)) = ordR (orderGo N (m + 1) L d) := by
   rw [orderGo, nextD]
   cases he : nextFrom N d 0 N.length <;> rfl
  rw [← e]
  refine h.of fun k => ?_
  simp only [impl_order.l0]
  rw [if_pos (by omega), up_length, hN]
  rfl
theorem ev_order {N : List Nat} (hn : N.length ≤ 8) (hb : below1 N.length N) : Ev (fun k => impl_order.f k (up N)) (ordR (orderD N)) := by
 have h := ev_orderGo rfl hn hb N.length 0 [] 0 (by omega) (Nat.two_pow_pos _) (by simp)
 refine h.of fun k => ?_
 unfold impl_order.f
 rw [up_length]
 rfl
/-- What an order (as far as it goes) and its set have. -/
structure OrdOk (N : List Nat) (L : List Nat) (d : Nat) : Prop where
 lt : ∀ i ∈ L, i < N.length
 set : ∀ i, d.testBit i = true ↔ i ∈ L
 dlt : d < 2 ^ N.length
 nodup : L.Nodup
 len : L.length + zb N.length d = N.length
 needs : ∀ pre i suf, L = pre ++ i :: suf → ∀ k, (N.getD i 0).testBit k = true → k ∈ pre
theorem zb_step {p i : Nat} (hp : p.testBit i = false) : ∀ {n : Nat}, i < n → zb n (p ||| 2 ^ i) + 1 = zb n p
 | 0, h => by omega
 | n + 1, h => by
  simp only [zb, or_bit]
  by_cases hi : i = n
  ·subst hi
   have : ∀ m, m ≤ i → zb m (p ||| 2 ^ i) = zb m p := by
    intro m
    induction m with
    | zero => intro _; rfl
    | succ m ih =>
     intro hm
     simp only [zb, or_bit, ih (by omega)]
     have : i ≠ m := by omega
     simp [this]
   rw [this i (Nat.le_refl _)]
   simp [hp]
  ·have := zb_step hp (n := n) (by omega)
   cases p.testBit n <;> simp [hi] <;> omega
theorem zb_zero : ∀ n, zb n 0 = n
 | 0 => rfl
 | n + 1 => by simp [zb, zb_zero n]
theorem zb_full (n : Nat) : ∀ m, m ≤ n → zb m (2 ^ n - 1) = 0
 | 0, _ => rfl
 | m + 1, h => by
  simp only [zb, zb_full n m (by omega), Nat.testBit_two_pow_sub_one]
  simp; omega
theorem OrdOk.step {N L : List Nat} {d i : Nat} (hn : N.length ≤ 8) (hb : below1 N.length N) (h : OrdOk N L d) (hi : i < N.length) (h1 : d.testBit i = false) (h2 : sub (N.getD i 0) d = 0) : OrdOk N (L ++ [i]) (d ||| 2 ^ i) where
 lt := by
  intro k hk
  rcases List.mem_append.1 hk with hk | hk
  ·exact h.lt k hk
  ·rw [List.mem_singleton.1 hk]; exact hi
 set := by
  intro k
  rw [or_bit, List.mem_append, List.mem_singleton, Bool.or_eq_true, h.set, decide_eq_true_eq]
  constructor
  ·rintro (h | h)
   ·exact .inl h
   ·exact .inr h.symm
  ·rintro (h | h)
   ·exact .inl h
   ·exact .inr h.symm
 dlt := Nat.or_lt_two_pow h.dlt (Nat.pow_lt_pow_right (by omega) hi)
 nodup := by
  rw [List.nodup_append]
  refine ⟨h.nodup, by simp, fun a ha b hb => ?_⟩
  rw [List.mem_singleton.1 hb]
  rintro rfl
  have := (h.set a).2 ha
  rw [this] at h1
  cases h1
 len := by
  have := zb_step h1 hi
  have := h.len
  simp
  omega
 needs := by
  intro pre k suf he m hm
  rcases List.eq_nil_or_concat suf with rfl | ⟨s2, x, rfl⟩
  ·have h3 : pre = L ∧ k = i := by
    have := List.append_inj' he (by simp)
    simpa [eq_comm] using this
   obtain ⟨rfl, rfl⟩ := h3
   have hd8 : d < 256 := Nat.lt_of_lt_of_le h.dlt (pow8 hn)
   have h4 := sub_testBit (i := m) (Nat.lt_of_lt_of_le (getD_lt hb k) (pow8 hn)) hd8
   rw [h2, hm] at h4
   simp at h4
   exact (h.set m).1 h4
  ·have h3 : L = pre ++ k :: s2 := by
    have e2 : L ++ [i] = (pre ++ k :: s2) ++ [x] := by rw [he]; simp
    exact (List.append_inj' e2 (by simp)).1
   exact h.needs pre k s2 h3 m hm
theorem orderGo_ok {N : List Nat} (hn : N.length ≤ 8) (hb : below1 N.length N) : ∀ {m : Nat} {L : List Nat} {d : Nat}, OrdOk N L d → OrdOk N (orderGo N m L d).1 (orderGo N m L d).2
 | 0, L, d, h => h
 | m + 1, L, d, h => by
  rw [orderGo]
  cases he : nextD N d with
  | none => exact orderGo_ok hn hb h
  | some i =>
   have := nextD_spec he
   exact orderGo_ok hn hb (h.step hn hb this.1 this.2.1 this.2.2)
theorem orderD_ok {N : List Nat} (hn : N.length ≤ 8) (hb : below1 N.length N) : OrdOk N (orderD N).1 (orderD N).2 :=
 orderGo_ok hn hb ⟨by simp, by simp, Nat.two_pow_pos _, by simp, by rw [zb_zero]; simp, by simp⟩
/-- What is known of a valid graph. -/
def mkG (g : List Tk) (N : List Nat) : GD := ⟨g, N, (orderD N).1, (reach N (orderD N).1 g.length).1, (reach N (orderD N).1 g.length).2⟩
def graphD (g : List Tk) : Option GD := match needsD g with
 | none => none
 | some N => if (orderD N).2 = 2 ^ g.length - 1 then some (mkG g N) else none
theorem graphD_spec {g : List Tk} {G : GD} (h : graphD g = some G) : ∃ N, needsD g = some N ∧ (orderD N).2 = 2 ^ g.length - 1 ∧ G = mkG g N := by
 unfold graphD at h
 cases he : needsD g with
 | none => rw [he] at h; cases h
 | some N =>
  rw [he] at h
  simp only [] at h
  by_cases hf : (orderD N).2 = 2 ^ g.length - 1
  ·rw [if_pos hf] at h
   cases h
   exact ⟨N, rfl, hf, rfl⟩
  ·rw [if_neg hf] at h; cases h
theorem graphD_tasks {g : List Tk} {G : GD} (h : graphD g = some G) : G.tasks = g := by
 obtain ⟨N, _, _, rfl⟩ := graphD_spec h
 rfl
theorem graphD_ok {g : List Tk} {G : GD} (h : graphD g = some G) : GOk G := by
 obtain ⟨N, h1, h2, rfl⟩ := graphD_spec h
 obtain ⟨h8, hl, hb⟩ := needsD_spec h1
 have hb' : below1 N.length N := by rw [hl]; exact hb
 have ok := orderD_ok (by omega) hb'
 have hob : ∀ i ∈ (orderD N).1, i < g.length := fun i hi => by have := ok.lt i hi; omega
 have hr := reach_below hb hob
 refine ⟨h8, hl, hb, ?_, hob, reach_len1 _ _ _, hr.1, reach_len2 _ _ _, hr.2⟩
 have := ok.len
 rw [h2, hl, zb_full _ _ (Nat.le_refl _)] at this
 exact this
set_option maxRecDepth 100000 in
set_option maxHeartbeats 4000000 in
theorem graphOf_no2 (k : Nat) (A0 : Option Addr) (c0 : Nat) (l0 : List Tk) (N O : List Nat) (d : Nat) (w : World) (hr0 : k38.C w A0 l0.length l0) (hc0 : l0.length ≤ c0) (h8 : l0.length ≤ 8) (hne : d ≠ 2 ^ l0.length - 1)
  (h : impl_needsOf.f k l0 = some (up N, true)) (ho : impl_order.f k (up N) = some (up O, (d : Int))) :
  Calls Tryd.prog 55 #[.slice A0 l0.length c0] w fun e w' => e = .returned (.tuple #[.pointer none, .bool false]) ∧ Below w.heap.size w w' := by
 have h' := Lib.hid h
 have ho' := Lib.hid ho
 clear h ho
 have hev := everything_calls l0.length h8
 generalize 2 ^ l0.length - 1 = full at hne hev
 generalize hfi : ((full : Nat) : Int) = fi at hev
 generalize hdi : ((d : Nat) : Int) = di at ho'
 have hne1 : (di != fi) = true := by simp; omega
 clear hfi hdi
 refine calls_marks Tryd.func55 rfl ?_
 simp only [Tryd.ntmps55, List.size_toArray, List.length_cons, List.length_nil, Nat.reduceAdd, Nat.reduceSub, Array.replicate_succ, Array.replicate_zero, List.push_toArray, List.append_toArray, List.nil_append, List.cons_append]
 go_wp2_with (first | (go_at_call 62; refine (impl_needsOf.calls k A0 c0 l0 _ _ _ hr0 hc0 h'.out).mono ?_; rintro e w1 ⟨v0, rfl, hR1, hB1⟩; obtain ⟨A1, c1, rfl, hl1', hC1⟩ := Kd.R_reads hR1; have hz1 := Lib.hid (up_length N)) | (go_at_call 63; refine (impl_order.calls k _ _ (up N) _ _ _ hC1 hl1' ho'.out).mono ?_; rintro e w2 ⟨v1, rfl, hR2, hB2⟩) | (go_at_call 64; refine (hev _).mono ?_; rintro e w3 ⟨rfl, rfl⟩))
 refine leave_ret (Marks.nil w.heap.size w.heap.size _) (fun W => results_tmp2 rfl _ _ _) ?_
 intro W' ht
 exact ⟨rfl, ht.below (below_step hB1 hB2) (Nat.le_refl _) (Nat.le_refl _)⟩
/-- What graphOf hands back. -/
def graphPost (A0 : Option Addr) (g : List Tk) (w : World) (e : Ending) (w' : World) : Prop := match graphD g with
 | none => e = .returned (.tuple #[.pointer none, .bool false]) ∧ Below w.heap.size w w'
 | some G => ∃ (b : Nat) (v : Value), e = .returned (.tuple #[.pointer (some ⟨b, 0, none⟩), .bool true]) ∧ Below w.heap.size w w' ∧ w.heap.size ≤ b ∧ IsG w' b G ∧ w'.cell? ⟨b, 2, none⟩ = some v ∧ (Kd.int .i64).R 3 w' w.heap.size (fun _ => True) v (up G.order) ∧ (∀ W2 : World, k38.C W2 A0 g.length g → (∀ k, w.heap.size ≤ k → k < w'.heap.size → W2.heap[k]? = w'.heap[k]?) → IsG W2 b G)
theorem graphOf_calls (A0 : Option Addr) (c0 : Nat) (l0 : List Tk) (w : World) (hT : Tab w) (hr0 : k38.C w A0 l0.length l0) (hc0 : l0.length ≤ c0) :
  Calls Tryd.prog 55 #[.slice A0 l0.length c0] w (graphPost A0 l0 w) := by
 have hn := ev_needsOf l0
 cases he : needsD l0 with
 | none =>
  rw [he] at hn
  obtain ⟨k, hk⟩ := hn.one
  refine (graphOf_no1 k A0 c0 l0 [] w hr0 hc0 hk).mono ?_
  intro e w' h
  have hg : graphD l0 = none := by unfold graphD; rw [he]
  unfold graphPost
  rw [hg]
  exact h
 | some N =>
  rw [he] at hn
  obtain ⟨h8, hl, hb⟩ := needsD_spec he
  have hb' : below1 N.length N := by rw [hl]; exact hb
  have ho := ev_order (N := N) (by omega) hb'
  have ok := orderD_ok (N := N) (by omega) hb'
  obtain ⟨k, h1, h2⟩ := hn.both ho
  by_cases hf : (orderD N).2 = 2 ^ l0.length - 1
  ·have hg : graphD l0 = some (mkG l0 N) := by unfold graphD; rw [he]; simp only []; rw [if_pos hf]
   have h2' : impl_order.f k (up N) = some (up (orderD N).1, ((2 ^ l0.length - 1 : Nat) : Int)) := by rw [← hf]; exact h2
   have gok := graphD_ok hg
   refine (graphOf_yes k A0 c0 l0 N (orderD N).1 w hT hr0 hc0 h8 hl hb gok.ob (by have := gok.ol; have := gok.n8; show (orderD N).1.length ≤ 8; simp only [mkG] at *; omega) h1 h2').mono ?_
   intro e w' h
   unfold graphPost
   rw [hg]
   exact h
  ·have hg : graphD l0 = none := by unfold graphD; rw [he]; simp only []; rw [if_neg hf]
   refine (graphOf_no2 k A0 c0 l0 N (orderD N).1 (orderD N).2 w hr0 hc0 h8 hf h1 h2).mono ?_
   intro e w' h
   unfold graphPost
   rw [hg]
   exact h
end Go.Proofs.YtnhkajanbfgbiaaDoor.Core
end
section
set_option linter.unusedVariables false
set_option linter.unusedSimpArgs false
namespace Go.Proofs.YtnhkajanbfgbiaaDoor.Core
open Go Go.RowKit Go.Proofs.YtnhkajanbfgbiaaDoorW.PrintWords Go.Proofs.YtnhkajanbfgbiaaDoorW.PrintMore Go.Proofs.YtnhkajanbfgbiaaDoor.P
abbrev big : Nat := 4611686018427387904
theorem w64s {n : Nat} (h : n < big) : wrap64 ((n : Int) + 1) = ((n + 1 : Nat) : Int) := by rw [w64 (by omega) (by unfold big at h; omega)]; omega
theorem inRange_eq (x a b : Int) : spec_inRange.f x a b = some (decide (a ≤ x ∧ x ≤ b)) := by
 unfold spec_inRange.f
 by_cases h : a ≤ x
 ·rw [if_pos h]; simp; omega
 ·rw [if_neg h]; simp; omega
theorem ev_isIn_from (L : List Int) (x : Int) (hL : L.length < big) : ∀ (r pre : List Int), L = pre ++ r → Ev (fun k => spec_isIn.l0 k L x (pre.length : Int)) (decide (x ∈ r))
 | [], pre, hp => by
  refine Ev.succ ((Ev.const _).of fun k => ?_)
  rw [List.append_nil] at hp
  subst hp
  rw [spec_isIn.l0, if_neg (by omega)]
  simp
 | y :: r, pre, hp => by
  have hlen : L.length = pre.length + (r.length + 1) := by rw [hp]; simp
  have hrd : rd L (pre.length : Int) = y := by rw [hp]; exact rd_mid rfl
  refine Ev.succ ?_
  by_cases hy : y = x
  ·refine (Ev.const _).of fun k => ?_
   rw [spec_isIn.l0, if_pos (by omega), if_pos (by omega), hrd, if_pos hy]
   simp [hy]
  ·have ih := ev_isIn_from L x hL r (pre ++ [y]) (by rw [hp]; simp)
   have e : decide (x ∈ y :: r) = decide (x ∈ r) := by
    have : x ≠ y := fun h => hy h.symm
    simp [this]
   rw [e]
   refine ih.of fun k => ?_
   rw [spec_isIn.l0, if_pos (by omega), if_pos (by omega), hrd, if_neg hy, w64s (by omega)]
   simp
theorem ev_isIn {L : List Int} (hL : L.length < big) (x : Int) : Ev (fun k => spec_isIn.f k L x) (decide (x ∈ L)) := ev_isIn_from L x hL L [] rfl
theorem ev_allIn_from (L : List Int) (a b : Int) (hL : L.length < big) : ∀ (r pre : List Int), L = pre ++ r → Ev (fun k => spec_allIn.l0 k L a b (pre.length : Int)) (decide (∀ x ∈ r, a ≤ x ∧ x ≤ b))
 | [], pre, hp => by
  refine Ev.succ ((Ev.const _).of fun k => ?_)
  rw [List.append_nil] at hp
  subst hp
  rw [spec_allIn.l0, if_neg (by omega)]
  simp
 | y :: r, pre, hp => by
  have hlen : L.length = pre.length + (r.length + 1) := by rw [hp]; simp
  have hrd : rd L (pre.length : Int) = y := by rw [hp]; exact rd_mid rfl
  refine Ev.succ ?_
  by_cases hy : a ≤ y ∧ y ≤ b
  ·have ih := ev_allIn_from L a b hL r (pre ++ [y]) (by rw [hp]; simp)
   have e : decide (∀ x ∈ y :: r, a ≤ x ∧ x ≤ b) = decide (∀ x ∈ r, a ≤ x ∧ x ≤ b) := by simp [hy]
   rw [e]
   refine ih.of fun k => ?_
   rw [spec_allIn.l0, if_pos (by omega), if_pos (by omega), hrd, inRange_eq, decide_eq_true hy, Option.bind_some, if_pos rfl, w64s (by omega)]
   simp
  ·refine (Ev.const _).of fun k => ?_
   rw [spec_allIn.l0, if_pos (by omega), if_pos (by omega), hrd, inRange_eq, decide_eq_false hy, Option.bind_some, if_neg (by simp)]
   simp only [Option.some.injEq]
   rw [eq_comm, decide_eq_false_iff_not]
   exact fun h => hy (h y List.mem_cons_self)
theorem ev_allIn {L : List Int} (hL : L.length < big) (a b : Int) : Ev (fun k => spec_allIn.f k L a b) (decide (∀ x ∈ L, a ≤ x ∧ x ≤ b)) := ev_allIn_from L a b hL L [] rfl
def ascD : List Int → Bool
 | [] => true
 | [_] => true
 | x :: y :: r => decide (x < y) && ascD (y :: r)
theorem ev_asc_from (L : List Int) (hL : L.length < big) : ∀ (r pre : List Int) (x : Int), L = pre ++ x :: r → Ev (fun k => spec_ascends.l0 k L ((pre.length + 1 : Nat) : Int)) (ascD (x :: r))
 | [], pre, x, hp => by
  have hlen : L.length = pre.length + 1 := by rw [hp]; simp
  refine Ev.succ ((Ev.const _).of fun k => ?_)
  rw [spec_ascends.l0, if_neg (by omega)]
  rfl
 | y :: r, pre, x, hp => by
  have hlen : L.length = pre.length + (r.length + 1 + 1) := by rw [hp]; simp
  have hw : wrap64 (((pre.length + 1 : Nat) : Int) - 1) = (pre.length : Int) := by rw [w64 (by omega) (by unfold big at hL; omega)]; omega
  have hrd : rd L (pre.length : Int) = x := by rw [hp]; exact rd_mid rfl
  have hrd2 : rd L ((pre.length + 1 : Nat) : Int) = y := by
   have : L = (pre ++ [x]) ++ y :: r := by rw [hp]; simp
   rw [this]; exact rd_mid (by simp)
  refine Ev.succ ?_
  by_cases hy : x < y
  ·have ih := ev_asc_from L hL r (pre ++ [x]) y (by rw [hp]; simp)
   have e : ascD (x :: y :: r) = ascD (y :: r) := by simp [ascD, hy]
   rw [e]
   refine ih.of fun k => ?_
   rw [spec_ascends.l0, if_pos (by omega), if_pos (by omega), hw, if_pos (by omega), if_pos (by omega), hrd, hrd2, if_neg (by omega), w64s (by omega)]
   simp
  ·have e : ascD (x :: y :: r) = false := by simp [ascD, hy]
   rw [e]
   refine (Ev.const _).of fun k => ?_
   rw [spec_ascends.l0, if_pos (by omega), if_pos (by omega), hw, if_pos (by omega), if_pos (by omega), hrd, hrd2, if_pos (by omega)]
theorem ev_ascends {L : List Int} (hL : L.length < big) : Ev (fun k => spec_ascends.f k L) (ascD L) := by
 cases L with
 | nil =>
  refine Ev.of (Ev.succ ((Ev.const true).of (g := fun k => spec_ascends.l0 (k + 1) [] 1) fun k => ?_)) (fun k => rfl)
  rw [spec_ascends.l0, if_neg (by simp)]
 | cons x r => exact ev_asc_from (x :: r) hL r [] x rfl
theorem ev_allDone_from (L M : List Int) (hL : L.length < big) (hM : M.length < big) : ∀ (r pre : List Int), L = pre ++ r → Ev (fun k => spec_allDone.l0 k L M (pre.length : Int)) (decide (∀ x ∈ r, x ∈ M))
 | [], pre, hp => by
  refine Ev.succ ((Ev.const _).of fun k => ?_)
  rw [List.append_nil] at hp
  subst hp
  rw [spec_allDone.l0, if_neg (by omega)]
  simp
 | y :: r, pre, hp => by
  have hlen : L.length = pre.length + (r.length + 1) := by rw [hp]; simp
  have hrd : rd L (pre.length : Int) = y := by rw [hp]; exact rd_mid rfl
  have hi := ev_isIn hM y
  refine Ev.succ ?_
  by_cases hy : y ∈ M
  ·have ih := ev_allDone_from L M hL hM r (pre ++ [y]) (by rw [hp]; simp)
   have e : decide (∀ x ∈ y :: r, x ∈ M) = decide (∀ x ∈ r, x ∈ M) := by simp [hy]
   rw [e]
   rw [decide_eq_true hy] at hi
   refine (hi.bind (g := fun k t => if t = true then spec_allDone.l0 k L M ((pre ++ [y]).length : Int) else some false) (ih.of fun k => if_pos rfl)).of fun k => ?_
   rw [spec_allDone.l0, if_pos (by omega), if_pos (by omega), hrd, w64s (by omega)]
   simp
  ·have e : decide (∀ x ∈ y :: r, x ∈ M) = false := by
    rw [decide_eq_false_iff_not]
    exact fun h => hy (h y List.mem_cons_self)
   rw [e]
   rw [decide_eq_false hy] at hi
   refine (hi.bind (g := fun k t => if t = true then spec_allDone.l0 k L M ((pre ++ [y]).length : Int) else some false) ((Ev.const false).of fun k => if_neg (by simp))).of fun k => ?_
   rw [spec_allDone.l0, if_pos (by omega), if_pos (by omega), hrd, w64s (by omega)]
   simp
theorem ev_allDone {L M : List Int} (hL : L.length < big) (hM : M.length < big) : Ev (fun k => spec_allDone.f k L M) (decide (∀ x ∈ L, x ∈ M)) := ev_allDone_from L M hL hM L [] rfl
def needsOk (n : Nat) (l : List Int) : Prop := (∀ x ∈ l, 0 ≤ x ∧ x ≤ (n : Int) - 1) ∧ ascD l = true
instance (n : Nat) (l : List Int) : Decidable (needsOk n l) := by unfold needsOk; infer_instance
theorem ev_validTask {t : Tk} (ht : t.f1.length < big) {n : Nat} (hn : n < big) : Ev (fun k => spec_validTask.f k t.f0 t.f1 t.f2 t.f3 (n : Int)) (decide (taskOk t ∧ needsOk n t.f1)) := by
 have hw : wrap64 ((n : Int) - 1) = (n : Int) - 1 := w64 (by omega) (by unfold big at hn; omega)
 have hA := ev_allIn ht 0 ((n : Int) - 1)
 have hB := ev_ascends ht
 by_cases h1 : 1 ≤ t.f0 ∧ t.f0 ≤ 20
 ·by_cases h2 : 0 ≤ t.f2 ∧ t.f2 ≤ 2
  ·by_cases h3 : 1 ≤ t.f3 ∧ t.f3 ≤ 4
   ·have hok : taskOk t := ⟨h1, h2, h3⟩
    have hu : ∀ k, spec_validTask.f k t.f0 t.f1 t.f2 t.f3 (n : Int) = (spec_allIn.f k t.f1 0 ((n : Int) - 1)).bind fun t113 => (if t113 = true then ((spec_ascends.f k t.f1).bind fun t114 => (some t114)) else (some false)) := by
     intro k
     unfold spec_validTask.f
     rw [inRange_eq, inRange_eq, inRange_eq, decide_eq_true h1, decide_eq_true h2, decide_eq_true h3, hw]
     rfl
    refine Ev.of ?_ hu
    refine (hA.bind (g := fun k t113 => if t113 = true then ((spec_ascends.f k t.f1).bind fun t114 => (some t114)) else (some false)) (b := decide (taskOk t ∧ needsOk n t.f1)) ?_)
    by_cases h4 : ∀ x ∈ t.f1, 0 ≤ x ∧ x ≤ (n : Int) - 1
    ·rw [decide_eq_true h4]
     have e : decide (taskOk t ∧ needsOk n t.f1) = ascD t.f1 := by
      cases h5 : ascD t.f1
      ·rw [decide_eq_false_iff_not]; intro h; have := h.2.2; rw [h5] at this; cases this
      ·rw [decide_eq_true_eq]; exact ⟨hok, h4, h5⟩
     rw [e]
     refine (hB.bind (g := fun _ t114 => some t114) (Ev.const _)).of fun k => ?_
     rw [if_pos rfl]
    ·rw [decide_eq_false h4]
     have e : decide (taskOk t ∧ needsOk n t.f1) = false := by rw [decide_eq_false_iff_not]; exact fun h => h4 h.2.1
     rw [e]
     exact (Ev.const false).of fun k => if_neg (by simp)
   ·have e : decide (taskOk t ∧ needsOk n t.f1) = false := by rw [decide_eq_false_iff_not]; exact fun h => h3 h.1.2.2
    rw [e]
    refine (Ev.const false).of fun k => ?_
    unfold spec_validTask.f
    rw [inRange_eq, inRange_eq, inRange_eq, decide_eq_true h1, decide_eq_true h2, decide_eq_false h3]
    rfl
  ·have e : decide (taskOk t ∧ needsOk n t.f1) = false := by rw [decide_eq_false_iff_not]; exact fun h => h2 h.1.2.1
   rw [e]
   refine (Ev.const false).of fun k => ?_
   unfold spec_validTask.f
   rw [inRange_eq, inRange_eq, decide_eq_true h1, decide_eq_false h2]
   rfl
 ·have e : decide (taskOk t ∧ needsOk n t.f1) = false := by rw [decide_eq_false_iff_not]; exact fun h => h1 h.1.1
  rw [e]
  refine (Ev.const false).of fun k => ?_
  unfold spec_validTask.f
  rw [inRange_eq, decide_eq_false h1]
  rfl
/-- All lists are of a size that fits. -/
def Fits (g : List Tk) : Prop := g.length < big ∧ ∀ t ∈ g, t.f1.length < big
theorem ev_tasksFine_from (g : List Tk) (hg : Fits g) : ∀ (r pre : List Tk), g = pre ++ r → Ev (fun k => spec_tasksFine.l0 k g (pre.length : Int)) (decide ((∀ t ∈ r, taskOk t ∧ needsOk g.length t.f1) ∧ g.length ≤ 8))
 | [], pre, hp => by
  refine Ev.succ ((Ev.const _).of fun k => ?_)
  rw [List.append_nil] at hp
  subst hp
  rw [spec_tasksFine.l0, if_neg (by omega)]
  congr 1
  rw [decide_eq_decide]
  constructor
  ·intro h; exact ⟨by simp, by omega⟩
  ·intro h; omega
 | t :: r, pre, hp => by
  have hlen : g.length = pre.length + (r.length + 1) := by rw [hp]; simp
  have hbig := hg.1
  have hrd : rd_T38 g (pre.length : Int) = t := by rw [hp]; exact rdT_mid rfl
  have hv := ev_validTask (hg.2 t (by rw [hp]; simp)) hg.1
  refine Ev.succ ?_
  by_cases hy : taskOk t ∧ needsOk g.length t.f1
  ·have ih := ev_tasksFine_from g hg r (pre ++ [t]) (by rw [hp]; simp)
   have e : decide ((∀ t' ∈ t :: r, taskOk t' ∧ needsOk g.length t'.f1) ∧ g.length ≤ 8) = decide ((∀ t ∈ r, taskOk t ∧ needsOk g.length t.f1) ∧ g.length ≤ 8) := by simp [hy]
   rw [e]
   rw [decide_eq_true hy] at hv
   refine (hv.bind (g := fun k b => if b = true then spec_tasksFine.l0 k g ((pre ++ [t]).length : Int) else some false) (ih.of fun k => if_pos rfl)).of fun k => ?_
   rw [spec_tasksFine.l0, if_pos (by omega), if_pos (by omega), hrd, w64s (by omega)]
   simp
  ·have e : decide ((∀ t' ∈ t :: r, taskOk t' ∧ needsOk g.length t'.f1) ∧ g.length ≤ 8) = false := by
    rw [decide_eq_false_iff_not]
    exact fun h => hy (h.1 t List.mem_cons_self)
   rw [e]
   rw [decide_eq_false hy] at hv
   refine (hv.bind (g := fun k b => if b = true then spec_tasksFine.l0 k g ((pre ++ [t]).length : Int) else some false) ((Ev.const false).of fun k => if_neg (by simp))).of fun k => ?_
   rw [spec_tasksFine.l0, if_pos (by omega), if_pos (by omega), hrd, w64s (by omega)]
   simp
def fineD (g : List Tk) : Prop := (∀ t ∈ g, taskOk t ∧ needsOk g.length t.f1) ∧ g.length ≤ 8
instance (g : List Tk) : Decidable (fineD g) := by unfold fineD; infer_instance
theorem ev_tasksFine {g : List Tk} (hg : Fits g) : Ev (fun k => spec_tasksFine.f k g) (decide (fineD g)) := ev_tasksFine_from g hg g [] rfl
end Go.Proofs.YtnhkajanbfgbiaaDoor.Core
end
section
set_option linter.unusedVariables false
set_option linter.unusedSimpArgs false
namespace Go.Proofs.YtnhkajanbfgbiaaDoor.Core
open Go Go.RowKit Go.Shelf Go.Proofs.YtnhkajanbfgbiaaDoorW.PrintWords Go.Proofs.YtnhkajanbfgbiaaDoorW.PrintMore Go.Proofs.YtnhkajanbfgbiaaDoor.P
attribute [local go_sem] Oper.semAt_some wide_fn wide_depth
theorem needsGo_taskOk {n : Nat} : ∀ {r : List Tk} {N : List Nat}, needsGo n r = some N → ∀ t ∈ r, taskOk t
 | [], _, _, t, ht => by cases ht
 | a :: r, N, h, t, ht => by
  rw [needsGo] at h
  cases he : setD n a.f1 with
  | none => rw [he] at h; cases h
  | some s =>
   rw [he] at h
   by_cases hok : taskOk a
   ·simp only [hok, if_true] at h
    cases hg : needsGo n r with
    | none => rw [hg] at h; cases h
    | some M =>
     rcases List.mem_cons.1 ht with rfl | ht
     ·exact hok
     ·exact needsGo_taskOk hg t ht
   ·simp [hok] at h
theorem graphD_taskOk {g : List Tk} {G : GD} (h : graphD g = some G) : ∀ t ∈ g, taskOk t := by
 obtain ⟨N, hN, _, _⟩ := graphD_spec h
 unfold needsD at hN
 by_cases h8 : g.length ≤ 8
 ·rw [if_pos h8] at hN; exact needsGo_taskOk hN
 ·rw [if_neg h8] at hN; cases hN
theorem graphD_pool {g : List Tk} {G : GD} (h : graphD g = some G) : ∀ t ∈ G.tasks, 0 ≤ t.f2 ∧ t.f2 ≤ 2 := fun t ht => by
 rw [graphD_tasks h] at ht
 exact (graphD_taskOk h t ht).2.1
theorem drawn_below {w w' : World} (h : Drawn0 w w') : Below w.heap.size w w' := by
 obtain ⟨n, rfl⟩ := h
 exact pw_below_drewN (Below.refl _ _) n
theorem graphOf_none (A0 : Option Addr) (c0 : Nat) (l0 : List Tk) (w : World) (hT : Tab w) (hr0 : k38.C w A0 l0.length l0) (hc0 : l0.length ≤ c0) (hg : graphD l0 = none) :
  Calls Tryd.prog 55 #[.slice A0 l0.length c0] w fun e w' => e = .returned (.tuple #[.pointer none, .bool false]) ∧ Below w.heap.size w w' :=
 (graphOf_calls A0 c0 l0 w hT hr0 hc0).mono fun e w' h => by unfold graphPost at h; rw [hg] at h; exact h
theorem graphOf_row (A0 : Option Addr) (c0 : Nat) (l0 : List Tk) (G : GD) (w : World) (hT : Tab w) (hr0 : k38.C w A0 l0.length l0) (hc0 : l0.length ≤ c0) (hg : graphD l0 = some G) :
  Calls Tryd.prog 55 #[.slice A0 l0.length c0] w fun e w' => ∃ (b : Nat) (v : Value), e = .returned (.tuple #[.pointer (some ⟨b, 0, none⟩), .bool true]) ∧ Below w.heap.size w w' ∧ w.heap.size ≤ b ∧ IsG w' b G ∧ w'.cell? ⟨b, 2, none⟩ = some v ∧ (Kd.int .i64).R 3 w' w.heap.size (fun _ => True) v (up G.order) :=
 (graphOf_calls A0 c0 l0 w hT hr0 hc0).mono fun e w' h => by
  unfold graphPost at h
  rw [hg] at h
  obtain ⟨b, v, h1, h2, h3, h4, h5, h6, _⟩ := h
  exact ⟨b, v, h1, h2, h3, h4, h5, h6⟩
theorem graphOf_some (A0 : Option Addr) (c0 : Nat) (l0 : List Tk) (G : GD) (w : World) (hT : Tab w) (hr0 : k38.C w A0 l0.length l0) (hc0 : l0.length ≤ c0) (hg : graphD l0 = some G) :
  Calls Tryd.prog 55 #[.slice A0 l0.length c0] w fun e w' => ∃ b : Nat, e = .returned (.tuple #[.pointer (some ⟨b, 0, none⟩), .bool true]) ∧ Below w.heap.size w w' ∧ IsG w' b G :=
 (graphOf_row A0 c0 l0 G w hT hr0 hc0 hg).mono fun e w' ⟨b, v, h1, h2, _, h3, _⟩ => ⟨b, h1, h2, h3⟩
theorem within_is (x a b : Int) (t : Bool) (w : World) (h : decide (a ≤ x ∧ x ≤ b) = t) :
  Calls Tryd.prog 24 #[.int .i64 x, .int .i64 a, .int .i64 b] w fun e w' => e = .returned (.bool t) ∧ Below w.heap.size w w' :=
 (impl_within.calls x a b t w (by rw [within_eq, h])).mono fun e w' h => ⟨h.1, drawn_below h.2⟩
theorem cell_set {W : World} {p t i : Nat} {cs : Array Value} (h : W.heap[p]? = some (.cells cs t (0, 0))) (v : Value) : (W.setCell ⟨p, i, none⟩ v).heap[p]? = some (.cells (cs.setIfInBounds i v) t (0, 0)) := by
 obtain ⟨hlt, hk⟩ := Array.getElem?_eq_some_iff.1 h
 show (W.heap.modify p _)[p]? = _
 rw [Array.getElem?_eq_getElem (by rw [Array.size_modify]; exact hlt), Array.getElem_modify_self, hk]
 rfl
theorem grown_trans {a b c : World} {row : Option Nat} (h1 : a.grownBy b row) (h2 : b.grownBy c row) : a.grownBy c row :=
 ⟨h2.os.trans h1.os, h2.tape.trans h1.tape, h2.output.trans h1.output, Nat.le_trans h1.size h2.size, fun k hk hn => (h2.block k (Nat.lt_of_lt_of_le hk h1.size) hn).trans (h1.block k hk hn)⟩
theorem grown_of_below {a b : World} (row : Option Nat) (h : Below a.heap.size a b) : a.grownBy b row := ⟨h.os, h.tape, h.output, h.size, fun k hk _ => h.block k hk⟩
end Go.Proofs.YtnhkajanbfgbiaaDoor.Core
end
section
set_option linter.unusedVariables false
set_option linter.unusedSimpArgs false
namespace Go.Proofs.YtnhkajanbfgbiaaDoor.Core
open Go Go.RowKit Go.Shelf Go.Proofs.YtnhkajanbfgbiaaDoorW.PrintWords Go.Proofs.YtnhkajanbfgbiaaDoorW.PrintLast Go.Proofs.YtnhkajanbfgbiaaDoorW.PrintMore Go.Proofs.YtnhkajanbfgbiaaDoor.P
attribute [local go_sem] Oper.semAt_some wide_fn wide_depth
/-- A counter: the tasks, the units of each pool. -/
structure Cn where
 t : Int
 u0 : Int
 u1 : Int
 u2 : Int
def Cn.cells (c : Cn) : Array Value := #[.int .i64 c.t, .int .i64 c.u0, .int .i64 c.u1, .int .i64 c.u2]
def IsCn (w : World) (b : Nat) (c : Cn) : Prop := w.heap[b]? = some (.cells #[.int .i64 c.t, .int .i64 c.u0, .int .i64 c.u1, .int .i64 c.u2] 75 (0, 0))
def Cn.add (c : Cn) (p u s : Int) : Cn :=
 { t := wrap64 (c.t + s), u0 := if p = 0 then wrap64 (c.u0 + wrap64 (s * u)) else c.u0, u1 := if p = 1 then wrap64 (c.u1 + wrap64 (s * u)) else c.u1, u2 := if p = 2 then wrap64 (c.u2 + wrap64 (s * u)) else c.u2 }
theorem IsCn.cell0 {w : World} {b : Nat} {c : Cn} (h : IsCn w b c) : w.cell? ⟨b, 0, none⟩ = some (.int .i64 c.t) := by unfold IsCn at h; simp [World.cell?, h]
theorem IsCn.cell1 {w : World} {b : Nat} {c : Cn} (h : IsCn w b c) : w.cell? ⟨b, 1, none⟩ = some (.int .i64 c.u0) := by unfold IsCn at h; simp [World.cell?, h]
theorem IsCn.cell2 {w : World} {b : Nat} {c : Cn} (h : IsCn w b c) : w.cell? ⟨b, 2, none⟩ = some (.int .i64 c.u1) := by unfold IsCn at h; simp [World.cell?, h]
theorem IsCn.cell3 {w : World} {b : Nat} {c : Cn} (h : IsCn w b c) : w.cell? ⟨b, 3, none⟩ = some (.int .i64 c.u2) := by unfold IsCn at h; simp [World.cell?, h]
theorem IsCn.frozen {w : World} {b i : Nat} {c : Cn} (h : IsCn w b c) : w.frozen? ⟨b, i, none⟩ = false := by unfold IsCn at h; simp [World.frozen?, h]
theorem IsCn.move {w w' : World} {b : Nat} {c : Cn} (h : IsCn w b c) (hb : Below w.heap.size w w') : IsCn w' b c := (hb.block b (cells_lt h)).trans h
set_option maxRecDepth 100000 in
set_option maxHeartbeats 4000000 in
theorem add_calls (pc : Nat) (c : Cn) (f0 f2 f3 s : Int) (A : Option Addr) (n cp : Nat) (w : World) (hc : IsCn w pc c) (hp : f2 = 0 ∨ f2 = 1 ∨ f2 = 2) :
  Calls Tryd.prog 44 #[.pointer (some ⟨pc, 0, none⟩), .agg #[.int .i64 f0, .slice A n cp, .int .i64 f2, .int .i64 f3], .int .i64 s] w fun e w' => e = .returned (.tuple #[]) ∧ w.grownBy w' (some pc) ∧ IsCn w' pc (c.add f2 f3 s) := by
 have hB0 := (Below.refl w.heap.size w).alloc (Nat.le_refl _) (.cells #[.int .i64 f0, .slice A n cp, .int .i64 f2, .int .i64 f3] 38)
 have hcA := hc.move hB0
 have hc0 := hcA.cell0
 have hf0 := hcA.frozen (i := 0)
 go_enter Tryd.func44, Tryd.ntmps44
 go_wp2
 have hpar : (w.alloc (.cells #[.int .i64 f0, .slice A n cp, .int .i64 f2, .int .i64 f3] 38)).heap[w.heap.size]? = some (.cells #[.int .i64 f0, .slice A n cp, .int .i64 f2, .int .i64 f3] 38 (0, 0)) := cells_new w _
 clear hc0 hf0
 have hlt := cells_lt hc
 revert hB0 hcA hpar
 generalize w.alloc (.cells #[.int .i64 f0, .slice A n cp, .int .i64 f2, .int .i64 f3] 38) = w1
 intro hB0 hcA hpar
 have hg1 := grown_trans (grown_of_below (some pc) hB0) (grownBy_setCell'' w1 pc 0 (.int .i64 (wrap64 (c.t + s))))
 have hpar2 := (sother (i := 0) (.int .i64 (wrap64 (c.t + s))) (show w.heap.size ≠ pc by omega)).trans hpar
 have hcB : IsCn (w1.setCell ⟨pc, 0, none⟩ (.int .i64 (wrap64 (c.t + s)))) pc { c with t := wrap64 (c.t + s) } := cell_set hcA _
 revert hg1 hpar2 hcB
 generalize w1.setCell ⟨pc, 0, none⟩ (.int .i64 (wrap64 (c.t + s))) = w2
 intro hg1 hpar2 hcB
 clear hB0 hcA hpar
 refine wp_region_still_tail 15 rfl (by kernel_rfl) ?_
 change wpStill _ _ w2.drew (fun a' => wpList _ _ _ _ a' w2.drew) _ _
 have hdr : Below w2.heap.size w2 w2.drew := below_drew (Below.refl _ _)
 revert hdr
 generalize w2.drew = w3
 intro hdr
 have hcC := hcB.move hdr
 have hpar3 := (hdr.block _ (cells_lt hpar2)).trans hpar2
 have hg3 := grown_trans hg1 (grown_of_below (some pc) hdr)
 clear hcB hpar2 hg1 hdr
 have ht2 : w3.cell? ⟨w.heap.size, 2, none⟩ = some (.int .i64 f2) := by simp [World.cell?, hpar3]
 have ht3 : w3.cell? ⟨w.heap.size, 3, none⟩ = some (.int .i64 f3) := by simp [World.cell?, hpar3]
 have hc1 := hcC.cell1
 have hc2 := hcC.cell2
 have hc3 := hcC.cell3
 have hf1 := hcC.frozen (i := 1)
 have hf2 := hcC.frozen (i := 2)
 have hf3 := hcC.frozen (i := 3)
 simp only [List.take_succ_cons, List.take_zero, List.drop_succ_cons, List.drop_zero]
 rcases hp with rfl | rfl | rfl
 ·repeat still_step
  refine wpStill_nil ?_
  go_wp2
  go_end0
  exact ⟨rfl, grown_trans hg3 (grownBy_setCell'' _ _ _ _), cell_set hcC _⟩
 ·repeat still_step
  refine wpStill_nil ?_
  go_wp2
  go_end0
  exact ⟨rfl, grown_trans hg3 (grownBy_setCell'' _ _ _ _), cell_set hcC _⟩
 ·repeat still_step
  refine wpStill_nil ?_
  go_wp2
  go_end0
  exact ⟨rfl, grown_trans hg3 (grownBy_setCell'' _ _ _ _), cell_set hcC _⟩
theorem IsCn.tame {B : Nat} {w w' : World} {b : Nat} {c : Cn} (h : IsCn w b c) (ht : Tame B w w') : IsCn w' b c := ht.cells h
def Cn.zero : Cn := ⟨0, 0, 0, 0⟩
def cstep (g : List Tk) (c : Cn) (i : Nat) : Cn := c.add (g.getD i z38).f2 (g.getD i z38).f3 1
end Go.Proofs.YtnhkajanbfgbiaaDoor.Core
end
section
set_option linter.unusedVariables false
set_option linter.unusedSimpArgs false
namespace Go.Proofs.YtnhkajanbfgbiaaDoor.Core
open Go Go.RowKit Go.Shelf Go.Proofs.YtnhkajanbfgbiaaDoorW.PrintWords Go.Proofs.YtnhkajanbfgbiaaDoorW.PrintLast Go.Proofs.YtnhkajanbfgbiaaDoorW.PrintMore Go.Proofs.YtnhkajanbfgbiaaDoor.P
attribute [local go_sem] Oper.semAt_some wide_fn wide_depth max2_int max_two
def icells (L : List Nat) : Array Value := (L.map fun (x : Nat) => Value.int .i64 (x : Int)).toArray
theorem icell {W : World} {p t : Nat} {L : List Nat} (h : W.heap[p]? = some (.cells (icells L) t (0, 0))) (i : Nat) (hi : i < L.length) : W.cell? ⟨p, i, none⟩ = some (.int .i64 ((L.getD i 0 : Nat) : Int)) := by
 simp [World.cell?, h, icells, hi]
theorem ifrozen {W : World} {p t : Nat} {L : List Nat} (h : W.heap[p]? = some (.cells (icells L) t (0, 0))) (i : Nat) : W.frozen? ⟨p, i, none⟩ = false := by
 simp [World.frozen?, h]
theorem iset {W : World} {p t : Nat} {L : List Nat} (h : W.heap[p]? = some (.cells (icells L) t (0, 0))) (i x : Nat) : (W.setCell ⟨p, i, none⟩ (.int .i64 (x : Int))).heap[p]? = some (.cells (icells (L.set i x)) t (0, 0)) := by
 rw [blk_set h i _]
 congr 2
 apply Array.ext'
 simp [icells, List.map_set]
/-- What the loops hold: the row, its variable; the rest as it was. -/
structure SI (w0 : World) (p pO n : Nat) (W : World) (L : List Nat) : Prop where
 row : W.heap[p]? = some (.cells (icells L) 3 (0, 0))
 box : Boxed W pO 23 (.slice (some ⟨p, 0, none⟩) n n)
 below : Below w0.heap.size w0 W
theorem SI.tame {w0 W W' : World} {p pO n B : Nat} {L : List Nat} (h : SI w0 p pO n W L) (hb : w0.heap.size ≤ B) (ht : Tame B W W') : SI w0 p pO n W' L := ⟨ht.cells h.row, ht.boxed h.box, ht.below h.below (Nat.le_refl _) hb⟩
theorem SI.move {w0 W W' : World} {p pO n : Nat} {L : List Nat} (h : SI w0 p pO n W L) (hb : Below W.heap.size W W') : SI w0 p pO n W' L := ⟨(hb.block _ (cells_lt h.row)).trans h.row, (hb.block _ h.box.lt).trans h.box, below_step h.below hb⟩
theorem SI.alloc {w0 W : World} {p pO n : Nat} {L : List Nat} (h : SI w0 p pO n W L) (o : Obj) : SI w0 p pO n (W.alloc o) L := h.move ((Below.refl W.heap.size W).alloc (Nat.le_refl _) o)
theorem SI.set {w0 W : World} {p pO n : Nat} {L : List Nat} (h : SI w0 p pO n W L) (hp : w0.heap.size ≤ p) (hne : pO ≠ p) (i x : Nat) : SI w0 p pO n (W.setCell ⟨p, i, none⟩ (.int .i64 (x : Int))) (L.set i x) := ⟨iset h.row i x, (sother _ hne).trans h.box, h.below.setCell (p := ⟨p, i, none⟩) hp _⟩
theorem infoI : (Tryd.prog.info? 3).map (fun i => (i.zero, i.size, i.bytes)) = some (some (.int .i64 0), 1, 8) := by kernel_rfl
theorem run_make_ints (n : Nat) (hn : n ≤ 8) (W : World) : (Instr.makeSlice 23 (.int .i64 (n : Int)) (.int .i64 (n : Int))).run Tryd.prog W = .ok (.slice (some ⟨W.heap.size, 0, none⟩) n n) (W.alloc (.cells (icells (List.replicate n 0)) 3)) := by
 obtain ⟨i0, hi, hz0, hz1, hz2⟩ := info_parts infoI
 have hr := run_make (P := Tryd.prog) W 23 3 i0 (.int .i64 0) Tryd.underlying23 hi hz0 .i64 .i64 (n : Int) (n : Int) (by omega) (by omega) (by rw [hz2]; omega) (by omega)
 rw [hz1] at hr
 simp only [Int.toNat_natCast, Nat.mul_one] at hr
 rw [hr]
 rw [show madeCells (Value.cells (.int .i64 0)) n = icells (List.replicate n 0) from (madeCells1 _ n).trans (by simp [icells])]
/-- A block of numbers, told as a row. -/
theorem icells_R {w : World} {base p n : Nat} {L : List Nat} (hp : base ≤ p) (hrow : w.heap[p]? = some (.cells (icells L) 3 (0, 0))) (hl : L.length = n) (hn : n ≤ 8) : (Kd.int .i64).R 3 w base (fun _ => True) (.slice (some ⟨p, 0, none⟩) n n) (up L) := by
 have hl' : (up L).length = n := by rw [up_length]; exact hl
 exact row_R (k := .i64) (xs := up L) ⟨by simp [encs], .inr ⟨p, n, icells L, by rw [hl'], hp, hrow, by rw [hl']; exact Nat.le_refl _, by unfold maxLen; omega, by simp [icells]; exact hl, by rw [hl']; simp [icells, encs, up]; exact List.take_of_length_le (by rw [List.length_map]; exact Nat.le_of_eq hl)⟩⟩
end Go.Proofs.YtnhkajanbfgbiaaDoor.Core
end
section
set_option linter.unusedVariables false
set_option linter.unusedSimpArgs false
namespace Go.Proofs.YtnhkajanbfgbiaaDoor.Core
open Go Go.RowKit Go.Proofs.YtnhkajanbfgbiaaDoorW.PrintWords Go.Proofs.YtnhkajanbfgbiaaDoorW.PrintMore Go.Proofs.YtnhkajanbfgbiaaDoor.P
/-- The time of a task. -/
def tmN (g : List Tk) (i : Nat) : Nat := (g.getD i z38).f0.toNat
theorem getD_set_ne {L : List Nat} {i j x : Nat} (h : j ≠ i) : (L.set i x).getD j 0 = L.getD j 0 := by
 rw [List.getD_eq_getElem?_getD, List.getElem?_set_ne (Ne.symm h), ← List.getD_eq_getElem?_getD]
def leB (b : Nat) (L : List Nat) : Prop := ∀ i, L.getD i 0 ≤ b
theorem leB_mono {a b : Nat} {L : List Nat} (h : leB a L) (hab : a ≤ b) : leB b L := fun i => Nat.le_trans (h i) hab
def tm20 (g : List Tk) : Prop := ∀ i, tmN g i ≤ 20
end Go.Proofs.YtnhkajanbfgbiaaDoor.Core
end
section
set_option linter.unusedVariables false
set_option linter.unusedSimpArgs false
namespace Go.Proofs.YtnhkajanbfgbiaaDoor.Core
open Go Go.RowKit Go.Proofs.YtnhkajanbfgbiaaDoorW.PrintWords Go.Proofs.YtnhkajanbfgbiaaDoorW.PrintMore Go.Proofs.YtnhkajanbfgbiaaDoor.P
theorem i64_w' (n : Int) : IntKind.i64.wrap n = Go.RowKit.wrap64 n := by unfold Go.RowKit.wrap64; exact IntKind.wrap_i64 n
theorem tm20_of {g : List Tk} (h : ∀ t ∈ g, taskOk t) : tm20 g := by
 intro i
 unfold tmN
 rw [List.getD_eq_getElem?_getD]
 cases e : g[i]? with
 | none => simp [z38]
 | some t =>
  have := (h t (List.mem_of_getElem? e)).1
  simp only [Option.getD_some]
  omega
theorem tm_int {g : List Tk} (h : ∀ t ∈ g, taskOk t) {i : Nat} (hi : i < g.length) : (g.getD i z38).f0 = (tmN g i : Int) ∧ 1 ≤ tmN g i ∧ tmN g i ≤ 20 := by
 have hm : g.getD i z38 ∈ g := by
  rw [List.getD_eq_getElem?_getD, List.getElem?_eq_getElem hi]
  exact List.getElem_mem hi
 have := (h _ hm).1
 unfold tmN
 omega
/-- Sums and greatest ones of small numbers, as the program reckons them. -/
theorem wadd {a b : Nat} (ha : a ≤ 100000) (hb : b ≤ 100000) : wrap64 ((a : Int) + (b : Int)) = ((a + b : Nat) : Int) ∧ IntKind.i64.wrap ((a : Int) + (b : Int)) = ((a + b : Nat) : Int) := by
 have h : wrap64 ((a : Int) + (b : Int)) = ((a + b : Nat) : Int) := by rw [w64 (by omega) (by omega)]; omega
 exact ⟨h, by rw [i64_w']; exact h⟩
theorem wmax (a b : Nat) : (if (a : Int) < (b : Int) then (b : Int) else (a : Int)) = ((max a b : Nat) : Int) := by split <;> omega
end Go.Proofs.YtnhkajanbfgbiaaDoor.Core
end
section
set_option linter.unusedVariables false
set_option linter.unusedSimpArgs false
namespace Go.Proofs.YtnhkajanbfgbiaaDoor.Core
open Go Go.RowKit Go.Shelf Go.Proofs.YtnhkajanbfgbiaaDoorW.PrintWords Go.Proofs.YtnhkajanbfgbiaaDoorW.PrintMore Go.Proofs.YtnhkajanbfgbiaaDoor.P
attribute [local go_sem] Oper.semAt_some wide_fn wide_depth
/-- Whether rooms are valid. -/
def roomOk (l : List Int) : Prop := l.length = 3 ∧ ∀ x ∈ l, 4 ≤ x ∧ x ≤ 8
instance (l : List Int) : Decidable (roomOk l) := by unfold roomOk; infer_instance
theorem ev_room_from (L : List Int) (hL : L.length = 3) : ∀ (r pre : List Int), L = pre ++ r → Ev (fun k => impl_ValidRoom.l0 k L (L.length : Int) (pre.length : Int)) (decide (∀ x ∈ r, 4 ≤ x ∧ x ≤ 8))
 | [], pre, hp => by
  refine Ev.succ ((Ev.const _).of fun k => ?_)
  rw [List.append_nil] at hp
  subst hp
  rw [impl_ValidRoom.l0, if_neg (by omega)]
  simp
 | y :: r, pre, hp => by
  have hlen : L.length = pre.length + (r.length + 1) := by rw [hp]; simp
  have hrd : rd L (pre.length : Int) = y := by rw [hp]; exact rd_mid rfl
  refine Ev.succ ?_
  by_cases hy : 4 ≤ y ∧ y ≤ 8
  ·have ih := ev_room_from L hL r (pre ++ [y]) (by rw [hp]; simp)
   have e : decide (∀ x ∈ y :: r, 4 ≤ x ∧ x ≤ 8) = decide (∀ x ∈ r, 4 ≤ x ∧ x ≤ 8) := by simp [hy]
   rw [e]
   refine ih.of fun k => ?_
   rw [impl_ValidRoom.l0, if_pos (by omega), if_pos (by omega), if_pos (by omega), hrd, within_eq, decide_eq_true hy, Option.bind_some, if_pos rfl, w64 (by omega) (by omega)]
   simp
  ·refine (Ev.const _).of fun k => ?_
   rw [impl_ValidRoom.l0, if_pos (by omega), if_pos (by omega), if_pos (by omega), hrd, within_eq, decide_eq_false hy, Option.bind_some, if_neg (by simp)]
   simp only [Option.some.injEq]
   rw [eq_comm, decide_eq_false_iff_not]
   exact fun h => hy (h y List.mem_cons_self)
theorem ev_ValidRoom (L : List Int) : Ev (fun k => impl_ValidRoom.f k L) (decide (roomOk L)) := by
 by_cases h : L.length = 3
 ·have e : decide (roomOk L) = decide (∀ x ∈ L, 4 ≤ x ∧ x ≤ 8) := by rw [decide_eq_decide]; exact ⟨fun x => x.2, fun x => ⟨h, x⟩⟩
  rw [e]
  refine (ev_room_from L h L [] rfl).of fun k => ?_
  unfold impl_ValidRoom.f
  rw [if_pos (by omega)]
  rfl
 ·refine (Ev.const _).of fun k => ?_
  unfold impl_ValidRoom.f
  rw [if_neg (by omega), eq_comm]
  simp only [Option.some.injEq, decide_eq_false_iff_not]
  exact fun x => h x.1
theorem room_is (A : Option Addr) (c : Nat) (L : List Int) (t : Bool) (w : World) (hC : (Kd.int .i64).C w A L.length L) (hc : L.length ≤ c) (h : decide (roomOk L) = t) :
  Calls Tryd.prog 56 #[.slice A L.length c] w fun e w' => e = .returned (.bool t) ∧ Below w.heap.size w w' := by
 obtain ⟨k, hk⟩ := (ev_ValidRoom L).one
 rw [h] at hk
 exact (impl_ValidRoom.calls k A c L t w hC hc hk).mono fun e w' h => ⟨h.1, drawn_below h.2⟩
end Go.Proofs.YtnhkajanbfgbiaaDoor.Core
end
