/- What the proofs of several laws use: words and contracts, part 3 of 4. -/
import Derived.Test.YtfehecoebkbgeaaDoorZCT12
import Derived.Shelf.Strings.Builder1
import Derived.Shelf.Strings.OnBuilder
import Derived.Shelf.Strconv.Itoa3
import Derived.Laws.Bits64
namespace Go.Proofs.YtfehecoebkbgeaaDoor.P
abbrev T3qc : Bool := true
abbrev F3qc : Bool := false
end Go.Proofs.YtfehecoebkbgeaaDoor.P
section
namespace Go.Proofs.YtfehecoebkbgeaaDoor.P
open Go.RowKit Go.Proofs.YtfehecoebkbgeaaDoorW.PrintWords Go.Proofs.YtfehecoebkbgeaaDoorW.PrintLast Go.Proofs.YtfehecoebkbgeaaDoorW.PrintMore
attribute [local go_sem] max2_int min2_int max_two min_two max_three min_three max_four min_four   -- for this text's walks alone
set_option linter.unusedVariables false
set_option linter.unusedSimpArgs false
mutual
def spec_decimal.j0 : Nat → Int → Bool → Option (ByteArray)
 | 0, _, _ => none
 | k + 1, x0, x10 => if x10 = true then (some (⟨#[45, 57, 50, 50, 51, 51, 55, 50, 48, 51, 54, 56, 53, 52, 55, 55, 53, 56, 48, 56]⟩ : ByteArray)) else (if x0 < 0 then ((spec_decimal.f k (wrap64 (-x0))).bind fun t133 => (if 1 + t133.size ≤ 9223372036854775807 then (some ((⟨#[45]⟩ : ByteArray) ++ t133)) else (none))) else (if x0 < 10 then (some (strOfNums (([(wrap64 (48 + x0)) % 256] : List Int)))) else ((spec_decimal.f k (wrap64 (Int.tdiv x0 10))).bind fun t137 => ((some (([(wrap64 (48 + (Int.tmod x0 10))) % 256] : List Int) : List Int)).bind fun y138 => (if t137.size + (strOfNums y138).size ≤ 9223372036854775807 then (some (t137 ++ (strOfNums y138))) else (none))))))
def spec_decimal.f : Nat → Int → Option (ByteArray)
 | 0, _ => none
 | k + 1, a0 => if a0 < 0 then (spec_decimal.j0 k a0 (a0 == (wrap64 (-a0)))) else (spec_decimal.j0 k a0 false)
end
theorem spec_decimal.mono_l : ∀ k, (∀ y0, LeO (spec_decimal.f k y0) (spec_decimal.f (k + 1) y0)) ∧ (∀ y0 y1, LeO (spec_decimal.j0 k y0 y1) (spec_decimal.j0 (k + 1) y0 y1))
 | 0 => ⟨fun _ r h => by simp [spec_decimal.f] at h, fun _ _ r h => by simp [spec_decimal.j0] at h⟩
 | k + 1 => by
  obtain ⟨ih0, ih1⟩ := spec_decimal.mono_l k
  refine ⟨?_, ?_⟩
  ·intro y0
   unfold spec_decimal.f
   repeat' first
   | (with_reducible exact ih0 _)
   | (with_reducible exact ih1 _ _)
   | (with_reducible exact LeO.refl _)
   | (with_reducible exact LeO.none _)
   | (with_reducible refine LeO.ite ?_ ?_)
   | (with_reducible refine LeO.bind ?_ (fun _ => ?_))
   | exact ih0 _
   | exact ih1 _ _
   | exact LeO.none _
   | refine LeO.ite ?_ ?_
   | refine LeO.bind ?_ (fun _ => ?_)
  ·intro y0 y1
   unfold spec_decimal.j0
   repeat' first
   | (with_reducible exact ih0 _)
   | (with_reducible exact ih1 _ _)
   | (with_reducible exact LeO.refl _)
   | (with_reducible exact LeO.none _)
   | (with_reducible refine LeO.ite ?_ ?_)
   | (with_reducible refine LeO.bind ?_ (fun _ => ?_))
   | exact ih0 _
   | exact ih1 _ _
   | exact LeO.none _
   | refine LeO.ite ?_ ?_
   | refine LeO.bind ?_ (fun _ => ?_)
theorem spec_decimal.mono : ∀ a0 k, LeO (spec_decimal.f k a0) (spec_decimal.f (k + 1) a0) := by
 intro a0 k
 obtain ⟨ih0, ih1⟩ := spec_decimal.mono_l k
 exact ih0 a0
def spec_decimal.T7 : Bool × List (List Nat × List Nat) := (true, [([], []), ([0], [0]), ([1], [1]), ([], []), ([3], [3]), ([4], [4]), ([5], [5]), ([6], [6]), ([7], [7]), ([2, 8], [2, 8]), ([9, 2, 0, 1, 2, 3, 4, 5, 6, 7, 8, 9], [9])])
def spec_decimal.B7 : List Nat := [0, 1, 3, 0, 8, 24, 56, 120, 248, 511, 1023]
theorem spec_decimal.tab7 : rtab .any (opsOf Tryd.f42 7) = spec_decimal.T7 := by kernel_rfl
theorem spec_decimal.bits7 : waitsOk spec_decimal.T7.2 spec_decimal.B7 = true := by kernel_rfl
set_option maxHeartbeats 8000000 in
set_option maxRecDepth 100000 in
theorem spec_decimal.calls (k : Nat) : ∀ (a0 : Int) (r : ByteArray) (w : World) (h : spec_decimal.f k a0 = some r),
  Calls Tryd.prog 42 #[.int .i64 a0] w fun e w' => e = .returned (.string r) ∧ Below w.heap.size w w' := by
 induction k using Nat.strongRecOn with
 | _ k ih =>
 intro a0 r w h
 cases k with
 | zero => exact absurd h (by simp [spec_decimal.f])
 | succ k =>
 simp only [spec_decimal.f] at h
 have HB := Aside0.mk (Below.refl w.heap.size w)
 have H : (if a0 < 0 then (spec_decimal.j0 k a0 (a0 == (wrap64 (-a0)))) else (spec_decimal.j0 k a0 false)) = some r := h
 clear h
 have HC2 := Aside0.mk H
 clear H
 go_enter Tryd.func42, Tryd.ntmps42
 go_upto_region 1 with (fail)
 go_cut [10] (fun v10 wc => ∃ (kq : Nat) (x10_1 : Bool), v10 = .bool x10_1 ∧ Aside0 (spec_decimal.j0 kq a0 x10_1 = some r) ∧ Aside0 (kq ≤ k) ∧ Aside0 (Below w.heap.size w wc))
 case first =>
  have H := HC2.out
  clear HC2
  by_cases c3 : a0 < 0
  ·rw [if_pos c3] at H
   have c3b0 : decide (a0 < 0) = true := decide_eq_true c3
   clear c3
   (first | rw [c3b0] | (simp only [i64_w, i32_w]; rw [c3b0]) | skip)
   have H' := Aside0.mk H
   clear H
   go_wp2
   go_meet
   case rel => exact ⟨_, ((a0 == (wrap64 (-a0)))), (by first | rfl | (simp; done) | (simp [*]; done)), H', ⟨by first | omega | exact Nat.le_refl _⟩, ⟨by repeat (first | (with_reducible first | exact HB.out | apply below_alloc | apply pw_below_drewN | apply below_drew1) | exact HB.out)⟩⟩
  ·rw [if_neg c3] at H
   have c3b0 : decide (a0 < 0) = false := decide_eq_false c3
   clear c3
   (first | rw [c3b0] | (simp only [i64_w, i32_w]; rw [c3b0]) | skip)
   have H' := Aside0.mk H
   clear H
   go_wp2
   go_meet
   case rel => exact ⟨_, (false), (by first | rfl | (simp; done) | (simp [*]; done)), H', ⟨by first | omega | exact Nat.le_refl _⟩, ⟨by repeat (first | (with_reducible first | exact HB.out | apply below_alloc | apply pw_below_drewN | apply below_drew1) | exact HB.out)⟩⟩
 case rest =>
  clear HC2
  try clear p2
  try clear c3
  try clear c3b0
  obtain ⟨kq, x10_1, rfl, HA, HJ1, HB⟩ := hcut
  cases kq with
  | zero => exact absurd HA.out (by simp [spec_decimal.j0])
  | succ kj1 =>
   have H := HA.out
   clear HA
   simp only [spec_decimal.j0] at H
   by_cases c4 : x10_1 = true
   ·subst c4
    have H1 : (some (⟨#[45, 57, 50, 50, 51, 51, 55, 50, 48, 51, 54, 56, 53, 52, 55, 55, 53, 56, 48, 56]⟩ : ByteArray)) = some r := by rw [if_pos rfl] at H; exact H
    clear H
    have H := H1
    clear H1
    obtain rfl := Option.some.inj H
    go_wp2
    go_ret
    exact ⟨by first | rfl | (simp [errW_none, errW_some] <;> rfl) | (simp [*, errW_none, errW_some] <;> rfl), by repeat (first | (with_reducible first | exact HB.out | apply below_alloc | apply pw_below_drewN | apply below_drew1) | exact HB.out)⟩
   ·replace c4 := Bool.eq_false_iff.mpr c4
    subst c4
    have H1 : (if a0 < 0 then ((spec_decimal.f kj1 (wrap64 (-a0))).bind fun t133 => (if 1 + t133.size ≤ 9223372036854775807 then (some ((⟨#[45]⟩ : ByteArray) ++ t133)) else (none))) else (if a0 < 10 then (some (strOfNums (([(wrap64 (48 + a0)) % 256] : List Int)))) else ((spec_decimal.f kj1 (wrap64 (Int.tdiv a0 10))).bind fun t137 => ((some (([(wrap64 (48 + (Int.tmod a0 10))) % 256] : List Int) : List Int)).bind fun y138 => (if t137.size + (strOfNums y138).size ≤ 9223372036854775807 then (some (t137 ++ (strOfNums y138))) else (none)))))) = some r := by rw [if_neg (show ¬ (false = true) by decide)] at H; exact H
    clear H
    have H := H1
    clear H1
    by_cases c5 : a0 < 0
    ·rw [if_pos c5] at H
     have c5b0 : decide (a0 < 0) = true := decide_eq_true c5
     clear c5
     replace H := Option.bind_eq_some_iff.mp H
     obtain ⟨t133, A60, H⟩ := H
     replace H : (if 1 + t133.size ≤ 9223372036854775807 then (some ((⟨#[45]⟩ : ByteArray) ++ t133)) else (none)) = some r := H
     have A6 := Aside0.mk A60
     clear A60
     by_cases c7 : 1 + t133.size ≤ 9223372036854775807
     ·rw [if_pos c7] at H
      have c7b0 := eq_true c7
      have c7b1 : decide (1 + t133.size ≤ 9223372036854775807) = true := decide_eq_true c7
      try have c7b2 : (9223372036854775807 < 1 + t133.size) = False := eq_false (Nat.not_lt.2 c7)
      obtain rfl := Option.some.inj H
      go_wp2_with (first | ((with_reducible refine gate_callee (f := 42) rfl ?_); refine goesL_ (some 15) rfl rfl Tryd.func42 (by kernel_rfl) rfl #[.int .i64 (wrap64 (-a0))] rfl (by (try simp only [List.map_toArray, List.map_cons, List.map_nil]); first | done | rfl | (simp only [List.length_drop, List.length_take]; rfl)) ?_; (with_reducible refine (ih kj1 (by have := HJ1.out; omega) (wrap64 (-a0)) t133 _ A6.out).mono ?_); rintro e w8 ⟨rfl, hb⟩; refine ⟨_, rfl, ?_⟩; have n0_ := Aside0.mk (below_step (by repeat (first | (with_reducible first | exact HB.out | apply below_alloc | apply pw_below_drewN | apply below_drew1) | exact HB.out)) hb); clear HB; have HB := n0_; clear n0_; (try clear hb); (try clear hb2); (try clear hk); (try clear hi)))
      go_ret
      exact ⟨by first | rfl | (simp [errW_none, errW_some] <;> rfl) | (simp [*, errW_none, errW_some] <;> rfl), by repeat (first | (with_reducible first | exact HB.out | apply below_alloc | apply pw_below_drewN | apply below_drew1) | exact HB.out)⟩
     ·rw [if_neg c7] at H
      exact absurd H (by simp)
    ·rw [if_neg c5] at H
     have c5b0 : decide (a0 < 0) = false := decide_eq_false c5
     clear c5
     by_cases c9 : a0 < 10
     ·rw [if_pos c9] at H
      have c9b0 : decide (a0 < 10) = true := decide_eq_true c9
      clear c9
      obtain ⟨y134, hy134⟩ : ∃ y_ : List Int, y_ = (([(wrap64 (48 + a0)) % 256] : List Int)) := ⟨_, rfl⟩
      replace H : (some (strOfNums y134)) = some r := by first | (rw [hy134]; with_reducible exact H) | (have H2_ := (Option.bind_some _ _).symm.trans H; rw [hy134]; with_reducible exact H2_) | (have H2_ := (Option.bind_some _ _).symm.trans H; with_reducible exact H2_) | with_reducible exact H | (rw [hy134]; exact H) | exact H
      have Ny134 := Aside0.mk hy134
      clear hy134
      obtain rfl := Option.some.inj H
      go_wp2_with (first | ((with_reducible refine gate_dst (N := 22) rfl ?_); refine Kd.R_lit (Kd.int .u8) _ 5 ?hg (N := 22) ?hd (xs := ([(wrap64 (48 + a0)) % 256] : List Int)) (inner := [.int .u8 ((wrap64 (48 + a0)) % 256)]) (ok := fun _ => True) (okp := fun _ => True) ?hr ?hp (fun _ hk => hk) trivial (Below.refl _ _) (Nat.le_refl _) (by simp) ?_; (case hd => rfl); (case hg => rfl); (case hr => first | (go_simp; done) | (go_simp; rfl)); (case hp => exact (Reps.one (show Kd.M (Kd.int .u8) _ _ _ ((wrap64 (48 + a0)) % 256) [.int .u8 ((wrap64 (48 + a0)) % 256)] from rfl) (Reps.none _ _))); intro v135 w10 ho11 hb hg_ hnew_; clear hg_ hnew_; (first | rw [← Ny134.out] at ho11 | (simp only [Int.reduceToNat] at ho11; rw [← Ny134.out] at ho11)); have n0_ := Aside0.mk (Kd.R_lower ho11 (below_size (by repeat (first | (with_reducible first | exact HB.out | apply below_alloc | apply pw_below_drewN | apply below_drew1) | exact HB.out)))); have n1_ := Aside0.mk (below_step (by repeat (first | (with_reducible first | exact HB.out | apply below_alloc | apply pw_below_drewN | apply below_drew1) | exact HB.out)) hb); clear HB; have HO136 := n0_; have HB := n1_; clear n0_ n1_; clear hb ho11; have hcv12 := own_string (P := Tryd.prog) Tryd.underlying29 Tryd.underlying5 Tryd.underlying9 (Kd.own_of_R HO136.out)))
      go_ret
      exact ⟨by first | rfl | (simp [errW_none, errW_some] <;> rfl) | (simp [*, errW_none, errW_some] <;> rfl), by repeat (first | (with_reducible first | exact HB.out | apply below_alloc | apply pw_below_drewN | apply below_drew1) | exact HB.out)⟩
     ·rw [if_neg c9] at H
      have c9b0 : decide (a0 < 10) = false := decide_eq_false c9
      clear c9
      replace H := Option.bind_eq_some_iff.mp H
      obtain ⟨t137, A130, H⟩ := H
      replace H : ((some (([(wrap64 (48 + (Int.tmod a0 10))) % 256] : List Int) : List Int)).bind fun y138 => (if t137.size + (strOfNums y138).size ≤ 9223372036854775807 then (some (t137 ++ (strOfNums y138))) else (none))) = some r := H
      have A13 := Aside0.mk A130
      clear A130
      obtain ⟨y138, hy138⟩ : ∃ y_ : List Int, y_ = (([(wrap64 (48 + (Int.tmod a0 10))) % 256] : List Int)) := ⟨_, rfl⟩
      replace H : (if t137.size + (strOfNums y138).size ≤ 9223372036854775807 then (some (t137 ++ (strOfNums y138))) else (none)) = some r := by first | (rw [hy138]; with_reducible exact H) | (have H2_ := (Option.bind_some _ _).symm.trans H; rw [hy138]; with_reducible exact H2_) | (have H2_ := (Option.bind_some _ _).symm.trans H; with_reducible exact H2_) | with_reducible exact H | (rw [hy138]; exact H) | exact H
      have Ny138 := Aside0.mk hy138
      clear hy138
      by_cases c14 : t137.size + (strOfNums y138).size ≤ 9223372036854775807
      ·rw [if_pos c14] at H
       have c14b0 := eq_true c14
       have c14b1 : decide (t137.size + (strOfNums y138).size ≤ 9223372036854775807) = true := decide_eq_true c14
       try have c14b2 : (9223372036854775807 < t137.size + (strOfNums y138).size) = False := eq_false (Nat.not_lt.2 c14)
       obtain rfl := Option.some.inj H
       try go_wp2
       have n0_ := Aside0.mk (below_drew1 HB.out)
       clear HB
       have HB := n0_
       clear n0_
       refine start_ (n := 11) (S := fun w' => True) (ds := []) #[F3qc,F3qc,F3qc,F3qc,F3qc,F3qc,F3qc,F3qc,F3qc,F3qc,F3qc] (by kernel_rfl) rfl rfl trivial (fun hHeld => ?_); refine with_tabW spec_decimal.tab7 spec_decimal.bits7 (fun HT_ HW_ => ?_)
       generalize wc.drew = w15 at HB hHeld ⊢
       refine pure_ (i := 0) (N := some 24) (v := ?_) (a' := ?_) #[T3qc,F3qc,F3qc,F3qc,F3qc,F3qc,F3qc,F3qc,F3qc,F3qc,F3qc] rfl rfl (any_of HT_.out (by kernel_rfl)) (fun _ _ _ h => h) (Or.inl ⟨by rfl, ?_⟩) ?_ ?_
       rotate_left
       ·intro w'
        go_simp
        with_reducible rfl
       rotate_left
       ·simp only [Act.put, List.setIfInBounds_toArray, List.set_cons_zero, List.set_cons_succ, i64_w, i32_w]
        rfl
       refine pure_ (i := 1) (N := some 25) (v := ?_) (a' := ?_) #[T3qc,T3qc,F3qc,F3qc,F3qc,F3qc,F3qc,F3qc,F3qc,F3qc,F3qc] rfl rfl (any_of HT_.out (by kernel_rfl)) (fun _ _ _ h => h) (Or.inl ⟨by rfl, ?_⟩) ?_ ?_
       rotate_left
       ·intro w'
        go_simp
        with_reducible rfl
       rotate_left
       ·simp only [Act.put, List.setIfInBounds_toArray, List.set_cons_zero, List.set_cons_succ, i64_w, i32_w]
        rfl
       refine pure_ (i := 3) (N := some 27) (v := ?_) (a' := ?_) #[T3qc,T3qc,F3qc,T3qc,F3qc,F3qc,F3qc,F3qc,F3qc,F3qc,F3qc] rfl rfl (any_of HT_.out (by kernel_rfl)) (fun _ _ _ h => h) (Or.inl ⟨by rfl, ?_⟩) ?_ ?_
       rotate_left
       ·intro w'
        go_simp
        with_reducible rfl
       rotate_left
       ·simp only [Act.put, List.setIfInBounds_toArray, List.set_cons_zero, List.set_cons_succ, i64_w, i32_w]
        rfl
       refine pure_ (i := 4) (N := some 28) (v := ?_) (a' := ?_) #[T3qc,T3qc,F3qc,T3qc,T3qc,F3qc,F3qc,F3qc,F3qc,F3qc,F3qc] rfl rfl (any_of HT_.out (by kernel_rfl)) (fun _ _ _ h => h) (Or.inl ⟨by rfl, ?_⟩) ?_ ?_
       rotate_left
       ·intro w'
        go_simp
        with_reducible rfl
       rotate_left
       ·simp only [Act.put, List.setIfInBounds_toArray, List.set_cons_zero, List.set_cons_succ, i64_w, i32_w]
        rfl
       refine pure_ (i := 5) (N := some 29) (v := ?_) (a' := ?_) #[T3qc,T3qc,F3qc,T3qc,T3qc,T3qc,F3qc,F3qc,F3qc,F3qc,F3qc] rfl rfl (any_of HT_.out (by kernel_rfl)) (fun _ _ _ h => h) (Or.inl ⟨by rfl, ?_⟩) ?_ ?_
       rotate_left
       ·intro w'
        go_simp
        with_reducible rfl
       rotate_left
       ·simp only [Act.put, List.setIfInBounds_toArray, List.set_cons_zero, List.set_cons_succ, i64_w, i32_w]
        rfl
       refine pure_ (i := 6) (N := some 30) (v := ?_) (a' := ?_) #[T3qc,T3qc,F3qc,T3qc,T3qc,T3qc,T3qc,F3qc,F3qc,F3qc,F3qc] rfl rfl (any_of HT_.out (by kernel_rfl)) (fun _ _ _ h => h) (Or.inl ⟨by rfl, ?_⟩) ?_ ?_
       rotate_left
       ·intro w'
        go_simp
        with_reducible rfl
       rotate_left
       ·simp only [Act.put, List.setIfInBounds_toArray, List.set_cons_zero, List.set_cons_succ, i64_w, i32_w]
        rfl
       refine join_ (σ := Value) 2 #[T3qc,T3qc,T3qc,T3qc,T3qc,T3qc,T3qc,T3qc,T3qc,F3qc,F3qc] (fun s_ => [(26, .string t137), (31, s_), (32, .string (strOfNums y138))]) (fun s_ w' => (Kd.R (Kd.int .u8) 5 w' w.heap.size (fun _ => True) s_ y138) ∧ (Below w.heap.size w w')) ?_ ?_
       rotate_left
       ·intro hCont
        refine two_ (i := 2) (j := 7) (Ni := some 26) (Nj := some 31) #[T3qc,T3qc,T3qc,T3qc,T3qc,T3qc,T3qc,F3qc,F3qc,F3qc,F3qc] #[T3qc,T3qc,F3qc,T3qc,T3qc,T3qc,T3qc,T3qc,F3qc,F3qc,F3qc] rfl rfl rfl rfl (two_of HT_.out (by kernel_rfl)) (by decide) (by decide) (fun K hK => ?_) (fun K hK => ?_)
        ·skip
         refine goes_ Tryd.func42 (by kernel_rfl) rfl #[.int .i64 (wrap64 (Int.tdiv a0 10))] (by rfl) rfl rfl (by (try simp only [List.map_toArray, List.map_cons, List.map_nil]); first | done | rfl | (simp only [List.length_drop, List.length_take]; rfl)) ?_
         with_reducible refine (ih kj1 (by have := HJ1.out; omega) (wrap64 (Int.tdiv a0 10)) t137 _ A13.out).mono ?_
         rintro e w16 ⟨rfl, hb⟩
         refine ⟨_, rfl, ?_⟩
         have n0_ := Aside0.mk (below_step (by repeat (first | (with_reducible first | exact HB.out | apply below_alloc | apply pw_below_drewN | apply below_drew1) | exact HB.out)) hb)
         clear HB
         have HB := n0_
         clear n0_
         (try clear hb)
         (try clear hb2)
         (try clear hk)
         (try clear hi)
         refine hK.out _ _ trivial (fun hHeld => ?_)
         clear hK K
         refine norm_ (a' := ?_) ?_ ?_
         rotate_left
         ·show Act.put _ (some 26) _ = _
          simp only [Act.put, List.setIfInBounds_toArray, List.set_cons_zero, List.set_cons_succ, i64_w, i32_w]
          rfl
         refine one_ (i := 7) (N := some 31) #[T3qc,T3qc,T3qc,T3qc,T3qc,T3qc,T3qc,T3qc,F3qc,F3qc,F3qc] rfl rfl (one_of HT_.out (by kernel_rfl)) (by decide) (fun K hK => ?_)
         refine Kd.R_lit_step (Kd.int .u8) _ 5 ?hg (N := 31) ?hd (xs := ([(wrap64 (48 + (Int.tmod a0 10))) % 256] : List Int)) (inner := [.int .u8 ((wrap64 (48 + (Int.tmod a0 10))) % 256)]) (ok := fun _ => True) (okp := fun _ => True) ?hr ?hp (fun _ hk => hk) trivial (Below.refl _ _) (Nat.le_refl _) (by simp) ?_; (case hd => rfl); (case hg => rfl); (case hr => first | (go_simp; done) | (go_simp; rfl)); (case hp => exact (Reps.one (show Kd.M (Kd.int .u8) _ _ _ ((wrap64 (48 + (Int.tmod a0 10))) % 256) [.int .u8 ((wrap64 (48 + (Int.tmod a0 10))) % 256)] from rfl) (Reps.none _ _)))
         intro v139 w17 ho18 hb hg_ hnew_
         clear hg_ hnew_
         (first | rw [← Ny138.out] at ho18 | (simp only [Int.reduceToNat] at ho18; rw [← Ny138.out] at ho18))
         have n0_ := Aside0.mk (Kd.R_lower ho18 (below_size (by repeat (first | (with_reducible first | exact HB.out | apply below_alloc | apply pw_below_drewN | apply below_drew1) | exact HB.out))))
         have n1_ := Aside0.mk (below_step (by repeat (first | (with_reducible first | exact HB.out | apply below_alloc | apply pw_below_drewN | apply below_drew1) | exact HB.out)) hb)
         clear HB
         have HO140 := n0_
         have HB := n1_
         clear n0_ n1_
         clear hb ho18
         refine hK.out _ _ trivial (fun hHeld => ?_)
         clear hK K
         refine norm_ (a' := ?_) ?_ ?_
         rotate_left
         ·show Act.put _ (some 31) _ = _
          simp only [Act.put, List.setIfInBounds_toArray, List.set_cons_zero, List.set_cons_succ, i64_w, i32_w]
          rfl
         refine one_ (i := 8) (N := some 32) #[T3qc,T3qc,T3qc,T3qc,T3qc,T3qc,T3qc,T3qc,T3qc,F3qc,F3qc] rfl rfl (one_of HT_.out (by kernel_rfl)) (by decide) (fun K hK => ?_)
         have hcv19 := own_string (P := Tryd.prog) Tryd.underlying29 Tryd.underlying5 Tryd.underlying9 (Kd.own_of_R HO140.out)
         refine value_ (w1 := ?_) (v := ?_) (by rfl) rfl ?_ ?_
         rotate_left 2
         ·go_simp
          constructor
          ·rfl
          ·rfl
         clear hcv19
         refine hK.out _ _ trivial (fun hHeld => ?_)
         clear hK K
         refine norm_ (a' := ?_) ?_ ?_
         rotate_left
         ·show Act.put _ (some 32) _ = _
          simp only [Act.put, List.setIfInBounds_toArray, List.set_cons_zero, List.set_cons_succ, i64_w, i32_w]
          rfl
         exact norm_ (by simp only [putAll, Act.put, List.setIfInBounds_toArray, List.set_cons_zero, List.set_cons_succ]) (hCont (v139) _ ⟨(by (with_reducible repeat (first | apply Kd.R_alloc | apply Kd.R_drewN | apply Kd.R_drew)); exact HO140.out), (by repeat (first | (with_reducible first | exact HB.out | apply below_alloc | apply pw_below_drewN | apply below_drew1) | exact HB.out))⟩)
        ·skip
         refine Kd.R_lit_step (Kd.int .u8) _ 5 ?hg (N := 31) ?hd (xs := ([(wrap64 (48 + (Int.tmod a0 10))) % 256] : List Int)) (inner := [.int .u8 ((wrap64 (48 + (Int.tmod a0 10))) % 256)]) (ok := fun _ => True) (okp := fun _ => True) ?hr ?hp (fun _ hk => hk) trivial (Below.refl _ _) (Nat.le_refl _) (by simp) ?_; (case hd => rfl); (case hg => rfl); (case hr => first | (go_simp; done) | (go_simp; rfl)); (case hp => exact (Reps.one (show Kd.M (Kd.int .u8) _ _ _ ((wrap64 (48 + (Int.tmod a0 10))) % 256) [.int .u8 ((wrap64 (48 + (Int.tmod a0 10))) % 256)] from rfl) (Reps.none _ _)))
         intro v139 w16 ho17 hb hg_ hnew_
         clear hg_ hnew_
         (first | rw [← Ny138.out] at ho17 | (simp only [Int.reduceToNat] at ho17; rw [← Ny138.out] at ho17))
         have n0_ := Aside0.mk (Kd.R_lower ho17 (below_size (by repeat (first | (with_reducible first | exact HB.out | apply below_alloc | apply pw_below_drewN | apply below_drew1) | exact HB.out))))
         have n1_ := Aside0.mk (below_step (by repeat (first | (with_reducible first | exact HB.out | apply below_alloc | apply pw_below_drewN | apply below_drew1) | exact HB.out)) hb)
         clear HB
         have HO140 := n0_
         have HB := n1_
         clear n0_ n1_
         clear hb ho17
         refine hK.out _ _ trivial (fun hHeld => ?_)
         clear hK K
         refine norm_ (a' := ?_) ?_ ?_
         rotate_left
         ·show Act.put _ (some 31) _ = _
          simp only [Act.put, List.setIfInBounds_toArray, List.set_cons_zero, List.set_cons_succ, i64_w, i32_w]
          rfl
         refine two_ (i := 2) (j := 8) (Ni := some 26) (Nj := some 32) #[T3qc,T3qc,T3qc,T3qc,T3qc,T3qc,T3qc,T3qc,F3qc,F3qc,F3qc] #[T3qc,T3qc,F3qc,T3qc,T3qc,T3qc,T3qc,T3qc,T3qc,F3qc,F3qc] rfl rfl rfl rfl (two_of HT_.out (by kernel_rfl)) (by decide) (by decide) (fun K hK => ?_) (fun K hK => ?_)
         ·skip
          refine goes_ Tryd.func42 (by kernel_rfl) rfl #[.int .i64 (wrap64 (Int.tdiv a0 10))] (by rfl) rfl rfl (by (try simp only [List.map_toArray, List.map_cons, List.map_nil]); first | done | rfl | (simp only [List.length_drop, List.length_take]; rfl)) ?_
          with_reducible refine (ih kj1 (by have := HJ1.out; omega) (wrap64 (Int.tdiv a0 10)) t137 _ A13.out).mono ?_
          rintro e w18 ⟨rfl, hb⟩
          refine ⟨_, rfl, ?_⟩
          have n0_ := Aside0.mk (Kd.R_below (by (with_reducible repeat (first | apply Kd.R_alloc | apply Kd.R_drewN | apply Kd.R_drew)); exact HO140.out) hb)
          have n1_ := Aside0.mk (below_step (by repeat (first | (with_reducible first | exact HB.out | apply below_alloc | apply pw_below_drewN | apply below_drew1) | exact HB.out)) hb)
          clear HO140
          clear HB
          have HO140 := n0_
          have HB := n1_
          clear n0_ n1_
          (try clear hb)
          (try clear hb2)
          (try clear hk)
          (try clear hi)
          refine hK.out _ _ trivial (fun hHeld => ?_)
          clear hK K
          refine norm_ (a' := ?_) ?_ ?_
          rotate_left
          ·show Act.put _ (some 26) _ = _
           simp only [Act.put, List.setIfInBounds_toArray, List.set_cons_zero, List.set_cons_succ, i64_w, i32_w]
           rfl
          refine one_ (i := 8) (N := some 32) #[T3qc,T3qc,T3qc,T3qc,T3qc,T3qc,T3qc,T3qc,T3qc,F3qc,F3qc] rfl rfl (one_of HT_.out (by kernel_rfl)) (by decide) (fun K hK => ?_)
          have hcv19 := own_string (P := Tryd.prog) Tryd.underlying29 Tryd.underlying5 Tryd.underlying9 (Kd.own_of_R HO140.out)
          refine value_ (w1 := ?_) (v := ?_) (by rfl) rfl ?_ ?_
          rotate_left 2
          ·go_simp
           constructor
           ·rfl
           ·rfl
          clear hcv19
          refine hK.out _ _ trivial (fun hHeld => ?_)
          clear hK K
          refine norm_ (a' := ?_) ?_ ?_
          rotate_left
          ·show Act.put _ (some 32) _ = _
           simp only [Act.put, List.setIfInBounds_toArray, List.set_cons_zero, List.set_cons_succ, i64_w, i32_w]
           rfl
          exact norm_ (by simp only [putAll, Act.put, List.setIfInBounds_toArray, List.set_cons_zero, List.set_cons_succ]) (hCont (v139) _ ⟨(by (with_reducible repeat (first | apply Kd.R_alloc | apply Kd.R_drewN | apply Kd.R_drew)); exact HO140.out), (by repeat (first | (with_reducible first | exact HB.out | apply below_alloc | apply pw_below_drewN | apply below_drew1) | exact HB.out))⟩)
         ·skip
          have hcv18 := own_string (P := Tryd.prog) Tryd.underlying29 Tryd.underlying5 Tryd.underlying9 (Kd.own_of_R HO140.out)
          refine value_ (w1 := ?_) (v := ?_) (by rfl) rfl ?_ ?_
          rotate_left 2
          ·go_simp
           constructor
           ·rfl
           ·rfl
          clear hcv18
          refine hK.out _ _ trivial (fun hHeld => ?_)
          clear hK K
          refine norm_ (a' := ?_) ?_ ?_
          rotate_left
          ·show Act.put _ (some 32) _ = _
           simp only [Act.put, List.setIfInBounds_toArray, List.set_cons_zero, List.set_cons_succ, i64_w, i32_w]
           rfl
          refine one_ (i := 2) (N := some 26) #[T3qc,T3qc,T3qc,T3qc,T3qc,T3qc,T3qc,T3qc,T3qc,F3qc,F3qc] rfl rfl (one_of HT_.out (by kernel_rfl)) (by decide) (fun K hK => ?_)
          refine goes_ Tryd.func42 (by kernel_rfl) rfl #[.int .i64 (wrap64 (Int.tdiv a0 10))] (by rfl) rfl rfl (by (try simp only [List.map_toArray, List.map_cons, List.map_nil]); first | done | rfl | (simp only [List.length_drop, List.length_take]; rfl)) ?_
          with_reducible refine (ih kj1 (by have := HJ1.out; omega) (wrap64 (Int.tdiv a0 10)) t137 _ A13.out).mono ?_
          rintro e w19 ⟨rfl, hb⟩
          refine ⟨_, rfl, ?_⟩
          have n0_ := Aside0.mk (Kd.R_below (by (with_reducible repeat (first | apply Kd.R_alloc | apply Kd.R_drewN | apply Kd.R_drew)); exact HO140.out) hb)
          have n1_ := Aside0.mk (below_step (by repeat (first | (with_reducible first | exact HB.out | apply below_alloc | apply pw_below_drewN | apply below_drew1) | exact HB.out)) hb)
          clear HO140
          clear HB
          have HO140 := n0_
          have HB := n1_
          clear n0_ n1_
          (try clear hb)
          (try clear hb2)
          (try clear hk)
          (try clear hi)
          refine hK.out _ _ trivial (fun hHeld => ?_)
          clear hK K
          refine norm_ (a' := ?_) ?_ ?_
          rotate_left
          ·show Act.put _ (some 26) _ = _
           simp only [Act.put, List.setIfInBounds_toArray, List.set_cons_zero, List.set_cons_succ, i64_w, i32_w]
           rfl
          exact norm_ (by simp only [putAll, Act.put, List.setIfInBounds_toArray, List.set_cons_zero, List.set_cons_succ]) (hCont (v139) _ ⟨(by (with_reducible repeat (first | apply Kd.R_alloc | apply Kd.R_drewN | apply Kd.R_drew)); exact HO140.out), (by repeat (first | (with_reducible first | exact HB.out | apply below_alloc | apply pw_below_drewN | apply below_drew1) | exact HB.out))⟩)
       rintro v139 w20 ⟨h0_, h1_⟩
       have n0_ : Aside0 (Kd.R (Kd.int .u8) 5 w20 w.heap.size (fun _ => True) v139 y138) := ⟨h0_⟩
       have n1_ : Aside0 (Below w.heap.size w w20) := ⟨h1_⟩
       clear HB
       clear h0_ h1_
       have HO140 := n0_
       have HB := n1_
       clear n0_ n1_
       have hHeld := trivial
       refine norm_ (a' := ?_) ?_ ?_
       rotate_left
       ·simp only [putAll, Act.put, List.setIfInBounds_toArray, List.set_cons_zero, List.set_cons_succ]
        rfl
       refine pure_ (i := 9) (N := some 33) (v := ?_) (a' := ?_) #[T3qc,T3qc,T3qc,T3qc,T3qc,T3qc,T3qc,T3qc,T3qc,T3qc,F3qc] rfl rfl (any_of HT_.out (by kernel_rfl)) (fun _ _ _ h => h) (Or.inl ⟨by rfl, ?_⟩) ?_ ?_
       rotate_left
       ·intro w'
        go_simp
        with_reducible rfl
       rotate_left
       ·simp only [Act.put, List.setIfInBounds_toArray, List.set_cons_zero, List.set_cons_succ, i64_w, i32_w]
        rfl
       refine pure_ (i := 10) (N := some 2) (v := ?_) (a' := ?_) #[T3qc,T3qc,T3qc,T3qc,T3qc,T3qc,T3qc,T3qc,T3qc,T3qc,T3qc] rfl rfl (any_of HT_.out (by kernel_rfl)) (fun _ _ _ h => h) (Or.inl ⟨by rfl, ?_⟩) ?_ ?_
       rotate_left
       ·intro w'
        go_simp
        with_reducible rfl
       rotate_left
       ·simp only [Act.put, List.setIfInBounds_toArray, List.set_cons_zero, List.set_cons_succ, i64_w, i32_w]
        rfl
       refine done_ (done_of HT_.out (by kernel_rfl)) ?_
       try go_wp2
       go_ret
       exact ⟨by first | rfl | (simp [errW_none, errW_some] <;> rfl) | (simp [*, errW_none, errW_some] <;> rfl), by repeat (first | (with_reducible first | exact HB.out | apply below_alloc | apply pw_below_drewN | apply below_drew1) | exact HB.out)⟩
      ·rw [if_neg c14] at H
       exact absurd H (by simp)
end Go.Proofs.YtfehecoebkbgeaaDoor.P
end
section
namespace Go.Proofs.YtfehecoebkbgeaaDoor.P
open Go.RowKit Go.Proofs.YtfehecoebkbgeaaDoorW.PrintWords Go.Proofs.YtfehecoebkbgeaaDoorW.PrintLast Go.Proofs.YtfehecoebkbgeaaDoorW.PrintMore
attribute [local go_sem] max2_int min2_int max_two min_two max_three min_three max_four min_four   -- for this text's walks alone
set_option linter.unusedVariables false
set_option linter.unusedSimpArgs false
def spec_taskText.l0 : Nat → ByteArray → Int → Int → List Int → Int → Int → Option (ByteArray)
 | 0, _, _, _, _, _, _ => none
 | k + 1, x3, x4, x142000, x142001, x142002, x142003 => if x4 < (x142001.length : Int) then (if x3.size + 1 ≤ 9223372036854775807 then (if 0 ≤ x4 then ((spec_decimal.f k (rd x142001 x4)).bind fun t146 => (if (x3 ++ (⟨#[32]⟩ : ByteArray)).size + t146.size ≤ 9223372036854775807 then (spec_taskText.l0 k ((x3 ++ (⟨#[32]⟩ : ByteArray)) ++ t146) (wrap64 (x4 + 1)) x142000 x142001 x142002 x142003) else (none))) else (none)) else (none)) else (some x3)
def spec_taskText.f (k : Nat) (a0_0 : Int) (l0_1 : List Int) (a0_2 : Int) (a0_3 : Int) : Option (ByteArray) := (spec_decimal.f k a0_0).bind fun t142 => (if t142.size + 1 ≤ 9223372036854775807 then ((spec_decimal.f k a0_2).bind fun t143 => (if (t142 ++ (⟨#[32]⟩ : ByteArray)).size + t143.size ≤ 9223372036854775807 then (if ((t142 ++ (⟨#[32]⟩ : ByteArray)) ++ t143).size + 1 ≤ 9223372036854775807 then ((spec_decimal.f k a0_3).bind fun t144 => (if (((t142 ++ (⟨#[32]⟩ : ByteArray)) ++ t143) ++ (⟨#[32]⟩ : ByteArray)).size + t144.size ≤ 9223372036854775807 then (spec_taskText.l0 k ((((t142 ++ (⟨#[32]⟩ : ByteArray)) ++ t143) ++ (⟨#[32]⟩ : ByteArray)) ++ t144) 0 a0_0 l0_1 a0_2 a0_3) else (none))) else (none)) else (none))) else (none))
theorem spec_taskText.mono_l : ∀ k, (∀ y0 y1 y2 y3 y4 y5, LeO (spec_taskText.l0 k y0 y1 y2 y3 y4 y5) (spec_taskText.l0 (k + 1) y0 y1 y2 y3 y4 y5))
 | 0 => fun _ _ _ _ _ _ r h => by simp [spec_taskText.l0] at h
 | k + 1 => by
  have ih0 := spec_taskText.mono_l k
  ·intro y0 y1 y2 y3 y4 y5
   unfold spec_taskText.l0
   repeat' first
   | (with_reducible exact ih0 _ _ _ _ _ _)
   | (with_reducible exact spec_decimal.mono _ _)
   | (with_reducible exact LeO.refl _)
   | (with_reducible exact LeO.none _)
   | (with_reducible refine LeO.ite ?_ ?_)
   | (with_reducible refine LeO.bind ?_ (fun _ => ?_))
   | exact ih0 _ _ _ _ _ _
   | exact spec_decimal.mono _ _
   | exact LeO.none _
   | refine LeO.ite ?_ ?_
   | refine LeO.bind ?_ (fun _ => ?_)
theorem spec_taskText.mono : ∀ a0 a1 a2 a3 k, LeO (spec_taskText.f k a0 a1 a2 a3) (spec_taskText.f (k + 1) a0 a1 a2 a3) := by
 intro a0 a1 a2 a3 k
 have ih0 := spec_taskText.mono_l k
 unfold spec_taskText.f
 repeat' first
   | (with_reducible exact ih0 _ _ _ _ _ _)
   | (with_reducible exact spec_decimal.mono _ _)
   | (with_reducible exact LeO.refl _)
   | (with_reducible exact LeO.none _)
   | (with_reducible refine LeO.ite ?_ ?_)
   | (with_reducible refine LeO.bind ?_ (fun _ => ?_))
   | exact ih0 _ _ _ _ _ _
   | exact spec_decimal.mono _ _
   | exact LeO.none _
   | refine LeO.ite ?_ ?_
   | refine LeO.bind ?_ (fun _ => ?_)
def spec_taskText.T1 : Bool × List (List Nat × List Nat) := (true, [([], []), ([0], [0]), ([1], [1]), ([2], [2]), ([], []), ([4], [4]), ([5, 2], [5]), ([3, 6], [3, 6]), ([7], [7]), ([], []), ([9], [9]), ([10, 6], [10]), ([8, 11], [8, 11]), ([12, 11, 0, 1, 2, 3, 4, 5, 6, 7, 8, 9, 10, 11, 12], [12])])
def spec_taskText.B1 : List Nat := [0, 1, 3, 7, 0, 16, 55, 127, 255, 0, 512, 1655, 4095, 8191]
theorem spec_taskText.tab1 : rtab .any (opsOf Tryd.f26 1) = spec_taskText.T1 := by kernel_rfl
theorem spec_taskText.bits1 : waitsOk spec_taskText.T1.2 spec_taskText.B1 = true := by kernel_rfl
set_option maxHeartbeats 8000000 in
set_option maxRecDepth 100000 in
theorem spec_taskText.calls (k : Nat) (a0_0 : Int) (A0_1 : Option Addr) (c0_1 : Nat) (l0_1 : List Int) (a0_2 : Int) (a0_3 : Int) (r : ByteArray) (w : World) (hr0_1 : Kd.C (Kd.int .i64) w A0_1 l0_1.length l0_1) (hc0_1 : l0_1.length ≤ c0_1) (h : spec_taskText.f k a0_0 l0_1 a0_2 a0_3 = some r) :
  Calls Tryd.prog 26 #[.agg #[.int .i64 a0_0, .slice A0_1 l0_1.length c0_1, .int .i64 a0_2, .int .i64 a0_3]] w fun e w' => e = .returned (.string r) ∧ Below w.heap.size w w' := by
 have hu33 := Tryd.underlying33
 have HR0_1 := Aside0.mk hr0_1
 have HC0_1 := Aside0.mk hc0_1
 clear hr0_1 hc0_1
 have HB := Aside0.mk (Below.refl w.heap.size w)
 have H : ((spec_decimal.f k a0_0).bind fun t142 => (if t142.size + 1 ≤ 9223372036854775807 then ((spec_decimal.f k a0_2).bind fun t143 => (if (t142 ++ (⟨#[32]⟩ : ByteArray)).size + t143.size ≤ 9223372036854775807 then (if ((t142 ++ (⟨#[32]⟩ : ByteArray)) ++ t143).size + 1 ≤ 9223372036854775807 then ((spec_decimal.f k a0_3).bind fun t144 => (if (((t142 ++ (⟨#[32]⟩ : ByteArray)) ++ t143) ++ (⟨#[32]⟩ : ByteArray)).size + t144.size ≤ 9223372036854775807 then (spec_taskText.l0 k ((((t142 ++ (⟨#[32]⟩ : ByteArray)) ++ t143) ++ (⟨#[32]⟩ : ByteArray)) ++ t144) 0 a0_0 l0_1 a0_2 a0_3) else (none))) else (none)) else (none))) else (none))) = some r := h
 clear h
 replace H := Option.bind_eq_some_iff.mp H
 obtain ⟨t142, A20, H⟩ := H
 replace H : (if t142.size + 1 ≤ 9223372036854775807 then ((spec_decimal.f k a0_2).bind fun t143 => (if (t142 ++ (⟨#[32]⟩ : ByteArray)).size + t143.size ≤ 9223372036854775807 then (if ((t142 ++ (⟨#[32]⟩ : ByteArray)) ++ t143).size + 1 ≤ 9223372036854775807 then ((spec_decimal.f k a0_3).bind fun t144 => (if (((t142 ++ (⟨#[32]⟩ : ByteArray)) ++ t143) ++ (⟨#[32]⟩ : ByteArray)).size + t144.size ≤ 9223372036854775807 then (spec_taskText.l0 k ((((t142 ++ (⟨#[32]⟩ : ByteArray)) ++ t143) ++ (⟨#[32]⟩ : ByteArray)) ++ t144) 0 a0_0 l0_1 a0_2 a0_3) else (none))) else (none)) else (none))) else (none)) = some r := H
 have A2 := Aside0.mk A20
 clear A20
 by_cases c3 : t142.size + 1 ≤ 9223372036854775807
 ·rw [if_pos c3] at H
  have c3b0 := eq_true c3
  have c3b1 : decide (t142.size + 1 ≤ 9223372036854775807) = true := decide_eq_true c3
  try have c3b2 : (9223372036854775807 < t142.size + 1) = False := eq_false (Nat.not_lt.2 c3)
  replace H := Option.bind_eq_some_iff.mp H
  obtain ⟨t143, A40, H⟩ := H
  replace H : (if (t142 ++ (⟨#[32]⟩ : ByteArray)).size + t143.size ≤ 9223372036854775807 then (if ((t142 ++ (⟨#[32]⟩ : ByteArray)) ++ t143).size + 1 ≤ 9223372036854775807 then ((spec_decimal.f k a0_3).bind fun t144 => (if (((t142 ++ (⟨#[32]⟩ : ByteArray)) ++ t143) ++ (⟨#[32]⟩ : ByteArray)).size + t144.size ≤ 9223372036854775807 then (spec_taskText.l0 k ((((t142 ++ (⟨#[32]⟩ : ByteArray)) ++ t143) ++ (⟨#[32]⟩ : ByteArray)) ++ t144) 0 a0_0 l0_1 a0_2 a0_3) else (none))) else (none)) else (none)) = some r := H
  have A4 := Aside0.mk A40
  clear A40
  by_cases c5 : (t142 ++ (⟨#[32]⟩ : ByteArray)).size + t143.size ≤ 9223372036854775807
  ·rw [if_pos c5] at H
   have c5b0 := eq_true c5
   have c5b1 : decide ((t142 ++ (⟨#[32]⟩ : ByteArray)).size + t143.size ≤ 9223372036854775807) = true := decide_eq_true c5
   try have c5b2 : (9223372036854775807 < (t142 ++ (⟨#[32]⟩ : ByteArray)).size + t143.size) = False := eq_false (Nat.not_lt.2 c5)
   try have c5b3 : (9223372036854775807 < t142.size + 1 + t143.size) = False := eq_false (Nat.not_lt.2 (by have h_ := c5; simp only [ByteArray.size_append] at h_; exact h_))
   by_cases c6 : ((t142 ++ (⟨#[32]⟩ : ByteArray)) ++ t143).size + 1 ≤ 9223372036854775807
   ·rw [if_pos c6] at H
    have c6b0 := eq_true c6
    have c6b1 : decide (((t142 ++ (⟨#[32]⟩ : ByteArray)) ++ t143).size + 1 ≤ 9223372036854775807) = true := decide_eq_true c6
    try have c6b2 : (9223372036854775807 < ((t142 ++ (⟨#[32]⟩ : ByteArray)) ++ t143).size + 1) = False := eq_false (Nat.not_lt.2 c6)
    try have c6b3 : (9223372036854775807 < t142.size + 1 + t143.size + 1) = False := eq_false (Nat.not_lt.2 (by have h_ := c6; simp only [ByteArray.size_append] at h_; exact h_))
    replace H := Option.bind_eq_some_iff.mp H
    obtain ⟨t144, A70, H⟩ := H
    replace H : (if (((t142 ++ (⟨#[32]⟩ : ByteArray)) ++ t143) ++ (⟨#[32]⟩ : ByteArray)).size + t144.size ≤ 9223372036854775807 then (spec_taskText.l0 k ((((t142 ++ (⟨#[32]⟩ : ByteArray)) ++ t143) ++ (⟨#[32]⟩ : ByteArray)) ++ t144) 0 a0_0 l0_1 a0_2 a0_3) else (none)) = some r := H
    have A7 := Aside0.mk A70
    clear A70
    by_cases c8 : (((t142 ++ (⟨#[32]⟩ : ByteArray)) ++ t143) ++ (⟨#[32]⟩ : ByteArray)).size + t144.size ≤ 9223372036854775807
    ·rw [if_pos c8] at H
     have c8b0 := eq_true c8
     have c8b1 : decide ((((t142 ++ (⟨#[32]⟩ : ByteArray)) ++ t143) ++ (⟨#[32]⟩ : ByteArray)).size + t144.size ≤ 9223372036854775807) = true := decide_eq_true c8
     try have c8b2 : (9223372036854775807 < (((t142 ++ (⟨#[32]⟩ : ByteArray)) ++ t143) ++ (⟨#[32]⟩ : ByteArray)).size + t144.size) = False := eq_false (Nat.not_lt.2 c8)
     try have c8b3 : (9223372036854775807 < t142.size + 1 + t143.size + 1 + t144.size) = False := eq_false (Nat.not_lt.2 (by have h_ := c8; simp only [ByteArray.size_append] at h_; exact h_))
     have H' := Aside0.mk H
     clear H
     go_enter Tryd.func26, Tryd.ntmps26
     try go_wp2_with (first | ((with_reducible refine gate_dst (N := 1) rfl ?_); refine box_event ?hg (N := 1) ?hd (cs := #[.int .i64 a0_0, .slice A0_1 l0_1.length c0_1, .int .i64 a0_2, .int .i64 a0_3]) (t := 33) ?hr ?_; (case hd => rfl); (case hg => rfl); (case hr => first | (go_simp; done) | (go_simp; rfl)); intro gb141 hg w9 hbox hb; have n0_ := Aside0.mk (below_step (by repeat (first | (with_reducible first | exact HB.out | apply below_alloc | apply pw_below_drewN | apply below_drew1) | exact HB.out)) hb); have n1_ := Aside0.mk (hbox); have n2_ := Aside0.mk ((by rw [hg]; exact (below_size (by repeat (first | (with_reducible first | exact HB.out | apply below_alloc | apply pw_below_drewN | apply below_drew1) | exact HB.out))) : w.heap.size ≤ gb141)); have n3_ := Aside0.mk ((by rw [hg]; exact (below_size (by repeat (first | (with_reducible first | exact HB.out | apply below_alloc | apply pw_below_drewN | apply below_drew1) | exact HB.out))) : w.heap.size ≤ gb141)); clear HB; have HB := n0_; have BK141 := n1_; have GW141 := n2_; have GE141 := n3_; clear n0_ n1_ n2_ n3_; clear hb hbox hg))
     have n0_ := Aside0.mk (blk_drew BK141.out)
     have n1_ := Aside0.mk (below_drew1 HB.out)
     clear BK141
     clear HB
     have BK141 := n0_
     have HB := n1_
     clear n0_ n1_
     refine start_ (n := 14) (S := fun w' => w'.cell? ⟨gb141, 0, none⟩ = some (.int .i64 a0_0) ∧ w'.cell? ⟨gb141, 1, none⟩ = some (.slice A0_1 l0_1.length c0_1) ∧ w'.cell? ⟨gb141, 2, none⟩ = some (.int .i64 a0_2) ∧ w'.cell? ⟨gb141, 3, none⟩ = some (.int .i64 a0_3)) (ds := []) #[F3qc,F3qc,F3qc,F3qc,F3qc,F3qc,F3qc,F3qc,F3qc,F3qc,F3qc,F3qc,F3qc,F3qc] (by kernel_rfl) rfl rfl ⟨(blk_cell BK141.out 0).trans rfl, (blk_cell BK141.out 1).trans rfl, (blk_cell BK141.out 2).trans rfl, (blk_cell BK141.out 3).trans rfl⟩ (fun hHeld => ?_); refine with_tabW spec_taskText.tab1 spec_taskText.bits1 (fun HT_ HW_ => ?_)
     generalize w9.drew = w10 at BK141 HB hHeld ⊢
     refine pure_ (i := 0) (N := some 5) (v := ?_) (a' := ?_) #[T3qc,F3qc,F3qc,F3qc,F3qc,F3qc,F3qc,F3qc,F3qc,F3qc,F3qc,F3qc,F3qc,F3qc] rfl rfl (any_of HT_.out (by kernel_rfl)) (fun _ _ _ h => h) (Or.inl ⟨by rfl, ?_⟩) ?_ ?_
     rotate_left
     ·intro w'
      go_simp
      with_reducible rfl
     rotate_left
     ·simp only [Act.put, List.setIfInBounds_toArray, List.set_cons_zero, List.set_cons_succ, i64_w, i32_w]
      rfl
     refine pure_ (i := 4) (N := some 9) (v := ?_) (a' := ?_) #[T3qc,F3qc,F3qc,F3qc,T3qc,F3qc,F3qc,F3qc,F3qc,F3qc,F3qc,F3qc,F3qc,F3qc] rfl rfl (any_of HT_.out (by kernel_rfl)) (fun _ _ _ h => h) (Or.inl ⟨by rfl, ?_⟩) ?_ ?_
     rotate_left
     ·intro w'
      go_simp
      with_reducible rfl
     rotate_left
     ·simp only [Act.put, List.setIfInBounds_toArray, List.set_cons_zero, List.set_cons_succ, i64_w, i32_w]
      rfl
     refine pure_ (i := 9) (N := some 14) (v := ?_) (a' := ?_) #[T3qc,F3qc,F3qc,F3qc,T3qc,F3qc,F3qc,F3qc,F3qc,T3qc,F3qc,F3qc,F3qc,F3qc] rfl rfl (any_of HT_.out (by kernel_rfl)) (fun _ _ _ h => h) (Or.inl ⟨by rfl, ?_⟩) ?_ ?_
     rotate_left
     ·intro w'
      go_simp
      with_reducible rfl
     rotate_left
     ·simp only [Act.put, List.setIfInBounds_toArray, List.set_cons_zero, List.set_cons_succ, i64_w, i32_w]
      rfl
     refine take_ (i := 1) (N := some 6) (v := ?_) (a' := ?_) #[T3qc,T3qc,F3qc,F3qc,T3qc,F3qc,F3qc,F3qc,F3qc,T3qc,F3qc,F3qc,F3qc,F3qc] rfl rfl (take_ofW HT_.out HW_.out (by kernel_rfl)) (fun _ _ _ h => h) (Or.inl ⟨by rfl, ?_⟩) hHeld ?_ ?_
     rotate_left
     ·rintro w' ⟨s0, s1, s2, s3⟩
      go_simp
      with_reducible rfl
     rotate_left
     ·simp only [Act.put, List.setIfInBounds_toArray, List.set_cons_zero, List.set_cons_succ, i64_w, i32_w]
      rfl
     refine take_ (i := 5) (N := some 10) (v := ?_) (a' := ?_) #[T3qc,T3qc,F3qc,F3qc,T3qc,T3qc,F3qc,F3qc,F3qc,T3qc,F3qc,F3qc,F3qc,F3qc] rfl rfl (take_ofW HT_.out HW_.out (by kernel_rfl)) (fun _ _ _ h => h) (Or.inl ⟨by rfl, ?_⟩) hHeld ?_ ?_
     rotate_left
     ·rintro w' ⟨s0, s1, s2, s3⟩
      go_simp
      with_reducible rfl
     rotate_left
     ·simp only [Act.put, List.setIfInBounds_toArray, List.set_cons_zero, List.set_cons_succ, i64_w, i32_w]
      rfl
     refine take_ (i := 10) (N := some 15) (v := ?_) (a' := ?_) #[T3qc,T3qc,F3qc,F3qc,T3qc,T3qc,F3qc,F3qc,F3qc,T3qc,T3qc,F3qc,F3qc,F3qc] rfl rfl (take_ofW HT_.out HW_.out (by kernel_rfl)) (fun _ _ _ h => h) (Or.inl ⟨by rfl, ?_⟩) hHeld ?_ ?_
     rotate_left
     ·rintro w' ⟨s0, s1, s2, s3⟩
      go_simp
      with_reducible rfl
     rotate_left
     ·simp only [Act.put, List.setIfInBounds_toArray, List.set_cons_zero, List.set_cons_succ, i64_w, i32_w]
      rfl
     refine one_ (i := 2) (N := some 7) #[T3qc,T3qc,T3qc,F3qc,T3qc,T3qc,F3qc,F3qc,F3qc,T3qc,T3qc,F3qc,F3qc,F3qc] rfl rfl (one_of HT_.out (by kernel_rfl)) (by decide) (fun K hK => ?_)
     refine goes_ Tryd.func42 (by kernel_rfl) rfl #[.int .i64 a0_0] (by rfl) rfl rfl (by (try simp only [List.map_toArray, List.map_cons, List.map_nil]); first | done | rfl | (simp only [List.length_drop, List.length_take]; rfl)) ?_
     with_reducible refine (spec_decimal.calls k a0_0 t142 _ A2.out).mono ?_
     rintro e w11 ⟨rfl, hb⟩
     refine ⟨_, rfl, ?_⟩
     have n0_ := Aside0.mk (blk_below (g := gb141) (o := .cells #[.int .i64 a0_0, .slice A0_1 l0_1.length c0_1, .int .i64 a0_2, .int .i64 a0_3] 33 (0, 0)) (by (with_reducible repeat (first | refine blk_drewN ?_ _ | refine blk_drew ?_ | refine blk_alloc ?_ _)); exact BK141.out) hb)
     have n1_ := Aside0.mk (below_step (by repeat (first | (with_reducible first | exact HB.out | apply below_alloc | apply pw_below_drewN | apply below_drew1 | refine below_set ?_ GE141.out) | exact HB.out)) hb)
     clear BK141
     clear HB
     have BK141 := n0_
     have HB := n1_
     clear n0_ n1_
     (try clear hb)
     (try clear hb2)
     (try clear hk)
     (try clear hi)
     refine hK.out _ _ ⟨(blk_cell BK141.out 0).trans rfl, (blk_cell BK141.out 1).trans rfl, (blk_cell BK141.out 2).trans rfl, (blk_cell BK141.out 3).trans rfl⟩ (fun hHeld => ?_)
     clear hK K
     refine norm_ (a' := ?_) ?_ ?_
     rotate_left
     ·show Act.put _ (some 7) _ = _
      simp only [Act.put, List.setIfInBounds_toArray, List.set_cons_zero, List.set_cons_succ, i64_w, i32_w]
      rfl
     refine pure_ (i := 3) (N := some 8) (v := ?_) (a' := ?_) #[T3qc,T3qc,T3qc,T3qc,T3qc,T3qc,F3qc,F3qc,F3qc,T3qc,T3qc,F3qc,F3qc,F3qc] rfl rfl (any_of HT_.out (by kernel_rfl)) (fun _ _ _ h => h) (Or.inl ⟨by rfl, ?_⟩) ?_ ?_
     rotate_left
     ·intro w'
      go_simp
      with_reducible rfl
     rotate_left
     ·simp only [Act.put, List.setIfInBounds_toArray, List.set_cons_zero, List.set_cons_succ, i64_w, i32_w]
      rfl
     refine one_ (i := 6) (N := some 11) #[T3qc,T3qc,T3qc,T3qc,T3qc,T3qc,T3qc,F3qc,F3qc,T3qc,T3qc,F3qc,F3qc,F3qc] rfl rfl (one_of HT_.out (by kernel_rfl)) (by decide) (fun K hK => ?_)
     refine goes_ Tryd.func42 (by kernel_rfl) rfl #[.int .i64 a0_2] (by rfl) rfl rfl (by (try simp only [List.map_toArray, List.map_cons, List.map_nil]); first | done | rfl | (simp only [List.length_drop, List.length_take]; rfl)) ?_
     with_reducible refine (spec_decimal.calls k a0_2 t143 _ A4.out).mono ?_
     rintro e w12 ⟨rfl, hb⟩
     refine ⟨_, rfl, ?_⟩
     have n0_ := Aside0.mk (blk_below (g := gb141) (o := .cells #[.int .i64 a0_0, .slice A0_1 l0_1.length c0_1, .int .i64 a0_2, .int .i64 a0_3] 33 (0, 0)) (by (with_reducible repeat (first | refine blk_drewN ?_ _ | refine blk_drew ?_ | refine blk_alloc ?_ _)); exact BK141.out) hb)
     have n1_ := Aside0.mk (below_step (by repeat (first | (with_reducible first | exact HB.out | apply below_alloc | apply pw_below_drewN | apply below_drew1 | refine below_set ?_ GE141.out) | exact HB.out)) hb)
     clear BK141
     clear HB
     have BK141 := n0_
     have HB := n1_
     clear n0_ n1_
     (try clear hb)
     (try clear hb2)
     (try clear hk)
     (try clear hi)
     refine hK.out _ _ ⟨(blk_cell BK141.out 0).trans rfl, (blk_cell BK141.out 1).trans rfl, (blk_cell BK141.out 2).trans rfl, (blk_cell BK141.out 3).trans rfl⟩ (fun hHeld => ?_)
     clear hK K
     refine norm_ (a' := ?_) ?_ ?_
     rotate_left
     ·show Act.put _ (some 11) _ = _
      simp only [Act.put, List.setIfInBounds_toArray, List.set_cons_zero, List.set_cons_succ, i64_w, i32_w]
      rfl
     refine pure_ (i := 7) (N := some 12) (v := ?_) (a' := ?_) #[T3qc,T3qc,T3qc,T3qc,T3qc,T3qc,T3qc,T3qc,F3qc,T3qc,T3qc,F3qc,F3qc,F3qc] rfl rfl (any_of HT_.out (by kernel_rfl)) (fun _ _ _ h => h) (Or.inl ⟨by rfl, ?_⟩) ?_ ?_
     rotate_left
     ·intro w'
      go_simp
      with_reducible rfl
     rotate_left
     ·simp only [Act.put, List.setIfInBounds_toArray, List.set_cons_zero, List.set_cons_succ, i64_w, i32_w]
      rfl
     refine pure_ (i := 8) (N := some 13) (v := ?_) (a' := ?_) #[T3qc,T3qc,T3qc,T3qc,T3qc,T3qc,T3qc,T3qc,T3qc,T3qc,T3qc,F3qc,F3qc,F3qc] rfl rfl (any_of HT_.out (by kernel_rfl)) (fun _ _ _ h => h) (Or.inl ⟨by rfl, ?_⟩) ?_ ?_
     rotate_left
     ·intro w'
      go_simp
      with_reducible rfl
     rotate_left
     ·simp only [Act.put, List.setIfInBounds_toArray, List.set_cons_zero, List.set_cons_succ, i64_w, i32_w]
      rfl
     refine one_ (i := 11) (N := some 16) #[T3qc,T3qc,T3qc,T3qc,T3qc,T3qc,T3qc,T3qc,T3qc,T3qc,T3qc,T3qc,F3qc,F3qc] rfl rfl (one_of HT_.out (by kernel_rfl)) (by decide) (fun K hK => ?_)
     refine goes_ Tryd.func42 (by kernel_rfl) rfl #[.int .i64 a0_3] (by rfl) rfl rfl (by (try simp only [List.map_toArray, List.map_cons, List.map_nil]); first | done | rfl | (simp only [List.length_drop, List.length_take]; rfl)) ?_
     with_reducible refine (spec_decimal.calls k a0_3 t144 _ A7.out).mono ?_
     rintro e w13 ⟨rfl, hb⟩
     refine ⟨_, rfl, ?_⟩
     have n0_ := Aside0.mk (blk_below (g := gb141) (o := .cells #[.int .i64 a0_0, .slice A0_1 l0_1.length c0_1, .int .i64 a0_2, .int .i64 a0_3] 33 (0, 0)) (by (with_reducible repeat (first | refine blk_drewN ?_ _ | refine blk_drew ?_ | refine blk_alloc ?_ _)); exact BK141.out) hb)
     have n1_ := Aside0.mk (below_step (by repeat (first | (with_reducible first | exact HB.out | apply below_alloc | apply pw_below_drewN | apply below_drew1 | refine below_set ?_ GE141.out) | exact HB.out)) hb)
     clear BK141
     clear HB
     have BK141 := n0_
     have HB := n1_
     clear n0_ n1_
     (try clear hb)
     (try clear hb2)
     (try clear hk)
     (try clear hi)
     refine hK.out _ _ ⟨(blk_cell BK141.out 0).trans rfl, (blk_cell BK141.out 1).trans rfl, (blk_cell BK141.out 2).trans rfl, (blk_cell BK141.out 3).trans rfl⟩ (fun hHeld => ?_)
     clear hK K
     refine norm_ (a' := ?_) ?_ ?_
     rotate_left
     ·show Act.put _ (some 16) _ = _
      simp only [Act.put, List.setIfInBounds_toArray, List.set_cons_zero, List.set_cons_succ, i64_w, i32_w]
      rfl
     refine pure_ (i := 12) (N := some 17) (v := ?_) (a' := ?_) #[T3qc,T3qc,T3qc,T3qc,T3qc,T3qc,T3qc,T3qc,T3qc,T3qc,T3qc,T3qc,T3qc,F3qc] rfl rfl (any_of HT_.out (by kernel_rfl)) (fun _ _ _ h => h) (Or.inl ⟨by rfl, ?_⟩) ?_ ?_
     rotate_left
     ·intro w'
      go_simp
      with_reducible rfl
     rotate_left
     ·simp only [Act.put, List.setIfInBounds_toArray, List.set_cons_zero, List.set_cons_succ, i64_w, i32_w]
      rfl
     refine pure_ (i := 13) (N := some 3) (v := ?_) (a' := ?_) #[T3qc,T3qc,T3qc,T3qc,T3qc,T3qc,T3qc,T3qc,T3qc,T3qc,T3qc,T3qc,T3qc,T3qc] rfl rfl (any_of HT_.out (by kernel_rfl)) (fun _ _ _ h => h) (Or.inl ⟨by rfl, ?_⟩) ?_ ?_
     rotate_left
     ·intro w'
      go_simp
      with_reducible rfl
     rotate_left
     ·simp only [Act.put, List.setIfInBounds_toArray, List.set_cons_zero, List.set_cons_succ, i64_w, i32_w]
      rfl
     refine done_ (done_of HT_.out (by kernel_rfl)) ?_
     try go_wp2
     go_loopg [3, 4] k (fun kq v3 v4 w' => ∃ (x3_1 : ByteArray) (x4_1 : Int), v3 = .string x3_1 ∧ v4 = .int .i64 x4_1 ∧ Aside0 (spec_taskText.l0 kq x3_1 x4_1 a0_0 l0_1 a0_2 a0_3 = some r) ∧ Aside0 (kq ≤ k) ∧ Aside0 (w'.heap[gb141]? = some (.cells #[.int .i64 a0_0, (.slice A0_1 l0_1.length c0_1), .int .i64 a0_2, .int .i64 a0_3] 33 (0, 0))) ∧ Aside0 (Below w.heap.size w w'))
     case atStart => exact ⟨((((t142 ++ (⟨#[32]⟩ : ByteArray)) ++ t143) ++ (⟨#[32]⟩ : ByteArray)) ++ t144), (0), (by first | rfl | (simp; done) | (simp [*]; done)), (by first | rfl | (simp; done) | (simp [*]; done)), H', ⟨Nat.le_refl _⟩, ⟨by (with_reducible repeat (first | refine blk_drewN ?_ _ | refine blk_drew ?_ | refine blk_alloc ?_ _)); exact BK141.out⟩, ⟨by repeat (first | (with_reducible first | exact HB.out | apply below_alloc | apply pw_below_drewN | apply below_drew1 | refine below_set ?_ GE141.out) | exact HB.out)⟩⟩
     case round =>
      clear H'
      try clear c2
      try clear p2
      try clear c3
      try clear c3b0
      try clear c3b1
      try clear c3b2
      try clear c4
      try clear c5
      try clear c5b0
      try clear c5b1
      try clear c5b2
      try clear c6
      try clear c6b0
      try clear c6b1
      try clear c6b2
      try clear c8
      try clear c8b0
      try clear c8b1
      try clear c8b2
      obtain ⟨x3_1, x4_1, rfl, rfl, HA, HK1, BK141, HB⟩ := hrel
      cases gk with
      | zero => exact absurd HA.out (by simp [spec_taskText.l0])
      | succ k1 =>
       have H := HA.out
       clear HA
       simp only [spec_taskText.l0] at H
       by_cases c14 : x4_1 < (l0_1.length : Int)
       ·rw [if_pos c14] at H
        have c14b0 : decide (x4_1 < (l0_1.length : Int)) = true := decide_eq_true c14
        clear c14
        by_cases c15 : x3_1.size + 1 ≤ 9223372036854775807
        ·rw [if_pos c15] at H
         have c15b0 := eq_true c15
         have c15b1 : decide (x3_1.size + 1 ≤ 9223372036854775807) = true := decide_eq_true c15
         try have c15b2 : (9223372036854775807 < x3_1.size + 1) = False := eq_false (Nat.not_lt.2 c15)
         by_cases c16 : 0 ≤ x4_1
         ·rw [if_pos c16] at H
          have c16b0 : decide (0 ≤ x4_1) = true := decide_eq_true c16
          clear c16
          replace H := Option.bind_eq_some_iff.mp H
          obtain ⟨t146, A170, H⟩ := H
          replace H : (if (x3_1 ++ (⟨#[32]⟩ : ByteArray)).size + t146.size ≤ 9223372036854775807 then (spec_taskText.l0 k1 ((x3_1 ++ (⟨#[32]⟩ : ByteArray)) ++ t146) (wrap64 (x4_1 + 1)) a0_0 l0_1 a0_2 a0_3) else (none)) = some r := H
          have A17 := Aside0.mk A170
          clear A170
          by_cases c18 : (x3_1 ++ (⟨#[32]⟩ : ByteArray)).size + t146.size ≤ 9223372036854775807
          ·rw [if_pos c18] at H
           have c18b0 := eq_true c18
           have c18b1 : decide ((x3_1 ++ (⟨#[32]⟩ : ByteArray)).size + t146.size ≤ 9223372036854775807) = true := decide_eq_true c18
           try have c18b2 : (9223372036854775807 < (x3_1 ++ (⟨#[32]⟩ : ByteArray)).size + t146.size) = False := eq_false (Nat.not_lt.2 c18)
           try have c18b3 : (9223372036854775807 < x3_1.size + 1 + t146.size) = False := eq_false (Nat.not_lt.2 (by have h_ := c18; simp only [ByteArray.size_append] at h_; exact h_))
           have H' := Aside0.mk H
           clear H
           have hcz19_0 : wr.cell? ⟨gb141, 0, none⟩ = some (.int .i64 a0_0) := (blk_cell BK141.out 0).trans rfl
           have hcz19_1 : wr.cell? ⟨gb141, 1, none⟩ = some (.slice A0_1 l0_1.length c0_1) := (blk_cell BK141.out 1).trans rfl
           have hcz19_2 : wr.cell? ⟨gb141, 2, none⟩ = some (.int .i64 a0_2) := (blk_cell BK141.out 2).trans rfl
           have hcz19_3 : wr.cell? ⟨gb141, 3, none⟩ = some (.int .i64 a0_3) := (blk_cell BK141.out 3).trans rfl
           have hfz19_0 := blk_frozen BK141.out 0
           have hfz19_1 := blk_frozen BK141.out 1
           have hfz19_2 := blk_frozen BK141.out 2
           have hfz19_3 := blk_frozen BK141.out 3
           have p145 : 0 ≤ (x4_1 : Int) := of_decide_eq_true (by first | (with_reducible assumption) | assumption)
           have q145 : x4_1 < (l0_1.length : Int) := of_decide_eq_true (by first | (with_reducible assumption) | assumption)
           obtain ⟨ad145, e145, hx145_0⟩ := Kd.at_int HR0_1.out x4_1 p145 q145
           cases e145
           (try replace hx145_0 := (HB.out.cell (World.block_lt_of_cell? w _ hx145_0)).trans hx145_0)
           replace p145 := eq_true p145
           replace q145 := eq_true q145
           go_wp2_with (first | ((with_reducible refine gate_callee (f := 42) rfl ?_); refine goesL_ (some 32) rfl rfl Tryd.func42 (by kernel_rfl) rfl #[.int .i64 (rd l0_1 x4_1)] rfl (by (try simp only [List.map_toArray, List.map_cons, List.map_nil]); first | done | rfl | (simp only [List.length_drop, List.length_take]; rfl)) ?_; (with_reducible refine (spec_decimal.calls k1 (rd l0_1 x4_1) t146 _ A17.out).mono ?_); rintro e w20 ⟨rfl, hb⟩; refine ⟨_, rfl, ?_⟩; have n0_ := Aside0.mk (blk_below (g := gb141) (o := .cells #[.int .i64 a0_0, .slice (some ad145) l0_1.length c0_1, .int .i64 a0_2, .int .i64 a0_3] 33 (0, 0)) (by (with_reducible repeat (first | refine blk_drewN ?_ _ | refine blk_drew ?_ | refine blk_alloc ?_ _)); exact BK141.out) hb); have n1_ := Aside0.mk (below_step (by repeat (first | (with_reducible first | exact HB.out | apply below_alloc | apply pw_below_drewN | apply below_drew1 | refine below_set ?_ GE141.out) | exact HB.out)) hb); clear BK141; clear HB; have BK141 := n0_; have HB := n1_; clear n0_ n1_; (try clear hb); (try clear hb2); (try clear hk); (try clear hi)))
           go_roundg k1
           case measure => have := HK1.out; omega
           case rel => exact ⟨((x3_1 ++ (⟨#[32]⟩ : ByteArray)) ++ t146), (wrap64 (x4_1 + 1)), (by first | rfl | (simp; done) | (simp [*]; done)), (by first | rfl | (simp; done) | (simp [*]; done)), H', ⟨by have := HK1.out; omega⟩, ⟨by (with_reducible repeat (first | refine blk_drewN ?_ _ | refine blk_drew ?_ | refine blk_alloc ?_ _)); exact BK141.out⟩, ⟨by repeat (first | (with_reducible first | exact HB.out | apply below_alloc | apply pw_below_drewN | apply below_drew1 | refine below_set ?_ GE141.out) | exact HB.out)⟩⟩
          ·rw [if_neg c18] at H
           exact absurd H (by simp)
         ·rw [if_neg c16] at H
          exact absurd H (by simp)
        ·rw [if_neg c15] at H
         exact absurd H (by simp)
       ·rw [if_neg c14] at H
        have c14b0 : decide (x4_1 < (l0_1.length : Int)) = false := decide_eq_false c14
        clear c14
        obtain rfl := Option.some.inj H
        have hcz21_0 : wr.cell? ⟨gb141, 0, none⟩ = some (.int .i64 a0_0) := (blk_cell BK141.out 0).trans rfl
        have hcz21_1 : wr.cell? ⟨gb141, 1, none⟩ = some (.slice A0_1 l0_1.length c0_1) := (blk_cell BK141.out 1).trans rfl
        have hcz21_2 : wr.cell? ⟨gb141, 2, none⟩ = some (.int .i64 a0_2) := (blk_cell BK141.out 2).trans rfl
        have hcz21_3 : wr.cell? ⟨gb141, 3, none⟩ = some (.int .i64 a0_3) := (blk_cell BK141.out 3).trans rfl
        have hfz21_0 := blk_frozen BK141.out 0
        have hfz21_1 := blk_frozen BK141.out 1
        have hfz21_2 := blk_frozen BK141.out 2
        have hfz21_3 := blk_frozen BK141.out 3
        go_wp2
        go_ret
        exact ⟨by first | rfl | (simp [errW_none, errW_some] <;> rfl) | (simp [*, errW_none, errW_some] <;> rfl), by repeat (first | (with_reducible first | exact HB.out | apply below_alloc | apply pw_below_drewN | apply below_drew1 | refine below_set ?_ GE141.out) | exact HB.out)⟩
    ·rw [if_neg c8] at H
     exact absurd H (by simp)
   ·rw [if_neg c6] at H
    exact absurd H (by simp)
  ·rw [if_neg c5] at H
   exact absurd H (by simp)
 ·rw [if_neg c3] at H
  exact absurd H (by simp)
end Go.Proofs.YtfehecoebkbgeaaDoor.P
end
section
namespace Go.Proofs.YtfehecoebkbgeaaDoor.P
open Go.RowKit Go.Proofs.YtfehecoebkbgeaaDoorW.PrintWords Go.Proofs.YtfehecoebkbgeaaDoorW.PrintLast Go.Proofs.YtfehecoebkbgeaaDoorW.PrintMore
attribute [local go_sem] max2_int min2_int max_two min_two max_three min_three max_four min_four   -- for this text's walks alone
set_option linter.unusedVariables false
set_option linter.unusedSimpArgs false
def spec_formatGraph.l0 : Nat → List (S33) → ByteArray → Int → Option (ByteArray)
 | 0, _, _, _ => none
 | k + 1, x0, x3, x4 => if x4 < (x0.length : Int) then (if x4 > 0 then (if x3.size + 2 ≤ 9223372036854775807 then (if 0 ≤ x4 then ((spec_taskText.f k ((rd_T33 x0 x4).f0) ((rd_T33 x0 x4).f1) ((rd_T33 x0 x4).f2) ((rd_T33 x0 x4).f3)).bind fun t148 => (if (x3 ++ (⟨#[59, 32]⟩ : ByteArray)).size + t148.size ≤ 9223372036854775807 then (spec_formatGraph.l0 k x0 ((x3 ++ (⟨#[59, 32]⟩ : ByteArray)) ++ t148) (wrap64 (x4 + 1))) else (none))) else (none)) else (none)) else (if 0 ≤ x4 then ((spec_taskText.f k ((rd_T33 x0 x4).f0) ((rd_T33 x0 x4).f1) ((rd_T33 x0 x4).f2) ((rd_T33 x0 x4).f3)).bind fun t150 => (if x3.size + t150.size ≤ 9223372036854775807 then (spec_formatGraph.l0 k x0 (x3 ++ t150) (wrap64 (x4 + 1))) else (none))) else (none))) else (some x3)
def spec_formatGraph.f (k : Nat) (l0 : List (S33)) : Option (ByteArray) := spec_formatGraph.l0 k l0 (⟨#[]⟩ : ByteArray) 0
theorem spec_formatGraph.mono_l : ∀ k, (∀ y0 y1 y2, LeO (spec_formatGraph.l0 k y0 y1 y2) (spec_formatGraph.l0 (k + 1) y0 y1 y2))
 | 0 => fun _ _ _ r h => by simp [spec_formatGraph.l0] at h
 | k + 1 => by
  have ih0 := spec_formatGraph.mono_l k
  ·intro y0 y1 y2
   unfold spec_formatGraph.l0
   repeat' first
   | (with_reducible exact ih0 _ _ _)
   | (with_reducible exact spec_taskText.mono _ _ _ _ _)
   | (with_reducible exact LeO.refl _)
   | (with_reducible exact LeO.none _)
   | (with_reducible refine LeO.ite ?_ ?_)
   | (with_reducible refine LeO.bind ?_ (fun _ => ?_))
   | exact ih0 _ _ _
   | exact spec_taskText.mono _ _ _ _ _
   | exact LeO.none _
   | refine LeO.ite ?_ ?_
   | refine LeO.bind ?_ (fun _ => ?_)
theorem spec_formatGraph.mono : ∀ a0 k, LeO (spec_formatGraph.f k a0) (spec_formatGraph.f (k + 1) a0) := by
 intro a0 k
 have ih0 := spec_formatGraph.mono_l k
 unfold spec_formatGraph.f
 repeat' first
   | (with_reducible exact ih0 _ _ _)
   | (with_reducible exact spec_taskText.mono _ _ _ _ _)
   | (with_reducible exact LeO.refl _)
   | (with_reducible exact LeO.none _)
   | (with_reducible refine LeO.ite ?_ ?_)
   | (with_reducible refine LeO.bind ?_ (fun _ => ?_))
   | exact ih0 _ _ _
   | exact spec_taskText.mono _ _ _ _ _
   | exact LeO.none _
   | refine LeO.ite ?_ ?_
   | refine LeO.bind ?_ (fun _ => ?_)
set_option maxHeartbeats 8000000 in
set_option maxRecDepth 100000 in
theorem spec_formatGraph.calls (k : Nat) (A0 : Option Addr) (c0 : Nat) (l0 : List (S33)) (r : ByteArray) (w : World) (hr0 : Kd.C k33 w A0 l0.length l0) (hc0 : l0.length ≤ c0) (h : spec_formatGraph.f k l0 = some r) :
  Calls Tryd.prog 14 #[.slice A0 l0.length c0] w fun e w' => e = .returned (.string r) ∧ Below w.heap.size w w' := by
 have hu33 := Tryd.underlying33
 have HR0 := Aside0.mk hr0
 have HC0 := Aside0.mk hc0
 clear hr0 hc0
 have HB := Aside0.mk (Below.refl w.heap.size w)
 have H : (spec_formatGraph.l0 k l0 (⟨#[]⟩ : ByteArray) 0) = some r := h
 clear h
 have H' := Aside0.mk H
 clear H
 go_enter Tryd.func14, Tryd.ntmps14
 go_wp2
 go_loopg [3, 4] k (fun kq v3 v4 w' => ∃ (x3_1 : ByteArray) (x4_1 : Int), v3 = .string x3_1 ∧ v4 = .int .i64 x4_1 ∧ Aside0 (spec_formatGraph.l0 kq l0 x3_1 x4_1 = some r) ∧ Aside0 (kq ≤ k) ∧ Aside0 (Below w.heap.size w w'))
 case atStart => exact ⟨((⟨#[]⟩ : ByteArray)), (0), (by first | rfl | (simp; done) | (simp [*]; done)), (by first | rfl | (simp; done) | (simp [*]; done)), H', ⟨Nat.le_refl _⟩, ⟨by repeat (first | (with_reducible first | exact HB.out | apply below_alloc | apply pw_below_drewN | apply below_drew1) | exact HB.out)⟩⟩
 case round =>
  clear H'
  try clear c1
  obtain ⟨x3_1, x4_1, rfl, rfl, HA, HK1, HB⟩ := hrel
  cases gk with
  | zero => exact absurd HA.out (by simp [spec_formatGraph.l0])
  | succ k1 =>
   have H := HA.out
   clear HA
   simp only [spec_formatGraph.l0] at H
   by_cases c2 : x4_1 < (l0.length : Int)
   ·rw [if_pos c2] at H
    have c2b0 : decide (x4_1 < (l0.length : Int)) = true := decide_eq_true c2
    clear c2
    by_cases c3 : x4_1 > 0
    ·rw [if_pos c3] at H
     have c3b0 : decide (0 < x4_1) = true := decide_eq_true c3
     clear c3
     by_cases c4 : x3_1.size + 2 ≤ 9223372036854775807
     ·rw [if_pos c4] at H
      have c4b0 := eq_true c4
      have c4b1 : decide (x3_1.size + 2 ≤ 9223372036854775807) = true := decide_eq_true c4
      try have c4b2 : (9223372036854775807 < x3_1.size + 2) = False := eq_false (Nat.not_lt.2 c4)
      by_cases c5 : 0 ≤ x4_1
      ·rw [if_pos c5] at H
       have c5b0 : decide (0 ≤ x4_1) = true := decide_eq_true c5
       clear c5
       replace H := Option.bind_eq_some_iff.mp H
       obtain ⟨t148, A60, H⟩ := H
       replace H : (if (x3_1 ++ (⟨#[59, 32]⟩ : ByteArray)).size + t148.size ≤ 9223372036854775807 then (spec_formatGraph.l0 k1 l0 ((x3_1 ++ (⟨#[59, 32]⟩ : ByteArray)) ++ t148) (wrap64 (x4_1 + 1))) else (none)) = some r := H
       have A6 := Aside0.mk A60
       clear A60
       by_cases c7 : (x3_1 ++ (⟨#[59, 32]⟩ : ByteArray)).size + t148.size ≤ 9223372036854775807
       ·rw [if_pos c7] at H
        have c7b0 := eq_true c7
        have c7b1 : decide ((x3_1 ++ (⟨#[59, 32]⟩ : ByteArray)).size + t148.size ≤ 9223372036854775807) = true := decide_eq_true c7
        try have c7b2 : (9223372036854775807 < (x3_1 ++ (⟨#[59, 32]⟩ : ByteArray)).size + t148.size) = False := eq_false (Nat.not_lt.2 c7)
        try have c7b3 : (9223372036854775807 < x3_1.size + 2 + t148.size) = False := eq_false (Nat.not_lt.2 (by have h_ := c7; simp only [ByteArray.size_append] at h_; exact h_))
        have H' := Aside0.mk H
        clear H
        have p147 : 0 ≤ (x4_1 : Int) := of_decide_eq_true (by first | (with_reducible assumption) | assumption)
        have q147 : x4_1 < (l0.length : Int) := of_decide_eq_true (by first | (with_reducible assumption) | assumption)
        obtain ⟨ad147, A147_1, c147_1, e147, hx147_0, hx147_1, hx147_2, hx147_3, hl147_1, hi147_1⟩ := at_T33 HR0.out x4_1 p147 q147
        cases e147
        (try replace hx147_0 := (HB.out.cell (World.block_lt_of_cell? w _ hx147_0)).trans hx147_0)
        (try replace hx147_1 := (HB.out.cell (World.block_lt_of_cell? w _ hx147_1)).trans hx147_1)
        (try replace hx147_2 := (HB.out.cell (World.block_lt_of_cell? w _ hx147_2)).trans hx147_2)
        (try replace hx147_3 := (HB.out.cell (World.block_lt_of_cell? w _ hx147_3)).trans hx147_3)
        have HR147_1 := Aside0.mk hi147_1
        have HC147_1 := Aside0.mk hl147_1
        clear hi147_1 hl147_1
        replace p147 := eq_true p147
        replace q147 := eq_true q147
        go_wp2_with (first | ((with_reducible refine gate_callee (f := 26) rfl ?_); refine goesL_ (some 20) rfl rfl Tryd.func26 (by kernel_rfl) rfl #[.agg #[.int .i64 ((rd_T33 l0 x4_1).f0), .slice A147_1 ((rd_T33 l0 x4_1).f1).length c147_1, .int .i64 ((rd_T33 l0 x4_1).f2), .int .i64 ((rd_T33 l0 x4_1).f3)]] rfl (by (try simp only [List.map_toArray, List.map_cons, List.map_nil]); first | done | rfl | (simp only [List.length_drop, List.length_take]; rfl)) ?_; (with_reducible refine (spec_taskText.calls k1 ((rd_T33 l0 x4_1).f0) _ _ ((rd_T33 l0 x4_1).f1) ((rd_T33 l0 x4_1).f2) ((rd_T33 l0 x4_1).f3) t148 _ ?side1 ?side2 A6.out).mono ?_); (case side1 => repeat (first | exact (Kd.C_below HR147_1.out HB.out) | exact HR147_1.out | (with_reducible refine Kd.C_alloc ?_ _) | (with_reducible refine Kd.C_drewN ?_ _) | (with_reducible refine Kd.C_drew ?_))); (case side2 => exact HC147_1.out); rintro e w8 ⟨rfl, hb⟩; refine ⟨_, rfl, ?_⟩; have n0_ := Aside0.mk (below_step (by repeat (first | (with_reducible first | exact HB.out | apply below_alloc | apply pw_below_drewN | apply below_drew1) | exact HB.out)) hb); clear HB; have HB := n0_; clear n0_; (try clear hb); (try clear hb2); (try clear hk); (try clear hi)))
        go_roundg k1
        case measure => have := HK1.out; omega
        case rel => exact ⟨((x3_1 ++ (⟨#[59, 32]⟩ : ByteArray)) ++ t148), (wrap64 (x4_1 + 1)), (by first | rfl | (simp; done) | (simp [*]; done)), (by first | rfl | (simp; done) | (simp [*]; done)), H', ⟨by have := HK1.out; omega⟩, ⟨by repeat (first | (with_reducible first | exact HB.out | apply below_alloc | apply pw_below_drewN | apply below_drew1) | exact HB.out)⟩⟩
       ·rw [if_neg c7] at H
        exact absurd H (by simp)
      ·rw [if_neg c5] at H
       exact absurd H (by simp)
     ·rw [if_neg c4] at H
      exact absurd H (by simp)
    ·rw [if_neg c3] at H
     have c3b0 : decide (0 < x4_1) = false := decide_eq_false c3
     clear c3
     by_cases c9 : 0 ≤ x4_1
     ·rw [if_pos c9] at H
      have c9b0 : decide (0 ≤ x4_1) = true := decide_eq_true c9
      clear c9
      replace H := Option.bind_eq_some_iff.mp H
      obtain ⟨t150, A100, H⟩ := H
      replace H : (if x3_1.size + t150.size ≤ 9223372036854775807 then (spec_formatGraph.l0 k1 l0 (x3_1 ++ t150) (wrap64 (x4_1 + 1))) else (none)) = some r := H
      have A10 := Aside0.mk A100
      clear A100
      by_cases c11 : x3_1.size + t150.size ≤ 9223372036854775807
      ·rw [if_pos c11] at H
       have c11b0 := eq_true c11
       have c11b1 : decide (x3_1.size + t150.size ≤ 9223372036854775807) = true := decide_eq_true c11
       try have c11b2 : (9223372036854775807 < x3_1.size + t150.size) = False := eq_false (Nat.not_lt.2 c11)
       have H' := Aside0.mk H
       clear H
       have p149 : 0 ≤ (x4_1 : Int) := of_decide_eq_true (by first | (with_reducible assumption) | assumption)
       have q149 : x4_1 < (l0.length : Int) := of_decide_eq_true (by first | (with_reducible assumption) | assumption)
       obtain ⟨ad149, A149_1, c149_1, e149, hx149_0, hx149_1, hx149_2, hx149_3, hl149_1, hi149_1⟩ := at_T33 HR0.out x4_1 p149 q149
       cases e149
       (try replace hx149_0 := (HB.out.cell (World.block_lt_of_cell? w _ hx149_0)).trans hx149_0)
       (try replace hx149_1 := (HB.out.cell (World.block_lt_of_cell? w _ hx149_1)).trans hx149_1)
       (try replace hx149_2 := (HB.out.cell (World.block_lt_of_cell? w _ hx149_2)).trans hx149_2)
       (try replace hx149_3 := (HB.out.cell (World.block_lt_of_cell? w _ hx149_3)).trans hx149_3)
       have HR149_1 := Aside0.mk hi149_1
       have HC149_1 := Aside0.mk hl149_1
       clear hi149_1 hl149_1
       replace p149 := eq_true p149
       replace q149 := eq_true q149
       go_wp2_with (first | ((with_reducible refine gate_callee (f := 26) rfl ?_); refine goesL_ (some 20) rfl rfl Tryd.func26 (by kernel_rfl) rfl #[.agg #[.int .i64 ((rd_T33 l0 x4_1).f0), .slice A149_1 ((rd_T33 l0 x4_1).f1).length c149_1, .int .i64 ((rd_T33 l0 x4_1).f2), .int .i64 ((rd_T33 l0 x4_1).f3)]] rfl (by (try simp only [List.map_toArray, List.map_cons, List.map_nil]); first | done | rfl | (simp only [List.length_drop, List.length_take]; rfl)) ?_; (with_reducible refine (spec_taskText.calls k1 ((rd_T33 l0 x4_1).f0) _ _ ((rd_T33 l0 x4_1).f1) ((rd_T33 l0 x4_1).f2) ((rd_T33 l0 x4_1).f3) t150 _ ?side1 ?side2 A10.out).mono ?_); (case side1 => repeat (first | exact (Kd.C_below HR149_1.out HB.out) | exact HR149_1.out | (with_reducible refine Kd.C_alloc ?_ _) | (with_reducible refine Kd.C_drewN ?_ _) | (with_reducible refine Kd.C_drew ?_))); (case side2 => exact HC149_1.out); rintro e w12 ⟨rfl, hb⟩; refine ⟨_, rfl, ?_⟩; have n0_ := Aside0.mk (below_step (by repeat (first | (with_reducible first | exact HB.out | apply below_alloc | apply pw_below_drewN | apply below_drew1) | exact HB.out)) hb); clear HB; have HB := n0_; clear n0_; (try clear hb); (try clear hb2); (try clear hk); (try clear hi)))
       go_roundg k1
       case measure => have := HK1.out; omega
       case rel => exact ⟨(x3_1 ++ t150), (wrap64 (x4_1 + 1)), (by first | rfl | (simp; done) | (simp [*]; done)), (by first | rfl | (simp; done) | (simp [*]; done)), H', ⟨by have := HK1.out; omega⟩, ⟨by repeat (first | (with_reducible first | exact HB.out | apply below_alloc | apply pw_below_drewN | apply below_drew1) | exact HB.out)⟩⟩
      ·rw [if_neg c11] at H
       exact absurd H (by simp)
     ·rw [if_neg c9] at H
      exact absurd H (by simp)
   ·rw [if_neg c2] at H
    have c2b0 : decide (x4_1 < (l0.length : Int)) = false := decide_eq_false c2
    clear c2
    obtain rfl := Option.some.inj H
    go_wp2
    go_ret
    exact ⟨by first | rfl | (simp [errW_none, errW_some] <;> rfl) | (simp [*, errW_none, errW_some] <;> rfl), by repeat (first | (with_reducible first | exact HB.out | apply below_alloc | apply pw_below_drewN | apply below_drew1) | exact HB.out)⟩
end Go.Proofs.YtfehecoebkbgeaaDoor.P
end
section
namespace Go.Proofs.YtfehecoebkbgeaaDoor.P
open Go.RowKit Go.Proofs.YtfehecoebkbgeaaDoorW.PrintWords Go.Proofs.YtfehecoebkbgeaaDoorW.PrintLast Go.Proofs.YtfehecoebkbgeaaDoorW.PrintMore
attribute [local go_sem] max2_int min2_int max_two min_two max_three min_three max_four min_four   -- for this text's walks alone
set_option linter.unusedVariables false
set_option linter.unusedSimpArgs false
def spec_FormatGraph.f (k : Nat) (l0 : List (S33)) : Option (ByteArray) := (spec_validGraph.f k l0).bind fun t151 => (if t151 = true then ((spec_formatGraph.f k l0).bind fun t152 => (some t152)) else (some (⟨#[]⟩ : ByteArray)))
theorem spec_FormatGraph.mono : ∀ a0 k, LeO (spec_FormatGraph.f k a0) (spec_FormatGraph.f (k + 1) a0) := by
 intro a0 k
 unfold spec_FormatGraph.f
 repeat' first
   | (with_reducible exact spec_formatGraph.mono _ _)
   | (with_reducible exact spec_validGraph.mono _ _)
   | (with_reducible exact LeO.refl _)
   | (with_reducible exact LeO.none _)
   | (with_reducible refine LeO.ite ?_ ?_)
   | (with_reducible refine LeO.bind ?_ (fun _ => ?_))
   | exact spec_formatGraph.mono _ _
   | exact spec_validGraph.mono _ _
   | exact LeO.none _
   | refine LeO.ite ?_ ?_
   | refine LeO.bind ?_ (fun _ => ?_)
set_option maxHeartbeats 8000000 in
set_option maxRecDepth 100000 in
theorem spec_FormatGraph.calls (k : Nat) (A0 : Option Addr) (c0 : Nat) (l0 : List (S33)) (r : ByteArray) (w : World) (hr0 : Kd.C k33 w A0 l0.length l0) (hc0 : l0.length ≤ c0) (h : spec_FormatGraph.f k l0 = some r) :
  Calls Tryd.prog 7 #[.slice A0 l0.length c0] w fun e w' => e = .returned (.string r) ∧ Below w.heap.size w w' := by
 have HR0 := Aside0.mk hr0
 have HC0 := Aside0.mk hc0
 clear hr0 hc0
 have HB := Aside0.mk (Below.refl w.heap.size w)
 have H : ((spec_validGraph.f k l0).bind fun t151 => (if t151 = true then ((spec_formatGraph.f k l0).bind fun t152 => (some t152)) else (some (⟨#[]⟩ : ByteArray)))) = some r := h
 clear h
 replace H := Option.bind_eq_some_iff.mp H
 obtain ⟨t151, A20, H⟩ := H
 replace H : (if t151 = true then ((spec_formatGraph.f k l0).bind fun t152 => (some t152)) else (some (⟨#[]⟩ : ByteArray))) = some r := H
 have A2 := Aside0.mk A20
 clear A20
 by_cases c3 : t151 = true
 ·subst c3
  have H1 : ((spec_formatGraph.f k l0).bind fun t152 => (some t152)) = some r := by rw [if_pos rfl] at H; exact H
  clear H
  have H := H1
  clear H1
  replace H := Option.bind_eq_some_iff.mp H
  obtain ⟨t152, A40, H⟩ := H
  replace H : (some t152) = some r := H
  have A4 := Aside0.mk A40
  clear A40
  obtain rfl := Option.some.inj H
  go_enter Tryd.func7, Tryd.ntmps7
  go_wp2_with (first | ((with_reducible refine gate_callee (f := 13) rfl ?_); refine goesL_ (some 4) rfl rfl Tryd.func13 (by kernel_rfl) rfl #[.slice A0 l0.length c0] rfl (by (try simp only [List.map_toArray, List.map_cons, List.map_nil]); first | done | rfl | (simp only [List.length_drop, List.length_take]; rfl)) ?_; (with_reducible refine (spec_validGraph.calls k _ _ l0 true _ ?side1 ?side2 A2.out).mono ?_); (case side1 => repeat (first | exact HR0.out | (with_reducible refine Kd.C_alloc ?_ _) | (with_reducible refine Kd.C_drewN ?_ _) | (with_reducible refine Kd.C_drew ?_))); (case side2 => exact HC0.out); rintro e w5 ⟨rfl, hb⟩; refine ⟨_, rfl, ?_⟩; have n0_ := Aside0.mk (below_step (by repeat (first | (with_reducible first | exact HB.out | apply below_alloc | apply pw_below_drewN | apply below_drew1) | exact HB.out)) hb); clear HB; have HB := n0_; clear n0_; (try clear hb); (try clear hb2); (try clear hk); (try clear hi)) | ((with_reducible refine gate_callee (f := 14) rfl ?_); refine goesL_ (some 7) rfl rfl Tryd.func14 (by kernel_rfl) rfl #[.slice A0 l0.length c0] rfl (by (try simp only [List.map_toArray, List.map_cons, List.map_nil]); first | done | rfl | (simp only [List.length_drop, List.length_take]; rfl)) ?_; (with_reducible refine (spec_formatGraph.calls k _ _ l0 t152 _ ?side1 ?side2 A4.out).mono ?_); (case side1 => repeat (first | exact (Kd.C_below HR0.out HB.out) | (with_reducible refine Kd.C_alloc ?_ _) | (with_reducible refine Kd.C_drewN ?_ _) | (with_reducible refine Kd.C_drew ?_))); (case side2 => exact HC0.out); rintro e w6 ⟨rfl, hb⟩; refine ⟨_, rfl, ?_⟩; have n0_ := Aside0.mk (below_step (by repeat (first | (with_reducible first | exact HB.out | apply below_alloc | apply pw_below_drewN | apply below_drew1) | exact HB.out)) hb); clear HB; have HB := n0_; clear n0_; (try clear hb); (try clear hb2); (try clear hk); (try clear hi)))
  go_ret
  exact ⟨by first | rfl | (simp [errW_none, errW_some] <;> rfl) | (simp [*, errW_none, errW_some] <;> rfl), by repeat (first | (with_reducible first | exact HB.out | apply below_alloc | apply pw_below_drewN | apply below_drew1) | exact HB.out)⟩
 ·replace c3 := Bool.eq_false_iff.mpr c3
  subst c3
  have H1 : (some (⟨#[]⟩ : ByteArray)) = some r := by rw [if_neg (show ¬ (false = true) by decide)] at H; exact H
  clear H
  have H := H1
  clear H1
  obtain rfl := Option.some.inj H
  go_enter Tryd.func7, Tryd.ntmps7
  go_wp2_with (first | ((with_reducible refine gate_callee (f := 13) rfl ?_); refine goesL_ (some 4) rfl rfl Tryd.func13 (by kernel_rfl) rfl #[.slice A0 l0.length c0] rfl (by (try simp only [List.map_toArray, List.map_cons, List.map_nil]); first | done | rfl | (simp only [List.length_drop, List.length_take]; rfl)) ?_; (with_reducible refine (spec_validGraph.calls k _ _ l0 false _ ?side1 ?side2 A2.out).mono ?_); (case side1 => repeat (first | exact HR0.out | (with_reducible refine Kd.C_alloc ?_ _) | (with_reducible refine Kd.C_drewN ?_ _) | (with_reducible refine Kd.C_drew ?_))); (case side2 => exact HC0.out); rintro e w7 ⟨rfl, hb⟩; refine ⟨_, rfl, ?_⟩; have n0_ := Aside0.mk (below_step (by repeat (first | (with_reducible first | exact HB.out | apply below_alloc | apply pw_below_drewN | apply below_drew1) | exact HB.out)) hb); clear HB; have HB := n0_; clear n0_; (try clear hb); (try clear hb2); (try clear hk); (try clear hi)))
  go_ret
  exact ⟨by first | rfl | (simp [errW_none, errW_some] <;> rfl) | (simp [*, errW_none, errW_some] <;> rfl), by repeat (first | (with_reducible first | exact HB.out | apply below_alloc | apply pw_below_drewN | apply below_drew1) | exact HB.out)⟩
end Go.Proofs.YtfehecoebkbgeaaDoor.P
end
section
set_option linter.unusedVariables false
set_option linter.unusedSimpArgs false
namespace Go.Proofs.YtfehecoebkbgeaaDoor.Core
open Go Go.RowKit Go.Shelf Go.Proofs.YtfehecoebkbgeaaDoorW.PrintWords Go.Proofs.YtfehecoebkbgeaaDoorW.PrintLast Go.Proofs.YtfehecoebkbgeaaDoorW.PrintMore Go.Proofs.YtfehecoebkbgeaaDoor.P
attribute [local go_sem] Oper.semAt_some wide_fn wide_depth
/-- What holds of each valid graph. -/
structure GOk (G : GD) : Prop where
 n8 : G.tasks.length ≤ 8
 nl : G.needs.length = G.tasks.length
 nb : below1 G.tasks.length G.needs
 ol : G.order.length = G.tasks.length
 ob : ∀ i ∈ G.order, i < G.tasks.length
 bl : G.below.length = G.tasks.length
 bb : below1 G.tasks.length G.below
 al : G.above.length = G.tasks.length
 ab : below1 G.tasks.length G.above
theorem IsG.move {w w' : World} {b : Nat} {G : GD} (h : IsG w b G) (hb : Below w.heap.size w w') : IsG w' b G := by
 obtain ⟨A0, A1, A2, A3, A4, c0, c1, c2, c3, c4, hh, h0, h1, h2, h3, h4⟩ := h
 exact ⟨A0, A1, A2, A3, A4, c0, c1, c2, c3, c4, (hb.block b (cells_lt hh)).trans hh, ⟨h0.1, Kd.C_below h0.2 hb⟩, ⟨h1.1, Kd.C_below h1.2 hb⟩, ⟨h2.1, Kd.C_below h2.2 hb⟩, ⟨h3.1, Kd.C_below h3.2 hb⟩, ⟨h4.1, Kd.C_below h4.2 hb⟩⟩
theorem IsG.lt {w : World} {b : Nat} {G : GD} (h : IsG w b G) : b < w.heap.size := by
 obtain ⟨A0, A1, A2, A3, A4, c0, c1, c2, c3, c4, hh, _⟩ := h
 exact cells_lt hh
theorem IsG.tasks {w : World} {b : Nat} {G : GD} (h : IsG w b G) : ∃ A c, w.cell? ⟨b, 0, none⟩ = some (.slice A G.tasks.length c) ∧ G.tasks.length ≤ c ∧ k33.C w A G.tasks.length G.tasks := by
 obtain ⟨A0, A1, A2, A3, A4, c0, c1, c2, c3, c4, hh, h0, h1, h2, h3, h4⟩ := h
 exact ⟨A0, c0, by simp [World.cell?, hh], h0.1, h0.2⟩
theorem IsG.needs {w : World} {b : Nat} {G : GD} (h : IsG w b G) : ∃ A c, w.cell? ⟨b, 1, none⟩ = some (.slice A G.needs.length c) ∧ G.needs.length ≤ c ∧ (Kd.int .u16).C w A G.needs.length (up G.needs) := by
 obtain ⟨A0, A1, A2, A3, A4, c0, c1, c2, c3, c4, hh, h0, h1, h2, h3, h4⟩ := h
 exact ⟨A1, c1, by simp [World.cell?, hh], h1.1, h1.2⟩
theorem IsG.order {w : World} {b : Nat} {G : GD} (h : IsG w b G) : ∃ A c, w.cell? ⟨b, 2, none⟩ = some (.slice A G.order.length c) ∧ G.order.length ≤ c ∧ (Kd.int .i64).C w A G.order.length (up G.order) := by
 obtain ⟨A0, A1, A2, A3, A4, c0, c1, c2, c3, c4, hh, h0, h1, h2, h3, h4⟩ := h
 exact ⟨A2, c2, by simp [World.cell?, hh], h2.1, h2.2⟩
theorem IsG.below {w : World} {b : Nat} {G : GD} (h : IsG w b G) : ∃ A c, w.cell? ⟨b, 3, none⟩ = some (.slice A G.below.length c) ∧ G.below.length ≤ c ∧ (Kd.int .u16).C w A G.below.length (up G.below) := by
 obtain ⟨A0, A1, A2, A3, A4, c0, c1, c2, c3, c4, hh, h0, h1, h2, h3, h4⟩ := h
 exact ⟨A3, c3, by simp [World.cell?, hh], h3.1, h3.2⟩
theorem IsG.above {w : World} {b : Nat} {G : GD} (h : IsG w b G) : ∃ A c, w.cell? ⟨b, 4, none⟩ = some (.slice A G.above.length c) ∧ G.above.length ≤ c ∧ (Kd.int .u16).C w A G.above.length (up G.above) := by
 obtain ⟨A0, A1, A2, A3, A4, c0, c1, c2, c3, c4, hh, h0, h1, h2, h3, h4⟩ := h
 exact ⟨A4, c4, by simp [World.cell?, hh], h4.1, h4.2⟩
/-- The tasks that can come next, among the first ones. -/
def readyTo (N : List Nat) (d : Nat) : Nat → Nat
 | 0 => 0
 | i + 1 => if d.testBit i = false ∧ sub (N.getD i 0) d = 0 then readyTo N d i ||| 2 ^ i else readyTo N d i
def GD.ready (G : GD) (d : Nat) : Nat := readyTo G.needs d G.needs.length
end Go.Proofs.YtfehecoebkbgeaaDoor.Core
end
section
set_option linter.unusedVariables false
set_option linter.unusedSimpArgs false
namespace Go.Proofs.YtfehecoebkbgeaaDoor.Core
open Go Go.RowKit Go.Shelf Go.Proofs.YtfehecoebkbgeaaDoorW.PrintWords Go.Proofs.YtfehecoebkbgeaaDoorW.PrintLast Go.Proofs.YtfehecoebkbgeaaDoorW.PrintMore Go.Proofs.YtfehecoebkbgeaaDoor.P
/-- How many of the first n numbers a set lacks. -/
def zb : Nat → Nat → Nat
 | 0, _ => 0
 | n + 1, p => zb n p + (if p.testBit n then 0 else 1)
theorem or_bit (p i j : Nat) : (p ||| 2 ^ i).testBit j = (p.testBit j || decide (i = j)) := by rw [Nat.testBit_or, Nat.testBit_two_pow]
theorem zb_le (p i : Nat) : ∀ n, zb n (p ||| 2 ^ i) ≤ zb n p
 | 0 => Nat.le_refl _
 | n + 1 => by
  have := zb_le p i n
  simp only [zb, or_bit]
  by_cases h : i = n
  ·subst h; cases p.testBit i <;> simp <;> omega
  ·cases p.testBit n <;> simp [h] <;> omega
theorem zb_lt {p i : Nat} (hp : p.testBit i = false) : ∀ {n : Nat}, i < n → zb n (p ||| 2 ^ i) < zb n p
 | 0, h => by omega
 | n + 1, h => by
  simp only [zb, or_bit]
  by_cases hi : i = n
  ·subst hi
   have := zb_le p i i
   simp [hp]
   omega
  ·have := zb_lt hp (n := n) (by omega)
   cases p.testBit n <;> simp [hi] <;> omega
theorem readyTo_bit (N : List Nat) (d i : Nat) : ∀ n, (readyTo N d n).testBit i = true → i < n ∧ d.testBit i = false ∧ sub (N.getD i 0) d = 0
 | 0 => by simp [readyTo]
 | n + 1 => by
  intro h
  unfold readyTo at h
  split at h
  ·rename_i hc
   rw [or_bit] at h
   by_cases hi : n = i
   ·subst hi; exact ⟨by omega, hc⟩
   ·have := readyTo_bit N d i n (by simpa [hi] using h)
    exact ⟨by omega, this.2⟩
  ·have := readyTo_bit N d i n h
   exact ⟨by omega, this.2⟩
theorem readyTo_bit' (N : List Nat) (d i : Nat) : ∀ n, i < n → d.testBit i = false → sub (N.getD i 0) d = 0 → (readyTo N d n).testBit i = true
 | 0 => by intro h; omega
 | n + 1 => by
  intro h h1 h2
  unfold readyTo
  by_cases hi : n = i
  ·subst hi
   rw [if_pos ⟨h1, h2⟩, or_bit]
   simp
  ·have := readyTo_bit' N d i n (by omega) h1 h2
   split
   ·rw [or_bit, this]; rfl
   ·exact this
theorem mem_ready {G : GD} {d i : Nat} (h8 : G.needs.length ≤ 8) : i ∈ elemsN (G.ready d) ↔ i < G.needs.length ∧ d.testBit i = false ∧ sub (G.needs.getD i 0) d = 0 := by
 rw [mem_elemsN]
 constructor
 ·intro h
  exact readyTo_bit _ _ _ _ h.2
 ·intro h
  exact ⟨by omega, readyTo_bit' _ _ _ _ h.1 h.2.1 h.2.2⟩
end Go.Proofs.YtfehecoebkbgeaaDoor.Core
end
section
set_option linter.unusedVariables false
set_option linter.unusedSimpArgs false
namespace Go.Proofs.YtfehecoebkbgeaaDoor.Core
open Go Go.RowKit Go.Proofs.YtfehecoebkbgeaaDoorW.PrintWords Go.Proofs.YtfehecoebkbgeaaDoorW.PrintMore Go.Proofs.YtfehecoebkbgeaaDoor.P
/-- From some number on, f says r. -/
def Ev {α : Type} (f : Nat → Option α) (r : α) : Prop := ∃ K, ∀ k, K ≤ k → f k = some r
theorem Ev.const {α : Type} (r : α) : Ev (fun _ => some r) r := ⟨0, fun _ _ => rfl⟩
theorem Ev.bind {α β : Type} {f : Nat → Option α} {g : Nat → α → Option β} {a : α} {b : β} (h : Ev f a) (h2 : Ev (fun k => g k a) b) : Ev (fun k => (f k).bind (g k)) b := by
 obtain ⟨K, h⟩ := h
 obtain ⟨K2, h2⟩ := h2
 exact ⟨max K K2, fun k hk => by show (f k).bind (g k) = some b; rw [h k (by omega)]; exact h2 k (by omega)⟩
theorem Ev.succ {α : Type} {f : Nat → Option α} {r : α} (h : Ev (fun k => f (k + 1)) r) : Ev f r := by
 obtain ⟨K, h⟩ := h
 refine ⟨K + 1, fun k hk => ?_⟩
 obtain ⟨m, rfl⟩ : ∃ m, k = m + 1 := ⟨k - 1, by omega⟩
 exact h m (by omega)
theorem Ev.of {α : Type} {f g : Nat → Option α} {r : α} (h : Ev f r) (e : ∀ k, g k = f k) : Ev g r := by
 obtain ⟨K, h⟩ := h
 exact ⟨K, fun k hk => (e k).trans (h k hk)⟩
theorem Ev.both {α β : Type} {f : Nat → Option α} {g : Nat → Option β} {a : α} {b : β} (h : Ev f a) (h2 : Ev g b) : ∃ k, f k = some a ∧ g k = some b := by
 obtain ⟨K, h⟩ := h
 obtain ⟨K2, h2⟩ := h2
 exact ⟨max K K2, h _ (by omega), h2 _ (by omega)⟩
theorem Ev.one {α : Type} {f : Nat → Option α} {a : α} (h : Ev f a) : ∃ k, f k = some a := by
 obtain ⟨K, h⟩ := h
 exact ⟨K, h _ (by omega)⟩
theorem w64 {n : Int} (h0 : -9223372036854775808 ≤ n) (h1 : n ≤ 9223372036854775807) : wrap64 n = n := by unfold wrap64; omega
theorem rd_mid {pre r : List Int} {x : Int} {i : Int} (hi : i = (pre.length : Int)) : rd (pre ++ x :: r) i = x := by
 subst hi
 simp [rd]
theorem within_eq (x a b : Int) : impl_within.f x a b = some (decide (a ≤ x ∧ x ≤ b)) := by
 unfold impl_within.f
 by_cases h : x ≥ a
 ·rw [if_pos h]; simp; omega
 ·rw [if_neg h]; simp; omega
theorem setwith_eq {s k : Nat} (hs : s < 256) (hk : k < 8) : impl_set_with.f (s : Int) (k : Int) = some ((s ||| 2 ^ k : Nat) : Int) := by
 unfold impl_set_with.f
 rw [if_pos (by omega)]
 have : shl .u16 1 (k : Int) = IntKind.u16.wrap (2 ^ k) := by
  unfold shl
  rw [Int.toNat_natCast, Nat.min_eq_left (by show k ≤ 16; omega), Int.one_mul]
 rw [this, with_eq hs hk]
theorem sethas_eq {s k : Nat} (hs : s < 256) (hk : k < 8) : impl_set_has.f (s : Int) (k : Int) = some (s.testBit k) := by
 unfold impl_set_has.f
 rw [if_pos (by omega)]
 have : shr .u16 (s : Int) (k : Int) = (s : Int) / 2 ^ k := by
  unfold shr
  rw [Int.toNat_natCast, Nat.min_eq_left (by show k ≤ 16; omega)]
 rw [this, has_eq hs]
/-- The set of ascending numbers below n. -/
def setGo (n : Nat) : List Int → Nat → Int → Option Nat
 | [], s, _ => some s
 | x :: r, s, last => if last + 1 ≤ x ∧ x ≤ (n : Int) - 1 then setGo n r (s ||| 2 ^ x.toNat) x else none
def setD (n : Nat) (L : List Int) : Option Nat := setGo n L 0 (-1)
def setR (o : Option Nat) : Int × Bool := match o with | some s => ((s : Int), true) | none => (0, false)
theorem ev_setGo {n : Nat} (hn : n ≤ 8) (L : List Int) : ∀ (r pre : List Int) (s : Nat) (last : Int), L = pre ++ r → s < 2 ^ n → (pre.length : Int) ≤ last + 1 → last ≤ (n : Int) - 1 →
  Ev (fun k => impl_setOf.l0 k (n : Int) (s : Int) last L (L.length : Int) (pre.length : Int)) (setR (setGo n r s last))
 | [], pre, s, last, hL, hs, h1, h2 => by
  refine Ev.succ ((Ev.const _).of fun k => ?_)
  rw [List.append_nil] at hL
  subst hL
  simp only [impl_setOf.l0]
  rw [if_neg (by omega)]
  rfl
 | x :: r, pre, s, last, hL, hs, h1, h2 => by
  have hlen : L.length = pre.length + (r.length + 1) := by rw [hL]; simp
  have hw1 : wrap64 (last + 1) = last + 1 := w64 (by omega) (by omega)
  have hw2 : wrap64 ((n : Int) - 1) = (n : Int) - 1 := w64 (by omega) (by omega)
  have hrd : rd L (pre.length : Int) = x := by rw [hL]; exact rd_mid rfl
  refine Ev.succ ?_
  by_cases hx : last + 1 ≤ x ∧ x ≤ (n : Int) - 1
  ·have hx0 : 0 ≤ x := by omega
   obtain ⟨m, rfl⟩ : ∃ m : Nat, x = (m : Int) := ⟨x.toNat, by omega⟩
   have hs8 : s < 256 := Nat.lt_of_lt_of_le hs (pow8 hn)
   have ih := ev_setGo hn L r (pre ++ [(m : Int)]) (s ||| 2 ^ m) m (by rw [hL]; simp) (Nat.or_lt_two_pow hs (Nat.pow_lt_pow_right (by omega) (by omega))) (by simp; omega) (by omega)
   have hg : setGo n ((m : Int) :: r) s last = setGo n r (s ||| 2 ^ m) m := by
    rw [setGo, if_pos hx, Int.toNat_natCast]
   rw [hg]
   refine ih.of fun k => ?_
   simp only [impl_setOf.l0]
   rw [if_pos (by omega), if_pos (by omega), if_pos (by omega), hrd, hw1, hw2, within_eq, decide_eq_true hx]
   simp only [Option.bind_some, if_true]
   rw [setwith_eq hs8 (by omega)]
   simp only [Option.bind_some, List.length_append, List.length_cons, List.length_nil]
   rw [w64 (by omega) (by omega)]
   rfl
  ·have hg : setGo n (x :: r) s last = none := by rw [setGo, if_neg hx]
   rw [hg]
   refine (Ev.const _).of fun k => ?_
   simp only [impl_setOf.l0]
   rw [if_pos (by omega), if_pos (by omega), if_pos (by omega), hrd, hw1, hw2, within_eq, decide_eq_false hx]
   rfl
theorem ev_setOf {n : Nat} (hn : n ≤ 8) (L : List Int) : Ev (fun k => impl_setOf.f k L (n : Int)) (setR (setD n L)) :=
 ev_setGo hn L L [] 0 (-1) rfl (Nat.two_pow_pos n) (by simp) (by omega)
theorem setGo_lt {n : Nat} : ∀ {r : List Int} {s : Nat} {last : Int} {t : Nat}, setGo n r s last = some t → s < 2 ^ n → -1 ≤ last → t < 2 ^ n
 | [], s, last, t, h, hs, hl => by rw [setGo] at h; cases h; exact hs
 | x :: r, s, last, t, h, hs, hl => by
  rw [setGo] at h
  by_cases hx : last + 1 ≤ x ∧ x ≤ (n : Int) - 1
  ·rw [if_pos hx] at h
   exact setGo_lt h (Nat.or_lt_two_pow hs (Nat.pow_lt_pow_right (by omega) (by omega))) (by omega)
  ·rw [if_neg hx] at h; cases h
theorem setD_lt {n : Nat} {L : List Int} {t : Nat} (h : setD n L = some t) : t < 2 ^ n := setGo_lt h (Nat.two_pow_pos n) (by omega)
def taskOk (t : Tk) : Prop := (1 ≤ t.f0 ∧ t.f0 ≤ 20) ∧ (0 ≤ t.f2 ∧ t.f2 ≤ 2) ∧ (1 ≤ t.f3 ∧ t.f3 ≤ 4)
instance (t : Tk) : Decidable (taskOk t) := by unfold taskOk; infer_instance
def needsGo (n : Nat) : List Tk → Option (List Nat)
 | [] => some []
 | t :: r => match setD n t.f1 with
  | none => none
  | some s => if taskOk t then (needsGo n r).map (s :: ·) else none
def needsD (g : List Tk) : Option (List Nat) := if g.length ≤ 8 then needsGo g.length g else none
def needsR (o : Option (List Nat)) : List Int × Bool := match o with | some N => (up N, true) | none => ([], false)
theorem rdT_mid {pre r : List Tk} {x : Tk} {i : Int} (hi : i = (pre.length : Int)) : rd_T33 (pre ++ x :: r) i = x := by
 subst hi
 simp [rd_T33]
theorem ev_needsGo (G : List Tk) (h8 : G.length ≤ 8) : ∀ (r pre : List Tk) (N : List Nat), G = pre ++ r → N.length = pre.length →
  Ev (fun k => impl_needsOf.l0 k G (up N) G (G.length : Int) (pre.length : Int)) (needsR ((needsGo G.length r).map (N ++ ·)))
 | [], pre, N, hG, hN => by
  refine Ev.succ ((Ev.const _).of fun k => ?_)
  rw [List.append_nil] at hG
  subst hG
  simp only [impl_needsOf.l0]
  rw [if_neg (by omega)]
  simp [needsGo, needsR]
 | t :: r, pre, N, hG, hN => by
  have hlen : G.length = pre.length + (r.length + 1) := by rw [hG]; simp
  have hrd : rd_T33 G (pre.length : Int) = t := by rw [hG]; exact rdT_mid rfl
  have hs := ev_setOf h8 t.f1
  refine Ev.succ ?_
  cases he : setD G.length t.f1 with
  | none =>
   rw [he] at hs
   have hg : needsGo G.length (t :: r) = none := by rw [needsGo, he]
   rw [hg]
   obtain ⟨K, h2⟩ := hs
   dsimp only at h2
   refine ⟨K, fun k hk => ?_⟩
   show impl_needsOf.l0 (k + 1) _ _ _ _ _ = _
   simp only [impl_needsOf.l0]
   rw [if_pos (by omega), if_pos (by omega), if_pos (by omega), hrd, h2 k hk]
   rfl
  | some s =>
   rw [he] at hs
   by_cases hok : taskOk t
   ·have hg : needsGo G.length (t :: r) = (needsGo G.length r).map (s :: ·) := by rw [needsGo, he]; simp [hok]
    have ih := ev_needsGo G h8 r (pre ++ [t]) (N ++ [s]) (by rw [hG]; simp) (by simp [hN])
    have e1 : ((needsGo G.length r).map (s :: ·)).map (N ++ ·) = (needsGo G.length r).map ((N ++ [s]) ++ ·) := by cases needsGo G.length r <;> simp
    rw [hg, e1]
    obtain ⟨K, h2⟩ := hs
    dsimp only at h2
    obtain ⟨K2, h3⟩ := ih
    dsimp only at h3
    refine ⟨max K K2, fun k hk => ?_⟩
    show impl_needsOf.l0 (k + 1) _ _ _ _ _ = _
    simp only [impl_needsOf.l0]
    rw [if_pos (by omega), if_pos (by omega), if_pos (by omega), hrd, h2 k (by omega)]
    simp only [setR, Option.bind_some, if_true]
    rw [within_eq, decide_eq_true hok.1]
    simp only [Option.bind_some, if_true]
    rw [within_eq, decide_eq_true hok.2.1]
    simp only [Option.bind_some, if_true]
    rw [within_eq, decide_eq_true hok.2.2]
    simp only [Option.bind_some, if_true]
    rw [if_pos (by rw [up_length]; omega), w64 (by omega) (by omega)]
    have := h3 k (by omega)
    simpa [up] using this
   ·have hg : needsGo G.length (t :: r) = none := by rw [needsGo, he]; simp [hok]
    rw [hg]
    obtain ⟨K, h2⟩ := hs
    dsimp only at h2
    refine ⟨K, fun k hk => ?_⟩
    show impl_needsOf.l0 (k + 1) _ _ _ _ _ = _
    simp only [impl_needsOf.l0]
    rw [if_pos (by omega), if_pos (by omega), if_pos (by omega), hrd, h2 k (by omega)]
    simp only [setR, Option.bind_some, if_true]
    rw [within_eq, within_eq, within_eq]
    simp only [Option.bind_some]
    by_cases h1 : 1 ≤ t.f0 ∧ t.f0 ≤ 20
    ·by_cases h2 : 0 ≤ t.f2 ∧ t.f2 ≤ 2
     ·by_cases h3 : 1 ≤ t.f3 ∧ t.f3 ≤ 4
      ·exact absurd ⟨h1, h2, h3⟩ hok
      ·simp [h1, h2, h3, needsR]
     ·simp [h1, h2, needsR]
    ·simp [h1, needsR]
theorem ev_needsOf (G : List Tk) : Ev (fun k => impl_needsOf.f k G) (needsR (needsD G)) := by
 unfold needsD
 by_cases h : G.length ≤ 8
 ·rw [if_pos h]
  have h2 := ev_needsGo G h G [] [] rfl rfl
  have e : (needsGo G.length G).map (([] : List Nat) ++ ·) = needsGo G.length G := by cases needsGo G.length G <;> simp
  rw [e] at h2
  refine h2.of fun k => ?_
  unfold impl_needsOf.f
  rw [if_neg (by omega), if_pos (by omega), if_pos (by omega)]
  rfl
 ·rw [if_neg h]
  refine (Ev.const _).of fun k => ?_
  unfold impl_needsOf.f
  rw [if_pos (by omega)]
  rfl
theorem needsGo_spec {n : Nat} : ∀ {r : List Tk} {N : List Nat}, needsGo n r = some N → N.length = r.length ∧ below1 n N
 | [], N, h => by rw [needsGo] at h; cases h; exact ⟨rfl, fun x hx => by cases hx⟩
 | t :: r, N, h => by
  rw [needsGo] at h
  cases he : setD n t.f1 with
  | none => rw [he] at h; cases h
  | some s =>
   rw [he] at h
   by_cases hok : taskOk t
   ·simp only [hok, if_true] at h
    cases hg : needsGo n r with
    | none => rw [hg] at h; cases h
    | some M =>
     rw [hg] at h
     cases h
     have := needsGo_spec hg
     refine ⟨by simp [this.1], fun x hx => ?_⟩
     rcases List.mem_cons.1 hx with rfl | hx
     ·exact setD_lt he
     ·exact this.2 x hx
   ·simp [hok] at h
theorem needsD_spec {g : List Tk} {N : List Nat} (h : needsD g = some N) : g.length ≤ 8 ∧ N.length = g.length ∧ below1 g.length N := by
 unfold needsD at h
 by_cases h8 : g.length ≤ 8
 ·rw [if_pos h8] at h
  exact ⟨h8, needsGo_spec h⟩
 ·rw [if_neg h8] at h; cases h
end Go.Proofs.YtfehecoebkbgeaaDoor.Core
namespace Go.Proofs.YtfehecoebkbgeaaDoor.Core
open Go Go.RowKit Go.Shelf Go.Proofs.YtfehecoebkbgeaaDoorW.PrintWords Go.Proofs.YtfehecoebkbgeaaDoorW.PrintMore Go.Proofs.YtfehecoebkbgeaaDoor.P
attribute [local go_sem] Oper.semAt_some wide_fn wide_depth
def nextFrom (N : List Nat) (d : Nat) : Nat → Nat → Option Nat
 | _, 0 => none
 | i, m + 1 => if d.testBit i = false ∧ sub (N.getD i 0) d = 0 then some i else nextFrom N d (i + 1) m
def nextD (N : List Nat) (d : Nat) : Option Nat := nextFrom N d 0 N.length
def orderGo (N : List Nat) : Nat → List Nat → Nat → List Nat × Nat
 | 0, L, d => (L, d)
 | m + 1, L, d => match nextD N d with
  | some i => orderGo N m (L ++ [i]) (d ||| 2 ^ i)
  | none => orderGo N m L d
def orderD (N : List Nat) : List Nat × Nat := orderGo N N.length [] 0
theorem nextFrom_spec {N : List Nat} {d : Nat} : ∀ {m i j : Nat}, nextFrom N d i m = some j → i ≤ j ∧ j < i + m ∧ d.testBit j = false ∧ sub (N.getD j 0) d = 0
 | 0, i, j, h => by rw [nextFrom] at h; cases h
 | m + 1, i, j, h => by
  rw [nextFrom] at h
  by_cases hc : d.testBit i = false ∧ sub (N.getD i 0) d = 0
  ·rw [if_pos hc] at h
   cases h
   exact ⟨by omega, by omega, hc⟩
  ·rw [if_neg hc] at h
   have := nextFrom_spec h
   exact ⟨by omega, by omega, this.2.2⟩
theorem nextD_spec {N : List Nat} {d j : Nat} (h : nextD N d = some j) : j < N.length ∧ d.testBit j = false ∧ sub (N.getD j 0) d = 0 := by
 have := nextFrom_spec h
 exact ⟨by omega, this.2.2⟩
def ordR (x : List Nat × Nat) : List Int × Int := (up x.1, (x.2 : Int))
theorem order_step {N : List Nat} {n : Nat} (hN : N.length = n) (hn : n ≤ 8) (L : List Nat) (d i j k : Nat) (hd8 : d < 256) (hNi : N.getD i 0 < 256) (hi : i < n) (hj : j ≤ 8) (hL : L.length ≤ j) : impl_order.l1 (k + 1) (up N) (up L) (d : Int) (n : Int) (j : Int) (up N) (n : Int) (i : Int) = (if d.testBit i = true then impl_order.l1 k (up N) (up L) (d : Int) (n : Int) (j : Int) (up N) (n : Int) ((i + 1 : Nat) : Int) else if ((sub (N.getD i 0) d : Nat) : Int) = 0 then impl_order.l0 k (up N) (up (L ++ [i])) ((d ||| 2 ^ i : Nat) : Int) (n : Int) ((j + 1 : Nat) : Int) else impl_order.l1 k (up N) (up L) (d : Int) (n : Int) (j : Int) (up N) (n : Int) ((i + 1 : Nat) : Int)) := by
 have h8 : up (L ++ [i]) = up L ++ [(i : Int)] := by simp [up]
 have hwj : ((j + 1 : Nat) : Int) = wrap64 ((j : Int) + 1) := by rw [w64 (by omega) (by omega)]; omega
 have hw : ((i + 1 : Nat) : Int) = wrap64 ((i : Int) + 1) := by rw [w64 (by omega) (by omega)]; omega
 rw [h8, hwj, hw, ← andNot_eq hNi hd8, impl_order.l1, if_pos (by omega), if_pos (by omega), if_pos (by rw [up_length, hN]; omega), sethas_eq hd8 (by omega), Option.bind_some, rd_up (L := N) (i := i) rfl]
 congr 1
 congr 1
 rw [if_pos (by rw [up_length]; omega), setwith_eq hd8 (by omega), Option.bind_some]
theorem ev_next {N : List Nat} {n : Nat} (hN : N.length = n) (hn : n ≤ 8) (hb : below1 n N) (L : List Nat) (d : Nat) (hd : d < 2 ^ n) (j : Nat) (hL : L.length ≤ j) (hj : j ≤ 8) (R : List Nat → Nat → List Int × Int)
  (ho : ∀ (L' : List Nat) (d' : Nat), d' < 2 ^ n → L'.length ≤ j + 1 → Ev (fun k => impl_order.l0 k (up N) (up L') (d' : Int) (n : Int) ((j + 1 : Nat) : Int)) (R L' d')) (m : Nat) : ∀ i, i + m = n →
  Ev (fun k => impl_order.l1 k (up N) (up L) (d : Int) (n : Int) (j : Int) (up N) (n : Int) (i : Int)) (match nextFrom N d i m with | some i => R (L ++ [i]) (d ||| 2 ^ i) | none => R L d) := by
 induction m with
 | zero =>
  intro i hi
  have hwj : wrap64 ((j : Int) + 1) = ((j + 1 : Nat) : Int) := by rw [w64 (by omega) (by omega)]; omega
  have hg : nextFrom N d i 0 = none := by rw [nextFrom]
  have h0 := ho L d hd (by omega)
  rw [hg]
  refine Ev.succ (h0.of fun k => ?_)
  rw [impl_order.l1, if_neg (by omega), hwj]
 | succ m ih =>
  intro i hi
  have h256 := pow8 hn
  have hd8 : d < 256 := Nat.lt_of_lt_of_le hd h256
  have hNi : N.getD i 0 < 256 := Nat.lt_of_lt_of_le (getD_lt hb i) h256
  have hstep := fun k => order_step hN hn L d i j k hd8 hNi (by omega) hj hL
  have ih := ih (i + 1) (by omega)
  refine Ev.succ ?_
  cases hbit : d.testBit i with
  | true =>
   have hg : nextFrom N d i (m + 1) = nextFrom N d (i + 1) m := by rw [nextFrom, if_neg (by simp [hbit])]
   rw [hg]
   refine ih.of fun k => ?_
   rw [hstep, if_pos hbit]
  | false =>
   by_cases hz : sub (N.getD i 0) d = 0
   ·have hg : nextFrom N d i (m + 1) = some i := by rw [nextFrom, if_pos ⟨hbit, hz⟩]
    rw [hg]
    have h0 := ho (L ++ [i]) (d ||| 2 ^ i) (Nat.or_lt_two_pow hd (Nat.pow_lt_pow_right (by omega) (by omega))) (by simp; omega)
    refine h0.of fun k => ?_
    rw [hstep, if_neg (by simp [hbit]), if_pos (by omega)]
   ·have hg : nextFrom N d i (m + 1) = nextFrom N d (i + 1) m := by rw [nextFrom, if_neg (fun h => hz h.2)]
    rw [hg]
    refine ih.of fun k => ?_
    rw [hstep, if_neg (by simp [hbit]), if_neg (by omega)]
theorem ev_orderGo {N : List Nat} {n : Nat} (hN : N.length = n) (hn : n ≤ 8) (hb : below1 n N) : ∀ (m j : Nat) (L : List Nat) (d : Nat), j + m = n → d < 2 ^ n → L.length ≤ j →
  Ev (fun k => impl_order.l0 k (up N) (up L) (d : Int) (n : Int) (j : Int)) (ordR (orderGo N m L d))
 | 0, j, L, d, hj, hd, hL => by
  refine Ev.succ ((Ev.const _).of fun k => ?_)
  simp only [impl_order.l0]
  rw [if_neg (by omega)]
  rfl
 | m + 1, j, L, d, hj, hd, hL => by
  refine Ev.succ ?_
  have h := ev_next hN hn hb L d hd j hL (by omega) (fun L' d' => ordR (orderGo N m L' d')) (fun L' d' hd' hL' => ev_orderGo hN hn hb m (j + 1) L' d' (by omega) hd' hL') N.length 0 (by omega)
  have e : (match nextFrom N d 0 N.length with | some i => ordR (orderGo N m (L ++ [i]) (d ||| 2 ^ i)) | none => ordR (orderGo N m L d)) = ordR (orderGo N (m + 1) L d) := by
   rw [orderGo, nextD]
   cases he : nextFrom N d 0 N.length <;> rfl
  rw [← e]
  refine h.of fun k => ?_
  simp only [impl_order.l0]
  rw [if_pos (by omega), up_length, hN]
  rfl
theorem ev_order {N : List Nat} (hn : N.length ≤ 8) (hb : below1 N.length N) : Ev (fun k => impl_order.f k (up N)) (ordR (orderD N)) := by
 have h := ev_orderGo rfl hn hb N.length 0 [] 0 (by omega) (Nat.two_pow_pos _) (by simp)
 refine h.of fun k => ?_
 unfold impl_order.f
 rw [up_length]
 rfl
/-- What an order (as far as it goes) and its set have. -/
structure OrdOk (N : List Nat) (L : List Nat) (d : Nat) : Prop where
 lt : ∀ i ∈ L, i < N.length
 set : ∀ i, d.testBit i = true ↔ i ∈ L
 dlt : d < 2 ^ N.length
 nodup : L.Nodup
 len : L.length + zb N.length d = N.length
 needs : ∀ pre i suf, L = pre ++ i :: suf → ∀ k, (N.getD i 0).testBit k = true → k ∈ pre
theorem zb_step {p i : Nat} (hp : p.testBit i = false) : ∀ {n : Nat}, i < n → zb n (p ||| 2 ^ i) + 1 = zb n p
 | 0, h => by omega
 | n + 1, h => by
  simp only [zb, or_bit]
  by_cases hi : i = n
  ·subst hi
   have : ∀ m, m ≤ i → zb m (p ||| 2 ^ i) = zb m p := by
    intro m
    induction m with
    | zero => intro _; rfl
    | succ m ih =>
     intro hm
     simp only [zb, or_bit, ih (by omega)]
     have : i ≠ m := by omega
     simp [this]
   rw [this i (Nat.le_refl _)]
   simp [hp]
  ·have := zb_step hp (n := n) (by omega)
   cases p.testBit n <;> simp [hi] <;> omega
theorem zb_zero : ∀ n, zb n 0 = n
 | 0 => rfl
 | n + 1 => by simp [zb, zb_zero n]
theorem zb_full (n : Nat) : ∀ m, m ≤ n → zb m (2 ^ n - 1) = 0
 | 0, _ => rfl
 | m + 1, h => by
  simp only [zb, zb_full n m (by omega), Nat.testBit_two_pow_sub_one]
  simp; omega
theorem OrdOk.step {N L : List Nat} {d i : Nat} (hn : N.length ≤ 8) (hb : below1 N.length N) (h : OrdOk N L d) (hi : i < N.length) (h1 : d.testBit i = false) (h2 : sub (N.getD i 0) d = 0) : OrdOk N (L ++ [i]) (d ||| 2 ^ i) where
 lt := by
  intro k hk
  rcases List.mem_append.1 hk with hk | hk
  ·exact h.lt k hk
  ·rw [List.mem_singleton.1 hk]; exact hi
 set := by
  intro k
  rw [or_bit, List.mem_append, List.mem_singleton, Bool.or_eq_true, h.set, decide_eq_true_eq]
  constructor
  ·rintro (h | h)
   ·exact .inl h
   ·exact .inr h.symm
  ·rintro (h | h)
   ·exact .inl h
   ·exact .inr h.symm
 dlt := Nat.or_lt_two_pow h.dlt (Nat.pow_lt_pow_right (by omega) hi)
 nodup := by
  rw [List.nodup_append]
  refine ⟨h.nodup, by simp, fun a ha b hb => ?_⟩
  rw [List.mem_singleton.1 hb]
  rintro rfl
  have := (h.set a).2 ha
  rw [this] at h1
  cases h1
 len := by
  have := zb_step h1 hi
  have := h.len
  simp
  omega
 needs := by
  intro pre k suf he m hm
  rcases List.eq_nil_or_concat suf with rfl | ⟨s2, x, rfl⟩
  ·have h3 : pre = L ∧ k = i := by
    have := List.append_inj' he (by simp)
    simpa [eq_comm] using this
   obtain ⟨rfl, rfl⟩ := h3
   have hd8 : d < 256 := Nat.lt_of_lt_of_le h.dlt (pow8 hn)
   have h4 := sub_testBit (i := m) (Nat.lt_of_lt_of_le (getD_lt hb k) (pow8 hn)) hd8
   rw [h2, hm] at h4
   simp at h4
   exact (h.set m).1 h4
  ·have h3 : L = pre ++ k :: s2 := by
    have e2 : L ++ [i] = (pre ++ k :: s2) ++ [x] := by rw [he]; simp
    exact (List.append_inj' e2 (by simp)).1
   exact h.needs pre k s2 h3 m hm
theorem orderGo_ok {N : List Nat} (hn : N.length ≤ 8) (hb : below1 N.length N) : ∀ {m : Nat} {L : List Nat} {d : Nat}, OrdOk N L d → OrdOk N (orderGo N m L d).1 (orderGo N m L d).2
 | 0, L, d, h => h
 | m + 1, L, d, h => by
  rw [orderGo]
  cases he : nextD N d with
  | none => exact orderGo_ok hn hb h
  | some i =>
   have := nextD_spec he
   exact orderGo_ok hn hb (h.step hn hb this.1 this.2.1 this.2.2)
theorem orderD_ok {N : List Nat} (hn : N.length ≤ 8) (hb : below1 N.length N) : OrdOk N (orderD N).1 (orderD N).2 :=
 orderGo_ok hn hb ⟨by simp, by simp, Nat.two_pow_pos _, by simp, by rw [zb_zero]; simp, by simp⟩
/-- What is known of a valid graph. -/
def mkG (g : List Tk) (N : List Nat) : GD := ⟨g, N, (orderD N).1, (reach N (orderD N).1 g.length).1, (reach N (orderD N).1 g.length).2⟩
def graphD (g : List Tk) : Option GD := match needsD g with
 | none => none
 | some N => if (orderD N).2 = 2 ^ g.length - 1 then some (mkG g N) else none
theorem graphD_spec {g : List Tk} {G : GD} (h : graphD g = some G) : ∃ N, needsD g = some N ∧ (orderD N).2 = 2 ^ g.length - 1 ∧ G = mkG g N := by
 unfold graphD at h
 cases he : needsD g with
 | none => rw [he] at h; cases h
 | some N =>
  rw [he] at h
  simp only [] at h
  by_cases hf : (orderD N).2 = 2 ^ g.length - 1
  ·rw [if_pos hf] at h
   cases h
   exact ⟨N, rfl, hf, rfl⟩
  ·rw [if_neg hf] at h; cases h
theorem graphD_ok {g : List Tk} {G : GD} (h : graphD g = some G) : GOk G := by
 obtain ⟨N, h1, h2, rfl⟩ := graphD_spec h
 obtain ⟨h8, hl, hb⟩ := needsD_spec h1
 have hb' : below1 N.length N := by rw [hl]; exact hb
 have ok := orderD_ok (by omega) hb'
 have hob : ∀ i ∈ (orderD N).1, i < g.length := fun i hi => by have := ok.lt i hi; omega
 have hr := reach_below hb hob
 refine ⟨h8, hl, hb, ?_, hob, reach_len1 _ _ _, hr.1, reach_len2 _ _ _, hr.2⟩
 have := ok.len
 rw [h2, hl, zb_full _ _ (Nat.le_refl _)] at this
 exact this
set_option maxRecDepth 100000 in
set_option maxHeartbeats 4000000 in
theorem graphOf_no2 (k : Nat) (A0 : Option Addr) (c0 : Nat) (l0 : List Tk) (N O : List Nat) (d : Nat) (w : World) (hr0 : k33.C w A0 l0.length l0) (hc0 : l0.length ≤ c0) (h8 : l0.length ≤ 8) (hne : d ≠ 2 ^ l0.length - 1)
  (h : impl_needsOf.f k l0 = some (up N, true)) (ho : impl_order.f k (up N) = some (up O, (d : Int))) :
  Calls Tryd.prog 28 #[.slice A0 l0.length c0] w fun e w' => e = .returned (.tuple #[.pointer none, .bool false]) ∧ Below w.heap.size w w' := by
 have h' := Lib.hid h
 have ho' := Lib.hid ho
 clear h ho
 have hev := everything_calls l0.length h8
 generalize 2 ^ l0.length - 1 = full at hne hev
 generalize hfi : ((full : Nat) : Int) = fi at hev
 generalize hdi : ((d : Nat) : Int) = di at ho'
 have hne1 : (di != fi) = true := by simp; omega
 clear hfi hdi
 refine calls_marks Tryd.func28 rfl ?_
 simp only [Tryd.ntmps28, List.size_toArray, List.length_cons, List.length_nil, Nat.reduceAdd, Nat.reduceSub, Array.replicate_succ, Array.replicate_zero, List.push_toArray, List.append_toArray, List.nil_append, List.cons_append]
 go_wp2_with (first | (go_at_call 43; refine (impl_needsOf.calls k A0 c0 l0 _ _ _ hr0 hc0 h'.out).mono ?_; rintro e w1 ⟨v0, rfl, hR1, hB1⟩; obtain ⟨A1, c1, rfl, hl1', hC1⟩ := Kd.R_reads hR1; have hz1 := Lib.hid (up_length N)) | (go_at_call 44; refine (impl_order.calls k _ _ (up N) _ _ _ hC1 hl1' ho'.out).mono ?_; rintro e w2 ⟨v1, rfl, hR2, hB2⟩) | (go_at_call 45; refine (hev _).mono ?_; rintro e w3 ⟨rfl, rfl⟩))
 refine leave_ret (Marks.nil w.heap.size w.heap.size _) (fun W => results_tmp2 rfl _ _ _) ?_
 intro W' ht
 exact ⟨rfl, ht.below (below_step hB1 hB2) (Nat.le_refl _) (Nat.le_refl _)⟩
/-- What graphOf hands back. -/
def graphPost (A0 : Option Addr) (g : List Tk) (w : World) (e : Ending) (w' : World) : Prop := match graphD g with
 | none => e = .returned (.tuple #[.pointer none, .bool false]) ∧ Below w.heap.size w w'
 | some G => ∃ (b : Nat) (v : Value), e = .returned (.tuple #[.pointer (some ⟨b, 0, none⟩), .bool true]) ∧ Below w.heap.size w w' ∧ w.heap.size ≤ b ∧ IsG w' b G ∧ w'.cell? ⟨b, 2, none⟩ = some v ∧ (Kd.int .i64).R 3 w' w.heap.size (fun _ => True) v (up G.order) ∧ (∀ W2 : World, k33.C W2 A0 g.length g → (∀ k, w.heap.size ≤ k → k < w'.heap.size → W2.heap[k]? = w'.heap[k]?) → IsG W2 b G)
theorem graphOf_calls (A0 : Option Addr) (c0 : Nat) (l0 : List Tk) (w : World) (hT : Tab w) (hr0 : k33.C w A0 l0.length l0) (hc0 : l0.length ≤ c0) :
  Calls Tryd.prog 28 #[.slice A0 l0.length c0] w (graphPost A0 l0 w) := by
 have hn := ev_needsOf l0
 cases he : needsD l0 with
 | none =>
  rw [he] at hn
  obtain ⟨k, hk⟩ := hn.one
  refine (graphOf_no1 k A0 c0 l0 [] w hr0 hc0 hk).mono ?_
  intro e w' h
  have hg : graphD l0 = none := by unfold graphD; rw [he]
  unfold graphPost
  rw [hg]
  exact h
 | some N =>
  rw [he] at hn
  obtain ⟨h8, hl, hb⟩ := needsD_spec he
  have hb' : below1 N.length N := by rw [hl]; exact hb
  have ho := ev_order (N := N) (by omega) hb'
  have ok := orderD_ok (N := N) (by omega) hb'
  obtain ⟨k, h1, h2⟩ := hn.both ho
  by_cases hf : (orderD N).2 = 2 ^ l0.length - 1
  ·have hg : graphD l0 = some (mkG l0 N) := by unfold graphD; rw [he]; simp only []; rw [if_pos hf]
   have h2' : impl_order.f k (up N) = some (up (orderD N).1, ((2 ^ l0.length - 1 : Nat) : Int)) := by rw [← hf]; exact h2
   have gok := graphD_ok hg
   refine (graphOf_yes k A0 c0 l0 N (orderD N).1 w hT hr0 hc0 h8 hl hb gok.ob (by have := gok.ol; have := gok.n8; show (orderD N).1.length ≤ 8; simp only [mkG] at *; omega) h1 h2').mono ?_
   intro e w' h
   unfold graphPost
   rw [hg]
   exact h
  ·have hg : graphD l0 = none := by unfold graphD; rw [he]; simp only []; rw [if_neg hf]
   refine (graphOf_no2 k A0 c0 l0 N (orderD N).1 (orderD N).2 w hr0 hc0 h8 hf h1 h2).mono ?_
   intro e w' h
   unfold graphPost
   rw [hg]
   exact h
end Go.Proofs.YtfehecoebkbgeaaDoor.Core
end
section
set_option linter.unusedVariables false
set_option linter.unusedSimpArgs false
namespace Go.Proofs.YtfehecoebkbgeaaDoor.Core
open Go Go.RowKit Go.Proofs.YtfehecoebkbgeaaDoorW.PrintWords Go.Proofs.YtfehecoebkbgeaaDoorW.PrintMore Go.Proofs.YtfehecoebkbgeaaDoor.P
abbrev big : Nat := 4611686018427387904
theorem w64s {n : Nat} (h : n < big) : wrap64 ((n : Int) + 1) = ((n + 1 : Nat) : Int) := by rw [w64 (by omega) (by unfold big at h; omega)]; omega
theorem inRange_eq (x a b : Int) : spec_inRange.f x a b = some (decide (a ≤ x ∧ x ≤ b)) := by
 unfold spec_inRange.f
 by_cases h : a ≤ x
 ·rw [if_pos h]; simp; omega
 ·rw [if_neg h]; simp; omega
theorem ev_isIn_from (L : List Int) (x : Int) (hL : L.length < big) : ∀ (r pre : List Int), L = pre ++ r → Ev (fun k => spec_isIn.l0 k L x (pre.length : Int)) (decide (x ∈ r))
 | [], pre, hp => by
  refine Ev.succ ((Ev.const _).of fun k => ?_)
  rw [List.append_nil] at hp
  subst hp
  rw [spec_isIn.l0, if_neg (by omega)]
  simp
 | y :: r, pre, hp => by
  have hlen : L.length = pre.length + (r.length + 1) := by rw [hp]; simp
  have hrd : rd L (pre.length : Int) = y := by rw [hp]; exact rd_mid rfl
  refine Ev.succ ?_
  by_cases hy : y = x
  ·refine (Ev.const _).of fun k => ?_
   rw [spec_isIn.l0, if_pos (by omega), if_pos (by omega), hrd, if_pos hy]
   simp [hy]
  ·have ih := ev_isIn_from L x hL r (pre ++ [y]) (by rw [hp]; simp)
   have e : decide (x ∈ y :: r) = decide (x ∈ r) := by
    have : x ≠ y := fun h => hy h.symm
    simp [this]
   rw [e]
   refine ih.of fun k => ?_
   rw [spec_isIn.l0, if_pos (by omega), if_pos (by omega), hrd, if_neg hy, w64s (by omega)]
   simp
theorem ev_isIn {L : List Int} (hL : L.length < big) (x : Int) : Ev (fun k => spec_isIn.f k L x) (decide (x ∈ L)) := ev_isIn_from L x hL L [] rfl
theorem ev_allIn_from (L : List Int) (a b : Int) (hL : L.length < big) : ∀ (r pre : List Int), L = pre ++ r → Ev (fun k => spec_allIn.l0 k L a b (pre.length : Int)) (decide (∀ x ∈ r, a ≤ x ∧ x ≤ b))
 | [], pre, hp => by
  refine Ev.succ ((Ev.const _).of fun k => ?_)
  rw [List.append_nil] at hp
  subst hp
  rw [spec_allIn.l0, if_neg (by omega)]
  simp
 | y :: r, pre, hp => by
  have hlen : L.length = pre.length + (r.length + 1) := by rw [hp]; simp
  have hrd : rd L (pre.length : Int) = y := by rw [hp]; exact rd_mid rfl
  refine Ev.succ ?_
  by_cases hy : a ≤ y ∧ y ≤ b
  ·have ih := ev_allIn_from L a b hL r (pre ++ [y]) (by rw [hp]; simp)
   have e : decide (∀ x ∈ y :: r, a ≤ x ∧ x ≤ b) = decide (∀ x ∈ r, a ≤ x ∧ x ≤ b) := by simp [hy]
   rw [e]
   refine ih.of fun k => ?_
   rw [spec_allIn.l0, if_pos (by omega), if_pos (by omega), hrd, inRange_eq, decide_eq_true hy, Option.bind_some, if_pos rfl, w64s (by omega)]
   simp
  ·refine (Ev.const _).of fun k => ?_
   rw [spec_allIn.l0, if_pos (by omega), if_pos (by omega), hrd, inRange_eq, decide_eq_false hy, Option.bind_some, if_neg (by simp)]
   simp only [Option.some.injEq]
   rw [eq_comm, decide_eq_false_iff_not]
   exact fun h => hy (h y List.mem_cons_self)
theorem ev_allIn {L : List Int} (hL : L.length < big) (a b : Int) : Ev (fun k => spec_allIn.f k L a b) (decide (∀ x ∈ L, a ≤ x ∧ x ≤ b)) := ev_allIn_from L a b hL L [] rfl
def ascD : List Int → Bool
 | [] => true
 | [_] => true
 | x :: y :: r => decide (x < y) && ascD (y :: r)
theorem ev_asc_from (L : List Int) (hL : L.length < big) : ∀ (r pre : List Int) (x : Int), L = pre ++ x :: r → Ev (fun k => spec_ascends.l0 k L ((pre.length + 1 : Nat) : Int)) (ascD (x :: r))
 | [], pre, x, hp => by
  have hlen : L.length = pre.length + 1 := by rw [hp]; simp
  refine Ev.succ ((Ev.const _).of fun k => ?_)
  rw [spec_ascends.l0, if_neg (by omega)]
  rfl
 | y :: r, pre, x, hp => by
  have hlen : L.length = pre.length + (r.length + 1 + 1) := by rw [hp]; simp
  have hw : wrap64 (((pre.length + 1 : Nat) : Int) - 1) = (pre.length : Int) := by rw [w64 (by omega) (by unfold big at hL; omega)]; omega
  have hrd : rd L (pre.length : Int) = x := by rw [hp]; exact rd_mid rfl
  have hrd2 : rd L ((pre.length + 1 : Nat) : Int) = y := by
   have : L = (pre ++ [x]) ++ y :: r := by rw [hp]; simp
   rw [this]; exact rd_mid (by simp)
  refine Ev.succ ?_
  by_cases hy : x < y
  ·have ih := ev_asc_from L hL r (pre ++ [x]) y (by rw [hp]; simp)
   have e : ascD (x :: y :: r) = ascD (y :: r) := by simp [ascD, hy]
   rw [e]
   refine ih.of fun k => ?_
   rw [spec_ascends.l0, if_pos (by omega), if_pos (by omega), hw, if_pos (by omega), if_pos (by omega), hrd, hrd2, if_neg (by omega), w64s (by omega)]
   simp
  ·have e : ascD (x :: y :: r) = false := by simp [ascD, hy]
   rw [e]
   refine (Ev.const _).of fun k => ?_
   rw [spec_ascends.l0, if_pos (by omega), if_pos (by omega), hw, if_pos (by omega), if_pos (by omega), hrd, hrd2, if_pos (by omega)]
theorem ev_ascends {L : List Int} (hL : L.length < big) : Ev (fun k => spec_ascends.f k L) (ascD L) := by
 cases L with
 | nil =>
  refine Ev.of (Ev.succ ((Ev.const true).of (g := fun k => spec_ascends.l0 (k + 1) [] 1) fun k => ?_)) (fun k => rfl)
  rw [spec_ascends.l0, if_neg (by simp)]
 | cons x r => exact ev_asc_from (x :: r) hL r [] x rfl
theorem ev_allDone_from (L M : List Int) (hL : L.length < big) (hM : M.length < big) : ∀ (r pre : List Int), L = pre ++ r → Ev (fun k => spec_allDone.l0 k L M (pre.length : Int)) (decide (∀ x ∈ r, x ∈ M))
 | [], pre, hp => by
  refine Ev.succ ((Ev.const _).of fun k => ?_)
  rw [List.append_nil] at hp
  subst hp
  rw [spec_allDone.l0, if_neg (by omega)]
  simp
 | y :: r, pre, hp => by
  have hlen : L.length = pre.length + (r.length + 1) := by rw [hp]; simp
  have hrd : rd L (pre.length : Int) = y := by rw [hp]; exact rd_mid rfl
  have hi := ev_isIn hM y
  refine Ev.succ ?_
  by_cases hy : y ∈ M
  ·have ih := ev_allDone_from L M hL hM r (pre ++ [y]) (by rw [hp]; simp)
   have e : decide (∀ x ∈ y :: r, x ∈ M) = decide (∀ x ∈ r, x ∈ M) := by simp [hy]
   rw [e]
   rw [decide_eq_true hy] at hi
   refine (hi.bind (g := fun k t => if t = true then spec_allDone.l0 k L M ((pre ++ [y]).length : Int) else some false) (ih.of fun k => if_pos rfl)).of fun k => ?_
   rw [spec_allDone.l0, if_pos (by omega), if_pos (by omega), hrd, w64s (by omega)]
   simp
  ·have e : decide (∀ x ∈ y :: r, x ∈ M) = false := by
    rw [decide_eq_false_iff_not]
    exact fun h => hy (h y List.mem_cons_self)
   rw [e]
   rw [decide_eq_false hy] at hi
   refine (hi.bind (g := fun k t => if t = true then spec_allDone.l0 k L M ((pre ++ [y]).length : Int) else some false) ((Ev.const false).of fun k => if_neg (by simp))).of fun k => ?_
   rw [spec_allDone.l0, if_pos (by omega), if_pos (by omega), hrd, w64s (by omega)]
   simp
theorem ev_allDone {L M : List Int} (hL : L.length < big) (hM : M.length < big) : Ev (fun k => spec_allDone.f k L M) (decide (∀ x ∈ L, x ∈ M)) := ev_allDone_from L M hL hM L [] rfl
def needsOk (n : Nat) (l : List Int) : Prop := (∀ x ∈ l, 0 ≤ x ∧ x ≤ (n : Int) - 1) ∧ ascD l = true
instance (n : Nat) (l : List Int) : Decidable (needsOk n l) := by unfold needsOk; infer_instance
theorem ev_validTask {t : Tk} (ht : t.f1.length < big) {n : Nat} (hn : n < big) : Ev (fun k => spec_validTask.f k t.f0 t.f1 t.f2 t.f3 (n : Int)) (decide (taskOk t ∧ needsOk n t.f1)) := by
 have hw : wrap64 ((n : Int) - 1) = (n : Int) - 1 := w64 (by omega) (by unfold big at hn; omega)
 have hA := ev_allIn ht 0 ((n : Int) - 1)
 have hB := ev_ascends ht
 by_cases h1 : 1 ≤ t.f0 ∧ t.f0 ≤ 20
 ·by_cases h2 : 0 ≤ t.f2 ∧ t.f2 ≤ 2
  ·by_cases h3 : 1 ≤ t.f3 ∧ t.f3 ≤ 4
   ·have hok : taskOk t := ⟨h1, h2, h3⟩
    have hu : ∀ k, spec_validTask.f k t.f0 t.f1 t.f2 t.f3 (n : Int) = (spec_allIn.f k t.f1 0 ((n : Int) - 1)).bind fun t113 => (if t113 = true then ((spec_ascends.f k t.f1).bind fun t114 => (some t114)) else (some false)) := by
     intro k
     unfold spec_validTask.f
     rw [inRange_eq, inRange_eq, inRange_eq, decide_eq_true h1, decide_eq_true h2, decide_eq_true h3, hw]
     rfl
    refine Ev.of ?_ hu
    refine (hA.bind (g := fun k t113 => if t113 = true then ((spec_ascends.f k t.f1).bind fun t114 => (some t114)) else (some false)) (b := decide (taskOk t ∧ needsOk n t.f1)) ?_)
    by_cases h4 : ∀ x ∈ t.f1, 0 ≤ x ∧ x ≤ (n : Int) - 1
    ·rw [decide_eq_true h4]
     have e : decide (taskOk t ∧ needsOk n t.f1) = ascD t.f1 := by
      cases h5 : ascD t.f1
      ·rw [decide_eq_false_iff_not]; intro h; have := h.2.2; rw [h5] at this; cases this
      ·rw [decide_eq_true_eq]; exact ⟨hok, h4, h5⟩
     rw [e]
     refine (hB.bind (g := fun _ t114 => some t114) (Ev.const _)).of fun k => ?_
     rw [if_pos rfl]
    ·rw [decide_eq_false h4]
     have e : decide (taskOk t ∧ needsOk n t.f1) = false := by rw [decide_eq_false_iff_not]; exact fun h => h4 h.2.1
     rw [e]
     exact (Ev.const false).of fun k => if_neg (by simp)
   ·have e : decide (taskOk t ∧ needsOk n t.f1) = false := by rw [decide_eq_false_iff_not]; exact fun h => h3 h.1.2.2
    rw [e]
    refine (Ev.const false).of fun k => ?_
    unfold spec_validTask.f
    rw [inRange_eq, inRange_eq, inRange_eq, decide_eq_true h1, decide_eq_true h2, decide_eq_false h3]
    rfl
  ·have e : decide (taskOk t ∧ needsOk n t.f1) = false := by rw [decide_eq_false_iff_not]; exact fun h => h2 h.1.2.1
   rw [e]
   refine (Ev.const false).of fun k => ?_
   unfold spec_validTask.f
   rw [inRange_eq, inRange_eq, decide_eq_true h1, decide_eq_false h2]
   rfl
 ·have e : decide (taskOk t ∧ needsOk n t.f1) = false := by rw [decide_eq_false_iff_not]; exact fun h => h1 h.1.1
  rw [e]
  refine (Ev.const false).of fun k => ?_
  unfold spec_validTask.f
  rw [inRange_eq, decide_eq_false h1]
  rfl
/-- All lists are of a size that fits. -/
def Fits (g : List Tk) : Prop := g.length < big ∧ ∀ t ∈ g, t.f1.length < big
theorem ev_tasksFine_from (g : List Tk) (hg : Fits g) : ∀ (r pre : List Tk), g = pre ++ r → Ev (fun k => spec_tasksFine.l0 k g (pre.length : Int)) (decide ((∀ t ∈ r, taskOk t ∧ needsOk g.length t.f1) ∧ g.length ≤ 8))
 | [], pre, hp => by
  refine Ev.succ ((Ev.const _).of fun k => ?_)
  rw [List.append_nil] at hp
  subst hp
  rw [spec_tasksFine.l0, if_neg (by omega)]
  congr 1
  rw [decide_eq_decide]
  constructor
  ·intro h; exact ⟨by simp, by omega⟩
  ·intro h; omega
 | t :: r, pre, hp => by
  have hlen : g.length = pre.length + (r.length + 1) := by rw [hp]; simp
  have hbig := hg.1
  have hrd : rd_T33 g (pre.length : Int) = t := by rw [hp]; exact rdT_mid rfl
  have hv := ev_validTask (hg.2 t (by rw [hp]; simp)) hg.1
  refine Ev.succ ?_
  by_cases hy : taskOk t ∧ needsOk g.length t.f1
  ·have ih := ev_tasksFine_from g hg r (pre ++ [t]) (by rw [hp]; simp)
   have e : decide ((∀ t' ∈ t :: r, taskOk t' ∧ needsOk g.length t'.f1) ∧ g.length ≤ 8) = decide ((∀ t ∈ r, taskOk t ∧ needsOk g.length t.f1) ∧ g.length ≤ 8) := by simp [hy]
   rw [e]
   rw [decide_eq_true hy] at hv
   refine (hv.bind (g := fun k b => if b = true then spec_tasksFine.l0 k g ((pre ++ [t]).length : Int) else some false) (ih.of fun k => if_pos rfl)).of fun k => ?_
   rw [spec_tasksFine.l0, if_pos (by omega), if_pos (by omega), hrd, w64s (by omega)]
   simp
  ·have e : decide ((∀ t' ∈ t :: r, taskOk t' ∧ needsOk g.length t'.f1) ∧ g.length ≤ 8) = false := by
    rw [decide_eq_false_iff_not]
    exact fun h => hy (h.1 t List.mem_cons_self)
   rw [e]
   rw [decide_eq_false hy] at hv
   refine (hv.bind (g := fun k b => if b = true then spec_tasksFine.l0 k g ((pre ++ [t]).length : Int) else some false) ((Ev.const false).of fun k => if_neg (by simp))).of fun k => ?_
   rw [spec_tasksFine.l0, if_pos (by omega), if_pos (by omega), hrd, w64s (by omega)]
   simp
def fineD (g : List Tk) : Prop := (∀ t ∈ g, taskOk t ∧ needsOk g.length t.f1) ∧ g.length ≤ 8
instance (g : List Tk) : Decidable (fineD g) := by unfold fineD; infer_instance
theorem ev_tasksFine {g : List Tk} (hg : Fits g) : Ev (fun k => spec_tasksFine.f k g) (decide (fineD g)) := ev_tasksFine_from g hg g [] rfl
end Go.Proofs.YtfehecoebkbgeaaDoor.Core
end
section
set_option linter.unusedVariables false
namespace Go.Proofs.YtfehecoebkbgeaaDoor.Core
open Go Go.RowKit Go.Shelf
def sh_lays156_ren : Go.Shelf.Ren := ⟨fun | 156 => 19 | 165 => 33 | 166 => 30 | 169 => 32 | 240 => 48 | 241 => 50 | 276 => 61 | 277 => 63 | n => n, fun | 31 => 39 | 9 => 9 | 3 => 3 | 4 => 4 | 0 => 0 | 20 => 20 | 72 => 56 | 76 => 60 | 70 => 54 | 37 => 29 | 75 => 58 | 127 => 87 | 164 => 96 | 5 => 5 | 80 => 63 | n => n, fun | n => n⟩
theorem sh_lays156 : Go.Proofs.Lays.n156 Tryd.prog sh_lays156_ren := {
 mixed := by kernel_rfl
 f156 := Tryd.func19.trans (congrArg some (by kernel_rfl))
 f165 := Tryd.func33.trans (congrArg some (by kernel_rfl))
 f166 := Tryd.func30.trans (congrArg some (by kernel_rfl))
 f169 := Tryd.func32.trans (congrArg some (by kernel_rfl))
 f240 := Tryd.func48.trans (congrArg some (by kernel_rfl))
 f241 := Tryd.func50.trans (congrArg some (by kernel_rfl))
 f276 := Tryd.func61.trans (congrArg some (by kernel_rfl))
 f277 := Tryd.func63.trans (congrArg some (by kernel_rfl))
 t0 := Tryd.underlying0
 a0 := Tryd.isAgg0
 z0 := Tryd.sizeOf0
 v0 := Tryd.zeroValue0
 t3 := Tryd.underlying3
 a3 := Tryd.isAgg3
 z3 := Tryd.sizeOf3
 v3 := Tryd.zeroValue3
 t4 := Tryd.underlying4
 a4 := Tryd.isAgg4
 z4 := Tryd.sizeOf4
 v4 := Tryd.zeroValue4
 t9 := Tryd.underlying9
 a9 := Tryd.isAgg9
 z9 := Tryd.sizeOf9
 v9 := Tryd.zeroValue9
 t20 := Tryd.underlying20
 a20 := Tryd.isAgg20
 z20 := Tryd.sizeOf20
 v20 := Tryd.zeroValue20
 t31 := Tryd.underlying39
 a31 := Tryd.isAgg39
 z31 := Tryd.sizeOf39
 v31 := Tryd.zeroValue39
 t37 := Tryd.underlying29
 a37 := Tryd.isAgg29
 z37 := Tryd.sizeOf29
 v37 := Tryd.zeroValue29
 t70 := Tryd.underlying54
 a70 := Tryd.isAgg54
 z70 := Tryd.sizeOf54
 v70 := Tryd.zeroValue54
 t72 := Tryd.underlying56
 a72 := Tryd.isAgg56
 z72 := Tryd.sizeOf56
 v72 := Tryd.zeroValue56
 t75 := Tryd.underlying58
 a75 := Tryd.isAgg58
 z75 := Tryd.sizeOf58
 v75 := Tryd.zeroValue58
 t76 := Tryd.underlying60
 a76 := Tryd.isAgg60
 z76 := Tryd.sizeOf60
 v76 := Tryd.zeroValue60
 t127 := Tryd.underlying87
 a127 := Tryd.isAgg87
 z127 := Tryd.sizeOf87
 v127 := Tryd.zeroValue87
 t164 := Tryd.underlying96
 a164 := Tryd.isAgg96
 z164 := Tryd.sizeOf96
 v164 := Tryd.zeroValue96 }
theorem sh_Builder_Extra_156 : Builder.Extra Tryd.prog sh_lays156_ren := {
 sizeBuilder := by kernel_rfl
 liesBuilder := by kernel_rfl
 t5 := Tryd.underlying5
 a5 := Tryd.isAgg5
 z5 := Tryd.sizeOf5
 v5 := Tryd.zeroValue5
 infoByte := by kernel_rfl
 cellsByte := by kernel_rfl
 sizeByte := by kernel_rfl
 neB5 := by decide }
open Go.RowKit in
theorem sh_strings_Join_none (a : Option Addr) (c : Nat) (sep : ByteArray) (w : World) :
  Calls Tryd.prog 19 #[.slice a 0 c, .string sep] w fun e w' => e = .returned (.string ⟨#[]⟩) ∧ w' = w := Any.strings_Join_none sh_lays156 sh_Builder_Extra_156 a c sep w
open Go.RowKit in
theorem sh_strings_Join (bk o c : Nat) (xs : List ByteArray) (sep : ByteArray) (w : World) (hcells : ∀ (j : Nat) x, xs[j]? = some x → w.cell? ⟨bk, o + j, none⟩ = some (.string x)) (hbk : bk < w.heap.size) (hN : xs.length ≤ 140737488355328) (hcap : xs.length ≤ c) (hlen : (Lib.join (xs.map (·.data.toList)) sep.data.toList).length ≤ 140737488355328) :
  Calls Tryd.prog 19 #[.slice (some ⟨bk, o, none⟩) xs.length c, .string sep] w fun e w' => e = .returned (.string ⟨(Lib.join (xs.map (·.data.toList)) sep.data.toList).toArray⟩) ∧ Below w.heap.size w w' := Any.strings_Join sh_lays156 sh_Builder_Extra_156 bk o c xs sep w hcells hbk hN hcap hlen
def sh_lays169_ren : Go.Shelf.Ren := ⟨fun | 169 => 32 | n => n, fun | 70 => 54 | 9 => 9 | 0 => 0 | 72 => 56 | 37 => 29 | 127 => 87 | 3 => 3 | 5 => 5 | n => n, fun | n => n⟩
theorem sh_lays169 : Go.Proofs.Lays.n169 Tryd.prog sh_lays169_ren := {
 mixed := by kernel_rfl
 f169 := Tryd.func32.trans (congrArg some (by kernel_rfl))
 t0 := Tryd.underlying0
 a0 := Tryd.isAgg0
 z0 := Tryd.sizeOf0
 v0 := Tryd.zeroValue0
 t3 := Tryd.underlying3
 a3 := Tryd.isAgg3
 z3 := Tryd.sizeOf3
 v3 := Tryd.zeroValue3
 t9 := Tryd.underlying9
 a9 := Tryd.isAgg9
 z9 := Tryd.sizeOf9
 v9 := Tryd.zeroValue9
 t37 := Tryd.underlying29
 a37 := Tryd.isAgg29
 z37 := Tryd.sizeOf29
 v37 := Tryd.zeroValue29
 t70 := Tryd.underlying54
 a70 := Tryd.isAgg54
 z70 := Tryd.sizeOf54
 v70 := Tryd.zeroValue54
 t72 := Tryd.underlying56
 a72 := Tryd.isAgg56
 z72 := Tryd.sizeOf56
 v72 := Tryd.zeroValue56
 t127 := Tryd.underlying87
 a127 := Tryd.isAgg87
 z127 := Tryd.sizeOf87
 v127 := Tryd.zeroValue87 }
theorem sh_Builder_Extra_169 : Builder.Extra Tryd.prog sh_lays169_ren := {
 sizeBuilder := by kernel_rfl
 liesBuilder := by kernel_rfl
 t5 := Tryd.underlying5
 a5 := Tryd.isAgg5
 z5 := Tryd.sizeOf5
 v5 := Tryd.zeroValue5
 infoByte := by kernel_rfl
 cellsByte := by kernel_rfl
 sizeByte := by kernel_rfl
 neB5 := by decide }
open Go.RowKit in
theorem sh_Builder_String_any (B b : Nat) (l : List UInt8) (w : World) (h : Lib.IsBuilder 56 5 B b (Lib.byteCells l) w) (hBw : B ≤ w.heap.size) :
  Calls Tryd.prog 32 #[.pointer (some ⟨b, 0, none⟩)] w fun e w' => e = .returned (.string ⟨l.toArray⟩) ∧ Below B w w' := Any.Builder_String_any sh_lays169 sh_Builder_Extra_169 B b l w h hBw
def sh_lays171_ren : Go.Shelf.Ren := ⟨fun | 171 => 31 | 243 => 49 | 246 => 62 | 283 => 64 | 284 => 65 | 285 => 66 | 286 => 67 | 129 => 69 | 317 => 68 | 318 => 70 | 319 => 71 | 320 => 72 | 337 => 73 | 338 => 74 | n => n, fun | 3 => 3 | 9 => 9 | 2 => 2 | 4 => 4 | 171 => 103 | 0 => 0 | 53 => 104 | 37 => 29 | 5 => 5 | 173 => 107 | 212 => 110 | 51 => 101 | 20 => 20 | 213 => 111 | 46 => 102 | 232 => 100 | 233 => 114 | n => n, fun | 17 => 2 | 18 => 0 | 19 => 3 | n => n⟩
theorem sh_lays171 : Go.Proofs.Lays.n171 Tryd.prog sh_lays171_ren := {
 mixed := by kernel_rfl
 f129 := Tryd.func69.trans (congrArg some (by kernel_rfl))
 f171 := Tryd.func31.trans (congrArg some (by kernel_rfl))
 f243 := Tryd.func49.trans (congrArg some (by kernel_rfl))
 f246 := Tryd.func62.trans (congrArg some (by kernel_rfl))
 f283 := Tryd.func64.trans (congrArg some (by kernel_rfl))
 f284 := Tryd.func65.trans (congrArg some (by kernel_rfl))
 f285 := Tryd.func66.trans (congrArg some (by kernel_rfl))
 f286 := Tryd.func67.trans (congrArg some (by kernel_rfl))
 f317 := Tryd.func68.trans (congrArg some (by kernel_rfl))
 f318 := Tryd.func70.trans (congrArg some (by kernel_rfl))
 f319 := Tryd.func71.trans (congrArg some (by kernel_rfl))
 f320 := Tryd.func72.trans (congrArg some (by kernel_rfl))
 f337 := Tryd.func73.trans (congrArg some (by kernel_rfl))
 f338 := Tryd.func74.trans (congrArg some (by kernel_rfl))
 t0 := Tryd.underlying0
 a0 := Tryd.isAgg0
 z0 := Tryd.sizeOf0
 v0 := Tryd.zeroValue0
 t2 := Tryd.underlying2
 a2 := Tryd.isAgg2
 z2 := Tryd.sizeOf2
 v2 := Tryd.zeroValue2
 t3 := Tryd.underlying3
 a3 := Tryd.isAgg3
 z3 := Tryd.sizeOf3
 v3 := Tryd.zeroValue3
 t4 := Tryd.underlying4
 a4 := Tryd.isAgg4
 z4 := Tryd.sizeOf4
 v4 := Tryd.zeroValue4
 t5 := Tryd.underlying5
 a5 := Tryd.isAgg5
 z5 := Tryd.sizeOf5
 v5 := Tryd.zeroValue5
 t9 := Tryd.underlying9
 a9 := Tryd.isAgg9
 z9 := Tryd.sizeOf9
 v9 := Tryd.zeroValue9
 t20 := Tryd.underlying20
 a20 := Tryd.isAgg20
 z20 := Tryd.sizeOf20
 v20 := Tryd.zeroValue20
 t37 := Tryd.underlying29
 a37 := Tryd.isAgg29
 z37 := Tryd.sizeOf29
 v37 := Tryd.zeroValue29
 t46 := Tryd.underlying102
 a46 := Tryd.isAgg102
 z46 := Tryd.sizeOf102
 v46 := Tryd.zeroValue102
 t51 := Tryd.underlying101
 a51 := Tryd.isAgg101
 z51 := Tryd.sizeOf101
 v51 := Tryd.zeroValue101
 t53 := Tryd.underlying104
 a53 := Tryd.isAgg104
 z53 := Tryd.sizeOf104
 v53 := Tryd.zeroValue104
 t171 := Tryd.underlying103
 a171 := Tryd.isAgg103
 z171 := Tryd.sizeOf103
 v171 := Tryd.zeroValue103
 t173 := Tryd.underlying107
 a173 := Tryd.isAgg107
 z173 := Tryd.sizeOf107
 v173 := Tryd.zeroValue107
 t212 := Tryd.underlying110
 a212 := Tryd.isAgg110
 z212 := Tryd.sizeOf110
 v212 := Tryd.zeroValue110
 t213 := Tryd.underlying111
 a213 := Tryd.isAgg111
 z213 := Tryd.sizeOf111
 t232 := Tryd.underlying100
 a232 := Tryd.isAgg100
 z232 := Tryd.sizeOf100
 v232 := Tryd.zeroValue100
 t233 := Tryd.underlying114
 a233 := Tryd.isAgg114
 z233 := Tryd.sizeOf114
 v233 := Tryd.zeroValue114
 g17 := by kernel_rfl
 g18 := by kernel_rfl
 g19 := by kernel_rfl }
open Go.RowKit Go.Sort Go.Lib in
theorem sh_strconv_Itoa_small (i : Nat) (hi : i < 100) (w : World) :
  Calls Tryd.prog 31 #[.int .i64 i] w fun e w' => e = .returned (.string ⟨(Lib.decDigits i).toArray⟩) ∧ w' = w := Any.strconv_Itoa_small sh_lays171 i hi w
def sh_lays167_ren : Go.Shelf.Ren := ⟨fun | 167 => 29 | 156 => 19 | 165 => 33 | 166 => 30 | 169 => 32 | 240 => 48 | 241 => 50 | 276 => 61 | 277 => 63 | n => n, fun | 31 => 39 | 9 => 9 | 3 => 3 | 4 => 4 | 0 => 0 | 20 => 20 | 72 => 56 | 76 => 60 | 70 => 54 | 37 => 29 | 75 => 58 | 127 => 87 | 164 => 96 | 5 => 5 | 80 => 63 | n => n, fun | n => n⟩
theorem sh_lays167 : Go.Proofs.Lays.n167 Tryd.prog sh_lays167_ren := {
 mixed := by kernel_rfl
 f167 := Tryd.func29.trans (congrArg some (by kernel_rfl))
 f240 := Tryd.func48.trans (congrArg some (by kernel_rfl))
 f276 := Tryd.func61.trans (congrArg some (by kernel_rfl))
 t0 := Tryd.underlying0
 a0 := Tryd.isAgg0
 z0 := Tryd.sizeOf0
 v0 := Tryd.zeroValue0
 t4 := Tryd.underlying4
 a4 := Tryd.isAgg4
 z4 := Tryd.sizeOf4
 v4 := Tryd.zeroValue4
 t5 := Tryd.underlying5
 a5 := Tryd.isAgg5
 z5 := Tryd.sizeOf5
 v5 := Tryd.zeroValue5
 t9 := Tryd.underlying9
 a9 := Tryd.isAgg9
 z9 := Tryd.sizeOf9
 v9 := Tryd.zeroValue9
 t20 := Tryd.underlying20
 a20 := Tryd.isAgg20
 z20 := Tryd.sizeOf20
 v20 := Tryd.zeroValue20
 t37 := Tryd.underlying29
 a37 := Tryd.isAgg29
 z37 := Tryd.sizeOf29
 v37 := Tryd.zeroValue29
 t70 := Tryd.underlying54
 a70 := Tryd.isAgg54
 z70 := Tryd.sizeOf54
 v70 := Tryd.zeroValue54
 t72 := Tryd.underlying56
 a72 := Tryd.isAgg56
 z72 := Tryd.sizeOf56
 v72 := Tryd.zeroValue56
 t75 := Tryd.underlying58
 a75 := Tryd.isAgg58
 z75 := Tryd.sizeOf58
 v75 := Tryd.zeroValue58
 t164 := Tryd.underlying96
 a164 := Tryd.isAgg96
 z164 := Tryd.sizeOf96
 v164 := Tryd.zeroValue96 }
theorem sh_Builder_Extra_167 : Builder.Extra Tryd.prog sh_lays167_ren := {
 sizeBuilder := by kernel_rfl
 liesBuilder := by kernel_rfl
 t5 := Tryd.underlying5
 a5 := Tryd.isAgg5
 z5 := Tryd.sizeOf5
 v5 := Tryd.zeroValue5
 infoByte := by kernel_rfl
 cellsByte := by kernel_rfl
 sizeByte := by kernel_rfl
 neB5 := by decide }
theorem sh_Builder_WriteByte (B b : Nat) (bs : List Value) (c : Int) (w : World) (h : Lib.IsBuilder 56 5 B b bs w) (hlen : bs.length + 1 ≤ 140737488355328) (hBw : B ≤ w.heap.size) :
  Calls Tryd.prog 29 #[.pointer (some ⟨b, 0, none⟩), .int .u8 c] w fun e w' => e = .returned .nilIface ∧ (Lib.BuilderAt 56 5 B b (.pointer (some ⟨b, 0, none⟩)) (bs ++ [.int .u8 c]) w' ∧ Below B w w') := Any.Builder_WriteByte sh_lays167 sh_Builder_Extra_167 B b bs c w h hlen hBw
theorem sh_Builder_WriteString (B b : Nat) (bs : List Value) (s : ByteArray) (w : World) (h : Lib.IsBuilder 56 5 B b bs w) (hlen : bs.length + s.size ≤ 140737488355328) (hBw : B ≤ w.heap.size) :
  Calls Tryd.prog 30 #[.pointer (some ⟨b, 0, none⟩), .string s] w fun e w' => e = .returned (.tuple #[.int .i64 s.size, .nilIface]) ∧ (Lib.BuilderAt 56 5 B b (.pointer (some ⟨b, 0, none⟩)) (bs ++ Lib.strCells s) w' ∧ Below B w w') := Any.Builder_WriteString { sh_lays156 with } sh_Builder_Extra_156 B b bs s w h hlen hBw
end Go.Proofs.YtfehecoebkbgeaaDoor.Core
end
section
set_option linter.unusedVariables false
set_option linter.unusedSimpArgs false
namespace Go.Proofs.YtfehecoebkbgeaaDoor.Core
open Go Go.RowKit Go.Shelf Go.Proofs.YtfehecoebkbgeaaDoorW.PrintWords Go.Proofs.YtfehecoebkbgeaaDoorW.PrintMore Go.Proofs.YtfehecoebkbgeaaDoor.P
attribute [local go_sem] Oper.semAt_some wide_fn wide_depth
theorem graphOf_none (A0 : Option Addr) (c0 : Nat) (l0 : List Tk) (w : World) (hT : Tab w) (hr0 : k33.C w A0 l0.length l0) (hc0 : l0.length ≤ c0) (hg : graphD l0 = none) :
  Calls Tryd.prog 28 #[.slice A0 l0.length c0] w fun e w' => e = .returned (.tuple #[.pointer none, .bool false]) ∧ Below w.heap.size w w' :=
 (graphOf_calls A0 c0 l0 w hT hr0 hc0).mono fun e w' h => by unfold graphPost at h; rw [hg] at h; exact h
theorem graphOf_row (A0 : Option Addr) (c0 : Nat) (l0 : List Tk) (G : GD) (w : World) (hT : Tab w) (hr0 : k33.C w A0 l0.length l0) (hc0 : l0.length ≤ c0) (hg : graphD l0 = some G) :
  Calls Tryd.prog 28 #[.slice A0 l0.length c0] w fun e w' => ∃ (b : Nat) (v : Value), e = .returned (.tuple #[.pointer (some ⟨b, 0, none⟩), .bool true]) ∧ Below w.heap.size w w' ∧ w.heap.size ≤ b ∧ IsG w' b G ∧ w'.cell? ⟨b, 2, none⟩ = some v ∧ (Kd.int .i64).R 3 w' w.heap.size (fun _ => True) v (up G.order) :=
 (graphOf_calls A0 c0 l0 w hT hr0 hc0).mono fun e w' h => by
  unfold graphPost at h
  rw [hg] at h
  obtain ⟨b, v, h1, h2, h3, h4, h5, h6, _⟩ := h
  exact ⟨b, v, h1, h2, h3, h4, h5, h6⟩
theorem graphOf_some (A0 : Option Addr) (c0 : Nat) (l0 : List Tk) (G : GD) (w : World) (hT : Tab w) (hr0 : k33.C w A0 l0.length l0) (hc0 : l0.length ≤ c0) (hg : graphD l0 = some G) :
  Calls Tryd.prog 28 #[.slice A0 l0.length c0] w fun e w' => ∃ b : Nat, e = .returned (.tuple #[.pointer (some ⟨b, 0, none⟩), .bool true]) ∧ Below w.heap.size w w' ∧ IsG w' b G :=
 (graphOf_row A0 c0 l0 G w hT hr0 hc0 hg).mono fun e w' ⟨b, v, h1, h2, _, h3, _⟩ => ⟨b, h1, h2, h3⟩
theorem grown_of_below {a b : World} (row : Option Nat) (h : Below a.heap.size a b) : a.grownBy b row := ⟨h.os, h.tape, h.output, h.size, fun k hk _ => h.block k hk⟩
end Go.Proofs.YtfehecoebkbgeaaDoor.Core
end
section
set_option linter.unusedVariables false
set_option linter.unusedSimpArgs false
namespace Go.Proofs.YtfehecoebkbgeaaDoor.Core
open Go Go.RowKit Go.Shelf Go.Proofs.YtfehecoebkbgeaaDoorW.PrintWords Go.Proofs.YtfehecoebkbgeaaDoorW.PrintLast Go.Proofs.YtfehecoebkbgeaaDoorW.PrintMore Go.Proofs.YtfehecoebkbgeaaDoor.P
attribute [local go_sem] Oper.semAt_some wide_fn wide_depth max2_int max_two
/-- A number in decimal. -/
def decD (x : Int) : List UInt8 := Lib.decDigits x.toNat
/-- Numbers, separated by spaces. -/
def joinD (l : List Int) : List UInt8 := Lib.join (l.map decD) [32]
theorem join_snoc (sep : List UInt8) (x : List UInt8) (l : List (List UInt8)) (y : List UInt8) : Lib.join ((x :: l) ++ [y]) sep = Lib.join (x :: l) sep ++ sep ++ y := by
 rw [List.cons_append, Lib.join_cons, Lib.join_cons]
 simp [Lib.joinTail, List.append_assoc]
theorem decDigits_len : ∀ (u : Nat), u < 100 → (Lib.decDigits u).length ≤ 2 := by
 intro u hu
 unfold Lib.decDigits
 split
 ·simp
 ·rw [List.length_append]
  have : Lib.decDigits (u / 10) = [UInt8.ofNat (48 + u / 10)] := by
   unfold Lib.decDigits
   rw [dif_pos (by omega)]
  rw [this]
  simp
theorem decD_len {x : Int} (h0 : 0 ≤ x) (h1 : x < 100) : (decD x).length ≤ 2 := decDigits_len _ (by omega)
theorem join_len (sep : List UInt8) (n : Nat) : ∀ (l : List (List UInt8)), (∀ x ∈ l, x.length ≤ n) → (Lib.join l sep).length ≤ l.length * (n + sep.length)
 | [], _ => by simp [Lib.join_nil]
 | x :: r, h => by
  rw [Lib.join_cons, List.length_append, List.length_cons]
  have h1 := h x List.mem_cons_self
  have key : ∀ r : List (List UInt8), (∀ x ∈ r, x.length ≤ n) → (Lib.joinTail sep r).length ≤ r.length * (n + sep.length) := by
   intro r
   induction r with
   | nil => intro _; simp [Lib.joinTail]
   | cons y r ih =>
    intro h
    have h1 := h y List.mem_cons_self
    have h2 := ih (fun z hz => h z (List.mem_cons_of_mem _ hz))
    have e : Lib.joinTail sep (y :: r) = (sep ++ y) ++ Lib.joinTail sep r := by simp [Lib.joinTail]
    rw [e, List.length_append, List.length_append, List.length_cons, Nat.succ_mul]
    omega
  have h2 := key r (fun z hz => h z (List.mem_cons_of_mem _ hz))
  rw [Nat.succ_mul]
  omega
theorem joinD_take {l : List Int} {j : Nat} (hj : j < l.length) : joinD (l.take (j + 1)) = (if j = 0 then [] else joinD (l.take j) ++ [32]) ++ decD l[j] := by
 unfold joinD
 rw [List.take_add_one, List.getElem?_eq_getElem hj]
 cases j with
 | zero =>
  rw [if_pos rfl]
  simp [Lib.join_one]
 | succ j =>
  rw [if_neg (by omega)]
  cases l with
  | nil => simp at hj
  | cons a l =>
   rw [List.take_succ_cons, List.map_append, List.map_cons]
   exact join_snoc _ _ _ _
theorem joinD_len {l : List Int} (hs : ∀ x ∈ l, 0 ≤ x ∧ x < 100) : (joinD l).length ≤ l.length * 3 := by
 have := join_len [32] 2 (l.map decD) (fun y hy => by
  obtain ⟨x, hx, rfl⟩ := List.mem_map.1 hy
  exact decD_len (hs x hx).1 (hs x hx).2)
 simpa [joinD] using this
theorem byteCells_app (l m : List UInt8) : Lib.byteCells (l ++ m) = Lib.byteCells l ++ Lib.byteCells m := by simp [Lib.byteCells]
theorem below_then2 {b : Nat} {w w1 w2 : World} (h : Below b w w1) (k : Below b w1 w2) : Below b w w2 :=
 ⟨k.os.trans h.os, k.tape.trans h.tape, k.output.trans h.output, Nat.le_trans h.size k.size, fun i hi => (k.block i hi).trans (h.block i hi)⟩
/-- A byte more. -/
theorem wb_cells {T e : TypeId} {B b : Nat} {l : List UInt8} {w : World} (h : Lib.BuilderAt T e B b (.pointer (some ⟨b, 0, none⟩)) (Lib.byteCells l ++ [.int .u8 32]) w) : Lib.IsBuilder T e B b (Lib.byteCells (l ++ [32])) w := by
 rw [byteCells_app]
 exact .inr h
/-- A string more. -/
theorem ws_cells {T e : TypeId} {B b : Nat} {l m : List UInt8} {w : World} (h : Lib.BuilderAt T e B b (.pointer (some ⟨b, 0, none⟩)) (Lib.byteCells l ++ Lib.strCells ⟨m.toArray⟩) w) : Lib.IsBuilder T e B b (Lib.byteCells (l ++ m)) w := by
 rw [byteCells_app]
 have e1 : Lib.strCells ⟨m.toArray⟩ = Lib.byteCells m := by simp [Lib.strCells, Lib.byteCells]
 rw [e1] at h
 exact .inr h
theorem builder_new (W : World) (B : Nat) (hB : B ≤ W.heap.size) : Lib.IsBuilder 56 5 B W.heap.size [] (W.alloc (.cells #[.pointer none, .slice none 0 0] 56)) :=
 .inl ⟨hB, .slice none 0 0, cells_new W _, own_nil _ _ _ _, by simp [Value.ownBlock]⟩
set_option maxRecDepth 100000 in
set_option maxHeartbeats 4000000 in
theorem joined_calls (A : Option Addr) (c : Nat) (xs : List Int) (w : World) (hC : Kd.C (Kd.int .i64) w A xs.length xs) (hs : ∀ x ∈ xs, 0 ≤ x ∧ x < 100) (hl : xs.length ≤ 100) :
  Calls Tryd.prog 17 #[.slice A xs.length c] w fun e w' => e = .returned (.string ⟨(joinD xs).toArray⟩) ∧ Below w.heap.size w w' := by
 have HC := Aside0.mk hC
 have HS := Aside0.mk hs
 have HL := Aside0.mk hl
 clear hC hs hl
 go_enter Tryd.func17, Tryd.ntmps17
 go_wp2
 have hb0 := builder_new w w.heap.size (Nat.le_refl _)
 have hB0 := (Below.refl w.heap.size w).alloc (Nat.le_refl _) (.cells #[.pointer none, .slice none 0 0] 56)
 revert hb0 hB0
 generalize w.alloc (.cells #[.pointer none, .slice none 0 0] 56) = w1
 intro hb0 hB0
 have HB := Aside0.mk hB0
 have HI := Aside0.mk hb0
 clear hb0 hB0
 go_loopg [8] xs.length (fun kq v8 w' => ∃ (j : Nat) (x : Int), v8 = .int .i64 x ∧ Aside0 (kq + j = xs.length ∧ x = (j : Int)) ∧ Aside0 (Lib.IsBuilder 56 5 w.heap.size w.heap.size (Lib.byteCells (joinD (xs.take j))) w') ∧ Aside0 (Below w.heap.size w w'))
 case atStart => exact ⟨0, 0, rfl, ⟨by omega, rfl⟩, ⟨HI.out⟩, ⟨HB.out⟩⟩
 case round =>
  clear HB HI
  obtain ⟨j, x, rfl, HJ, HI, HB⟩ := hrel
  by_cases hlt : j < xs.length
  ·have hx := HJ.out.2
   have hd : decide (x < (xs.length : Int)) = true := decide_eq_true (by omega)
   have p0 : 0 ≤ x := by omega
   have q0 : x < (xs.length : Int) := by omega
   obtain ⟨ad, e3, hx3⟩ := Kd.at_int (Kd.C_below HC.out HB.out) x p0 q0
   have hy : rd xs x = xs[j] := by rw [hx]; unfold rd; rw [Int.toNat_natCast, List.getD_eq_getElem?_getD, List.getElem?_eq_getElem hlt, Option.getD_some]
   have hyb := HS.out xs[j] (List.getElem_mem hlt)
   have htk := joinD_take hlt
   rw [hy] at hx3
   generalize xs[j] = y at hx3 hyb htk
   obtain ⟨k, rfl⟩ := Int.eq_ofNat_of_zero_le hyb.1
   have hk100 : k < 100 := by omega
   have hln := joinD_len (l := xs.take j) (fun z hz => HS.out z (List.mem_of_mem_take hz))
   have hdk : decD ((k : Nat) : Int) = Lib.decDigits k := by unfold decD; rw [Int.toNat_natCast]
   rw [hdk] at htk
   replace p0 := eq_true p0
   replace q0 := eq_true q0
   subst e3
   have HLT := Aside0.mk hlt
   have hl2 : (joinD (xs.take j)).length + 1 ≤ 1000 := by
    have h1 := HL.out
    rw [List.length_take] at hln
    omega
   clear hy hyb hdk hln hlt
   by_cases hj0 : j = 0
   ·have hg : decide (x > 0) = false := decide_eq_false (by omega)
    have HTK := Aside0.mk (show joinD (xs.take (j + 1)) = joinD (xs.take j) ++ Lib.decDigits k by rw [htk, if_pos hj0, hj0]; rfl)
    have HLN := Aside0.mk (show (joinD (xs.take j)).length ≤ 1000 by omega)
    clear htk hj0 hl2 hx
    go_wp2_with (first | (go_at_call 31; refine (sh_strconv_Itoa_small k hk100 _).mono ?_; rintro e w3 ⟨rfl, rfl⟩) | (go_at_call 30; refine (sh_Builder_WriteString w.heap.size w.heap.size _ ⟨(Lib.decDigits k).toArray⟩ _ HI.out (by rw [Lib.byteCells_length]; show _ + (Lib.decDigits k).toArray.size ≤ _; have h1 := decDigits_len k hk100; have h2 := HLN.out; simp at h2 ⊢; omega) HB.out.size).mono ?_; rintro e w4 ⟨rfl, hb, hB⟩; replace HI := Aside0.mk (ws_cells hb); replace HB := Aside0.mk (below_then2 HB.out hB); clear hb hB))
    go_roundg (xs.length - (j + 1))
    case measure => have h1 := HJ.out.1; have h2 := HLT.out; omega
    case rel => exact ⟨j + 1, _, rfl, ⟨by have h2 := HLT.out; omega, by have h1 := HJ.out.2; have h3 := HLT.out; have h4 := HL.out; unfold wrap64; omega⟩, ⟨by rw [HTK.out]; exact HI.out⟩, ⟨HB.out⟩⟩
   ·have hg : decide (x > 0) = true := decide_eq_true (by omega)
    have HTK := Aside0.mk (show joinD (xs.take (j + 1)) = (joinD (xs.take j) ++ [32]) ++ Lib.decDigits k by rw [htk, if_neg hj0])
    have HLN := Aside0.mk (show (joinD (xs.take j) ++ [32]).length ≤ 1000 by rw [List.length_append, List.length_singleton]; exact hl2)
    have HL2 := Aside0.mk hl2
    clear htk hj0 hl2 hx
    go_wp2_with (first | (go_at_call 29; refine (sh_Builder_WriteByte w.heap.size w.heap.size _ 32 _ HI.out (by rw [Lib.byteCells_length]; have h2 := HL2.out; omega) HB.out.size).mono ?_; rintro e w2 ⟨rfl, hb, hB⟩; replace HI := Aside0.mk (wb_cells hb); replace HB := Aside0.mk (below_then2 HB.out hB); clear hb hB) | (go_at_call 31; refine (sh_strconv_Itoa_small k hk100 _).mono ?_; rintro e w3 ⟨rfl, rfl⟩) | (go_at_call 30; refine (sh_Builder_WriteString w.heap.size w.heap.size _ ⟨(Lib.decDigits k).toArray⟩ _ HI.out (by rw [Lib.byteCells_length]; show _ + (Lib.decDigits k).toArray.size ≤ _; have h1 := decDigits_len k hk100; have h2 := HLN.out; simp at h2 ⊢; omega) HB.out.size).mono ?_; rintro e w4 ⟨rfl, hb, hB⟩; replace HI := Aside0.mk (ws_cells hb); replace HB := Aside0.mk (below_then2 HB.out hB); clear hb hB))
    go_roundg (xs.length - (j + 1))
    case measure => have h1 := HJ.out.1; have h2 := HLT.out; omega
    case rel => exact ⟨j + 1, _, rfl, ⟨by have h2 := HLT.out; omega, by have h1 := HJ.out.2; have h3 := HLT.out; have h4 := HL.out; unfold wrap64; omega⟩, ⟨by rw [HTK.out]; exact HI.out⟩, ⟨HB.out⟩⟩
  ·have hj := HJ.out.1
   have hx := HJ.out.2
   have hd : decide (x < (xs.length : Int)) = false := decide_eq_false (by omega)
   have HTK := Aside0.mk (show xs.take j = xs from List.take_of_length_le (by omega))
   clear hj hx hlt
   go_wp2_with (go_at_call 32; refine (sh_Builder_String_any w.heap.size w.heap.size _ _ HI.out HB.out.size).mono ?_; rintro e w5 ⟨rfl, hB⟩; replace HB := Aside0.mk (below_then2 HB.out hB); clear hB)
   go_ret
   exact ⟨by show Ending.returned (.string ⟨(joinD (xs.take j)).toArray⟩) = _; rw [HTK.out], HB.out⟩
end Go.Proofs.YtfehecoebkbgeaaDoor.Core
end
section
set_option linter.unusedVariables false
set_option linter.unusedSimpArgs false
namespace Go.Proofs.YtfehecoebkbgeaaDoor.P
open Go Go.RowKit Go.Shelf Go.Proofs.YtfehecoebkbgeaaDoorW.PrintWords Go.Proofs.YtfehecoebkbgeaaDoorW.PrintMore Go.Proofs.YtfehecoebkbgeaaDoor.Core
attribute [local go_sem] Oper.semAt_some wide_fn wide_depth
def impl_ValidGraph.f (l0 : List S33) : Option Bool := some (graphD l0).isSome
set_option maxRecDepth 100000 in
set_option maxHeartbeats 4000000 in
theorem impl_ValidGraph.calls (A0 : Option Addr) (c0 : Nat) (l0 : List S33) (r : Bool) (w : World) (hr0 : Kd.C k33 w A0 l0.length l0) (hc0 : l0.length ≤ c0) (hT : Tab w) (h : impl_ValidGraph.f l0 = some r) :
  Calls Tryd.prog 16 #[.slice A0 l0.length c0] w fun e w' => e = .returned (.bool r) ∧ Below w.heap.size w w' := by
 have hr : r = (graphD l0).isSome := (Option.some.inj h).symm
 subst hr
 clear h
 cases hg : graphD l0 with
 | none =>
  have HG := Aside0.mk (graphOf_none A0 c0 l0 w hT hr0 hc0 hg)
  clear hr0 hT hg
  go_enter Tryd.func16, Tryd.ntmps16
  go_wp2_with (go_at_call 28; refine HG.out.mono ?_; rintro e w' ⟨rfl, hB⟩)
  go_ret
  exact ⟨rfl, hB⟩
 | some G =>
  have HG := Aside0.mk (graphOf_some A0 c0 l0 G w hT hr0 hc0 hg)
  clear hr0 hT hg
  go_enter Tryd.func16, Tryd.ntmps16
  go_wp2_with (go_at_call 28; refine HG.out.mono ?_; rintro e w' ⟨b, rfl, hB, _⟩)
  go_ret
  exact ⟨rfl, hB⟩
end Go.Proofs.YtfehecoebkbgeaaDoor.P
end
section
set_option linter.unusedVariables false
set_option linter.unusedSimpArgs false
namespace Go.Proofs.YtfehecoebkbgeaaDoor.Core
open Go Go.RowKit Go.Proofs.YtfehecoebkbgeaaDoorW.PrintWords Go.Proofs.YtfehecoebkbgeaaDoorW.PrintMore Go.Proofs.YtfehecoebkbgeaaDoor.P
theorem asc_lt : ∀ {r : List Int} {x : Int}, ascD (x :: r) = true → ascD r = true ∧ ∀ y ∈ r, x < y
 | [], x, _ => ⟨rfl, by simp⟩
 | y :: r, x, h => by
  simp only [ascD, Bool.and_eq_true, decide_eq_true_eq] at h
  have h2 := asc_lt h.2
  refine ⟨h.2, fun z hz => ?_⟩
  rcases List.mem_cons.1 hz with rfl | hz
  ·exact h.1
  ·have := h2.2 z hz; omega
theorem asc_mk {r : List Int} {x : Int} (h : ascD r = true) (h2 : ∀ y ∈ r, x < y) : ascD (x :: r) = true := by
 cases r with
 | nil => rfl
 | cons y r => simp [ascD, h, h2 y List.mem_cons_self]
theorem setGo_some {n : Nat} : ∀ {r : List Int} {s : Nat} {last : Int} {t : Nat}, -1 ≤ last → setGo n r s last = some t → (∀ x ∈ r, last + 1 ≤ x ∧ x ≤ (n : Int) - 1) ∧ ascD r = true ∧ ∀ i : Nat, t.testBit i = (s.testBit i || decide ((i : Int) ∈ r))
 | [], s, last, t, hl, h => by
  rw [setGo] at h
  cases h
  exact ⟨by simp, rfl, by simp⟩
 | x :: r, s, last, t, hl, h => by
  rw [setGo] at h
  by_cases hx : last + 1 ≤ x ∧ x ≤ (n : Int) - 1
  ·rw [if_pos hx] at h
   obtain ⟨h1, h2, h3⟩ := setGo_some (by omega) h
   refine ⟨fun y hy => ?_, asc_mk h2 (fun y hy => by have := h1 y hy; omega), fun i => ?_⟩
   ·rcases List.mem_cons.1 hy with rfl | hy
    ·exact hx
    ·have := h1 y hy; omega
   ·rw [h3, or_bit]
    have : decide (x.toNat = i) = decide ((i : Int) = x) := by rw [decide_eq_decide]; omega
    rw [this]
    by_cases e : (i : Int) = x
    ·simp [e]
    ·simp [e]
  ·rw [if_neg hx] at h; cases h
theorem setGo_ok {n : Nat} : ∀ {r : List Int} (s : Nat) {last : Int}, (∀ x ∈ r, last + 1 ≤ x ∧ x ≤ (n : Int) - 1) → ascD r = true → ∃ t, setGo n r s last = some t
 | [], s, last, _, _ => ⟨s, rfl⟩
 | x :: r, s, last, h, ha => by
  have h2 := asc_lt ha
  have hx := h x List.mem_cons_self
  rw [setGo, if_pos hx]
  exact setGo_ok _ (fun y hy => ⟨by have := h2.2 y hy; omega, (h y (List.mem_cons_of_mem _ hy)).2⟩) h2.1
theorem setD_some {n : Nat} {l : List Int} {t : Nat} (h : setD n l = some t) : needsOk n l ∧ ∀ i : Nat, t.testBit i = decide ((i : Int) ∈ l) := by
 obtain ⟨h1, h2, h3⟩ := setGo_some (by omega) h
 exact ⟨⟨fun x hx => by have := h1 x hx; omega, h2⟩, fun i => by rw [h3]; simp⟩
theorem setD_ok {n : Nat} {l : List Int} (h : needsOk n l) : ∃ t, setD n l = some t := setGo_ok 0 (fun x hx => by have := h.1 x hx; omega) h.2
theorem needsGo_ok {n : Nat} : ∀ {r : List Tk}, (∀ t ∈ r, taskOk t ∧ needsOk n t.f1) → ∃ N, needsGo n r = some N
 | [], _ => ⟨[], rfl⟩
 | t :: r, h => by
  obtain ⟨s, hs⟩ := setD_ok (h t List.mem_cons_self).2
  obtain ⟨N, hN⟩ := needsGo_ok (fun t' ht => h t' (List.mem_cons_of_mem _ ht))
  rw [needsGo, hs]
  simp only [(h t List.mem_cons_self).1, if_true, hN]
  exact ⟨_, rfl⟩
theorem needsGo_fine {n : Nat} : ∀ {r : List Tk} {N : List Nat}, needsGo n r = some N → (∀ t ∈ r, taskOk t ∧ needsOk n t.f1) ∧ ∀ i, i < r.length → ∀ j : Nat, (N.getD i 0).testBit j = decide ((j : Int) ∈ (r.getD i z33).f1)
 | [], N, h => ⟨by simp, by intro i hi; simp at hi⟩
 | t :: r, N, h => by
  rw [needsGo] at h
  cases he : setD n t.f1 with
  | none => rw [he] at h; cases h
  | some s =>
   rw [he] at h
   by_cases hok : taskOk t
   ·simp only [hok, if_true] at h
    cases hg : needsGo n r with
    | none => rw [hg] at h; cases h
    | some M =>
     rw [hg] at h
     cases h
     have ih := needsGo_fine hg
     have hs := setD_some he
     refine ⟨fun t' ht => ?_, fun i hi j => ?_⟩
     ·rcases List.mem_cons.1 ht with rfl | ht
      ·exact ⟨hok, hs.1⟩
      ·exact ih.1 t' ht
     ·cases i with
      | zero => simpa using hs.2 j
      | succ i => simpa using ih.2 i (by simpa using hi) j
   ·simp [hok] at h
theorem needsD_fine {g : List Tk} {N : List Nat} (h : needsD g = some N) : fineD g ∧ ∀ i, i < g.length → ∀ j : Nat, (N.getD i 0).testBit j = decide ((j : Int) ∈ (g.getD i z33).f1) := by
 have h8 := (needsD_spec h).1
 unfold needsD at h
 rw [if_pos h8] at h
 have := needsGo_fine h
 exact ⟨⟨this.1, h8⟩, this.2⟩
theorem fineD_needs {g : List Tk} (h : fineD g) : ∃ N, needsD g = some N := by
 unfold needsD
 rw [if_pos h.2]
 exact needsGo_ok h.1
theorem sub_zero {a b : Nat} (ha : a < 256) (hb : b < 256) : sub a b = 0 ↔ ∀ j, a.testBit j = true → b.testBit j = true := by
 constructor
 ·intro h j hj
  have := sub_testBit (i := j) ha hb
  rw [h, hj] at this
  simpa using this
 ·intro h
  apply Nat.eq_of_testBit_eq
  intro j
  rw [sub_testBit ha hb, Nat.zero_testBit]
  cases e : a.testBit j
  ·rfl
  ·rw [h j e]; rfl
theorem mem_up {L : List Nat} {i : Nat} : (i : Int) ∈ up L ↔ i ∈ L := by
 unfold up
 rw [List.mem_map]
 constructor
 ·rintro ⟨a, ha, e⟩
  have : a = i := Int.ofNat.inj e
  exact this ▸ ha
 ·intro h
  exact ⟨i, h, rfl⟩
/-- All needs of a task are among some, said both ways. -/
theorem done_iff {g : List Tk} {N : List Nat} (hN : needsD g = some N) {L : List Nat} {d : Nat} (hd : d < 256) (hs : ∀ i, d.testBit i = true ↔ i ∈ L) {i : Nat} (hi : i < g.length) : (∀ x ∈ (g.getD i z33).f1, x ∈ up L) ↔ sub (N.getD i 0) d = 0 := by
 obtain ⟨h8, hl, hb⟩ := needsD_spec hN
 obtain ⟨hf, hbit⟩ := needsD_fine hN
 rw [sub_zero (Nat.lt_of_lt_of_le (getD_lt hb i) (pow8 h8)) hd]
 constructor
 ·intro h j hj
  rw [hbit i hi j, decide_eq_true_eq] at hj
  exact (hs j).2 (mem_up.1 (h _ hj))
 ·intro h x hx
  have hmem : g.getD i z33 ∈ g := by
   rw [List.getD_eq_getElem?_getD, List.getElem?_eq_getElem hi]
   exact List.getElem_mem hi
  have h0 := (hf.1 _ hmem).2.1 x hx
  obtain ⟨j, rfl⟩ : ∃ j : Nat, x = (j : Int) := ⟨x.toNat, by omega⟩
  refine mem_up.2 ((hs j).1 (h j ?_))
  rw [hbit i hi j, decide_eq_true_eq]
  exact hx
theorem rdT_nat (g : List Tk) (i : Nat) : rd_T33 g (i : Int) = g.getD i z33 := by simp [rd_T33]
theorem getD_mem {g : List Tk} {i : Nat} (hi : i < g.length) : g.getD i z33 ∈ g := by
 rw [List.getD_eq_getElem?_getD, List.getElem?_eq_getElem hi]
 exact List.getElem_mem hi
theorem ev_top_found {g : List Tk} (hg : Fits g) (L : List Nat) (hL : L.length ≤ 100) (j : Nat) (i : Int) (R : List Int) (h : Ev (fun k => spec_topOrder.l0 k g (up (L ++ [j]))) R) : Ev (fun k => spec_topOrder.l1 k g (up L) (j : Int) i) R := by
 have e : up (L ++ [j]) = up L ++ [(j : Int)] := by simp [up]
 have h2 : Ev (fun k => spec_topOrder.j2 k g (up L) (j : Int) i false) R := by
  refine Ev.succ (h.of fun k => ?_)
  rw [spec_topOrder.j2, if_neg (by simp), if_neg (by omega), if_pos (by rw [up_length]; omega), e]
 refine Ev.succ (h2.of fun k => ?_)
 rw [spec_topOrder.l1, show decide ((j : Int) < 0) = false by simp]
 split <;> rfl
theorem ev_top_scan {g : List Tk} (hg : Fits g) {N : List Nat} (hN : needsD g = some N) (L : List Nat) (d : Nat) (hL : L.length ≤ 100) (hd : d < 256) (hs : ∀ i, d.testBit i = true ↔ i ∈ L) (R : Option Nat → List Int) (hR : R none = up L) : ∀ (m i : Nat), i + m = g.length →
  (∀ j, nextFrom N d i m = some j → Ev (fun k => spec_topOrder.l0 k g (up (L ++ [j]))) (R (some j))) → Ev (fun k => spec_topOrder.l1 k g (up L) (-1) (i : Int)) (R (nextFrom N d i m))
 | 0, i, hi, ho => by
  rw [nextFrom, hR]
  refine Ev.succ ?_
  have h2 : Ev (fun k => spec_topOrder.j2 k g (up L) (-1) (i : Int) false) (up L) := by
   refine Ev.succ ((Ev.const _).of fun k => ?_)
   rw [spec_topOrder.j2, if_neg (by simp), if_pos (by omega)]
  refine h2.of fun k => ?_
  rw [spec_topOrder.l1, if_neg (by omega)]
 | m + 1, i, hi, ho => by
  have hig : i < g.length := by omega
  have h8 := (needsD_spec hN).1
  have hin := ev_isIn (L := up L) (by rw [up_length]; unfold big; omega) (i : Int)
  have hdn := ev_allDone (L := (g.getD i z33).f1) (M := up L) (hg.2 _ (getD_mem hig)) (by rw [up_length]; unfold big; omega)
  have e1 : decide ((i : Int) ∈ up L) = d.testBit i := by
   rw [Bool.eq_iff_iff, decide_eq_true_eq, mem_up, hs]
  have e2 : decide (∀ x ∈ (g.getD i z33).f1, x ∈ up L) = decide (sub (N.getD i 0) d = 0) := by
   rw [decide_eq_decide]; exact done_iff hN hd hs hig
  rw [e1] at hin
  rw [e2] at hdn
  have hw : wrap64 ((i : Int) + 1) = ((i + 1 : Nat) : Int) := w64s (by unfold big; omega)
  refine Ev.succ ?_
  have hj2 : Ev (fun k => spec_topOrder.j2 k g (up L) (-1) (i : Int) true) (R (nextFrom N d i (m + 1))) := by
   refine Ev.succ ?_
   have hu : ∀ k, spec_topOrder.j2 (k + 1) g (up L) (-1) (i : Int) true = (spec_isIn.f k (up L) (i : Int)).bind fun t126 => (if t126 = true then (spec_topOrder.l1 k g (up L) (-1) ((i + 1 : Nat) : Int)) else ((spec_allDone.f k (g.getD i z33).f1 (up L)).bind fun t128 => (if t128 = true then (spec_topOrder.l1 k g (up L) (i : Int) ((i + 1 : Nat) : Int)) else (spec_topOrder.l1 k g (up L) (-1) ((i + 1 : Nat) : Int))))) := by
    intro k
    rw [spec_topOrder.j2, if_pos rfl, hw, if_pos (show 0 ≤ (i : Int) by omega), if_pos (show (i : Int) < (g.length : Int) by omega), rdT_nat]
   refine Ev.of ?_ hu
   refine hin.bind (g := fun k t126 => (if t126 = true then (spec_topOrder.l1 k g (up L) (-1) ((i + 1 : Nat) : Int)) else ((spec_allDone.f k (g.getD i z33).f1 (up L)).bind fun t128 => (if t128 = true then (spec_topOrder.l1 k g (up L) (i : Int) ((i + 1 : Nat) : Int)) else (spec_topOrder.l1 k g (up L) (-1) ((i + 1 : Nat) : Int)))))) ?_
   cases hbit : d.testBit i with
   | true =>
    have hg2 : nextFrom N d i (m + 1) = nextFrom N d (i + 1) m := by rw [nextFrom, if_neg (by simp [hbit])]
    rw [hg2] at ho ⊢
    exact (ev_top_scan hg hN L d hL hd hs R hR m (i + 1) (by omega) ho).of fun k => if_pos rfl
   | false =>
    by_cases hz : sub (N.getD i 0) d = 0
    ·have hg2 : nextFrom N d i (m + 1) = some i := by rw [nextFrom, if_pos ⟨hbit, hz⟩]
     rw [hg2]
     rw [decide_eq_true hz] at hdn
     have hf := ev_top_found hg L hL i ((i + 1 : Nat) : Int) _ (ho i hg2)
     refine (hdn.bind (g := fun k t128 => if t128 = true then (spec_topOrder.l1 k g (up L) (i : Int) ((i + 1 : Nat) : Int)) else (spec_topOrder.l1 k g (up L) (-1) ((i + 1 : Nat) : Int))) (hf.of fun k => if_pos rfl)).of fun k => ?_
     rw [if_neg (by simp)]
    ·have hg2 : nextFrom N d i (m + 1) = nextFrom N d (i + 1) m := by rw [nextFrom, if_neg (fun h => hz h.2)]
     rw [hg2] at ho ⊢
     rw [decide_eq_false hz] at hdn
     have ih := ev_top_scan hg hN L d hL hd hs R hR m (i + 1) (by omega) ho
     refine (hdn.bind (g := fun k t128 => if t128 = true then (spec_topOrder.l1 k g (up L) (i : Int) ((i + 1 : Nat) : Int)) else (spec_topOrder.l1 k g (up L) (-1) ((i + 1 : Nat) : Int))) (ih.of fun k => if_neg (by simp))).of fun k => ?_
     rw [if_neg (by simp)]
  refine hj2.of fun k => ?_
  rw [spec_topOrder.l1, if_pos (by omega)]
  rfl
theorem orderGo_none {N : List Nat} {d : Nat} (h : nextD N d = none) : ∀ (m : Nat) (L : List Nat), orderGo N m L d = (L, d)
 | 0, L => rfl
 | m + 1, L => by rw [orderGo, h]; exact orderGo_none h m L
theorem next_zb {N : List Nat} {d j : Nat} (h : nextD N d = some j) : zb N.length (d ||| 2 ^ j) < zb N.length d := by
 have := nextD_spec h
 exact zb_lt this.2.1 this.1
theorem ev_top_go {g : List Tk} (hg : Fits g) {N : List Nat} (hN : needsD g = some N) : ∀ (m : Nat) (L : List Nat) (d : Nat), OrdOk N L d → zb N.length d ≤ m → Ev (fun k => spec_topOrder.l0 k g (up L)) (up (orderGo N m L d).1) := by
 obtain ⟨h8, hl, hb⟩ := needsD_spec hN
 have hb' : below1 N.length N := by rw [hl]; exact hb
 intro m
 induction m with
 | zero =>
  intro L d ok hz
  have hlt := Nat.lt_of_lt_of_le ok.dlt (pow8 (n := N.length) (by omega))
  have hnone : nextD N d = none := by
   cases h : nextD N d with
   | none => rfl
   | some j => have := next_zb h; omega
  have h := ev_top_scan hg hN L d (by have := ok.len; omega) hlt ok.set (fun _ => up L) rfl g.length 0 (by omega) (fun j hj => by
   have : nextD N d = some j := by unfold nextD; rw [hl]; exact hj
   rw [hnone] at this; cases this)
  refine Ev.succ (h.of fun k => ?_)
  rw [spec_topOrder.l0]
  rfl
 | succ m ih =>
  intro L d ok hz
  have hlt := Nat.lt_of_lt_of_le ok.dlt (pow8 (n := N.length) (by omega))
  have h := ev_top_scan hg hN L d (by have := ok.len; omega) hlt ok.set (fun o => match o with | some i => up (orderGo N m (L ++ [i]) (d ||| 2 ^ i)).1 | none => up L) rfl g.length 0 (by omega) (fun j hj => by
   have hj2 : nextD N d = some j := by unfold nextD; rw [hl]; exact hj
   have hsp := nextD_spec hj2
   have := next_zb hj2
   exact ih (L ++ [j]) (d ||| 2 ^ j) (ok.step (by omega) hb' hsp.1 hsp.2.1 hsp.2.2) (by omega))
  have e : (match nextFrom N d 0 g.length with | some i => up (orderGo N m (L ++ [i]) (d ||| 2 ^ i)).1 | none => up L) = up (orderGo N (m + 1) L d).1 := by
   rw [orderGo]
   have e2 : nextD N d = nextFrom N d 0 g.length := by unfold nextD; rw [hl]
   rw [e2]
   cases hx : nextFrom N d 0 g.length with
   | none => simp only []; rw [orderGo_none (by rw [e2]; exact hx)]
   | some i => rfl
  rw [← e]
  refine Ev.succ (h.of fun k => ?_)
  rw [spec_topOrder.l0]
  rfl
theorem ordOk_nil (N : List Nat) : OrdOk N [] 0 := ⟨by simp, by simp, Nat.two_pow_pos _, by simp, by rw [zb_zero]; simp, by simp⟩
theorem ev_topOrder {g : List Tk} (hg : Fits g) {N : List Nat} (hN : needsD g = some N) : Ev (fun k => spec_topOrder.f k g) (up (orderD N).1) :=
 ev_top_go hg hN N.length [] 0 (ordOk_nil N) (by rw [zb_zero]; exact Nat.le_refl _)
theorem zb_zero_full {n : Nat} : ∀ {m d : Nat}, zb m d = 0 → ∀ i, i < m → d.testBit i = true
 | 0, d, _, i, h => by omega
 | m + 1, d, h, i, hi => by
  simp only [zb] at h
  by_cases e : i = m
  ·subst e
   cases hb : d.testBit i
   ·simp [hb] at h
   ·rfl
  ·exact zb_zero_full (n := n) (m := m) (by omega) i (by omega)
theorem full_iff {N L : List Nat} {d : Nat} (ok : OrdOk N L d) : d = 2 ^ N.length - 1 ↔ L.length = N.length := by
 constructor
 ·intro h
  have := ok.len
  rw [h, zb_full _ _ (Nat.le_refl _)] at this
  exact this
 ·intro h
  have hz : zb N.length d = 0 := by have := ok.len; omega
  apply Nat.eq_of_testBit_eq
  intro i
  rw [Nat.testBit_two_pow_sub_one]
  by_cases hi : i < N.length
  ·rw [zb_zero_full (n := 0) hz i hi]; simp [hi]
  ·cases hb : d.testBit i
   ·simp [hi]
   ·exact absurd (ok.lt i ((ok.set i).1 hb)) hi
theorem ev_validGraph {g : List Tk} (hg : Fits g) : Ev (fun k => spec_validGraph.f k g) (graphD g).isSome := by
 have hf := ev_tasksFine hg
 unfold graphD
 by_cases h : fineD g
 ·obtain ⟨N, hN⟩ := fineD_needs h
  obtain ⟨h8, hl, hb⟩ := needsD_spec hN
  rw [decide_eq_true h] at hf
  have ht := ev_topOrder hg hN
  have ok := orderD_ok (N := N) (by omega) (by rw [hl]; exact hb)
  have hfull := full_iff ok
  rw [hN]
  simp only []
  refine (hf.bind (g := fun k b => if b = true then ((spec_topOrder.f k g).bind fun t130 => (some ((t130.length : Int) == (g.length : Int)))) else some false) ?_).of fun k => rfl
  refine (ht.bind (g := fun k t130 => some ((t130.length : Int) == (g.length : Int))) (b := (if (orderD N).2 = 2 ^ g.length - 1 then some (mkG g N) else none).isSome) ((Ev.const _).of fun k => ?_)).of fun k => if_pos rfl
  rw [up_length]
  congr 1
  by_cases hd : (orderD N).2 = 2 ^ g.length - 1
  ·rw [if_pos hd]
   have := hfull.1 (by rw [hl]; exact hd)
   simp [this, hl]
  ·rw [if_neg hd]
   have : (orderD N).1.length ≠ g.length := fun e => hd (by rw [← hl]; exact hfull.2 (by omega))
   simp [this]
   omega
 ·rw [decide_eq_false h] at hf
  have hn : needsD g = none := by
   cases e : needsD g with
   | none => rfl
   | some N => exact absurd (needsD_fine e).1 h
  rw [hn]
  refine (hf.bind (g := fun k b => if b = true then ((spec_topOrder.f k g).bind fun t130 => (some ((t130.length : Int) == (g.length : Int)))) else some false) ((Ev.const false).of fun k => if_neg (by simp))).of fun k => rfl
end Go.Proofs.YtfehecoebkbgeaaDoor.Core
end
section
set_option linter.unusedVariables false
set_option linter.unusedSimpArgs false
namespace Go.Proofs.YtfehecoebkbgeaaDoor.Core
open Go Go.RowKit Go.Proofs.YtfehecoebkbgeaaDoorW.PrintWords Go.Proofs.YtfehecoebkbgeaaDoorW.PrintMore Go.Proofs.YtfehecoebkbgeaaDoor.P
theorem Ev.pos {α : Type} {c : Prop} [Decidable c] {f g : Nat → Option α} {r : α} (hc : c) (h : Ev f r) : Ev (fun k => if c then f k else g k) r := h.of fun k => if_pos hc
theorem Ev.neg {α : Type} {c : Prop} [Decidable c] {f g : Nat → Option α} {r : α} (hc : ¬ c) (h : Ev g r) : Ev (fun k => if c then f k else g k) r := h.of fun k => if_neg hc
theorem Ev.sb {α β : Type} {g : Nat → α → Option β} {a : α} {b : β} (h : Ev (fun k => g k a) b) : Ev (fun k => (some a).bind (g k)) b := h.of fun k => rfl
theorem Ev.conv {α : Type} {f : Nat → Option α} {a b : α} (h : Ev f a) (e : a = b) : Ev f b := e ▸ h
def EvP {α : Type} (f : Nat → Option α) (Q : α → Prop) : Prop := ∃ r, Ev f r ∧ Q r
theorem EvP.ret {α : Type} {Q : α → Prop} {a : α} (h : Q a) : EvP (fun _ => some a) Q := ⟨a, Ev.const a, h⟩
theorem EvP.bind {α β : Type} {f : Nat → Option α} {g : Nat → α → Option β} {Q : α → Prop} {R : β → Prop} (h : EvP f Q) (h2 : ∀ a, Q a → EvP (fun k => g k a) R) : EvP (fun k => (f k).bind (g k)) R := by
 obtain ⟨a, h, q⟩ := h
 obtain ⟨b, h2, q2⟩ := h2 a q
 exact ⟨b, h.bind h2, q2⟩
theorem EvP.sb {α β : Type} {g : Nat → α → Option β} {a : α} {R : β → Prop} (h : EvP (fun k => g k a) R) : EvP (fun k => (some a).bind (g k)) R := h
theorem EvP.pos {α : Type} {c : Prop} [Decidable c] {f g : Nat → Option α} {Q : α → Prop} (hc : c) (h : EvP f Q) : EvP (fun k => if c then f k else g k) Q := by
 obtain ⟨r, h, q⟩ := h
 exact ⟨r, h.pos hc, q⟩
theorem EvP.neg {α : Type} {c : Prop} [Decidable c] {f g : Nat → Option α} {Q : α → Prop} (hc : ¬ c) (h : EvP g Q) : EvP (fun k => if c then f k else g k) Q := by
 obtain ⟨r, h, q⟩ := h
 exact ⟨r, h.neg hc, q⟩
theorem EvP.ite {α : Type} {c : Prop} [Decidable c] {f g : Nat → Option α} {Q : α → Prop} (h1 : c → EvP f Q) (h2 : ¬ c → EvP g Q) : EvP (fun k => if c then f k else g k) Q :=
 if hc : c then EvP.pos hc (h1 hc) else EvP.neg hc (h2 hc)
theorem EvP.succ {α : Type} {f : Nat → Option α} {Q : α → Prop} (h : EvP (fun k => f (k + 1)) Q) : EvP f Q := by
 obtain ⟨r, h, q⟩ := h
 exact ⟨r, h.succ, q⟩
theorem EvP.of {α : Type} {f g : Nat → Option α} {Q : α → Prop} (h : EvP f Q) (e : ∀ k, g k = f k) : EvP g Q := by
 obtain ⟨r, h, q⟩ := h
 exact ⟨r, h.of e, q⟩
theorem EvP.mono {α : Type} {f : Nat → Option α} {Q R : α → Prop} (h : EvP f Q) (hq : ∀ a, Q a → R a) : EvP f R := by
 obtain ⟨r, h, q⟩ := h
 exact ⟨r, h, hq r q⟩
theorem Ev.p {α : Type} {f : Nat → Option α} {r : α} {Q : α → Prop} (h : Ev f r) (q : Q r) : EvP f Q := ⟨r, h, q⟩
end Go.Proofs.YtfehecoebkbgeaaDoor.Core
end
section
set_option linter.unusedVariables false
set_option linter.unusedSimpArgs false
namespace Go.Proofs.YtfehecoebkbgeaaDoor.Core
open Go Go.RowKit Go.Proofs.YtfehecoebkbgeaaDoorW.PrintWords Go.Proofs.YtfehecoebkbgeaaDoorW.PrintMore Go.Proofs.YtfehecoebkbgeaaDoor.P
/-- What is known of a valid graph. -/
structure VG (g : List Tk) (G : GD) : Prop where
 tasks : G.tasks = g
 n8 : g.length ≤ 8
 nl : G.needs.length = g.length
 nb : below1 g.length G.needs
 needsD : needsD g = some G.needs
 bits : ∀ i, i < g.length → ∀ j : Nat, (G.needs.getD i 0).testBit j = decide ((j : Int) ∈ (g.getD i z33).f1)
 fine : fineD g
 ord : OrdOk G.needs G.order (2 ^ g.length - 1)
theorem vg_of {g : List Tk} {G : GD} (h : graphD g = some G) : VG g G := by
 obtain ⟨N, hN, hf, rfl⟩ := graphD_spec h
 obtain ⟨h8, hl, hb⟩ := needsD_spec hN
 have ok := orderD_ok (N := N) (by omega) (by rw [hl]; exact hb)
 rw [hf] at ok
 exact ⟨rfl, h8, hl, hb, hN, (needsD_fine hN).2, (needsD_fine hN).1, ok⟩
theorem VG.needs_len {g : List Tk} {G : GD} (v : VG g G) : G.needs.length ≤ 8 := by have := v.nl; have := v.n8; omega
theorem VG.mem_ready {g : List Tk} {G : GD} (v : VG g G) {p i : Nat} : i ∈ elemsN (G.ready p) ↔ i < g.length ∧ p.testBit i = false ∧ sub (G.needs.getD i 0) p = 0 := by
 rw [Core.mem_ready v.needs_len, v.nl]
end Go.Proofs.YtfehecoebkbgeaaDoor.Core
end
section
set_option linter.unusedVariables false
set_option linter.unusedSimpArgs false
namespace Go.Proofs.YtfehecoebkbgeaaDoor.Core
open Go Go.RowKit Go.Shelf Go.Proofs.YtfehecoebkbgeaaDoorW.PrintWords Go.Proofs.YtfehecoebkbgeaaDoorW.PrintLast Go.Proofs.YtfehecoebkbgeaaDoorW.PrintMore Go.Proofs.YtfehecoebkbgeaaDoor.P
attribute [local go_sem] Oper.semAt_some wide_fn wide_depth max2_int max_two
/-- A task's numbers. -/
def wordsD (t : Tk) : List Int := [t.f0, t.f2, t.f3] ++ t.f1
def textsD (g : List Tk) : List (List UInt8) := g.map fun t => joinD (wordsD t)
def formatD (g : List Tk) : List UInt8 := match graphD g with
 | none => []
 | some _ => Lib.join (textsD g) [59, 32]
theorem infoIntW : (Tryd.prog.info? 3).map (fun i => (i.zero, i.size, i.bytes)) = some (some (.int .i64 0), 1, 8) := by kernel_rfl
theorem infoStr : (Tryd.prog.info? 9).map (fun i => (i.zero, i.size, i.bytes)) = some (some (.string ⟨#[]⟩), 1, 16) := by kernel_rfl
set_option maxRecDepth 100000 in
set_option maxHeartbeats 4000000 in
theorem words_calls (f0 f2 f3 : Int) (A : Option Addr) (c : Nat) (xs : List Int) (w : World) (hC : Kd.C (Kd.int .i64) w A xs.length xs) (hl : xs.length ≤ 100) :
  Calls Tryd.prog 18 #[.agg #[.int .i64 f0, .slice A xs.length c, .int .i64 f2, .int .i64 f3]] w fun e w' => ∃ v, e = .returned v ∧ (Kd.int .i64).R 3 w' w.heap.size (fun _ => True) v ([f0, f2, f3] ++ xs) ∧ Below w.heap.size w w' := by
 have HC := Aside0.mk hC
 have HL := Aside0.mk hl
 clear hC hl
 go_enter Tryd.func18, Tryd.ntmps18
 have HPAR := Aside0.mk (cells_new w (.cells #[.int .i64 f0, .slice A xs.length c, .int .i64 f2, .int .i64 f3] 33))
 have HB := Aside0.mk ((Below.refl w.heap.size w).alloc (Nat.le_refl _) (.cells #[.int .i64 f0, .slice A xs.length c, .int .i64 f2, .int .i64 f3] 33))
 go_wp2_with (first | ((with_reducible refine gate_dst (N := 9) rfl ?_); go_loud (refine Kd.R_lit (Kd.int .i64) _ 3 ?hg (N := 9) ?hd (xs := [f0, f2, f3]) (inner := [.int .i64 f0, .int .i64 f2, .int .i64 f3]) (ok := fun _ => True) (okp := fun _ => True) ?hr ?hp (fun _ hk => hk) trivial (Below.refl _ _) (Nat.le_refl _) (by simp) ?_; (case hd => rfl); (case hg => rfl); (case hr => first | (go_simp; done) | (go_simp; rfl)); (case hp => exact Kd.reps_scalar (enc := Value.int .i64) [f0, f2, f3]); intro v9_ w4 ho4 hb hg_ hnew_; clear hg_ hnew_; have hc1 : w4.cell? ⟨w.heap.size, 1, none⟩ = some (.slice A xs.length c) := ((Lib.cell_of_heap ((hb.block _ (cells_lt HPAR.out)).trans HPAR.out) 1).trans rfl); have HB4 := Aside0.mk (below_step HB.out hb); have HC4 := Aside0.mk (Kd.C_below HC.out HB4.out); have HO4 := Aside0.mk (Kd.R_lower ho4 HB.out.size); clear HB HC hb ho4 HPAR)) | ((with_reducible refine gate_builtin (b := .append) (xs := #[.tmp 9, .tmp 11]) rfl ?_); at_builtin; go_loud (refine Kd.R_append_rows (Kd.int .i64) (w0 := w) w.heap.size rfl (.tmp 9) (.tmp 11) 31 3 (.int .i64 0) 8 rfl Tryd.underlying31 infoIntW rfl (by decide) (by omega) _ [f0, f2, f3] xs _ _ _ (fun _ => True) (fun _ => False) rfl rfl ?aO ?aR (fun _ _ h => h) (fun _ h => h.elim) ?aF ?aB ?aS ?aL ?_; (case aR => exact HC4.out); (case aB => exact HB4.out); (case aF => exact (fun _ _ => trivial)); (case aO => exact HO4.out); (case aS => exact HB4.out.size); (case aL => have := HL.out; simp; omega); intro v137 w5 ho hb hg hat; clear hc1 HB4 HO4 HC4; have HB5 := Aside0.mk hb; have HO5 := Aside0.mk ho; clear ho hb hg hat)))
 go_ret
 exact ⟨_, rfl, HO5.out, HB5.out⟩
theorem asc_len : ∀ (r : List Int) (a n : Int), ascD r = true → (∀ x ∈ r, a ≤ x ∧ x ≤ n - 1) → a ≤ n → (r.length : Int) ≤ n - a
 | [], a, n, _, _, h => by simp; omega
 | x :: r, a, n, ha, hx, h => by
  obtain ⟨h1, h2⟩ := asc_lt ha
  have hx0 := hx x List.mem_cons_self
  have := asc_len r (x + 1) n h1 (fun y hy => ⟨by have := h2 y hy; omega, (hx y (List.mem_cons_of_mem _ hy)).2⟩) (by omega)
  rw [List.length_cons]
  omega
/-- A task's text. -/
def partB (t : Tk) : ByteArray := ⟨(joinD (wordsD t)).toArray⟩
theorem wordsD_ok {g : List Tk} {G : GD} (hG : graphD g = some G) {t : Tk} (ht : t ∈ g) : (∀ x ∈ wordsD t, 0 ≤ x ∧ x < 100) ∧ t.f1.length ≤ 8 := by
 have v := vg_of hG
 have hf := v.fine.1 t ht
 have h8 := v.n8
 unfold taskOk at hf
 have hr := hf.2.1
 refine ⟨fun x hx => ?_, ?_⟩
 ·unfold wordsD at hx
  rcases List.mem_append.1 hx with hx | hx
  ·simp only [List.mem_cons, List.not_mem_nil, or_false] at hx
   omega
  ·have := hr x hx
   omega
 ·have := asc_len t.f1 0 g.length hf.2.2 hr (by omega)
  omega
theorem wordsD_len {g : List Tk} {G : GD} (hG : graphD g = some G) {t : Tk} (ht : t ∈ g) : (wordsD t).length ≤ 11 := by
 have := (wordsD_ok hG ht).2
 unfold wordsD
 rw [List.length_append]
 simp
 omega
set_option maxRecDepth 100000 in
set_option maxHeartbeats 4000000 in
theorem formatGraph_calls (A0 : Option Addr) (c0 : Nat) (l0 : List Tk) (w : World) (hr0 : Kd.C k33 w A0 l0.length l0) (hc0 : l0.length ≤ c0) (hT : Tab w) :
  Calls Tryd.prog 9 #[.slice A0 l0.length c0] w fun e w' => e = .returned (.string ⟨(formatD l0).toArray⟩) ∧ Below w.heap.size w w' := by
 have HV := Aside0.mk (impl_ValidGraph.calls A0 c0 l0 (graphD l0).isSome w hr0 hc0 hT rfl)
 cases hg : graphD l0 with
 | none =>
  rw [hg] at HV
  have hf : formatD l0 = [] := by unfold formatD; rw [hg]
  rw [hf]
  clear hr0 hT hg hf
  go_enter Tryd.func9, Tryd.ntmps9
  go_wp2_with (go_at_call 16; refine HV.out.mono ?_; rintro e w' ⟨rfl, hB⟩)
  go_ret
  exact ⟨rfl, hB⟩
 | some G =>
  rw [hg] at HV
  have HF := Aside0.mk (show formatD l0 = Lib.join (textsD l0) [59, 32] by unfold formatD; rw [hg])
  have HG := Aside0.mk hg
  have HR0 := Aside0.mk hr0
  have H8 := Aside0.mk (vg_of hg).n8
  clear hr0 hT hg
  go_enter Tryd.func9, Tryd.ntmps9
  go_wp2_with (first | (go_at_call 16; refine HV.out.mono ?_; rintro e w1 ⟨rfl, hB⟩; have HB := Aside0.mk hB; clear hB) | ((with_reducible refine gate_dst (N := 9) rfl ?_); go_loud (refine Kd.R_lit Kd.string _ 9 ?hg (N := 9) ?hd (xs := ([] : List ByteArray)) (inner := []) (ok := fun _ => True) (okp := fun _ => True) ?hr ?hp (fun _ hk => hk) trivial (Below.refl _ _) (Nat.le_refl _) (by simp) ?_; (case hd => rfl); (case hg => rfl); (case hr => first | (go_simp; done) | (go_simp; rfl)); (case hp => exact (Reps.none _ _)); intro v9_ w2 ho4 hb hg_ hnew_; clear hg_ hnew_; have HO := Aside0.mk (Kd.R_lower ho4 HB.out.size); replace HB := Aside0.mk (below_step HB.out hb); clear ho4 hb)))
  go_loopg [3, 12] l0.length (fun kq v3 v12 w' => ∃ (j : Nat) (x : Int) (LA : Option Addr) (lc : Nat), v3 = .slice LA j lc ∧ v12 = .int .i64 x ∧ Aside0 (kq + j = l0.length ∧ x = (j : Int)) ∧ Aside0 (Kd.string.R 9 w' w.heap.size (fun _ => True) (.slice LA j lc) ((l0.take j).map partB)) ∧ Aside0 (Below w.heap.size w w'))
  case atStart =>
   obtain ⟨LA, lc, e0⟩ := Kd.R_slice HO.out
   subst e0
   exact ⟨0, 0, LA, lc, rfl, rfl, ⟨by omega, rfl⟩, ⟨HO.out⟩, ⟨HB.out⟩⟩
  case round =>
   clear HB HO HV
   obtain ⟨j, x, LA, lc, rfl, rfl, HJ, HO, HB⟩ := hrel
   by_cases hlt : j < l0.length
   ·have hx := HJ.out.2
    have hd : decide (x < (l0.length : Int)) = true := decide_eq_true (by omega)
    have p0 : 0 ≤ x := by omega
    have q0 : x < (l0.length : Int) := by omega
    obtain ⟨ad, At, ct, e0, h0, h1, h2, h3_, h4, h5⟩ := at_T33 (Kd.C_below HR0.out HB.out) x p0 q0
    subst e0
    have hrd : rd_T33 l0 x = l0[j] := by rw [hx]; simp [rd_T33, hlt]
    rw [hrd] at h0 h1 h2 h3_ h4 h5
    have hmem : l0[j] ∈ l0 := List.getElem_mem hlt
    have hwo := wordsD_ok HG.out hmem
    have htk : (l0.take (j + 1)).map partB = (l0.take j).map partB ++ [partB l0[j]] := by rw [List.take_add_one, List.getElem?_eq_getElem hlt, List.map_append]; rfl
    generalize l0[j] = tk at h0 h1 h2 h3_ h4 h5 hwo htk
    have HLT := Aside0.mk hlt
    have HWO := Aside0.mk hwo
    have HTK := Aside0.mk htk
    have HC5 := Aside0.mk h5
    replace p0 := eq_true p0
    replace q0 := eq_true q0
    clear hrd hmem hwo htk hx hlt h5 h4
    go_wp2_with (first | (go_at_call 18; go_loud (refine (words_calls tk.f0 tk.f2 tk.f3 At ct tk.f1 _ (Kd.C_alloc HC5.out _) (by have := HWO.out.2; omega)).mono ?_; rintro e w3 ⟨v3_, rfl, hR, hB3⟩; have hR2 : (Kd.int .i64).R 3 w3 _ (fun _ => True) v3_ (wordsD tk) := hR; obtain ⟨A9, c9, e9⟩ := Kd.R_slice hR2; subst e9; have HR3 := Aside0.mk hR2; have HBW := Aside0.mk (below_step ((Below.refl wr.heap.size wr).alloc (Nat.le_refl _) _) hB3); clear hR hR2 hB3)) | (go_at_call 17; go_loud (refine (joined_calls A9 c9 (wordsD tk) _ (Kd.R_reads' HR3.out).2.2 HWO.out.1 (by have := HWO.out.2; unfold wordsD; rw [List.length_append]; simp; omega)).mono ?_; rintro e w4 ⟨rfl, hB4⟩; replace HBW := Aside0.mk (below_step HBW.out hB4); clear hB4)) | ((with_reducible refine gate_builtin (b := .append) (xs := #[.tmp 16, .tmp 20]) rfl ?_); at_builtin; go_loud (refine Kd.R_append Kd.string (w0 := w) w.heap.size rfl (.tmp 16) (.tmp 20) 39 9 (.string ⟨#[]⟩) 16 rfl Tryd.underlying39 infoStr rfl (by decide) (by omega) (.slice LA j lc) ((l0.take j).map partB) (partB tk) [.string (partB tk)] (fun _ => True) (fun _ => False) rfl rfl ?aP (fun _ hk => hk.elim) ?aF ?aO ?aB ?aS ?aL ?_; (case aP => exact rfl); (case aF => exact fun _ _ => trivial); (case aO => exact Kd.R_below HO.out HBW.out); (case aB => exact below_step HB.out HBW.out); (case aS => exact (below_step HB.out HBW.out).size); (case aL => rw [List.length_map, List.length_take]; have := H8.out; omega); intro v7_ w7 ho hb hg_ hat; obtain ⟨LA2, lc2, e9⟩ := Kd.R_slice ho; rw [show ((l0.take j).map partB ++ [partB tk]).length = j + 1 from (by rw [List.length_append, List.length_map, List.length_take, List.length_singleton]; have := HLT.out; omega)] at e9; subst e9; have HO7 := Aside0.mk ho; have HB7 := Aside0.mk hb; clear ho hb hg_ hat)))
    go_roundg (l0.length - (j + 1))
    case measure => have h1 := HJ.out.1; have h2 := HLT.out; omega
    case rel => exact ⟨j + 1, _, LA2, lc2, rfl, rfl, ⟨by have h2 := HLT.out; omega, by have h1 := HJ.out.2; have h3 := HLT.out; have h4 := H8.out; unfold wrap64; omega⟩, ⟨by rw [HTK.out]; exact HO7.out⟩, ⟨HB7.out⟩⟩
   ·have hj : j = l0.length := by have := HJ.out.1; omega
    have hx := HJ.out.2
    have hd : decide (x < (l0.length : Int)) = false := decide_eq_false (by omega)
    clear hx hlt HJ
    subst hj
    have ho := HO.out
    rw [List.take_length] at ho
    have HO2 := Aside0.mk ho
    clear ho HO
    by_cases hz : l0.length = 0
    ·have HZ := Aside0.mk hz
     have HJN := Aside0.mk (show Calls Tryd.prog 19 #[.slice LA l0.length lc, .string ⟨#[59, 32]⟩] wr (fun e w' => e = .returned (.string ⟨#[]⟩) ∧ w' = wr) by rw [hz]; exact sh_strings_Join_none LA lc ⟨#[59, 32]⟩ wr)
     clear hz
     go_wp2_with (go_at_call 19; refine HJN.out.mono ?_; rintro e w9 ⟨rfl, rfl⟩)
     go_ret
     exact ⟨by rw [HF.out, List.length_eq_zero_iff.1 HZ.out]; rfl, HB.out⟩
    ·obtain ⟨gB, cap, e1, hg1, hg2, _⟩ := Kd.R_form HO2.out (by rw [List.length_map]; omega)
     rw [List.length_map] at e1
     injection e1 with e1 e2 e3
     subst e1
     subst e3
     have hJoin := sh_strings_Join gB 0 lc (l0.map partB) ⟨#[59, 32]⟩ wr (fun i y hy => by
      obtain ⟨hi, he⟩ := List.getElem?_eq_some_iff.1 hy
      have hr := HO2.out
      rw [← List.length_map (f := partB)] at hr
      have hc := (Kd.R_cell ByteArray.empty hr (i : Int) (by omega) (by omega)).1
      rw [Int.toNat_natCast] at hc
      rw [Nat.zero_add, hc]
      simp [rdOf, hy]) hg2 (by rw [List.length_map]; have := H8.out; omega) (by have := (Kd.R_reads' HO2.out).2.1; rw [List.length_map]; omega) (by
      have e4 : (l0.map partB).map (·.data.toList) = textsD l0 := by simp [textsD, partB, Function.comp_def]
      rw [e4]
      refine Nat.le_trans (join_len _ 33 _ (fun y hy => ?_)) ?_
      ·obtain ⟨t, ht, rfl⟩ := List.mem_map.1 hy
       have h1 := joinD_len (wordsD_ok HG.out ht).1
       have h2 := wordsD_len HG.out ht
       omega
      ·have := H8.out
       simp [textsD]
       omega)
     rw [List.length_map] at hJoin
     have HJN := Aside0.mk hJoin
     clear hJoin hz hg1 hg2
     go_wp2_with (go_at_call 19; refine HJN.out.mono ?_; rintro e w9 ⟨rfl, hB9⟩)
     go_ret
     refine ⟨?_, below_step HB.out hB9⟩
     show Ending.returned (.string _) = _
     rw [HF.out]
     simp [textsD, partB, Function.comp_def]
end Go.Proofs.YtfehecoebkbgeaaDoor.Core
namespace Go.Proofs.YtfehecoebkbgeaaDoor.P
open Go Go.RowKit Go.Shelf Go.Proofs.YtfehecoebkbgeaaDoorW.PrintWords Go.Proofs.YtfehecoebkbgeaaDoorW.PrintMore Go.Proofs.YtfehecoebkbgeaaDoor.Core
def impl_FormatGraph.f (l0 : List S33) : Option ByteArray := some ⟨(formatD l0).toArray⟩
theorem impl_FormatGraph.calls (A0 : Option Addr) (c0 : Nat) (l0 : List S33) (r : ByteArray) (w : World) (hr0 : Kd.C k33 w A0 l0.length l0) (hc0 : l0.length ≤ c0) (hT : Tab w) (h : impl_FormatGraph.f l0 = some r) :
  Calls Tryd.prog 9 #[.slice A0 l0.length c0] w fun e w' => e = .returned (.string r) ∧ Below w.heap.size w w' := by
 have hr : r = ⟨(formatD l0).toArray⟩ := (Option.some.inj h).symm
 subst hr
 exact formatGraph_calls A0 c0 l0 w hr0 hc0 hT
end Go.Proofs.YtfehecoebkbgeaaDoor.P
end
section
set_option linter.unusedVariables false
set_option linter.unusedSimpArgs false
namespace Go.Proofs.YtfehecoebkbgeaaDoor.Core
open Go Go.RowKit Go.Proofs.YtfehecoebkbgeaaDoorW.PrintWords Go.Proofs.YtfehecoebkbgeaaDoorW.PrintMore Go.Proofs.YtfehecoebkbgeaaDoor.P
theorem byte_app (a b : List UInt8) : (⟨a.toArray⟩ : ByteArray) ++ ⟨b.toArray⟩ = ⟨(a ++ b).toArray⟩ := by
 apply ByteArray.ext
 simp
theorem byte_size (a : List UInt8) : (⟨a.toArray⟩ : ByteArray).size = a.length := by
 show (a.toArray).size = a.length
 simp
theorem str_one (n : Nat) (hn : n < 10) : strOfNums [(wrap64 (48 + (n : Int))) % 256] = ⟨[UInt8.ofNat (48 + n)].toArray⟩ := by
 rw [w64 (by omega) (by omega), Int.emod_eq_of_lt (by omega) (by omega)]
 apply ByteArray.ext
 simp [strOfNums]
 have : ((48 : Int) + (n : Int)).toNat = 48 + n := by omega
 rw [this, UInt8.ofNat_add]
 rfl
theorem ev_decimal0 {n : Nat} (hn : n < 10) : Ev (fun k => spec_decimal.f k (n : Int)) ⟨(Lib.decDigits n).toArray⟩ := by
 refine Ev.succ ?_
 simp only [spec_decimal.f]
 refine Ev.neg (by omega) (Ev.succ ?_)
 simp only [spec_decimal.j0]
 refine Ev.neg Bool.false_ne_true (Ev.neg (by omega) (Ev.pos (by omega) ?_))
 rw [str_one n hn, show Lib.decDigits n = [UInt8.ofNat (48 + n)] by unfold Lib.decDigits; rw [dif_pos hn]]
 exact Ev.const _
theorem ev_decimal {n : Nat} (hn : n < 100) : Ev (fun k => spec_decimal.f k (n : Int)) ⟨(Lib.decDigits n).toArray⟩ := by
 by_cases h10 : n < 10
 ·exact ev_decimal0 h10
 ·refine Ev.succ ?_
  simp only [spec_decimal.f]
  refine Ev.neg (by omega) (Ev.succ ?_)
  simp only [spec_decimal.j0]
  have hd : wrap64 (Int.tdiv (n : Int) 10) = ((n / 10 : Nat) : Int) := by
   rw [show Int.tdiv (n : Int) 10 = ((n / 10 : Nat) : Int) by rw [Int.tdiv_eq_ediv_of_nonneg (by omega)]; omega]
   exact w64 (by omega) (by omega)
  have hm : Int.tmod (n : Int) 10 = ((n % 10 : Nat) : Int) := by rw [Int.tmod_eq_emod_of_nonneg (by omega)]; omega
  rw [hd, hm]
  have e1 : Lib.decDigits n = Lib.decDigits (n / 10) ++ [UInt8.ofNat (48 + n % 10)] := by
   rw [Lib.decDigits, dif_neg h10]
  refine Ev.neg Bool.false_ne_true (Ev.neg (by omega) (Ev.neg (by omega) (Ev.bind (ev_decimal0 (by omega)) ?_)))
  have hl := decDigits_len (n / 10) (by omega)
  refine Ev.bind (Ev.const _) ?_
  refine Ev.pos (by rw [str_one (n % 10) (by omega), byte_size, byte_size]; simp <;> omega) ?_
  rw [str_one (n % 10) (by omega), byte_app, ← e1]
  exact Ev.const _
theorem joinD_snoc (a : Int) (l : List Int) (y : Int) : joinD (a :: l ++ [y]) = joinD (a :: l) ++ [32] ++ decD y := by
 unfold joinD
 rw [List.map_append, List.map_cons]
 exact join_snoc _ _ _ _
theorem sp_bytes : (⟨#[32]⟩ : ByteArray) = ⟨([32] : List UInt8).toArray⟩ := rfl
theorem sc_bytes : (⟨#[59, 32]⟩ : ByteArray) = ⟨([59, 32] : List UInt8).toArray⟩ := rfl
theorem ev_tt {t : Tk} (hs : ∀ x ∈ wordsD t, 0 ≤ x ∧ x < 100) (hl : t.f1.length ≤ 8) : ∀ (m i : Nat), i + m = t.f1.length →
  Ev (fun k => spec_taskText.l0 k ⟨(joinD ([t.f0, t.f2, t.f3] ++ t.f1.take i)).toArray⟩ (i : Int) t.f0 t.f1 t.f2 t.f3) ⟨(joinD (wordsD t)).toArray⟩
 | 0, i, hi => by
  refine Ev.succ ?_
  simp only [spec_taskText.l0]
  refine Ev.neg (by omega) ?_
  rw [List.take_of_length_le (by omega)]
  exact Ev.const _
 | m + 1, i, hi => by
  have hlt : i < t.f1.length := by omega
  have hpre : ∀ x ∈ [t.f0, t.f2, t.f3] ++ t.f1.take i, 0 ≤ x ∧ x < 100 := fun x hx => hs x (by
   unfold wordsD
   rcases List.mem_append.1 hx with h | h
   ·exact List.mem_append_left _ h
   ·exact List.mem_append_right _ (List.mem_of_mem_take h))
  have hln := joinD_len hpre
  have hlp : ([t.f0, t.f2, t.f3] ++ t.f1.take i).length ≤ 11 := by rw [List.length_append, List.length_take]; simp; omega
  have hy := hs t.f1[i] (by unfold wordsD; exact List.mem_append_right _ (List.getElem_mem hlt))
  have hrd : rd t.f1 (i : Int) = t.f1[i] := by unfold rd; rw [Int.toNat_natCast, List.getD_eq_getElem?_getD, List.getElem?_eq_getElem hlt, Option.getD_some]
  have htk : [t.f0, t.f2, t.f3] ++ t.f1.take (i + 1) = t.f0 :: ([t.f2, t.f3] ++ t.f1.take i) ++ [t.f1[i]] := by rw [List.take_add_one, List.getElem?_eq_getElem hlt]; simp
  have hnext := ev_tt hs hl m (i + 1) (by omega)
  rw [htk, joinD_snoc] at hnext
  have e0 : t.f0 :: ([t.f2, t.f3] ++ t.f1.take i) = [t.f0, t.f2, t.f3] ++ t.f1.take i := rfl
  rw [e0] at hnext
  generalize [t.f0, t.f2, t.f3] ++ t.f1.take i = pre at hln hlp hnext ⊢
  generalize t.f1[i] = y at hy hrd hnext
  obtain ⟨n, rfl⟩ := Int.eq_ofNat_of_zero_le hy.1
  have hdl := decDigits_len n (by omega)
  have hdd : decD ((n : Nat) : Int) = Lib.decDigits n := by unfold decD; rw [Int.toNat_natCast]
  rw [hdd] at hnext
  refine Ev.succ ?_
  simp only [spec_taskText.l0]
  refine Ev.pos (by omega) (Ev.pos (by rw [byte_size]; omega) (Ev.pos (by omega) ?_))
  rw [hrd]
  refine Ev.bind (ev_decimal (by omega)) ?_
  rw [sp_bytes, byte_app, byte_app]
  refine Ev.pos (by rw [byte_size, byte_size, List.length_append]; simp <;> omega) ?_
  rw [w64 (by omega) (by omega), show ((i : Nat) : Int) + 1 = ((i + 1 : Nat) : Int) by omega]
  exact hnext
theorem ev_taskText {t : Tk} (hs : ∀ x ∈ wordsD t, 0 ≤ x ∧ x < 100) (hl : t.f1.length ≤ 8) : Ev (fun k => spec_taskText.f k t.f0 t.f1 t.f2 t.f3) ⟨(joinD (wordsD t)).toArray⟩ := by
 have h0 := hs t.f0 (by simp [wordsD])
 have h2 := hs t.f2 (by simp [wordsD])
 have h3 := hs t.f3 (by simp [wordsD])
 have hfin := ev_tt hs hl t.f1.length 0 (by omega)
 have e3 : [t.f0, t.f2, t.f3] ++ t.f1.take 0 = t.f0 :: [t.f2] ++ [t.f3] := by simp
 rw [e3, joinD_snoc, show t.f0 :: [t.f2] = t.f0 :: ([] : List Int) ++ [t.f2] from rfl, joinD_snoc, show joinD [t.f0] = decD t.f0 by unfold joinD; exact Lib.join_one _ _] at hfin
 have d0 : decD t.f0 = Lib.decDigits t.f0.toNat := rfl
 have d2 : decD t.f2 = Lib.decDigits t.f2.toNat := rfl
 have d3 : decD t.f3 = Lib.decDigits t.f3.toNat := rfl
 rw [d0, d2, d3] at hfin
 have l0 := decDigits_len t.f0.toNat (by omega)
 have l2 := decDigits_len t.f2.toNat (by omega)
 have l3 := decDigits_len t.f3.toNat (by omega)
 have v0 := ev_decimal (n := t.f0.toNat) (by omega)
 have v2 := ev_decimal (n := t.f2.toNat) (by omega)
 have v3 := ev_decimal (n := t.f3.toNat) (by omega)
 rw [Int.toNat_of_nonneg h0.1] at v0
 rw [Int.toNat_of_nonneg h2.1] at v2
 rw [Int.toNat_of_nonneg h3.1] at v3
 unfold spec_taskText.f
 refine Ev.bind v0 (Ev.pos (by rw [byte_size]; omega) (Ev.bind v2 ?_))
 rw [sp_bytes, byte_app, byte_app, byte_app]
 refine Ev.pos (by rw [byte_size, byte_size, List.length_append]; simp <;> omega) (Ev.pos (by rw [byte_size]; simp <;> omega) (Ev.bind v3 ?_))
 rw [byte_app]
 refine Ev.pos (by rw [byte_size, byte_size]; simp <;> omega) ?_
 exact hfin
theorem textsD_take {g : List Tk} {j : Nat} (hj : j < g.length) : Lib.join (textsD (g.take (j + 1))) [59, 32] = (if j = 0 then [] else Lib.join (textsD (g.take j)) [59, 32] ++ [59, 32]) ++ joinD (wordsD g[j]) := by
 unfold textsD
 rw [List.take_add_one, List.getElem?_eq_getElem hj]
 cases j with
 | zero =>
  rw [if_pos rfl]
  simp [Lib.join_one]
 | succ j =>
  rw [if_neg (by omega)]
  cases g with
  | nil => simp at hj
  | cons a g =>
   rw [List.take_succ_cons, List.map_append, List.map_cons]
   exact join_snoc _ _ _ _
theorem texts_len {g : List Tk} (hs : ∀ t ∈ g, (∀ x ∈ wordsD t, 0 ≤ x ∧ x < 100) ∧ t.f1.length ≤ 8) : (Lib.join (textsD g) [59, 32]).length ≤ g.length * 35 := by
 have := join_len [59, 32] 33 (textsD g) (fun y hy => by
  obtain ⟨t, ht, rfl⟩ := List.mem_map.1 hy
  have h1 := joinD_len (hs t ht).1
  have h2 := (hs t ht).2
  have h3 : (wordsD t).length = 3 + t.f1.length := by unfold wordsD; rw [List.length_append]; rfl
  omega)
 simpa [textsD] using this
theorem ev_fg {g : List Tk} (h8 : g.length ≤ 8) (hs : ∀ t ∈ g, (∀ x ∈ wordsD t, 0 ≤ x ∧ x < 100) ∧ t.f1.length ≤ 8) : ∀ (m i : Nat), i + m = g.length →
  Ev (fun k => spec_formatGraph.l0 k g ⟨(Lib.join (textsD (g.take i)) [59, 32]).toArray⟩ (i : Int)) ⟨(Lib.join (textsD g) [59, 32]).toArray⟩
 | 0, i, hi => by
  refine Ev.succ ?_
  simp only [spec_formatGraph.l0]
  refine Ev.neg (by omega) ?_
  rw [List.take_of_length_le (by omega)]
  exact Ev.const _
 | m + 1, i, hi => by
  have hlt : i < g.length := by omega
  have hmem := hs g[i] (List.getElem_mem hlt)
  have hrd : rd_T33 g (i : Int) = g[i] := by simp [rd_T33, hlt]
  have hln := texts_len (g := g.take i) (fun t ht => hs t (List.mem_of_mem_take ht))
  rw [List.length_take] at hln
  have hnext := ev_fg h8 hs m (i + 1) (by omega)
  rw [textsD_take hlt] at hnext
  have htx := ev_taskText hmem.1 hmem.2
  have hjl := joinD_len hmem.1
  have h3 : (wordsD g[i]).length = 3 + g[i].f1.length := by unfold wordsD; rw [List.length_append]; rfl
  refine Ev.succ ?_
  simp only [spec_formatGraph.l0]
  rw [hrd, w64 (by omega) (by omega), show ((i : Nat) : Int) + 1 = ((i + 1 : Nat) : Int) by omega]
  refine Ev.pos (by omega) ?_
  by_cases h0 : i = 0
  ·rw [if_pos h0] at hnext
   refine Ev.neg (by omega) (Ev.pos (by omega) (Ev.bind htx (Ev.pos (by rw [byte_size, byte_size]; omega) ?_)))
   rw [byte_app]
   subst h0
   exact hnext
  ·rw [if_neg h0] at hnext
   refine Ev.pos (by omega) (Ev.pos (by rw [byte_size]; omega) (Ev.pos (by omega) (Ev.bind htx ?_)))
   rw [sc_bytes, byte_app, byte_app]
   refine Ev.pos (by rw [byte_size, byte_size]; simp <;> omega) ?_
   exact hnext
theorem ev_FormatGraph {g : List Tk} (hg : Fits g) : Ev (fun k => spec_FormatGraph.f k g) ⟨(formatD g).toArray⟩ := by
 unfold spec_FormatGraph.f
 refine Ev.bind (ev_validGraph hg) ?_
 unfold formatD
 cases hG : graphD g with
 | none => exact Ev.neg Bool.false_ne_true (Ev.const _)
 | some G =>
  refine Ev.pos rfl ?_
  have h := ev_fg (vg_of hG).n8 (fun t ht => wordsD_ok hG ht) g.length 0 (by omega)
  exact Ev.bind (show Ev (fun k => spec_formatGraph.f k g) _ from h) (Ev.const _)
end Go.Proofs.YtfehecoebkbgeaaDoor.Core
end
