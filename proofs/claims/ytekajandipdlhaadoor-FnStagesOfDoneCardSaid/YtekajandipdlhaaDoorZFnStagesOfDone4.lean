/- The law FnStagesOfDone holds of the given program: the proof's own part, with its row and its card, part 4 of 12. -/
import Derived.Test.YtekajandipdlhaaDoorZFnStagesOfDone3
import Derived.Laws.Bits64
section
namespace Go.Proofs.YtekajandipdlhaaDoor.P
open Go.RowKit Go.Proofs.YtekajandipdlhaaDoorW.PrintWords Go.Proofs.YtekajandipdlhaaDoorW.PrintLast Go.Proofs.YtekajandipdlhaaDoorW.PrintMore
attribute [local go_sem] max2_int min2_int max_two min_two max_three min_three max_four min_four   -- for this text's walks alone
set_option linter.unusedVariables false
set_option linter.unusedSimpArgs false
def spec_reader_spoil.f (k : Nat) (s0_0 : List Int) (s0_1 : Int) (l1 : List Int) (a2 : Int) : Option (List Int × Int) := (spec_copyInts.f l1).bind fun t319 => ((spec_reader_pick.f k s0_0 s0_1 20).bind fun bt322 => (if bt322.1 = 0 then (if t319.length < 17592186044416 then (some ((t319 ++ [a2]), bt322.2)) else (none)) else (if bt322.1 = 1 then (if (t319.length : Int) > 0 then (if 1 ≤ (t319.length : Int) then (some ((t319.drop (1 : Int).toNat), bt322.2)) else (none)) else (some (t319, bt322.2))) else (if bt322.1 = 2 then (if (t319.length : Int) > 0 then ((spec_reader_pick.f k s0_0 bt322.2 (t319.length : Int)).bind fun bt330 => ((spec_reader_one.f k s0_0 bt330.2 (([(-1), a2, 0, 1] : List Int))).bind fun bt335 => (if 0 ≤ bt330.1 then (if bt330.1 < (t319.length : Int) then (some ((t319.set (bt330.1 : Int).toNat bt335.1), bt335.2)) else (none)) else (none)))) else (some (t319, bt322.2))) else (some (t319, bt322.2))))))
theorem spec_reader_spoil.mono : ∀ a0 a1 a2 a3 k, LeO (spec_reader_spoil.f k a0 a1 a2 a3) (spec_reader_spoil.f (k + 1) a0 a1 a2 a3) := by
  intro a0 a1 a2 a3 k
  unfold spec_reader_spoil.f
  repeat' first
      | (with_reducible exact spec_reader_one.mono _ _ _ _)
      | (with_reducible exact spec_reader_pick.mono _ _ _ _)
      | (with_reducible exact LeO.refl _)
      | (with_reducible exact LeO.none _)
      | (with_reducible refine LeO.ite ?_ ?_)
      | (with_reducible refine LeO.bind ?_ (fun _ => ?_))
      | exact spec_reader_one.mono _ _ _ _
      | exact spec_reader_pick.mono _ _ _ _
      | exact LeO.none _
      | refine LeO.ite ?_ ?_
      | refine LeO.bind ?_ (fun _ => ?_)
set_option maxHeartbeats 8000000 in
set_option maxRecDepth 100000 in
theorem spec_reader_spoil.calls (k : Nat) (g : Nat) (s0_0 : List Int) (s0_1 : Int) (A1 : Option Addr) (c1 : Nat) (l1 : List Int) (a2 : Int) (r1 : List Int) (r2 : Int) (w0 w : World) (hI : IsS101 w0 w g s0_0 s0_1) (hB : Below w0.heap.size w0 w) (hr1 : Kd.C (Kd.int .i64) w A1 l1.length l1) (hc1 : l1.length ≤ c1) (hf1 : ∀ ad, A1 = some ad → 0 < l1.length → ad.block ≠ g) (h : spec_reader_spoil.f k s0_0 s0_1 l1 a2 = some (r1, r2)) :
    Calls Tryd.prog 106 #[.pointer (some ⟨g, 0, none⟩), .slice A1 l1.length c1, .int .i64 a2] w fun e w' => ∃ v0_ : Value, e = .returned (v0_) ∧ Kd.Q (Kd.int .i64) 3 w' w.heap.size (fun _ => True) v0_ r1 ∧ IsS101 w0 w' g s0_0 r2 ∧ Below w0.heap.size w0 w' ∧ KeepBut w w' g none := by
  have HR1 := Aside0.mk hr1
  have HC1 := Aside0.mk hc1
  clear hr1 hc1
  have HI0 := Aside0.mk hI
  have HK := Aside0.mk (KeepBut.refl w g none)
  have HL := Aside0.mk hB.size
  clear hI
  have HW0 := Aside0.mk hB.size
  have HB := Aside0.mk hB
  clear hB
  have H : ((spec_copyInts.f l1).bind fun t319 => ((spec_reader_pick.f k s0_0 s0_1 20).bind fun bt322 => (if bt322.1 = 0 then (if t319.length < 17592186044416 then (some ((t319 ++ [a2]), bt322.2)) else (none)) else (if bt322.1 = 1 then (if (t319.length : Int) > 0 then (if 1 ≤ (t319.length : Int) then (some ((t319.drop (1 : Int).toNat), bt322.2)) else (none)) else (some (t319, bt322.2))) else (if bt322.1 = 2 then (if (t319.length : Int) > 0 then ((spec_reader_pick.f k s0_0 bt322.2 (t319.length : Int)).bind fun bt330 => ((spec_reader_one.f k s0_0 bt330.2 (([(-1), a2, 0, 1] : List Int))).bind fun bt335 => (if 0 ≤ bt330.1 then (if bt330.1 < (t319.length : Int) then (some ((t319.set (bt330.1 : Int).toNat bt335.1), bt335.2)) else (none)) else (none)))) else (some (t319, bt322.2))) else (some (t319, bt322.2))))))) = some (r1, r2) := h
  clear h
  replace H := Option.bind_eq_some_iff.mp H
  obtain ⟨t319, A40, H⟩ := H
  replace H : ((spec_reader_pick.f k s0_0 s0_1 20).bind fun bt322 => (if bt322.1 = 0 then (if t319.length < 17592186044416 then (some ((t319 ++ [a2]), bt322.2)) else (none)) else (if bt322.1 = 1 then (if (t319.length : Int) > 0 then (if 1 ≤ (t319.length : Int) then (some ((t319.drop (1 : Int).toNat), bt322.2)) else (none)) else (some (t319, bt322.2))) else (if bt322.1 = 2 then (if (t319.length : Int) > 0 then ((spec_reader_pick.f k s0_0 bt322.2 (t319.length : Int)).bind fun bt330 => ((spec_reader_one.f k s0_0 bt330.2 (([(-1), a2, 0, 1] : List Int))).bind fun bt335 => (if 0 ≤ bt330.1 then (if bt330.1 < (t319.length : Int) then (some ((t319.set (bt330.1 : Int).toNat bt335.1), bt335.2)) else (none)) else (none)))) else (some (t319, bt322.2))) else (some (t319, bt322.2)))))) = some (r1, r2) := H
  have A4 := Aside0.mk A40
  clear A40
  replace H := Option.bind_eq_some_iff.mp H
  obtain ⟨⟨t322, t323⟩, A50, H⟩ := H
  replace H : (if t322 = 0 then (if t319.length < 17592186044416 then (some ((t319 ++ [a2]), t323)) else (none)) else (if t322 = 1 then (if (t319.length : Int) > 0 then (if 1 ≤ (t319.length : Int) then (some ((t319.drop (1 : Int).toNat), t323)) else (none)) else (some (t319, t323))) else (if t322 = 2 then (if (t319.length : Int) > 0 then ((spec_reader_pick.f k s0_0 t323 (t319.length : Int)).bind fun bt330 => ((spec_reader_one.f k s0_0 bt330.2 (([(-1), a2, 0, 1] : List Int))).bind fun bt335 => (if 0 ≤ bt330.1 then (if bt330.1 < (t319.length : Int) then (some ((t319.set (bt330.1 : Int).toNat bt335.1), bt335.2)) else (none)) else (none)))) else (some (t319, t323))) else (some (t319, t323))))) = some (r1, r2) := H
  have A5 := Aside0.mk A50
  clear A50
  by_cases c6 : t322 = 0
  · rw [if_pos c6] at H
    have c6b0 : (t322 == 0) = true := beq_iff_eq.mpr c6
    have c6b1 : (t322 != 0) = false := bne_eq_false_iff_eq.mpr c6
    clear c6
    by_cases c7 : t319.length < 17592186044416
    · rw [if_pos c7] at H
      have LMc7 := Aside0.mk c7
      clear c7
      obtain ⟨y324, hy324⟩ : ∃ y_ : List Int, y_ = (t319 ++ [a2]) := ⟨_, rfl⟩
      replace H : (some (y324, t323)) = some (r1, r2) := by first | (rw [hy324]; with_reducible exact H) | (have H2_ := (Option.bind_some _ _).symm.trans H; rw [hy324]; with_reducible exact H2_) | (have H2_ := (Option.bind_some _ _).symm.trans H; with_reducible exact H2_) | with_reducible exact H | (rw [hy324]; exact H) | exact H
      have Ny324 := Aside0.mk hy324
      clear hy324
      simp only [Option.some.injEq, Prod.mk.injEq] at H
      obtain ⟨rfl, rfl⟩ := H
      go_enter Tryd.func106, Tryd.ntmps106
      go_wp2_with (first | ((with_reducible refine gate_callee (f := 115) rfl ?_); refine goesL_ (some 9) rfl rfl Tryd.func115 (by kernel_rfl) rfl #[.slice A1 l1.length c1] rfl (by (try simp only [List.map_toArray, List.map_cons, List.map_nil]); first | done | rfl | (simp only [List.length_drop, List.length_take]; rfl)) ?_; (with_reducible refine (spec_copyInts.calls _ _ l1 t319 _ ?side1 ?side2 A4.out).mono ?_); (case side1 => exact Kd.C_keep 0 HR1.out (by repeat (first | (with_reducible first | exact HK.out | apply KeepBut.set_ | apply keep_drewN | apply keep_drew | apply keep_alloc) | exact HK.out)) hf1); (case side2 => exact HC1.out); rintro e w8 ⟨v320, rfl, ho0, hb⟩; refine ⟨_, rfl, ?_⟩; have n0_ := Aside0.mk (Kd.R_lower ho0 (keep_size (w := w) (g := g) (row := none) (by repeat (first | (with_reducible first | exact HK.out | apply KeepBut.set_ | apply keep_drewN | apply keep_drew | apply keep_alloc) | exact HK.out)))); have n1_ := Aside0.mk (IsS101.below (by repeat (first | (with_reducible first | exact HI0.out | apply IsS101.alloc | apply IsS101.drewN | apply IsS101.drew | apply IsS101.set_1) | exact HI0.out)) hb); have n2_ := Aside0.mk (KeepBut.trans (by repeat (first | (with_reducible first | exact HK.out | apply KeepBut.set_ | apply keep_drewN | apply keep_drew | apply keep_alloc) | exact HK.out)) (KeepBut.of_below hb g none) (.inl rfl)); have n3_ := Aside0.mk (below_step (by repeat (first | (with_reducible first | exact HB.out | apply below_alloc | apply pw_below_drewN | apply below_drew1 | refine below_set ?_ (IsS101.ge HI0.out)) | exact HB.out)) hb); clear HI0; clear HK; clear HB; have HO321 := n0_; have HI0 := n1_; have HK := n2_; have HB := n3_; clear n0_ n1_ n2_ n3_; (try clear hb); (try clear hb2); (try clear hk); (try clear hi); (try clear ho0)) | ((with_reducible refine gate_callee (f := 104) rfl ?_); refine goesL_ (some 11) rfl rfl Tryd.func104 (by kernel_rfl) rfl #[.pointer (some ⟨g, 0, none⟩), .int .i64 20] rfl (by (try simp only [List.map_toArray, List.map_cons, List.map_nil]); first | done | rfl | (simp only [List.length_drop, List.length_take]; rfl)) ?_; (with_reducible refine (spec_reader_pick.calls k g s0_0 s0_1 20 t322 t323 w0 _ ?side1 ?side2 A5.out).mono ?_); (case side1 => repeat (first | (with_reducible first | exact HI0.out | apply IsS101.alloc | apply IsS101.drewN | apply IsS101.drew | apply IsS101.set_1) | exact HI0.out)); (case side2 => repeat (first | (with_reducible first | exact HB.out | apply below_alloc | apply pw_below_drewN | apply below_drew1 | refine below_set ?_ (IsS101.ge HI0.out)) | exact HB.out)); rintro e w9 ⟨rfl, hi, hb, hk⟩; refine ⟨_, rfl, ?_⟩; have n0_ := Aside0.mk (Kd.R_mono (Kd.R_keep (IsS101.apart (show IsS101 w0 _ g s0_0 s0_1 from by repeat (first | (with_reducible first | exact HI0.out | apply IsS101.alloc | apply IsS101.drewN | apply IsS101.drew | apply IsS101.set_1) | exact HI0.out)) (by (with_reducible repeat (first | apply Kd.R_alloc | apply Kd.R_drewN | apply Kd.R_drew)); exact HO321.out) (by decide)) hk (fun _ h => h.2)) (fun _ h => h.1)); have n1_ := Aside0.mk (KeepBut.trans (by repeat (first | (with_reducible first | exact HK.out | apply KeepBut.set_ | apply keep_drewN | apply keep_drew | apply keep_alloc) | exact HK.out)) hk (.inl rfl)); have n2_ := Aside0.mk (hb); have n3_ := Aside0.mk (hi); clear HO321; clear HK; clear HB; clear HI0; have HO321 := n0_; have HK := n1_; have HB := n2_; have HI0 := n3_; clear n0_ n1_ n2_ n3_; (try clear hb); (try clear hb2); (try clear hk); (try clear hi)) | ((with_reducible refine gate_builtin (b := .append) (xs := #[.tmp 14, .tmp 16]) rfl ?_); at_builtin; refine Kd.R_append (Kd.int .i64) w.heap.size rfl (.tmp 14) (.tmp 16) 35 3 (.int .i64 0) 8 rfl Tryd.underlying35 info3 rfl (by decide) (by omega) v320 t319 a2 [.int .i64 a2] (fun _ => True) (fun _ => False) rfl rfl ?aP (fun _ hk => hk.elim) ?aF ?aO (Below.refl _ _) ?aS ?aL ?_; (case aP => exact rfl); (case aF => exact (fun _ _ => trivial)); (case aO => exact (by (with_reducible repeat (first | apply Kd.R_alloc | apply Kd.R_drewN | apply Kd.R_drew)); exact HO321.out)); (case aS => exact (keep_size (w := w) (g := g) (row := none) (by repeat (first | (with_reducible first | exact HK.out | apply KeepBut.set_ | apply keep_drewN | apply keep_drew | apply keep_alloc) | exact HK.out)))); (case aL => have := LMc7.out; omega); intro v325 w10 ho hb hg hat; rw [← Ny324.out] at ho; have n0_ := Aside0.mk (IsS101.grown (by repeat (first | (with_reducible first | exact HI0.out | apply IsS101.alloc | apply IsS101.drewN | apply IsS101.drew | apply IsS101.set_1) | exact HI0.out)) hg (IsS101.own_ne HI0.out HO321.out (by decide))); have n1_ := Aside0.mk (below_weaken (by repeat (first | (with_reducible first | exact HB.out | apply below_alloc | apply pw_below_drewN | apply below_drew1 | refine below_set ?_ (IsS101.ge HI0.out)) | exact HB.out)) HL.out hb); have n2_ := Aside0.mk (KeepBut.trans (by repeat (first | (with_reducible first | exact HK.out | apply KeepBut.set_ | apply keep_drewN | apply keep_drew | apply keep_alloc) | exact HK.out)) (KeepBut.of_grown hg g) (Kd.R_base2 HO321.out)); have n3_ := Aside0.mk (ho); clear HI0; clear HB; clear HK; clear HO321; have HI0 := n0_; have HB := n1_; have HK := n2_; have HO326 := n3_; clear n0_ n1_ n2_ n3_; clear ho hb hg hat))
      go_ret
      exact ⟨_, by first | rfl | (simp [errW_none, errW_some] <;> rfl) | (simp [*, errW_none, errW_some] <;> rfl), Kd.Q_of_R (by (with_reducible repeat (first | apply Kd.R_alloc | apply Kd.R_drewN | apply Kd.R_drew)); exact HO326.out), by repeat (first | (with_reducible first | exact HI0.out | apply IsS101.alloc | apply IsS101.drewN | apply IsS101.drew | apply IsS101.set_1) | exact HI0.out), by repeat (first | (with_reducible first | exact HB.out | apply below_alloc | apply pw_below_drewN | apply below_drew1 | refine below_set ?_ (IsS101.ge HI0.out)) | exact HB.out), by repeat (first | (with_reducible first | exact HK.out | apply KeepBut.set_ | apply keep_drewN | apply keep_drew | apply keep_alloc) | exact HK.out)⟩
    · rw [if_neg c7] at H
      exact absurd H (by simp)
  · rw [if_neg c6] at H
    have c6b0 : (t322 == 0) = false := beq_eq_false_iff_ne.mpr c6
    have c6b1 : (t322 != 0) = true := bne_iff_ne.mpr c6
    by_cases c11 : t322 = 1
    · rw [if_pos c11] at H
      have c11b0 : (t322 == 1) = true := beq_iff_eq.mpr c11
      have c11b1 : (t322 != 1) = false := bne_eq_false_iff_eq.mpr c11
      clear c11
      by_cases c12 : (t319.length : Int) > 0
      · rw [if_pos c12] at H
        have c12b0 : decide (0 < (t319.length : Int)) = true := decide_eq_true c12
        have c12b1 : decide (0 < t319.length) = true := decide_eq_true (by omega)
        clear c12
        by_cases c13 : 1 ≤ (t319.length : Int)
        · rw [if_pos c13] at H
          have c13b0 := eq_true c13
          have c13b1 : decide (1 ≤ (t319.length : Int)) = true := decide_eq_true c13
          clear c13
          obtain ⟨y327, hy327⟩ : ∃ y_ : List Int, y_ = (t319.drop (1 : Int).toNat) := ⟨_, rfl⟩
          replace H : (some (y327, t323)) = some (r1, r2) := by first | (rw [hy327]; with_reducible exact H) | (have H2_ := (Option.bind_some _ _).symm.trans H; rw [hy327]; with_reducible exact H2_) | (have H2_ := (Option.bind_some _ _).symm.trans H; with_reducible exact H2_) | with_reducible exact H | (rw [hy327]; exact H) | exact H
          have Ny327 := Aside0.mk hy327
          clear hy327
          simp only [Option.some.injEq, Prod.mk.injEq] at H
          obtain ⟨rfl, rfl⟩ := H
          go_enter Tryd.func106, Tryd.ntmps106
          go_wp2_with (first | ((with_reducible refine gate_callee (f := 115) rfl ?_); refine goesL_ (some 9) rfl rfl Tryd.func115 (by kernel_rfl) rfl #[.slice A1 l1.length c1] rfl (by (try simp only [List.map_toArray, List.map_cons, List.map_nil]); first | done | rfl | (simp only [List.length_drop, List.length_take]; rfl)) ?_; (with_reducible refine (spec_copyInts.calls _ _ l1 t319 _ ?side1 ?side2 A4.out).mono ?_); (case side1 => exact Kd.C_keep 0 HR1.out (by repeat (first | (with_reducible first | exact HK.out | apply KeepBut.set_ | apply keep_drewN | apply keep_drew | apply keep_alloc) | exact HK.out)) hf1); (case side2 => exact HC1.out); rintro e w14 ⟨v320, rfl, ho0, hb⟩; refine ⟨_, rfl, ?_⟩; have n0_ := Aside0.mk (Kd.R_lower ho0 (keep_size (w := w) (g := g) (row := none) (by repeat (first | (with_reducible first | exact HK.out | apply KeepBut.set_ | apply keep_drewN | apply keep_drew | apply keep_alloc) | exact HK.out)))); have n1_ := Aside0.mk (IsS101.below (by repeat (first | (with_reducible first | exact HI0.out | apply IsS101.alloc | apply IsS101.drewN | apply IsS101.drew | apply IsS101.set_1) | exact HI0.out)) hb); have n2_ := Aside0.mk (KeepBut.trans (by repeat (first | (with_reducible first | exact HK.out | apply KeepBut.set_ | apply keep_drewN | apply keep_drew | apply keep_alloc) | exact HK.out)) (KeepBut.of_below hb g none) (.inl rfl)); have n3_ := Aside0.mk (below_step (by repeat (first | (with_reducible first | exact HB.out | apply below_alloc | apply pw_below_drewN | apply below_drew1 | refine below_set ?_ (IsS101.ge HI0.out)) | exact HB.out)) hb); clear HI0; clear HK; clear HB; have HO321 := n0_; have HI0 := n1_; have HK := n2_; have HB := n3_; clear n0_ n1_ n2_ n3_; (try clear hb); (try clear hb2); (try clear hk); (try clear hi); (try clear ho0)) | ((with_reducible refine gate_callee (f := 104) rfl ?_); refine goesL_ (some 11) rfl rfl Tryd.func104 (by kernel_rfl) rfl #[.pointer (some ⟨g, 0, none⟩), .int .i64 20] rfl (by (try simp only [List.map_toArray, List.map_cons, List.map_nil]); first | done | rfl | (simp only [List.length_drop, List.length_take]; rfl)) ?_; (with_reducible refine (spec_reader_pick.calls k g s0_0 s0_1 20 t322 t323 w0 _ ?side1 ?side2 A5.out).mono ?_); (case side1 => repeat (first | (with_reducible first | exact HI0.out | apply IsS101.alloc | apply IsS101.drewN | apply IsS101.drew | apply IsS101.set_1) | exact HI0.out)); (case side2 => repeat (first | (with_reducible first | exact HB.out | apply below_alloc | apply pw_below_drewN | apply below_drew1 | refine below_set ?_ (IsS101.ge HI0.out)) | exact HB.out)); rintro e w15 ⟨rfl, hi, hb, hk⟩; refine ⟨_, rfl, ?_⟩; have n0_ := Aside0.mk (Kd.R_mono (Kd.R_keep (IsS101.apart (show IsS101 w0 _ g s0_0 s0_1 from by repeat (first | (with_reducible first | exact HI0.out | apply IsS101.alloc | apply IsS101.drewN | apply IsS101.drew | apply IsS101.set_1) | exact HI0.out)) (by (with_reducible repeat (first | apply Kd.R_alloc | apply Kd.R_drewN | apply Kd.R_drew)); exact HO321.out) (by decide)) hk (fun _ h => h.2)) (fun _ h => h.1)); have n1_ := Aside0.mk (KeepBut.trans (by repeat (first | (with_reducible first | exact HK.out | apply KeepBut.set_ | apply keep_drewN | apply keep_drew | apply keep_alloc) | exact HK.out)) hk (.inl rfl)); have n2_ := Aside0.mk (hb); have n3_ := Aside0.mk (hi); clear HO321; clear HK; clear HB; clear HI0; have HO321 := n0_; have HK := n1_; have HB := n2_; have HI0 := n3_; clear n0_ n1_ n2_ n3_; (try clear hb); (try clear hb2); (try clear hk); (try clear hi); obtain ⟨Ao16, co16, eo16⟩ := Kd.R_slice HO321.out; subst eo16; have q17 : (1 : Int) ≤ ((t319.length : Int) : Int) := of_decide_eq_true (by first | (with_reducible assumption) | assumption); obtain ⟨i017, hi017, _, hsz17, _⟩ := info_parts info3; have hcut17 := cut_from (P := Tryd.prog) 35 3 .i64 Tryd.underlying35 hi017 1 hsz17 Ao16 t319.length co16 1 (by omega) q17; have hr17 := Kd.Q_drop (k := (1 : Int).toNat) (Kd.Q_of_R HO321.out) (by omega); obtain ⟨A17, hA17⟩ : ∃ A1, A1 = (if co16 = (1 : Int).toNat then Ao16 else (Ao16 : Option Addr).map (·.add ((1 : Int).toNat * 1))) := ⟨_, rfl⟩; obtain ⟨c17, hc17⟩ : ∃ c1, c1 = co16 - (1 : Int).toNat := ⟨_, rfl⟩; have hy17 : y327.length = t319.length - (1 : Int).toNat := (by rw [Ny327.out, List.length_drop]); rw [← Ny327.out] at hr17; rw [← hy17, ← hA17, ← hc17] at hcut17; replace hr17 : Kd.Q (Kd.int .i64) 3 w15 w.heap.size (fun _ => True) (.slice A17 y327.length c17) y327 := (by rw [hA17, hc17, hy17]; exact hr17); have HE17 : Aside0 ((Value.slice A17 y327.length c17).ownBlock = (.slice Ao16 t319.length co16 : Value).ownBlock) := ⟨by rw [hA17]; split <;> (cases (Ao16 : Option Addr) <;> rfl)⟩; clear hy17 hi017 hsz17 HO321 hA17 hc17; have HO329 := Aside0.mk hr17; clear hr17; replace q17 := eq_true q17))
          go_ret
          exact ⟨_, by first | rfl | (simp [errW_none, errW_some] <;> rfl) | (simp [*, errW_none, errW_some] <;> rfl), by (with_reducible repeat (first | apply Kd.Q_alloc | apply Kd.Q_drewN | apply Kd.Q_drew)); exact HO329.out, by repeat (first | (with_reducible first | exact HI0.out | apply IsS101.alloc | apply IsS101.drewN | apply IsS101.drew | apply IsS101.set_1) | exact HI0.out), by repeat (first | (with_reducible first | exact HB.out | apply below_alloc | apply pw_below_drewN | apply below_drew1 | refine below_set ?_ (IsS101.ge HI0.out)) | exact HB.out), by repeat (first | (with_reducible first | exact HK.out | apply KeepBut.set_ | apply keep_drewN | apply keep_drew | apply keep_alloc) | exact HK.out)⟩
        · rw [if_neg c13] at H
          exact absurd H (by simp)
      · rw [if_neg c12] at H
        have c12b0 : decide (0 < (t319.length : Int)) = false := decide_eq_false c12
        have c12b1 : decide (0 < t319.length) = false := decide_eq_false (by omega)
        clear c12
        simp only [Option.some.injEq, Prod.mk.injEq] at H
        obtain ⟨rfl, rfl⟩ := H
        go_enter Tryd.func106, Tryd.ntmps106
        go_wp2_with (first | ((with_reducible refine gate_callee (f := 115) rfl ?_); refine goesL_ (some 9) rfl rfl Tryd.func115 (by kernel_rfl) rfl #[.slice A1 l1.length c1] rfl (by (try simp only [List.map_toArray, List.map_cons, List.map_nil]); first | done | rfl | (simp only [List.length_drop, List.length_take]; rfl)) ?_; (with_reducible refine (spec_copyInts.calls _ _ l1 t319 _ ?side1 ?side2 A4.out).mono ?_); (case side1 => exact Kd.C_keep 0 HR1.out (by repeat (first | (with_reducible first | exact HK.out | apply KeepBut.set_ | apply keep_drewN | apply keep_drew | apply keep_alloc) | exact HK.out)) hf1); (case side2 => exact HC1.out); rintro e w18 ⟨v320, rfl, ho0, hb⟩; refine ⟨_, rfl, ?_⟩; have n0_ := Aside0.mk (Kd.R_lower ho0 (keep_size (w := w) (g := g) (row := none) (by repeat (first | (with_reducible first | exact HK.out | apply KeepBut.set_ | apply keep_drewN | apply keep_drew | apply keep_alloc) | exact HK.out)))); have n1_ := Aside0.mk (IsS101.below (by repeat (first | (with_reducible first | exact HI0.out | apply IsS101.alloc | apply IsS101.drewN | apply IsS101.drew | apply IsS101.set_1) | exact HI0.out)) hb); have n2_ := Aside0.mk (KeepBut.trans (by repeat (first | (with_reducible first | exact HK.out | apply KeepBut.set_ | apply keep_drewN | apply keep_drew | apply keep_alloc) | exact HK.out)) (KeepBut.of_below hb g none) (.inl rfl)); have n3_ := Aside0.mk (below_step (by repeat (first | (with_reducible first | exact HB.out | apply below_alloc | apply pw_below_drewN | apply below_drew1 | refine below_set ?_ (IsS101.ge HI0.out)) | exact HB.out)) hb); clear HI0; clear HK; clear HB; have HO321 := n0_; have HI0 := n1_; have HK := n2_; have HB := n3_; clear n0_ n1_ n2_ n3_; (try clear hb); (try clear hb2); (try clear hk); (try clear hi); (try clear ho0)) | ((with_reducible refine gate_callee (f := 104) rfl ?_); refine goesL_ (some 11) rfl rfl Tryd.func104 (by kernel_rfl) rfl #[.pointer (some ⟨g, 0, none⟩), .int .i64 20] rfl (by (try simp only [List.map_toArray, List.map_cons, List.map_nil]); first | done | rfl | (simp only [List.length_drop, List.length_take]; rfl)) ?_; (with_reducible refine (spec_reader_pick.calls k g s0_0 s0_1 20 t322 t323 w0 _ ?side1 ?side2 A5.out).mono ?_); (case side1 => repeat (first | (with_reducible first | exact HI0.out | apply IsS101.alloc | apply IsS101.drewN | apply IsS101.drew | apply IsS101.set_1) | exact HI0.out)); (case side2 => repeat (first | (with_reducible first | exact HB.out | apply below_alloc | apply pw_below_drewN | apply below_drew1 | refine below_set ?_ (IsS101.ge HI0.out)) | exact HB.out)); rintro e w19 ⟨rfl, hi, hb, hk⟩; refine ⟨_, rfl, ?_⟩; have n0_ := Aside0.mk (Kd.R_mono (Kd.R_keep (IsS101.apart (show IsS101 w0 _ g s0_0 s0_1 from by repeat (first | (with_reducible first | exact HI0.out | apply IsS101.alloc | apply IsS101.drewN | apply IsS101.drew | apply IsS101.set_1) | exact HI0.out)) (by (with_reducible repeat (first | apply Kd.R_alloc | apply Kd.R_drewN | apply Kd.R_drew)); exact HO321.out) (by decide)) hk (fun _ h => h.2)) (fun _ h => h.1)); have n1_ := Aside0.mk (KeepBut.trans (by repeat (first | (with_reducible first | exact HK.out | apply KeepBut.set_ | apply keep_drewN | apply keep_drew | apply keep_alloc) | exact HK.out)) hk (.inl rfl)); have n2_ := Aside0.mk (hb); have n3_ := Aside0.mk (hi); clear HO321; clear HK; clear HB; clear HI0; have HO321 := n0_; have HK := n1_; have HB := n2_; have HI0 := n3_; clear n0_ n1_ n2_ n3_; (try clear hb); (try clear hb2); (try clear hk); (try clear hi); obtain ⟨Ao20, co20, eo20⟩ := Kd.R_slice HO321.out; subst eo20))
        go_ret
        exact ⟨_, by first | rfl | (simp [errW_none, errW_some] <;> rfl) | (simp [*, errW_none, errW_some] <;> rfl), Kd.Q_of_R (by (with_reducible repeat (first | apply Kd.R_alloc | apply Kd.R_drewN | apply Kd.R_drew)); exact HO321.out), by repeat (first | (with_reducible first | exact HI0.out | apply IsS101.alloc | apply IsS101.drewN | apply IsS101.drew | apply IsS101.set_1) | exact HI0.out), by repeat (first | (with_reducible first | exact HB.out | apply below_alloc | apply pw_below_drewN | apply below_drew1 | refine below_set ?_ (IsS101.ge HI0.out)) | exact HB.out), by repeat (first | (with_reducible first | exact HK.out | apply KeepBut.set_ | apply keep_drewN | apply keep_drew | apply keep_alloc) | exact HK.out)⟩
    · rw [if_neg c11] at H
      have c11b0 : (t322 == 1) = false := beq_eq_false_iff_ne.mpr c11
      have c11b1 : (t322 != 1) = true := bne_iff_ne.mpr c11
      by_cases c21 : t322 = 2
      · rw [if_pos c21] at H
        have c21b0 : (t322 == 2) = true := beq_iff_eq.mpr c21
        have c21b1 : (t322 != 2) = false := bne_eq_false_iff_eq.mpr c21
        clear c21
        by_cases c22 : (t319.length : Int) > 0
        · rw [if_pos c22] at H
          have c22b0 : decide (0 < (t319.length : Int)) = true := decide_eq_true c22
          have c22b1 : decide (0 < t319.length) = true := decide_eq_true (by omega)
          clear c22
          replace H := Option.bind_eq_some_iff.mp H
          obtain ⟨⟨t330, t331⟩, A230, H⟩ := H
          replace H : ((spec_reader_one.f k s0_0 t331 (([(-1), a2, 0, 1] : List Int))).bind fun bt335 => (if 0 ≤ t330 then (if t330 < (t319.length : Int) then (some ((t319.set (t330 : Int).toNat bt335.1), bt335.2)) else (none)) else (none))) = some (r1, r2) := H
          have A23 := Aside0.mk A230
          clear A230
          obtain ⟨y332, hy332⟩ : ∃ y_ : List Int, y_ = (([(-1), a2, 0, 1] : List Int)) := ⟨_, rfl⟩
          replace H : ((spec_reader_one.f k s0_0 t331 y332).bind fun bt335 => (if 0 ≤ t330 then (if t330 < (t319.length : Int) then (some ((t319.set (t330 : Int).toNat bt335.1), bt335.2)) else (none)) else (none))) = some (r1, r2) := by first | (rw [hy332]; with_reducible exact H) | (have H2_ := (Option.bind_some _ _).symm.trans H; rw [hy332]; with_reducible exact H2_) | (have H2_ := (Option.bind_some _ _).symm.trans H; with_reducible exact H2_) | with_reducible exact H | (rw [hy332]; exact H) | exact H
          have Ny332 := Aside0.mk hy332
          clear hy332
          replace H := Option.bind_eq_some_iff.mp H
          obtain ⟨⟨t335, t336⟩, A240, H⟩ := H
          replace H : (if 0 ≤ t330 then (if t330 < (t319.length : Int) then (some ((t319.set (t330 : Int).toNat t335), t336)) else (none)) else (none)) = some (r1, r2) := H
          have A24 := Aside0.mk A240
          clear A240
          by_cases c25 : 0 ≤ t330
          · rw [if_pos c25] at H
            have c25b0 : decide (0 ≤ t330) = true := decide_eq_true c25
            clear c25
            by_cases c26 : t330 < (t319.length : Int)
            · rw [if_pos c26] at H
              have c26b0 : decide (t330 < (t319.length : Int)) = true := decide_eq_true c26
              clear c26
              obtain ⟨y337, hy337⟩ : ∃ y_ : List Int, y_ = (t319.set (t330 : Int).toNat t335) := ⟨_, rfl⟩
              replace H : (some (y337, t336)) = some (r1, r2) := by first | (rw [hy337]; with_reducible exact H) | (have H2_ := (Option.bind_some _ _).symm.trans H; rw [hy337]; with_reducible exact H2_) | (have H2_ := (Option.bind_some _ _).symm.trans H; with_reducible exact H2_) | with_reducible exact H | (rw [hy337]; exact H) | exact H
              have Ny337 := Aside0.mk hy337
              clear hy337
              simp only [Option.some.injEq, Prod.mk.injEq] at H
              obtain ⟨rfl, rfl⟩ := H
              go_enter Tryd.func106, Tryd.ntmps106
              go_wp2_with (first | ((with_reducible refine gate_callee (f := 115) rfl ?_); refine goesL_ (some 9) rfl rfl Tryd.func115 (by kernel_rfl) rfl #[.slice A1 l1.length c1] rfl (by (try simp only [List.map_toArray, List.map_cons, List.map_nil]); first | done | rfl | (simp only [List.length_drop, List.length_take]; rfl)) ?_; (with_reducible refine (spec_copyInts.calls _ _ l1 t319 _ ?side1 ?side2 A4.out).mono ?_); (case side1 => exact Kd.C_keep 0 HR1.out (by repeat (first | (with_reducible first | exact HK.out | apply KeepBut.set_ | apply keep_drewN | apply keep_drew | apply keep_alloc) | exact HK.out)) hf1); (case side2 => exact HC1.out); rintro e w28 ⟨v320, rfl, ho0, hb⟩; refine ⟨_, rfl, ?_⟩; have n0_ := Aside0.mk (Kd.R_lower ho0 (keep_size (w := w) (g := g) (row := none) (by repeat (first | (with_reducible first | exact HK.out | apply KeepBut.set_ | apply keep_drewN | apply keep_drew | apply keep_alloc) | exact HK.out)))); have n1_ := Aside0.mk (IsS101.below (by repeat (first | (with_reducible first | exact HI0.out | apply IsS101.alloc | apply IsS101.drewN | apply IsS101.drew | apply IsS101.set_1) | exact HI0.out)) hb); have n2_ := Aside0.mk (KeepBut.trans (by repeat (first | (with_reducible first | exact HK.out | apply KeepBut.set_ | apply keep_drewN | apply keep_drew | apply keep_alloc) | exact HK.out)) (KeepBut.of_below hb g none) (.inl rfl)); have n3_ := Aside0.mk (below_step (by repeat (first | (with_reducible first | exact HB.out | apply below_alloc | apply pw_below_drewN | apply below_drew1 | refine below_set ?_ (IsS101.ge HI0.out)) | exact HB.out)) hb); clear HI0; clear HK; clear HB; have HO321 := n0_; have HI0 := n1_; have HK := n2_; have HB := n3_; clear n0_ n1_ n2_ n3_; (try clear hb); (try clear hb2); (try clear hk); (try clear hi); (try clear ho0)) | ((with_reducible refine gate_callee (f := 104) rfl ?_); refine goesL_ (some 11) rfl rfl Tryd.func104 (by kernel_rfl) rfl #[.pointer (some ⟨g, 0, none⟩), .int .i64 20] rfl (by (try simp only [List.map_toArray, List.map_cons, List.map_nil]); first | done | rfl | (simp only [List.length_drop, List.length_take]; rfl)) ?_; (with_reducible refine (spec_reader_pick.calls k g s0_0 s0_1 20 t322 t323 w0 _ ?side1 ?side2 A5.out).mono ?_); (case side1 => repeat (first | (with_reducible first | exact HI0.out | apply IsS101.alloc | apply IsS101.drewN | apply IsS101.drew | apply IsS101.set_1) | exact HI0.out)); (case side2 => repeat (first | (with_reducible first | exact HB.out | apply below_alloc | apply pw_below_drewN | apply below_drew1 | refine below_set ?_ (IsS101.ge HI0.out)) | exact HB.out)); rintro e w29 ⟨rfl, hi, hb, hk⟩; refine ⟨_, rfl, ?_⟩; have n0_ := Aside0.mk (Kd.R_mono (Kd.R_keep (IsS101.apart (show IsS101 w0 _ g s0_0 s0_1 from by repeat (first | (with_reducible first | exact HI0.out | apply IsS101.alloc | apply IsS101.drewN | apply IsS101.drew | apply IsS101.set_1) | exact HI0.out)) (by (with_reducible repeat (first | apply Kd.R_alloc | apply Kd.R_drewN | apply Kd.R_drew)); exact HO321.out) (by decide)) hk (fun _ h => h.2)) (fun _ h => h.1)); have n1_ := Aside0.mk (KeepBut.trans (by repeat (first | (with_reducible first | exact HK.out | apply KeepBut.set_ | apply keep_drewN | apply keep_drew | apply keep_alloc) | exact HK.out)) hk (.inl rfl)); have n2_ := Aside0.mk (hb); have n3_ := Aside0.mk (hi); clear HO321; clear HK; clear HB; clear HI0; have HO321 := n0_; have HK := n1_; have HB := n2_; have HI0 := n3_; clear n0_ n1_ n2_ n3_; (try clear hb); (try clear hb2); (try clear hk); (try clear hi); obtain ⟨Ao30, co30, eo30⟩ := Kd.R_slice HO321.out; subst eo30) | ((with_reducible refine gate_callee (f := 104) rfl ?_); refine goesL_ (some 34) rfl rfl Tryd.func104 (by kernel_rfl) rfl #[.pointer (some ⟨g, 0, none⟩), .int .i64 (t319.length : Int)] rfl (by (try simp only [List.map_toArray, List.map_cons, List.map_nil]); first | done | rfl | (simp only [List.length_drop, List.length_take]; rfl)) ?_; (with_reducible refine (spec_reader_pick.calls k g s0_0 t323 (t319.length : Int) t330 t331 w0 _ ?side1 ?side2 A23.out).mono ?_); (case side1 => repeat (first | (with_reducible first | exact HI0.out | apply IsS101.alloc | apply IsS101.drewN | apply IsS101.drew | apply IsS101.set_1) | exact HI0.out)); (case side2 => repeat (first | (with_reducible first | exact HB.out | apply below_alloc | apply pw_below_drewN | apply below_drew1 | refine below_set ?_ (IsS101.ge HI0.out)) | exact HB.out)); rintro e w31 ⟨rfl, hi, hb, hk⟩; refine ⟨_, rfl, ?_⟩; have n0_ := Aside0.mk (Kd.R_mono (Kd.R_keep (IsS101.apart (show IsS101 w0 _ g s0_0 t323 from by repeat (first | (with_reducible first | exact HI0.out | apply IsS101.alloc | apply IsS101.drewN | apply IsS101.drew | apply IsS101.set_1) | exact HI0.out)) (by (with_reducible repeat (first | apply Kd.R_alloc | apply Kd.R_drewN | apply Kd.R_drew)); exact HO321.out) (by decide)) hk (fun _ h => h.2)) (fun _ h => h.1)); have n1_ := Aside0.mk (KeepBut.trans (by repeat (first | (with_reducible first | exact HK.out | apply KeepBut.set_ | apply keep_drewN | apply keep_drew | apply keep_alloc) | exact HK.out)) hk (.inl rfl)); have n2_ := Aside0.mk (hb); have n3_ := Aside0.mk (hi); clear HO321; clear HK; clear HB; clear HI0; have HO321 := n0_; have HK := n1_; have HB := n2_; have HI0 := n3_; clear n0_ n1_ n2_ n3_; (try clear hb); (try clear hb2); (try clear hk); (try clear hi)) | ((with_reducible refine gate_dst (N := 37) rfl ?_); refine Kd.R_lit (Kd.int .i64) _ 3 ?hg (N := 37) ?hd (xs := ([(-1), a2, 0, 1] : List Int)) (inner := [.int .i64 (-1), .int .i64 a2, .int .i64 0, .int .i64 1]) (ok := fun _ => True) (okp := fun _ => True) ?hr ?hp (fun _ hk => hk) trivial (Below.refl _ _) (Nat.le_refl _) (by simp) ?_; (case hd => rfl); (case hg => rfl); (case hr => first | (go_simp; done) | (go_simp; rfl)); (case hp => exact (Reps.one (show Kd.M (Kd.int .i64) _ _ _ (-1) [.int .i64 (-1)] from rfl) (Reps.one (show Kd.M (Kd.int .i64) _ _ _ a2 [.int .i64 a2] from rfl) (Reps.one (show Kd.M (Kd.int .i64) _ _ _ 0 [.int .i64 0] from rfl) (Reps.one (show Kd.M (Kd.int .i64) _ _ _ 1 [.int .i64 1] from rfl) (Reps.none _ _)))))); intro v333 w32 ho33 hb hg_ hnew_; clear hg_ hnew_; (first | rw [← Ny332.out] at ho33 | (simp only [Int.reduceToNat] at ho33; rw [← Ny332.out] at ho33)); have n0_ := Aside0.mk (Kd.R_elder' (by (with_reducible repeat (first | apply Kd.R_alloc | apply Kd.R_drewN | apply Kd.R_drew)); exact HO321.out) (Kd.R_base ho33) hb); have n1_ := Aside0.mk (Kd.R_lower (Kd.R_new' ho33 (Kd.R_lt (by (with_reducible repeat (first | apply Kd.R_alloc | apply Kd.R_drewN | apply Kd.R_drew)); exact HO321.out))) (keep_size (w := w) (g := g) (row := none) (by repeat (first | (with_reducible first | exact HK.out | apply KeepBut.set_ | apply keep_drewN | apply keep_drew | apply keep_alloc) | exact HK.out)))); have n2_ := Aside0.mk (IsS101.below (by repeat (first | (with_reducible first | exact HI0.out | apply IsS101.alloc | apply IsS101.drewN | apply IsS101.drew | apply IsS101.set_1) | exact HI0.out)) hb); have n3_ := Aside0.mk (KeepBut.trans (by repeat (first | (with_reducible first | exact HK.out | apply KeepBut.set_ | apply keep_drewN | apply keep_drew | apply keep_alloc) | exact HK.out)) (KeepBut.of_below hb g none) (.inl rfl)); have n4_ := Aside0.mk (below_step (by repeat (first | (with_reducible first | exact HB.out | apply below_alloc | apply pw_below_drewN | apply below_drew1 | refine below_set ?_ (IsS101.ge HI0.out)) | exact HB.out)) hb); clear HO321; clear HI0; clear HK; clear HB; have HO321 := n0_; have HO334 := n1_; have HI0 := n2_; have HK := n3_; have HB := n4_; clear n0_ n1_ n2_ n3_ n4_; clear hb ho33; obtain ⟨Ao34, co34, eo34⟩ := Kd.R_slice HO334.out; subst eo34) | ((with_reducible refine gate_callee (f := 105) rfl ?_); refine goesL_ (some 38) rfl rfl Tryd.func105 (by kernel_rfl) rfl #[.pointer (some ⟨g, 0, none⟩), .slice Ao34 y332.length co34] rfl (by (try simp only [List.map_toArray, List.map_cons, List.map_nil]); first | done | rfl | (simp only [List.length_drop, List.length_take]; rfl)) ?_; (with_reducible refine (spec_reader_one.calls k g s0_0 t331 _ _ y332 t335 t336 w0 _ ?side1 ?side2 ?side3 ?side4 ?side5 A24.out).mono ?_); (case side1 => repeat (first | (with_reducible first | exact HI0.out | apply IsS101.alloc | apply IsS101.drewN | apply IsS101.drew | apply IsS101.set_1) | exact HI0.out)); (case side2 => repeat (first | (with_reducible first | exact HB.out | apply below_alloc | apply pw_below_drewN | apply below_drew1 | refine below_set ?_ (IsS101.ge HI0.out)) | exact HB.out)); (case side3 => repeat (first | exact (Kd.R_reads' HO334.out).2.2 | (with_reducible refine Kd.C_alloc ?_ _) | (with_reducible refine Kd.C_drewN ?_ _) | (with_reducible refine Kd.C_drew ?_))); (case side4 => exact (Kd.R_reads' HO334.out).2.1); (case side5 => exact far_slice (IsS101.own_ne HI0.out HO334.out (by decide))); rintro e w35 ⟨rfl, hi, hb, hk⟩; refine ⟨_, rfl, ?_⟩; have n0_ := Aside0.mk (Kd.R_mono (Kd.R_keep (IsS101.apart (show IsS101 w0 _ g s0_0 t331 from by repeat (first | (with_reducible first | exact HI0.out | apply IsS101.alloc | apply IsS101.drewN | apply IsS101.drew | apply IsS101.set_1) | exact HI0.out)) (by (with_reducible repeat (first | apply Kd.R_alloc | apply Kd.R_drewN | apply Kd.R_drew)); exact HO321.out) (by decide)) hk (fun _ h => h.2)) (fun _ h => h.1)); have n1_ := Aside0.mk (Kd.R_mono (Kd.R_keep (IsS101.apart (show IsS101 w0 _ g s0_0 t331 from by repeat (first | (with_reducible first | exact HI0.out | apply IsS101.alloc | apply IsS101.drewN | apply IsS101.drew | apply IsS101.set_1) | exact HI0.out)) (by (with_reducible repeat (first | apply Kd.R_alloc | apply Kd.R_drewN | apply Kd.R_drew)); exact HO334.out) (by decide)) hk (fun _ h => h.2)) (fun _ h => h.1)); have n2_ := Aside0.mk (KeepBut.trans (by repeat (first | (with_reducible first | exact HK.out | apply KeepBut.set_ | apply keep_drewN | apply keep_drew | apply keep_alloc) | exact HK.out)) hk (.inl rfl)); have n3_ := Aside0.mk (hb); have n4_ := Aside0.mk (hi); clear HO321; clear HO334; clear HK; clear HB; clear HI0; have HO321 := n0_; have HO334 := n1_; have HK := n2_; have HB := n3_; have HI0 := n4_; clear n0_ n1_ n2_ n3_ n4_; (try clear hb); (try clear hb2); (try clear hk); (try clear hi); have p27 : 0 ≤ (t330 : Int) := of_decide_eq_true (by first | (with_reducible assumption) | assumption); have q27 : (t330 : Int) < ((t319.length : Int) : Int) := of_decide_eq_true (by first | (with_reducible assumption) | assumption); obtain ⟨go27, co27, eo27, gb27, gl27, cl27, HG27⟩ := Kd.R_form HO321.out (by omega); (first | cases eo27 | (injection eo27 with ea_ en_ ec_; (first | subst ea_ | (injection ea_ with ea_; subst ea_)); subst ec_; clear en_)); have GB27 := Aside0.mk gb27; have GG27 := Aside0.mk HG27; clear gb27 gl27 HG27; obtain ⟨hx27_0, hf27_0⟩ := Kd.R_celln 0 HO321.out (t330 : Int) p27 q27; replace p27 := eq_true p27; replace q27 := eq_true q27; have n_ := Aside0.mk (Kd.R_mono (ok' := (fun k_ => some k_ ≠ (.slice Ao34 y332.length co34 : Value).ownBlock)) HO321.out (fun k_ hk => hk.2)); clear HO321; have HO321 := n_; clear n_; obtain ⟨hy36_, hz36_⟩ := Kd.R_celln 0 HO321.out (t330 : Int) (of_decide_eq_true (by first | (with_reducible assumption) | assumption)) (of_decide_eq_true (by first | (with_reducible assumption) | assumption)); have HP36 := Kd.R_putg HO321.out (t330 : Int) t335) | ((with_reducible refine gate_store (t := 3) (p := 39) rfl ?_); refine store_event (t := 3) (p := 39) (v := ?vo_w37) (w1 := (w35.setCell ⟨go27, (t330 : Int).toNat, none⟩ (.int .i64 t335))) ?hg ?ho ?hn ?hr ?_; (case ho => rfl); (case hg => rfl); (case hn => rfl); (case hr => (first | (go_simp; done) | (go_simp; rfl))); intro w37 hw; have hg : w35.grownBy w37 (some go27) := (by rw [hw]; exact HP36.2); have hp_ : Kd.R (Kd.int .i64) 3 w37 w.heap.size (fun k_ => some k_ ≠ (.slice Ao34 y332.length co34 : Value).ownBlock) (.slice (some ⟨go27, 0, none⟩) t319.length co30) y337 := (by rw [hw, Ny337.out]; exact HP36.1); clear HP36; have n0_ := Aside0.mk (IsS101.grown (by repeat (first | (with_reducible first | exact HI0.out | apply IsS101.alloc | apply IsS101.drewN | apply IsS101.drew | apply IsS101.set_1) | exact HI0.out)) hg (IsS101.own_ne HI0.out HO321.out (by decide))); have n1_ := Aside0.mk (hp_); have n2_ := Aside0.mk (Kd.R_after (v := (.slice (some ⟨go27, 0, none⟩) t319.length co30)) (v1 := (.slice (some ⟨go27, 0, none⟩) t319.length co30)) (ok := (fun _ => True)) (by (with_reducible repeat (first | apply Kd.R_alloc | apply Kd.R_drewN | apply Kd.R_drew)); exact HO334.out) hg (.inl rfl)); have n3_ := Aside0.mk ((by rw [hw]; exact below_set (HB.out) (Nat.le_trans HL.out GB27.out) : Below w0.heap.size w0 w37)); have n4_ := Aside0.mk (KeepBut.trans (by repeat (first | (with_reducible first | exact HK.out | apply KeepBut.set_ | apply keep_drewN | apply keep_drew | apply keep_alloc) | exact HK.out)) (KeepBut.of_grown hg g) (Kd.R_base2 HO321.out)); clear HI0; clear HO321; clear HO334; clear HB; clear HK; have HI0 := n0_; have HO321 := n1_; have HO334 := n2_; have HB := n3_; have HK := n4_; clear n0_ n1_ n2_ n3_ n4_; clear hg hw hp_))
              go_ret
              exact ⟨_, by first | rfl | (simp [errW_none, errW_some] <;> rfl) | (simp [*, errW_none, errW_some] <;> rfl), Kd.Q_of_R (by (with_reducible repeat (first | apply Kd.R_alloc | apply Kd.R_drewN | apply Kd.R_drew)); exact Kd.R_mono HO321.out (fun _ hk => trivial)), by repeat (first | (with_reducible first | exact HI0.out | apply IsS101.alloc | apply IsS101.drewN | apply IsS101.drew | apply IsS101.set_1) | exact HI0.out), by repeat (first | (with_reducible first | exact HB.out | apply below_alloc | apply pw_below_drewN | apply below_drew1 | refine below_set ?_ (IsS101.ge HI0.out)) | exact HB.out), by repeat (first | (with_reducible first | exact HK.out | apply KeepBut.set_ | apply keep_drewN | apply keep_drew | apply keep_alloc) | exact HK.out)⟩
            · rw [if_neg c26] at H
              exact absurd H (by simp)
          · rw [if_neg c25] at H
            exact absurd H (by simp)
        · rw [if_neg c22] at H
          have c22b0 : decide (0 < (t319.length : Int)) = false := decide_eq_false c22
          have c22b1 : decide (0 < t319.length) = false := decide_eq_false (by omega)
          clear c22
          simp only [Option.some.injEq, Prod.mk.injEq] at H
          obtain ⟨rfl, rfl⟩ := H
          go_enter Tryd.func106, Tryd.ntmps106
          go_wp2_with (first | ((with_reducible refine gate_callee (f := 115) rfl ?_); refine goesL_ (some 9) rfl rfl Tryd.func115 (by kernel_rfl) rfl #[.slice A1 l1.length c1] rfl (by (try simp only [List.map_toArray, List.map_cons, List.map_nil]); first | done | rfl | (simp only [List.length_drop, List.length_take]; rfl)) ?_; (with_reducible refine (spec_copyInts.calls _ _ l1 t319 _ ?side1 ?side2 A4.out).mono ?_); (case side1 => exact Kd.C_keep 0 HR1.out (by repeat (first | (with_reducible first | exact HK.out | apply KeepBut.set_ | apply keep_drewN | apply keep_drew | apply keep_alloc) | exact HK.out)) hf1); (case side2 => exact HC1.out); rintro e w38 ⟨v320, rfl, ho0, hb⟩; refine ⟨_, rfl, ?_⟩; have n0_ := Aside0.mk (Kd.R_lower ho0 (keep_size (w := w) (g := g) (row := none) (by repeat (first | (with_reducible first | exact HK.out | apply KeepBut.set_ | apply keep_drewN | apply keep_drew | apply keep_alloc) | exact HK.out)))); have n1_ := Aside0.mk (IsS101.below (by repeat (first | (with_reducible first | exact HI0.out | apply IsS101.alloc | apply IsS101.drewN | apply IsS101.drew | apply IsS101.set_1) | exact HI0.out)) hb); have n2_ := Aside0.mk (KeepBut.trans (by repeat (first | (with_reducible first | exact HK.out | apply KeepBut.set_ | apply keep_drewN | apply keep_drew | apply keep_alloc) | exact HK.out)) (KeepBut.of_below hb g none) (.inl rfl)); have n3_ := Aside0.mk (below_step (by repeat (first | (with_reducible first | exact HB.out | apply below_alloc | apply pw_below_drewN | apply below_drew1 | refine below_set ?_ (IsS101.ge HI0.out)) | exact HB.out)) hb); clear HI0; clear HK; clear HB; have HO321 := n0_; have HI0 := n1_; have HK := n2_; have HB := n3_; clear n0_ n1_ n2_ n3_; (try clear hb); (try clear hb2); (try clear hk); (try clear hi); (try clear ho0)) | ((with_reducible refine gate_callee (f := 104) rfl ?_); refine goesL_ (some 11) rfl rfl Tryd.func104 (by kernel_rfl) rfl #[.pointer (some ⟨g, 0, none⟩), .int .i64 20] rfl (by (try simp only [List.map_toArray, List.map_cons, List.map_nil]); first | done | rfl | (simp only [List.length_drop, List.length_take]; rfl)) ?_; (with_reducible refine (spec_reader_pick.calls k g s0_0 s0_1 20 t322 t323 w0 _ ?side1 ?side2 A5.out).mono ?_); (case side1 => repeat (first | (with_reducible first | exact HI0.out | apply IsS101.alloc | apply IsS101.drewN | apply IsS101.drew | apply IsS101.set_1) | exact HI0.out)); (case side2 => repeat (first | (with_reducible first | exact HB.out | apply below_alloc | apply pw_below_drewN | apply below_drew1 | refine below_set ?_ (IsS101.ge HI0.out)) | exact HB.out)); rintro e w39 ⟨rfl, hi, hb, hk⟩; refine ⟨_, rfl, ?_⟩; have n0_ := Aside0.mk (Kd.R_mono (Kd.R_keep (IsS101.apart (show IsS101 w0 _ g s0_0 s0_1 from by repeat (first | (with_reducible first | exact HI0.out | apply IsS101.alloc | apply IsS101.drewN | apply IsS101.drew | apply IsS101.set_1) | exact HI0.out)) (by (with_reducible repeat (first | apply Kd.R_alloc | apply Kd.R_drewN | apply Kd.R_drew)); exact HO321.out) (by decide)) hk (fun _ h => h.2)) (fun _ h => h.1)); have n1_ := Aside0.mk (KeepBut.trans (by repeat (first | (with_reducible first | exact HK.out | apply KeepBut.set_ | apply keep_drewN | apply keep_drew | apply keep_alloc) | exact HK.out)) hk (.inl rfl)); have n2_ := Aside0.mk (hb); have n3_ := Aside0.mk (hi); clear HO321; clear HK; clear HB; clear HI0; have HO321 := n0_; have HK := n1_; have HB := n2_; have HI0 := n3_; clear n0_ n1_ n2_ n3_; (try clear hb); (try clear hb2); (try clear hk); (try clear hi); obtain ⟨Ao40, co40, eo40⟩ := Kd.R_slice HO321.out; subst eo40))
          go_ret
          exact ⟨_, by first | rfl | (simp [errW_none, errW_some] <;> rfl) | (simp [*, errW_none, errW_some] <;> rfl), Kd.Q_of_R (by (with_reducible repeat (first | apply Kd.R_alloc | apply Kd.R_drewN | apply Kd.R_drew)); exact HO321.out), by repeat (first | (with_reducible first | exact HI0.out | apply IsS101.alloc | apply IsS101.drewN | apply IsS101.drew | apply IsS101.set_1) | exact HI0.out), by repeat (first | (with_reducible first | exact HB.out | apply below_alloc | apply pw_below_drewN | apply below_drew1 | refine below_set ?_ (IsS101.ge HI0.out)) | exact HB.out), by repeat (first | (with_reducible first | exact HK.out | apply KeepBut.set_ | apply keep_drewN | apply keep_drew | apply keep_alloc) | exact HK.out)⟩
      · rw [if_neg c21] at H
        have c21b0 : (t322 == 2) = false := beq_eq_false_iff_ne.mpr c21
        have c21b1 : (t322 != 2) = true := bne_iff_ne.mpr c21
        simp only [Option.some.injEq, Prod.mk.injEq] at H
        obtain ⟨rfl, rfl⟩ := H
        go_enter Tryd.func106, Tryd.ntmps106
        go_wp2_with (first | ((with_reducible refine gate_callee (f := 115) rfl ?_); refine goesL_ (some 9) rfl rfl Tryd.func115 (by kernel_rfl) rfl #[.slice A1 l1.length c1] rfl (by (try simp only [List.map_toArray, List.map_cons, List.map_nil]); first | done | rfl | (simp only [List.length_drop, List.length_take]; rfl)) ?_; (with_reducible refine (spec_copyInts.calls _ _ l1 t319 _ ?side1 ?side2 A4.out).mono ?_); (case side1 => exact Kd.C_keep 0 HR1.out (by repeat (first | (with_reducible first | exact HK.out | apply KeepBut.set_ | apply keep_drewN | apply keep_drew | apply keep_alloc) | exact HK.out)) hf1); (case side2 => exact HC1.out); rintro e w41 ⟨v320, rfl, ho0, hb⟩; refine ⟨_, rfl, ?_⟩; have n0_ := Aside0.mk (Kd.R_lower ho0 (keep_size (w := w) (g := g) (row := none) (by repeat (first | (with_reducible first | exact HK.out | apply KeepBut.set_ | apply keep_drewN | apply keep_drew | apply keep_alloc) | exact HK.out)))); have n1_ := Aside0.mk (IsS101.below (by repeat (first | (with_reducible first | exact HI0.out | apply IsS101.alloc | apply IsS101.drewN | apply IsS101.drew | apply IsS101.set_1) | exact HI0.out)) hb); have n2_ := Aside0.mk (KeepBut.trans (by repeat (first | (with_reducible first | exact HK.out | apply KeepBut.set_ | apply keep_drewN | apply keep_drew | apply keep_alloc) | exact HK.out)) (KeepBut.of_below hb g none) (.inl rfl)); have n3_ := Aside0.mk (below_step (by repeat (first | (with_reducible first | exact HB.out | apply below_alloc | apply pw_below_drewN | apply below_drew1 | refine below_set ?_ (IsS101.ge HI0.out)) | exact HB.out)) hb); clear HI0; clear HK; clear HB; have HO321 := n0_; have HI0 := n1_; have HK := n2_; have HB := n3_; clear n0_ n1_ n2_ n3_; (try clear hb); (try clear hb2); (try clear hk); (try clear hi); (try clear ho0)) | ((with_reducible refine gate_callee (f := 104) rfl ?_); refine goesL_ (some 11) rfl rfl Tryd.func104 (by kernel_rfl) rfl #[.pointer (some ⟨g, 0, none⟩), .int .i64 20] rfl (by (try simp only [List.map_toArray, List.map_cons, List.map_nil]); first | done | rfl | (simp only [List.length_drop, List.length_take]; rfl)) ?_; (with_reducible refine (spec_reader_pick.calls k g s0_0 s0_1 20 t322 t323 w0 _ ?side1 ?side2 A5.out).mono ?_); (case side1 => repeat (first | (with_reducible first | exact HI0.out | apply IsS101.alloc | apply IsS101.drewN | apply IsS101.drew | apply IsS101.set_1) | exact HI0.out)); (case side2 => repeat (first | (with_reducible first | exact HB.out | apply below_alloc | apply pw_below_drewN | apply below_drew1 | refine below_set ?_ (IsS101.ge HI0.out)) | exact HB.out)); rintro e w42 ⟨rfl, hi, hb, hk⟩; refine ⟨_, rfl, ?_⟩; have n0_ := Aside0.mk (Kd.R_mono (Kd.R_keep (IsS101.apart (show IsS101 w0 _ g s0_0 s0_1 from by repeat (first | (with_reducible first | exact HI0.out | apply IsS101.alloc | apply IsS101.drewN | apply IsS101.drew | apply IsS101.set_1) | exact HI0.out)) (by (with_reducible repeat (first | apply Kd.R_alloc | apply Kd.R_drewN | apply Kd.R_drew)); exact HO321.out) (by decide)) hk (fun _ h => h.2)) (fun _ h => h.1)); have n1_ := Aside0.mk (KeepBut.trans (by repeat (first | (with_reducible first | exact HK.out | apply KeepBut.set_ | apply keep_drewN | apply keep_drew | apply keep_alloc) | exact HK.out)) hk (.inl rfl)); have n2_ := Aside0.mk (hb); have n3_ := Aside0.mk (hi); clear HO321; clear HK; clear HB; clear HI0; have HO321 := n0_; have HK := n1_; have HB := n2_; have HI0 := n3_; clear n0_ n1_ n2_ n3_; (try clear hb); (try clear hb2); (try clear hk); (try clear hi)))
        go_ret
        exact ⟨_, by first | rfl | (simp [errW_none, errW_some] <;> rfl) | (simp [*, errW_none, errW_some] <;> rfl), Kd.Q_of_R (by (with_reducible repeat (first | apply Kd.R_alloc | apply Kd.R_drewN | apply Kd.R_drew)); exact HO321.out), by repeat (first | (with_reducible first | exact HI0.out | apply IsS101.alloc | apply IsS101.drewN | apply IsS101.drew | apply IsS101.set_1) | exact HI0.out), by repeat (first | (with_reducible first | exact HB.out | apply below_alloc | apply pw_below_drewN | apply below_drew1 | refine below_set ?_ (IsS101.ge HI0.out)) | exact HB.out), by repeat (first | (with_reducible first | exact HK.out | apply KeepBut.set_ | apply keep_drewN | apply keep_drew | apply keep_alloc) | exact HK.out)⟩
end Go.Proofs.YtekajandipdlhaaDoor.P
end
section
namespace Go.Proofs.YtekajandipdlhaaDoor.P
open Go.RowKit Go.Proofs.YtekajandipdlhaaDoorW.PrintWords Go.Proofs.YtekajandipdlhaaDoorW.PrintLast Go.Proofs.YtekajandipdlhaaDoorW.PrintMore
attribute [local go_sem] max2_int min2_int max_two min_two max_three min_three max_four min_four   -- for this text's walks alone
set_option linter.unusedVariables false
set_option linter.unusedSimpArgs false
def laws_equalInts.l0 : Nat → List Int → List Int → Int → Option (Bool)
  | 0, _, _, _ => none
  | k + 1, x0, x1, x5 => if x5 < (x0.length : Int) then (if 0 ≤ x5 then (if x5 < (x1.length : Int) then (if (rd x0 x5) = (rd x1 x5) then (laws_equalInts.l0 k x0 x1 (wrap64 (x5 + 1))) else (some false)) else (none)) else (none)) else (some true)
def laws_equalInts.f (k : Nat) (l0 : List Int) (l1 : List Int) : Option (Bool) := if (l0.length : Int) = (l1.length : Int) then (laws_equalInts.l0 k l0 l1 0) else (some false)
theorem laws_equalInts.mono_l : ∀ k, (∀ y0 y1 y2, LeO (laws_equalInts.l0 k y0 y1 y2) (laws_equalInts.l0 (k + 1) y0 y1 y2))
  | 0 => fun _ _ _ r h => by simp [laws_equalInts.l0] at h
  | k + 1 => by
    have ih0 := laws_equalInts.mono_l k
    · intro y0 y1 y2
      unfold laws_equalInts.l0
      repeat' first
      | (with_reducible exact ih0 _ _ _)
      | (with_reducible exact LeO.refl _)
      | (with_reducible exact LeO.none _)
      | (with_reducible refine LeO.ite ?_ ?_)
      | (with_reducible refine LeO.bind ?_ (fun _ => ?_))
      | exact ih0 _ _ _
      | exact LeO.none _
      | refine LeO.ite ?_ ?_
      | refine LeO.bind ?_ (fun _ => ?_)
theorem laws_equalInts.mono : ∀ a0 a1 k, LeO (laws_equalInts.f k a0 a1) (laws_equalInts.f (k + 1) a0 a1) := by
  intro a0 a1 k
  have ih0 := laws_equalInts.mono_l k
  unfold laws_equalInts.f
  repeat' first
      | (with_reducible exact ih0 _ _ _)
      | (with_reducible exact LeO.refl _)
      | (with_reducible exact LeO.none _)
      | (with_reducible refine LeO.ite ?_ ?_)
      | (with_reducible refine LeO.bind ?_ (fun _ => ?_))
      | exact ih0 _ _ _
      | exact LeO.none _
      | refine LeO.ite ?_ ?_
      | refine LeO.bind ?_ (fun _ => ?_)
set_option maxHeartbeats 8000000 in
set_option maxRecDepth 100000 in
theorem laws_equalInts.calls (k : Nat) (A0 : Option Addr) (c0 : Nat) (l0 : List Int) (A1 : Option Addr) (c1 : Nat) (l1 : List Int) (r : Bool) (w : World) (hr0 : Kd.C (Kd.int .i64) w A0 l0.length l0) (hc0 : l0.length ≤ c0) (hr1 : Kd.C (Kd.int .i64) w A1 l1.length l1) (hc1 : l1.length ≤ c1) (h : laws_equalInts.f k l0 l1 = some r) :
    Calls Tryd.prog 33 #[.slice A0 l0.length c0, .slice A1 l1.length c1] w fun e w' => e = .returned (.bool r) ∧ Drawn0 w w' := by
  have HR0 := Aside0.mk hr0
  have HC0 := Aside0.mk hc0
  clear hr0 hc0
  have HR1 := Aside0.mk hr1
  have HC1 := Aside0.mk hc1
  clear hr1 hc1
  have H : (if (l0.length : Int) = (l1.length : Int) then (laws_equalInts.l0 k l0 l1 0) else (some false)) = some r := h
  clear h
  by_cases c3 : (l0.length : Int) = (l1.length : Int)
  · rw [if_pos c3] at H
    have c3b0 : ((l0.length : Int) == (l1.length : Int)) = true := beq_iff_eq.mpr c3
    have c3b1 : ((l0.length : Int) != (l1.length : Int)) = false := bne_eq_false_iff_eq.mpr c3
    have c3b2 : (l0.length == l1.length) = true := by first | simpa using c3 | (simp at c3 ⊢; omega)
    clear c3
    have H' := Aside0.mk H
    clear H
    go_enter Tryd.func33, Tryd.ntmps33
    go_wp2
    repeat (go_quiet (fail); try go_wp2)
    go_loopg [5] k (fun kq v5 w' => ∃ (x5_1 : Int), v5 = .int .i64 x5_1 ∧ Aside0 (laws_equalInts.l0 kq l0 l1 x5_1 = some r) ∧ Aside0 (kq ≤ k) ∧ Drawn0 w w')
    case atStart => exact ⟨(0), (by first | rfl | (simp; done) | (simp [*]; done)), H', ⟨Nat.le_refl _⟩, by repeat (first | exact Drawn0.refl _ | apply Drawn0.step)⟩
    case round =>
      clear H'
      try clear c1
      try clear p2
      try clear c3
      try clear c3b0
      try clear c3b1
      try clear c3b2
      obtain ⟨x5_1, rfl, HA, HK1, ⟨m1, rfl⟩⟩ := hrel
      cases gk with
      | zero => exact absurd HA.out (by simp [laws_equalInts.l0])
      | succ k1 =>
        have H := HA.out
        clear HA
        simp only [laws_equalInts.l0] at H
        by_cases c4 : x5_1 < (l0.length : Int)
        · rw [if_pos c4] at H
          have c4b0 : decide (x5_1 < (l0.length : Int)) = true := decide_eq_true c4
          clear c4
          by_cases c5 : 0 ≤ x5_1
          · rw [if_pos c5] at H
            have c5b0 : decide (0 ≤ x5_1) = true := decide_eq_true c5
            clear c5
            by_cases c6 : x5_1 < (l1.length : Int)
            · rw [if_pos c6] at H
              have c6b0 : decide (x5_1 < (l1.length : Int)) = true := decide_eq_true c6
              clear c6
              by_cases c7 : (rd l0 x5_1) = (rd l1 x5_1)
              · rw [if_pos c7] at H
                have c7b0 : ((rd l0 x5_1) == (rd l1 x5_1)) = true := beq_iff_eq.mpr c7
                have c7b1 : ((rd l0 x5_1) != (rd l1 x5_1)) = false := bne_eq_false_iff_eq.mpr c7
                clear c7
                have H' := Aside0.mk H
                clear H
                have p348 : 0 ≤ (x5_1 : Int) := of_decide_eq_true (by first | (with_reducible assumption) | assumption)
                have q348 : x5_1 < (l0.length : Int) := of_decide_eq_true (by first | (with_reducible assumption) | assumption)
                obtain ⟨ad348, e348, hx348_0⟩ := Kd.at_int HR0.out x5_1 p348 q348
                cases e348
                replace p348 := eq_true p348
                replace q348 := eq_true q348
                have p349 : 0 ≤ (x5_1 : Int) := of_decide_eq_true (by first | (with_reducible assumption) | assumption)
                have q349 : x5_1 < (l1.length : Int) := of_decide_eq_true (by first | (with_reducible assumption) | assumption)
                obtain ⟨ad349, e349, hx349_0⟩ := Kd.at_int HR1.out x5_1 p349 q349
                cases e349
                replace p349 := eq_true p349
                replace q349 := eq_true q349
                go_wp2
                repeat (go_quiet (fail); try go_wp2)
                go_roundg k1
                case measure => have := HK1.out; omega
                case rel => exact ⟨(wrap64 (x5_1 + 1)), (by first | rfl | (simp; done) | (simp [*]; done)), H', ⟨by have := HK1.out; omega⟩, by repeat (first | exact Drawn0.refl _ | apply Drawn0.step)⟩
              · rw [if_neg c7] at H
                have c7b0 : ((rd l0 x5_1) == (rd l1 x5_1)) = false := beq_eq_false_iff_ne.mpr c7
                have c7b1 : ((rd l0 x5_1) != (rd l1 x5_1)) = true := bne_iff_ne.mpr c7
                obtain rfl := Option.some.inj H
                have p348 : 0 ≤ (x5_1 : Int) := of_decide_eq_true (by first | (with_reducible assumption) | assumption)
                have q348 : x5_1 < (l0.length : Int) := of_decide_eq_true (by first | (with_reducible assumption) | assumption)
                obtain ⟨ad348, e348, hx348_0⟩ := Kd.at_int HR0.out x5_1 p348 q348
                cases e348
                replace p348 := eq_true p348
                replace q348 := eq_true q348
                have p349 : 0 ≤ (x5_1 : Int) := of_decide_eq_true (by first | (with_reducible assumption) | assumption)
                have q349 : x5_1 < (l1.length : Int) := of_decide_eq_true (by first | (with_reducible assumption) | assumption)
                obtain ⟨ad349, e349, hx349_0⟩ := Kd.at_int HR1.out x5_1 p349 q349
                cases e349
                replace p349 := eq_true p349
                replace q349 := eq_true q349
                go_wp2
                repeat (go_quiet (fail); try go_wp2)
                go_ret
                exact ⟨by first | rfl | (simp; done) | (simp [*]; done), by repeat (first | exact Drawn0.refl _ | apply Drawn0.step)⟩
            · rw [if_neg c6] at H
              exact absurd H (by simp)
          · rw [if_neg c5] at H
            exact absurd H (by simp)
        · rw [if_neg c4] at H
          have c4b0 : decide (x5_1 < (l0.length : Int)) = false := decide_eq_false c4
          clear c4
          obtain rfl := Option.some.inj H
          go_wp2
          repeat (go_quiet (fail); try go_wp2)
          go_ret
          exact ⟨by first | rfl | (simp; done) | (simp [*]; done), by repeat (first | exact Drawn0.refl _ | apply Drawn0.step)⟩
  · rw [if_neg c3] at H
    have c3b0 : ((l0.length : Int) == (l1.length : Int)) = false := beq_eq_false_iff_ne.mpr c3
    have c3b1 : ((l0.length : Int) != (l1.length : Int)) = true := bne_iff_ne.mpr c3
    have c3b2 : (l0.length == l1.length) = false := by first | simpa using c3 | (simp at c3 ⊢; omega)
    obtain rfl := Option.some.inj H
    go_enter Tryd.func33, Tryd.ntmps33
    go_wp2
    repeat (go_quiet (fail); try go_wp2)
    go_ret
    exact ⟨by first | rfl | (simp; done) | (simp [*]; done), by repeat (first | exact Drawn0.refl _ | apply Drawn0.step)⟩
end Go.Proofs.YtekajandipdlhaaDoor.P
end
section
namespace Go.Proofs.YtekajandipdlhaaDoor.P
open Go.RowKit Go.Proofs.YtekajandipdlhaaDoorW.PrintWords Go.Proofs.YtekajandipdlhaaDoorW.PrintLast Go.Proofs.YtekajandipdlhaaDoorW.PrintMore
attribute [local go_sem] max2_int min2_int max_two min_two max_three min_three max_four min_four   -- for this text's walks alone
set_option linter.unusedVariables false
set_option linter.unusedSimpArgs false
def laws_equalLists.l0 : Nat → List (List Int) → List (List Int) → Int → Option (Bool)
  | 0, _, _, _ => none
  | k + 1, x0, x1, x5 => if x5 < (x0.length : Int) then (if 0 ≤ x5 then (if x5 < (x1.length : Int) then ((laws_equalInts.f k (rd_L1 x0 x5) (rd_L1 x1 x5)).bind fun t352 => (if t352 = true then (laws_equalLists.l0 k x0 x1 (wrap64 (x5 + 1))) else (some false))) else (none)) else (none)) else (some true)
def laws_equalLists.f (k : Nat) (l0 : List (List Int)) (l1 : List (List Int)) : Option (Bool) := if (l0.length : Int) = (l1.length : Int) then (laws_equalLists.l0 k l0 l1 0) else (some false)
theorem laws_equalLists.mono_l : ∀ k, (∀ y0 y1 y2, LeO (laws_equalLists.l0 k y0 y1 y2) (laws_equalLists.l0 (k + 1) y0 y1 y2))
  | 0 => fun _ _ _ r h => by simp [laws_equalLists.l0] at h
  | k + 1 => by
    have ih0 := laws_equalLists.mono_l k
    · intro y0 y1 y2
      unfold laws_equalLists.l0
      repeat' first
      | (with_reducible exact ih0 _ _ _)
      | (with_reducible exact laws_equalInts.mono _ _ _)
      | (with_reducible exact LeO.refl _)
      | (with_reducible exact LeO.none _)
      | (with_reducible refine LeO.ite ?_ ?_)
      | (with_reducible refine LeO.bind ?_ (fun _ => ?_))
      | exact ih0 _ _ _
      | exact laws_equalInts.mono _ _ _
      | exact LeO.none _
      | refine LeO.ite ?_ ?_
      | refine LeO.bind ?_ (fun _ => ?_)
theorem laws_equalLists.mono : ∀ a0 a1 k, LeO (laws_equalLists.f k a0 a1) (laws_equalLists.f (k + 1) a0 a1) := by
  intro a0 a1 k
  have ih0 := laws_equalLists.mono_l k
  unfold laws_equalLists.f
  repeat' first
      | (with_reducible exact ih0 _ _ _)
      | (with_reducible exact laws_equalInts.mono _ _ _)
      | (with_reducible exact LeO.refl _)
      | (with_reducible exact LeO.none _)
      | (with_reducible refine LeO.ite ?_ ?_)
      | (with_reducible refine LeO.bind ?_ (fun _ => ?_))
      | exact ih0 _ _ _
      | exact laws_equalInts.mono _ _ _
      | exact LeO.none _
      | refine LeO.ite ?_ ?_
      | refine LeO.bind ?_ (fun _ => ?_)
set_option maxHeartbeats 8000000 in
set_option maxRecDepth 100000 in
theorem laws_equalLists.calls (k : Nat) (A0 : Option Addr) (c0 : Nat) (l0 : List (List Int)) (A1 : Option Addr) (c1 : Nat) (l1 : List (List Int)) (r : Bool) (w : World) (hr0 : Kd.C (Kd.slice 3 (Kd.int .i64)) w A0 l0.length l0) (hc0 : l0.length ≤ c0) (hr1 : Kd.C (Kd.slice 3 (Kd.int .i64)) w A1 l1.length l1) (hc1 : l1.length ≤ c1) (h : laws_equalLists.f k l0 l1 = some r) :
    Calls Tryd.prog 25 #[.slice A0 l0.length c0, .slice A1 l1.length c1] w fun e w' => e = .returned (.bool r) ∧ Drawn0 w w' := by
  have HR0 := Aside0.mk hr0
  have HC0 := Aside0.mk hc0
  clear hr0 hc0
  have HR1 := Aside0.mk hr1
  have HC1 := Aside0.mk hc1
  clear hr1 hc1
  have H : (if (l0.length : Int) = (l1.length : Int) then (laws_equalLists.l0 k l0 l1 0) else (some false)) = some r := h
  clear h
  by_cases c3 : (l0.length : Int) = (l1.length : Int)
  · rw [if_pos c3] at H
    have c3b0 : ((l0.length : Int) == (l1.length : Int)) = true := beq_iff_eq.mpr c3
    have c3b1 : ((l0.length : Int) != (l1.length : Int)) = false := bne_eq_false_iff_eq.mpr c3
    have c3b2 : (l0.length == l1.length) = true := by first | simpa using c3 | (simp at c3 ⊢; omega)
    clear c3
    have H' := Aside0.mk H
    clear H
    go_enter Tryd.func25, Tryd.ntmps25
    go_wp2
    repeat (go_quiet (fail); try go_wp2)
    go_loopg [5] k (fun kq v5 w' => ∃ (x5_1 : Int), v5 = .int .i64 x5_1 ∧ Aside0 (laws_equalLists.l0 kq l0 l1 x5_1 = some r) ∧ Aside0 (kq ≤ k) ∧ Drawn0 w w')
    case atStart => exact ⟨(0), (by first | rfl | (simp; done) | (simp [*]; done)), H', ⟨Nat.le_refl _⟩, by repeat (first | exact Drawn0.refl _ | apply Drawn0.step)⟩
    case round =>
      clear H'
      try clear c1
      try clear c2
      try clear p2
      try clear c3
      try clear c3b0
      try clear c3b1
      try clear c3b2
      obtain ⟨x5_1, rfl, HA, HK1, ⟨m1, rfl⟩⟩ := hrel
      cases gk with
      | zero => exact absurd HA.out (by simp [laws_equalLists.l0])
      | succ k1 =>
        have H := HA.out
        clear HA
        simp only [laws_equalLists.l0] at H
        by_cases c4 : x5_1 < (l0.length : Int)
        · rw [if_pos c4] at H
          have c4b0 : decide (x5_1 < (l0.length : Int)) = true := decide_eq_true c4
          clear c4
          by_cases c5 : 0 ≤ x5_1
          · rw [if_pos c5] at H
            have c5b0 : decide (0 ≤ x5_1) = true := decide_eq_true c5
            clear c5
            by_cases c6 : x5_1 < (l1.length : Int)
            · rw [if_pos c6] at H
              have c6b0 : decide (x5_1 < (l1.length : Int)) = true := decide_eq_true c6
              clear c6
              replace H := Option.bind_eq_some_iff.mp H
              obtain ⟨t352, A70, H⟩ := H
              replace H : (if t352 = true then (laws_equalLists.l0 k1 l0 l1 (wrap64 (x5_1 + 1))) else (some false)) = some r := H
              have A7 := Aside0.mk A70
              clear A70
              by_cases c8 : t352 = true
              · subst c8
                have H1 : (laws_equalLists.l0 k1 l0 l1 (wrap64 (x5_1 + 1))) = some r := by rw [if_pos rfl] at H; exact H
                clear H
                have H := H1
                clear H1
                have H' := Aside0.mk H
                clear H
                have p350 : 0 ≤ (x5_1 : Int) := of_decide_eq_true (by first | (with_reducible assumption) | assumption)
                have q350 : x5_1 < (l0.length : Int) := of_decide_eq_true (by first | (with_reducible assumption) | assumption)
                obtain ⟨ad350, A350_0, c350_0, e350, hx350_0, hl350_0, hi350_0⟩ := at_L1 HR0.out x5_1 p350 q350
                cases e350
                have HR350_0 := Aside0.mk hi350_0
                have HC350_0 := Aside0.mk hl350_0
                clear hi350_0 hl350_0
                replace p350 := eq_true p350
                replace q350 := eq_true q350
                have p351 : 0 ≤ (x5_1 : Int) := of_decide_eq_true (by first | (with_reducible assumption) | assumption)
                have q351 : x5_1 < (l1.length : Int) := of_decide_eq_true (by first | (with_reducible assumption) | assumption)
                obtain ⟨ad351, A351_0, c351_0, e351, hx351_0, hl351_0, hi351_0⟩ := at_L1 HR1.out x5_1 p351 q351
                cases e351
                have HR351_0 := Aside0.mk hi351_0
                have HC351_0 := Aside0.mk hl351_0
                clear hi351_0 hl351_0
                replace p351 := eq_true p351
                replace q351 := eq_true q351
                go_wp2_with (first | (go_at_call 33; (with_reducible refine (laws_equalInts.calls k1 _ _ (rd_L1 l0 x5_1) _ _ (rd_L1 l1 x5_1) true _ ?side1 ?side2 ?side3 ?side4 A7.out).mono ?_); (case side1 => repeat (first | exact HR350_0.out | (with_reducible refine Kd.C_alloc ?_ _) | (with_reducible refine Kd.C_drewN ?_ _) | (with_reducible refine Kd.C_drew ?_))); (case side2 => exact HC350_0.out); (case side3 => repeat (first | exact HR351_0.out | (with_reducible refine Kd.C_alloc ?_ _) | (with_reducible refine Kd.C_drewN ?_ _) | (with_reducible refine Kd.C_drew ?_))); (case side4 => exact HC351_0.out); rintro e w' ⟨rfl, ⟨nd, rfl⟩⟩; (try first | exact ⟨rfl, _, World.drewN_drewN _ _ _⟩ | exact ⟨rfl, _, Eq.trans (World.drewN_drewN _ _ _) (congrArg (World.drewN _) (Nat.add_assoc _ _ _))⟩)))
                repeat (go_quiet (first | (go_at_call 33; (with_reducible refine (laws_equalInts.calls k1 _ _ (rd_L1 l0 x5_1) _ _ (rd_L1 l1 x5_1) true _ ?side1 ?side2 ?side3 ?side4 A7.out).mono ?_); (case side1 => repeat (first | exact HR350_0.out | (with_reducible refine Kd.C_alloc ?_ _) | (with_reducible refine Kd.C_drewN ?_ _) | (with_reducible refine Kd.C_drew ?_))); (case side2 => exact HC350_0.out); (case side3 => repeat (first | exact HR351_0.out | (with_reducible refine Kd.C_alloc ?_ _) | (with_reducible refine Kd.C_drewN ?_ _) | (with_reducible refine Kd.C_drew ?_))); (case side4 => exact HC351_0.out); rintro e w' ⟨rfl, ⟨nd, rfl⟩⟩; (try first | exact ⟨rfl, _, World.drewN_drewN _ _ _⟩ | exact ⟨rfl, _, Eq.trans (World.drewN_drewN _ _ _) (congrArg (World.drewN _) (Nat.add_assoc _ _ _))⟩))); try go_wp2_with (first | (go_at_call 33; (with_reducible refine (laws_equalInts.calls k1 _ _ (rd_L1 l0 x5_1) _ _ (rd_L1 l1 x5_1) true _ ?side1 ?side2 ?side3 ?side4 A7.out).mono ?_); (case side1 => repeat (first | exact HR350_0.out | (with_reducible refine Kd.C_alloc ?_ _) | (with_reducible refine Kd.C_drewN ?_ _) | (with_reducible refine Kd.C_drew ?_))); (case side2 => exact HC350_0.out); (case side3 => repeat (first | exact HR351_0.out | (with_reducible refine Kd.C_alloc ?_ _) | (with_reducible refine Kd.C_drewN ?_ _) | (with_reducible refine Kd.C_drew ?_))); (case side4 => exact HC351_0.out); rintro e w' ⟨rfl, ⟨nd, rfl⟩⟩; (try first | exact ⟨rfl, _, World.drewN_drewN _ _ _⟩ | exact ⟨rfl, _, Eq.trans (World.drewN_drewN _ _ _) (congrArg (World.drewN _) (Nat.add_assoc _ _ _))⟩))))
                go_roundg k1
                case measure => have := HK1.out; omega
                case rel => exact ⟨(wrap64 (x5_1 + 1)), (by first | rfl | (simp; done) | (simp [*]; done)), H', ⟨by have := HK1.out; omega⟩, by repeat (first | exact Drawn0.refl _ | apply Drawn0.step)⟩
              · replace c8 := Bool.eq_false_iff.mpr c8
                subst c8
                have H1 : (some false) = some r := by rw [if_neg (show ¬ (false = true) by decide)] at H; exact H
                clear H
                have H := H1
                clear H1
                obtain rfl := Option.some.inj H
                have p350 : 0 ≤ (x5_1 : Int) := of_decide_eq_true (by first | (with_reducible assumption) | assumption)
                have q350 : x5_1 < (l0.length : Int) := of_decide_eq_true (by first | (with_reducible assumption) | assumption)
                obtain ⟨ad350, A350_0, c350_0, e350, hx350_0, hl350_0, hi350_0⟩ := at_L1 HR0.out x5_1 p350 q350
                cases e350
                have HR350_0 := Aside0.mk hi350_0
                have HC350_0 := Aside0.mk hl350_0
                clear hi350_0 hl350_0
                replace p350 := eq_true p350
                replace q350 := eq_true q350
                have p351 : 0 ≤ (x5_1 : Int) := of_decide_eq_true (by first | (with_reducible assumption) | assumption)
                have q351 : x5_1 < (l1.length : Int) := of_decide_eq_true (by first | (with_reducible assumption) | assumption)
                obtain ⟨ad351, A351_0, c351_0, e351, hx351_0, hl351_0, hi351_0⟩ := at_L1 HR1.out x5_1 p351 q351
                cases e351
                have HR351_0 := Aside0.mk hi351_0
                have HC351_0 := Aside0.mk hl351_0
                clear hi351_0 hl351_0
                replace p351 := eq_true p351
                replace q351 := eq_true q351
                go_wp2_with (first | (go_at_call 33; (with_reducible refine (laws_equalInts.calls k1 _ _ (rd_L1 l0 x5_1) _ _ (rd_L1 l1 x5_1) false _ ?side1 ?side2 ?side3 ?side4 A7.out).mono ?_); (case side1 => repeat (first | exact HR350_0.out | (with_reducible refine Kd.C_alloc ?_ _) | (with_reducible refine Kd.C_drewN ?_ _) | (with_reducible refine Kd.C_drew ?_))); (case side2 => exact HC350_0.out); (case side3 => repeat (first | exact HR351_0.out | (with_reducible refine Kd.C_alloc ?_ _) | (with_reducible refine Kd.C_drewN ?_ _) | (with_reducible refine Kd.C_drew ?_))); (case side4 => exact HC351_0.out); rintro e w' ⟨rfl, ⟨nd, rfl⟩⟩; (try first | exact ⟨rfl, _, World.drewN_drewN _ _ _⟩ | exact ⟨rfl, _, Eq.trans (World.drewN_drewN _ _ _) (congrArg (World.drewN _) (Nat.add_assoc _ _ _))⟩)))
                repeat (go_quiet (first | (go_at_call 33; (with_reducible refine (laws_equalInts.calls k1 _ _ (rd_L1 l0 x5_1) _ _ (rd_L1 l1 x5_1) false _ ?side1 ?side2 ?side3 ?side4 A7.out).mono ?_); (case side1 => repeat (first | exact HR350_0.out | (with_reducible refine Kd.C_alloc ?_ _) | (with_reducible refine Kd.C_drewN ?_ _) | (with_reducible refine Kd.C_drew ?_))); (case side2 => exact HC350_0.out); (case side3 => repeat (first | exact HR351_0.out | (with_reducible refine Kd.C_alloc ?_ _) | (with_reducible refine Kd.C_drewN ?_ _) | (with_reducible refine Kd.C_drew ?_))); (case side4 => exact HC351_0.out); rintro e w' ⟨rfl, ⟨nd, rfl⟩⟩; (try first | exact ⟨rfl, _, World.drewN_drewN _ _ _⟩ | exact ⟨rfl, _, Eq.trans (World.drewN_drewN _ _ _) (congrArg (World.drewN _) (Nat.add_assoc _ _ _))⟩))); try go_wp2_with (first | (go_at_call 33; (with_reducible refine (laws_equalInts.calls k1 _ _ (rd_L1 l0 x5_1) _ _ (rd_L1 l1 x5_1) false _ ?side1 ?side2 ?side3 ?side4 A7.out).mono ?_); (case side1 => repeat (first | exact HR350_0.out | (with_reducible refine Kd.C_alloc ?_ _) | (with_reducible refine Kd.C_drewN ?_ _) | (with_reducible refine Kd.C_drew ?_))); (case side2 => exact HC350_0.out); (case side3 => repeat (first | exact HR351_0.out | (with_reducible refine Kd.C_alloc ?_ _) | (with_reducible refine Kd.C_drewN ?_ _) | (with_reducible refine Kd.C_drew ?_))); (case side4 => exact HC351_0.out); rintro e w' ⟨rfl, ⟨nd, rfl⟩⟩; (try first | exact ⟨rfl, _, World.drewN_drewN _ _ _⟩ | exact ⟨rfl, _, Eq.trans (World.drewN_drewN _ _ _) (congrArg (World.drewN _) (Nat.add_assoc _ _ _))⟩))))
                go_ret
                exact ⟨by first | rfl | (simp; done) | (simp [*]; done), by repeat (first | exact Drawn0.refl _ | apply Drawn0.step)⟩
            · rw [if_neg c6] at H
              exact absurd H (by simp)
          · rw [if_neg c5] at H
            exact absurd H (by simp)
        · rw [if_neg c4] at H
          have c4b0 : decide (x5_1 < (l0.length : Int)) = false := decide_eq_false c4
          clear c4
          obtain rfl := Option.some.inj H
          go_wp2
          repeat (go_quiet (fail); try go_wp2)
          go_ret
          exact ⟨by first | rfl | (simp; done) | (simp [*]; done), by repeat (first | exact Drawn0.refl _ | apply Drawn0.step)⟩
  · rw [if_neg c3] at H
    have c3b0 : ((l0.length : Int) == (l1.length : Int)) = false := beq_eq_false_iff_ne.mpr c3
    have c3b1 : ((l0.length : Int) != (l1.length : Int)) = true := bne_iff_ne.mpr c3
    have c3b2 : (l0.length == l1.length) = false := by first | simpa using c3 | (simp at c3 ⊢; omega)
    obtain rfl := Option.some.inj H
    go_enter Tryd.func25, Tryd.ntmps25
    go_wp2
    repeat (go_quiet (fail); try go_wp2)
    go_ret
    exact ⟨by first | rfl | (simp; done) | (simp [*]; done), by repeat (first | exact Drawn0.refl _ | apply Drawn0.step)⟩
end Go.Proofs.YtekajandipdlhaaDoor.P
end
section
namespace Go.Proofs.YtekajandipdlhaaDoor.P
open Go.RowKit Go.Proofs.YtekajandipdlhaaDoorW.PrintWords Go.Proofs.YtekajandipdlhaaDoorW.PrintLast Go.Proofs.YtekajandipdlhaaDoorW.PrintMore
attribute [local go_sem] max2_int min2_int max_two min_two max_three min_three max_four min_four   -- for this text's walks alone
set_option linter.unusedVariables false
set_option linter.unusedSimpArgs false
def laws_isIn.l0 : Nat → List Int → Int → Int → Option (Bool)
  | 0, _, _, _ => none
  | k + 1, x0, x1, x5 => if x5 < (x0.length : Int) then (if 0 ≤ x5 then (if (rd x0 x5) = x1 then (some true) else (laws_isIn.l0 k x0 x1 (wrap64 (x5 + 1)))) else (none)) else (some false)
def laws_isIn.f (k : Nat) (l0 : List Int) (a1 : Int) : Option (Bool) := laws_isIn.l0 k l0 a1 0
theorem laws_isIn.mono_l : ∀ k, (∀ y0 y1 y2, LeO (laws_isIn.l0 k y0 y1 y2) (laws_isIn.l0 (k + 1) y0 y1 y2))
  | 0 => fun _ _ _ r h => by simp [laws_isIn.l0] at h
  | k + 1 => by
    have ih0 := laws_isIn.mono_l k
    · intro y0 y1 y2
      unfold laws_isIn.l0
      repeat' first
      | (with_reducible exact ih0 _ _ _)
      | (with_reducible exact LeO.refl _)
      | (with_reducible exact LeO.none _)
      | (with_reducible refine LeO.ite ?_ ?_)
      | (with_reducible refine LeO.bind ?_ (fun _ => ?_))
      | exact ih0 _ _ _
      | exact LeO.none _
      | refine LeO.ite ?_ ?_
      | refine LeO.bind ?_ (fun _ => ?_)
theorem laws_isIn.mono : ∀ a0 a1 k, LeO (laws_isIn.f k a0 a1) (laws_isIn.f (k + 1) a0 a1) := by
  intro a0 a1 k
  have ih0 := laws_isIn.mono_l k
  unfold laws_isIn.f
  repeat' first
      | (with_reducible exact ih0 _ _ _)
      | (with_reducible exact LeO.refl _)
      | (with_reducible exact LeO.none _)
      | (with_reducible refine LeO.ite ?_ ?_)
      | (with_reducible refine LeO.bind ?_ (fun _ => ?_))
      | exact ih0 _ _ _
      | exact LeO.none _
      | refine LeO.ite ?_ ?_
      | refine LeO.bind ?_ (fun _ => ?_)
set_option maxHeartbeats 8000000 in
set_option maxRecDepth 100000 in
theorem laws_isIn.calls (k : Nat) (A0 : Option Addr) (c0 : Nat) (l0 : List Int) (a1 : Int) (r : Bool) (w : World) (hr0 : Kd.C (Kd.int .i64) w A0 l0.length l0) (hc0 : l0.length ≤ c0) (h : laws_isIn.f k l0 a1 = some r) :
    Calls Tryd.prog 26 #[.slice A0 l0.length c0, .int .i64 a1] w fun e w' => e = .returned (.bool r) ∧ Drawn0 w w' := by
  have HR0 := Aside0.mk hr0
  have HC0 := Aside0.mk hc0
  clear hr0 hc0
  have H : (laws_isIn.l0 k l0 a1 0) = some r := h
  clear h
  have H' := Aside0.mk H
  clear H
  go_enter Tryd.func26, Tryd.ntmps26
  go_wp2
  go_loopg [5] k (fun kq v5 w' => ∃ (x5_1 : Int), v5 = .int .i64 x5_1 ∧ Aside0 (laws_isIn.l0 kq l0 a1 x5_1 = some r) ∧ Aside0 (kq ≤ k) ∧ Drawn0 w w')
  case atStart => exact ⟨(0), (by first | rfl | (simp; done) | (simp [*]; done)), H', ⟨Nat.le_refl _⟩, by repeat (first | exact Drawn0.refl _ | apply Drawn0.step)⟩
  case round =>
    clear H'
    try clear c2
    try clear p2
    obtain ⟨x5_1, rfl, HA, HK1, ⟨m1, rfl⟩⟩ := hrel
    cases gk with
    | zero => exact absurd HA.out (by simp [laws_isIn.l0])
    | succ k1 =>
      have H := HA.out
      clear HA
      simp only [laws_isIn.l0] at H
      by_cases c3 : x5_1 < (l0.length : Int)
      · rw [if_pos c3] at H
        have c3b0 : decide (x5_1 < (l0.length : Int)) = true := decide_eq_true c3
        clear c3
        by_cases c4 : 0 ≤ x5_1
        · rw [if_pos c4] at H
          have c4b0 : decide (0 ≤ x5_1) = true := decide_eq_true c4
          clear c4
          by_cases c5 : (rd l0 x5_1) = a1
          · rw [if_pos c5] at H
            have c5b0 : ((rd l0 x5_1) == a1) = true := beq_iff_eq.mpr c5
            have c5b1 : ((rd l0 x5_1) != a1) = false := bne_eq_false_iff_eq.mpr c5
            clear c5
            obtain rfl := Option.some.inj H
            have p353 : 0 ≤ (x5_1 : Int) := of_decide_eq_true (by first | (with_reducible assumption) | assumption)
            have q353 : x5_1 < (l0.length : Int) := of_decide_eq_true (by first | (with_reducible assumption) | assumption)
            obtain ⟨ad353, e353, hx353_0⟩ := Kd.at_int HR0.out x5_1 p353 q353
            cases e353
            replace p353 := eq_true p353
            replace q353 := eq_true q353
            go_wp2
            go_ret
            exact ⟨by first | rfl | (simp; done) | (simp [*]; done), by repeat (first | exact Drawn0.refl _ | apply Drawn0.step)⟩
          · rw [if_neg c5] at H
            have c5b0 : ((rd l0 x5_1) == a1) = false := beq_eq_false_iff_ne.mpr c5
            have c5b1 : ((rd l0 x5_1) != a1) = true := bne_iff_ne.mpr c5
            have H' := Aside0.mk H
            clear H
            have p353 : 0 ≤ (x5_1 : Int) := of_decide_eq_true (by first | (with_reducible assumption) | assumption)
            have q353 : x5_1 < (l0.length : Int) := of_decide_eq_true (by first | (with_reducible assumption) | assumption)
            obtain ⟨ad353, e353, hx353_0⟩ := Kd.at_int HR0.out x5_1 p353 q353
            cases e353
            replace p353 := eq_true p353
            replace q353 := eq_true q353
            go_wp2
            go_roundg k1
            case measure => have := HK1.out; omega
            case rel => exact ⟨(wrap64 (x5_1 + 1)), (by first | rfl | (simp; done) | (simp [*]; done)), H', ⟨by have := HK1.out; omega⟩, by repeat (first | exact Drawn0.refl _ | apply Drawn0.step)⟩
        · rw [if_neg c4] at H
          exact absurd H (by simp)
      · rw [if_neg c3] at H
        have c3b0 : decide (x5_1 < (l0.length : Int)) = false := decide_eq_false c3
        clear c3
        obtain rfl := Option.some.inj H
        go_wp2
        go_ret
        exact ⟨by first | rfl | (simp; done) | (simp [*]; done), by repeat (first | exact Drawn0.refl _ | apply Drawn0.step)⟩
end Go.Proofs.YtekajandipdlhaaDoor.P
end
section
set_option linter.unusedVariables false
set_option linter.unusedSimpArgs false
namespace Go.Proofs.YtekajandipdlhaaDoor.Core
open Go Go.RowKit Go.Shelf Go.Proofs.YtekajandipdlhaaDoorW.PrintWords Go.Proofs.YtekajandipdlhaaDoorW.PrintLast Go.Proofs.YtekajandipdlhaaDoorW.PrintMore Go.Proofs.YtekajandipdlhaaDoor.P
attribute [local go_sem] Oper.semAt_some wide_fn wide_depth
/-- What holds of each valid graph. -/
structure GOk (G : GD) : Prop where
  n8 : G.tasks.length ≤ 8
  nl : G.needs.length = G.tasks.length
  nb : below1 G.tasks.length G.needs
  ol : G.order.length = G.tasks.length
  ob : ∀ i ∈ G.order, i < G.tasks.length
  bl : G.below.length = G.tasks.length
  bb : below1 G.tasks.length G.below
  al : G.above.length = G.tasks.length
  ab : below1 G.tasks.length G.above
theorem IsG.move {w w' : World} {b : Nat} {G : GD} (h : IsG w b G) (hb : Below w.heap.size w w') : IsG w' b G := by
  obtain ⟨A0, A1, A2, A3, A4, c0, c1, c2, c3, c4, hh, h0, h1, h2, h3, h4⟩ := h
  exact ⟨A0, A1, A2, A3, A4, c0, c1, c2, c3, c4, (hb.block b (cells_lt hh)).trans hh, ⟨h0.1, Kd.C_below h0.2 hb⟩, ⟨h1.1, Kd.C_below h1.2 hb⟩, ⟨h2.1, Kd.C_below h2.2 hb⟩, ⟨h3.1, Kd.C_below h3.2 hb⟩, ⟨h4.1, Kd.C_below h4.2 hb⟩⟩
theorem IsG.lt {w : World} {b : Nat} {G : GD} (h : IsG w b G) : b < w.heap.size := by
  obtain ⟨A0, A1, A2, A3, A4, c0, c1, c2, c3, c4, hh, _⟩ := h
  exact cells_lt hh
theorem IsG.tasks {w : World} {b : Nat} {G : GD} (h : IsG w b G) : ∃ A c, w.cell? ⟨b, 0, none⟩ = some (.slice A G.tasks.length c) ∧ G.tasks.length ≤ c ∧ k37.C w A G.tasks.length G.tasks := by
  obtain ⟨A0, A1, A2, A3, A4, c0, c1, c2, c3, c4, hh, h0, h1, h2, h3, h4⟩ := h
  exact ⟨A0, c0, by simp [World.cell?, hh], h0.1, h0.2⟩
theorem IsG.needs {w : World} {b : Nat} {G : GD} (h : IsG w b G) : ∃ A c, w.cell? ⟨b, 1, none⟩ = some (.slice A G.needs.length c) ∧ G.needs.length ≤ c ∧ (Kd.int .u16).C w A G.needs.length (up G.needs) := by
  obtain ⟨A0, A1, A2, A3, A4, c0, c1, c2, c3, c4, hh, h0, h1, h2, h3, h4⟩ := h
  exact ⟨A1, c1, by simp [World.cell?, hh], h1.1, h1.2⟩
theorem IsG.order {w : World} {b : Nat} {G : GD} (h : IsG w b G) : ∃ A c, w.cell? ⟨b, 2, none⟩ = some (.slice A G.order.length c) ∧ G.order.length ≤ c ∧ (Kd.int .i64).C w A G.order.length (up G.order) := by
  obtain ⟨A0, A1, A2, A3, A4, c0, c1, c2, c3, c4, hh, h0, h1, h2, h3, h4⟩ := h
  exact ⟨A2, c2, by simp [World.cell?, hh], h2.1, h2.2⟩
theorem IsG.below {w : World} {b : Nat} {G : GD} (h : IsG w b G) : ∃ A c, w.cell? ⟨b, 3, none⟩ = some (.slice A G.below.length c) ∧ G.below.length ≤ c ∧ (Kd.int .u16).C w A G.below.length (up G.below) := by
  obtain ⟨A0, A1, A2, A3, A4, c0, c1, c2, c3, c4, hh, h0, h1, h2, h3, h4⟩ := h
  exact ⟨A3, c3, by simp [World.cell?, hh], h3.1, h3.2⟩
theorem IsG.above {w : World} {b : Nat} {G : GD} (h : IsG w b G) : ∃ A c, w.cell? ⟨b, 4, none⟩ = some (.slice A G.above.length c) ∧ G.above.length ≤ c ∧ (Kd.int .u16).C w A G.above.length (up G.above) := by
  obtain ⟨A0, A1, A2, A3, A4, c0, c1, c2, c3, c4, hh, h0, h1, h2, h3, h4⟩ := h
  exact ⟨A4, c4, by simp [World.cell?, hh], h4.1, h4.2⟩
set_option maxHeartbeats 1000000 in
theorem size_calls (b : Nat) (G : GD) (w : World) (hg : IsG w b G) :
    Calls Tryd.prog 78 #[.pointer (some ⟨b, 0, none⟩)] w fun e w' => e = .returned (.int .i64 (G.tasks.length : Int)) ∧ w = w' := by
  obtain ⟨A, c, hc, _, _⟩ := hg.tasks
  go_enter Tryd.func78, Tryd.ntmps78
  go_wp2
  go_ret
  exact ⟨rfl, rfl⟩
/-- The tasks that can come next, among the first ones. -/
def readyTo (N : List Nat) (d : Nat) : Nat → Nat
  | 0 => 0
  | i + 1 => if d.testBit i = false ∧ sub (N.getD i 0) d = 0 then readyTo N d i ||| 2 ^ i else readyTo N d i
theorem readyTo_lt (N : List Nat) (d : Nat) : ∀ i, readyTo N d i < 2 ^ i
  | 0 => by simp [readyTo]
  | i + 1 => by
    have h := Nat.lt_of_lt_of_le (readyTo_lt N d i) (Nat.pow_le_pow_right (n := 2) (by omega) (Nat.le_succ i))
    unfold readyTo
    split
    · exact Nat.or_lt_two_pow h (Nat.pow_lt_pow_right (by omega) (by omega))
    · exact h
def GD.ready (G : GD) (d : Nat) : Nat := readyTo G.needs d G.needs.length
set_option maxRecDepth 100000 in
set_option maxHeartbeats 4000000 in
theorem ready_calls (b : Nat) (G : GD) (d : Nat) (w : World) (hg : IsG w b G) (ok : GOk G) (hd : d < 256) :
    Calls Tryd.prog 86 #[.pointer (some ⟨b, 0, none⟩), .int .u16 (d : Int)] w fun e w' => e = .returned (.int .u16 ((G.ready d : Nat) : Int)) ∧ w = w' := by
  obtain ⟨A, c, hc, _, hC⟩ := hg.needs
  have hC := Aside0.mk hC
  go_enter Tryd.func86, Tryd.ntmps86
  go_wp2
  go_loopg [5, 13] G.needs.length (fun kq v5 v13 w' => ∃ (i : Nat) (x : Int) (o : Int), v5 = .int .u16 o ∧ v13 = .int .i64 x ∧ Aside0 (i + kq = G.needs.length ∧ x = (i : Int) ∧ o = ((readyTo G.needs d i : Nat) : Int)) ∧ w = w')
  case atStart => exact ⟨0, 0, 0, rfl, rfl, ⟨by omega, rfl, rfl⟩, rfl⟩
  case round =>
    obtain ⟨i, x, o, rfl, rfl, hh, rfl⟩ := hrel
    by_cases hlt : i < G.needs.length
    · have p0 : 0 ≤ x := by have := hh.out.2.1; omega
      have q0 : x < (G.needs.length : Int) := by have := hh.out.2.1; omega
      have hlt0 : decide (x < (G.needs.length : Int)) = true := decide_eq_true q0
      obtain ⟨ad, e0, hx0⟩ := Kd.at_int hC.out x p0 q0
      subst e0
      rw [rd_up (i := i) hh.out.2.1] at hx0
      have h8 : G.needs.length ≤ 8 := by have := ok.n8; have := ok.nl; omega
      have hNi : G.needs.getD i 0 < 256 := Nat.lt_of_lt_of_le (getD_lt ok.nb i) (pow8 ok.n8)
      have hA := andNot_eq hNi hd
      have hW := readyTo_lt G.needs d i
      have hstep : readyTo G.needs d (i + 1) = if d.testBit i = false ∧ sub (G.needs.getD i 0) d = 0 then readyTo G.needs d i ||| 2 ^ i else readyTo G.needs d i := rfl
      have hB := has_calls d i hd (by omega) w
      have hWc := with_calls (readyTo G.needs d i) i (Nat.lt_of_lt_of_le hW (Nat.le_trans (Nat.pow_le_pow_right (by omega) (show i ≤ 8 by omega)) (by decide))) (by omega) w
      rw [← hh.out.2.2, ← hh.out.2.1] at hWc
      rw [← hh.out.2.1] at hB
      generalize G.needs.getD i 0 = s at hx0 hA hstep
      generalize hbb : d.testBit i = bb at hB hstep
      generalize hz : sub s d = z0 at hA hstep
      generalize hz2 : ((z0 : Nat) : Int) = z at hA
      generalize hr1 : readyTo G.needs d i ||| 2 ^ i = r1 at hWc hstep
      replace p0 := eq_true p0
      replace q0 := eq_true q0
      have HS := Aside0.mk hstep
      have HZ := Aside0.mk hz2
      have HL := Aside0.mk hlt
      clear hstep hbb hz hz2 hr1 hlt hW
      have hz01 : z = 0 ∨ z ≠ 0 := by omega
      cases bb with
      | true =>
        go_wp2_with (go_at_call 87; refine hB.mono ?_; rintro e w' ⟨rfl, rfl⟩)
        go_roundg (G.needs.length - (i + 1))
        case measure => have := hh.out.1; have := HL.out; omega
        case rel =>
          have h1 := hh.out; have := HL.out
          refine ⟨i + 1, _, _, rfl, rfl, ⟨by omega, by rw [h1.2.1]; unfold wrap64; omega, by rw [HS.out, h1.2.2]; simp⟩, rfl⟩
      | false =>
        rcases hz01 with rfl | hz0
        · go_wp2_with (first | (go_at_call 87; refine hB.mono ?_; rintro e w' ⟨rfl, rfl⟩) | (go_at_call 88; refine hWc.mono ?_; rintro e w' ⟨rfl, rfl⟩))
          go_roundg (G.needs.length - (i + 1))
          case measure => have := hh.out.1; have := HL.out; omega
          case rel =>
            have h1 := hh.out; have := HL.out
            have hz3 : z0 = 0 := by have := HZ.out; omega
            refine ⟨i + 1, _, _, rfl, rfl, ⟨by omega, by rw [h1.2.1]; unfold wrap64; omega, by rw [HS.out, hz3]; simp⟩, rfl⟩
        · have hz4 : (z == 0) = false := beq_eq_false_iff_ne.2 hz0
          go_wp2_with (first | (go_at_call 87; refine hB.mono ?_; rintro e w' ⟨rfl, rfl⟩) | (go_at_call 88; refine hWc.mono ?_; rintro e w' ⟨rfl, rfl⟩))
          go_roundg (G.needs.length - (i + 1))
          case measure => have := hh.out.1; have := HL.out; omega
          case rel =>
            have h1 := hh.out; have := HL.out
            have hz3 : z0 ≠ 0 := by have := HZ.out; omega
            refine ⟨i + 1, _, _, rfl, rfl, ⟨by omega, by rw [h1.2.1]; unfold wrap64; omega, by rw [HS.out, h1.2.2]; simp [hz3]⟩, rfl⟩
    · have hlt0 : decide (x < (G.needs.length : Int)) = false := by have := hh.out; simp; omega
      have hi : i = G.needs.length := by have := hh.out; omega
      have ho := hh.out.2.2
      go_wp2
      go_ret
      refine ⟨?_, rfl⟩
      rw [ho, hi]
      rfl
end Go.Proofs.YtekajandipdlhaaDoor.Core
end
section
set_option linter.unusedVariables false
set_option linter.unusedSimpArgs false
namespace Go.Proofs.YtekajandipdlhaaDoor.Core
open Go Go.RowKit Go.Shelf Go.Proofs.YtekajandipdlhaaDoorW.PrintWords Go.Proofs.YtekajandipdlhaaDoorW.PrintLast Go.Proofs.YtekajandipdlhaaDoorW.PrintMore Go.Proofs.YtekajandipdlhaaDoor.P
/-- How many of the first n numbers a set lacks. -/
def zb : Nat → Nat → Nat
  | 0, _ => 0
  | n + 1, p => zb n p + (if p.testBit n then 0 else 1)
theorem or_bit (p i j : Nat) : (p ||| 2 ^ i).testBit j = (p.testBit j || decide (i = j)) := by rw [Nat.testBit_or, Nat.testBit_two_pow]
theorem zb_le (p i : Nat) : ∀ n, zb n (p ||| 2 ^ i) ≤ zb n p
  | 0 => Nat.le_refl _
  | n + 1 => by
    have := zb_le p i n
    simp only [zb, or_bit]
    by_cases h : i = n
    · subst h; cases p.testBit i <;> simp <;> omega
    · cases p.testBit n <;> simp [h] <;> omega
theorem zb_lt {p i : Nat} (hp : p.testBit i = false) : ∀ {n : Nat}, i < n → zb n (p ||| 2 ^ i) < zb n p
  | 0, h => by omega
  | n + 1, h => by
    simp only [zb, or_bit]
    by_cases hi : i = n
    · subst hi
      have := zb_le p i i
      simp [hp]
      omega
    · have := zb_lt hp (n := n) (by omega)
      cases p.testBit n <;> simp [hi] <;> omega
theorem readyTo_bit (N : List Nat) (d i : Nat) : ∀ n, (readyTo N d n).testBit i = true → i < n ∧ d.testBit i = false ∧ sub (N.getD i 0) d = 0
  | 0 => by simp [readyTo]
  | n + 1 => by
    intro h
    unfold readyTo at h
    split at h
    · rename_i hc
      rw [or_bit] at h
      by_cases hi : n = i
      · subst hi; exact ⟨by omega, hc⟩
      · have := readyTo_bit N d i n (by simpa [hi] using h)
        exact ⟨by omega, this.2⟩
    · have := readyTo_bit N d i n h
      exact ⟨by omega, this.2⟩
theorem readyTo_bit' (N : List Nat) (d i : Nat) : ∀ n, i < n → d.testBit i = false → sub (N.getD i 0) d = 0 → (readyTo N d n).testBit i = true
  | 0 => by intro h; omega
  | n + 1 => by
    intro h h1 h2
    unfold readyTo
    by_cases hi : n = i
    · subst hi
      rw [if_pos ⟨h1, h2⟩, or_bit]
      simp
    · have := readyTo_bit' N d i n (by omega) h1 h2
      split
      · rw [or_bit, this]; rfl
      · exact this
theorem mem_ready {G : GD} {d i : Nat} (h8 : G.needs.length ≤ 8) : i ∈ elemsN (G.ready d) ↔ i < G.needs.length ∧ d.testBit i = false ∧ sub (G.needs.getD i 0) d = 0 := by
  rw [mem_elemsN]
  constructor
  · intro h
    exact readyTo_bit _ _ _ _ h.2
  · intro h
    exact ⟨by omega, readyTo_bit' _ _ _ _ h.1 h.2.1 h.2.2⟩
theorem elemsN_length (s : Nat) : (elemsN s).length ≤ 8 := by
  have := elems_length s
  rwa [elems, List.length_map] at this
theorem ready_lt (G : GD) (d : Nat) : G.ready d < 2 ^ G.needs.length := readyTo_lt _ _ _
end Go.Proofs.YtekajandipdlhaaDoor.Core
end
section
set_option linter.unusedVariables false
set_option linter.unusedSimpArgs false
namespace Go.Proofs.YtekajandipdlhaaDoor.Core
open Go Go.RowKit Go.Proofs.YtekajandipdlhaaDoorW.PrintWords Go.Proofs.YtekajandipdlhaaDoorW.PrintMore Go.Proofs.YtekajandipdlhaaDoor.P
/-- From some number on, f says r. -/
def Ev {α : Type} (f : Nat → Option α) (r : α) : Prop := ∃ K, ∀ k, K ≤ k → f k = some r
theorem Ev.const {α : Type} (r : α) : Ev (fun _ => some r) r := ⟨0, fun _ _ => rfl⟩
theorem Ev.bind {α β : Type} {f : Nat → Option α} {g : Nat → α → Option β} {a : α} {b : β} (h : Ev f a) (h2 : Ev (fun k => g k a) b) : Ev (fun k => (f k).bind (g k)) b := by
  obtain ⟨K, h⟩ := h
  obtain ⟨K2, h2⟩ := h2
  exact ⟨max K K2, fun k hk => by show (f k).bind (g k) = some b; rw [h k (by omega)]; exact h2 k (by omega)⟩
theorem Ev.succ {α : Type} {f : Nat → Option α} {r : α} (h : Ev (fun k => f (k + 1)) r) : Ev f r := by
  obtain ⟨K, h⟩ := h
  refine ⟨K + 1, fun k hk => ?_⟩
  obtain ⟨m, rfl⟩ : ∃ m, k = m + 1 := ⟨k - 1, by omega⟩
  exact h m (by omega)
theorem Ev.of {α : Type} {f g : Nat → Option α} {r : α} (h : Ev f r) (e : ∀ k, g k = f k) : Ev g r := by
  obtain ⟨K, h⟩ := h
  exact ⟨K, fun k hk => (e k).trans (h k hk)⟩
theorem Ev.both {α β : Type} {f : Nat → Option α} {g : Nat → Option β} {a : α} {b : β} (h : Ev f a) (h2 : Ev g b) : ∃ k, f k = some a ∧ g k = some b := by
  obtain ⟨K, h⟩ := h
  obtain ⟨K2, h2⟩ := h2
  exact ⟨max K K2, h _ (by omega), h2 _ (by omega)⟩
theorem Ev.one {α : Type} {f : Nat → Option α} {a : α} (h : Ev f a) : ∃ k, f k = some a := by
  obtain ⟨K, h⟩ := h
  exact ⟨K, h _ (by omega)⟩
theorem w64 {n : Int} (h0 : -9223372036854775808 ≤ n) (h1 : n ≤ 9223372036854775807) : wrap64 n = n := by unfold wrap64; omega
theorem rd_mid {pre r : List Int} {x : Int} {i : Int} (hi : i = (pre.length : Int)) : rd (pre ++ x :: r) i = x := by
  subst hi
  simp [rd]
theorem within_eq (x a b : Int) : impl_within.f x a b = some (decide (a ≤ x ∧ x ≤ b)) := by
  unfold impl_within.f
  by_cases h : x ≥ a
  · rw [if_pos h]; simp; omega
  · rw [if_neg h]; simp; omega
theorem setwith_eq {s k : Nat} (hs : s < 256) (hk : k < 8) : impl_set_with.f (s : Int) (k : Int) = some ((s ||| 2 ^ k : Nat) : Int) := by
  unfold impl_set_with.f
  rw [if_pos (by omega)]
  have : shl .u16 1 (k : Int) = IntKind.u16.wrap (2 ^ k) := by
    unfold shl
    rw [Int.toNat_natCast, Nat.min_eq_left (by show k ≤ 16; omega), Int.one_mul]
  rw [this, with_eq hs hk]
theorem sethas_eq {s k : Nat} (hs : s < 256) (hk : k < 8) : impl_set_has.f (s : Int) (k : Int) = some (s.testBit k) := by
  unfold impl_set_has.f
  rw [if_pos (by omega)]
  have : shr .u16 (s : Int) (k : Int) = (s : Int) / 2 ^ k := by
    unfold shr
    rw [Int.toNat_natCast, Nat.min_eq_left (by show k ≤ 16; omega)]
  rw [this, has_eq hs]
/-- The set of ascending numbers below n. -/
def setGo (n : Nat) : List Int → Nat → Int → Option Nat
  | [], s, _ => some s
  | x :: r, s, last => if last + 1 ≤ x ∧ x ≤ (n : Int) - 1 then setGo n r (s ||| 2 ^ x.toNat) x else none
def setD (n : Nat) (L : List Int) : Option Nat := setGo n L 0 (-1)
def setR (o : Option Nat) : Int × Bool := match o with | some s => ((s : Int), true) | none => (0, false)
theorem ev_setGo {n : Nat} (hn : n ≤ 8) (L : List Int) : ∀ (r pre : List Int) (s : Nat) (last : Int), L = pre ++ r → s < 2 ^ n → (pre.length : Int) ≤ last + 1 → last ≤ (n : Int) - 1 →
    Ev (fun k => impl_setOf.l0 k (n : Int) (s : Int) last L (L.length : Int) (pre.length : Int)) (setR (setGo n r s last))
  | [], pre, s, last, hL, hs, h1, h2 => by
    refine Ev.succ ((Ev.const _).of fun k => ?_)
    rw [List.append_nil] at hL
    subst hL
    simp only [impl_setOf.l0]
    rw [if_neg (by omega)]
    rfl
  | x :: r, pre, s, last, hL, hs, h1, h2 => by
    have hlen : L.length = pre.length + (r.length + 1) := by rw [hL]; simp
    have hw1 : wrap64 (last + 1) = last + 1 := w64 (by omega) (by omega)
    have hw2 : wrap64 ((n : Int) - 1) = (n : Int) - 1 := w64 (by omega) (by omega)
    have hrd : rd L (pre.length : Int) = x := by rw [hL]; exact rd_mid rfl
    refine Ev.succ ?_
    by_cases hx : last + 1 ≤ x ∧ x ≤ (n : Int) - 1
    · have hx0 : 0 ≤ x := by omega
      obtain ⟨m, rfl⟩ : ∃ m : Nat, x = (m : Int) := ⟨x.toNat, by omega⟩
      have hs8 : s < 256 := Nat.lt_of_lt_of_le hs (pow8 hn)
      have ih := ev_setGo hn L r (pre ++ [(m : Int)]) (s ||| 2 ^ m) m (by rw [hL]; simp) (Nat.or_lt_two_pow hs (Nat.pow_lt_pow_right (by omega) (by omega))) (by simp; omega) (by omega)
      have hg : setGo n ((m : Int) :: r) s last = setGo n r (s ||| 2 ^ m) m := by
        rw [setGo, if_pos hx, Int.toNat_natCast]
      rw [hg]
      refine ih.of fun k => ?_
      simp only [impl_setOf.l0]
      rw [if_pos (by omega), if_pos (by omega), if_pos (by omega), hrd, hw1, hw2, within_eq, decide_eq_true hx]
      simp only [Option.bind_some, if_true]
      rw [setwith_eq hs8 (by omega)]
      simp only [Option.bind_some, List.length_append, List.length_cons, List.length_nil]
      rw [w64 (by omega) (by omega)]
      rfl
    · have hg : setGo n (x :: r) s last = none := by rw [setGo, if_neg hx]
      rw [hg]
      refine (Ev.const _).of fun k => ?_
      simp only [impl_setOf.l0]
      rw [if_pos (by omega), if_pos (by omega), if_pos (by omega), hrd, hw1, hw2, within_eq, decide_eq_false hx]
      rfl
theorem ev_setOf {n : Nat} (hn : n ≤ 8) (L : List Int) : Ev (fun k => impl_setOf.f k L (n : Int)) (setR (setD n L)) :=
  ev_setGo hn L L [] 0 (-1) rfl (Nat.two_pow_pos n) (by simp) (by omega)
theorem setGo_lt {n : Nat} : ∀ {r : List Int} {s : Nat} {last : Int} {t : Nat}, setGo n r s last = some t → s < 2 ^ n → -1 ≤ last → t < 2 ^ n
  | [], s, last, t, h, hs, hl => by rw [setGo] at h; cases h; exact hs
  | x :: r, s, last, t, h, hs, hl => by
    rw [setGo] at h
    by_cases hx : last + 1 ≤ x ∧ x ≤ (n : Int) - 1
    · rw [if_pos hx] at h
      exact setGo_lt h (Nat.or_lt_two_pow hs (Nat.pow_lt_pow_right (by omega) (by omega))) (by omega)
    · rw [if_neg hx] at h; cases h
theorem setD_lt {n : Nat} {L : List Int} {t : Nat} (h : setD n L = some t) : t < 2 ^ n := setGo_lt h (Nat.two_pow_pos n) (by omega)
def taskOk (t : Tk) : Prop := (1 ≤ t.f0 ∧ t.f0 ≤ 20) ∧ (0 ≤ t.f2 ∧ t.f2 ≤ 2) ∧ (1 ≤ t.f3 ∧ t.f3 ≤ 4)
instance (t : Tk) : Decidable (taskOk t) := by unfold taskOk; infer_instance
def needsGo (n : Nat) : List Tk → Option (List Nat)
  | [] => some []
  | t :: r => match setD n t.f1 with
    | none => none
    | some s => if taskOk t then (needsGo n r).map (s :: ·) else none
def needsD (g : List Tk) : Option (List Nat) := if g.length ≤ 8 then needsGo g.length g else none
def needsR (o : Option (List Nat)) : List Int × Bool := match o with | some N => (up N, true) | none => ([], false)
theorem rdT_mid {pre r : List Tk} {x : Tk} {i : Int} (hi : i = (pre.length : Int)) : rd_T37 (pre ++ x :: r) i = x := by
  subst hi
  simp [rd_T37]
theorem ev_needsGo (G : List Tk) (h8 : G.length ≤ 8) : ∀ (r pre : List Tk) (N : List Nat), G = pre ++ r → N.length = pre.length →
    Ev (fun k => impl_needsOf.l0 k G (up N) G (G.length : Int) (pre.length : Int)) (needsR ((needsGo G.length r).map (N ++ ·)))
  | [], pre, N, hG, hN => by
    refine Ev.succ ((Ev.const _).of fun k => ?_)
    rw [List.append_nil] at hG
    subst hG
    simp only [impl_needsOf.l0]
    rw [if_neg (by omega)]
    simp [needsGo, needsR]
  | t :: r, pre, N, hG, hN => by
    have hlen : G.length = pre.length + (r.length + 1) := by rw [hG]; simp
    have hrd : rd_T37 G (pre.length : Int) = t := by rw [hG]; exact rdT_mid rfl
    have hs := ev_setOf h8 t.f1
    refine Ev.succ ?_
    cases he : setD G.length t.f1 with
    | none =>
      rw [he] at hs
      have hg : needsGo G.length (t :: r) = none := by rw [needsGo, he]
      rw [hg]
      obtain ⟨K, h2⟩ := hs
      dsimp only at h2
      refine ⟨K, fun k hk => ?_⟩
      show impl_needsOf.l0 (k + 1) _ _ _ _ _ = _
      simp only [impl_needsOf.l0]
      rw [if_pos (by omega), if_pos (by omega), if_pos (by omega), hrd, h2 k hk]
      rfl
    | some s =>
      rw [he] at hs
      by_cases hok : taskOk t
      · have hg : needsGo G.length (t :: r) = (needsGo G.length r).map (s :: ·) := by rw [needsGo, he]; simp [hok]
        have ih := ev_needsGo G h8 r (pre ++ [t]) (N ++ [s]) (by rw [hG]; simp) (by simp [hN])
        have e1 : ((needsGo G.length r).map (s :: ·)).map (N ++ ·) = (needsGo G.length r).map ((N ++ [s]) ++ ·) := by cases needsGo G.length r <;> simp
        rw [hg, e1]
        obtain ⟨K, h2⟩ := hs
        dsimp only at h2
        obtain ⟨K2, h3⟩ := ih
        dsimp only at h3
        refine ⟨max K K2, fun k hk => ?_⟩
        show impl_needsOf.l0 (k + 1) _ _ _ _ _ = _
        simp only [impl_needsOf.l0]
        rw [if_pos (by omega), if_pos (by omega), if_pos (by omega), hrd, h2 k (by omega)]
        simp only [setR, Option.bind_some, if_true]
        rw [within_eq, decide_eq_true hok.1]
        simp only [Option.bind_some, if_true]
        rw [within_eq, decide_eq_true hok.2.1]
        simp only [Option.bind_some, if_true]
        rw [within_eq, decide_eq_true hok.2.2]
        simp only [Option.bind_some, if_true]
        rw [if_pos (by rw [up_length]; omega), w64 (by omega) (by omega)]
        have := h3 k (by omega)
        simpa [up] using this
      · have hg : needsGo G.length (t :: r) = none := by rw [needsGo, he]; simp [hok]
        rw [hg]
        obtain ⟨K, h2⟩ := hs
        dsimp only at h2
        refine ⟨K, fun k hk => ?_⟩
        show impl_needsOf.l0 (k + 1) _ _ _ _ _ = _
        simp only [impl_needsOf.l0]
        rw [if_pos (by omega), if_pos (by omega), if_pos (by omega), hrd, h2 k (by omega)]
        simp only [setR, Option.bind_some, if_true]
        rw [within_eq, within_eq, within_eq]
        simp only [Option.bind_some]
        by_cases h1 : 1 ≤ t.f0 ∧ t.f0 ≤ 20
        · by_cases h2 : 0 ≤ t.f2 ∧ t.f2 ≤ 2
          · by_cases h3 : 1 ≤ t.f3 ∧ t.f3 ≤ 4
            · exact absurd ⟨h1, h2, h3⟩ hok
            · simp [h1, h2, h3, needsR]
          · simp [h1, h2, needsR]
        · simp [h1, needsR]
theorem ev_needsOf (G : List Tk) : Ev (fun k => impl_needsOf.f k G) (needsR (needsD G)) := by
  unfold needsD
  by_cases h : G.length ≤ 8
  · rw [if_pos h]
    have h2 := ev_needsGo G h G [] [] rfl rfl
    have e : (needsGo G.length G).map (([] : List Nat) ++ ·) = needsGo G.length G := by cases needsGo G.length G <;> simp
    rw [e] at h2
    refine h2.of fun k => ?_
    unfold impl_needsOf.f
    rw [if_neg (by omega), if_pos (by omega), if_pos (by omega)]
    rfl
  · rw [if_neg h]
    refine (Ev.const _).of fun k => ?_
    unfold impl_needsOf.f
    rw [if_pos (by omega)]
    rfl
theorem needsGo_spec {n : Nat} : ∀ {r : List Tk} {N : List Nat}, needsGo n r = some N → N.length = r.length ∧ below1 n N
  | [], N, h => by rw [needsGo] at h; cases h; exact ⟨rfl, fun x hx => by cases hx⟩
  | t :: r, N, h => by
    rw [needsGo] at h
    cases he : setD n t.f1 with
    | none => rw [he] at h; cases h
    | some s =>
      rw [he] at h
      by_cases hok : taskOk t
      · simp only [hok, if_true] at h
        cases hg : needsGo n r with
        | none => rw [hg] at h; cases h
        | some M =>
          rw [hg] at h
          cases h
          have := needsGo_spec hg
          refine ⟨by simp [this.1], fun x hx => ?_⟩
          rcases List.mem_cons.1 hx with rfl | hx
          · exact setD_lt he
          · exact this.2 x hx
      · simp [hok] at h
theorem needsD_spec {g : List Tk} {N : List Nat} (h : needsD g = some N) : g.length ≤ 8 ∧ N.length = g.length ∧ below1 g.length N := by
  unfold needsD at h
  by_cases h8 : g.length ≤ 8
  · rw [if_pos h8] at h
    exact ⟨h8, needsGo_spec h⟩
  · rw [if_neg h8] at h; cases h
end Go.Proofs.YtekajandipdlhaaDoor.Core
namespace Go.Proofs.YtekajandipdlhaaDoor.Core
open Go Go.RowKit Go.Shelf Go.Proofs.YtekajandipdlhaaDoorW.PrintWords Go.Proofs.YtekajandipdlhaaDoorW.PrintMore Go.Proofs.YtekajandipdlhaaDoor.P
attribute [local go_sem] Oper.semAt_some wide_fn wide_depth
def nextFrom (N : List Nat) (d : Nat) : Nat → Nat → Option Nat
  | _, 0 => none
  | i, m + 1 => if d.testBit i = false ∧ sub (N.getD i 0) d = 0 then some i else nextFrom N d (i + 1) m
def nextD (N : List Nat) (d : Nat) : Option Nat := nextFrom N d 0 N.length
def orderGo (N : List Nat) : Nat → List Nat → Nat → List Nat × Nat
  | 0, L, d => (L, d)
  | m + 1, L, d => match nextD N d with
    | some i => orderGo N m (L ++ [i]) (d ||| 2 ^ i)
    | none => orderGo N m L d
def orderD (N : List Nat) : List Nat × Nat := orderGo N N.length [] 0
theorem nextFrom_spec {N : List Nat} {d : Nat} : ∀ {m i j : Nat}, nextFrom N d i m = some j → i ≤ j ∧ j < i + m ∧ d.testBit j = false ∧ sub (N.getD j 0) d = 0
  | 0, i, j, h => by rw [nextFrom] at h; cases h
  | m + 1, i, j, h => by
    rw [nextFrom] at h
    by_cases hc : d.testBit i = false ∧ sub (N.getD i 0) d = 0
    · rw [if_pos hc] at h
      cases h
      exact ⟨by omega, by omega, hc⟩
    · rw [if_neg hc] at h
      have := nextFrom_spec h
      exact ⟨by omega, by omega, this.2.2⟩
theorem nextD_spec {N : List Nat} {d j : Nat} (h : nextD N d = some j) : j < N.length ∧ d.testBit j = false ∧ sub (N.getD j 0) d = 0 := by
  have := nextFrom_spec h
  exact ⟨by omega, this.2.2⟩
def ordR (x : List Nat × Nat) : List Int × Int := (up x.1, (x.2 : Int))
theorem order_step {N : List Nat} {n : Nat} (hN : N.length = n) (hn : n ≤ 8) (L : List Nat) (d i j k : Nat) (hd8 : d < 256) (hNi : N.getD i 0 < 256) (hi : i < n) (hj : j ≤ 8) (hL : L.length ≤ j) : impl_order.l1 (k + 1) (up N) (up L) (d : Int) (n : Int) (j : Int) (up N) (n : Int) (i : Int) = (if d.testBit i = true then impl_order.l1 k (up N) (up L) (d : Int) (n : Int) (j : Int) (up N) (n : Int) ((i + 1 : Nat) : Int) else if ((sub (N.getD i 0) d : Nat) : Int) = 0 then impl_order.l0 k (up N) (up (L ++ [i])) ((d ||| 2 ^ i : Nat) : Int) (n : Int) ((j + 1 : Nat) : Int) else impl_order.l1 k (up N) (up L) (d : Int) (n : Int) (j : Int) (up N) (n : Int) ((i + 1 : Nat) : Int)) := by
  have h8 : up (L ++ [i]) = up L ++ [(i : Int)] := by simp [up]
  have hwj : ((j + 1 : Nat) : Int) = wrap64 ((j : Int) + 1) := by rw [w64 (by omega) (by omega)]; omega
  have hw : ((i + 1 : Nat) : Int) = wrap64 ((i : Int) + 1) := by rw [w64 (by omega) (by omega)]; omega
  rw [h8, hwj, hw, ← andNot_eq hNi hd8, impl_order.l1, if_pos (by omega), if_pos (by omega), if_pos (by rw [up_length, hN]; omega), sethas_eq hd8 (by omega), Option.bind_some, rd_up (L := N) (i := i) rfl]
  congr 1
  congr 1
  rw [if_pos (by rw [up_length]; omega), setwith_eq hd8 (by omega), Option.bind_some]
theorem ev_next {N : List Nat} {n : Nat} (hN : N.length = n) (hn : n ≤ 8) (hb : below1 n N) (L : List Nat) (d : Nat) (hd : d < 2 ^ n) (j : Nat) (hL : L.length ≤ j) (hj : j ≤ 8) (R : List Nat → Nat → List Int × Int)
    (ho : ∀ (L' : List Nat) (d' : Nat), d' < 2 ^ n → L'.length ≤ j + 1 → Ev (fun k => impl_order.l0 k (up N) (up L') (d' : Int) (n : Int) ((j + 1 : Nat) : Int)) (R L' d')) (m : Nat) : ∀ i, i + m = n →
    Ev (fun k => impl_order.l1 k (up N) (up L) (d : Int) (n : Int) (j : Int) (up N) (n : Int) (i : Int)) (match nextFrom N d i m with | some i => R (L ++ [i]) (d ||| 2 ^ i) | none => R L d) := by
  induction m with
  | zero =>
    intro i hi
    have hwj : wrap64 ((j : Int) + 1) = ((j + 1 : Nat) : Int) := by rw [w64 (by omega) (by omega)]; omega
    have hg : nextFrom N d i 0 = none := by rw [nextFrom]
    have h0 := ho L d hd (by omega)
    rw [hg]
    refine Ev.succ (h0.of fun k => ?_)
    rw [impl_order.l1, if_neg (by omega), hwj]
  | succ m ih =>
    intro i hi
    have h256 := pow8 hn
    have hd8 : d < 256 := Nat.lt_of_lt_of_le hd h256
    have hNi : N.getD i 0 < 256 := Nat.lt_of_lt_of_le (getD_lt hb i) h256
    have hstep := fun k => order_step hN hn L d i j k hd8 hNi (by omega) hj hL
    have ih := ih (i + 1) (by omega)
    refine Ev.succ ?_
    cases hbit : d.testBit i with
    | true =>
      have hg : nextFrom N d i (m + 1) = nextFrom N d (i + 1) m := by rw [nextFrom, if_neg (by simp [hbit])]
      rw [hg]
      refine ih.of fun k => ?_
      rw [hstep, if_pos hbit]
    | false =>
      by_cases hz : sub (N.getD i 0) d = 0
      · have hg : nextFrom N d i (m + 1) = some i := by rw [nextFrom, if_pos ⟨hbit, hz⟩]
        rw [hg]
        have h0 := ho (L ++ [i]) (d ||| 2 ^ i) (Nat.or_lt_two_pow hd (Nat.pow_lt_pow_right (by omega) (by omega))) (by simp; omega)
        refine h0.of fun k => ?_
        rw [hstep, if_neg (by simp [hbit]), if_pos (by omega)]
      · have hg : nextFrom N d i (m + 1) = nextFrom N d (i + 1) m := by rw [nextFrom, if_neg (fun h => hz h.2)]
        rw [hg]
        refine ih.of fun k => ?_
        rw [hstep, if_neg (by simp [hbit]), if_neg (by omega)]
theorem ev_orderGo {N : List Nat} {n : Nat} (hN : N.length = n) (hn : n ≤ 8) (hb : below1 n N) : ∀ (m j : Nat) (L : List Nat) (d : Nat), j + m = n → d < 2 ^ n → L.length ≤ j →
    Ev (fun k => impl_order.l0 k (up N) (up L) (d : Int) (n : Int) (j : Int)) (ordR (orderGo N m L d))
  | 0, j, L, d, hj, hd, hL => by
    refine Ev.succ ((Ev.const _).of fun k => ?_)
    simp only [impl_order.l0]
    rw [if_neg (by omega)]
    rfl
  | m + 1, j, L, d, hj, hd, hL => by
    refine Ev.succ ?_
    have h := ev_next hN hn hb L d hd j hL (by omega) (fun L' d' => ordR (orderGo N m L' d')) (fun L' d' hd' hL' => ev_orderGo hN hn hb m (j + 1) L' d' (by omega) hd' hL') N.length 0 (by omega)
    have e : (match nextFrom N d 0 N.length with | some i => ordR (orderGo N m (L ++ [i]) (d ||| 2 ^ i)) | none => ordR (orderGo N m L d)) = ordR (orderGo N (m + 1) L d) := by
      rw [orderGo, nextD]
      cases he : nextFrom N d 0 N.length <;> rfl
    rw [← e]
    refine h.of fun k => ?_
    simp only [impl_order.l0]
    rw [if_pos (by omega), up_length, hN]
    rfl
theorem ev_order {N : List Nat} (hn : N.length ≤ 8) (hb : below1 N.length N) : Ev (fun k => impl_order.f k (up N)) (ordR (orderD N)) := by
  have h := ev_orderGo rfl hn hb N.length 0 [] 0 (by omega) (Nat.two_pow_pos _) (by simp)
  refine h.of fun k => ?_
  unfold impl_order.f
  rw [up_length]
  rfl
/-- What an order (as far as it goes) and its set have. -/
structure OrdOk (N : List Nat) (L : List Nat) (d : Nat) : Prop where
  lt : ∀ i ∈ L, i < N.length
  set : ∀ i, d.testBit i = true ↔ i ∈ L
  dlt : d < 2 ^ N.length
  nodup : L.Nodup
  len : L.length + zb N.length d = N.length
  needs : ∀ pre i suf, L = pre ++ i :: suf → ∀ k, (N.getD i 0).testBit k = true → k ∈ pre
theorem zb_step {p i : Nat} (hp : p.testBit i = false) : ∀ {n : Nat}, i < n → zb n (p ||| 2 ^ i) + 1 = zb n p
  | 0, h => by omega
  | n + 1, h => by
    simp only [zb, or_bit]
    by_cases hi : i = n
    · subst hi
      have : ∀ m, m ≤ i → zb m (p ||| 2 ^ i) = zb m p := by
        intro m
        induction m with
        | zero => intro _; rfl
        | succ m ih =>
          intro hm
          simp only [zb, or_bit, ih (by omega)]
          have : i ≠ m := by omega
          simp [this]
      rw [this i (Nat.le_refl _)]
      simp [hp]
    · have := zb_step hp (n := n) (by omega)
      cases p.testBit n <;> simp [hi] <;> omega
theorem zb_zero : ∀ n, zb n 0 = n
  | 0 => rfl
  | n + 1 => by simp [zb, zb_zero n]
theorem zb_full (n : Nat) : ∀ m, m ≤ n → zb m (2 ^ n - 1) = 0
  | 0, _ => rfl
  | m + 1, h => by
    simp only [zb, zb_full n m (by omega), Nat.testBit_two_pow_sub_one]
    simp; omega
theorem OrdOk.step {N L : List Nat} {d i : Nat} (hn : N.length ≤ 8) (hb : below1 N.length N) (h : OrdOk N L d) (hi : i < N.length) (h1 : d.testBit i = false) (h2 : sub (N.getD i 0) d = 0) : OrdOk N (L ++ [i]) (d ||| 2 ^ i) where
  lt := by
    intro k hk
    rcases List.mem_append.1 hk with hk | hk
    · exact h.lt k hk
    · rw [List.mem_singleton.1 hk]; exact hi
  set := by
    intro k
    rw [or_bit, List.mem_append, List.mem_singleton, Bool.or_eq_true, h.set, decide_eq_true_eq]
    constructor
    · rintro (h | h)
      · exact .inl h
      · exact .inr h.symm
    · rintro (h | h)
      · exact .inl h
      · exact .inr h.symm
  dlt := Nat.or_lt_two_pow h.dlt (Nat.pow_lt_pow_right (by omega) hi)
  nodup := by
    rw [List.nodup_append]
    refine ⟨h.nodup, by simp, fun a ha b hb => ?_⟩
    rw [List.mem_singleton.1 hb]
    rintro rfl
    have := (h.set a).2 ha
    rw [this] at h1
    cases h1
  len := by
    have := zb_step h1 hi
    have := h.len
    simp
    omega
  needs := by
    intro pre k suf he m hm
    rcases List.eq_nil_or_concat suf with rfl | ⟨s2, x, rfl⟩
    · have h3 : pre = L ∧ k = i := by
        have := List.append_inj' he (by simp)
        simpa [eq_comm] using this
      obtain ⟨rfl, rfl⟩ := h3
      have hd8 : d < 256 := Nat.lt_of_lt_of_le h.dlt (pow8 hn)
      have h4 := sub_testBit (i := m) (Nat.lt_of_lt_of_le (getD_lt hb k) (pow8 hn)) hd8
      rw [h2, hm] at h4
      simp at h4
      exact (h.set m).1 h4
    · have h3 : L = pre ++ k :: s2 := by
        have e2 : L ++ [i] = (pre ++ k :: s2) ++ [x] := by rw [he]; simp
        exact (List.append_inj' e2 (by simp)).1
      exact h.needs pre k s2 h3 m hm
theorem orderGo_ok {N : List Nat} (hn : N.length ≤ 8) (hb : below1 N.length N) : ∀ {m : Nat} {L : List Nat} {d : Nat}, OrdOk N L d → OrdOk N (orderGo N m L d).1 (orderGo N m L d).2
  | 0, L, d, h => h
  | m + 1, L, d, h => by
    rw [orderGo]
    cases he : nextD N d with
    | none => exact orderGo_ok hn hb h
    | some i =>
      have := nextD_spec he
      exact orderGo_ok hn hb (h.step hn hb this.1 this.2.1 this.2.2)
theorem orderD_ok {N : List Nat} (hn : N.length ≤ 8) (hb : below1 N.length N) : OrdOk N (orderD N).1 (orderD N).2 :=
  orderGo_ok hn hb ⟨by simp, by simp, Nat.two_pow_pos _, by simp, by rw [zb_zero]; simp, by simp⟩
/-- What is known of a valid graph. -/
def mkG (g : List Tk) (N : List Nat) : GD := ⟨g, N, (orderD N).1, (reach N (orderD N).1 g.length).1, (reach N (orderD N).1 g.length).2⟩
def graphD (g : List Tk) : Option GD := match needsD g with
  | none => none
  | some N => if (orderD N).2 = 2 ^ g.length - 1 then some (mkG g N) else none
theorem graphD_spec {g : List Tk} {G : GD} (h : graphD g = some G) : ∃ N, needsD g = some N ∧ (orderD N).2 = 2 ^ g.length - 1 ∧ G = mkG g N := by
  unfold graphD at h
  cases he : needsD g with
  | none => rw [he] at h; cases h
  | some N =>
    rw [he] at h
    simp only [] at h
    by_cases hf : (orderD N).2 = 2 ^ g.length - 1
    · rw [if_pos hf] at h
      cases h
      exact ⟨N, rfl, hf, rfl⟩
    · rw [if_neg hf] at h; cases h
theorem graphD_tasks {g : List Tk} {G : GD} (h : graphD g = some G) : G.tasks = g := by
  obtain ⟨N, _, _, rfl⟩ := graphD_spec h
  rfl
theorem graphD_ok {g : List Tk} {G : GD} (h : graphD g = some G) : GOk G := by
  obtain ⟨N, h1, h2, rfl⟩ := graphD_spec h
  obtain ⟨h8, hl, hb⟩ := needsD_spec h1
  have hb' : below1 N.length N := by rw [hl]; exact hb
  have ok := orderD_ok (by omega) hb'
  have hob : ∀ i ∈ (orderD N).1, i < g.length := fun i hi => by have := ok.lt i hi; omega
  have hr := reach_below hb hob
  refine ⟨h8, hl, hb, ?_, hob, reach_len1 _ _ _, hr.1, reach_len2 _ _ _, hr.2⟩
  have := ok.len
  rw [h2, hl, zb_full _ _ (Nat.le_refl _)] at this
  exact this
set_option maxRecDepth 100000 in
set_option maxHeartbeats 4000000 in
theorem graphOf_no2 (k : Nat) (A0 : Option Addr) (c0 : Nat) (l0 : List Tk) (N O : List Nat) (d : Nat) (w : World) (hr0 : k37.C w A0 l0.length l0) (hc0 : l0.length ≤ c0) (h8 : l0.length ≤ 8) (hne : d ≠ 2 ^ l0.length - 1)
    (h : impl_needsOf.f k l0 = some (up N, true)) (ho : impl_order.f k (up N) = some (up O, (d : Int))) :
    Calls Tryd.prog 60 #[.slice A0 l0.length c0] w fun e w' => e = .returned (.tuple #[.pointer none, .bool false]) ∧ Below w.heap.size w w' := by
  have h' := Lib.hid h
  have ho' := Lib.hid ho
  clear h ho
  have hev := everything_calls l0.length h8
  generalize 2 ^ l0.length - 1 = full at hne hev
  generalize hfi : ((full : Nat) : Int) = fi at hev
  generalize hdi : ((d : Nat) : Int) = di at ho'
  have hne1 : (di != fi) = true := by simp; omega
  clear hfi hdi
  refine calls_marks Tryd.func60 rfl ?_
  simp only [Tryd.ntmps60, List.size_toArray, List.length_cons, List.length_nil, Nat.reduceAdd, Nat.reduceSub, Array.replicate_succ, Array.replicate_zero, List.push_toArray, List.append_toArray, List.nil_append, List.cons_append]
  go_wp2_with (first | (go_at_call 98; refine (impl_needsOf.calls k A0 c0 l0 _ _ _ hr0 hc0 h'.out).mono ?_; rintro e w1 ⟨v0, rfl, hR1, hB1⟩; obtain ⟨A1, c1, rfl, hl1', hC1⟩ := Kd.R_reads hR1; have hz1 := Lib.hid (up_length N)) | (go_at_call 99; refine (impl_order.calls k _ _ (up N) _ _ _ hC1 hl1' ho'.out).mono ?_; rintro e w2 ⟨v1, rfl, hR2, hB2⟩) | (go_at_call 100; refine (hev _).mono ?_; rintro e w3 ⟨rfl, rfl⟩))
  refine leave_ret (Marks.nil w.heap.size w.heap.size _) (fun W => results_tmp2 rfl _ _ _) ?_
  intro W' ht
  exact ⟨rfl, ht.below (below_step hB1 hB2) (Nat.le_refl _) (Nat.le_refl _)⟩
/-- What graphOf hands back. -/
def graphPost (A0 : Option Addr) (g : List Tk) (w : World) (e : Ending) (w' : World) : Prop := match graphD g with
  | none => e = .returned (.tuple #[.pointer none, .bool false]) ∧ Below w.heap.size w w'
  | some G => ∃ (b : Nat) (v : Value), e = .returned (.tuple #[.pointer (some ⟨b, 0, none⟩), .bool true]) ∧ Below w.heap.size w w' ∧ w.heap.size ≤ b ∧ IsG w' b G ∧ w'.cell? ⟨b, 2, none⟩ = some v ∧ (Kd.int .i64).R 3 w' w.heap.size (fun _ => True) v (up G.order) ∧ (∀ W2 : World, k37.C W2 A0 g.length g → (∀ k, w.heap.size ≤ k → k < w'.heap.size → W2.heap[k]? = w'.heap[k]?) → IsG W2 b G)
theorem graphOf_calls (A0 : Option Addr) (c0 : Nat) (l0 : List Tk) (w : World) (hT : Tab w) (hr0 : k37.C w A0 l0.length l0) (hc0 : l0.length ≤ c0) :
    Calls Tryd.prog 60 #[.slice A0 l0.length c0] w (graphPost A0 l0 w) := by
  have hn := ev_needsOf l0
  cases he : needsD l0 with
  | none =>
    rw [he] at hn
    obtain ⟨k, hk⟩ := hn.one
    refine (graphOf_no1 k A0 c0 l0 [] w hr0 hc0 hk).mono ?_
    intro e w' h
    have hg : graphD l0 = none := by unfold graphD; rw [he]
    unfold graphPost
    rw [hg]
    exact h
  | some N =>
    rw [he] at hn
    obtain ⟨h8, hl, hb⟩ := needsD_spec he
    have hb' : below1 N.length N := by rw [hl]; exact hb
    have ho := ev_order (N := N) (by omega) hb'
    have ok := orderD_ok (N := N) (by omega) hb'
    obtain ⟨k, h1, h2⟩ := hn.both ho
    by_cases hf : (orderD N).2 = 2 ^ l0.length - 1
    · have hg : graphD l0 = some (mkG l0 N) := by unfold graphD; rw [he]; simp only []; rw [if_pos hf]
      have h2' : impl_order.f k (up N) = some (up (orderD N).1, ((2 ^ l0.length - 1 : Nat) : Int)) := by rw [← hf]; exact h2
      have gok := graphD_ok hg
      refine (graphOf_yes k A0 c0 l0 N (orderD N).1 w hT hr0 hc0 h8 hl hb gok.ob (by have := gok.ol; have := gok.n8; show (orderD N).1.length ≤ 8; simp only [mkG] at *; omega) h1 h2').mono ?_
      intro e w' h
      unfold graphPost
      rw [hg]
      exact h
    · have hg : graphD l0 = none := by unfold graphD; rw [he]; simp only []; rw [if_neg hf]
      refine (graphOf_no2 k A0 c0 l0 N (orderD N).1 (orderD N).2 w hr0 hc0 h8 hf h1 h2).mono ?_
      intro e w' h
      unfold graphPost
      rw [hg]
      exact h
end Go.Proofs.YtekajandipdlhaaDoor.Core
end
section
set_option linter.unusedVariables false
set_option linter.unusedSimpArgs false
namespace Go.Proofs.YtekajandipdlhaaDoor.Core
open Go Go.RowKit Go.Shelf Go.Proofs.YtekajandipdlhaaDoorW.PrintWords Go.Proofs.YtekajandipdlhaaDoorW.PrintMore Go.Proofs.YtekajandipdlhaaDoor.P
attribute [local go_sem] Oper.semAt_some wide_fn wide_depth
theorem drawn_below {w w' : World} (h : Drawn0 w w') : Below w.heap.size w w' := by
  obtain ⟨n, rfl⟩ := h
  exact pw_below_drewN (Below.refl _ _) n
theorem graphOf_none (A0 : Option Addr) (c0 : Nat) (l0 : List Tk) (w : World) (hT : Tab w) (hr0 : k37.C w A0 l0.length l0) (hc0 : l0.length ≤ c0) (hg : graphD l0 = none) :
    Calls Tryd.prog 60 #[.slice A0 l0.length c0] w fun e w' => e = .returned (.tuple #[.pointer none, .bool false]) ∧ Below w.heap.size w w' :=
  (graphOf_calls A0 c0 l0 w hT hr0 hc0).mono fun e w' h => by unfold graphPost at h; rw [hg] at h; exact h
theorem graphOf_keep (A0 : Option Addr) (c0 : Nat) (l0 : List Tk) (G : GD) (w : World) (hT : Tab w) (hr0 : k37.C w A0 l0.length l0) (hc0 : l0.length ≤ c0) (hg : graphD l0 = some G) :
    Calls Tryd.prog 60 #[.slice A0 l0.length c0] w fun e w' => ∃ (b : Nat), e = .returned (.tuple #[.pointer (some ⟨b, 0, none⟩), .bool true]) ∧ Below w.heap.size w w' ∧ w.heap.size ≤ b ∧ IsG w' b G ∧ (∀ W2 : World, k37.C W2 A0 l0.length l0 → (∀ k, w.heap.size ≤ k → k < w'.heap.size → W2.heap[k]? = w'.heap[k]?) → IsG W2 b G) :=
  (graphOf_calls A0 c0 l0 w hT hr0 hc0).mono fun e w' h => by
    unfold graphPost at h
    rw [hg] at h
    obtain ⟨b, v, h1, h2, h3, h4, _, _, h5⟩ := h
    exact ⟨b, h1, h2, h3, h4, h5⟩
theorem graphOf_row (A0 : Option Addr) (c0 : Nat) (l0 : List Tk) (G : GD) (w : World) (hT : Tab w) (hr0 : k37.C w A0 l0.length l0) (hc0 : l0.length ≤ c0) (hg : graphD l0 = some G) :
    Calls Tryd.prog 60 #[.slice A0 l0.length c0] w fun e w' => ∃ (b : Nat) (v : Value), e = .returned (.tuple #[.pointer (some ⟨b, 0, none⟩), .bool true]) ∧ Below w.heap.size w w' ∧ w.heap.size ≤ b ∧ IsG w' b G ∧ w'.cell? ⟨b, 2, none⟩ = some v ∧ (Kd.int .i64).R 3 w' w.heap.size (fun _ => True) v (up G.order) :=
  (graphOf_calls A0 c0 l0 w hT hr0 hc0).mono fun e w' h => by
    unfold graphPost at h
    rw [hg] at h
    obtain ⟨b, v, h1, h2, h3, h4, h5, h6, _⟩ := h
    exact ⟨b, v, h1, h2, h3, h4, h5, h6⟩
theorem graphOf_some (A0 : Option Addr) (c0 : Nat) (l0 : List Tk) (G : GD) (w : World) (hT : Tab w) (hr0 : k37.C w A0 l0.length l0) (hc0 : l0.length ≤ c0) (hg : graphD l0 = some G) :
    Calls Tryd.prog 60 #[.slice A0 l0.length c0] w fun e w' => ∃ b : Nat, e = .returned (.tuple #[.pointer (some ⟨b, 0, none⟩), .bool true]) ∧ Below w.heap.size w w' ∧ IsG w' b G :=
  (graphOf_row A0 c0 l0 G w hT hr0 hc0 hg).mono fun e w' ⟨b, v, h1, h2, _, h3, _⟩ => ⟨b, h1, h2, h3⟩
theorem setOf_none {n : Nat} (hn : n ≤ 8) (A : Option Addr) (c : Nat) (L : List Int) (w : World) (hC : (Kd.int .i64).C w A L.length L) (hc : L.length ≤ c) (h : setD n L = none) :
    Calls Tryd.prog 109 #[.slice A L.length c, .int .i64 (n : Int)] w fun e w' => e = .returned (.tuple #[.int .u16 0, .bool false]) ∧ Below w.heap.size w w' := by
  obtain ⟨k, hk⟩ := (ev_setOf hn L).one
  rw [h] at hk
  exact (impl_setOf.calls k A c L (n : Int) 0 false w hC hc hk).mono fun e w' h => ⟨h.1, drawn_below h.2⟩
theorem setOf_some {n : Nat} (hn : n ≤ 8) (A : Option Addr) (c : Nat) (L : List Int) (s : Nat) (w : World) (hC : (Kd.int .i64).C w A L.length L) (hc : L.length ≤ c) (h : setD n L = some s) :
    Calls Tryd.prog 109 #[.slice A L.length c, .int .i64 (n : Int)] w fun e w' => e = .returned (.tuple #[.int .u16 (s : Int), .bool true]) ∧ Below w.heap.size w w' := by
  obtain ⟨k, hk⟩ := (ev_setOf hn L).one
  rw [h] at hk
  exact (impl_setOf.calls k A c L (n : Int) (s : Int) true w hC hc hk).mono fun e w' h => ⟨h.1, drawn_below h.2⟩
theorem grown_of_below {a b : World} (row : Option Nat) (h : Below a.heap.size a b) : a.grownBy b row := ⟨h.os, h.tape, h.output, h.size, fun k hk _ => h.block k hk⟩
theorem leaveM' {P : Program} {fn : Func} {tmps : Array Value} {R : Ending → World → Prop} {lo hi : Nat} :
    ∀ (ds : List Deferred) (W : World), Marks lo hi W ds → (∀ W', Tame lo W W' → ∃ v, (results fn tmps).run P W' = .ok v W' ∧ R (.returned v) W') → LeavesInM Fence.wide 0 P fn tmps R ds .returning W
  | [], W, _, hR => by
    obtain ⟨v, h1, h2⟩ := hR W (Tame.refl _ _)
    exact ⟨v, h1, h2⟩
  | d :: ds, W, hm, hR => by
    obtain ⟨D, rfl, h1, h2, h3⟩ := hm.2 d (List.mem_cons_self)
    have hlt := (Array.getElem?_eq_some_iff.1 h3).1
    have hnd := List.nodup_cons.1 hm.1
    refine ⟨by simp, .inl ⟨D, _, rfl, run_takeDeferred h3, ?_⟩⟩
    have ht : Tame lo W (W.putObj D (.deferred none)) := Tame.of_own (grownBy_putObj' W D _) (fun r e => by cases e; exact ⟨h1, _, h3, rfl⟩)
    refine leaveM' (hi := hi) ds _ ⟨hnd.2, fun d' hd' => ?_⟩ (fun W' h' => hR W' (ht.trans h'))
    obtain ⟨D', rfl, h1', h2', h3'⟩ := hm.2 d' (List.mem_cons_of_mem _ hd')
    refine ⟨D', rfl, h1', h2', (World.putObj_heap_other ?_).trans h3'⟩
    rintro rfl
    exact hnd.1 hd'
theorem leave_ret' {P : Program} {fn : Func} {a : Act} {W : World} {R : Ending → World → Prop} {lo hi : Nat} (hm : Marks lo hi W a.defers)
    (hR : ∀ W', Tame lo W W' → ∃ v, (results fn a.tmps).run P W' = .ok v W' ∧ R (.returned v) W') : bodyPostM Fence.wide 0 P fn R .ret a W := leaveM' _ _ hm hR
end Go.Proofs.YtekajandipdlhaaDoor.Core
end
section
set_option linter.unusedVariables false
set_option linter.unusedSimpArgs false
namespace Go.Proofs.YtekajandipdlhaaDoor.Core
open Go Go.RowKit Go.Shelf Go.Proofs.YtekajandipdlhaaDoorW.PrintWords Go.Proofs.YtekajandipdlhaaDoorW.PrintLast Go.Proofs.YtekajandipdlhaaDoorW.PrintMore Go.Proofs.YtekajandipdlhaaDoor.P
attribute [local go_sem] Oper.semAt_some wide_fn wide_depth max2_int max_two
def icells (L : List Nat) : Array Value := (L.map fun (x : Nat) => Value.int .i64 (x : Int)).toArray
theorem icell {W : World} {p t : Nat} {L : List Nat} (h : W.heap[p]? = some (.cells (icells L) t (0, 0))) (i : Nat) (hi : i < L.length) : W.cell? ⟨p, i, none⟩ = some (.int .i64 ((L.getD i 0 : Nat) : Int)) := by
  simp [World.cell?, h, icells, hi]
theorem ifrozen {W : World} {p t : Nat} {L : List Nat} (h : W.heap[p]? = some (.cells (icells L) t (0, 0))) (i : Nat) : W.frozen? ⟨p, i, none⟩ = false := by
  simp [World.frozen?, h]
theorem iset {W : World} {p t : Nat} {L : List Nat} (h : W.heap[p]? = some (.cells (icells L) t (0, 0))) (i x : Nat) : (W.setCell ⟨p, i, none⟩ (.int .i64 (x : Int))).heap[p]? = some (.cells (icells (L.set i x)) t (0, 0)) := by
  rw [blk_set h i _]
  congr 2
  apply Array.ext'
  simp [icells, List.map_set]
/-- What the loops hold: the row, its variable; the rest as it was. -/
structure SI (w0 : World) (p pO n : Nat) (W : World) (L : List Nat) : Prop where
  row : W.heap[p]? = some (.cells (icells L) 3 (0, 0))
  box : Boxed W pO 35 (.slice (some ⟨p, 0, none⟩) n n)
  below : Below w0.heap.size w0 W
theorem SI.tame {w0 W W' : World} {p pO n B : Nat} {L : List Nat} (h : SI w0 p pO n W L) (hb : w0.heap.size ≤ B) (ht : Tame B W W') : SI w0 p pO n W' L := ⟨ht.cells h.row, ht.boxed h.box, ht.below h.below (Nat.le_refl _) hb⟩
theorem SI.move {w0 W W' : World} {p pO n : Nat} {L : List Nat} (h : SI w0 p pO n W L) (hb : Below W.heap.size W W') : SI w0 p pO n W' L := ⟨(hb.block _ (cells_lt h.row)).trans h.row, (hb.block _ h.box.lt).trans h.box, below_step h.below hb⟩
theorem SI.alloc {w0 W : World} {p pO n : Nat} {L : List Nat} (h : SI w0 p pO n W L) (o : Obj) : SI w0 p pO n (W.alloc o) L := h.move ((Below.refl W.heap.size W).alloc (Nat.le_refl _) o)
theorem SI.set {w0 W : World} {p pO n : Nat} {L : List Nat} (h : SI w0 p pO n W L) (hp : w0.heap.size ≤ p) (hne : pO ≠ p) (i x : Nat) : SI w0 p pO n (W.setCell ⟨p, i, none⟩ (.int .i64 (x : Int))) (L.set i x) := ⟨iset h.row i x, (sother _ hne).trans h.box, h.below.setCell (p := ⟨p, i, none⟩) hp _⟩
theorem infoI : (Tryd.prog.info? 3).map (fun i => (i.zero, i.size, i.bytes)) = some (some (.int .i64 0), 1, 8) := by kernel_rfl
theorem run_make_ints (n : Nat) (hn : n ≤ 8) (W : World) : (Instr.makeSlice 35 (.int .i64 (n : Int)) (.int .i64 (n : Int))).run Tryd.prog W = .ok (.slice (some ⟨W.heap.size, 0, none⟩) n n) (W.alloc (.cells (icells (List.replicate n 0)) 3)) := by
  obtain ⟨i0, hi, hz0, hz1, hz2⟩ := info_parts infoI
  have hr := run_make (P := Tryd.prog) W 35 3 i0 (.int .i64 0) Tryd.underlying35 hi hz0 .i64 .i64 (n : Int) (n : Int) (by omega) (by omega) (by rw [hz2]; omega) (by omega)
  rw [hz1] at hr
  simp only [Int.toNat_natCast, Nat.mul_one] at hr
  rw [hr]
  rw [show madeCells (Value.cells (.int .i64 0)) n = icells (List.replicate n 0) from (madeCells1 _ n).trans (by simp [icells])]
end Go.Proofs.YtekajandipdlhaaDoor.Core
end
section
set_option linter.unusedVariables false
set_option linter.unusedSimpArgs false
namespace Go.Proofs.YtekajandipdlhaaDoor.Core
open Go Go.RowKit Go.Shelf Go.Proofs.YtekajandipdlhaaDoorW.PrintWords Go.Proofs.YtekajandipdlhaaDoorW.PrintLast Go.Proofs.YtekajandipdlhaaDoorW.PrintMore Go.Proofs.YtekajandipdlhaaDoor.P
attribute [local go_sem] Oper.semAt_some wide_fn wide_depth max2_int max_two
def sframe (f : Nat → Value) (v0 v3 v13 v14 v15 : Value) : Array Value := #[v0, f 1, f 2, v3, f 4, f 5, f 6, f 7, f 8, f 9, f 10, f 11, f 12, v13, v14, v15, f 16, f 17, f 18, f 19, f 20, f 21, f 22, f 23, f 24, f 25, f 26, f 27, f 28, f 29, f 30, f 31, f 32, f 33, f 34, f 35, f 36, f 37, f 38, f 39, f 40, f 41, f 42]
theorem sframe_lit {T : Array Value} {v0 v3 v13 v14 v15 : Value} (hs : T.size = 43) (h0 : T[0]? = some v0) (h3 : T[3]? = some v3) (h13 : T[13]? = some v13) (h14 : T[14]? = some v14) (h15 : T[15]? = some v15) : ∃ f, T = sframe f v0 v3 v13 v14 v15 := by
  refine ⟨fun j => T.getD j undef, ?_⟩
  have hT0 : T = ((List.range 43).map fun j => T.getD j undef).toArray := by
    apply Array.ext
    · simp [hs]
    · intro i h1 h2
      simp [Array.getD_eq_getD_getElem?, h1]
  have e (j : Nat) (v : Value) (h : T[j]? = some v) : v = T.getD j undef := by rw [Array.getD_eq_getD_getElem?, h]; rfl
  obtain rfl := e _ _ h0
  obtain rfl := e _ _ h3
  obtain rfl := e _ _ h13
  obtain rfl := e _ _ h14
  obtain rfl := e _ _ h15
  exact hT0
/-- One more need. -/
def sStep (i : Nat) (L : List Nat) (k : Nat) : List Nat := L.set i (max (L.getD i 0) (L.getD k 0 + 1))
def stTo (N : List Nat) (n : Nat) (O : List Nat) : List Nat := O.foldl (fun L i => (elemsN (N.getD i 0)).foldl (sStep i) L) (List.replicate n 0)
theorem stTo_snoc (N : List Nat) (n : Nat) (O : List Nat) (i : Nat) : stTo N n (O ++ [i]) = (elemsN (N.getD i 0)).foldl (sStep i) (stTo N n O) := by unfold stTo; rw [List.foldl_append]; rfl
def stagesN (G : GD) : List Nat := stTo G.needs G.tasks.length G.order
theorem sfold_length (i : Nat) : ∀ (ks : List Nat) (L : List Nat), (ks.foldl (sStep i) L).length = L.length
  | [], _ => rfl
  | k :: ks, L => by rw [List.foldl_cons, sfold_length i ks]; simp [sStep]
theorem stTo_length (N : List Nat) (n : Nat) (O : List Nat) : (stTo N n O).length = n := by
  have : ∀ (O : List Nat) (L : List Nat), L.length = n → (O.foldl (fun L i => (elemsN (N.getD i 0)).foldl (sStep i) L) L).length = n := by
    intro O
    induction O with
    | nil => intro L h; exact h
    | cons i O ih => intro L h; exact ih _ (by rw [sfold_length]; exact h)
  exact this O _ (by simp)
def le1 (b : Nat) (L : List Nat) : Prop := ∀ i, L.getD i 0 ≤ b
theorem sStep_le {b i : Nat} {L : List Nat} (h : le1 b L) (k : Nat) : le1 (b + 1) (sStep i L k) := by
  intro j
  unfold sStep
  by_cases e : i = j
  · subst e
    by_cases hl : i < L.length
    · rw [List.getD_eq_getElem?_getD, List.getElem?_set_self hl, Option.getD_some]
      have := h i; have := h k
      omega
    · rw [List.set_eq_of_length_le (by omega)]
      exact Nat.le_succ_of_le (h i)
  · rw [List.getD_eq_getElem?_getD, List.getElem?_set_ne e, ← List.getD_eq_getElem?_getD]
    exact Nat.le_succ_of_le (h j)
theorem sfold_le {i : Nat} : ∀ (ks : List Nat) (b : Nat) (L : List Nat), le1 b L → le1 (b + ks.length) (ks.foldl (sStep i) L)
  | [], _, _, h => h
  | k :: ks, b, L, h => by
    have := sfold_le (i := i) ks (b + 1) _ (sStep_le (i := i) h k)
    rw [List.foldl_cons, List.length_cons, show b + (ks.length + 1) = b + 1 + ks.length by omega]
    exact this
theorem le1_mono {a b : Nat} {L : List Nat} (h : le1 a L) (hab : a ≤ b) : le1 b L := fun i => Nat.le_trans (h i) hab
theorem stTo_le (N : List Nat) (n : Nat) (O : List Nat) : le1 (O.length * 8) (stTo N n O) := by
  have : ∀ (O : List Nat) (b : Nat) (L : List Nat), le1 b L → le1 (b + O.length * 8) (O.foldl (fun L i => (elemsN (N.getD i 0)).foldl (sStep i) L) L) := by
    intro O
    induction O with
    | nil => intro b L h; simpa using h
    | cons i O ih =>
      intro b L h
      have h1 := le1_mono (sfold_le (i := i) (elemsN (N.getD i 0)) b L h) (show b + (elemsN (N.getD i 0)).length ≤ b + 8 by have := elemsN_length (N.getD i 0); omega)
      have := ih (b + 8) _ h1
      rw [List.length_cons, show b + (O.length + 1) * 8 = b + 8 + O.length * 8 by omega]
      exact this
  have := this O 0 (List.replicate n 0) (fun i => by rw [List.getD_eq_getElem?_getD, List.getElem?_replicate]; split <;> simp)
  simpa [stTo] using this
set_option maxRecDepth 100000 in
set_option maxHeartbeats 8000000 in
theorem stages_calls (b : Nat) (G : GD) (w : World) (hT : Tab w) (hg : IsG w b G) (ok : GOk G) :
    Calls Tryd.prog 91 #[.pointer (some ⟨b, 0, none⟩)] w fun e w' => ∃ v, e = .returned v ∧ (Kd.int .i64).R 3 w' w.heap.size (fun _ => True) v (up (stagesN G)) ∧ Below w.heap.size w w' := by
  have h8 := ok.n8
  have hsz := (size_calls b G w hg).mono (R' := fun e w' => e = .returned (.int .i64 (G.tasks.length : Int)) ∧ w' = w) (fun _ _ h => ⟨h.1, h.2.symm⟩)
  have hmk := run_make_ints G.tasks.length h8
  have HS := Aside0.mk (show SI w w.heap.size (w.heap.size + 1) G.tasks.length ((w.alloc (.cells (icells (List.replicate G.tasks.length 0)) 3)).alloc (.cells #[.slice (some ⟨w.heap.size, 0, none⟩) G.tasks.length G.tasks.length] 35)) (stTo G.needs G.tasks.length []) from
    ⟨cells_alloc (cells_new w _) _, by have h := Boxed.new (w.alloc (.cells (icells (List.replicate G.tasks.length 0)) 3)) 35 (.slice (some ⟨w.heap.size, 0, none⟩) G.tasks.length G.tasks.length); simpa using h, ((Below.refl w.heap.size w).alloc (Nat.le_refl _) _).alloc (by simp) _⟩)
  obtain ⟨Ao, co, hco0, _, hCo⟩ := hg.order
  have hco := (HS.out.below.cell (World.block_lt_of_cell? _ _ hco0)).trans hco0
  have HCo := Aside0.mk hCo
  have Hg := Aside0.mk hg
  have HT := Aside0.mk hT
  have OK := Aside0.mk ok
  clear hCo hco0 hg hT ok
  have HSZ : Aside0 (w.heap.size ≤ w.heap.size) := ⟨Nat.le_refl _⟩
  refine calls_marks Tryd.func91 rfl ?_
  simp only [Tryd.ntmps91, List.size_toArray, List.length_cons, List.length_nil, Nat.reduceAdd, Nat.reduceSub, Array.replicate_succ, Array.replicate_zero, List.push_toArray, List.append_toArray, List.nil_append, List.cons_append]
  go_wp2_with (go_at_call 78; refine hsz.mono ?_; rintro e w' ⟨rfl, hw⟩; rw [hw]; clear hw w')
  clear hco hsz hmk
  revert HS
  generalize (w.alloc (.cells (icells (List.replicate G.tasks.length 0)) 3)).alloc (.cells #[.slice (some ⟨w.heap.size, 0, none⟩) G.tasks.length G.tasks.length] 35) = w2
  intro HS
  generalize hpO : w.heap.size + 1 = pO at HS ⊢
  have HN := Aside0.mk (show w.heap.size ≠ pO from by omega)
  have HP := Aside0.mk (show w.heap.size ≤ pO from by omega)
  clear hpO
  refine wp_loop_ghost_k (fun n a W => ∃ pre suf, G.order = pre ++ suf ∧ n = suf.length ∧ a.tmps.size = 43 ∧ a.tmps[0]? = some (.pointer (some ⟨b, 0, none⟩)) ∧ a.tmps[3]? = some (.pointer (some ⟨pO, 0, none⟩)) ∧ a.tmps[13]? = some (.slice Ao G.order.length co) ∧ a.tmps[14]? = some (.int .i64 (G.order.length : Int)) ∧ a.tmps[15]? = some (.int .i64 (pre.length : Int)) ∧ (∃ hi, Marks w.heap.size hi W a.defers ∧ w.heap.size ≤ hi ∧ hi ≤ W.heap.size) ∧ SI w w.heap.size pO G.tasks.length W (stTo G.needs G.tasks.length pre)) G.order.length ⟨[], G.order, rfl, rfl, rfl, rfl, rfl, rfl, rfl, rfl, ⟨_, Marks.nil _ w2.heap.size _, HS.out.below.size, Nat.le_refl _⟩, HS.out⟩ ?_
  rintro n ⟨tmps, ds⟩ W ⟨pre, suf, hO_, rfl, hsz, h0, h3, h13, h14, h15, ⟨hi, hM, hlo, hhi⟩, hG⟩ J K hJ hK
  generalize hj : (pre.length : Int) = j at h15
  obtain ⟨f, rfl⟩ := sframe_lit hsz h0 h3 h13 h14 h15
  clear hsz h0 h3 h13 h14 h15 HS
  unfold sframe
  have hO' := Lib.hid hO_
  clear hO_
  have HM := Aside0.mk hM
  have HG := Aside0.mk hG
  clear hM hG
  cases suf with
  | nil =>
    have hlt : decide (j < (G.order.length : Int)) = false := by
      rw [← hj, hO'.out]; simp
    have hcb := HG.out.box.cell
    go_wp2
    refine leave_ret HM.out (fun W => results_tmp rfl _ _ _) ?_
    intro W' ht
    have hpre : pre = G.order := by rw [hO'.out]; simp
    have hG := HG.out.tame (Nat.le_refl _) ht
    have hl := stTo_length G.needs G.tasks.length pre
    refine ⟨_, rfl, ?_, hG.below⟩
    have hrow := hG.row
    rw [hpre] at hrow hl
    have hl' : (up (stagesN G)).length = G.tasks.length := by rw [up_length]; exact hl
    exact row_R (k := .i64) (xs := up (stagesN G)) ⟨by simp [encs], .inr ⟨w.heap.size, G.tasks.length, icells (stagesN G), by rw [hl']; rfl, Nat.le_refl _, hrow, by rw [hl']; exact Nat.le_refl _, by unfold maxLen; omega, by simp [icells]; exact hl, by rw [hl']; simp [icells, encs, up]; exact List.take_of_length_le (by rw [List.length_map]; exact Nat.le_of_eq hl)⟩⟩
  | cons i suf =>
    have hlt : decide (j < (G.order.length : Int)) = true := by
      rw [← hj, hO'.out]; simp; omega
    have q0 : j < (G.order.length : Int) := of_decide_eq_true hlt
    have p0 : 0 ≤ j := by omega
    obtain ⟨ad, e0, hx0⟩ := Kd.at_int (Kd.C_below HCo.out HG.out.below) j p0 q0
    subst e0
    rw [rd_up (i := pre.length) hj.symm] at hx0
    have hi0 : G.order.getD pre.length 0 = i := by rw [hO'.out]; simp
    rw [hi0] at hx0
    have hil : i < G.tasks.length := OK.out.ob i (by rw [hO'.out]; simp)
    generalize hxi : ((i : Nat) : Int) = xi at hx0
    replace p0 := eq_true p0
    replace q0 := eq_true q0
    go_wp2
    have hbi := Boxed.new W 3 (.int .i64 xi)
    have hG1 := HG.out.alloc (.cells #[.int .i64 xi] 3)
    have hM1 := HM.out.below ((Below.refl W.heap.size W).alloc (Nat.le_refl _) (.cells #[.int .i64 xi] 3))
    have hsz1 : (W.alloc (.cells #[.int .i64 xi] 3)).heap.size = W.heap.size + 1 := by simp
    clear hx0
    revert hbi hG1 hM1 hsz1
    generalize W.alloc (.cells #[.int .i64 xi] 3) = Wa
    intro hbi hG1 hM1 hsz1
    refine wp_region_still_tail 7 rfl (by kernel_rfl) ?_
    change wpStill _ _ Wa.drew (fun a' => wpList _ _ _ _ a' Wa.drew) _ _
    have hdr : Below Wa.heap.size Wa Wa.drew := below_drew (Below.refl _ _)
    revert hdr
    generalize Wa.drew = Wx
    intro hdr
    have hbi2 : Boxed Wx W.heap.size 3 (.int .i64 xi) := (hdr.block _ hbi.lt).trans hbi
    have hG2 := hG1.move hdr
    have hM2 := hM1.below hdr
    have hsz2 : W.heap.size + 1 ≤ Wx.heap.size := by have := hdr.size; omega
    clear hbi hG1 hM1 hsz1 hdr
    obtain ⟨An, cn, hcn, _, hCn⟩ := (Hg.out.move hG2.below).needs
    have hnl := OK.out.nl
    have p1 : 0 ≤ xi := by omega
    have q1 : xi < (G.needs.length : Int) := by omega
    obtain ⟨adn, e1, hxn⟩ := Kd.at_int hCn xi p1 q1
    subst e1
    rw [rd_up (i := i) hxi.symm] at hxn
    have hNi : G.needs.getD i 0 < 2 ^ G.tasks.length := getD_lt OK.out.nb i
    have hst := stTo_snoc G.needs G.tasks.length pre i
    generalize hs_ : G.needs.getD i 0 = s at hxn hNi hst
    have hci := hbi2.cell
    replace p1 := eq_true p1
    replace q1 := eq_true q1
    have HX := Aside0.mk hxi
    have HST := Aside0.mk hst
    have HJ := Aside0.mk hj
    clear hnl hCn hs_ hxi hst hj
    simp only [List.take_succ_cons, List.take_zero, List.drop_succ_cons, List.drop_zero]
    repeat still_step
    refine wpStill_nil ?_
    go_wp2_with (go_at_call 62; refine (all_calls s _).mono ?_; rintro e w' ⟨rfl, rfl⟩)
    clear hcn hxn hci p1 q1
    have hs3 := Boxed.new Wx 70 (.int .u16 (s : Int))
    have hbi3 := hbi2.alloc (.cells #[.int .u16 (s : Int)] 70)
    have hG3 := hG2.alloc (.cells #[.int .u16 (s : Int)] 70)
    have hM3 := hM2.below ((Below.refl Wx.heap.size Wx).alloc (Nat.le_refl _) (.cells #[.int .u16 (s : Int)] 70))
    have hsz3 : (Wx.alloc (.cells #[.int .u16 (s : Int)] 70)).heap.size = Wx.heap.size + 1 := by simp
    revert hs3 hbi3 hG3 hM3 hsz3
    generalize Wx.alloc (.cells #[.int .u16 (s : Int)] 70) = Wb
    intro hs3 hbi3 hG3 hM3 hsz3
    have h256 := pow8 h8
    have hb1 : w.heap.size ≤ Wb.heap.size := hG3.below.size
    have hb2 : hi ≤ Wb.heap.size := by omega
    refine wp_rangeSet Tab.tame (w := Wb) (w0 := Wb) (p := 27) (d := 6) rfl (enters_of Tryd.func101 (by kernel_rfl) rfl)
      (all_seq Wx.heap.size s (Nat.lt_of_lt_of_le hNi h256) Wb (HT.out.of hG3.below) hs3.cell) (Below.refl _ _) (by simp)
      (fun ys W' => ∃ zs : List Nat, (∀ z ∈ zs, z < G.tasks.length) ∧ ys = up zs ∧ SI w w.heap.size pO G.tasks.length W' (zs.foldl (sStep i) (stTo G.needs G.tasks.length pre)) ∧ Boxed W' W.heap.size 3 (.int .i64 xi) ∧ Marks w.heap.size hi W' ds ∧ Wb.heap.size ≤ W'.heap.size) (fun _ _ _ => False)
      (ownFrom_tame (fun ys W' W'' ht ⟨zs, z, a, b, c, d, e⟩ => ⟨zs, z, a, b.tame hb1 ht, ht.boxed c, d.tame ht hb2, Nat.le_trans e ht.size⟩)) (fun _ => ownFrom_tame (fun _ _ _ _ h => h))
      ⟨[], by simp, rfl, hG3, hbi3, hM3, Nat.le_refl _⟩ (fun ys W' ⟨_, _, _, b, _⟩ => HT.out.of b.below) ?body1 ?done1 (fun _ _ _ _ _ h _ => h.elim)
    case body1 =>
      rintro l pre1 x W1 hx ⟨zs, hzl, rfl, hG4, hbi4, hM4, hsz4⟩ hlt1
      gi_wp2
      obtain ⟨k0, hxk, hk0, _⟩ := mem_elems.1 hx
      have hkn : k0 < G.tasks.length := by have := elems_lt hNi hx; omega
      have hL1 : (zs.foldl (sStep i) (stTo G.needs G.tasks.length pre)).length = G.tasks.length := by rw [sfold_length, stTo_length]
      have hpl : pre.length ≤ 8 := by have h1 := OK.out.ol; rw [hO'.out] at h1; simp at h1; omega
      have hle := sfold_le (i := i) zs _ _ (stTo_le G.needs G.tasks.length pre)
      have hzl16 : zs.length < 16 := by rwa [up_length] at hlt1
      have hli := hle i
      have hlk := hle k0
      have hstep : (zs ++ [k0]).foldl (sStep i) (stTo G.needs G.tasks.length pre) = (zs.foldl (sStep i) (stTo G.needs G.tasks.length pre)).set i (max ((zs.foldl (sStep i) (stTo G.needs G.tasks.length pre)).getD i 0) ((zs.foldl (sStep i) (stTo G.needs G.tasks.length pre)).getD k0 0 + 1)) := by rw [List.foldl_append]; rfl
      refine wpIn_still_tail 13 rfl (by kernel_rfl) (by kernel_rfl) (fun ⟨_, _, h⟩ => h) ?_
      change wpStill _ _ W1.drew (fun a' => wpList _ _ _ _ a' W1.drew) _ _
      have hdr : Below W1.heap.size W1 W1.drew := below_drew (Below.refl _ _)
      have hko := KeepsOthers.drew W1
      revert hdr hko
      generalize W1.drew = Wd
      intro hdr hko
      have hG5 := hG4.move hdr
      have hbi5 : Boxed Wd W.heap.size 3 (.int .i64 xi) := (hdr.block _ hbi4.lt).trans hbi4
      have hM5 := hM4.below hdr
      obtain ⟨ad5, had5⟩ : ∃ ad5 : Addr, ad5 = ⟨w.heap.size, 0, none⟩ := ⟨_, rfl⟩
      have hc10 : Wd.cell? ⟨pO, 0, none⟩ = some (.slice (some ad5) G.tasks.length G.tasks.length) := by rw [had5]; exact hG5.box.cell
      have hci := hbi5.cell
      have hLi := icell hG5.row i (by omega)
      have hLk := icell hG5.row k0 (by omega)
      have hfi := ifrozen hG5.row i
      have hxi := HX.out
      have hit : xi.toNat = i := by omega
      have hkt : x.toNat = k0 := by omega
      generalize (zs.foldl (sStep i) (stTo G.needs G.tasks.length pre)).getD i 0 = si at hLi hli hstep
      generalize (zs.foldl (sStep i) (stTo G.needs G.tasks.length pre)).getD k0 0 = sk at hLk hlk hstep
      have hmx : (if (si : Int) < IntKind.i64.wrap ((sk : Int) + 1) then IntKind.i64.wrap ((sk : Int) + 1) else (si : Int)) = ((max si (sk + 1) : Nat) : Int) := by
        rw [i64_w, w64 (n := (sk : Int) + 1) (by omega) (by omega)]
        split <;> omega
      generalize hsI : ((si : Nat) : Int) = sI at hLi hmx
      generalize hsK : ((sk : Nat) : Int) = sK at hLk hmx
      rw [← add_own, ← had5, ← hit] at hLi hfi
      rw [← add_own, ← had5, ← hkt] at hLk
      have p2 : (0 ≤ x) = True := eq_true (by omega)
      have q2 : (x < (G.tasks.length : Int)) = True := eq_true (by omega)
      have p3 : (0 ≤ xi) = True := eq_true (by omega)
      have q3 : (xi < (G.tasks.length : Int)) = True := eq_true (by omega)
      have HH := Aside0.mk (show x = (k0 : Int) ∧ xi.toNat = i ∧ ad5 = ⟨w.heap.size, 0, none⟩ from ⟨hxk, hit, had5⟩)
      have HSTEP := Aside0.mk hstep
      have HMX := Aside0.mk hmx
      clear hxk hit hkt had5 hsI hsK hxi hx hstep hmx hle hli hlk hlt1 hpl hzl16 hlt
      simp only [List.take_succ_cons, List.take_zero, List.drop_succ_cons, List.drop_zero]
      repeat still_step
      rw [HMX.out]
      refine wpStill_nil ?_
      go_wp2
      obtain ⟨hxk, hit, had5⟩ := HH.out
      rw [show ad5.add xi.toNat = ⟨w.heap.size, i, none⟩ by rw [had5, add_own, hit]]
      refine ⟨(hko.trans (KeepsOthers.setCell _ _ _)).from _, zs ++ [k0], ?_, ?_, ?_, ?_, ?_, ?_⟩
      · intro z hz
        rcases List.mem_append.1 hz with hz | hz
        · exact hzl z hz
        · rw [List.mem_singleton.1 hz]; exact hkn
      · rw [hxk]; simp [up]
      · rw [HSTEP.out]; exact hG5.set (Nat.le_refl _) (Ne.symm HN.out) i _
      · exact (sother _ (by have := cells_lt HG.out.row; omega)).trans hbi5
      · exact hM5.grow (grownBy_setCell'' _ _ _ _) (fun k hk => ⟨_, _, by cases hk; exact hG5.row⟩)
      · exact Nat.le_trans hsz4 (Nat.le_trans hdr.size (KeepsOthers.setCell _ _ _).size)
    case done1 =>
      rintro D W2 hD ⟨zs, hzl, hzs, hG4, hbi4, hM4, hsz4⟩ hk
      obtain rfl : elemsN s = zs := up_inj hzs
      have hM5 := hM4.cons (Nat.le_trans hb2 hD) hlo hk
      clear hzs hk hs3 hbi3 hG3 hM3
      go_wp2
      have hl8 : pre.length + suf.length + 1 ≤ 8 := by
        have h1 := OK.out.ol
        rw [hO'.out] at h1
        simp at h1
        omega
      have hj1 : wrap64 (j + 1) = ((pre ++ [i]).length : Int) := by
        have := HJ.out
        rw [w64 (n := j + 1) (by omega) (by omega), List.length_append]
        simp
        omega
      refine ⟨suf.length, by simp, hJ _ _ _ ⟨pre ++ [i], suf, by rw [hO'.out]; simp, rfl, rfl, rfl, rfl, rfl, rfl, by rw [← hj1]; rfl, ⟨_, hM5, hG4.below.size, Nat.le_refl _⟩, ?_⟩⟩
      rw [HST.out]
      exact hG4
end Go.Proofs.YtekajandipdlhaaDoor.Core
end
section
set_option linter.unusedVariables false
set_option linter.unusedSimpArgs false
namespace Go.Proofs.YtekajandipdlhaaDoor.Core
open Go Go.RowKit Go.Proofs.YtekajandipdlhaaDoorW.PrintWords Go.Proofs.YtekajandipdlhaaDoorW.PrintMore Go.Proofs.YtekajandipdlhaaDoor.P
abbrev big : Nat := 4611686018427387904
theorem w64s {n : Nat} (h : n < big) : wrap64 ((n : Int) + 1) = ((n + 1 : Nat) : Int) := by rw [w64 (by omega) (by unfold big at h; omega)]; omega
theorem inRange_eq (x a b : Int) : spec_inRange.f x a b = some (decide (a ≤ x ∧ x ≤ b)) := by
  unfold spec_inRange.f
  by_cases h : a ≤ x
  · rw [if_pos h]; simp; omega
  · rw [if_neg h]; simp; omega
theorem copyInts_eq {l : List Int} (h : l.length < big) (h2 : l.length < 17592186044416) : spec_copyInts.f l = some l := by
  unfold spec_copyInts.f
  simp [h2]
theorem ev_isIn_from (L : List Int) (x : Int) (hL : L.length < big) : ∀ (r pre : List Int), L = pre ++ r → Ev (fun k => spec_isIn.l0 k L x (pre.length : Int)) (decide (x ∈ r))
  | [], pre, hp => by
    refine Ev.succ ((Ev.const _).of fun k => ?_)
    rw [List.append_nil] at hp
    subst hp
    rw [spec_isIn.l0, if_neg (by omega)]
    simp
  | y :: r, pre, hp => by
    have hlen : L.length = pre.length + (r.length + 1) := by rw [hp]; simp
    have hrd : rd L (pre.length : Int) = y := by rw [hp]; exact rd_mid rfl
    refine Ev.succ ?_
    by_cases hy : y = x
    · refine (Ev.const _).of fun k => ?_
      rw [spec_isIn.l0, if_pos (by omega), if_pos (by omega), hrd, if_pos hy]
      simp [hy]
    · have ih := ev_isIn_from L x hL r (pre ++ [y]) (by rw [hp]; simp)
      have e : decide (x ∈ y :: r) = decide (x ∈ r) := by
        have : x ≠ y := fun h => hy h.symm
        simp [this]
      rw [e]
      refine ih.of fun k => ?_
      rw [spec_isIn.l0, if_pos (by omega), if_pos (by omega), hrd, if_neg hy, w64s (by omega)]
      simp
theorem ev_isIn {L : List Int} (hL : L.length < big) (x : Int) : Ev (fun k => spec_isIn.f k L x) (decide (x ∈ L)) := ev_isIn_from L x hL L [] rfl
theorem ev_allIn_from (L : List Int) (a b : Int) (hL : L.length < big) : ∀ (r pre : List Int), L = pre ++ r → Ev (fun k => spec_allIn.l0 k L a b (pre.length : Int)) (decide (∀ x ∈ r, a ≤ x ∧ x ≤ b))
  | [], pre, hp => by
    refine Ev.succ ((Ev.const _).of fun k => ?_)
    rw [List.append_nil] at hp
    subst hp
    rw [spec_allIn.l0, if_neg (by omega)]
    simp
  | y :: r, pre, hp => by
    have hlen : L.length = pre.length + (r.length + 1) := by rw [hp]; simp
    have hrd : rd L (pre.length : Int) = y := by rw [hp]; exact rd_mid rfl
    refine Ev.succ ?_
    by_cases hy : a ≤ y ∧ y ≤ b
    · have ih := ev_allIn_from L a b hL r (pre ++ [y]) (by rw [hp]; simp)
      have e : decide (∀ x ∈ y :: r, a ≤ x ∧ x ≤ b) = decide (∀ x ∈ r, a ≤ x ∧ x ≤ b) := by simp [hy]
      rw [e]
      refine ih.of fun k => ?_
      rw [spec_allIn.l0, if_pos (by omega), if_pos (by omega), hrd, inRange_eq, decide_eq_true hy, Option.bind_some, if_pos rfl, w64s (by omega)]
      simp
    · refine (Ev.const _).of fun k => ?_
      rw [spec_allIn.l0, if_pos (by omega), if_pos (by omega), hrd, inRange_eq, decide_eq_false hy, Option.bind_some, if_neg (by simp)]
      simp only [Option.some.injEq]
      rw [eq_comm, decide_eq_false_iff_not]
      exact fun h => hy (h y List.mem_cons_self)
theorem ev_allIn {L : List Int} (hL : L.length < big) (a b : Int) : Ev (fun k => spec_allIn.f k L a b) (decide (∀ x ∈ L, a ≤ x ∧ x ≤ b)) := ev_allIn_from L a b hL L [] rfl
def ascD : List Int → Bool
  | [] => true
  | [_] => true
  | x :: y :: r => decide (x < y) && ascD (y :: r)
theorem ev_asc_from (L : List Int) (hL : L.length < big) : ∀ (r pre : List Int) (x : Int), L = pre ++ x :: r → Ev (fun k => spec_ascends.l0 k L ((pre.length + 1 : Nat) : Int)) (ascD (x :: r))
  | [], pre, x, hp => by
    have hlen : L.length = pre.length + 1 := by rw [hp]; simp
    refine Ev.succ ((Ev.const _).of fun k => ?_)
    rw [spec_ascends.l0, if_neg (by omega)]
    rfl
  | y :: r, pre, x, hp => by
    have hlen : L.length = pre.length + (r.length + 1 + 1) := by rw [hp]; simp
    have hw : wrap64 (((pre.length + 1 : Nat) : Int) - 1) = (pre.length : Int) := by rw [w64 (by omega) (by unfold big at hL; omega)]; omega
    have hrd : rd L (pre.length : Int) = x := by rw [hp]; exact rd_mid rfl
    have hrd2 : rd L ((pre.length + 1 : Nat) : Int) = y := by
      have : L = (pre ++ [x]) ++ y :: r := by rw [hp]; simp
      rw [this]; exact rd_mid (by simp)
    refine Ev.succ ?_
    by_cases hy : x < y
    · have ih := ev_asc_from L hL r (pre ++ [x]) y (by rw [hp]; simp)
      have e : ascD (x :: y :: r) = ascD (y :: r) := by simp [ascD, hy]
      rw [e]
      refine ih.of fun k => ?_
      rw [spec_ascends.l0, if_pos (by omega), if_pos (by omega), hw, if_pos (by omega), if_pos (by omega), hrd, hrd2, if_neg (by omega), w64s (by omega)]
      simp
    · have e : ascD (x :: y :: r) = false := by simp [ascD, hy]
      rw [e]
      refine (Ev.const _).of fun k => ?_
      rw [spec_ascends.l0, if_pos (by omega), if_pos (by omega), hw, if_pos (by omega), if_pos (by omega), hrd, hrd2, if_pos (by omega)]
theorem ev_ascends {L : List Int} (hL : L.length < big) : Ev (fun k => spec_ascends.f k L) (ascD L) := by
  cases L with
  | nil =>
    refine Ev.of (Ev.succ ((Ev.const true).of (g := fun k => spec_ascends.l0 (k + 1) [] 1) fun k => ?_)) (fun k => rfl)
    rw [spec_ascends.l0, if_neg (by simp)]
  | cons x r => exact ev_asc_from (x :: r) hL r [] x rfl
theorem ev_allDone_from (L M : List Int) (hL : L.length < big) (hM : M.length < big) : ∀ (r pre : List Int), L = pre ++ r → Ev (fun k => spec_allDone.l0 k L M (pre.length : Int)) (decide (∀ x ∈ r, x ∈ M))
  | [], pre, hp => by
    refine Ev.succ ((Ev.const _).of fun k => ?_)
    rw [List.append_nil] at hp
    subst hp
    rw [spec_allDone.l0, if_neg (by omega)]
    simp
  | y :: r, pre, hp => by
    have hlen : L.length = pre.length + (r.length + 1) := by rw [hp]; simp
    have hrd : rd L (pre.length : Int) = y := by rw [hp]; exact rd_mid rfl
    have hi := ev_isIn hM y
    refine Ev.succ ?_
    by_cases hy : y ∈ M
    · have ih := ev_allDone_from L M hL hM r (pre ++ [y]) (by rw [hp]; simp)
      have e : decide (∀ x ∈ y :: r, x ∈ M) = decide (∀ x ∈ r, x ∈ M) := by simp [hy]
      rw [e]
      rw [decide_eq_true hy] at hi
      refine (hi.bind (g := fun k t => if t = true then spec_allDone.l0 k L M ((pre ++ [y]).length : Int) else some false) (ih.of fun k => if_pos rfl)).of fun k => ?_
      rw [spec_allDone.l0, if_pos (by omega), if_pos (by omega), hrd, w64s (by omega)]
      simp
    · have e : decide (∀ x ∈ y :: r, x ∈ M) = false := by
        rw [decide_eq_false_iff_not]
        exact fun h => hy (h y List.mem_cons_self)
      rw [e]
      rw [decide_eq_false hy] at hi
      refine (hi.bind (g := fun k t => if t = true then spec_allDone.l0 k L M ((pre ++ [y]).length : Int) else some false) ((Ev.const false).of fun k => if_neg (by simp))).of fun k => ?_
      rw [spec_allDone.l0, if_pos (by omega), if_pos (by omega), hrd, w64s (by omega)]
      simp
theorem ev_allDone {L M : List Int} (hL : L.length < big) (hM : M.length < big) : Ev (fun k => spec_allDone.f k L M) (decide (∀ x ∈ L, x ∈ M)) := ev_allDone_from L M hL hM L [] rfl
def needsOk (n : Nat) (l : List Int) : Prop := (∀ x ∈ l, 0 ≤ x ∧ x ≤ (n : Int) - 1) ∧ ascD l = true
instance (n : Nat) (l : List Int) : Decidable (needsOk n l) := by unfold needsOk; infer_instance
theorem ev_validTask {t : Tk} (ht : t.f1.length < big) {n : Nat} (hn : n < big) : Ev (fun k => spec_validTask.f k t.f0 t.f1 t.f2 t.f3 (n : Int)) (decide (taskOk t ∧ needsOk n t.f1)) := by
  have hw : wrap64 ((n : Int) - 1) = (n : Int) - 1 := w64 (by omega) (by unfold big at hn; omega)
  have hA := ev_allIn ht 0 ((n : Int) - 1)
  have hB := ev_ascends ht
  by_cases h1 : 1 ≤ t.f0 ∧ t.f0 ≤ 20
  · by_cases h2 : 0 ≤ t.f2 ∧ t.f2 ≤ 2
    · by_cases h3 : 1 ≤ t.f3 ∧ t.f3 ≤ 4
      · have hok : taskOk t := ⟨h1, h2, h3⟩
        have hu : ∀ k, spec_validTask.f k t.f0 t.f1 t.f2 t.f3 (n : Int) = (spec_allIn.f k t.f1 0 ((n : Int) - 1)).bind fun t113 => (if t113 = true then ((spec_ascends.f k t.f1).bind fun t114 => (some t114)) else (some false)) := by
          intro k
          unfold spec_validTask.f
          rw [inRange_eq, inRange_eq, inRange_eq, decide_eq_true h1, decide_eq_true h2, decide_eq_true h3, hw]
          rfl
        refine Ev.of ?_ hu
        refine (hA.bind (g := fun k t113 => if t113 = true then ((spec_ascends.f k t.f1).bind fun t114 => (some t114)) else (some false)) (b := decide (taskOk t ∧ needsOk n t.f1)) ?_)
        by_cases h4 : ∀ x ∈ t.f1, 0 ≤ x ∧ x ≤ (n : Int) - 1
        · rw [decide_eq_true h4]
          have e : decide (taskOk t ∧ needsOk n t.f1) = ascD t.f1 := by
            cases h5 : ascD t.f1
            · rw [decide_eq_false_iff_not]; intro h; have := h.2.2; rw [h5] at this; cases this
            · rw [decide_eq_true_eq]; exact ⟨hok, h4, h5⟩
          rw [e]
          refine (hB.bind (g := fun _ t114 => some t114) (Ev.const _)).of fun k => ?_
          rw [if_pos rfl]
        · rw [decide_eq_false h4]
          have e : decide (taskOk t ∧ needsOk n t.f1) = false := by rw [decide_eq_false_iff_not]; exact fun h => h4 h.2.1
          rw [e]
          exact (Ev.const false).of fun k => if_neg (by simp)
      · have e : decide (taskOk t ∧ needsOk n t.f1) = false := by rw [decide_eq_false_iff_not]; exact fun h => h3 h.1.2.2
        rw [e]
        refine (Ev.const false).of fun k => ?_
        unfold spec_validTask.f
        rw [inRange_eq, inRange_eq, inRange_eq, decide_eq_true h1, decide_eq_true h2, decide_eq_false h3]
        rfl
    · have e : decide (taskOk t ∧ needsOk n t.f1) = false := by rw [decide_eq_false_iff_not]; exact fun h => h2 h.1.2.1
      rw [e]
      refine (Ev.const false).of fun k => ?_
      unfold spec_validTask.f
      rw [inRange_eq, inRange_eq, decide_eq_true h1, decide_eq_false h2]
      rfl
  · have e : decide (taskOk t ∧ needsOk n t.f1) = false := by rw [decide_eq_false_iff_not]; exact fun h => h1 h.1.1
    rw [e]
    refine (Ev.const false).of fun k => ?_
    unfold spec_validTask.f
    rw [inRange_eq, decide_eq_false h1]
    rfl
/-- All lists are of a size that fits. -/
def Fits (g : List Tk) : Prop := g.length < big ∧ ∀ t ∈ g, t.f1.length < big
theorem ev_tasksFine_from (g : List Tk) (hg : Fits g) : ∀ (r pre : List Tk), g = pre ++ r → Ev (fun k => spec_tasksFine.l0 k g (pre.length : Int)) (decide ((∀ t ∈ r, taskOk t ∧ needsOk g.length t.f1) ∧ g.length ≤ 8))
  | [], pre, hp => by
    refine Ev.succ ((Ev.const _).of fun k => ?_)
    rw [List.append_nil] at hp
    subst hp
    rw [spec_tasksFine.l0, if_neg (by omega)]
    congr 1
    rw [decide_eq_decide]
    constructor
    · intro h; exact ⟨by simp, by omega⟩
    · intro h; omega
  | t :: r, pre, hp => by
    have hlen : g.length = pre.length + (r.length + 1) := by rw [hp]; simp
    have hbig := hg.1
    have hrd : rd_T37 g (pre.length : Int) = t := by rw [hp]; exact rdT_mid rfl
    have hv := ev_validTask (hg.2 t (by rw [hp]; simp)) hg.1
    refine Ev.succ ?_
    by_cases hy : taskOk t ∧ needsOk g.length t.f1
    · have ih := ev_tasksFine_from g hg r (pre ++ [t]) (by rw [hp]; simp)
      have e : decide ((∀ t' ∈ t :: r, taskOk t' ∧ needsOk g.length t'.f1) ∧ g.length ≤ 8) = decide ((∀ t ∈ r, taskOk t ∧ needsOk g.length t.f1) ∧ g.length ≤ 8) := by simp [hy]
      rw [e]
      rw [decide_eq_true hy] at hv
      refine (hv.bind (g := fun k b => if b = true then spec_tasksFine.l0 k g ((pre ++ [t]).length : Int) else some false) (ih.of fun k => if_pos rfl)).of fun k => ?_
      rw [spec_tasksFine.l0, if_pos (by omega), if_pos (by omega), hrd, w64s (by omega)]
      simp
    · have e : decide ((∀ t' ∈ t :: r, taskOk t' ∧ needsOk g.length t'.f1) ∧ g.length ≤ 8) = false := by
        rw [decide_eq_false_iff_not]
        exact fun h => hy (h.1 t List.mem_cons_self)
      rw [e]
      rw [decide_eq_false hy] at hv
      refine (hv.bind (g := fun k b => if b = true then spec_tasksFine.l0 k g ((pre ++ [t]).length : Int) else some false) ((Ev.const false).of fun k => if_neg (by simp))).of fun k => ?_
      rw [spec_tasksFine.l0, if_pos (by omega), if_pos (by omega), hrd, w64s (by omega)]
      simp
def fineD (g : List Tk) : Prop := (∀ t ∈ g, taskOk t ∧ needsOk g.length t.f1) ∧ g.length ≤ 8
instance (g : List Tk) : Decidable (fineD g) := by unfold fineD; infer_instance
theorem ev_tasksFine {g : List Tk} (hg : Fits g) : Ev (fun k => spec_tasksFine.f k g) (decide (fineD g)) := ev_tasksFine_from g hg g [] rfl
end Go.Proofs.YtekajandipdlhaaDoor.Core
end
section
set_option linter.unusedVariables false
set_option linter.unusedSimpArgs false
namespace Go.Proofs.YtekajandipdlhaaDoor.Core
open Go Go.RowKit Go.Proofs.YtekajandipdlhaaDoorW.PrintWords Go.Proofs.YtekajandipdlhaaDoorW.PrintMore Go.Proofs.YtekajandipdlhaaDoor.P
theorem asc_lt : ∀ {r : List Int} {x : Int}, ascD (x :: r) = true → ascD r = true ∧ ∀ y ∈ r, x < y
  | [], x, _ => ⟨rfl, by simp⟩
  | y :: r, x, h => by
    simp only [ascD, Bool.and_eq_true, decide_eq_true_eq] at h
    have h2 := asc_lt h.2
    refine ⟨h.2, fun z hz => ?_⟩
    rcases List.mem_cons.1 hz with rfl | hz
    · exact h.1
    · have := h2.2 z hz; omega
theorem asc_mk {r : List Int} {x : Int} (h : ascD r = true) (h2 : ∀ y ∈ r, x < y) : ascD (x :: r) = true := by
  cases r with
  | nil => rfl
  | cons y r => simp [ascD, h, h2 y List.mem_cons_self]
theorem setGo_some {n : Nat} : ∀ {r : List Int} {s : Nat} {last : Int} {t : Nat}, -1 ≤ last → setGo n r s last = some t → (∀ x ∈ r, last + 1 ≤ x ∧ x ≤ (n : Int) - 1) ∧ ascD r = true ∧ ∀ i : Nat, t.testBit i = (s.testBit i || decide ((i : Int) ∈ r))
  | [], s, last, t, hl, h => by
    rw [setGo] at h
    cases h
    exact ⟨by simp, rfl, by simp⟩
  | x :: r, s, last, t, hl, h => by
    rw [setGo] at h
    by_cases hx : last + 1 ≤ x ∧ x ≤ (n : Int) - 1
    · rw [if_pos hx] at h
      obtain ⟨h1, h2, h3⟩ := setGo_some (by omega) h
      refine ⟨fun y hy => ?_, asc_mk h2 (fun y hy => by have := h1 y hy; omega), fun i => ?_⟩
      · rcases List.mem_cons.1 hy with rfl | hy
        · exact hx
        · have := h1 y hy; omega
      · rw [h3, or_bit]
        have : decide (x.toNat = i) = decide ((i : Int) = x) := by rw [decide_eq_decide]; omega
        rw [this]
        by_cases e : (i : Int) = x
        · simp [e]
        · simp [e]
    · rw [if_neg hx] at h; cases h
theorem setGo_ok {n : Nat} : ∀ {r : List Int} (s : Nat) {last : Int}, (∀ x ∈ r, last + 1 ≤ x ∧ x ≤ (n : Int) - 1) → ascD r = true → ∃ t, setGo n r s last = some t
  | [], s, last, _, _ => ⟨s, rfl⟩
  | x :: r, s, last, h, ha => by
    have h2 := asc_lt ha
    have hx := h x List.mem_cons_self
    rw [setGo, if_pos hx]
    exact setGo_ok _ (fun y hy => ⟨by have := h2.2 y hy; omega, (h y (List.mem_cons_of_mem _ hy)).2⟩) h2.1
theorem setD_some {n : Nat} {l : List Int} {t : Nat} (h : setD n l = some t) : needsOk n l ∧ ∀ i : Nat, t.testBit i = decide ((i : Int) ∈ l) := by
  obtain ⟨h1, h2, h3⟩ := setGo_some (by omega) h
  exact ⟨⟨fun x hx => by have := h1 x hx; omega, h2⟩, fun i => by rw [h3]; simp⟩
theorem setD_ok {n : Nat} {l : List Int} (h : needsOk n l) : ∃ t, setD n l = some t := setGo_ok 0 (fun x hx => by have := h.1 x hx; omega) h.2
theorem needsGo_ok {n : Nat} : ∀ {r : List Tk}, (∀ t ∈ r, taskOk t ∧ needsOk n t.f1) → ∃ N, needsGo n r = some N
  | [], _ => ⟨[], rfl⟩
  | t :: r, h => by
    obtain ⟨s, hs⟩ := setD_ok (h t List.mem_cons_self).2
    obtain ⟨N, hN⟩ := needsGo_ok (fun t' ht => h t' (List.mem_cons_of_mem _ ht))
    rw [needsGo, hs]
    simp only [(h t List.mem_cons_self).1, if_true, hN]
    exact ⟨_, rfl⟩
theorem needsGo_fine {n : Nat} : ∀ {r : List Tk} {N : List Nat}, needsGo n r = some N → (∀ t ∈ r, taskOk t ∧ needsOk n t.f1) ∧ ∀ i, i < r.length → ∀ j : Nat, (N.getD i 0).testBit j = decide ((j : Int) ∈ (r.getD i z37).f1)
  | [], N, h => ⟨by simp, by intro i hi; simp at hi⟩
  | t :: r, N, h => by
    rw [needsGo] at h
    cases he : setD n t.f1 with
    | none => rw [he] at h; cases h
    | some s =>
      rw [he] at h
      by_cases hok : taskOk t
      · simp only [hok, if_true] at h
        cases hg : needsGo n r with
        | none => rw [hg] at h; cases h
        | some M =>
          rw [hg] at h
          cases h
          have ih := needsGo_fine hg
          have hs := setD_some he
          refine ⟨fun t' ht => ?_, fun i hi j => ?_⟩
          · rcases List.mem_cons.1 ht with rfl | ht
            · exact ⟨hok, hs.1⟩
            · exact ih.1 t' ht
          · cases i with
            | zero => simpa using hs.2 j
            | succ i => simpa using ih.2 i (by simpa using hi) j
      · simp [hok] at h
theorem needsD_fine {g : List Tk} {N : List Nat} (h : needsD g = some N) : fineD g ∧ ∀ i, i < g.length → ∀ j : Nat, (N.getD i 0).testBit j = decide ((j : Int) ∈ (g.getD i z37).f1) := by
  have h8 := (needsD_spec h).1
  unfold needsD at h
  rw [if_pos h8] at h
  have := needsGo_fine h
  exact ⟨⟨this.1, h8⟩, this.2⟩
theorem fineD_needs {g : List Tk} (h : fineD g) : ∃ N, needsD g = some N := by
  unfold needsD
  rw [if_pos h.2]
  exact needsGo_ok h.1
theorem sub_zero {a b : Nat} (ha : a < 256) (hb : b < 256) : sub a b = 0 ↔ ∀ j, a.testBit j = true → b.testBit j = true := by
  constructor
  · intro h j hj
    have := sub_testBit (i := j) ha hb
    rw [h, hj] at this
    simpa using this
  · intro h
    apply Nat.eq_of_testBit_eq
    intro j
    rw [sub_testBit ha hb, Nat.zero_testBit]
    cases e : a.testBit j
    · rfl
    · rw [h j e]; rfl
theorem mem_up {L : List Nat} {i : Nat} : (i : Int) ∈ up L ↔ i ∈ L := by
  unfold up
  rw [List.mem_map]
  constructor
  · rintro ⟨a, ha, e⟩
    have : a = i := Int.ofNat.inj e
    exact this ▸ ha
  · intro h
    exact ⟨i, h, rfl⟩
/-- All needs of a task are among some, said both ways. -/
theorem done_iff {g : List Tk} {N : List Nat} (hN : needsD g = some N) {L : List Nat} {d : Nat} (hd : d < 256) (hs : ∀ i, d.testBit i = true ↔ i ∈ L) {i : Nat} (hi : i < g.length) : (∀ x ∈ (g.getD i z37).f1, x ∈ up L) ↔ sub (N.getD i 0) d = 0 := by
  obtain ⟨h8, hl, hb⟩ := needsD_spec hN
  obtain ⟨hf, hbit⟩ := needsD_fine hN
  rw [sub_zero (Nat.lt_of_lt_of_le (getD_lt hb i) (pow8 h8)) hd]
  constructor
  · intro h j hj
    rw [hbit i hi j, decide_eq_true_eq] at hj
    exact (hs j).2 (mem_up.1 (h _ hj))
  · intro h x hx
    have hmem : g.getD i z37 ∈ g := by
      rw [List.getD_eq_getElem?_getD, List.getElem?_eq_getElem hi]
      exact List.getElem_mem hi
    have h0 := (hf.1 _ hmem).2.1 x hx
    obtain ⟨j, rfl⟩ : ∃ j : Nat, x = (j : Int) := ⟨x.toNat, by omega⟩
    refine mem_up.2 ((hs j).1 (h j ?_))
    rw [hbit i hi j, decide_eq_true_eq]
    exact hx
theorem rdT_nat (g : List Tk) (i : Nat) : rd_T37 g (i : Int) = g.getD i z37 := by simp [rd_T37]
theorem getD_mem {g : List Tk} {i : Nat} (hi : i < g.length) : g.getD i z37 ∈ g := by
  rw [List.getD_eq_getElem?_getD, List.getElem?_eq_getElem hi]
  exact List.getElem_mem hi
theorem ev_top_found {g : List Tk} (hg : Fits g) (L : List Nat) (hL : L.length ≤ 100) (j : Nat) (i : Int) (R : List Int) (h : Ev (fun k => spec_topOrder.l0 k g (up (L ++ [j]))) R) : Ev (fun k => spec_topOrder.l1 k g (up L) (j : Int) i) R := by
  have e : up (L ++ [j]) = up L ++ [(j : Int)] := by simp [up]
  have h2 : Ev (fun k => spec_topOrder.j2 k g (up L) (j : Int) i false) R := by
    refine Ev.succ (h.of fun k => ?_)
    rw [spec_topOrder.j2, if_neg (by simp), if_neg (by omega), if_pos (by rw [up_length]; omega), e]
  refine Ev.succ (h2.of fun k => ?_)
  rw [spec_topOrder.l1, show decide ((j : Int) < 0) = false by simp]
  split <;> rfl
theorem ev_top_scan {g : List Tk} (hg : Fits g) {N : List Nat} (hN : needsD g = some N) (L : List Nat) (d : Nat) (hL : L.length ≤ 100) (hd : d < 256) (hs : ∀ i, d.testBit i = true ↔ i ∈ L) (R : Option Nat → List Int) (hR : R none = up L) : ∀ (m i : Nat), i + m = g.length →
    (∀ j, nextFrom N d i m = some j → Ev (fun k => spec_topOrder.l0 k g (up (L ++ [j]))) (R (some j))) → Ev (fun k => spec_topOrder.l1 k g (up L) (-1) (i : Int)) (R (nextFrom N d i m))
  | 0, i, hi, ho => by
    rw [nextFrom, hR]
    refine Ev.succ ?_
    have h2 : Ev (fun k => spec_topOrder.j2 k g (up L) (-1) (i : Int) false) (up L) := by
      refine Ev.succ ((Ev.const _).of fun k => ?_)
      rw [spec_topOrder.j2, if_neg (by simp), if_pos (by omega)]
    refine h2.of fun k => ?_
    rw [spec_topOrder.l1, if_neg (by omega)]
  | m + 1, i, hi, ho => by
    have hig : i < g.length := by omega
    have h8 := (needsD_spec hN).1
    have hin := ev_isIn (L := up L) (by rw [up_length]; unfold big; omega) (i : Int)
    have hdn := ev_allDone (L := (g.getD i z37).f1) (M := up L) (hg.2 _ (getD_mem hig)) (by rw [up_length]; unfold big; omega)
    have e1 : decide ((i : Int) ∈ up L) = d.testBit i := by
      rw [Bool.eq_iff_iff, decide_eq_true_eq, mem_up, hs]
    have e2 : decide (∀ x ∈ (g.getD i z37).f1, x ∈ up L) = decide (sub (N.getD i 0) d = 0) := by
      rw [decide_eq_decide]; exact done_iff hN hd hs hig
    rw [e1] at hin
    rw [e2] at hdn
    have hw : wrap64 ((i : Int) + 1) = ((i + 1 : Nat) : Int) := w64s (by unfold big; omega)
    refine Ev.succ ?_
    have hj2 : Ev (fun k => spec_topOrder.j2 k g (up L) (-1) (i : Int) true) (R (nextFrom N d i (m + 1))) := by
      refine Ev.succ ?_
      have hu : ∀ k, spec_topOrder.j2 (k + 1) g (up L) (-1) (i : Int) true = (spec_isIn.f k (up L) (i : Int)).bind fun t126 => (if t126 = true then (spec_topOrder.l1 k g (up L) (-1) ((i + 1 : Nat) : Int)) else ((spec_allDone.f k (g.getD i z37).f1 (up L)).bind fun t128 => (if t128 = true then (spec_topOrder.l1 k g (up L) (i : Int) ((i + 1 : Nat) : Int)) else (spec_topOrder.l1 k g (up L) (-1) ((i + 1 : Nat) : Int))))) := by
        intro k
        rw [spec_topOrder.j2, if_pos rfl, hw, if_pos (show 0 ≤ (i : Int) by omega), if_pos (show (i : Int) < (g.length : Int) by omega), rdT_nat]
      refine Ev.of ?_ hu
      refine hin.bind (g := fun k t126 => (if t126 = true then (spec_topOrder.l1 k g (up L) (-1) ((i + 1 : Nat) : Int)) else ((spec_allDone.f k (g.getD i z37).f1 (up L)).bind fun t128 => (if t128 = true then (spec_topOrder.l1 k g (up L) (i : Int) ((i + 1 : Nat) : Int)) else (spec_topOrder.l1 k g (up L) (-1) ((i + 1 : Nat) : Int)))))) ?_
      cases hbit : d.testBit i with
      | true =>
        have hg2 : nextFrom N d i (m + 1) = nextFrom N d (i + 1) m := by rw [nextFrom, if_neg (by simp [hbit])]
        rw [hg2] at ho ⊢
        exact (ev_top_scan hg hN L d hL hd hs R hR m (i + 1) (by omega) ho).of fun k => if_pos rfl
      | false =>
        by_cases hz : sub (N.getD i 0) d = 0
        · have hg2 : nextFrom N d i (m + 1) = some i := by rw [nextFrom, if_pos ⟨hbit, hz⟩]
          rw [hg2]
          rw [decide_eq_true hz] at hdn
          have hf := ev_top_found hg L hL i ((i + 1 : Nat) : Int) _ (ho i hg2)
          refine (hdn.bind (g := fun k t128 => if t128 = true then (spec_topOrder.l1 k g (up L) (i : Int) ((i + 1 : Nat) : Int)) else (spec_topOrder.l1 k g (up L) (-1) ((i + 1 : Nat) : Int))) (hf.of fun k => if_pos rfl)).of fun k => ?_
          rw [if_neg (by simp)]
        · have hg2 : nextFrom N d i (m + 1) = nextFrom N d (i + 1) m := by rw [nextFrom, if_neg (fun h => hz h.2)]
          rw [hg2] at ho ⊢
          rw [decide_eq_false hz] at hdn
          have ih := ev_top_scan hg hN L d hL hd hs R hR m (i + 1) (by omega) ho
          refine (hdn.bind (g := fun k t128 => if t128 = true then (spec_topOrder.l1 k g (up L) (i : Int) ((i + 1 : Nat) : Int)) else (spec_topOrder.l1 k g (up L) (-1) ((i + 1 : Nat) : Int))) (ih.of fun k => if_neg (by simp))).of fun k => ?_
          rw [if_neg (by simp)]
    refine hj2.of fun k => ?_
    rw [spec_topOrder.l1, if_pos (by omega)]
    rfl
theorem orderGo_none {N : List Nat} {d : Nat} (h : nextD N d = none) : ∀ (m : Nat) (L : List Nat), orderGo N m L d = (L, d)
  | 0, L => rfl
  | m + 1, L => by rw [orderGo, h]; exact orderGo_none h m L
theorem next_zb {N : List Nat} {d j : Nat} (h : nextD N d = some j) : zb N.length (d ||| 2 ^ j) < zb N.length d := by
  have := nextD_spec h
  exact zb_lt this.2.1 this.1
theorem ev_top_go {g : List Tk} (hg : Fits g) {N : List Nat} (hN : needsD g = some N) : ∀ (m : Nat) (L : List Nat) (d : Nat), OrdOk N L d → zb N.length d ≤ m → Ev (fun k => spec_topOrder.l0 k g (up L)) (up (orderGo N m L d).1) := by
  obtain ⟨h8, hl, hb⟩ := needsD_spec hN
  have hb' : below1 N.length N := by rw [hl]; exact hb
  intro m
  induction m with
  | zero =>
    intro L d ok hz
    have hlt := Nat.lt_of_lt_of_le ok.dlt (pow8 (n := N.length) (by omega))
    have hnone : nextD N d = none := by
      cases h : nextD N d with
      | none => rfl
      | some j => have := next_zb h; omega
    have h := ev_top_scan hg hN L d (by have := ok.len; omega) hlt ok.set (fun _ => up L) rfl g.length 0 (by omega) (fun j hj => by
      have : nextD N d = some j := by unfold nextD; rw [hl]; exact hj
      rw [hnone] at this; cases this)
    refine Ev.succ (h.of fun k => ?_)
    rw [spec_topOrder.l0]
    rfl
  | succ m ih =>
    intro L d ok hz
    have hlt := Nat.lt_of_lt_of_le ok.dlt (pow8 (n := N.length) (by omega))
    have h := ev_top_scan hg hN L d (by have := ok.len; omega) hlt ok.set (fun o => match o with | some i => up (orderGo N m (L ++ [i]) (d ||| 2 ^ i)).1 | none => up L) rfl g.length 0 (by omega) (fun j hj => by
      have hj2 : nextD N d = some j := by unfold nextD; rw [hl]; exact hj
      have hsp := nextD_spec hj2
      have := next_zb hj2
      exact ih (L ++ [j]) (d ||| 2 ^ j) (ok.step (by omega) hb' hsp.1 hsp.2.1 hsp.2.2) (by omega))
    have e : (match nextFrom N d 0 g.length with | some i => up (orderGo N m (L ++ [i]) (d ||| 2 ^ i)).1 | none => up L) = up (orderGo N (m + 1) L d).1 := by
      rw [orderGo]
      have e2 : nextD N d = nextFrom N d 0 g.length := by unfold nextD; rw [hl]
      rw [e2]
      cases hx : nextFrom N d 0 g.length with
      | none => simp only []; rw [orderGo_none (by rw [e2]; exact hx)]
      | some i => rfl
    rw [← e]
    refine Ev.succ (h.of fun k => ?_)
    rw [spec_topOrder.l0]
    rfl
theorem ordOk_nil (N : List Nat) : OrdOk N [] 0 := ⟨by simp, by simp, Nat.two_pow_pos _, by simp, by rw [zb_zero]; simp, by simp⟩
theorem ev_topOrder {g : List Tk} (hg : Fits g) {N : List Nat} (hN : needsD g = some N) : Ev (fun k => spec_topOrder.f k g) (up (orderD N).1) :=
  ev_top_go hg hN N.length [] 0 (ordOk_nil N) (by rw [zb_zero]; exact Nat.le_refl _)
theorem zb_zero_full {n : Nat} : ∀ {m d : Nat}, zb m d = 0 → ∀ i, i < m → d.testBit i = true
  | 0, d, _, i, h => by omega
  | m + 1, d, h, i, hi => by
    simp only [zb] at h
    by_cases e : i = m
    · subst e
      cases hb : d.testBit i
      · simp [hb] at h
      · rfl
    · exact zb_zero_full (n := n) (m := m) (by omega) i (by omega)
theorem full_iff {N L : List Nat} {d : Nat} (ok : OrdOk N L d) : d = 2 ^ N.length - 1 ↔ L.length = N.length := by
  constructor
  · intro h
    have := ok.len
    rw [h, zb_full _ _ (Nat.le_refl _)] at this
    exact this
  · intro h
    have hz : zb N.length d = 0 := by have := ok.len; omega
    apply Nat.eq_of_testBit_eq
    intro i
    rw [Nat.testBit_two_pow_sub_one]
    by_cases hi : i < N.length
    · rw [zb_zero_full (n := 0) hz i hi]; simp [hi]
    · cases hb : d.testBit i
      · simp [hi]
      · exact absurd (ok.lt i ((ok.set i).1 hb)) hi
theorem ev_validGraph {g : List Tk} (hg : Fits g) : Ev (fun k => spec_validGraph.f k g) (graphD g).isSome := by
  have hf := ev_tasksFine hg
  unfold graphD
  by_cases h : fineD g
  · obtain ⟨N, hN⟩ := fineD_needs h
    obtain ⟨h8, hl, hb⟩ := needsD_spec hN
    rw [decide_eq_true h] at hf
    have ht := ev_topOrder hg hN
    have ok := orderD_ok (N := N) (by omega) (by rw [hl]; exact hb)
    have hfull := full_iff ok
    rw [hN]
    simp only []
    refine (hf.bind (g := fun k b => if b = true then ((spec_topOrder.f k g).bind fun t130 => (some ((t130.length : Int) == (g.length : Int)))) else some false) ?_).of fun k => rfl
    refine (ht.bind (g := fun k t130 => some ((t130.length : Int) == (g.length : Int))) (b := (if (orderD N).2 = 2 ^ g.length - 1 then some (mkG g N) else none).isSome) ((Ev.const _).of fun k => ?_)).of fun k => if_pos rfl
    rw [up_length]
    congr 1
    by_cases hd : (orderD N).2 = 2 ^ g.length - 1
    · rw [if_pos hd]
      have := hfull.1 (by rw [hl]; exact hd)
      simp [this, hl]
    · rw [if_neg hd]
      have : (orderD N).1.length ≠ g.length := fun e => hd (by rw [← hl]; exact hfull.2 (by omega))
      simp [this]
      omega
  · rw [decide_eq_false h] at hf
    have hn : needsD g = none := by
      cases e : needsD g with
      | none => rfl
      | some N => exact absurd (needsD_fine e).1 h
    rw [hn]
    refine (hf.bind (g := fun k b => if b = true then ((spec_topOrder.f k g).bind fun t130 => (some ((t130.length : Int) == (g.length : Int)))) else some false) ((Ev.const false).of fun k => if_neg (by simp))).of fun k => rfl
end Go.Proofs.YtekajandipdlhaaDoor.Core
end
section
set_option linter.unusedVariables false
set_option linter.unusedSimpArgs false
namespace Go.Proofs.YtekajandipdlhaaDoor.Core
open Go Go.RowKit Go.Proofs.YtekajandipdlhaaDoorW.PrintWords Go.Proofs.YtekajandipdlhaaDoorW.PrintMore Go.Proofs.YtekajandipdlhaaDoor.P
theorem Ev.pos {α : Type} {c : Prop} [Decidable c] {f g : Nat → Option α} {r : α} (hc : c) (h : Ev f r) : Ev (fun k => if c then f k else g k) r := h.of fun k => if_pos hc
theorem Ev.neg {α : Type} {c : Prop} [Decidable c] {f g : Nat → Option α} {r : α} (hc : ¬ c) (h : Ev g r) : Ev (fun k => if c then f k else g k) r := h.of fun k => if_neg hc
theorem Ev.sb {α β : Type} {g : Nat → α → Option β} {a : α} {b : β} (h : Ev (fun k => g k a) b) : Ev (fun k => (some a).bind (g k)) b := h.of fun k => rfl
theorem Ev.conv {α : Type} {f : Nat → Option α} {a b : α} (h : Ev f a) (e : a = b) : Ev f b := e ▸ h
def EvP {α : Type} (f : Nat → Option α) (Q : α → Prop) : Prop := ∃ r, Ev f r ∧ Q r
theorem EvP.ret {α : Type} {Q : α → Prop} {a : α} (h : Q a) : EvP (fun _ => some a) Q := ⟨a, Ev.const a, h⟩
theorem EvP.bind {α β : Type} {f : Nat → Option α} {g : Nat → α → Option β} {Q : α → Prop} {R : β → Prop} (h : EvP f Q) (h2 : ∀ a, Q a → EvP (fun k => g k a) R) : EvP (fun k => (f k).bind (g k)) R := by
  obtain ⟨a, h, q⟩ := h
  obtain ⟨b, h2, q2⟩ := h2 a q
  exact ⟨b, h.bind h2, q2⟩
theorem EvP.sb {α β : Type} {g : Nat → α → Option β} {a : α} {R : β → Prop} (h : EvP (fun k => g k a) R) : EvP (fun k => (some a).bind (g k)) R := h
theorem EvP.pos {α : Type} {c : Prop} [Decidable c] {f g : Nat → Option α} {Q : α → Prop} (hc : c) (h : EvP f Q) : EvP (fun k => if c then f k else g k) Q := by
  obtain ⟨r, h, q⟩ := h
  exact ⟨r, h.pos hc, q⟩
theorem EvP.neg {α : Type} {c : Prop} [Decidable c] {f g : Nat → Option α} {Q : α → Prop} (hc : ¬ c) (h : EvP g Q) : EvP (fun k => if c then f k else g k) Q := by
  obtain ⟨r, h, q⟩ := h
  exact ⟨r, h.neg hc, q⟩
theorem EvP.ite {α : Type} {c : Prop} [Decidable c] {f g : Nat → Option α} {Q : α → Prop} (h1 : c → EvP f Q) (h2 : ¬ c → EvP g Q) : EvP (fun k => if c then f k else g k) Q :=
  if hc : c then EvP.pos hc (h1 hc) else EvP.neg hc (h2 hc)
theorem EvP.succ {α : Type} {f : Nat → Option α} {Q : α → Prop} (h : EvP (fun k => f (k + 1)) Q) : EvP f Q := by
  obtain ⟨r, h, q⟩ := h
  exact ⟨r, h.succ, q⟩
theorem EvP.of {α : Type} {f g : Nat → Option α} {Q : α → Prop} (h : EvP f Q) (e : ∀ k, g k = f k) : EvP g Q := by
  obtain ⟨r, h, q⟩ := h
  exact ⟨r, h.of e, q⟩
theorem EvP.mono {α : Type} {f : Nat → Option α} {Q R : α → Prop} (h : EvP f Q) (hq : ∀ a, Q a → R a) : EvP f R := by
  obtain ⟨r, h, q⟩ := h
  exact ⟨r, h, hq r q⟩
theorem Ev.p {α : Type} {f : Nat → Option α} {r : α} {Q : α → Prop} (h : Ev f r) (q : Q r) : EvP f Q := ⟨r, h, q⟩
theorem EvP.ev {α : Type} {f : Nat → Option α} {r : α} (h : EvP f (fun x => x = r)) : Ev f r := by
  obtain ⟨r, h, rfl⟩ := h
  exact h
theorem Ev.bindP {α β : Type} {f : Nat → Option α} {g : Nat → α → Option β} {a : α} {R : β → Prop} (h : Ev f a) (h2 : EvP (fun k => g k a) R) : EvP (fun k => (f k).bind (g k)) R := by
  obtain ⟨b, h2, q2⟩ := h2
  exact ⟨b, h.bind h2, q2⟩
theorem i64_xor_nat (a b : Nat) (ha : a < 4611686018427387904) (hb : b < 4611686018427387904) : bits .xor .i64 (a : Int) (b : Int) = ((a ^^^ b : Nat) : Int) := by
  have hx : a ^^^ b < 2 ^ 62 := Nat.xor_lt_two_pow (by omega) (by omega)
  have h1 : (BitVec.ofInt 64 (a : Int)).toNat = a := by
    rw [BitVec.ofInt_natCast, BitVec.toNat_ofNat]; exact Nat.mod_eq_of_lt (by omega)
  have h2 : (BitVec.ofInt 64 (b : Int)).toNat = b := by
    rw [BitVec.ofInt_natCast, BitVec.toNat_ofNat]; exact Nat.mod_eq_of_lt (by omega)
  show IntKind.i64.wrap ((BitVec.ofInt 64 (a : Int) ^^^ BitVec.ofInt 64 (b : Int)).toNat : Int) = _
  rw [BitVec.toNat_xor, h1, h2, IntKind.wrap_i64]
  omega
theorem i64_xor (a b : Int) (ha : 0 ≤ a) (ha2 : a < 4294967296) (hb : 0 ≤ b) (hb2 : b < 4294967296) : 0 ≤ bits .xor .i64 a b ∧ bits .xor .i64 a b < 4294967296 := by
  obtain ⟨m, rfl⟩ := Int.eq_ofNat_of_zero_le ha
  obtain ⟨n, rfl⟩ := Int.eq_ofNat_of_zero_le hb
  rw [i64_xor_nat m n (by omega) (by omega)]
  have hx : m ^^^ n < 2 ^ 32 := Nat.xor_lt_two_pow (by omega) (by omega)
  omega
theorem tmod_lt {a n : Int} (ha : 0 ≤ a) (hn : 0 < n) : 0 ≤ Int.tmod a n ∧ Int.tmod a n < n := by
  rw [Int.tmod_eq_emod_of_nonneg ha]
  exact ⟨Int.emod_nonneg _ (by omega), Int.emod_lt_of_pos _ hn⟩
theorem tdiv_le {a n : Int} (ha : 0 ≤ a) (hn : 0 < n) : 0 ≤ Int.tdiv a n ∧ Int.tdiv a n ≤ a := by
  rw [Int.tdiv_eq_ediv_of_nonneg ha]
  exact ⟨Int.ediv_nonneg ha (by omega), Int.ediv_le_self _ ha⟩
end Go.Proofs.YtekajandipdlhaaDoor.Core
end
section
set_option linter.unusedVariables false
set_option linter.unusedSimpArgs false
namespace Go.Proofs.YtekajandipdlhaaDoor.Core
open Go Go.RowKit Go.Proofs.YtekajandipdlhaaDoorW.PrintWords Go.Proofs.YtekajandipdlhaaDoorW.PrintMore Go.Proofs.YtekajandipdlhaaDoor.P
theorem asc_ext : ∀ {a b : List Int}, ascD a = true → ascD b = true → (∀ x, x ∈ a ↔ x ∈ b) → a = b
  | [], [], _, _, _ => rfl
  | [], y :: b, _, _, h => by have := (h y).2 List.mem_cons_self; cases this
  | x :: a, [], _, _, h => by have := (h x).1 List.mem_cons_self; cases this
  | x :: a, y :: b, ha, hb, h => by
    have h1 := asc_lt ha
    have h2 := asc_lt hb
    have e : x = y := by
      rcases List.mem_cons.1 ((h x).1 List.mem_cons_self) with e | e
      · exact e
      · rcases List.mem_cons.1 ((h y).2 List.mem_cons_self) with e' | e'
        · exact e'.symm
        · have := h1.2 y e'
          have := h2.2 x e
          omega
    subst e
    rw [asc_ext h1.1 h2.1 (fun z => ⟨fun hz => ?_, fun hz => ?_⟩)]
    · rcases List.mem_cons.1 ((h z).1 (List.mem_cons_of_mem _ hz)) with e | e
      · have := h1.2 z hz; omega
      · exact e
    · rcases List.mem_cons.1 ((h z).2 (List.mem_cons_of_mem _ hz)) with e | e
      · have := h2.2 z hz; omega
      · exact e
theorem asc_filter (p : Nat → Bool) : ∀ (m i : Nat), ascD (up ((List.range' i m).filter p)) = true ∧ ∀ x ∈ up ((List.range' i m).filter p), (i : Int) ≤ x
  | 0, i => ⟨rfl, by simp [up]⟩
  | m + 1, i => by
    have ih := asc_filter p m (i + 1)
    rw [List.range'_succ, List.filter_cons]
    split
    · refine ⟨asc_mk ih.1 (fun y hy => by have := ih.2 y hy; show (i : Int) < y; omega), fun x hx => ?_⟩
      rcases List.mem_cons.1 hx with rfl | hx
      · exact Int.le_refl _
      · have := ih.2 x hx; omega
    · exact ⟨ih.1, fun x hx => by have := ih.2 x hx; omega⟩
theorem asc_elems (s : Nat) : ascD (up (elemsN s)) = true := by
  unfold elemsN
  rw [List.range_eq_range']
  exact (asc_filter (fun i => s.testBit i) 8 0).1
/-- A list of ascending numbers is its set's. -/
theorem set_list {n : Nat} (hn : n ≤ 8) {l : List Int} {s : Nat} (h : setD n l = some s) : up (elemsN s) = l := by
  obtain ⟨h1, h2⟩ := setD_some h
  refine asc_ext (asc_elems s) h1.2 (fun x => ?_)
  constructor
  · intro hx
    obtain ⟨i, rfl, _, hi⟩ := mem_elems.1 hx
    rw [h2] at hi
    simpa using hi
  · intro hx
    have h3 := h1.1 x hx
    obtain ⟨i, rfl⟩ := Int.eq_ofNat_of_zero_le h3.1
    refine mem_elems.2 ⟨i, rfl, by omega, ?_⟩
    rw [h2]
    simpa using hx
end Go.Proofs.YtekajandipdlhaaDoor.Core
end
section
set_option linter.unusedVariables false
set_option linter.unusedSimpArgs false
namespace Go.Proofs.YtekajandipdlhaaDoor.Core
open Go Go.RowKit Go.Proofs.YtekajandipdlhaaDoorW.PrintWords Go.Proofs.YtekajandipdlhaaDoorW.PrintMore Go.Proofs.YtekajandipdlhaaDoor.P
/-- What is known of a valid graph. -/
structure VG (g : List Tk) (G : GD) : Prop where
  tasks : G.tasks = g
  n8 : g.length ≤ 8
  nl : G.needs.length = g.length
  nb : below1 g.length G.needs
  needsD : needsD g = some G.needs
  bits : ∀ i, i < g.length → ∀ j : Nat, (G.needs.getD i 0).testBit j = decide ((j : Int) ∈ (g.getD i z37).f1)
  fine : fineD g
  ord : OrdOk G.needs G.order (2 ^ g.length - 1)
theorem vg_of {g : List Tk} {G : GD} (h : graphD g = some G) : VG g G := by
  obtain ⟨N, hN, hf, rfl⟩ := graphD_spec h
  obtain ⟨h8, hl, hb⟩ := needsD_spec hN
  have ok := orderD_ok (N := N) (by omega) (by rw [hl]; exact hb)
  rw [hf] at ok
  exact ⟨rfl, h8, hl, hb, hN, (needsD_fine hN).2, (needsD_fine hN).1, ok⟩
theorem VG.mem {g : List Tk} {G : GD} (v : VG g G) {i : Nat} : i ∈ G.order ↔ i < g.length := by
  rw [← v.ord.set i, Nat.testBit_two_pow_sub_one]
  simp
theorem VG.needs_len {g : List Tk} {G : GD} (v : VG g G) : G.needs.length ≤ 8 := by have := v.nl; have := v.n8; omega
theorem VG.mem_ready {g : List Tk} {G : GD} (v : VG g G) {p i : Nat} : i ∈ elemsN (G.ready p) ↔ i < g.length ∧ p.testBit i = false ∧ sub (G.needs.getD i 0) p = 0 := by
  rw [Core.mem_ready v.needs_len, v.nl]
end Go.Proofs.YtekajandipdlhaaDoor.Core
end
section
set_option linter.unusedVariables false
set_option linter.unusedSimpArgs false
namespace Go.Proofs.YtekajandipdlhaaDoor.Core
open Go Go.RowKit Go.Proofs.YtekajandipdlhaaDoorW.PrintWords Go.Proofs.YtekajandipdlhaaDoorW.PrintMore Go.Proofs.YtekajandipdlhaaDoor.P
theorem VG.sub_iff' {g : List Tk} {G : GD} (v : VG g G) {p i : Nat} (hp : p < 2 ^ g.length) : sub (G.needs.getD i 0) p = 0 ↔ ∀ j, (G.needs.getD i 0).testBit j = true → p.testBit j = true := by
  have h256 : 2 ^ g.length ≤ 256 := pow8 v.n8
  have := getD_lt v.nb i
  exact sub_zero (by omega) (by omega)
end Go.Proofs.YtekajandipdlhaaDoor.Core
end
section
set_option linter.unusedVariables false
set_option linter.unusedSimpArgs false
namespace Go.Proofs.YtekajandipdlhaaDoor.Core
open Go Go.RowKit Go.Proofs.YtekajandipdlhaaDoorW.PrintWords Go.Proofs.YtekajandipdlhaaDoorW.PrintMore Go.Proofs.YtekajandipdlhaaDoor.P
theorem VG.need_lt {g : List Tk} {G : GD} (v : VG g G) {i m : Nat} (h : (G.needs.getD i 0).testBit m = true) : m < g.length := by
  have h1 := getD_lt v.nb i
  have h2 := Nat.ge_two_pow_of_testBit h
  have h3 : 2 ^ m < 2 ^ g.length := Nat.lt_of_le_of_lt h2 h1
  exact (Nat.pow_lt_pow_iff_right (by omega)).1 h3
theorem VG.list {g : List Tk} {G : GD} (v : VG g G) {i : Nat} (hi : i < g.length) : (g.getD i z37).f1 = up (elemsN (G.needs.getD i 0)) := by
  have hg : g.getD i z37 ∈ g := by
    rw [List.getD_eq_getElem?_getD, List.getElem?_eq_getElem hi]
    exact List.getElem_mem hi
  have hf := (v.fine.1 _ hg).2
  refine asc_ext hf.2 (asc_elems _) (fun x => ?_)
  show _ ↔ x ∈ elems _
  rw [mem_elems]
  constructor
  · intro hx
    have hb := hf.1 x hx
    have h8 := v.n8
    refine ⟨x.toNat, by omega, by omega, ?_⟩
    rw [v.bits i hi, decide_eq_true_eq, show ((x.toNat : Nat) : Int) = x by omega]
    exact hx
  · rintro ⟨k, rfl, _, hk⟩
    rw [v.bits i hi, decide_eq_true_eq] at hk
    exact hk
theorem up_set (L : List Nat) (i x : Nat) : (up L).set i (x : Int) = up (L.set i x) := by
  unfold up
  rw [List.map_set]
  rfl
end Go.Proofs.YtekajandipdlhaaDoor.Core
end
section
set_option linter.unusedVariables false
set_option linter.unusedSimpArgs false
namespace Go.Proofs.YtekajandipdlhaaDoor.Core
open Go Go.RowKit Go.Proofs.YtekajandipdlhaaDoorW.PrintWords Go.Proofs.YtekajandipdlhaaDoorW.PrintMore Go.Proofs.YtekajandipdlhaaDoor.P
theorem ev_lev1 {g : List Tk} {G : GD} (v : VG g G) {list : List Int} {j i : Nat} (hi : i < g.length) {R : List Int} : ∀ (r pre Ls : List Nat) (b : Nat), elemsN (G.needs.getD i 0) = pre ++ r → Ls.length = g.length → le1 b Ls → b + r.length ≤ 1000 →
    Ev (fun k => spec_levels.l0 k g (up (r.foldl (sStep i) Ls)) list (wrap64 ((j : Int) + 1))) R → Ev (fun k => spec_levels.l1 k g (up Ls) list (j : Int) (i : Int) (pre.length : Int)) R
  | [], pre, Ls, b, hp, hl, hb, hB, h => by
    have hL : (g.getD i z37).f1.length = pre.length := by rw [v.list hi, up_length, hp]; simp
    refine Ev.succ (h.of fun k => ?_)
    rw [spec_levels.l1, if_pos (by omega), if_pos (by omega), rdT_nat, if_neg (by rw [hL]; omega)]
    rfl
  | x :: r, pre, Ls, b, hp, hl, hb, hB, h => by
    have hL : (g.getD i z37).f1.length = pre.length + (r.length + 1) := by rw [v.list hi, up_length, hp]; simp
    have hx : (G.needs.getD i 0).testBit x = true := (mem_elemsN.1 (show x ∈ elemsN (G.needs.getD i 0) by rw [hp]; simp)).2
    have hxl : x < g.length := by
      have h1 := getD_lt v.nb i
      have h2 : 2 ^ x < 2 ^ g.length := Nat.lt_of_le_of_lt (Nat.ge_two_pow_of_testBit hx) h1
      exact (Nat.pow_lt_pow_iff_right (by omega)).1 h2
    have hrx : rd (g.getD i z37).f1 (pre.length : Int) = (x : Int) := by rw [v.list hi, rd_up (i := pre.length) rfl, hp]; simp
    have hri : rd (up Ls) (i : Int) = ((Ls.getD i 0 : Nat) : Int) := rd_up rfl
    have hrk : rd (up Ls) (x : Int) = ((Ls.getD x 0 : Nat) : Int) := rd_up rfl
    have hbx := hb x
    have hbi := hb i
    simp only [List.length_cons] at hB
    have e1 : mx ((Ls.getD i 0 : Nat) : Int) (wrap64 (((Ls.getD x 0 : Nat) : Int) + 1)) = ((max (Ls.getD i 0) (Ls.getD x 0 + 1) : Nat) : Int) := by
      rw [w64 (by omega) (by omega)]
      unfold mx
      split <;> omega
    have ih := ev_lev1 v (list := list) (j := j) hi (R := R) r (pre ++ [x]) (sStep i Ls x) (b + 1) (by rw [hp]; simp) (by unfold sStep; rw [List.length_set]; exact hl) (sStep_le hb x) (by omega) h
    refine Ev.succ (ih.of fun k => ?_)
    rw [spec_levels.l1, if_pos (by omega), if_pos (by omega), rdT_nat, if_pos (by rw [hL]; omega), if_pos (by rw [up_length, hl]; omega), if_pos (by omega), hrx, if_pos (by omega), if_pos (by rw [up_length, hl]; omega), hri, hrk, e1, Int.toNat_natCast, up_set, w64 (n := (pre.length : Int) + 1) (by omega) (by have := elemsN_length (G.needs.getD i 0); rw [hp] at this; simp at this; omega)]
    rw [show ((pre ++ [x]).length : Int) = (pre.length : Int) + 1 by simp]
    rfl
theorem ev_lev {g : List Tk} {G : GD} (v : VG g G) : ∀ (suf pre : List Nat), G.order = pre ++ suf → Ev (fun k => spec_levels.l0 k g (up (stTo G.needs g.length pre)) (up G.order) (pre.length : Int)) (up (stTo G.needs g.length G.order))
  | [], pre, ho => by
    rw [List.append_nil] at ho
    refine Ev.succ ((Ev.const _).of fun k => ?_)
    rw [spec_levels.l0, if_neg (by rw [up_length, ho]; omega), ho]
  | i :: suf, pre, ho => by
    have hlen : G.order.length = pre.length + (suf.length + 1) := by rw [ho]; simp
    have hi : i < g.length := v.mem.1 (by rw [ho]; simp)
    have h8 := v.n8
    have hol : G.order.length = g.length := by
      have := v.ord.len
      rw [v.nl, zb_full _ _ (Nat.le_refl _)] at this
      omega
    have ih := ev_lev v suf (pre ++ [i]) (by rw [ho]; simp)
    rw [stTo_snoc] at ih
    have hle := stTo_le G.needs g.length pre
    have hr : rd (up G.order) (pre.length : Int) = (i : Int) := by rw [rd_up (i := pre.length) rfl, ho]; simp
    have h1 := ev_lev1 v (list := up G.order) (j := pre.length) hi (R := up (stTo G.needs g.length G.order)) (elemsN (G.needs.getD i 0)) [] (stTo G.needs g.length pre) _ rfl (stTo_length _ _ _) hle (by have := elemsN_length (G.needs.getD i 0); omega) (by
      rw [w64 (by omega) (by omega)]
      rw [show ((pre ++ [i]).length : Int) = (pre.length : Int) + 1 by simp] at ih
      exact ih)
    refine Ev.succ (h1.of fun k => ?_)
    rw [spec_levels.l0, if_pos (by rw [up_length]; omega), if_pos (by omega), hr]
    rfl
theorem ev_levels {g : List Tk} (hg : Fits g) {G : GD} (hG : graphD g = some G) : Ev (fun k => spec_levels.f k g) (up (stagesN G)) := by
  have v := vg_of hG
  have h8 := v.n8
  have ht := ev_topOrder hg v.needsD
  have ho : (orderD G.needs).1 = G.order := by
    obtain ⟨N, hN, hf, rfl⟩ := graphD_spec hG
    rfl
  rw [ho] at ht
  unfold spec_levels.f
  refine Ev.pos (by omega) (Ev.pos (by omega) (Ev.bind ht ?_))
  have := ev_lev v G.order [] rfl
  unfold stagesN
  rw [v.tasks]
  refine this.of fun k => ?_
  rw [Int.toNat_natCast]
  congr 1
  show List.replicate g.length 0 = up (List.replicate g.length 0)
  simp [up]
end Go.Proofs.YtekajandipdlhaaDoor.Core
end
section
set_option linter.unusedVariables false
set_option linter.unusedSimpArgs false
namespace Go.Proofs.YtekajandipdlhaaDoor.Core
open Go Go.RowKit Go.Proofs.YtekajandipdlhaaDoorW.PrintWords Go.Proofs.YtekajandipdlhaaDoorW.PrintMore Go.Proofs.YtekajandipdlhaaDoor.P
/-- The tasks of a stage, among the first n. -/
def partN (S : List Nat) (s n : Nat) : List Nat := (List.range n).filter (fun i => decide (S.getD i 0 = s))
theorem partN_succ (S : List Nat) (s n : Nat) : partN S s (n + 1) = if S.getD n 0 = s then partN S s n ++ [n] else partN S s n := by
  unfold partN
  rw [List.range_succ, List.filter_append]
  by_cases h : S.getD n 0 = s
  · rw [if_pos h, List.filter_cons_of_pos (by simpa using h)]; rfl
  · rw [if_neg h, List.filter_cons_of_neg (by simpa using h), List.filter_nil, List.append_nil]
theorem partN_length (S : List Nat) (s n : Nat) : (partN S s n).length ≤ n := by
  have := List.length_filter_le (fun i => decide (S.getD i 0 = s)) (List.range n)
  rw [List.length_range] at this
  exact this
/-- The stages that have tasks. -/
def partsTo (S : List Nat) (n : Nat) : Nat → List (List Int)
  | 0 => []
  | s + 1 => if partN S s n = [] then partsTo S n s else partsTo S n s ++ [up (partN S s n)]
theorem partsTo_length (S : List Nat) (n : Nat) : ∀ s, (partsTo S n s).length ≤ s
  | 0 => Nat.le_refl _
  | s + 1 => by
    have := partsTo_length S n s
    unfold partsTo
    split
    · omega
    · rw [List.length_append, List.length_singleton]; omega
theorem ev_sp1 {g : List Tk} (hn : g.length ≤ 1000) {S : List Nat} (hS : S.length = g.length) {s : Nat} (hs : s < g.length) {out : List (List Int)} (ho : out.length ≤ 1000) {R : List (List Int)} (h : Ev (fun k => spec_StagesOf.l0 k g (if partN S s g.length = [] then out else out ++ [up (partN S s g.length)]) (up S) ((s + 1 : Nat) : Int)) R) :
    ∀ (d i : Nat), i + d = g.length → Ev (fun k => spec_StagesOf.l1 k g out (up S) (s : Int) (up (partN S s i)) (i : Int)) R
  | 0, i, hd => by
    have hi : i = g.length := by omega
    subst hi
    have hw : wrap64 ((s : Int) + 1) = ((s + 1 : Nat) : Int) := by rw [w64 (by omega) (by omega)]; omega
    refine Ev.succ (h.of fun k => ?_)
    rw [spec_StagesOf.l1, if_neg (by omega), hw]
    by_cases he : partN S s g.length = []
    · rw [if_pos he, he, if_neg (by simp [up])]
    · have hl : 0 < (partN S s g.length).length := List.length_pos_iff.2 he
      rw [if_neg he, if_pos (by rw [up_length]; omega), if_pos (by omega)]
  | d + 1, i, hd => by
    have ih := ev_sp1 hn hS hs ho h d (i + 1) (by omega)
    have hr : rd (up S) (i : Int) = ((S.getD i 0 : Nat) : Int) := rd_up rfl
    have hw : wrap64 ((i : Int) + 1) = ((i + 1 : Nat) : Int) := by rw [w64 (by omega) (by omega)]; omega
    have hpl := partN_length S s i
    refine Ev.succ (ih.of fun k => ?_)
    rw [spec_StagesOf.l1, if_pos (by omega), if_pos (by omega), if_pos (by rw [up_length, hS]; omega), hr, hw, partN_succ]
    by_cases he : S.getD i 0 = s
    · rw [if_pos (by omega), if_pos he, if_pos (by rw [up_length]; omega)]
      congr 1
      simp [up]
    · rw [if_neg (by omega), if_neg he]
theorem ev_sp0 {g : List Tk} (hn : g.length ≤ 1000) {S : List Nat} (hS : S.length = g.length) : ∀ (d s : Nat), s + d = g.length → Ev (fun k => spec_StagesOf.l0 k g (partsTo S g.length s) (up S) (s : Int)) (partsTo S g.length g.length)
  | 0, s, hd => by
    have hs : s = g.length := by omega
    subst hs
    refine Ev.succ ((Ev.const _).of fun k => ?_)
    rw [spec_StagesOf.l0, if_neg (by omega)]
  | d + 1, s, hd => by
    have ih := ev_sp0 hn hS d (s + 1) (by omega)
    have hpl := partsTo_length S g.length s
    have h1 := ev_sp1 hn hS (s := s) (by omega) (out := partsTo S g.length s) (by omega) (R := partsTo S g.length g.length) ih g.length 0 (by omega)
    refine Ev.succ (h1.of fun k => ?_)
    rw [spec_StagesOf.l0, if_pos (by omega)]
    rfl
def specStages (g : List Tk) : List (List Int) := match graphD g with
  | none => []
  | some G => partsTo (stagesN G) g.length g.length
theorem ev_StagesOf {g : List Tk} (hg : Fits g) : Ev (fun k => spec_StagesOf.f k g) (specStages g) := by
  unfold spec_StagesOf.f
  refine Ev.bind (ev_validGraph hg) ?_
  unfold specStages
  cases hG : graphD g with
  | none => exact Ev.neg (by simp) (Ev.const _)
  | some G =>
    have v := vg_of hG
    have h8 := v.n8
    have hS : (stagesN G).length = g.length := by unfold stagesN; rw [stTo_length, v.tasks]
    exact Ev.pos rfl (Ev.bind (ev_levels hg hG) (ev_sp0 (by omega) hS g.length 0 (by omega)))
end Go.Proofs.YtekajandipdlhaaDoor.Core
end
section
namespace Go.Proofs.YtekajandipdlhaaDoor.P
open Go.Proofs.YtekajandipdlhaaDoor.Core
open Go.RowKit Go.Proofs.YtekajandipdlhaaDoorW.PrintWords Go.Proofs.YtekajandipdlhaaDoorW.PrintLast Go.Proofs.YtekajandipdlhaaDoorW.PrintMore
attribute [local go_sem] max2_int min2_int max_two min_two max_three min_three max_four min_four   -- for this text's walks alone
set_option linter.unusedVariables false
set_option linter.unusedSimpArgs false
def impl_stages.f (l0 : List (S37)) : Option (List Int) := match graphD l0 with
  | none => none
  | some G => some (up (stagesN G))
mutual
def impl_StagesOf0.l0 : Nat → List (List Int) → List Int → Int → Int → Option ((List (List Int)))
  | 0, _, _, _, _ => none
  | k + 1, x5, x17, x18, x19 => if x19 < x18 then (if 0 ≤ x19 then (if x19 < (x17.length : Int) then (impl_StagesOf0.l1 k x5 x19 (rd x17 x19) x17 x18 x19) else (none)) else (none)) else (some x5)
def impl_StagesOf0.l1 : Nat → List (List Int) → Int → Int → List Int → Int → Int → Option ((List (List Int)))
  | 0, _, _, _, _, _, _ => none
  | k + 1, x5, x6, x7, x17, x18, x19 => if (x5.length : Int) ≤ x7 then (if x5.length < 5864062014805 then (impl_StagesOf0.l1 k (x5 ++ [(([] : List Int))]) x6 x7 x17 x18 x19) else (none)) else (if 0 ≤ x7 then (if x7 < (x5.length : Int) then (if (rd_L1 x5 x7).length < 17592186044416 then (impl_StagesOf0.l0 k (x5.set (x7 : Int).toNat ((rd_L1 x5 x7) ++ [x6])) x17 x18 (wrap64 (x19 + 1))) else (none)) else (none)) else (none))
end
def impl_StagesOf0.f (k : Nat) (l0 : List (S37)) : Option ((List (List Int))) := (impl_stages.f l0).bind fun t225 => (impl_StagesOf0.l0 k (([] : List (List Int))) t225 (t225.length : Int) 0)
theorem impl_StagesOf0.mono_l : ∀ k, (∀ y0 y1 y2 y3, LeO (impl_StagesOf0.l0 k y0 y1 y2 y3) (impl_StagesOf0.l0 (k + 1) y0 y1 y2 y3)) ∧ (∀ y0 y1 y2 y3 y4 y5, LeO (impl_StagesOf0.l1 k y0 y1 y2 y3 y4 y5) (impl_StagesOf0.l1 (k + 1) y0 y1 y2 y3 y4 y5))
  | 0 => ⟨fun _ _ _ _ r h => by simp [impl_StagesOf0.l0] at h, fun _ _ _ _ _ _ r h => by simp [impl_StagesOf0.l1] at h⟩
  | k + 1 => by
    obtain ⟨ih0, ih1⟩ := impl_StagesOf0.mono_l k
    refine ⟨?_, ?_⟩
    · intro y0 y1 y2 y3
      unfold impl_StagesOf0.l0
      repeat' first
      | (with_reducible exact ih0 _ _ _ _)
      | (with_reducible exact ih1 _ _ _ _ _ _)
      | (with_reducible exact LeO.refl _)
      | (with_reducible exact LeO.none _)
      | (with_reducible refine LeO.ite ?_ ?_)
      | (with_reducible refine LeO.bind ?_ (fun _ => ?_))
      | exact ih0 _ _ _ _
      | exact ih1 _ _ _ _ _ _
      | exact LeO.none _
      | refine LeO.ite ?_ ?_
      | refine LeO.bind ?_ (fun _ => ?_)
    · intro y0 y1 y2 y3 y4 y5
      unfold impl_StagesOf0.l1
      repeat' first
      | (with_reducible exact ih0 _ _ _ _)
      | (with_reducible exact ih1 _ _ _ _ _ _)
      | (with_reducible exact LeO.refl _)
      | (with_reducible exact LeO.none _)
      | (with_reducible refine LeO.ite ?_ ?_)
      | (with_reducible refine LeO.bind ?_ (fun _ => ?_))
      | exact ih0 _ _ _ _
      | exact ih1 _ _ _ _ _ _
      | exact LeO.none _
      | refine LeO.ite ?_ ?_
      | refine LeO.bind ?_ (fun _ => ?_)
theorem impl_StagesOf0.mono : ∀ a0 k, LeO (impl_StagesOf0.f k a0) (impl_StagesOf0.f (k + 1) a0) := by
  intro a0 k
  obtain ⟨ih0, ih1⟩ := impl_StagesOf0.mono_l k
  unfold impl_StagesOf0.f
  repeat' first
      | (with_reducible exact ih0 _ _ _ _)
      | (with_reducible exact ih1 _ _ _ _ _ _)
      | (with_reducible exact LeO.refl _)
      | (with_reducible exact LeO.none _)
      | (with_reducible refine LeO.ite ?_ ?_)
      | (with_reducible refine LeO.bind ?_ (fun _ => ?_))
      | exact ih0 _ _ _ _
      | exact ih1 _ _ _ _ _ _
      | exact LeO.none _
      | refine LeO.ite ?_ ?_
      | refine LeO.bind ?_ (fun _ => ?_)
set_option maxHeartbeats 8000000 in
set_option maxRecDepth 100000 in
theorem impl_StagesOf0.calls (k : Nat) (A0 : Option Addr) (c0 : Nat) (l0 : List (S37)) (r : List (List Int)) (w : World) (hr0 : Kd.C k37 w A0 l0.length l0) (hc0 : l0.length ≤ c0) (G : GD) (hT : Tab w) (hgr : graphD l0 = some G) (h : impl_StagesOf0.f k l0 = some r) :
    Calls Tryd.prog 53 #[.slice A0 l0.length c0] w fun e w' => ∃ v0_ : Value, e = .returned (v0_) ∧ Kd.S (Kd.slice 3 (Kd.int .i64)) 35 w' w.heap.size (fun _ => True) v0_ r ∧ Below w.heap.size w w' := by
  have HGx := Aside0.mk (graphOf_some A0 c0 l0 G w hT hr0 hc0 hgr)
  have OKx := Aside0.mk (graphD_ok hgr)
  have HT := Aside0.mk hT
  clear hT
  have HR0 := Aside0.mk hr0
  have HC0 := Aside0.mk hc0
  clear hr0 hc0
  have HB := Aside0.mk (Below.refl w.heap.size w)
  have H : ((impl_stages.f l0).bind fun t225 => (impl_StagesOf0.l0 k (([] : List (List Int))) t225 (t225.length : Int) 0)) = some r := h
  clear h
  obtain ⟨y222, hy222⟩ : ∃ y_ : List (List Int), y_ = (([] : List (List Int))) := ⟨_, rfl⟩
  replace H : ((impl_stages.f l0).bind fun t225 => (impl_StagesOf0.l0 k y222 t225 (t225.length : Int) 0)) = some r := by first | (rw [hy222]; with_reducible exact H) | (have H2_ := (Option.bind_some _ _).symm.trans H; rw [hy222]; with_reducible exact H2_) | (have H2_ := (Option.bind_some _ _).symm.trans H; with_reducible exact H2_) | with_reducible exact H | (rw [hy222]; exact H) | exact H
  have Ny222 := Aside0.mk hy222
  clear hy222
  replace H := Option.bind_eq_some_iff.mp H
  obtain ⟨t225, A20, H⟩ := H
  replace H : (impl_StagesOf0.l0 k y222 t225 (t225.length : Int) 0) = some r := H
  have A2 := Aside0.mk A20
  have HSTx := Aside0.mk (show t225 = up (stagesN G) by have h_ := A20; unfold impl_stages.f at h_; rw [hgr] at h_; exact (Option.some.inj h_).symm)
  clear hgr
  clear A20
  have H' := Aside0.mk H
  clear H
  go_enter Tryd.func53, Tryd.ntmps53
  go_wp2_with (first | (go_at_call 60; refine HGx.out.mono ?_; rintro e wG ⟨bG, rfl, hbG, hIG⟩; have HIG := Aside0.mk hIG; have n0_ := Aside0.mk hbG; clear HB hIG hbG HGx; have HB := n0_; clear n0_) | ((with_reducible refine gate_dst (N := 15) rfl ?_); refine Kd.S_lit (Kd.slice 3 (Kd.int .i64)) _ 35 ?hg (N := 15) ?hd (xs := ([] : List (List Int))) (inner := []) (ok := fun _ => True) (okp := fun _ => True) ?hr ?hp (fun _ hk => hk) trivial (Below.refl _ _) (Nat.le_refl _) (by simp) ?_; (case hd => rfl); (case hg => rfl); (case hr => first | (go_simp; done) | (go_simp; rfl)); (case hp => exact (Reps.none _ _)); intro v223 w3 ho4 hb hg_ hnew_; clear hg_ hnew_; have nI_ := Aside0.mk (IsG.move HIG.out hb); clear HIG; have HIG := nI_; clear nI_; (first | rw [← Ny222.out] at ho4 | (simp only [Int.reduceToNat] at ho4; rw [← Ny222.out] at ho4)); have n0_ := Aside0.mk (Kd.S_lower ho4 (below_size (by repeat (first | (with_reducible first | exact HB.out | apply below_alloc | apply pw_below_drewN | apply below_drew1) | exact HB.out)))); have n1_ := Aside0.mk (below_step (by repeat (first | (with_reducible first | exact HB.out | apply below_alloc | apply pw_below_drewN | apply below_drew1) | exact HB.out)) hb); clear HB; have HO224 := n0_; have HB := n1_; clear n0_ n1_; clear hb ho4) | (go_at_call 91; refine ((stages_calls bG G _ (Tab.of HT.out HB.out) HIG.out OKx.out).mono (fun e_ w_ ⟨v_, h1_, h2_, h3_⟩ => (⟨v_, h1_, (by rw [HSTx.out]; exact h2_), h3_⟩ : ∃ v_, e_ = _root_.Go.Ending.returned v_ ∧ Kd.R (Kd.int .i64) 3 w_ _ (fun _ => True) v_ t225 ∧ Below _ _ w_))).mono ?_; rintro e w5 ⟨v226, rfl, ho0, hb⟩; have n0_ := Aside0.mk (Kd.S_elder' (by (with_reducible repeat (first | apply Kd.S_alloc | apply Kd.S_drewN | apply Kd.S_drew)); exact HO224.out) (Kd.R_base ho0) hb); have n1_ := Aside0.mk (Kd.R_lower ho0 (below_size (by repeat (first | (with_reducible first | exact HB.out | apply below_alloc | apply pw_below_drewN | apply below_drew1) | exact HB.out)))); have n2_ := Aside0.mk (below_step (by repeat (first | (with_reducible first | exact HB.out | apply below_alloc | apply pw_below_drewN | apply below_drew1) | exact HB.out)) hb); clear HO224; clear HB; have HO224 := n0_; have HO227 := n1_; have HB := n2_; clear n0_ n1_ n2_; (try clear hb); (try clear hb2); (try clear hk); (try clear hi); (try clear ho0); obtain ⟨Ao6, co6, eo6⟩ := Kd.R_slice HO227.out; subst eo6))
  go_loopg [5, 19] k (fun kq v5 v19 w' => ∃ (x5_1 : List (List Int)) (x19_1 : Int), v19 = .int .i64 x19_1 ∧ Aside0 (impl_StagesOf0.l0 kq x5_1 t225 (t225.length : Int) x19_1 = some r) ∧ Aside0 (kq ≤ k) ∧ Aside0 (Kd.S (Kd.slice 3 (Kd.int .i64)) 35 w' w.heap.size (fun k_ => some k_ ≠ ((.slice Ao6 t225.length co6) : Value).ownBlock) v5 x5_1) ∧ Aside0 (Kd.R (Kd.int .i64) 3 w' w.heap.size (fun _ => True) (.slice Ao6 t225.length co6) t225) ∧ Aside0 (Below w.heap.size w w'))
  case atStart => exact ⟨(y222), (0), (by first | rfl | (simp; done) | (simp [*]; done)), H', ⟨Nat.le_refl _⟩, ⟨by (with_reducible repeat (first | apply Kd.S_alloc | apply Kd.S_drewN | apply Kd.S_drew)); exact Kd.S_mono HO224.out (fun _ hk => hk.2)⟩, ⟨by (with_reducible repeat (first | apply Kd.R_alloc | apply Kd.R_drewN | apply Kd.R_drew)); exact HO227.out⟩, ⟨by repeat (first | (with_reducible first | exact HB.out | apply below_alloc | apply pw_below_drewN | apply below_drew1) | exact HB.out)⟩⟩
  case round =>
    clear H'
    try clear p2
    try clear c5
    obtain ⟨x5_1, x19_1, rfl, HA, HK1, HO_5, HO_17, HB⟩ := hrel
    cases gk with
    | zero => exact absurd HA.out (by simp [impl_StagesOf0.l0])
    | succ k1 =>
      have H := HA.out
      clear HA
      simp only [impl_StagesOf0.l0] at H
      by_cases c7 : x19_1 < (t225.length : Int)
      · rw [if_pos c7] at H
        have c7b0 : decide (x19_1 < (t225.length : Int)) = true := decide_eq_true c7
        clear c7
        by_cases c8 : 0 ≤ x19_1
        · rw [if_pos c8] at H
          have c8b0 : decide (0 ≤ x19_1) = true := decide_eq_true c8
          clear c8
          by_cases c9 : x19_1 < (t225.length : Int)
          · rw [if_pos c9] at H
            have c9b0 : decide (x19_1 < (t225.length : Int)) = true := decide_eq_true c9
            clear c9
            have H' := Aside0.mk H
            clear H
            have p228 : 0 ≤ (x19_1 : Int) := of_decide_eq_true (by first | (with_reducible assumption) | assumption)
            have q228 : x19_1 < (t225.length : Int) := of_decide_eq_true (by first | (with_reducible assumption) | assumption)
            obtain ⟨ad228, e228, hx228_0⟩ := Kd.at_int (Kd.R_reads' HO_17.out).2.2 x19_1 p228 q228
            cases e228
            replace p228 := eq_true p228
            replace q228 := eq_true q228
            go_wp2
            go_loopg [5] k1 (fun kq v5 w' => ∃ (x5_2 : List (List Int)), Aside0 (impl_StagesOf0.l1 kq x5_2 x19_1 (rd t225 x19_1) t225 (t225.length : Int) x19_1 = some r) ∧ Aside0 (kq ≤ k1) ∧ Aside0 (Kd.S (Kd.slice 3 (Kd.int .i64)) 35 w' w.heap.size (fun k_ => some k_ ≠ ((.slice (some ad228) t225.length co6) : Value).ownBlock) v5 x5_2) ∧ Aside0 (Kd.R (Kd.int .i64) 3 w' w.heap.size (fun _ => True) (.slice (some ad228) t225.length co6) t225) ∧ Aside0 (Below w.heap.size w w'))
            case atStart => exact ⟨(x5_1), H', ⟨Nat.le_refl _⟩, ⟨by (with_reducible repeat (first | apply Kd.S_alloc | apply Kd.S_drewN | apply Kd.S_drew)); exact HO_5.out⟩, ⟨by (with_reducible repeat (first | apply Kd.R_alloc | apply Kd.R_drewN | apply Kd.R_drew)); exact HO_17.out⟩, ⟨by repeat (first | (with_reducible first | exact HB.out | apply below_alloc | apply pw_below_drewN | apply below_drew1) | exact HB.out)⟩⟩
            case round =>
              clear H'
              try clear p2
              try clear q2
              try clear hx2
              try clear c5
              try clear c7
              try clear c7b0
              try clear c8
              try clear c8b0
              try clear c9
              try clear c9b0
              try clear hx228_0
              try clear p2
              try clear p228
              try clear q228
              obtain ⟨x5_2, HA, HK2, HO_5, HO_17, HB⟩ := hrel
              cases gk with
              | zero => exact absurd HA.out (by simp [impl_StagesOf0.l1])
              | succ k2 =>
                have H := HA.out
                clear HA
                simp only [impl_StagesOf0.l1] at H
                by_cases c10 : (x5_2.length : Int) ≤ (rd t225 x19_1)
                · rw [if_pos c10] at H
                  have c10b0 : decide ((x5_2.length : Int) ≤ (rd t225 x19_1)) = true := decide_eq_true c10
                  clear c10
                  obtain ⟨y229, hy229⟩ : ∃ y_ : List Int, y_ = (([] : List Int)) := ⟨_, rfl⟩
                  replace H : (if x5_2.length < 5864062014805 then (impl_StagesOf0.l1 k2 (x5_2 ++ [y229]) x19_1 (rd t225 x19_1) t225 (t225.length : Int) x19_1) else (none)) = some r := by first | (rw [hy229]; with_reducible exact H) | (have H2_ := (Option.bind_some _ _).symm.trans H; rw [hy229]; with_reducible exact H2_) | (have H2_ := (Option.bind_some _ _).symm.trans H; with_reducible exact H2_) | with_reducible exact H | (rw [hy229]; exact H) | exact H
                  have Ny229 := Aside0.mk hy229
                  clear hy229
                  by_cases c11 : x5_2.length < 5864062014805
                  · rw [if_pos c11] at H
                    have LMc11 := Aside0.mk c11
                    clear c11
                    obtain ⟨y232, hy232⟩ : ∃ y_ : List (List Int), y_ = (x5_2 ++ [y229]) := ⟨_, rfl⟩
                    replace H : (impl_StagesOf0.l1 k2 y232 x19_1 (rd t225 x19_1) t225 (t225.length : Int) x19_1) = some r := by first | (rw [hy232]; with_reducible exact H) | (have H2_ := (Option.bind_some _ _).symm.trans H; rw [hy232]; with_reducible exact H2_) | (have H2_ := (Option.bind_some _ _).symm.trans H; with_reducible exact H2_) | with_reducible exact H | (rw [hy232]; exact H) | exact H
                    have Ny232 := Aside0.mk hy232
                    clear hy232
                    have H' := Aside0.mk H
                    clear H
                    obtain ⟨Ao12, co12, eo12⟩ := Kd.S_slice HO_5.out
                    subst eo12
                    go_wp2_with (first | ((with_reducible refine gate_dst (N := 29) rfl ?_); refine Kd.R_lit (Kd.int .i64) _ 3 ?hg (N := 29) ?hd (xs := ([] : List Int)) (inner := []) (ok := fun _ => True) (okp := fun _ => True) ?hr ?hp (fun _ hk => hk) trivial (Below.refl _ _) (Nat.le_refl _) (by simp) ?_; (case hd => rfl); (case hg => rfl); (case hr => first | (go_simp; done) | (go_simp; rfl)); (case hp => exact (Reps.none _ _)); intro v230 w13 ho14 hb hg_ hnew_; clear hg_ hnew_; (first | rw [← Ny229.out] at ho14 | (simp only [Int.reduceToNat] at ho14; rw [← Ny229.out] at ho14)); have n0_ := Aside0.mk (Kd.S_elder' (by (with_reducible repeat (first | apply Kd.S_alloc | apply Kd.S_drewN | apply Kd.S_drew)); exact HO_5.out) (Kd.R_base ho14) hb); have n1_ := Aside0.mk (Kd.R_elder' (by (with_reducible repeat (first | apply Kd.R_alloc | apply Kd.R_drewN | apply Kd.R_drew)); exact HO_17.out) (Kd.R_base ho14) hb); have n2_ := Aside0.mk (Kd.R_lower (Kd.R_new' ho14 (Kd.R_lt (by (with_reducible repeat (first | apply Kd.R_alloc | apply Kd.R_drewN | apply Kd.R_drew)); exact HO_17.out))) (below_size (by repeat (first | (with_reducible first | exact HB.out | apply below_alloc | apply pw_below_drewN | apply below_drew1) | exact HB.out)))); have n3_ := Aside0.mk (below_step (by repeat (first | (with_reducible first | exact HB.out | apply below_alloc | apply pw_below_drewN | apply below_drew1) | exact HB.out)) hb); clear HO_5; clear HO_17; clear HB; have HO_5 := n0_; have HO_17 := n1_; have HO231 := n2_; have HB := n3_; clear n0_ n1_ n2_ n3_; clear hb ho14; obtain ⟨Ao16, co16, eo16⟩ := Kd.R_slice HO231.out; subst eo16) | ((with_reducible refine gate_builtin (b := .append) (xs := #[.tmp 28, .tmp 30]) rfl ?_); at_builtin; refine Kd.S_append (Kd.slice 3 (Kd.int .i64)) (w0 := w) w.heap.size rfl (.tmp 28) (.tmp 30) 24 35 (.slice none 0 0) 24 rfl Tryd.underlying24 info35 rfl (by decide) (by omega) (.slice Ao12 x5_2.length co12) x5_2 y229 [.slice Ao16 y229.length co16] (fun k_ => some k_ ≠ (.slice (some ad228) t225.length co6 : Value).ownBlock) (fun k_ => some k_ = (.slice Ao16 y229.length co16 : Value).ownBlock) rfl rfl ?aP (fun k_ hk_ => ((Kd.R_mono (ok' := fun k_ => ((fun k_ => some k_ ≠ (.slice (some ad228) t225.length co6 : Value).ownBlock)) k_ ∧ some k_ ≠ (.slice Ao12 x5_2.length co12 : Value).ownBlock) (Kd.R_apart' (HO231.out) (Kd.S_typed HO_5.out) (by decide)) (fun k_ hk => ⟨hk.1.2, hk.2⟩))).1 k_ hk_.symm) ?aF ?aO ?aB ?aS ?aL ?_; (case aP => exact Kd.M_row (Kd.R_mono (Kd.R_tight rfl (Kd.R_mono (ok' := fun k_ => ((fun k_ => some k_ ≠ (.slice (some ad228) t225.length co6 : Value).ownBlock)) k_ ∧ some k_ ≠ (.slice Ao12 x5_2.length co12 : Value).ownBlock) (Kd.R_apart' (HO231.out) (Kd.S_typed HO_5.out) (by decide)) (fun k_ hk => ⟨hk.1.2, hk.2⟩))) (fun _ h_ => h_))); (case aB => exact (by repeat (first | (with_reducible first | exact HB.out | apply below_alloc | apply pw_below_drewN | apply below_drew1) | exact HB.out))); (case aF => exact (fun k_ hk => Kd.fresh' (Kd.R_lt (by (with_reducible repeat (first | apply Kd.R_alloc | apply Kd.R_drewN | apply Kd.R_drew)); exact HO_17.out)) k_ hk)); (case aO => exact (by (with_reducible repeat (first | apply Kd.S_alloc | apply Kd.S_drewN | apply Kd.S_drew)); exact Kd.S_mono HO_5.out (fun k_ hk => ⟨hk.1, fun e_ => hk.2 e_⟩))); (case aS => exact (below_size (by repeat (first | (with_reducible first | exact HB.out | apply below_alloc | apply pw_below_drewN | apply below_drew1) | exact HB.out)))); (case aL => have := LMc11.out; omega); intro v233 w15 ho hb hg hat; rw [← Ny232.out] at ho; have n0_ := Aside0.mk (Kd.R_over' (by (with_reducible repeat (first | apply Kd.R_alloc | apply Kd.R_drewN | apply Kd.R_drew)); exact HO_17.out) (Kd.S_typed (by (with_reducible repeat (first | apply Kd.S_alloc | apply Kd.S_drewN | apply Kd.S_drew)); exact HO_5.out)) (by decide) hg); have n1_ := Aside0.mk (hb); have n2_ := Aside0.mk (ho); clear HO_17; clear HB; clear HO_5; clear HO231; have HO_17 := n0_; have HB := n1_; have HO234 := n2_; clear n0_ n1_ n2_; clear ho hb hg hat))
                    go_roundg k2
                    case measure => have := HK1.out; have := HK2.out; omega
                    case rel => exact ⟨(y232), H', ⟨by have := HK1.out; have := HK2.out; omega⟩, ⟨by (with_reducible repeat (first | apply Kd.S_alloc | apply Kd.S_drewN | apply Kd.S_drew)); exact HO234.out⟩, ⟨by (with_reducible repeat (first | apply Kd.R_alloc | apply Kd.R_drewN | apply Kd.R_drew)); exact Kd.R_mono HO_17.out (fun _ hk => trivial)⟩, ⟨by repeat (first | (with_reducible first | exact HB.out | apply below_alloc | apply pw_below_drewN | apply below_drew1) | exact HB.out)⟩⟩
                  · rw [if_neg c11] at H
                    exact absurd H (by simp)
                · rw [if_neg c10] at H
                  have c10b0 : decide ((x5_2.length : Int) ≤ (rd t225 x19_1)) = false := decide_eq_false c10
                  clear c10
                  by_cases c17 : 0 ≤ (rd t225 x19_1)
                  · rw [if_pos c17] at H
                    have c17b0 : decide (0 ≤ (rd t225 x19_1)) = true := decide_eq_true c17
                    clear c17
                    by_cases c18 : (rd t225 x19_1) < (x5_2.length : Int)
                    · rw [if_pos c18] at H
                      have c18b0 : decide ((rd t225 x19_1) < (x5_2.length : Int)) = true := decide_eq_true c18
                      clear c18
                      by_cases c19 : (rd_L1 x5_2 (rd t225 x19_1)).length < 17592186044416
                      · rw [if_pos c19] at H
                        have LMc19 := Aside0.mk c19
                        clear c19
                        obtain ⟨y236, hy236⟩ : ∃ y_ : List Int, y_ = ((rd_L1 x5_2 (rd t225 x19_1)) ++ [x19_1]) := ⟨_, rfl⟩
                        replace H : (impl_StagesOf0.l0 k2 (x5_2.set ((rd t225 x19_1) : Int).toNat y236) t225 (t225.length : Int) (wrap64 (x19_1 + 1))) = some r := by first | (rw [hy236]; with_reducible exact H) | (have H2_ := (Option.bind_some _ _).symm.trans H; rw [hy236]; with_reducible exact H2_) | (have H2_ := (Option.bind_some _ _).symm.trans H; with_reducible exact H2_) | with_reducible exact H | (rw [hy236]; exact H) | exact H
                        have Ny236 := Aside0.mk hy236
                        clear hy236
                        obtain ⟨y239, hy239⟩ : ∃ y_ : List (List Int), y_ = (x5_2.set ((rd t225 x19_1) : Int).toNat y236) := ⟨_, rfl⟩
                        replace H : (impl_StagesOf0.l0 k2 y239 t225 (t225.length : Int) (wrap64 (x19_1 + 1))) = some r := by first | (rw [hy239]; with_reducible exact H) | (have H2_ := (Option.bind_some _ _).symm.trans H; rw [hy239]; with_reducible exact H2_) | (have H2_ := (Option.bind_some _ _).symm.trans H; with_reducible exact H2_) | with_reducible exact H | (rw [hy239]; exact H) | exact H
                        have Ny239 := Aside0.mk hy239
                        clear hy239
                        have H' := Aside0.mk H
                        clear H
                        obtain ⟨Ao21, co21, eo21⟩ := Kd.S_slice HO_5.out
                        subst eo21
                        have p235 : 0 ≤ ((rd t225 x19_1) : Int) := of_decide_eq_true (by first | (with_reducible assumption) | assumption)
                        have q235 : (rd t225 x19_1) < (x5_2.length : Int) := of_decide_eq_true (by first | (with_reducible assumption) | assumption)
                        obtain ⟨ad235, A235_0, c235_0, e235, hx235_0, hl235_0, hi235_0⟩ := at_L1 (Kd.S_reads' HO_5.out).2.2 (rd t225 x19_1) p235 q235
                        cases e235
                        obtain ⟨ce235, hce235, hMe235, hcc235⟩ := Kd.S_get HO_5.out [] (rd t225 x19_1) p235 (by first | exact q235 | exact of_decide_eq_true (by first | (with_reducible assumption) | assumption) | (have e_ := (Kd.S_reads' HO_5.out).1; omega))
                        obtain ⟨ve235_0, rfl, ge235_0⟩ := hMe235
                        have hv235_0 := hcc235 0 _ rfl
                        rw [Nat.add_zero, show ((Kd.slice 3 (Kd.int .i64))).sz = 1 from rfl, Nat.mul_one] at hv235_0
                        replace hv235_0 := Option.some.inj (hv235_0.symm.trans hx235_0)
                        rw [hv235_0] at ge235_0
                        have HL235_0 := Aside0.mk (show Kd.R (Kd.int .i64) 3 _ _ _ _ (rd_L1 x5_2 (rd t225 x19_1)) from ge235_0)
                        clear hv235_0 ge235_0
                        have HX235_0 := Aside0.mk hx235_0
                        clear hcc235 hce235
                        have HR235_0 := Aside0.mk hi235_0
                        have HC235_0 := Aside0.mk hl235_0
                        clear hi235_0 hl235_0
                        replace p235 := eq_true p235
                        replace q235 := eq_true q235
                        obtain ⟨go22, co22, eo22, gb22, gl22, cl22, HG22⟩ := Kd.S_form HO_5.out (by have h_ : ((rd t225 x19_1) : Int) < ((x5_2.length : Int) : Int) := of_decide_eq_true (by first | (with_reducible assumption) | assumption); have h2_ : 0 ≤ ((rd t225 x19_1) : Int) := (of_decide_eq_true (by first | (with_reducible assumption) | assumption)); omega)
                        (first | cases eo22 | (injection eo22 with ea_ en_ ec_; (first | subst ea_ | (injection ea_ with ea_; subst ea_)); subst ec_; clear en_))
                        have GB22 := Aside0.mk gb22
                        have GG22 := Aside0.mk HG22
                        clear gb22 gl22 HG22
                        (first | simp only [add_plain] at hx235_0 | skip)
                        obtain ⟨oki22, ce22, hcl22, hM22, hcc22, _, _, hH22⟩ := Kd.S_elem HO_5.out [] ((rd t225 x19_1) : Int) (of_decide_eq_true (by first | (with_reducible assumption) | assumption)) (by have h_ : ((rd t225 x19_1) : Int) < ((x5_2.length : Int) : Int) := of_decide_eq_true (by first | (with_reducible assumption) | assumption); first | exact h_ | (have e_ := (Kd.S_reads' HO_5.out).1; omega) | simpa using h_)
                        obtain ⟨ve22_0, rfl, ge22_0⟩ := hM22
                        have hv22 := hcc22 0 _ rfl
                        have hX22 := HX235_0.out
                        (try simp only [add_plain] at hX22)
                        (try simp only [Nat.add_zero] at hv22)
                        (try rw [show ((Kd.slice 3 (Kd.int .i64))).sz = 1 from rfl, Nat.mul_one] at hv22)
                        replace hv22 := Option.some.inj (hv22.symm.trans hX22)
                        subst hv22
                        clear hX22 hcc22 hcl22
                        have UU22 := Aside0.mk (show Kd.R (Kd.int .i64) 3 _ w.heap.size oki22 (.slice A235_0 (rd_L1 x5_2 (rd t225 x19_1)).length c235_0) (rd_L1 x5_2 (rd t225 x19_1)) from ge22_0)
                        have HH22 := Aside0.mk hH22
                        have HN22 := Aside0.mk (Kd.S_reads' HO_5.out).1
                        clear hH22 ge22_0
                        go_wp2_with (first | ((with_reducible refine gate_builtin (b := .append) (xs := #[.tmp 37, .tmp 39]) rfl ?_); at_builtin; refine Kd.R_append (Kd.int .i64) (w0 := w) w.heap.size rfl (.tmp 37) (.tmp 39) 35 3 (.int .i64 0) 8 rfl Tryd.underlying35 info3 rfl (by decide) (by omega) (.slice A235_0 (rd_L1 x5_2 (rd t225 x19_1)).length c235_0) (rd_L1 x5_2 (rd t225 x19_1)) x19_1 [.int .i64 x19_1] (fun k_ => oki22 k_ ∨ ((fun k_ => some k_ ≠ (.slice (some ad228) t225.length co6 : Value).ownBlock)) k_ ∧ wr.heap.size ≤ k_) (fun _ => False) rfl rfl ?aP (fun _ hk => hk.elim) ?aF ?aO ?aB ?aS ?aL ?_; (case aP => exact rfl); (case aB => exact (by repeat (first | (with_reducible first | exact HB.out | apply below_alloc | apply pw_below_drewN | apply below_drew1) | exact HB.out))); (case aF => exact (fun k_ hk => .inr ⟨Kd.fresh' (Kd.R_lt (by (with_reducible repeat (first | apply Kd.Q_alloc | apply Kd.Q_drewN | apply Kd.Q_drew)); exact HO_17.out)) k_ hk, hk⟩)); (case aO => exact (by (with_reducible repeat (first | apply Kd.Q_alloc | apply Kd.Q_drewN | apply Kd.Q_drew)); exact Kd.R_mono UU22.out (fun _ hk => .inl hk))); (case aS => exact (below_size (by repeat (first | (with_reducible first | exact HB.out | apply below_alloc | apply pw_below_drewN | apply below_drew1) | exact HB.out)))); (case aL => have := LMc19.out; omega); intro v237 w23 ho hb hg hat; rw [← Ny236.out] at ho; have n0_ := Aside0.mk (Kd.R_grown2 (by (with_reducible repeat (first | apply Kd.Q_alloc | apply Kd.Q_drewN | apply Kd.Q_drew)); exact HO_17.out) rfl hg (fun k_ e_ => (HL235_0.out.1 k_ e_).1)); have n1_ := Aside0.mk (hb); have n2_ := Aside0.mk (Kd.H_grown (Kd.H_widen (by repeat (first | exact HH22.out | refine Kd.H_alloc ?_ _ | refine Kd.H_drewN ?_ _ | refine Kd.H_drew ?_))) hg (fun k_ e_ => .inl (UU22.out.1 k_ e_))); have n3_ := Aside0.mk (ho); clear HO_17; clear HB; clear HH22; clear HO_5; clear UU22; clear HL235_0; have HO_17 := n0_; have HB := n1_; have HH22 := n2_; have HO238 := n3_; clear n0_ n1_ n2_ n3_; clear ho hb hg hat; have p20 : 0 ≤ ((rd t225 x19_1) : Int) := of_decide_eq_true (by first | (with_reducible assumption) | assumption); have q20 : ((rd t225 x19_1) : Int) < ((x5_2.length : Int) : Int) := of_decide_eq_true (by first | (with_reducible assumption) | assumption); replace p20 := eq_true p20; replace q20 := eq_true q20; obtain ⟨Ao26, co26, eo26⟩ := Kd.R_slice HO238.out; subst eo26; obtain ⟨_, _, hraw24, _, _, hcc24, _⟩ := Kd.H_raw HH22.out (of_decide_eq_true (by first | (with_reducible assumption) | assumption)) (by have h_ : ((rd t225 x19_1) : Int) < ((x5_2.length : Int) : Int) := of_decide_eq_true (by first | (with_reducible assumption) | assumption); first | exact h_ | (have e_ := (HN22.out); omega) | simpa using h_); obtain ⟨_, hfr24⟩ := Kd.H_at HH22.out (of_decide_eq_true (by first | (with_reducible assumption) | assumption)) (by have h_ : ((rd t225 x19_1) : Int) < ((x5_2.length : Int) : Int) := of_decide_eq_true (by first | (with_reducible assumption) | assumption); first | exact h_ | (have e_ := (HN22.out); omega) | simpa using h_); have hx24_0 := hcc24 0 _ rfl; have hf24_0 := hfr24 0; (try simp only [Nat.add_zero] at hx24_0 hf24_0); (try rw [show ((Kd.slice 3 (Kd.int .i64))).sz = 1 from rfl, Nat.mul_one] at hx24_0); (try rw [show ((Kd.slice 3 (Kd.int .i64))).sz = 1 from rfl, Nat.mul_one] at hf24_0); have HP24 := Kd.S_seg0 HH22.out (of_decide_eq_true (by first | (with_reducible assumption) | assumption)) (by have h_ : ((rd t225 x19_1) : Int) < ((x5_2.length : Int) : Int) := of_decide_eq_true (by first | (with_reducible assumption) | assumption); first | exact h_ | (have e_ := (HN22.out); omega) | simpa using h_) (seg := [.slice Ao26 y236.length co26]) (j := 0) (show 1 ≤ 1 from by decide) (x' := y236) (Kd.M_row HO238.out) (fun _ hk => hk); (try simp only [show ((Kd.slice 3 (Kd.int .i64))).sz = 1 from rfl, Nat.mul_one, Nat.add_zero] at HP24); clear hcc24 hfr24) | ((with_reducible refine gate_store (t := 35) (p := 41) rfl ?_); refine store_event (t := 35) (p := 41) (v := ?vo_w25) (w1 := (w23.setCell ⟨go22, ((rd t225 x19_1) : Int).toNat, none⟩ (.slice Ao26 y236.length co26))) ?hg ?ho ?hn ?hr ?_; (case ho => rfl); (case hg => rfl); (case hn => rfl); (case hr => first | (go_simp; done) | (go_simp; rfl)); intro w25 hw; have hg : w23.grownBy w25 (some go22) := (by rw [hw]; exact HP24.2); have hp_ : Kd.S (Kd.slice 3 (Kd.int .i64)) 35 w25 w.heap.size (fun k_ => some k_ ≠ (.slice (some ad228) t225.length co6 : Value).ownBlock) (.slice (some ⟨go22, 0, none⟩) x5_2.length co21) y239 := (by rw [hw, Ny239.out]; exact HP24.1); clear HP24; have n0_ := Aside0.mk (Kd.R_over' (v := (.slice (some ⟨go22, 0, none⟩) x5_2.length co21)) (by (with_reducible repeat (first | apply Kd.Q_alloc | apply Kd.Q_drewN | apply Kd.Q_drew)); exact HO_17.out) (Kd.R_typed hraw24) (by decide) hg); have n1_ := Aside0.mk ((by rw [hw]; exact below_set HB.out GB22.out : Below w.heap.size w w25)); have n2_ := Aside0.mk (hp_); clear HO_17; clear HB; clear HO238; clear HH22; have HO_17 := n0_; have HB := n1_; have HO_5 := n2_; clear n0_ n1_ n2_; clear hg hw hp_ hraw24))
                        go_roundg k2
                        case measure => have := HK1.out; have := HK2.out; omega
                        case rel => exact ⟨(y239), (wrap64 (x19_1 + 1)), (by first | rfl | (simp; done) | (simp [*]; done)), H', ⟨by have := HK1.out; have := HK2.out; omega⟩, ⟨by (with_reducible repeat (first | apply Kd.S_alloc | apply Kd.S_drewN | apply Kd.S_drew)); exact HO_5.out⟩, ⟨by (with_reducible repeat (first | apply Kd.R_alloc | apply Kd.R_drewN | apply Kd.R_drew)); exact HO_17.out⟩, ⟨by repeat (first | (with_reducible first | exact HB.out | apply below_alloc | apply pw_below_drewN | apply below_drew1) | exact HB.out)⟩⟩
                      · rw [if_neg c19] at H
                        exact absurd H (by simp)
                    · rw [if_neg c18] at H
                      exact absurd H (by simp)
                  · rw [if_neg c17] at H
                    exact absurd H (by simp)
          · rw [if_neg c9] at H
            exact absurd H (by simp)
        · rw [if_neg c8] at H
          exact absurd H (by simp)
      · rw [if_neg c7] at H
        have c7b0 : decide (x19_1 < (t225.length : Int)) = false := decide_eq_false c7
        clear c7
        obtain rfl := Option.some.inj H
        go_wp2
        go_ret
        exact ⟨_, by first | rfl | (simp [errW_none, errW_some] <;> rfl) | (simp [*, errW_none, errW_some] <;> rfl), by (with_reducible repeat (first | apply Kd.S_alloc | apply Kd.S_drewN | apply Kd.S_drew)); exact Kd.S_mono HO_5.out (fun _ hk => trivial), by repeat (first | (with_reducible first | exact HB.out | apply below_alloc | apply pw_below_drewN | apply below_drew1) | exact HB.out)⟩
end Go.Proofs.YtekajandipdlhaaDoor.P
end
section
set_option linter.unusedVariables false
set_option linter.unusedSimpArgs false
namespace Go.Proofs.YtekajandipdlhaaDoor.Core
open Go Go.RowKit Go.Proofs.YtekajandipdlhaaDoorW.PrintWords Go.Proofs.YtekajandipdlhaaDoorW.PrintMore Go.Proofs.YtekajandipdlhaaDoor.P
/-- A task put to its stage. -/
def putS (out : List (List Int)) (i s : Nat) : List (List Int) :=
  (out ++ List.replicate (s + 1 - out.length) []).set s ((out ++ List.replicate (s + 1 - out.length) []).getD s [] ++ [(i : Int)])
def soGo : List Nat → Nat → List (List Int) → List (List Int)
  | [], _, out => out
  | s :: r, i, out => soGo r (i + 1) (putS out i s)
def stagesOfD (g : List Tk) : List (List Int) := match graphD g with
  | none => []
  | some G => soGo (stagesN G) 0 []
/-- Few and short. -/
def fewS (b : Nat) (out : List (List Int)) : Prop := out.length ≤ 1000 ∧ ∀ x ∈ out, x.length ≤ b
theorem fewS_pad {b : Nat} {out : List (List Int)} (h : fewS b out) {s : Nat} (hs : s < 1000) : fewS b (out ++ List.replicate (s + 1 - out.length) []) := by
  refine ⟨by rw [List.length_append, List.length_replicate]; have := h.1; omega, fun x hx => ?_⟩
  rcases List.mem_append.1 hx with hx | hx
  · exact h.2 x hx
  · rw [(List.mem_replicate.1 hx).2]; simp
theorem fewS_get {b : Nat} {out : List (List Int)} (h : fewS b out) (s : Nat) : (out.getD s []).length ≤ b := by
  rw [List.getD_eq_getElem?_getD]
  cases e : out[s]? with
  | none => simp
  | some x => exact h.2 x (List.mem_of_getElem? e)
theorem fewS_put {b : Nat} {out : List (List Int)} (h : fewS b out) (i : Nat) {s : Nat} (hs : s < 1000) : fewS (b + 1) (putS out i s) := by
  have hp := fewS_pad h hs
  refine ⟨by unfold putS; rw [List.length_set]; exact hp.1, fun x hx => ?_⟩
  unfold putS at hx
  rcases List.mem_or_eq_of_mem_set hx with hx | hx
  · exact Nat.le_succ_of_le (hp.2 x hx)
  · rw [hx, List.length_append]
    have := fewS_get hp s
    simp only [List.length_singleton]
    omega
theorem ev_so1 {S : List Nat} {i s : Nat} (hs : s < 1000) {R : List (List Int)} : ∀ (d : Nat) (out : List (List Int)), s + 1 - out.length = d → fewS 1000 out →
    Ev (fun k => impl_StagesOf0.l0 k (putS out i s) (up S) ((up S).length : Int) (wrap64 ((i : Int) + 1))) R → Ev (fun k => impl_StagesOf0.l1 k out (i : Int) (s : Int) (up S) ((up S).length : Int) (i : Int)) R
  | 0, out, hd, hf, h => by
    have hl := hf.1
    have e : putS out i s = out.set s (out.getD s [] ++ [(i : Int)]) := by unfold putS; rw [hd, List.replicate_zero, List.append_nil]
    rw [e] at h
    refine Ev.succ (h.of fun k => ?_)
    have hg := fewS_get hf s
    have hrd : rd_L1 out (s : Int) = out.getD s [] := by simp [rd_L1]
    rw [impl_StagesOf0.l1, if_neg (by omega), if_pos (by omega), if_pos (by omega), hrd, if_pos (by omega), Int.toNat_natCast]
  | d + 1, out, hd, hf, h => by
    have hl := hf.1
    have e : putS (out ++ [[]]) i s = putS out i s := by
      unfold putS
      have : out ++ [[]] ++ List.replicate (s + 1 - (out ++ [([] : List Int)]).length) [] = out ++ List.replicate (s + 1 - out.length) [] := by
        rw [List.append_assoc, List.length_append, List.length_singleton, hd, show s + 1 - (out.length + 1) = d by omega, List.replicate_succ]
        rfl
      rw [this]
    have hf2 : fewS 1000 (out ++ [[]]) := ⟨by rw [List.length_append, List.length_singleton]; omega, fun x hx => by
      rcases List.mem_append.1 hx with hx | hx
      · exact hf.2 x hx
      · rw [List.mem_singleton.1 hx]; simp⟩
    have := ev_so1 (S := S) (i := i) hs (R := R) d (out ++ [[]]) (by rw [List.length_append, List.length_singleton]; omega) hf2 (by rw [e]; exact h)
    refine Ev.succ (this.of fun k => ?_)
    rw [impl_StagesOf0.l1, if_pos (by omega), if_pos (by omega)]
theorem ev_so (S : List Nat) (hS : S.length ≤ 900) (hs : ∀ x ∈ S, x < 1000) : ∀ (r pre : List Nat) (out : List (List Int)), S = pre ++ r → fewS pre.length out → Ev (fun k => impl_StagesOf0.l0 k out (up S) ((up S).length : Int) (pre.length : Int)) (soGo r pre.length out)
  | [], pre, out, hp, hf => by
    rw [List.append_nil] at hp
    refine Ev.succ ((Ev.const _).of fun k => ?_)
    rw [impl_StagesOf0.l0, if_neg (by rw [up_length, hp]; omega)]
    rfl
  | s :: r, pre, out, hp, hf => by
    have hl : S.length = pre.length + (r.length + 1) := by rw [hp]; simp
    have hsx := hs s (by rw [hp]; simp)
    have hrd : rd (up S) (pre.length : Int) = (s : Int) := by rw [rd_up (i := pre.length) rfl, hp]; simp
    have hput := fewS_put hf pre.length hsx
    have ih := ev_so S hS hs r (pre ++ [s]) (putS out pre.length s) (by rw [hp]; simp) (by rw [List.length_append, List.length_singleton]; exact hput)
    rw [List.length_append, List.length_singleton] at ih
    have h1 := ev_so1 (S := S) (i := pre.length) hsx (R := soGo r (pre.length + 1) (putS out pre.length s)) _ out rfl ⟨hf.1, fun x hx => by have := hf.2 x hx; omega⟩ (by rw [w64 (by omega) (by omega)]; exact_mod_cast ih)
    refine Ev.succ (h1.of fun k => ?_)
    rw [impl_StagesOf0.l0, if_pos (by rw [up_length]; omega), if_pos (by omega), if_pos (by rw [up_length]; omega), hrd]
theorem stagesN_few (G : GD) (ok : GOk G) : (stagesN G).length ≤ 8 ∧ ∀ x ∈ stagesN G, x ≤ 64 := by
  have h8 := ok.n8
  have ho := ok.ol
  refine ⟨by unfold stagesN; rw [stTo_length]; exact h8, fun x hx => ?_⟩
  obtain ⟨i, hi, e⟩ := List.mem_iff_getElem.1 hx
  have := stTo_le G.needs G.tasks.length G.order i
  rw [List.getD_eq_getElem?_getD, show (stTo G.needs G.tasks.length G.order)[i]? = some x from by rw [← e]; exact List.getElem?_eq_getElem hi] at this
  simp only [Option.getD_some] at this
  omega
end Go.Proofs.YtekajandipdlhaaDoor.Core
namespace Go.Proofs.YtekajandipdlhaaDoor.P
open Go Go.RowKit Go.Shelf Go.Proofs.YtekajandipdlhaaDoorW.PrintWords Go.Proofs.YtekajandipdlhaaDoorW.PrintLast Go.Proofs.YtekajandipdlhaaDoorW.PrintMore Go.Proofs.YtekajandipdlhaaDoor.Core
attribute [local go_sem] Oper.semAt_some wide_fn wide_depth
def impl_StagesOf.f (l0 : List S37) : Option (List (List Int)) := some (stagesOfD l0)
set_option maxRecDepth 100000 in
set_option maxHeartbeats 4000000 in
theorem impl_StagesOf.calls (A0 : Option Addr) (c0 : Nat) (l0 : List S37) (r : List (List Int)) (w : World) (hr0 : Kd.C k37 w A0 l0.length l0) (hc0 : l0.length ≤ c0) (hT : Tab w) (h : impl_StagesOf.f l0 = some r) :
    Calls Tryd.prog 53 #[.slice A0 l0.length c0] w fun e w' => ∃ v0_ : Value, e = .returned (v0_) ∧ Kd.S (Kd.slice 3 (Kd.int .i64)) 35 w' w.heap.size (fun _ => True) v0_ r ∧ Below w.heap.size w w' := by
  have hr : r = stagesOfD l0 := (Option.some.inj h).symm
  subst hr
  clear h
  cases hg : graphD l0 with
  | none =>
    have hcd : stagesOfD l0 = [] := by unfold stagesOfD; rw [hg]
    rw [hcd]
    have HG := Aside0.mk (graphOf_none A0 c0 l0 w hT hr0 hc0 hg)
    clear hr0 hT hg hcd
    go_enter Tryd.func53, Tryd.ntmps53
    go_wp2_with (go_at_call 60; refine HG.out.mono ?_; rintro e w' ⟨rfl, hB⟩)
    go_ret
    exact ⟨_, rfl, Kd.S_nil _ _ _ _ _, hB⟩
  | some G =>
    have hcd : stagesOfD l0 = soGo (stagesN G) 0 [] := by unfold stagesOfD; rw [hg]
    rw [hcd]
    obtain ⟨h1, h2⟩ := stagesN_few G (graphD_ok hg)
    obtain ⟨k, hk⟩ := ev_so (stagesN G) (by omega) (fun x hx => by have := h2 x hx; omega) (stagesN G) [] [] rfl ⟨by simp, by simp⟩
    refine impl_StagesOf0.calls k A0 c0 l0 _ w hr0 hc0 G hT hg ?_
    have := hk k (Nat.le_refl _)
    unfold impl_StagesOf0.f impl_stages.f
    rw [hg]
    exact this
end Go.Proofs.YtekajandipdlhaaDoor.P
end
section
set_option linter.unusedVariables false
set_option linter.unusedSimpArgs false
namespace Go.Proofs.YtekajandipdlhaaDoor.Core
open Go Go.RowKit Go.Proofs.YtekajandipdlhaaDoorW.PrintWords Go.Proofs.YtekajandipdlhaaDoorW.PrintMore Go.Proofs.YtekajandipdlhaaDoor.P
theorem VG.len {g : List Tk} {G : GD} (v : VG g G) : G.order.length = g.length := by
  have := v.ord.len
  rw [v.nl, zb_full _ _ (Nat.le_refl _)] at this
  omega
end Go.Proofs.YtekajandipdlhaaDoor.Core
end
section
set_option linter.unusedVariables false
set_option linter.unusedSimpArgs false
namespace Go.Proofs.YtekajandipdlhaaDoor.Core
open Go Go.RowKit Go.Proofs.YtekajandipdlhaaDoorW.PrintWords Go.Proofs.YtekajandipdlhaaDoorW.PrintMore Go.Proofs.YtekajandipdlhaaDoor.P
theorem fold_s (i : Nat) : ∀ (ks : List Nat) (B : List Nat), i < B.length → (∀ m ∈ ks, m ≠ i) →
    (∀ j, j ≠ i → (ks.foldl (sStep i) B).getD j 0 = B.getD j 0) ∧ (∀ m ∈ ks, B.getD m 0 + 1 ≤ (ks.foldl (sStep i) B).getD i 0) ∧ B.getD i 0 ≤ (ks.foldl (sStep i) B).getD i 0 ∧ ((ks.foldl (sStep i) B).getD i 0 = B.getD i 0 ∨ ∃ m ∈ ks, (ks.foldl (sStep i) B).getD i 0 = B.getD m 0 + 1)
  | [], B, hi, hk => ⟨fun _ _ => rfl, (fun _ h => by cases h), Nat.le_refl _, .inl rfl⟩
  | m :: ks, B, hi, hk => by
    have hm : m ≠ i := hk m List.mem_cons_self
    have hk' : ∀ x ∈ ks, x ≠ i := fun x hx => hk x (List.mem_cons_of_mem _ hx)
    obtain ⟨h1, h2, h3, h4⟩ := fold_s i ks (sStep i B m) (by unfold sStep; rw [List.length_set]; exact hi) hk'
    have e1 : ∀ j, j ≠ i → (sStep i B m).getD j 0 = B.getD j 0 := by
      intro j hj
      unfold sStep
      rw [List.getD_eq_getElem?_getD, List.getElem?_set_ne (Ne.symm hj), ← List.getD_eq_getElem?_getD]
    have e2 : (sStep i B m).getD i 0 = max (B.getD i 0) (B.getD m 0 + 1) := by
      unfold sStep
      rw [List.getD_eq_getElem?_getD, List.getElem?_set_self hi]
      rfl
    rw [List.foldl_cons]
    rw [e2] at h3 h4
    refine ⟨fun j hj => (h1 j hj).trans (e1 j hj), fun x hx => ?_, by omega, ?_⟩
    · rcases List.mem_cons.1 hx with rfl | hx
      · omega
      · have := h2 x hx
        rwa [e1 x (hk' x hx)] at this
    · rcases h4 with h4 | ⟨x, hx, h4⟩
      · by_cases hc : B.getD m 0 + 1 ≤ B.getD i 0
        · exact .inl (by omega)
        · exact .inr ⟨m, List.mem_cons_self, by omega⟩
      · rw [e1 x (hk' x hx)] at h4
        exact .inr ⟨x, List.mem_cons_of_mem _ hx, h4⟩
def SInv (N : List Nat) (n : Nat) (pre : List Nat) (B : List Nat) : Prop :=
  B.length = n ∧ (∀ i, i ∉ pre → B.getD i 0 = 0) ∧ ∀ i ∈ pre, (∀ m, (N.getD i 0).testBit m = true → B.getD m 0 + 1 ≤ B.getD i 0) ∧ (B.getD i 0 = 0 ∨ ∃ m, (N.getD i 0).testBit m = true ∧ B.getD i 0 = B.getD m 0 + 1)
theorem sinv_step {N L : List Nat} {n : Nat} (hn : n ≤ 8) (hnd : L.Nodup) (hlt : ∀ i ∈ L, i < n) (hnx : ∀ pre i suf, L = pre ++ i :: suf → ∀ k, (N.getD i 0).testBit k = true → k ∈ pre) :
    ∀ (pre suf : List Nat), L = pre ++ suf → SInv N n pre (stTo N n pre) := by
  have key : ∀ (c : Nat) (pre suf : List Nat), pre.length = c → L = pre ++ suf → SInv N n pre (stTo N n pre) := by
    intro c
    induction c with
    | zero =>
      intro pre suf hl hL
      have : pre = [] := List.length_eq_zero_iff.1 hl
      subst this
      refine ⟨stTo_length _ _ _, fun i _ => ?_, fun i hi => by cases hi⟩
      show (List.replicate n 0).getD i 0 = 0
      rw [List.getD_eq_getElem?_getD, List.getElem?_replicate]
      split <;> rfl
    | succ c ih =>
      intro pre suf hl hL
      obtain ⟨pre0, i, rfl⟩ : ∃ t z, pre = t ++ [z] := by
        have hne : pre ≠ [] := by intro h; rw [h] at hl; simp at hl
        exact ⟨pre.dropLast, pre.getLast hne, (List.dropLast_concat_getLast hne).symm⟩
      have hL' : L = pre0 ++ i :: suf := by rw [hL]; simp
      obtain ⟨hlen, h0, hI⟩ := ih pre0 (i :: suf) (by simp at hl; omega) hL'
      have hni : i ∉ pre0 := by
        intro hm
        rw [hL', List.nodup_append] at hnd
        exact hnd.2.2 i hm i List.mem_cons_self rfl
      have hil : i < n := hlt i (by rw [hL']; simp)
      have hneed := hnx pre0 i suf hL'
      have hel : ∀ m, m ∈ elemsN (N.getD i 0) ↔ (N.getD i 0).testBit m = true := by
        intro m
        rw [mem_elemsN]
        refine ⟨fun h => h.2, fun h => ⟨?_, h⟩⟩
        have := hlt m (by rw [hL']; exact List.mem_append_left _ (hneed m h))
        omega
      have hmi : ∀ m, (N.getD i 0).testBit m = true → m ≠ i := fun m hm e => hni (e ▸ hneed m hm)
      obtain ⟨f1, f2, f3, f4⟩ := fold_s i (elemsN (N.getD i 0)) (stTo N n pre0) (by rw [hlen]; exact hil) (fun m hm => hmi m ((hel m).1 hm))
      rw [stTo_snoc]
      refine ⟨by rw [sfold_length, hlen], fun j hj => ?_, fun j hj => ?_⟩
      · simp only [List.mem_append, List.mem_singleton, not_or] at hj
        exact (f1 j hj.2).trans (h0 j hj.1)
      · rcases List.mem_append.1 hj with hj | hj
        · have hji : j ≠ i := fun e => hni (e ▸ hj)
          have hjm : ∀ m, (N.getD j 0).testBit m = true → m ≠ i := by
            intro m hm e
            obtain ⟨a, b, hab⟩ := List.append_of_mem hj
            have := hnx a j (b ++ i :: suf) (by rw [hL', hab]; simp) m hm
            exact hni (by rw [← e, hab]; exact List.mem_append_left _ this)
          obtain ⟨g1, g2⟩ := hI j hj
          rw [f1 j hji]
          refine ⟨fun m hm => by rw [f1 m (hjm m hm)]; exact g1 m hm, g2.imp_right ?_⟩
          rintro ⟨m, hm, h⟩
          exact ⟨m, hm, by rw [f1 m (hjm m hm)]; exact h⟩
        · rw [List.mem_singleton.1 hj]
          rw [h0 i hni] at f4
          refine ⟨fun m hm => by rw [f1 m (hmi m hm)]; exact f2 m ((hel m).2 hm), f4.imp_right ?_⟩
          rintro ⟨m, hm, h⟩
          exact ⟨m, (hel m).1 hm, by rw [f1 m (hmi m ((hel m).1 hm))]; exact h⟩
  exact fun pre suf h => key pre.length pre suf rfl h
theorem VG.stage {g : List Tk} {G : GD} (v : VG g G) {i : Nat} (hi : i < g.length) : (∀ m, (G.needs.getD i 0).testBit m = true → (stagesN G).getD m 0 + 1 ≤ (stagesN G).getD i 0) ∧ ((stagesN G).getD i 0 = 0 ∨ ∃ m, (G.needs.getD i 0).testBit m = true ∧ (stagesN G).getD i 0 = (stagesN G).getD m 0 + 1) := by
  have h := sinv_step (N := G.needs) (L := G.order) v.n8 v.ord.nodup (fun i hi => v.mem.1 hi) v.ord.needs G.order [] (by simp)
  unfold stagesN
  rw [v.tasks]
  exact h.2.2 i (v.mem.2 hi)
end Go.Proofs.YtekajandipdlhaaDoor.Core
end
section
set_option linter.unusedVariables false
set_option linter.unusedSimpArgs false
namespace Go.Proofs.YtekajandipdlhaaDoor.Core
open Go Go.RowKit Go.Proofs.YtekajandipdlhaaDoorW.PrintWords Go.Proofs.YtekajandipdlhaaDoorW.PrintMore Go.Proofs.YtekajandipdlhaaDoor.P
/-- How many stages the first n tasks have. -/
def mS (S : List Nat) : Nat → Nat
  | 0 => 0
  | n + 1 => max (mS S n) (S.getD n 0 + 1)
theorem mS_lt (S : List Nat) : ∀ {n i : Nat}, i < n → S.getD i 0 < mS S n
  | n + 1, i, h => by
    rw [mS]
    by_cases e : i = n
    · subst e; omega
    · have := mS_lt S (n := n) (i := i) (by omega); omega
theorem mS_at (S : List Nat) : ∀ {n : Nat}, 0 < mS S n → ∃ i, i < n ∧ mS S n = S.getD i 0 + 1
  | 0, h => by simp [mS] at h
  | n + 1, h => by
    rw [mS] at h ⊢
    by_cases hc : mS S n ≤ S.getD n 0 + 1
    · exact ⟨n, by omega, by omega⟩
    · obtain ⟨i, hi, e⟩ := mS_at S (n := n) (by omega)
      exact ⟨i, by omega, by omega⟩
theorem partN_none (S : List Nat) {n t : Nat} (h : mS S n ≤ t) : partN S t n = [] := by
  unfold partN
  rw [List.filter_eq_nil_iff]
  intro i hi
  have := mS_lt S (List.mem_range.1 hi)
  simp only [decide_eq_true_eq]
  omega
def rowsS (S : List Nat) (n m : Nat) : List (List Int) := (List.range m).map fun s => up (partN S s n)
theorem rowsS_pad (S : List Nat) (n d : Nat) : rowsS S n (mS S n) ++ List.replicate d [] = rowsS S n (mS S n + d) := by
  unfold rowsS
  rw [List.range_add, List.map_append, List.map_map]
  congr 1
  refine List.ext_getElem (by simp) fun i h1 h2 => ?_
  rw [List.getElem_replicate, List.getElem_map]
  simp only [Function.comp]
  rw [partN_none S (by omega)]
  rfl
theorem putS_rows (S : List Nat) (n : Nat) : putS (rowsS S n (mS S n)) n (S.getD n 0) = rowsS S (n + 1) (mS S (n + 1)) := by
  have hl : (rowsS S n (mS S n)).length = mS S n := by simp [rowsS]
  unfold putS
  rw [hl, rowsS_pad, show mS S n + (S.getD n 0 + 1 - mS S n) = mS S (n + 1) by rw [mS]; omega]
  have hs : S.getD n 0 < mS S (n + 1) := mS_lt S (by omega)
  refine List.ext_getElem (by simp [rowsS]) fun i h1 h2 => ?_
  have hi : i < mS S (n + 1) := by simpa [rowsS] using h2
  rw [List.getElem_set]
  by_cases e : S.getD n 0 = i
  · rw [if_pos e]
    have e2 : (rowsS S n (mS S (n + 1))).getD (S.getD n 0) [] = up (partN S (S.getD n 0) n) := by
      rw [List.getD_eq_getElem?_getD, List.getElem?_eq_getElem (by simp [rowsS]; exact hs)]
      simp [rowsS]
    rw [e2]
    have e3 : (rowsS S (n + 1) (mS S (n + 1)))[i] = up (partN S i (n + 1)) := by simp [rowsS]
    rw [e3, partN_succ, if_pos e, e]
    simp [up]
  · rw [if_neg e]
    have e3 : (rowsS S (n + 1) (mS S (n + 1)))[i] = up (partN S i (n + 1)) := by simp [rowsS]
    have e4 : (rowsS S n (mS S (n + 1)))[i]'(by simp [rowsS]; exact hi) = up (partN S i n) := by simp [rowsS]
    rw [e3, partN_succ, if_neg e]
    exact e4
theorem soGo_rows (S : List Nat) : ∀ (r pre : List Nat), S = pre ++ r → soGo r pre.length (rowsS S pre.length (mS S pre.length)) = rowsS S S.length (mS S S.length)
  | [], pre, h => by
    rw [List.append_nil] at h
    rw [soGo, h]
  | s :: r, pre, h => by
    have hs : S.getD pre.length 0 = s := by rw [h, List.getD_eq_getElem?_getD]; simp
    have ih := soGo_rows S r (pre ++ [s]) (by rw [h]; simp)
    rw [List.length_append, List.length_singleton] at ih
    rw [soGo, ← hs, putS_rows, ih]
theorem parts_rows (S : List Nat) (n : Nat) (hne : ∀ s, s < mS S n → partN S s n ≠ []) : ∀ s, partsTo S n s = rowsS S n (min s (mS S n))
  | 0 => by simp [partsTo, rowsS]
  | s + 1 => by
    have ih := parts_rows S n hne s
    unfold partsTo
    by_cases h : s < mS S n
    · rw [if_neg (hne s h), ih, show min s (mS S n) = s by omega, show min (s + 1) (mS S n) = s + 1 by omega]
      unfold rowsS
      rw [List.range_succ, List.map_append]
      rfl
    · rw [if_pos (partN_none S (by omega)), ih, show min s (mS S n) = mS S n by omega, show min (s + 1) (mS S n) = mS S n by omega]
/-- Each stage up to a task's has a task. -/
theorem VG.stage_down {g : List Tk} {G : GD} (v : VG g G) : ∀ (d i s : Nat), i < g.length → s + d = (stagesN G).getD i 0 → ∃ k, k < g.length ∧ (stagesN G).getD k 0 = s
  | 0, i, s, hi, h => ⟨i, hi, by omega⟩
  | d + 1, i, s, hi, h => by
    rcases (v.stage hi).2 with h0 | ⟨m, hm, h0⟩
    · omega
    · have hml : m < g.length := by
        have h1 := getD_lt v.nb i
        have h2 : 2 ^ m < 2 ^ g.length := Nat.lt_of_le_of_lt (Nat.ge_two_pow_of_testBit hm) h1
        exact (Nat.pow_lt_pow_iff_right (by omega)).1 h2
      exact v.stage_down d m s hml (by omega)
theorem VG.part_ne {g : List Tk} {G : GD} (v : VG g G) {s : Nat} (hs : s < mS (stagesN G) g.length) : partN (stagesN G) s g.length ≠ [] := by
  obtain ⟨i, hi, e⟩ := mS_at (stagesN G) (n := g.length) (by omega)
  obtain ⟨k, hk, ek⟩ := v.stage_down ((stagesN G).getD i 0 - s) i s hi (by omega)
  intro he
  have : k ∈ partN (stagesN G) s g.length := List.mem_filter.2 ⟨List.mem_range.2 hk, by simpa using ek⟩
  rw [he] at this
  cases this
end Go.Proofs.YtekajandipdlhaaDoor.Core
end
