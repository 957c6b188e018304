/- The law FnUselessNeeds holds of the given program: the proof's own part, with its row and its card, part 4 of 12. -/
import Derived.Test.YtekajandipdlhaaDoorZFnUselessNeeds3
import Derived.Laws.Bits64
section
namespace Go.Proofs.YtekajandipdlhaaDoor.P
open Go.RowKit Go.Proofs.YtekajandipdlhaaDoorW.PrintWords Go.Proofs.YtekajandipdlhaaDoorW.PrintLast Go.Proofs.YtekajandipdlhaaDoorW.PrintMore
attribute [local go_sem] max2_int min2_int max_two min_two max_three min_three max_four min_four   -- for this text's walks alone
set_option linter.unusedVariables false
set_option linter.unusedSimpArgs false
def spec_reader_spoil.f (k : Nat) (s0_0 : List Int) (s0_1 : Int) (l1 : List Int) (a2 : Int) : Option (List Int × Int) := (spec_copyInts.f l1).bind fun t319 => ((spec_reader_pick.f k s0_0 s0_1 20).bind fun bt322 => (if bt322.1 = 0 then (if t319.length < 17592186044416 then (some ((t319 ++ [a2]), bt322.2)) else (none)) else (if bt322.1 = 1 then (if (t319.length : Int) > 0 then (if 1 ≤ (t319.length : Int) then (some ((t319.drop (1 : Int).toNat), bt322.2)) else (none)) else (some (t319, bt322.2))) else (if bt322.1 = 2 then (if (t319.length : Int) > 0 then ((spec_reader_pick.f k s0_0 bt322.2 (t319.length : Int)).bind fun bt330 => ((spec_reader_one.f k s0_0 bt330.2 (([(-1), a2, 0, 1] : List Int))).bind fun bt335 => (if 0 ≤ bt330.1 then (if bt330.1 < (t319.length : Int) then (some ((t319.set (bt330.1 : Int).toNat bt335.1), bt335.2)) else (none)) else (none)))) else (some (t319, bt322.2))) else (some (t319, bt322.2))))))
theorem spec_reader_spoil.mono : ∀ a0 a1 a2 a3 k, LeO (spec_reader_spoil.f k a0 a1 a2 a3) (spec_reader_spoil.f (k + 1) a0 a1 a2 a3) := by
  intro a0 a1 a2 a3 k
  unfold spec_reader_spoil.f
  repeat' first
      | (with_reducible exact spec_reader_one.mono _ _ _ _)
      | (with_reducible exact spec_reader_pick.mono _ _ _ _)
      | (with_reducible exact LeO.refl _)
      | (with_reducible exact LeO.none _)
      | (with_reducible refine LeO.ite ?_ ?_)
      | (with_reducible refine LeO.bind ?_ (fun _ => ?_))
      | exact spec_reader_one.mono _ _ _ _
      | exact spec_reader_pick.mono _ _ _ _
      | exact LeO.none _
      | refine LeO.ite ?_ ?_
      | refine LeO.bind ?_ (fun _ => ?_)
set_option maxHeartbeats 8000000 in
set_option maxRecDepth 100000 in
theorem spec_reader_spoil.calls (k : Nat) (g : Nat) (s0_0 : List Int) (s0_1 : Int) (A1 : Option Addr) (c1 : Nat) (l1 : List Int) (a2 : Int) (r1 : List Int) (r2 : Int) (w0 w : World) (hI : IsS101 w0 w g s0_0 s0_1) (hB : Below w0.heap.size w0 w) (hr1 : Kd.C (Kd.int .i64) w A1 l1.length l1) (hc1 : l1.length ≤ c1) (hf1 : ∀ ad, A1 = some ad → 0 < l1.length → ad.block ≠ g) (h : spec_reader_spoil.f k s0_0 s0_1 l1 a2 = some (r1, r2)) :
    Calls Tryd.prog 106 #[.pointer (some ⟨g, 0, none⟩), .slice A1 l1.length c1, .int .i64 a2] w fun e w' => ∃ v0_ : Value, e = .returned (v0_) ∧ Kd.Q (Kd.int .i64) 3 w' w.heap.size (fun _ => True) v0_ r1 ∧ IsS101 w0 w' g s0_0 r2 ∧ Below w0.heap.size w0 w' ∧ KeepBut w w' g none := by
  have HR1 := Aside0.mk hr1
  have HC1 := Aside0.mk hc1
  clear hr1 hc1
  have HI0 := Aside0.mk hI
  have HK := Aside0.mk (KeepBut.refl w g none)
  have HL := Aside0.mk hB.size
  clear hI
  have HW0 := Aside0.mk hB.size
  have HB := Aside0.mk hB
  clear hB
  have H : ((spec_copyInts.f l1).bind fun t319 => ((spec_reader_pick.f k s0_0 s0_1 20).bind fun bt322 => (if bt322.1 = 0 then (if t319.length < 17592186044416 then (some ((t319 ++ [a2]), bt322.2)) else (none)) else (if bt322.1 = 1 then (if (t319.length : Int) > 0 then (if 1 ≤ (t319.length : Int) then (some ((t319.drop (1 : Int).toNat), bt322.2)) else (none)) else (some (t319, bt322.2))) else (if bt322.1 = 2 then (if (t319.length : Int) > 0 then ((spec_reader_pick.f k s0_0 bt322.2 (t319.length : Int)).bind fun bt330 => ((spec_reader_one.f k s0_0 bt330.2 (([(-1), a2, 0, 1] : List Int))).bind fun bt335 => (if 0 ≤ bt330.1 then (if bt330.1 < (t319.length : Int) then (some ((t319.set (bt330.1 : Int).toNat bt335.1), bt335.2)) else (none)) else (none)))) else (some (t319, bt322.2))) else (some (t319, bt322.2))))))) = some (r1, r2) := h
  clear h
  replace H := Option.bind_eq_some_iff.mp H
  obtain ⟨t319, A40, H⟩ := H
  replace H : ((spec_reader_pick.f k s0_0 s0_1 20).bind fun bt322 => (if bt322.1 = 0 then (if t319.length < 17592186044416 then (some ((t319 ++ [a2]), bt322.2)) else (none)) else (if bt322.1 = 1 then (if (t319.length : Int) > 0 then (if 1 ≤ (t319.length : Int) then (some ((t319.drop (1 : Int).toNat), bt322.2)) else (none)) else (some (t319, bt322.2))) else (if bt322.1 = 2 then (if (t319.length : Int) > 0 then ((spec_reader_pick.f k s0_0 bt322.2 (t319.length : Int)).bind fun bt330 => ((spec_reader_one.f k s0_0 bt330.2 (([(-1), a2, 0, 1] : List Int))).bind fun bt335 => (if 0 ≤ bt330.1 then (if bt330.1 < (t319.length : Int) then (some ((t319.set (bt330.1 : Int).toNat bt335.1), bt335.2)) else (none)) else (none)))) else (some (t319, bt322.2))) else (some (t319, bt322.2)))))) = some (r1, r2) := H
  have A4 := Aside0.mk A40
  clear A40
  replace H := Option.bind_eq_some_iff.mp H
  obtain ⟨⟨t322, t323⟩, A50, H⟩ := H
  replace H : (if t322 = 0 then (if t319.length < 17592186044416 then (some ((t319 ++ [a2]), t323)) else (none)) else (if t322 = 1 then (if (t319.length : Int) > 0 then (if 1 ≤ (t319.length : Int) then (some ((t319.drop (1 : Int).toNat), t323)) else (none)) else (some (t319, t323))) else (if t322 = 2 then (if (t319.length : Int) > 0 then ((spec_reader_pick.f k s0_0 t323 (t319.length : Int)).bind fun bt330 => ((spec_reader_one.f k s0_0 bt330.2 (([(-1), a2, 0, 1] : List Int))).bind fun bt335 => (if 0 ≤ bt330.1 then (if bt330.1 < (t319.length : Int) then (some ((t319.set (bt330.1 : Int).toNat bt335.1), bt335.2)) else (none)) else (none)))) else (some (t319, t323))) else (some (t319, t323))))) = some (r1, r2) := H
  have A5 := Aside0.mk A50
  clear A50
  by_cases c6 : t322 = 0
  · rw [if_pos c6] at H
    have c6b0 : (t322 == 0) = true := beq_iff_eq.mpr c6
    have c6b1 : (t322 != 0) = false := bne_eq_false_iff_eq.mpr c6
    clear c6
    by_cases c7 : t319.length < 17592186044416
    · rw [if_pos c7] at H
      have LMc7 := Aside0.mk c7
      clear c7
      obtain ⟨y324, hy324⟩ : ∃ y_ : List Int, y_ = (t319 ++ [a2]) := ⟨_, rfl⟩
      replace H : (some (y324, t323)) = some (r1, r2) := by first | (rw [hy324]; with_reducible exact H) | (have H2_ := (Option.bind_some _ _).symm.trans H; rw [hy324]; with_reducible exact H2_) | (have H2_ := (Option.bind_some _ _).symm.trans H; with_reducible exact H2_) | with_reducible exact H | (rw [hy324]; exact H) | exact H
      have Ny324 := Aside0.mk hy324
      clear hy324
      simp only [Option.some.injEq, Prod.mk.injEq] at H
      obtain ⟨rfl, rfl⟩ := H
      go_enter Tryd.func106, Tryd.ntmps106
      go_wp2_with (first | ((with_reducible refine gate_callee (f := 115) rfl ?_); refine goesL_ (some 9) rfl rfl Tryd.func115 (by kernel_rfl) rfl #[.slice A1 l1.length c1] rfl (by (try simp only [List.map_toArray, List.map_cons, List.map_nil]); first | done | rfl | (simp only [List.length_drop, List.length_take]; rfl)) ?_; (with_reducible refine (spec_copyInts.calls _ _ l1 t319 _ ?side1 ?side2 A4.out).mono ?_); (case side1 => exact Kd.C_keep 0 HR1.out (by repeat (first | (with_reducible first | exact HK.out | apply KeepBut.set_ | apply keep_drewN | apply keep_drew | apply keep_alloc) | exact HK.out)) hf1); (case side2 => exact HC1.out); rintro e w8 ⟨v320, rfl, ho0, hb⟩; refine ⟨_, rfl, ?_⟩; have n0_ := Aside0.mk (Kd.R_lower ho0 (keep_size (w := w) (g := g) (row := none) (by repeat (first | (with_reducible first | exact HK.out | apply KeepBut.set_ | apply keep_drewN | apply keep_drew | apply keep_alloc) | exact HK.out)))); have n1_ := Aside0.mk (IsS101.below (by repeat (first | (with_reducible first | exact HI0.out | apply IsS101.alloc | apply IsS101.drewN | apply IsS101.drew | apply IsS101.set_1) | exact HI0.out)) hb); have n2_ := Aside0.mk (KeepBut.trans (by repeat (first | (with_reducible first | exact HK.out | apply KeepBut.set_ | apply keep_drewN | apply keep_drew | apply keep_alloc) | exact HK.out)) (KeepBut.of_below hb g none) (.inl rfl)); have n3_ := Aside0.mk (below_step (by repeat (first | (with_reducible first | exact HB.out | apply below_alloc | apply pw_below_drewN | apply below_drew1 | refine below_set ?_ (IsS101.ge HI0.out)) | exact HB.out)) hb); clear HI0; clear HK; clear HB; have HO321 := n0_; have HI0 := n1_; have HK := n2_; have HB := n3_; clear n0_ n1_ n2_ n3_; (try clear hb); (try clear hb2); (try clear hk); (try clear hi); (try clear ho0)) | ((with_reducible refine gate_callee (f := 104) rfl ?_); refine goesL_ (some 11) rfl rfl Tryd.func104 (by kernel_rfl) rfl #[.pointer (some ⟨g, 0, none⟩), .int .i64 20] rfl (by (try simp only [List.map_toArray, List.map_cons, List.map_nil]); first | done | rfl | (simp only [List.length_drop, List.length_take]; rfl)) ?_; (with_reducible refine (spec_reader_pick.calls k g s0_0 s0_1 20 t322 t323 w0 _ ?side1 ?side2 A5.out).mono ?_); (case side1 => repeat (first | (with_reducible first | exact HI0.out | apply IsS101.alloc | apply IsS101.drewN | apply IsS101.drew | apply IsS101.set_1) | exact HI0.out)); (case side2 => repeat (first | (with_reducible first | exact HB.out | apply below_alloc | apply pw_below_drewN | apply below_drew1 | refine below_set ?_ (IsS101.ge HI0.out)) | exact HB.out)); rintro e w9 ⟨rfl, hi, hb, hk⟩; refine ⟨_, rfl, ?_⟩; have n0_ := Aside0.mk (Kd.R_mono (Kd.R_keep (IsS101.apart (show IsS101 w0 _ g s0_0 s0_1 from by repeat (first | (with_reducible first | exact HI0.out | apply IsS101.alloc | apply IsS101.drewN | apply IsS101.drew | apply IsS101.set_1) | exact HI0.out)) (by (with_reducible repeat (first | apply Kd.R_alloc | apply Kd.R_drewN | apply Kd.R_drew)); exact HO321.out) (by decide)) hk (fun _ h => h.2)) (fun _ h => h.1)); have n1_ := Aside0.mk (KeepBut.trans (by repeat (first | (with_reducible first | exact HK.out | apply KeepBut.set_ | apply keep_drewN | apply keep_drew | apply keep_alloc) | exact HK.out)) hk (.inl rfl)); have n2_ := Aside0.mk (hb); have n3_ := Aside0.mk (hi); clear HO321; clear HK; clear HB; clear HI0; have HO321 := n0_; have HK := n1_; have HB := n2_; have HI0 := n3_; clear n0_ n1_ n2_ n3_; (try clear hb); (try clear hb2); (try clear hk); (try clear hi)) | ((with_reducible refine gate_builtin (b := .append) (xs := #[.tmp 14, .tmp 16]) rfl ?_); at_builtin; refine Kd.R_append (Kd.int .i64) w.heap.size rfl (.tmp 14) (.tmp 16) 35 3 (.int .i64 0) 8 rfl Tryd.underlying35 info3 rfl (by decide) (by omega) v320 t319 a2 [.int .i64 a2] (fun _ => True) (fun _ => False) rfl rfl ?aP (fun _ hk => hk.elim) ?aF ?aO (Below.refl _ _) ?aS ?aL ?_; (case aP => exact rfl); (case aF => exact (fun _ _ => trivial)); (case aO => exact (by (with_reducible repeat (first | apply Kd.R_alloc | apply Kd.R_drewN | apply Kd.R_drew)); exact HO321.out)); (case aS => exact (keep_size (w := w) (g := g) (row := none) (by repeat (first | (with_reducible first | exact HK.out | apply KeepBut.set_ | apply keep_drewN | apply keep_drew | apply keep_alloc) | exact HK.out)))); (case aL => have := LMc7.out; omega); intro v325 w10 ho hb hg hat; rw [← Ny324.out] at ho; have n0_ := Aside0.mk (IsS101.grown (by repeat (first | (with_reducible first | exact HI0.out | apply IsS101.alloc | apply IsS101.drewN | apply IsS101.drew | apply IsS101.set_1) | exact HI0.out)) hg (IsS101.own_ne HI0.out HO321.out (by decide))); have n1_ := Aside0.mk (below_weaken (by repeat (first | (with_reducible first | exact HB.out | apply below_alloc | apply pw_below_drewN | apply below_drew1 | refine below_set ?_ (IsS101.ge HI0.out)) | exact HB.out)) HL.out hb); have n2_ := Aside0.mk (KeepBut.trans (by repeat (first | (with_reducible first | exact HK.out | apply KeepBut.set_ | apply keep_drewN | apply keep_drew | apply keep_alloc) | exact HK.out)) (KeepBut.of_grown hg g) (Kd.R_base2 HO321.out)); have n3_ := Aside0.mk (ho); clear HI0; clear HB; clear HK; clear HO321; have HI0 := n0_; have HB := n1_; have HK := n2_; have HO326 := n3_; clear n0_ n1_ n2_ n3_; clear ho hb hg hat))
      go_ret
      exact ⟨_, by first | rfl | (simp [errW_none, errW_some] <;> rfl) | (simp [*, errW_none, errW_some] <;> rfl), Kd.Q_of_R (by (with_reducible repeat (first | apply Kd.R_alloc | apply Kd.R_drewN | apply Kd.R_drew)); exact HO326.out), by repeat (first | (with_reducible first | exact HI0.out | apply IsS101.alloc | apply IsS101.drewN | apply IsS101.drew | apply IsS101.set_1) | exact HI0.out), by repeat (first | (with_reducible first | exact HB.out | apply below_alloc | apply pw_below_drewN | apply below_drew1 | refine below_set ?_ (IsS101.ge HI0.out)) | exact HB.out), by repeat (first | (with_reducible first | exact HK.out | apply KeepBut.set_ | apply keep_drewN | apply keep_drew | apply keep_alloc) | exact HK.out)⟩
    · rw [if_neg c7] at H
      exact absurd H (by simp)
  · rw [if_neg c6] at H
    have c6b0 : (t322 == 0) = false := beq_eq_false_iff_ne.mpr c6
    have c6b1 : (t322 != 0) = true := bne_iff_ne.mpr c6
    by_cases c11 : t322 = 1
    · rw [if_pos c11] at H
      have c11b0 : (t322 == 1) = true := beq_iff_eq.mpr c11
      have c11b1 : (t322 != 1) = false := bne_eq_false_iff_eq.mpr c11
      clear c11
      by_cases c12 : (t319.length : Int) > 0
      · rw [if_pos c12] at H
        have c12b0 : decide (0 < (t319.length : Int)) = true := decide_eq_true c12
        have c12b1 : decide (0 < t319.length) = true := decide_eq_true (by omega)
        clear c12
        by_cases c13 : 1 ≤ (t319.length : Int)
        · rw [if_pos c13] at H
          have c13b0 := eq_true c13
          have c13b1 : decide (1 ≤ (t319.length : Int)) = true := decide_eq_true c13
          clear c13
          obtain ⟨y327, hy327⟩ : ∃ y_ : List Int, y_ = (t319.drop (1 : Int).toNat) := ⟨_, rfl⟩
          replace H : (some (y327, t323)) = some (r1, r2) := by first | (rw [hy327]; with_reducible exact H) | (have H2_ := (Option.bind_some _ _).symm.trans H; rw [hy327]; with_reducible exact H2_) | (have H2_ := (Option.bind_some _ _).symm.trans H; with_reducible exact H2_) | with_reducible exact H | (rw [hy327]; exact H) | exact H
          have Ny327 := Aside0.mk hy327
          clear hy327
          simp only [Option.some.injEq, Prod.mk.injEq] at H
          obtain ⟨rfl, rfl⟩ := H
          go_enter Tryd.func106, Tryd.ntmps106
          go_wp2_with (first | ((with_reducible refine gate_callee (f := 115) rfl ?_); refine goesL_ (some 9) rfl rfl Tryd.func115 (by kernel_rfl) rfl #[.slice A1 l1.length c1] rfl (by (try simp only [List.map_toArray, List.map_cons, List.map_nil]); first | done | rfl | (simp only [List.length_drop, List.length_take]; rfl)) ?_; (with_reducible refine (spec_copyInts.calls _ _ l1 t319 _ ?side1 ?side2 A4.out).mono ?_); (case side1 => exact Kd.C_keep 0 HR1.out (by repeat (first | (with_reducible first | exact HK.out | apply KeepBut.set_ | apply keep_drewN | apply keep_drew | apply keep_alloc) | exact HK.out)) hf1); (case side2 => exact HC1.out); rintro e w14 ⟨v320, rfl, ho0, hb⟩; refine ⟨_, rfl, ?_⟩; have n0_ := Aside0.mk (Kd.R_lower ho0 (keep_size (w := w) (g := g) (row := none) (by repeat (first | (with_reducible first | exact HK.out | apply KeepBut.set_ | apply keep_drewN | apply keep_drew | apply keep_alloc) | exact HK.out)))); have n1_ := Aside0.mk (IsS101.below (by repeat (first | (with_reducible first | exact HI0.out | apply IsS101.alloc | apply IsS101.drewN | apply IsS101.drew | apply IsS101.set_1) | exact HI0.out)) hb); have n2_ := Aside0.mk (KeepBut.trans (by repeat (first | (with_reducible first | exact HK.out | apply KeepBut.set_ | apply keep_drewN | apply keep_drew | apply keep_alloc) | exact HK.out)) (KeepBut.of_below hb g none) (.inl rfl)); have n3_ := Aside0.mk (below_step (by repeat (first | (with_reducible first | exact HB.out | apply below_alloc | apply pw_below_drewN | apply below_drew1 | refine below_set ?_ (IsS101.ge HI0.out)) | exact HB.out)) hb); clear HI0; clear HK; clear HB; have HO321 := n0_; have HI0 := n1_; have HK := n2_; have HB := n3_; clear n0_ n1_ n2_ n3_; (try clear hb); (try clear hb2); (try clear hk); (try clear hi); (try clear ho0)) | ((with_reducible refine gate_callee (f := 104) rfl ?_); refine goesL_ (some 11) rfl rfl Tryd.func104 (by kernel_rfl) rfl #[.pointer (some ⟨g, 0, none⟩), .int .i64 20] rfl (by (try simp only [List.map_toArray, List.map_cons, List.map_nil]); first | done | rfl | (simp only [List.length_drop, List.length_take]; rfl)) ?_; (with_reducible refine (spec_reader_pick.calls k g s0_0 s0_1 20 t322 t323 w0 _ ?side1 ?side2 A5.out).mono ?_); (case side1 => repeat (first | (with_reducible first | exact HI0.out | apply IsS101.alloc | apply IsS101.drewN | apply IsS101.drew | apply IsS101.set_1) | exact HI0.out)); (case side2 => repeat (first | (with_reducible first | exact HB.out | apply below_alloc | apply pw_below_drewN | apply below_drew1 | refine below_set ?_ (IsS101.ge HI0.out)) | exact HB.out)); rintro e w15 ⟨rfl, hi, hb, hk⟩; refine ⟨_, rfl, ?_⟩; have n0_ := Aside0.mk (Kd.R_mono (Kd.R_keep (IsS101.apart (show IsS101 w0 _ g s0_0 s0_1 from by repeat (first | (with_reducible first | exact HI0.out | apply IsS101.alloc | apply IsS101.drewN | apply IsS101.drew | apply IsS101.set_1) | exact HI0.out)) (by (with_reducible repeat (first | apply Kd.R_alloc | apply Kd.R_drewN | apply Kd.R_drew)); exact HO321.out) (by decide)) hk (fun _ h => h.2)) (fun _ h => h.1)); have n1_ := Aside0.mk (KeepBut.trans (by repeat (first | (with_reducible first | exact HK.out | apply KeepBut.set_ | apply keep_drewN | apply keep_drew | apply keep_alloc) | exact HK.out)) hk (.inl rfl)); have n2_ := Aside0.mk (hb); have n3_ := Aside0.mk (hi); clear HO321; clear HK; clear HB; clear HI0; have HO321 := n0_; have HK := n1_; have HB := n2_; have HI0 := n3_; clear n0_ n1_ n2_ n3_; (try clear hb); (try clear hb2); (try clear hk); (try clear hi); obtain ⟨Ao16, co16, eo16⟩ := Kd.R_slice HO321.out; subst eo16; have q17 : (1 : Int) ≤ ((t319.length : Int) : Int) := of_decide_eq_true (by first | (with_reducible assumption) | assumption); obtain ⟨i017, hi017, _, hsz17, _⟩ := info_parts info3; have hcut17 := cut_from (P := Tryd.prog) 35 3 .i64 Tryd.underlying35 hi017 1 hsz17 Ao16 t319.length co16 1 (by omega) q17; have hr17 := Kd.Q_drop (k := (1 : Int).toNat) (Kd.Q_of_R HO321.out) (by omega); obtain ⟨A17, hA17⟩ : ∃ A1, A1 = (if co16 = (1 : Int).toNat then Ao16 else (Ao16 : Option Addr).map (·.add ((1 : Int).toNat * 1))) := ⟨_, rfl⟩; obtain ⟨c17, hc17⟩ : ∃ c1, c1 = co16 - (1 : Int).toNat := ⟨_, rfl⟩; have hy17 : y327.length = t319.length - (1 : Int).toNat := (by rw [Ny327.out, List.length_drop]); rw [← Ny327.out] at hr17; rw [← hy17, ← hA17, ← hc17] at hcut17; replace hr17 : Kd.Q (Kd.int .i64) 3 w15 w.heap.size (fun _ => True) (.slice A17 y327.length c17) y327 := (by rw [hA17, hc17, hy17]; exact hr17); have HE17 : Aside0 ((Value.slice A17 y327.length c17).ownBlock = (.slice Ao16 t319.length co16 : Value).ownBlock) := ⟨by rw [hA17]; split <;> (cases (Ao16 : Option Addr) <;> rfl)⟩; clear hy17 hi017 hsz17 HO321 hA17 hc17; have HO329 := Aside0.mk hr17; clear hr17; replace q17 := eq_true q17))
          go_ret
          exact ⟨_, by first | rfl | (simp [errW_none, errW_some] <;> rfl) | (simp [*, errW_none, errW_some] <;> rfl), by (with_reducible repeat (first | apply Kd.Q_alloc | apply Kd.Q_drewN | apply Kd.Q_drew)); exact HO329.out, by repeat (first | (with_reducible first | exact HI0.out | apply IsS101.alloc | apply IsS101.drewN | apply IsS101.drew | apply IsS101.set_1) | exact HI0.out), by repeat (first | (with_reducible first | exact HB.out | apply below_alloc | apply pw_below_drewN | apply below_drew1 | refine below_set ?_ (IsS101.ge HI0.out)) | exact HB.out), by repeat (first | (with_reducible first | exact HK.out | apply KeepBut.set_ | apply keep_drewN | apply keep_drew | apply keep_alloc) | exact HK.out)⟩
        · rw [if_neg c13] at H
          exact absurd H (by simp)
      · rw [if_neg c12] at H
        have c12b0 : decide (0 < (t319.length : Int)) = false := decide_eq_false c12
        have c12b1 : decide (0 < t319.length) = false := decide_eq_false (by omega)
        clear c12
        simp only [Option.some.injEq, Prod.mk.injEq] at H
        obtain ⟨rfl, rfl⟩ := H
        go_enter Tryd.func106, Tryd.ntmps106
        go_wp2_with (first | ((with_reducible refine gate_callee (f := 115) rfl ?_); refine goesL_ (some 9) rfl rfl Tryd.func115 (by kernel_rfl) rfl #[.slice A1 l1.length c1] rfl (by (try simp only [List.map_toArray, List.map_cons, List.map_nil]); first | done | rfl | (simp only [List.length_drop, List.length_take]; rfl)) ?_; (with_reducible refine (spec_copyInts.calls _ _ l1 t319 _ ?side1 ?side2 A4.out).mono ?_); (case side1 => exact Kd.C_keep 0 HR1.out (by repeat (first | (with_reducible first | exact HK.out | apply KeepBut.set_ | apply keep_drewN | apply keep_drew | apply keep_alloc) | exact HK.out)) hf1); (case side2 => exact HC1.out); rintro e w18 ⟨v320, rfl, ho0, hb⟩; refine ⟨_, rfl, ?_⟩; have n0_ := Aside0.mk (Kd.R_lower ho0 (keep_size (w := w) (g := g) (row := none) (by repeat (first | (with_reducible first | exact HK.out | apply KeepBut.set_ | apply keep_drewN | apply keep_drew | apply keep_alloc) | exact HK.out)))); have n1_ := Aside0.mk (IsS101.below (by repeat (first | (with_reducible first | exact HI0.out | apply IsS101.alloc | apply IsS101.drewN | apply IsS101.drew | apply IsS101.set_1) | exact HI0.out)) hb); have n2_ := Aside0.mk (KeepBut.trans (by repeat (first | (with_reducible first | exact HK.out | apply KeepBut.set_ | apply keep_drewN | apply keep_drew | apply keep_alloc) | exact HK.out)) (KeepBut.of_below hb g none) (.inl rfl)); have n3_ := Aside0.mk (below_step (by repeat (first | (with_reducible first | exact HB.out | apply below_alloc | apply pw_below_drewN | apply below_drew1 | refine below_set ?_ (IsS101.ge HI0.out)) | exact HB.out)) hb); clear HI0; clear HK; clear HB; have HO321 := n0_; have HI0 := n1_; have HK := n2_; have HB := n3_; clear n0_ n1_ n2_ n3_; (try clear hb); (try clear hb2); (try clear hk); (try clear hi); (try clear ho0)) | ((with_reducible refine gate_callee (f := 104) rfl ?_); refine goesL_ (some 11) rfl rfl Tryd.func104 (by kernel_rfl) rfl #[.pointer (some ⟨g, 0, none⟩), .int .i64 20] rfl (by (try simp only [List.map_toArray, List.map_cons, List.map_nil]); first | done | rfl | (simp only [List.length_drop, List.length_take]; rfl)) ?_; (with_reducible refine (spec_reader_pick.calls k g s0_0 s0_1 20 t322 t323 w0 _ ?side1 ?side2 A5.out).mono ?_); (case side1 => repeat (first | (with_reducible first | exact HI0.out | apply IsS101.alloc | apply IsS101.drewN | apply IsS101.drew | apply IsS101.set_1) | exact HI0.out)); (case side2 => repeat (first | (with_reducible first | exact HB.out | apply below_alloc | apply pw_below_drewN | apply below_drew1 | refine below_set ?_ (IsS101.ge HI0.out)) | exact HB.out)); rintro e w19 ⟨rfl, hi, hb, hk⟩; refine ⟨_, rfl, ?_⟩; have n0_ := Aside0.mk (Kd.R_mono (Kd.R_keep (IsS101.apart (show IsS101 w0 _ g s0_0 s0_1 from by repeat (first | (with_reducible first | exact HI0.out | apply IsS101.alloc | apply IsS101.drewN | apply IsS101.drew | apply IsS101.set_1) | exact HI0.out)) (by (with_reducible repeat (first | apply Kd.R_alloc | apply Kd.R_drewN | apply Kd.R_drew)); exact HO321.out) (by decide)) hk (fun _ h => h.2)) (fun _ h => h.1)); have n1_ := Aside0.mk (KeepBut.trans (by repeat (first | (with_reducible first | exact HK.out | apply KeepBut.set_ | apply keep_drewN | apply keep_drew | apply keep_alloc) | exact HK.out)) hk (.inl rfl)); have n2_ := Aside0.mk (hb); have n3_ := Aside0.mk (hi); clear HO321; clear HK; clear HB; clear HI0; have HO321 := n0_; have HK := n1_; have HB := n2_; have HI0 := n3_; clear n0_ n1_ n2_ n3_; (try clear hb); (try clear hb2); (try clear hk); (try clear hi); obtain ⟨Ao20, co20, eo20⟩ := Kd.R_slice HO321.out; subst eo20))
        go_ret
        exact ⟨_, by first | rfl | (simp [errW_none, errW_some] <;> rfl) | (simp [*, errW_none, errW_some] <;> rfl), Kd.Q_of_R (by (with_reducible repeat (first | apply Kd.R_alloc | apply Kd.R_drewN | apply Kd.R_drew)); exact HO321.out), by repeat (first | (with_reducible first | exact HI0.out | apply IsS101.alloc | apply IsS101.drewN | apply IsS101.drew | apply IsS101.set_1) | exact HI0.out), by repeat (first | (with_reducible first | exact HB.out | apply below_alloc | apply pw_below_drewN | apply below_drew1 | refine below_set ?_ (IsS101.ge HI0.out)) | exact HB.out), by repeat (first | (with_reducible first | exact HK.out | apply KeepBut.set_ | apply keep_drewN | apply keep_drew | apply keep_alloc) | exact HK.out)⟩
    · rw [if_neg c11] at H
      have c11b0 : (t322 == 1) = false := beq_eq_false_iff_ne.mpr c11
      have c11b1 : (t322 != 1) = true := bne_iff_ne.mpr c11
      by_cases c21 : t322 = 2
      · rw [if_pos c21] at H
        have c21b0 : (t322 == 2) = true := beq_iff_eq.mpr c21
        have c21b1 : (t322 != 2) = false := bne_eq_false_iff_eq.mpr c21
        clear c21
        by_cases c22 : (t319.length : Int) > 0
        · rw [if_pos c22] at H
          have c22b0 : decide (0 < (t319.length : Int)) = true := decide_eq_true c22
          have c22b1 : decide (0 < t319.length) = true := decide_eq_true (by omega)
          clear c22
          replace H := Option.bind_eq_some_iff.mp H
          obtain ⟨⟨t330, t331⟩, A230, H⟩ := H
          replace H : ((spec_reader_one.f k s0_0 t331 (([(-1), a2, 0, 1] : List Int))).bind fun bt335 => (if 0 ≤ t330 then (if t330 < (t319.length : Int) then (some ((t319.set (t330 : Int).toNat bt335.1), bt335.2)) else (none)) else (none))) = some (r1, r2) := H
          have A23 := Aside0.mk A230
          clear A230
          obtain ⟨y332, hy332⟩ : ∃ y_ : List Int, y_ = (([(-1), a2, 0, 1] : List Int)) := ⟨_, rfl⟩
          replace H : ((spec_reader_one.f k s0_0 t331 y332).bind fun bt335 => (if 0 ≤ t330 then (if t330 < (t319.length : Int) then (some ((t319.set (t330 : Int).toNat bt335.1), bt335.2)) else (none)) else (none))) = some (r1, r2) := by first | (rw [hy332]; with_reducible exact H) | (have H2_ := (Option.bind_some _ _).symm.trans H; rw [hy332]; with_reducible exact H2_) | (have H2_ := (Option.bind_some _ _).symm.trans H; with_reducible exact H2_) | with_reducible exact H | (rw [hy332]; exact H) | exact H
          have Ny332 := Aside0.mk hy332
          clear hy332
          replace H := Option.bind_eq_some_iff.mp H
          obtain ⟨⟨t335, t336⟩, A240, H⟩ := H
          replace H : (if 0 ≤ t330 then (if t330 < (t319.length : Int) then (some ((t319.set (t330 : Int).toNat t335), t336)) else (none)) else (none)) = some (r1, r2) := H
          have A24 := Aside0.mk A240
          clear A240
          by_cases c25 : 0 ≤ t330
          · rw [if_pos c25] at H
            have c25b0 : decide (0 ≤ t330) = true := decide_eq_true c25
            clear c25
            by_cases c26 : t330 < (t319.length : Int)
            · rw [if_pos c26] at H
              have c26b0 : decide (t330 < (t319.length : Int)) = true := decide_eq_true c26
              clear c26
              obtain ⟨y337, hy337⟩ : ∃ y_ : List Int, y_ = (t319.set (t330 : Int).toNat t335) := ⟨_, rfl⟩
              replace H : (some (y337, t336)) = some (r1, r2) := by first | (rw [hy337]; with_reducible exact H) | (have H2_ := (Option.bind_some _ _).symm.trans H; rw [hy337]; with_reducible exact H2_) | (have H2_ := (Option.bind_some _ _).symm.trans H; with_reducible exact H2_) | with_reducible exact H | (rw [hy337]; exact H) | exact H
              have Ny337 := Aside0.mk hy337
              clear hy337
              simp only [Option.some.injEq, Prod.mk.injEq] at H
              obtain ⟨rfl, rfl⟩ := H
              go_enter Tryd.func106, Tryd.ntmps106
              go_wp2_with (first | ((with_reducible refine gate_callee (f := 115) rfl ?_); refine goesL_ (some 9) rfl rfl Tryd.func115 (by kernel_rfl) rfl #[.slice A1 l1.length c1] rfl (by (try simp only [List.map_toArray, List.map_cons, List.map_nil]); first | done | rfl | (simp only [List.length_drop, List.length_take]; rfl)) ?_; (with_reducible refine (spec_copyInts.calls _ _ l1 t319 _ ?side1 ?side2 A4.out).mono ?_); (case side1 => exact Kd.C_keep 0 HR1.out (by repeat (first | (with_reducible first | exact HK.out | apply KeepBut.set_ | apply keep_drewN | apply keep_drew | apply keep_alloc) | exact HK.out)) hf1); (case side2 => exact HC1.out); rintro e w28 ⟨v320, rfl, ho0, hb⟩; refine ⟨_, rfl, ?_⟩; have n0_ := Aside0.mk (Kd.R_lower ho0 (keep_size (w := w) (g := g) (row := none) (by repeat (first | (with_reducible first | exact HK.out | apply KeepBut.set_ | apply keep_drewN | apply keep_drew | apply keep_alloc) | exact HK.out)))); have n1_ := Aside0.mk (IsS101.below (by repeat (first | (with_reducible first | exact HI0.out | apply IsS101.alloc | apply IsS101.drewN | apply IsS101.drew | apply IsS101.set_1) | exact HI0.out)) hb); have n2_ := Aside0.mk (KeepBut.trans (by repeat (first | (with_reducible first | exact HK.out | apply KeepBut.set_ | apply keep_drewN | apply keep_drew | apply keep_alloc) | exact HK.out)) (KeepBut.of_below hb g none) (.inl rfl)); have n3_ := Aside0.mk (below_step (by repeat (first | (with_reducible first | exact HB.out | apply below_alloc | apply pw_below_drewN | apply below_drew1 | refine below_set ?_ (IsS101.ge HI0.out)) | exact HB.out)) hb); clear HI0; clear HK; clear HB; have HO321 := n0_; have HI0 := n1_; have HK := n2_; have HB := n3_; clear n0_ n1_ n2_ n3_; (try clear hb); (try clear hb2); (try clear hk); (try clear hi); (try clear ho0)) | ((with_reducible refine gate_callee (f := 104) rfl ?_); refine goesL_ (some 11) rfl rfl Tryd.func104 (by kernel_rfl) rfl #[.pointer (some ⟨g, 0, none⟩), .int .i64 20] rfl (by (try simp only [List.map_toArray, List.map_cons, List.map_nil]); first | done | rfl | (simp only [List.length_drop, List.length_take]; rfl)) ?_; (with_reducible refine (spec_reader_pick.calls k g s0_0 s0_1 20 t322 t323 w0 _ ?side1 ?side2 A5.out).mono ?_); (case side1 => repeat (first | (with_reducible first | exact HI0.out | apply IsS101.alloc | apply IsS101.drewN | apply IsS101.drew | apply IsS101.set_1) | exact HI0.out)); (case side2 => repeat (first | (with_reducible first | exact HB.out | apply below_alloc | apply pw_below_drewN | apply below_drew1 | refine below_set ?_ (IsS101.ge HI0.out)) | exact HB.out)); rintro e w29 ⟨rfl, hi, hb, hk⟩; refine ⟨_, rfl, ?_⟩; have n0_ := Aside0.mk (Kd.R_mono (Kd.R_keep (IsS101.apart (show IsS101 w0 _ g s0_0 s0_1 from by repeat (first | (with_reducible first | exact HI0.out | apply IsS101.alloc | apply IsS101.drewN | apply IsS101.drew | apply IsS101.set_1) | exact HI0.out)) (by (with_reducible repeat (first | apply Kd.R_alloc | apply Kd.R_drewN | apply Kd.R_drew)); exact HO321.out) (by decide)) hk (fun _ h => h.2)) (fun _ h => h.1)); have n1_ := Aside0.mk (KeepBut.trans (by repeat (first | (with_reducible first | exact HK.out | apply KeepBut.set_ | apply keep_drewN | apply keep_drew | apply keep_alloc) | exact HK.out)) hk (.inl rfl)); have n2_ := Aside0.mk (hb); have n3_ := Aside0.mk (hi); clear HO321; clear HK; clear HB; clear HI0; have HO321 := n0_; have HK := n1_; have HB := n2_; have HI0 := n3_; clear n0_ n1_ n2_ n3_; (try clear hb); (try clear hb2); (try clear hk); (try clear hi); obtain ⟨Ao30, co30, eo30⟩ := Kd.R_slice HO321.out; subst eo30) | ((with_reducible refine gate_callee (f := 104) rfl ?_); refine goesL_ (some 34) rfl rfl Tryd.func104 (by kernel_rfl) rfl #[.pointer (some ⟨g, 0, none⟩), .int .i64 (t319.length : Int)] rfl (by (try simp only [List.map_toArray, List.map_cons, List.map_nil]); first | done | rfl | (simp only [List.length_drop, List.length_take]; rfl)) ?_; (with_reducible refine (spec_reader_pick.calls k g s0_0 t323 (t319.length : Int) t330 t331 w0 _ ?side1 ?side2 A23.out).mono ?_); (case side1 => repeat (first | (with_reducible first | exact HI0.out | apply IsS101.alloc | apply IsS101.drewN | apply IsS101.drew | apply IsS101.set_1) | exact HI0.out)); (case side2 => repeat (first | (with_reducible first | exact HB.out | apply below_alloc | apply pw_below_drewN | apply below_drew1 | refine below_set ?_ (IsS101.ge HI0.out)) | exact HB.out)); rintro e w31 ⟨rfl, hi, hb, hk⟩; refine ⟨_, rfl, ?_⟩; have n0_ := Aside0.mk (Kd.R_mono (Kd.R_keep (IsS101.apart (show IsS101 w0 _ g s0_0 t323 from by repeat (first | (with_reducible first | exact HI0.out | apply IsS101.alloc | apply IsS101.drewN | apply IsS101.drew | apply IsS101.set_1) | exact HI0.out)) (by (with_reducible repeat (first | apply Kd.R_alloc | apply Kd.R_drewN | apply Kd.R_drew)); exact HO321.out) (by decide)) hk (fun _ h => h.2)) (fun _ h => h.1)); have n1_ := Aside0.mk (KeepBut.trans (by repeat (first | (with_reducible first | exact HK.out | apply KeepBut.set_ | apply keep_drewN | apply keep_drew | apply keep_alloc) | exact HK.out)) hk (.inl rfl)); have n2_ := Aside0.mk (hb); have n3_ := Aside0.mk (hi); clear HO321; clear HK; clear HB; clear HI0; have HO321 := n0_; have HK := n1_; have HB := n2_; have HI0 := n3_; clear n0_ n1_ n2_ n3_; (try clear hb); (try clear hb2); (try clear hk); (try clear hi)) | ((with_reducible refine gate_dst (N := 37) rfl ?_); refine Kd.R_lit (Kd.int .i64) _ 3 ?hg (N := 37) ?hd (xs := ([(-1), a2, 0, 1] : List Int)) (inner := [.int .i64 (-1), .int .i64 a2, .int .i64 0, .int .i64 1]) (ok := fun _ => True) (okp := fun _ => True) ?hr ?hp (fun _ hk => hk) trivial (Below.refl _ _) (Nat.le_refl _) (by simp) ?_; (case hd => rfl); (case hg => rfl); (case hr => first | (go_simp; done) | (go_simp; rfl)); (case hp => exact (Reps.one (show Kd.M (Kd.int .i64) _ _ _ (-1) [.int .i64 (-1)] from rfl) (Reps.one (show Kd.M (Kd.int .i64) _ _ _ a2 [.int .i64 a2] from rfl) (Reps.one (show Kd.M (Kd.int .i64) _ _ _ 0 [.int .i64 0] from rfl) (Reps.one (show Kd.M (Kd.int .i64) _ _ _ 1 [.int .i64 1] from rfl) (Reps.none _ _)))))); intro v333 w32 ho33 hb hg_ hnew_; clear hg_ hnew_; (first | rw [← Ny332.out] at ho33 | (simp only [Int.reduceToNat] at ho33; rw [← Ny332.out] at ho33)); have n0_ := Aside0.mk (Kd.R_elder' (by (with_reducible repeat (first | apply Kd.R_alloc | apply Kd.R_drewN | apply Kd.R_drew)); exact HO321.out) (Kd.R_base ho33) hb); have n1_ := Aside0.mk (Kd.R_lower (Kd.R_new' ho33 (Kd.R_lt (by (with_reducible repeat (first | apply Kd.R_alloc | apply Kd.R_drewN | apply Kd.R_drew)); exact HO321.out))) (keep_size (w := w) (g := g) (row := none) (by repeat (first | (with_reducible first | exact HK.out | apply KeepBut.set_ | apply keep_drewN | apply keep_drew | apply keep_alloc) | exact HK.out)))); have n2_ := Aside0.mk (IsS101.below (by repeat (first | (with_reducible first | exact HI0.out | apply IsS101.alloc | apply IsS101.drewN | apply IsS101.drew | apply IsS101.set_1) | exact HI0.out)) hb); have n3_ := Aside0.mk (KeepBut.trans (by repeat (first | (with_reducible first | exact HK.out | apply KeepBut.set_ | apply keep_drewN | apply keep_drew | apply keep_alloc) | exact HK.out)) (KeepBut.of_below hb g none) (.inl rfl)); have n4_ := Aside0.mk (below_step (by repeat (first | (with_reducible first | exact HB.out | apply below_alloc | apply pw_below_drewN | apply below_drew1 | refine below_set ?_ (IsS101.ge HI0.out)) | exact HB.out)) hb); clear HO321; clear HI0; clear HK; clear HB; have HO321 := n0_; have HO334 := n1_; have HI0 := n2_; have HK := n3_; have HB := n4_; clear n0_ n1_ n2_ n3_ n4_; clear hb ho33; obtain ⟨Ao34, co34, eo34⟩ := Kd.R_slice HO334.out; subst eo34) | ((with_reducible refine gate_callee (f := 105) rfl ?_); refine goesL_ (some 38) rfl rfl Tryd.func105 (by kernel_rfl) rfl #[.pointer (some ⟨g, 0, none⟩), .slice Ao34 y332.length co34] rfl (by (try simp only [List.map_toArray, List.map_cons, List.map_nil]); first | done | rfl | (simp only [List.length_drop, List.length_take]; rfl)) ?_; (with_reducible refine (spec_reader_one.calls k g s0_0 t331 _ _ y332 t335 t336 w0 _ ?side1 ?side2 ?side3 ?side4 ?side5 A24.out).mono ?_); (case side1 => repeat (first | (with_reducible first | exact HI0.out | apply IsS101.alloc | apply IsS101.drewN | apply IsS101.drew | apply IsS101.set_1) | exact HI0.out)); (case side2 => repeat (first | (with_reducible first | exact HB.out | apply below_alloc | apply pw_below_drewN | apply below_drew1 | refine below_set ?_ (IsS101.ge HI0.out)) | exact HB.out)); (case side3 => repeat (first | exact (Kd.R_reads' HO334.out).2.2 | (with_reducible refine Kd.C_alloc ?_ _) | (with_reducible refine Kd.C_drewN ?_ _) | (with_reducible refine Kd.C_drew ?_))); (case side4 => exact (Kd.R_reads' HO334.out).2.1); (case side5 => exact far_slice (IsS101.own_ne HI0.out HO334.out (by decide))); rintro e w35 ⟨rfl, hi, hb, hk⟩; refine ⟨_, rfl, ?_⟩; have n0_ := Aside0.mk (Kd.R_mono (Kd.R_keep (IsS101.apart (show IsS101 w0 _ g s0_0 t331 from by repeat (first | (with_reducible first | exact HI0.out | apply IsS101.alloc | apply IsS101.drewN | apply IsS101.drew | apply IsS101.set_1) | exact HI0.out)) (by (with_reducible repeat (first | apply Kd.R_alloc | apply Kd.R_drewN | apply Kd.R_drew)); exact HO321.out) (by decide)) hk (fun _ h => h.2)) (fun _ h => h.1)); have n1_ := Aside0.mk (Kd.R_mono (Kd.R_keep (IsS101.apart (show IsS101 w0 _ g s0_0 t331 from by repeat (first | (with_reducible first | exact HI0.out | apply IsS101.alloc | apply IsS101.drewN | apply IsS101.drew | apply IsS101.set_1) | exact HI0.out)) (by (with_reducible repeat (first | apply Kd.R_alloc | apply Kd.R_drewN | apply Kd.R_drew)); exact HO334.out) (by decide)) hk (fun _ h => h.2)) (fun _ h => h.1)); have n2_ := Aside0.mk (KeepBut.trans (by repeat (first | (with_reducible first | exact HK.out | apply KeepBut.set_ | apply keep_drewN | apply keep_drew | apply keep_alloc) | exact HK.out)) hk (.inl rfl)); have n3_ := Aside0.mk (hb); have n4_ := Aside0.mk (hi); clear HO321; clear HO334; clear HK; clear HB; clear HI0; have HO321 := n0_; have HO334 := n1_; have HK := n2_; have HB := n3_; have HI0 := n4_; clear n0_ n1_ n2_ n3_ n4_; (try clear hb); (try clear hb2); (try clear hk); (try clear hi); have p27 : 0 ≤ (t330 : Int) := of_decide_eq_true (by first | (with_reducible assumption) | assumption); have q27 : (t330 : Int) < ((t319.length : Int) : Int) := of_decide_eq_true (by first | (with_reducible assumption) | assumption); obtain ⟨go27, co27, eo27, gb27, gl27, cl27, HG27⟩ := Kd.R_form HO321.out (by omega); (first | cases eo27 | (injection eo27 with ea_ en_ ec_; (first | subst ea_ | (injection ea_ with ea_; subst ea_)); subst ec_; clear en_)); have GB27 := Aside0.mk gb27; have GG27 := Aside0.mk HG27; clear gb27 gl27 HG27; obtain ⟨hx27_0, hf27_0⟩ := Kd.R_celln 0 HO321.out (t330 : Int) p27 q27; replace p27 := eq_true p27; replace q27 := eq_true q27; have n_ := Aside0.mk (Kd.R_mono (ok' := (fun k_ => some k_ ≠ (.slice Ao34 y332.length co34 : Value).ownBlock)) HO321.out (fun k_ hk => hk.2)); clear HO321; have HO321 := n_; clear n_; obtain ⟨hy36_, hz36_⟩ := Kd.R_celln 0 HO321.out (t330 : Int) (of_decide_eq_true (by first | (with_reducible assumption) | assumption)) (of_decide_eq_true (by first | (with_reducible assumption) | assumption)); have HP36 := Kd.R_putg HO321.out (t330 : Int) t335) | ((with_reducible refine gate_store (t := 3) (p := 39) rfl ?_); refine store_event (t := 3) (p := 39) (v := ?vo_w37) (w1 := (w35.setCell ⟨go27, (t330 : Int).toNat, none⟩ (.int .i64 t335))) ?hg ?ho ?hn ?hr ?_; (case ho => rfl); (case hg => rfl); (case hn => rfl); (case hr => (first | (go_simp; done) | (go_simp; rfl))); intro w37 hw; have hg : w35.grownBy w37 (some go27) := (by rw [hw]; exact HP36.2); have hp_ : Kd.R (Kd.int .i64) 3 w37 w.heap.size (fun k_ => some k_ ≠ (.slice Ao34 y332.length co34 : Value).ownBlock) (.slice (some ⟨go27, 0, none⟩) t319.length co30) y337 := (by rw [hw, Ny337.out]; exact HP36.1); clear HP36; have n0_ := Aside0.mk (IsS101.grown (by repeat (first | (with_reducible first | exact HI0.out | apply IsS101.alloc | apply IsS101.drewN | apply IsS101.drew | apply IsS101.set_1) | exact HI0.out)) hg (IsS101.own_ne HI0.out HO321.out (by decide))); have n1_ := Aside0.mk (hp_); have n2_ := Aside0.mk (Kd.R_after (v := (.slice (some ⟨go27, 0, none⟩) t319.length co30)) (v1 := (.slice (some ⟨go27, 0, none⟩) t319.length co30)) (ok := (fun _ => True)) (by (with_reducible repeat (first | apply Kd.R_alloc | apply Kd.R_drewN | apply Kd.R_drew)); exact HO334.out) hg (.inl rfl)); have n3_ := Aside0.mk ((by rw [hw]; exact below_set (HB.out) (Nat.le_trans HL.out GB27.out) : Below w0.heap.size w0 w37)); have n4_ := Aside0.mk (KeepBut.trans (by repeat (first | (with_reducible first | exact HK.out | apply KeepBut.set_ | apply keep_drewN | apply keep_drew | apply keep_alloc) | exact HK.out)) (KeepBut.of_grown hg g) (Kd.R_base2 HO321.out)); clear HI0; clear HO321; clear HO334; clear HB; clear HK; have HI0 := n0_; have HO321 := n1_; have HO334 := n2_; have HB := n3_; have HK := n4_; clear n0_ n1_ n2_ n3_ n4_; clear hg hw hp_))
              go_ret
              exact ⟨_, by first | rfl | (simp [errW_none, errW_some] <;> rfl) | (simp [*, errW_none, errW_some] <;> rfl), Kd.Q_of_R (by (with_reducible repeat (first | apply Kd.R_alloc | apply Kd.R_drewN | apply Kd.R_drew)); exact Kd.R_mono HO321.out (fun _ hk => trivial)), by repeat (first | (with_reducible first | exact HI0.out | apply IsS101.alloc | apply IsS101.drewN | apply IsS101.drew | apply IsS101.set_1) | exact HI0.out), by repeat (first | (with_reducible first | exact HB.out | apply below_alloc | apply pw_below_drewN | apply below_drew1 | refine below_set ?_ (IsS101.ge HI0.out)) | exact HB.out), by repeat (first | (with_reducible first | exact HK.out | apply KeepBut.set_ | apply keep_drewN | apply keep_drew | apply keep_alloc) | exact HK.out)⟩
            · rw [if_neg c26] at H
              exact absurd H (by simp)
          · rw [if_neg c25] at H
            exact absurd H (by simp)
        · rw [if_neg c22] at H
          have c22b0 : decide (0 < (t319.length : Int)) = false := decide_eq_false c22
          have c22b1 : decide (0 < t319.length) = false := decide_eq_false (by omega)
          clear c22
          simp only [Option.some.injEq, Prod.mk.injEq] at H
          obtain ⟨rfl, rfl⟩ := H
          go_enter Tryd.func106, Tryd.ntmps106
          go_wp2_with (first | ((with_reducible refine gate_callee (f := 115) rfl ?_); refine goesL_ (some 9) rfl rfl Tryd.func115 (by kernel_rfl) rfl #[.slice A1 l1.length c1] rfl (by (try simp only [List.map_toArray, List.map_cons, List.map_nil]); first | done | rfl | (simp only [List.length_drop, List.length_take]; rfl)) ?_; (with_reducible refine (spec_copyInts.calls _ _ l1 t319 _ ?side1 ?side2 A4.out).mono ?_); (case side1 => exact Kd.C_keep 0 HR1.out (by repeat (first | (with_reducible first | exact HK.out | apply KeepBut.set_ | apply keep_drewN | apply keep_drew | apply keep_alloc) | exact HK.out)) hf1); (case side2 => exact HC1.out); rintro e w38 ⟨v320, rfl, ho0, hb⟩; refine ⟨_, rfl, ?_⟩; have n0_ := Aside0.mk (Kd.R_lower ho0 (keep_size (w := w) (g := g) (row := none) (by repeat (first | (with_reducible first | exact HK.out | apply KeepBut.set_ | apply keep_drewN | apply keep_drew | apply keep_alloc) | exact HK.out)))); have n1_ := Aside0.mk (IsS101.below (by repeat (first | (with_reducible first | exact HI0.out | apply IsS101.alloc | apply IsS101.drewN | apply IsS101.drew | apply IsS101.set_1) | exact HI0.out)) hb); have n2_ := Aside0.mk (KeepBut.trans (by repeat (first | (with_reducible first | exact HK.out | apply KeepBut.set_ | apply keep_drewN | apply keep_drew | apply keep_alloc) | exact HK.out)) (KeepBut.of_below hb g none) (.inl rfl)); have n3_ := Aside0.mk (below_step (by repeat (first | (with_reducible first | exact HB.out | apply below_alloc | apply pw_below_drewN | apply below_drew1 | refine below_set ?_ (IsS101.ge HI0.out)) | exact HB.out)) hb); clear HI0; clear HK; clear HB; have HO321 := n0_; have HI0 := n1_; have HK := n2_; have HB := n3_; clear n0_ n1_ n2_ n3_; (try clear hb); (try clear hb2); (try clear hk); (try clear hi); (try clear ho0)) | ((with_reducible refine gate_callee (f := 104) rfl ?_); refine goesL_ (some 11) rfl rfl Tryd.func104 (by kernel_rfl) rfl #[.pointer (some ⟨g, 0, none⟩), .int .i64 20] rfl (by (try simp only [List.map_toArray, List.map_cons, List.map_nil]); first | done | rfl | (simp only [List.length_drop, List.length_take]; rfl)) ?_; (with_reducible refine (spec_reader_pick.calls k g s0_0 s0_1 20 t322 t323 w0 _ ?side1 ?side2 A5.out).mono ?_); (case side1 => repeat (first | (with_reducible first | exact HI0.out | apply IsS101.alloc | apply IsS101.drewN | apply IsS101.drew | apply IsS101.set_1) | exact HI0.out)); (case side2 => repeat (first | (with_reducible first | exact HB.out | apply below_alloc | apply pw_below_drewN | apply below_drew1 | refine below_set ?_ (IsS101.ge HI0.out)) | exact HB.out)); rintro e w39 ⟨rfl, hi, hb, hk⟩; refine ⟨_, rfl, ?_⟩; have n0_ := Aside0.mk (Kd.R_mono (Kd.R_keep (IsS101.apart (show IsS101 w0 _ g s0_0 s0_1 from by repeat (first | (with_reducible first | exact HI0.out | apply IsS101.alloc | apply IsS101.drewN | apply IsS101.drew | apply IsS101.set_1) | exact HI0.out)) (by (with_reducible repeat (first | apply Kd.R_alloc | apply Kd.R_drewN | apply Kd.R_drew)); exact HO321.out) (by decide)) hk (fun _ h => h.2)) (fun _ h => h.1)); have n1_ := Aside0.mk (KeepBut.trans (by repeat (first | (with_reducible first | exact HK.out | apply KeepBut.set_ | apply keep_drewN | apply keep_drew | apply keep_alloc) | exact HK.out)) hk (.inl rfl)); have n2_ := Aside0.mk (hb); have n3_ := Aside0.mk (hi); clear HO321; clear HK; clear HB; clear HI0; have HO321 := n0_; have HK := n1_; have HB := n2_; have HI0 := n3_; clear n0_ n1_ n2_ n3_; (try clear hb); (try clear hb2); (try clear hk); (try clear hi); obtain ⟨Ao40, co40, eo40⟩ := Kd.R_slice HO321.out; subst eo40))
          go_ret
          exact ⟨_, by first | rfl | (simp [errW_none, errW_some] <;> rfl) | (simp [*, errW_none, errW_some] <;> rfl), Kd.Q_of_R (by (with_reducible repeat (first | apply Kd.R_alloc | apply Kd.R_drewN | apply Kd.R_drew)); exact HO321.out), by repeat (first | (with_reducible first | exact HI0.out | apply IsS101.alloc | apply IsS101.drewN | apply IsS101.drew | apply IsS101.set_1) | exact HI0.out), by repeat (first | (with_reducible first | exact HB.out | apply below_alloc | apply pw_below_drewN | apply below_drew1 | refine below_set ?_ (IsS101.ge HI0.out)) | exact HB.out), by repeat (first | (with_reducible first | exact HK.out | apply KeepBut.set_ | apply keep_drewN | apply keep_drew | apply keep_alloc) | exact HK.out)⟩
      · rw [if_neg c21] at H
        have c21b0 : (t322 == 2) = false := beq_eq_false_iff_ne.mpr c21
        have c21b1 : (t322 != 2) = true := bne_iff_ne.mpr c21
        simp only [Option.some.injEq, Prod.mk.injEq] at H
        obtain ⟨rfl, rfl⟩ := H
        go_enter Tryd.func106, Tryd.ntmps106
        go_wp2_with (first | ((with_reducible refine gate_callee (f := 115) rfl ?_); refine goesL_ (some 9) rfl rfl Tryd.func115 (by kernel_rfl) rfl #[.slice A1 l1.length c1] rfl (by (try simp only [List.map_toArray, List.map_cons, List.map_nil]); first | done | rfl | (simp only [List.length_drop, List.length_take]; rfl)) ?_; (with_reducible refine (spec_copyInts.calls _ _ l1 t319 _ ?side1 ?side2 A4.out).mono ?_); (case side1 => exact Kd.C_keep 0 HR1.out (by repeat (first | (with_reducible first | exact HK.out | apply KeepBut.set_ | apply keep_drewN | apply keep_drew | apply keep_alloc) | exact HK.out)) hf1); (case side2 => exact HC1.out); rintro e w41 ⟨v320, rfl, ho0, hb⟩; refine ⟨_, rfl, ?_⟩; have n0_ := Aside0.mk (Kd.R_lower ho0 (keep_size (w := w) (g := g) (row := none) (by repeat (first | (with_reducible first | exact HK.out | apply KeepBut.set_ | apply keep_drewN | apply keep_drew | apply keep_alloc) | exact HK.out)))); have n1_ := Aside0.mk (IsS101.below (by repeat (first | (with_reducible first | exact HI0.out | apply IsS101.alloc | apply IsS101.drewN | apply IsS101.drew | apply IsS101.set_1) | exact HI0.out)) hb); have n2_ := Aside0.mk (KeepBut.trans (by repeat (first | (with_reducible first | exact HK.out | apply KeepBut.set_ | apply keep_drewN | apply keep_drew | apply keep_alloc) | exact HK.out)) (KeepBut.of_below hb g none) (.inl rfl)); have n3_ := Aside0.mk (below_step (by repeat (first | (with_reducible first | exact HB.out | apply below_alloc | apply pw_below_drewN | apply below_drew1 | refine below_set ?_ (IsS101.ge HI0.out)) | exact HB.out)) hb); clear HI0; clear HK; clear HB; have HO321 := n0_; have HI0 := n1_; have HK := n2_; have HB := n3_; clear n0_ n1_ n2_ n3_; (try clear hb); (try clear hb2); (try clear hk); (try clear hi); (try clear ho0)) | ((with_reducible refine gate_callee (f := 104) rfl ?_); refine goesL_ (some 11) rfl rfl Tryd.func104 (by kernel_rfl) rfl #[.pointer (some ⟨g, 0, none⟩), .int .i64 20] rfl (by (try simp only [List.map_toArray, List.map_cons, List.map_nil]); first | done | rfl | (simp only [List.length_drop, List.length_take]; rfl)) ?_; (with_reducible refine (spec_reader_pick.calls k g s0_0 s0_1 20 t322 t323 w0 _ ?side1 ?side2 A5.out).mono ?_); (case side1 => repeat (first | (with_reducible first | exact HI0.out | apply IsS101.alloc | apply IsS101.drewN | apply IsS101.drew | apply IsS101.set_1) | exact HI0.out)); (case side2 => repeat (first | (with_reducible first | exact HB.out | apply below_alloc | apply pw_below_drewN | apply below_drew1 | refine below_set ?_ (IsS101.ge HI0.out)) | exact HB.out)); rintro e w42 ⟨rfl, hi, hb, hk⟩; refine ⟨_, rfl, ?_⟩; have n0_ := Aside0.mk (Kd.R_mono (Kd.R_keep (IsS101.apart (show IsS101 w0 _ g s0_0 s0_1 from by repeat (first | (with_reducible first | exact HI0.out | apply IsS101.alloc | apply IsS101.drewN | apply IsS101.drew | apply IsS101.set_1) | exact HI0.out)) (by (with_reducible repeat (first | apply Kd.R_alloc | apply Kd.R_drewN | apply Kd.R_drew)); exact HO321.out) (by decide)) hk (fun _ h => h.2)) (fun _ h => h.1)); have n1_ := Aside0.mk (KeepBut.trans (by repeat (first | (with_reducible first | exact HK.out | apply KeepBut.set_ | apply keep_drewN | apply keep_drew | apply keep_alloc) | exact HK.out)) hk (.inl rfl)); have n2_ := Aside0.mk (hb); have n3_ := Aside0.mk (hi); clear HO321; clear HK; clear HB; clear HI0; have HO321 := n0_; have HK := n1_; have HB := n2_; have HI0 := n3_; clear n0_ n1_ n2_ n3_; (try clear hb); (try clear hb2); (try clear hk); (try clear hi)))
        go_ret
        exact ⟨_, by first | rfl | (simp [errW_none, errW_some] <;> rfl) | (simp [*, errW_none, errW_some] <;> rfl), Kd.Q_of_R (by (with_reducible repeat (first | apply Kd.R_alloc | apply Kd.R_drewN | apply Kd.R_drew)); exact HO321.out), by repeat (first | (with_reducible first | exact HI0.out | apply IsS101.alloc | apply IsS101.drewN | apply IsS101.drew | apply IsS101.set_1) | exact HI0.out), by repeat (first | (with_reducible first | exact HB.out | apply below_alloc | apply pw_below_drewN | apply below_drew1 | refine below_set ?_ (IsS101.ge HI0.out)) | exact HB.out), by repeat (first | (with_reducible first | exact HK.out | apply KeepBut.set_ | apply keep_drewN | apply keep_drew | apply keep_alloc) | exact HK.out)⟩
end Go.Proofs.YtekajandipdlhaaDoor.P
end
section
namespace Go.Proofs.YtekajandipdlhaaDoor.P
open Go.RowKit Go.Proofs.YtekajandipdlhaaDoorW.PrintWords Go.Proofs.YtekajandipdlhaaDoorW.PrintLast Go.Proofs.YtekajandipdlhaaDoorW.PrintMore
attribute [local go_sem] max2_int min2_int max_two min_two max_three min_three max_four min_four   -- for this text's walks alone
set_option linter.unusedVariables false
set_option linter.unusedSimpArgs false
def laws_equalInts.l0 : Nat → List Int → List Int → Int → Option (Bool)
  | 0, _, _, _ => none
  | k + 1, x0, x1, x5 => if x5 < (x0.length : Int) then (if 0 ≤ x5 then (if x5 < (x1.length : Int) then (if (rd x0 x5) = (rd x1 x5) then (laws_equalInts.l0 k x0 x1 (wrap64 (x5 + 1))) else (some false)) else (none)) else (none)) else (some true)
def laws_equalInts.f (k : Nat) (l0 : List Int) (l1 : List Int) : Option (Bool) := if (l0.length : Int) = (l1.length : Int) then (laws_equalInts.l0 k l0 l1 0) else (some false)
theorem laws_equalInts.mono_l : ∀ k, (∀ y0 y1 y2, LeO (laws_equalInts.l0 k y0 y1 y2) (laws_equalInts.l0 (k + 1) y0 y1 y2))
  | 0 => fun _ _ _ r h => by simp [laws_equalInts.l0] at h
  | k + 1 => by
    have ih0 := laws_equalInts.mono_l k
    · intro y0 y1 y2
      unfold laws_equalInts.l0
      repeat' first
      | (with_reducible exact ih0 _ _ _)
      | (with_reducible exact LeO.refl _)
      | (with_reducible exact LeO.none _)
      | (with_reducible refine LeO.ite ?_ ?_)
      | (with_reducible refine LeO.bind ?_ (fun _ => ?_))
      | exact ih0 _ _ _
      | exact LeO.none _
      | refine LeO.ite ?_ ?_
      | refine LeO.bind ?_ (fun _ => ?_)
theorem laws_equalInts.mono : ∀ a0 a1 k, LeO (laws_equalInts.f k a0 a1) (laws_equalInts.f (k + 1) a0 a1) := by
  intro a0 a1 k
  have ih0 := laws_equalInts.mono_l k
  unfold laws_equalInts.f
  repeat' first
      | (with_reducible exact ih0 _ _ _)
      | (with_reducible exact LeO.refl _)
      | (with_reducible exact LeO.none _)
      | (with_reducible refine LeO.ite ?_ ?_)
      | (with_reducible refine LeO.bind ?_ (fun _ => ?_))
      | exact ih0 _ _ _
      | exact LeO.none _
      | refine LeO.ite ?_ ?_
      | refine LeO.bind ?_ (fun _ => ?_)
set_option maxHeartbeats 8000000 in
set_option maxRecDepth 100000 in
theorem laws_equalInts.calls (k : Nat) (A0 : Option Addr) (c0 : Nat) (l0 : List Int) (A1 : Option Addr) (c1 : Nat) (l1 : List Int) (r : Bool) (w : World) (hr0 : Kd.C (Kd.int .i64) w A0 l0.length l0) (hc0 : l0.length ≤ c0) (hr1 : Kd.C (Kd.int .i64) w A1 l1.length l1) (hc1 : l1.length ≤ c1) (h : laws_equalInts.f k l0 l1 = some r) :
    Calls Tryd.prog 33 #[.slice A0 l0.length c0, .slice A1 l1.length c1] w fun e w' => e = .returned (.bool r) ∧ Drawn0 w w' := by
  have HR0 := Aside0.mk hr0
  have HC0 := Aside0.mk hc0
  clear hr0 hc0
  have HR1 := Aside0.mk hr1
  have HC1 := Aside0.mk hc1
  clear hr1 hc1
  have H : (if (l0.length : Int) = (l1.length : Int) then (laws_equalInts.l0 k l0 l1 0) else (some false)) = some r := h
  clear h
  by_cases c3 : (l0.length : Int) = (l1.length : Int)
  · rw [if_pos c3] at H
    have c3b0 : ((l0.length : Int) == (l1.length : Int)) = true := beq_iff_eq.mpr c3
    have c3b1 : ((l0.length : Int) != (l1.length : Int)) = false := bne_eq_false_iff_eq.mpr c3
    have c3b2 : (l0.length == l1.length) = true := by first | simpa using c3 | (simp at c3 ⊢; omega)
    clear c3
    have H' := Aside0.mk H
    clear H
    go_enter Tryd.func33, Tryd.ntmps33
    go_wp2
    repeat (go_quiet (fail); try go_wp2)
    go_loopg [5] k (fun kq v5 w' => ∃ (x5_1 : Int), v5 = .int .i64 x5_1 ∧ Aside0 (laws_equalInts.l0 kq l0 l1 x5_1 = some r) ∧ Aside0 (kq ≤ k) ∧ Drawn0 w w')
    case atStart => exact ⟨(0), (by first | rfl | (simp; done) | (simp [*]; done)), H', ⟨Nat.le_refl _⟩, by repeat (first | exact Drawn0.refl _ | apply Drawn0.step)⟩
    case round =>
      clear H'
      try clear c1
      try clear p2
      try clear c3
      try clear c3b0
      try clear c3b1
      try clear c3b2
      obtain ⟨x5_1, rfl, HA, HK1, ⟨m1, rfl⟩⟩ := hrel
      cases gk with
      | zero => exact absurd HA.out (by simp [laws_equalInts.l0])
      | succ k1 =>
        have H := HA.out
        clear HA
        simp only [laws_equalInts.l0] at H
        by_cases c4 : x5_1 < (l0.length : Int)
        · rw [if_pos c4] at H
          have c4b0 : decide (x5_1 < (l0.length : Int)) = true := decide_eq_true c4
          clear c4
          by_cases c5 : 0 ≤ x5_1
          · rw [if_pos c5] at H
            have c5b0 : decide (0 ≤ x5_1) = true := decide_eq_true c5
            clear c5
            by_cases c6 : x5_1 < (l1.length : Int)
            · rw [if_pos c6] at H
              have c6b0 : decide (x5_1 < (l1.length : Int)) = true := decide_eq_true c6
              clear c6
              by_cases c7 : (rd l0 x5_1) = (rd l1 x5_1)
              · rw [if_pos c7] at H
                have c7b0 : ((rd l0 x5_1) == (rd l1 x5_1)) = true := beq_iff_eq.mpr c7
                have c7b1 : ((rd l0 x5_1) != (rd l1 x5_1)) = false := bne_eq_false_iff_eq.mpr c7
                clear c7
                have H' := Aside0.mk H
                clear H
                have p348 : 0 ≤ (x5_1 : Int) := of_decide_eq_true (by first | (with_reducible assumption) | assumption)
                have q348 : x5_1 < (l0.length : Int) := of_decide_eq_true (by first | (with_reducible assumption) | assumption)
                obtain ⟨ad348, e348, hx348_0⟩ := Kd.at_int HR0.out x5_1 p348 q348
                cases e348
                replace p348 := eq_true p348
                replace q348 := eq_true q348
                have p349 : 0 ≤ (x5_1 : Int) := of_decide_eq_true (by first | (with_reducible assumption) | assumption)
                have q349 : x5_1 < (l1.length : Int) := of_decide_eq_true (by first | (with_reducible assumption) | assumption)
                obtain ⟨ad349, e349, hx349_0⟩ := Kd.at_int HR1.out x5_1 p349 q349
                cases e349
                replace p349 := eq_true p349
                replace q349 := eq_true q349
                go_wp2
                repeat (go_quiet (fail); try go_wp2)
                go_roundg k1
                case measure => have := HK1.out; omega
                case rel => exact ⟨(wrap64 (x5_1 + 1)), (by first | rfl | (simp; done) | (simp [*]; done)), H', ⟨by have := HK1.out; omega⟩, by repeat (first | exact Drawn0.refl _ | apply Drawn0.step)⟩
              · rw [if_neg c7] at H
                have c7b0 : ((rd l0 x5_1) == (rd l1 x5_1)) = false := beq_eq_false_iff_ne.mpr c7
                have c7b1 : ((rd l0 x5_1) != (rd l1 x5_1)) = true := bne_iff_ne.mpr c7
                obtain rfl := Option.some.inj H
                have p348 : 0 ≤ (x5_1 : Int) := of_decide_eq_true (by first | (with_reducible assumption) | assumption)
                have q348 : x5_1 < (l0.length : Int) := of_decide_eq_true (by first | (with_reducible assumption) | assumption)
                obtain ⟨ad348, e348, hx348_0⟩ := Kd.at_int HR0.out x5_1 p348 q348
                cases e348
                replace p348 := eq_true p348
                replace q348 := eq_true q348
                have p349 : 0 ≤ (x5_1 : Int) := of_decide_eq_true (by first | (with_reducible assumption) | assumption)
                have q349 : x5_1 < (l1.length : Int) := of_decide_eq_true (by first | (with_reducible assumption) | assumption)
                obtain ⟨ad349, e349, hx349_0⟩ := Kd.at_int HR1.out x5_1 p349 q349
                cases e349
                replace p349 := eq_true p349
                replace q349 := eq_true q349
                go_wp2
                repeat (go_quiet (fail); try go_wp2)
                go_ret
                exact ⟨by first | rfl | (simp; done) | (simp [*]; done), by repeat (first | exact Drawn0.refl _ | apply Drawn0.step)⟩
            · rw [if_neg c6] at H
              exact absurd H (by simp)
          · rw [if_neg c5] at H
            exact absurd H (by simp)
        · rw [if_neg c4] at H
          have c4b0 : decide (x5_1 < (l0.length : Int)) = false := decide_eq_false c4
          clear c4
          obtain rfl := Option.some.inj H
          go_wp2
          repeat (go_quiet (fail); try go_wp2)
          go_ret
          exact ⟨by first | rfl | (simp; done) | (simp [*]; done), by repeat (first | exact Drawn0.refl _ | apply Drawn0.step)⟩
  · rw [if_neg c3] at H
    have c3b0 : ((l0.length : Int) == (l1.length : Int)) = false := beq_eq_false_iff_ne.mpr c3
    have c3b1 : ((l0.length : Int) != (l1.length : Int)) = true := bne_iff_ne.mpr c3
    have c3b2 : (l0.length == l1.length) = false := by first | simpa using c3 | (simp at c3 ⊢; omega)
    obtain rfl := Option.some.inj H
    go_enter Tryd.func33, Tryd.ntmps33
    go_wp2
    repeat (go_quiet (fail); try go_wp2)
    go_ret
    exact ⟨by first | rfl | (simp; done) | (simp [*]; done), by repeat (first | exact Drawn0.refl _ | apply Drawn0.step)⟩
end Go.Proofs.YtekajandipdlhaaDoor.P
end
section
namespace Go.Proofs.YtekajandipdlhaaDoor.P
open Go.RowKit Go.Proofs.YtekajandipdlhaaDoorW.PrintWords Go.Proofs.YtekajandipdlhaaDoorW.PrintLast Go.Proofs.YtekajandipdlhaaDoorW.PrintMore
attribute [local go_sem] max2_int min2_int max_two min_two max_three min_three max_four min_four   -- for this text's walks alone
set_option linter.unusedVariables false
set_option linter.unusedSimpArgs false
def laws_equalLists.l0 : Nat → List (List Int) → List (List Int) → Int → Option (Bool)
  | 0, _, _, _ => none
  | k + 1, x0, x1, x5 => if x5 < (x0.length : Int) then (if 0 ≤ x5 then (if x5 < (x1.length : Int) then ((laws_equalInts.f k (rd_L1 x0 x5) (rd_L1 x1 x5)).bind fun t352 => (if t352 = true then (laws_equalLists.l0 k x0 x1 (wrap64 (x5 + 1))) else (some false))) else (none)) else (none)) else (some true)
def laws_equalLists.f (k : Nat) (l0 : List (List Int)) (l1 : List (List Int)) : Option (Bool) := if (l0.length : Int) = (l1.length : Int) then (laws_equalLists.l0 k l0 l1 0) else (some false)
theorem laws_equalLists.mono_l : ∀ k, (∀ y0 y1 y2, LeO (laws_equalLists.l0 k y0 y1 y2) (laws_equalLists.l0 (k + 1) y0 y1 y2))
  | 0 => fun _ _ _ r h => by simp [laws_equalLists.l0] at h
  | k + 1 => by
    have ih0 := laws_equalLists.mono_l k
    · intro y0 y1 y2
      unfold laws_equalLists.l0
      repeat' first
      | (with_reducible exact ih0 _ _ _)
      | (with_reducible exact laws_equalInts.mono _ _ _)
      | (with_reducible exact LeO.refl _)
      | (with_reducible exact LeO.none _)
      | (with_reducible refine LeO.ite ?_ ?_)
      | (with_reducible refine LeO.bind ?_ (fun _ => ?_))
      | exact ih0 _ _ _
      | exact laws_equalInts.mono _ _ _
      | exact LeO.none _
      | refine LeO.ite ?_ ?_
      | refine LeO.bind ?_ (fun _ => ?_)
theorem laws_equalLists.mono : ∀ a0 a1 k, LeO (laws_equalLists.f k a0 a1) (laws_equalLists.f (k + 1) a0 a1) := by
  intro a0 a1 k
  have ih0 := laws_equalLists.mono_l k
  unfold laws_equalLists.f
  repeat' first
      | (with_reducible exact ih0 _ _ _)
      | (with_reducible exact laws_equalInts.mono _ _ _)
      | (with_reducible exact LeO.refl _)
      | (with_reducible exact LeO.none _)
      | (with_reducible refine LeO.ite ?_ ?_)
      | (with_reducible refine LeO.bind ?_ (fun _ => ?_))
      | exact ih0 _ _ _
      | exact laws_equalInts.mono _ _ _
      | exact LeO.none _
      | refine LeO.ite ?_ ?_
      | refine LeO.bind ?_ (fun _ => ?_)
set_option maxHeartbeats 8000000 in
set_option maxRecDepth 100000 in
theorem laws_equalLists.calls (k : Nat) (A0 : Option Addr) (c0 : Nat) (l0 : List (List Int)) (A1 : Option Addr) (c1 : Nat) (l1 : List (List Int)) (r : Bool) (w : World) (hr0 : Kd.C (Kd.slice 3 (Kd.int .i64)) w A0 l0.length l0) (hc0 : l0.length ≤ c0) (hr1 : Kd.C (Kd.slice 3 (Kd.int .i64)) w A1 l1.length l1) (hc1 : l1.length ≤ c1) (h : laws_equalLists.f k l0 l1 = some r) :
    Calls Tryd.prog 25 #[.slice A0 l0.length c0, .slice A1 l1.length c1] w fun e w' => e = .returned (.bool r) ∧ Drawn0 w w' := by
  have HR0 := Aside0.mk hr0
  have HC0 := Aside0.mk hc0
  clear hr0 hc0
  have HR1 := Aside0.mk hr1
  have HC1 := Aside0.mk hc1
  clear hr1 hc1
  have H : (if (l0.length : Int) = (l1.length : Int) then (laws_equalLists.l0 k l0 l1 0) else (some false)) = some r := h
  clear h
  by_cases c3 : (l0.length : Int) = (l1.length : Int)
  · rw [if_pos c3] at H
    have c3b0 : ((l0.length : Int) == (l1.length : Int)) = true := beq_iff_eq.mpr c3
    have c3b1 : ((l0.length : Int) != (l1.length : Int)) = false := bne_eq_false_iff_eq.mpr c3
    have c3b2 : (l0.length == l1.length) = true := by first | simpa using c3 | (simp at c3 ⊢; omega)
    clear c3
    have H' := Aside0.mk H
    clear H
    go_enter Tryd.func25, Tryd.ntmps25
    go_wp2
    repeat (go_quiet (fail); try go_wp2)
    go_loopg [5] k (fun kq v5 w' => ∃ (x5_1 : Int), v5 = .int .i64 x5_1 ∧ Aside0 (laws_equalLists.l0 kq l0 l1 x5_1 = some r) ∧ Aside0 (kq ≤ k) ∧ Drawn0 w w')
    case atStart => exact ⟨(0), (by first | rfl | (simp; done) | (simp [*]; done)), H', ⟨Nat.le_refl _⟩, by repeat (first | exact Drawn0.refl _ | apply Drawn0.step)⟩
    case round =>
      clear H'
      try clear c1
      try clear c2
      try clear p2
      try clear c3
      try clear c3b0
      try clear c3b1
      try clear c3b2
      obtain ⟨x5_1, rfl, HA, HK1, ⟨m1, rfl⟩⟩ := hrel
      cases gk with
      | zero => exact absurd HA.out (by simp [laws_equalLists.l0])
      | succ k1 =>
        have H := HA.out
        clear HA
        simp only [laws_equalLists.l0] at H
        by_cases c4 : x5_1 < (l0.length : Int)
        · rw [if_pos c4] at H
          have c4b0 : decide (x5_1 < (l0.length : Int)) = true := decide_eq_true c4
          clear c4
          by_cases c5 : 0 ≤ x5_1
          · rw [if_pos c5] at H
            have c5b0 : decide (0 ≤ x5_1) = true := decide_eq_true c5
            clear c5
            by_cases c6 : x5_1 < (l1.length : Int)
            · rw [if_pos c6] at H
              have c6b0 : decide (x5_1 < (l1.length : Int)) = true := decide_eq_true c6
              clear c6
              replace H := Option.bind_eq_some_iff.mp H
              obtain ⟨t352, A70, H⟩ := H
              replace H : (if t352 = true then (laws_equalLists.l0 k1 l0 l1 (wrap64 (x5_1 + 1))) else (some false)) = some r := H
              have A7 := Aside0.mk A70
              clear A70
              by_cases c8 : t352 = true
              · subst c8
                have H1 : (laws_equalLists.l0 k1 l0 l1 (wrap64 (x5_1 + 1))) = some r := by rw [if_pos rfl] at H; exact H
                clear H
                have H := H1
                clear H1
                have H' := Aside0.mk H
                clear H
                have p350 : 0 ≤ (x5_1 : Int) := of_decide_eq_true (by first | (with_reducible assumption) | assumption)
                have q350 : x5_1 < (l0.length : Int) := of_decide_eq_true (by first | (with_reducible assumption) | assumption)
                obtain ⟨ad350, A350_0, c350_0, e350, hx350_0, hl350_0, hi350_0⟩ := at_L1 HR0.out x5_1 p350 q350
                cases e350
                have HR350_0 := Aside0.mk hi350_0
                have HC350_0 := Aside0.mk hl350_0
                clear hi350_0 hl350_0
                replace p350 := eq_true p350
                replace q350 := eq_true q350
                have p351 : 0 ≤ (x5_1 : Int) := of_decide_eq_true (by first | (with_reducible assumption) | assumption)
                have q351 : x5_1 < (l1.length : Int) := of_decide_eq_true (by first | (with_reducible assumption) | assumption)
                obtain ⟨ad351, A351_0, c351_0, e351, hx351_0, hl351_0, hi351_0⟩ := at_L1 HR1.out x5_1 p351 q351
                cases e351
                have HR351_0 := Aside0.mk hi351_0
                have HC351_0 := Aside0.mk hl351_0
                clear hi351_0 hl351_0
                replace p351 := eq_true p351
                replace q351 := eq_true q351
                go_wp2_with (first | (go_at_call 33; (with_reducible refine (laws_equalInts.calls k1 _ _ (rd_L1 l0 x5_1) _ _ (rd_L1 l1 x5_1) true _ ?side1 ?side2 ?side3 ?side4 A7.out).mono ?_); (case side1 => repeat (first | exact HR350_0.out | (with_reducible refine Kd.C_alloc ?_ _) | (with_reducible refine Kd.C_drewN ?_ _) | (with_reducible refine Kd.C_drew ?_))); (case side2 => exact HC350_0.out); (case side3 => repeat (first | exact HR351_0.out | (with_reducible refine Kd.C_alloc ?_ _) | (with_reducible refine Kd.C_drewN ?_ _) | (with_reducible refine Kd.C_drew ?_))); (case side4 => exact HC351_0.out); rintro e w' ⟨rfl, ⟨nd, rfl⟩⟩; (try first | exact ⟨rfl, _, World.drewN_drewN _ _ _⟩ | exact ⟨rfl, _, Eq.trans (World.drewN_drewN _ _ _) (congrArg (World.drewN _) (Nat.add_assoc _ _ _))⟩)))
                repeat (go_quiet (first | (go_at_call 33; (with_reducible refine (laws_equalInts.calls k1 _ _ (rd_L1 l0 x5_1) _ _ (rd_L1 l1 x5_1) true _ ?side1 ?side2 ?side3 ?side4 A7.out).mono ?_); (case side1 => repeat (first | exact HR350_0.out | (with_reducible refine Kd.C_alloc ?_ _) | (with_reducible refine Kd.C_drewN ?_ _) | (with_reducible refine Kd.C_drew ?_))); (case side2 => exact HC350_0.out); (case side3 => repeat (first | exact HR351_0.out | (with_reducible refine Kd.C_alloc ?_ _) | (with_reducible refine Kd.C_drewN ?_ _) | (with_reducible refine Kd.C_drew ?_))); (case side4 => exact HC351_0.out); rintro e w' ⟨rfl, ⟨nd, rfl⟩⟩; (try first | exact ⟨rfl, _, World.drewN_drewN _ _ _⟩ | exact ⟨rfl, _, Eq.trans (World.drewN_drewN _ _ _) (congrArg (World.drewN _) (Nat.add_assoc _ _ _))⟩))); try go_wp2_with (first | (go_at_call 33; (with_reducible refine (laws_equalInts.calls k1 _ _ (rd_L1 l0 x5_1) _ _ (rd_L1 l1 x5_1) true _ ?side1 ?side2 ?side3 ?side4 A7.out).mono ?_); (case side1 => repeat (first | exact HR350_0.out | (with_reducible refine Kd.C_alloc ?_ _) | (with_reducible refine Kd.C_drewN ?_ _) | (with_reducible refine Kd.C_drew ?_))); (case side2 => exact HC350_0.out); (case side3 => repeat (first | exact HR351_0.out | (with_reducible refine Kd.C_alloc ?_ _) | (with_reducible refine Kd.C_drewN ?_ _) | (with_reducible refine Kd.C_drew ?_))); (case side4 => exact HC351_0.out); rintro e w' ⟨rfl, ⟨nd, rfl⟩⟩; (try first | exact ⟨rfl, _, World.drewN_drewN _ _ _⟩ | exact ⟨rfl, _, Eq.trans (World.drewN_drewN _ _ _) (congrArg (World.drewN _) (Nat.add_assoc _ _ _))⟩))))
                go_roundg k1
                case measure => have := HK1.out; omega
                case rel => exact ⟨(wrap64 (x5_1 + 1)), (by first | rfl | (simp; done) | (simp [*]; done)), H', ⟨by have := HK1.out; omega⟩, by repeat (first | exact Drawn0.refl _ | apply Drawn0.step)⟩
              · replace c8 := Bool.eq_false_iff.mpr c8
                subst c8
                have H1 : (some false) = some r := by rw [if_neg (show ¬ (false = true) by decide)] at H; exact H
                clear H
                have H := H1
                clear H1
                obtain rfl := Option.some.inj H
                have p350 : 0 ≤ (x5_1 : Int) := of_decide_eq_true (by first | (with_reducible assumption) | assumption)
                have q350 : x5_1 < (l0.length : Int) := of_decide_eq_true (by first | (with_reducible assumption) | assumption)
                obtain ⟨ad350, A350_0, c350_0, e350, hx350_0, hl350_0, hi350_0⟩ := at_L1 HR0.out x5_1 p350 q350
                cases e350
                have HR350_0 := Aside0.mk hi350_0
                have HC350_0 := Aside0.mk hl350_0
                clear hi350_0 hl350_0
                replace p350 := eq_true p350
                replace q350 := eq_true q350
                have p351 : 0 ≤ (x5_1 : Int) := of_decide_eq_true (by first | (with_reducible assumption) | assumption)
                have q351 : x5_1 < (l1.length : Int) := of_decide_eq_true (by first | (with_reducible assumption) | assumption)
                obtain ⟨ad351, A351_0, c351_0, e351, hx351_0, hl351_0, hi351_0⟩ := at_L1 HR1.out x5_1 p351 q351
                cases e351
                have HR351_0 := Aside0.mk hi351_0
                have HC351_0 := Aside0.mk hl351_0
                clear hi351_0 hl351_0
                replace p351 := eq_true p351
                replace q351 := eq_true q351
                go_wp2_with (first | (go_at_call 33; (with_reducible refine (laws_equalInts.calls k1 _ _ (rd_L1 l0 x5_1) _ _ (rd_L1 l1 x5_1) false _ ?side1 ?side2 ?side3 ?side4 A7.out).mono ?_); (case side1 => repeat (first | exact HR350_0.out | (with_reducible refine Kd.C_alloc ?_ _) | (with_reducible refine Kd.C_drewN ?_ _) | (with_reducible refine Kd.C_drew ?_))); (case side2 => exact HC350_0.out); (case side3 => repeat (first | exact HR351_0.out | (with_reducible refine Kd.C_alloc ?_ _) | (with_reducible refine Kd.C_drewN ?_ _) | (with_reducible refine Kd.C_drew ?_))); (case side4 => exact HC351_0.out); rintro e w' ⟨rfl, ⟨nd, rfl⟩⟩; (try first | exact ⟨rfl, _, World.drewN_drewN _ _ _⟩ | exact ⟨rfl, _, Eq.trans (World.drewN_drewN _ _ _) (congrArg (World.drewN _) (Nat.add_assoc _ _ _))⟩)))
                repeat (go_quiet (first | (go_at_call 33; (with_reducible refine (laws_equalInts.calls k1 _ _ (rd_L1 l0 x5_1) _ _ (rd_L1 l1 x5_1) false _ ?side1 ?side2 ?side3 ?side4 A7.out).mono ?_); (case side1 => repeat (first | exact HR350_0.out | (with_reducible refine Kd.C_alloc ?_ _) | (with_reducible refine Kd.C_drewN ?_ _) | (with_reducible refine Kd.C_drew ?_))); (case side2 => exact HC350_0.out); (case side3 => repeat (first | exact HR351_0.out | (with_reducible refine Kd.C_alloc ?_ _) | (with_reducible refine Kd.C_drewN ?_ _) | (with_reducible refine Kd.C_drew ?_))); (case side4 => exact HC351_0.out); rintro e w' ⟨rfl, ⟨nd, rfl⟩⟩; (try first | exact ⟨rfl, _, World.drewN_drewN _ _ _⟩ | exact ⟨rfl, _, Eq.trans (World.drewN_drewN _ _ _) (congrArg (World.drewN _) (Nat.add_assoc _ _ _))⟩))); try go_wp2_with (first | (go_at_call 33; (with_reducible refine (laws_equalInts.calls k1 _ _ (rd_L1 l0 x5_1) _ _ (rd_L1 l1 x5_1) false _ ?side1 ?side2 ?side3 ?side4 A7.out).mono ?_); (case side1 => repeat (first | exact HR350_0.out | (with_reducible refine Kd.C_alloc ?_ _) | (with_reducible refine Kd.C_drewN ?_ _) | (with_reducible refine Kd.C_drew ?_))); (case side2 => exact HC350_0.out); (case side3 => repeat (first | exact HR351_0.out | (with_reducible refine Kd.C_alloc ?_ _) | (with_reducible refine Kd.C_drewN ?_ _) | (with_reducible refine Kd.C_drew ?_))); (case side4 => exact HC351_0.out); rintro e w' ⟨rfl, ⟨nd, rfl⟩⟩; (try first | exact ⟨rfl, _, World.drewN_drewN _ _ _⟩ | exact ⟨rfl, _, Eq.trans (World.drewN_drewN _ _ _) (congrArg (World.drewN _) (Nat.add_assoc _ _ _))⟩))))
                go_ret
                exact ⟨by first | rfl | (simp; done) | (simp [*]; done), by repeat (first | exact Drawn0.refl _ | apply Drawn0.step)⟩
            · rw [if_neg c6] at H
              exact absurd H (by simp)
          · rw [if_neg c5] at H
            exact absurd H (by simp)
        · rw [if_neg c4] at H
          have c4b0 : decide (x5_1 < (l0.length : Int)) = false := decide_eq_false c4
          clear c4
          obtain rfl := Option.some.inj H
          go_wp2
          repeat (go_quiet (fail); try go_wp2)
          go_ret
          exact ⟨by first | rfl | (simp; done) | (simp [*]; done), by repeat (first | exact Drawn0.refl _ | apply Drawn0.step)⟩
  · rw [if_neg c3] at H
    have c3b0 : ((l0.length : Int) == (l1.length : Int)) = false := beq_eq_false_iff_ne.mpr c3
    have c3b1 : ((l0.length : Int) != (l1.length : Int)) = true := bne_iff_ne.mpr c3
    have c3b2 : (l0.length == l1.length) = false := by first | simpa using c3 | (simp at c3 ⊢; omega)
    obtain rfl := Option.some.inj H
    go_enter Tryd.func25, Tryd.ntmps25
    go_wp2
    repeat (go_quiet (fail); try go_wp2)
    go_ret
    exact ⟨by first | rfl | (simp; done) | (simp [*]; done), by repeat (first | exact Drawn0.refl _ | apply Drawn0.step)⟩
end Go.Proofs.YtekajandipdlhaaDoor.P
end
section
namespace Go.Proofs.YtekajandipdlhaaDoor.P
open Go.RowKit Go.Proofs.YtekajandipdlhaaDoorW.PrintWords Go.Proofs.YtekajandipdlhaaDoorW.PrintLast Go.Proofs.YtekajandipdlhaaDoorW.PrintMore
attribute [local go_sem] max2_int min2_int max_two min_two max_three min_three max_four min_four   -- for this text's walks alone
set_option linter.unusedVariables false
set_option linter.unusedSimpArgs false
def laws_isIn.l0 : Nat → List Int → Int → Int → Option (Bool)
  | 0, _, _, _ => none
  | k + 1, x0, x1, x5 => if x5 < (x0.length : Int) then (if 0 ≤ x5 then (if (rd x0 x5) = x1 then (some true) else (laws_isIn.l0 k x0 x1 (wrap64 (x5 + 1)))) else (none)) else (some false)
def laws_isIn.f (k : Nat) (l0 : List Int) (a1 : Int) : Option (Bool) := laws_isIn.l0 k l0 a1 0
theorem laws_isIn.mono_l : ∀ k, (∀ y0 y1 y2, LeO (laws_isIn.l0 k y0 y1 y2) (laws_isIn.l0 (k + 1) y0 y1 y2))
  | 0 => fun _ _ _ r h => by simp [laws_isIn.l0] at h
  | k + 1 => by
    have ih0 := laws_isIn.mono_l k
    · intro y0 y1 y2
      unfold laws_isIn.l0
      repeat' first
      | (with_reducible exact ih0 _ _ _)
      | (with_reducible exact LeO.refl _)
      | (with_reducible exact LeO.none _)
      | (with_reducible refine LeO.ite ?_ ?_)
      | (with_reducible refine LeO.bind ?_ (fun _ => ?_))
      | exact ih0 _ _ _
      | exact LeO.none _
      | refine LeO.ite ?_ ?_
      | refine LeO.bind ?_ (fun _ => ?_)
theorem laws_isIn.mono : ∀ a0 a1 k, LeO (laws_isIn.f k a0 a1) (laws_isIn.f (k + 1) a0 a1) := by
  intro a0 a1 k
  have ih0 := laws_isIn.mono_l k
  unfold laws_isIn.f
  repeat' first
      | (with_reducible exact ih0 _ _ _)
      | (with_reducible exact LeO.refl _)
      | (with_reducible exact LeO.none _)
      | (with_reducible refine LeO.ite ?_ ?_)
      | (with_reducible refine LeO.bind ?_ (fun _ => ?_))
      | exact ih0 _ _ _
      | exact LeO.none _
      | refine LeO.ite ?_ ?_
      | refine LeO.bind ?_ (fun _ => ?_)
set_option maxHeartbeats 8000000 in
set_option maxRecDepth 100000 in
theorem laws_isIn.calls (k : Nat) (A0 : Option Addr) (c0 : Nat) (l0 : List Int) (a1 : Int) (r : Bool) (w : World) (hr0 : Kd.C (Kd.int .i64) w A0 l0.length l0) (hc0 : l0.length ≤ c0) (h : laws_isIn.f k l0 a1 = some r) :
    Calls Tryd.prog 26 #[.slice A0 l0.length c0, .int .i64 a1] w fun e w' => e = .returned (.bool r) ∧ Drawn0 w w' := by
  have HR0 := Aside0.mk hr0
  have HC0 := Aside0.mk hc0
  clear hr0 hc0
  have H : (laws_isIn.l0 k l0 a1 0) = some r := h
  clear h
  have H' := Aside0.mk H
  clear H
  go_enter Tryd.func26, Tryd.ntmps26
  go_wp2
  go_loopg [5] k (fun kq v5 w' => ∃ (x5_1 : Int), v5 = .int .i64 x5_1 ∧ Aside0 (laws_isIn.l0 kq l0 a1 x5_1 = some r) ∧ Aside0 (kq ≤ k) ∧ Drawn0 w w')
  case atStart => exact ⟨(0), (by first | rfl | (simp; done) | (simp [*]; done)), H', ⟨Nat.le_refl _⟩, by repeat (first | exact Drawn0.refl _ | apply Drawn0.step)⟩
  case round =>
    clear H'
    try clear c2
    try clear p2
    obtain ⟨x5_1, rfl, HA, HK1, ⟨m1, rfl⟩⟩ := hrel
    cases gk with
    | zero => exact absurd HA.out (by simp [laws_isIn.l0])
    | succ k1 =>
      have H := HA.out
      clear HA
      simp only [laws_isIn.l0] at H
      by_cases c3 : x5_1 < (l0.length : Int)
      · rw [if_pos c3] at H
        have c3b0 : decide (x5_1 < (l0.length : Int)) = true := decide_eq_true c3
        clear c3
        by_cases c4 : 0 ≤ x5_1
        · rw [if_pos c4] at H
          have c4b0 : decide (0 ≤ x5_1) = true := decide_eq_true c4
          clear c4
          by_cases c5 : (rd l0 x5_1) = a1
          · rw [if_pos c5] at H
            have c5b0 : ((rd l0 x5_1) == a1) = true := beq_iff_eq.mpr c5
            have c5b1 : ((rd l0 x5_1) != a1) = false := bne_eq_false_iff_eq.mpr c5
            clear c5
            obtain rfl := Option.some.inj H
            have p353 : 0 ≤ (x5_1 : Int) := of_decide_eq_true (by first | (with_reducible assumption) | assumption)
            have q353 : x5_1 < (l0.length : Int) := of_decide_eq_true (by first | (with_reducible assumption) | assumption)
            obtain ⟨ad353, e353, hx353_0⟩ := Kd.at_int HR0.out x5_1 p353 q353
            cases e353
            replace p353 := eq_true p353
            replace q353 := eq_true q353
            go_wp2
            go_ret
            exact ⟨by first | rfl | (simp; done) | (simp [*]; done), by repeat (first | exact Drawn0.refl _ | apply Drawn0.step)⟩
          · rw [if_neg c5] at H
            have c5b0 : ((rd l0 x5_1) == a1) = false := beq_eq_false_iff_ne.mpr c5
            have c5b1 : ((rd l0 x5_1) != a1) = true := bne_iff_ne.mpr c5
            have H' := Aside0.mk H
            clear H
            have p353 : 0 ≤ (x5_1 : Int) := of_decide_eq_true (by first | (with_reducible assumption) | assumption)
            have q353 : x5_1 < (l0.length : Int) := of_decide_eq_true (by first | (with_reducible assumption) | assumption)
            obtain ⟨ad353, e353, hx353_0⟩ := Kd.at_int HR0.out x5_1 p353 q353
            cases e353
            replace p353 := eq_true p353
            replace q353 := eq_true q353
            go_wp2
            go_roundg k1
            case measure => have := HK1.out; omega
            case rel => exact ⟨(wrap64 (x5_1 + 1)), (by first | rfl | (simp; done) | (simp [*]; done)), H', ⟨by have := HK1.out; omega⟩, by repeat (first | exact Drawn0.refl _ | apply Drawn0.step)⟩
        · rw [if_neg c4] at H
          exact absurd H (by simp)
      · rw [if_neg c3] at H
        have c3b0 : decide (x5_1 < (l0.length : Int)) = false := decide_eq_false c3
        clear c3
        obtain rfl := Option.some.inj H
        go_wp2
        go_ret
        exact ⟨by first | rfl | (simp; done) | (simp [*]; done), by repeat (first | exact Drawn0.refl _ | apply Drawn0.step)⟩
end Go.Proofs.YtekajandipdlhaaDoor.P
end
section
set_option linter.unusedVariables false
set_option linter.unusedSimpArgs false
namespace Go.Proofs.YtekajandipdlhaaDoor.Core
open Go Go.RowKit Go.Shelf Go.Proofs.YtekajandipdlhaaDoorW.PrintWords Go.Proofs.YtekajandipdlhaaDoorW.PrintLast Go.Proofs.YtekajandipdlhaaDoorW.PrintMore Go.Proofs.YtekajandipdlhaaDoor.P
attribute [local go_sem] Oper.semAt_some wide_fn wide_depth
/-- What holds of each valid graph. -/
structure GOk (G : GD) : Prop where
  n8 : G.tasks.length ≤ 8
  nl : G.needs.length = G.tasks.length
  nb : below1 G.tasks.length G.needs
  ol : G.order.length = G.tasks.length
  ob : ∀ i ∈ G.order, i < G.tasks.length
  bl : G.below.length = G.tasks.length
  bb : below1 G.tasks.length G.below
  al : G.above.length = G.tasks.length
  ab : below1 G.tasks.length G.above
theorem IsG.move {w w' : World} {b : Nat} {G : GD} (h : IsG w b G) (hb : Below w.heap.size w w') : IsG w' b G := by
  obtain ⟨A0, A1, A2, A3, A4, c0, c1, c2, c3, c4, hh, h0, h1, h2, h3, h4⟩ := h
  exact ⟨A0, A1, A2, A3, A4, c0, c1, c2, c3, c4, (hb.block b (cells_lt hh)).trans hh, ⟨h0.1, Kd.C_below h0.2 hb⟩, ⟨h1.1, Kd.C_below h1.2 hb⟩, ⟨h2.1, Kd.C_below h2.2 hb⟩, ⟨h3.1, Kd.C_below h3.2 hb⟩, ⟨h4.1, Kd.C_below h4.2 hb⟩⟩
theorem IsG.lt {w : World} {b : Nat} {G : GD} (h : IsG w b G) : b < w.heap.size := by
  obtain ⟨A0, A1, A2, A3, A4, c0, c1, c2, c3, c4, hh, _⟩ := h
  exact cells_lt hh
theorem IsG.tasks {w : World} {b : Nat} {G : GD} (h : IsG w b G) : ∃ A c, w.cell? ⟨b, 0, none⟩ = some (.slice A G.tasks.length c) ∧ G.tasks.length ≤ c ∧ k37.C w A G.tasks.length G.tasks := by
  obtain ⟨A0, A1, A2, A3, A4, c0, c1, c2, c3, c4, hh, h0, h1, h2, h3, h4⟩ := h
  exact ⟨A0, c0, by simp [World.cell?, hh], h0.1, h0.2⟩
theorem IsG.needs {w : World} {b : Nat} {G : GD} (h : IsG w b G) : ∃ A c, w.cell? ⟨b, 1, none⟩ = some (.slice A G.needs.length c) ∧ G.needs.length ≤ c ∧ (Kd.int .u16).C w A G.needs.length (up G.needs) := by
  obtain ⟨A0, A1, A2, A3, A4, c0, c1, c2, c3, c4, hh, h0, h1, h2, h3, h4⟩ := h
  exact ⟨A1, c1, by simp [World.cell?, hh], h1.1, h1.2⟩
theorem IsG.order {w : World} {b : Nat} {G : GD} (h : IsG w b G) : ∃ A c, w.cell? ⟨b, 2, none⟩ = some (.slice A G.order.length c) ∧ G.order.length ≤ c ∧ (Kd.int .i64).C w A G.order.length (up G.order) := by
  obtain ⟨A0, A1, A2, A3, A4, c0, c1, c2, c3, c4, hh, h0, h1, h2, h3, h4⟩ := h
  exact ⟨A2, c2, by simp [World.cell?, hh], h2.1, h2.2⟩
theorem IsG.below {w : World} {b : Nat} {G : GD} (h : IsG w b G) : ∃ A c, w.cell? ⟨b, 3, none⟩ = some (.slice A G.below.length c) ∧ G.below.length ≤ c ∧ (Kd.int .u16).C w A G.below.length (up G.below) := by
  obtain ⟨A0, A1, A2, A3, A4, c0, c1, c2, c3, c4, hh, h0, h1, h2, h3, h4⟩ := h
  exact ⟨A3, c3, by simp [World.cell?, hh], h3.1, h3.2⟩
theorem IsG.above {w : World} {b : Nat} {G : GD} (h : IsG w b G) : ∃ A c, w.cell? ⟨b, 4, none⟩ = some (.slice A G.above.length c) ∧ G.above.length ≤ c ∧ (Kd.int .u16).C w A G.above.length (up G.above) := by
  obtain ⟨A0, A1, A2, A3, A4, c0, c1, c2, c3, c4, hh, h0, h1, h2, h3, h4⟩ := h
  exact ⟨A4, c4, by simp [World.cell?, hh], h4.1, h4.2⟩
/-- The tasks that can come next, among the first ones. -/
def readyTo (N : List Nat) (d : Nat) : Nat → Nat
  | 0 => 0
  | i + 1 => if d.testBit i = false ∧ sub (N.getD i 0) d = 0 then readyTo N d i ||| 2 ^ i else readyTo N d i
theorem readyTo_lt (N : List Nat) (d : Nat) : ∀ i, readyTo N d i < 2 ^ i
  | 0 => by simp [readyTo]
  | i + 1 => by
    have h := Nat.lt_of_lt_of_le (readyTo_lt N d i) (Nat.pow_le_pow_right (n := 2) (by omega) (Nat.le_succ i))
    unfold readyTo
    split
    · exact Nat.or_lt_two_pow h (Nat.pow_lt_pow_right (by omega) (by omega))
    · exact h
def GD.ready (G : GD) (d : Nat) : Nat := readyTo G.needs d G.needs.length
end Go.Proofs.YtekajandipdlhaaDoor.Core
end
section
set_option linter.unusedVariables false
set_option linter.unusedSimpArgs false
namespace Go.Proofs.YtekajandipdlhaaDoor.Core
open Go Go.RowKit Go.Shelf Go.Proofs.YtekajandipdlhaaDoorW.PrintWords Go.Proofs.YtekajandipdlhaaDoorW.PrintLast Go.Proofs.YtekajandipdlhaaDoorW.PrintMore Go.Proofs.YtekajandipdlhaaDoor.P
/-- How many of the first n numbers a set lacks. -/
def zb : Nat → Nat → Nat
  | 0, _ => 0
  | n + 1, p => zb n p + (if p.testBit n then 0 else 1)
theorem or_bit (p i j : Nat) : (p ||| 2 ^ i).testBit j = (p.testBit j || decide (i = j)) := by rw [Nat.testBit_or, Nat.testBit_two_pow]
theorem zb_le (p i : Nat) : ∀ n, zb n (p ||| 2 ^ i) ≤ zb n p
  | 0 => Nat.le_refl _
  | n + 1 => by
    have := zb_le p i n
    simp only [zb, or_bit]
    by_cases h : i = n
    · subst h; cases p.testBit i <;> simp <;> omega
    · cases p.testBit n <;> simp [h] <;> omega
theorem zb_lt {p i : Nat} (hp : p.testBit i = false) : ∀ {n : Nat}, i < n → zb n (p ||| 2 ^ i) < zb n p
  | 0, h => by omega
  | n + 1, h => by
    simp only [zb, or_bit]
    by_cases hi : i = n
    · subst hi
      have := zb_le p i i
      simp [hp]
      omega
    · have := zb_lt hp (n := n) (by omega)
      cases p.testBit n <;> simp [hi] <;> omega
theorem readyTo_bit (N : List Nat) (d i : Nat) : ∀ n, (readyTo N d n).testBit i = true → i < n ∧ d.testBit i = false ∧ sub (N.getD i 0) d = 0
  | 0 => by simp [readyTo]
  | n + 1 => by
    intro h
    unfold readyTo at h
    split at h
    · rename_i hc
      rw [or_bit] at h
      by_cases hi : n = i
      · subst hi; exact ⟨by omega, hc⟩
      · have := readyTo_bit N d i n (by simpa [hi] using h)
        exact ⟨by omega, this.2⟩
    · have := readyTo_bit N d i n h
      exact ⟨by omega, this.2⟩
theorem readyTo_bit' (N : List Nat) (d i : Nat) : ∀ n, i < n → d.testBit i = false → sub (N.getD i 0) d = 0 → (readyTo N d n).testBit i = true
  | 0 => by intro h; omega
  | n + 1 => by
    intro h h1 h2
    unfold readyTo
    by_cases hi : n = i
    · subst hi
      rw [if_pos ⟨h1, h2⟩, or_bit]
      simp
    · have := readyTo_bit' N d i n (by omega) h1 h2
      split
      · rw [or_bit, this]; rfl
      · exact this
theorem mem_ready {G : GD} {d i : Nat} (h8 : G.needs.length ≤ 8) : i ∈ elemsN (G.ready d) ↔ i < G.needs.length ∧ d.testBit i = false ∧ sub (G.needs.getD i 0) d = 0 := by
  rw [mem_elemsN]
  constructor
  · intro h
    exact readyTo_bit _ _ _ _ h.2
  · intro h
    exact ⟨by omega, readyTo_bit' _ _ _ _ h.1 h.2.1 h.2.2⟩
theorem elemsN_length (s : Nat) : (elemsN s).length ≤ 8 := by
  have := elems_length s
  rwa [elems, List.length_map] at this
theorem ready_lt (G : GD) (d : Nat) : G.ready d < 2 ^ G.needs.length := readyTo_lt _ _ _
end Go.Proofs.YtekajandipdlhaaDoor.Core
end
section
set_option linter.unusedVariables false
set_option linter.unusedSimpArgs false
namespace Go.Proofs.YtekajandipdlhaaDoor.Core
open Go Go.RowKit Go.Proofs.YtekajandipdlhaaDoorW.PrintWords Go.Proofs.YtekajandipdlhaaDoorW.PrintMore Go.Proofs.YtekajandipdlhaaDoor.P
/-- From some number on, f says r. -/
def Ev {α : Type} (f : Nat → Option α) (r : α) : Prop := ∃ K, ∀ k, K ≤ k → f k = some r
theorem Ev.const {α : Type} (r : α) : Ev (fun _ => some r) r := ⟨0, fun _ _ => rfl⟩
theorem Ev.bind {α β : Type} {f : Nat → Option α} {g : Nat → α → Option β} {a : α} {b : β} (h : Ev f a) (h2 : Ev (fun k => g k a) b) : Ev (fun k => (f k).bind (g k)) b := by
  obtain ⟨K, h⟩ := h
  obtain ⟨K2, h2⟩ := h2
  exact ⟨max K K2, fun k hk => by show (f k).bind (g k) = some b; rw [h k (by omega)]; exact h2 k (by omega)⟩
theorem Ev.succ {α : Type} {f : Nat → Option α} {r : α} (h : Ev (fun k => f (k + 1)) r) : Ev f r := by
  obtain ⟨K, h⟩ := h
  refine ⟨K + 1, fun k hk => ?_⟩
  obtain ⟨m, rfl⟩ : ∃ m, k = m + 1 := ⟨k - 1, by omega⟩
  exact h m (by omega)
theorem Ev.of {α : Type} {f g : Nat → Option α} {r : α} (h : Ev f r) (e : ∀ k, g k = f k) : Ev g r := by
  obtain ⟨K, h⟩ := h
  exact ⟨K, fun k hk => (e k).trans (h k hk)⟩
theorem Ev.both {α β : Type} {f : Nat → Option α} {g : Nat → Option β} {a : α} {b : β} (h : Ev f a) (h2 : Ev g b) : ∃ k, f k = some a ∧ g k = some b := by
  obtain ⟨K, h⟩ := h
  obtain ⟨K2, h2⟩ := h2
  exact ⟨max K K2, h _ (by omega), h2 _ (by omega)⟩
theorem Ev.one {α : Type} {f : Nat → Option α} {a : α} (h : Ev f a) : ∃ k, f k = some a := by
  obtain ⟨K, h⟩ := h
  exact ⟨K, h _ (by omega)⟩
theorem w64 {n : Int} (h0 : -9223372036854775808 ≤ n) (h1 : n ≤ 9223372036854775807) : wrap64 n = n := by unfold wrap64; omega
theorem rd_mid {pre r : List Int} {x : Int} {i : Int} (hi : i = (pre.length : Int)) : rd (pre ++ x :: r) i = x := by
  subst hi
  simp [rd]
theorem within_eq (x a b : Int) : impl_within.f x a b = some (decide (a ≤ x ∧ x ≤ b)) := by
  unfold impl_within.f
  by_cases h : x ≥ a
  · rw [if_pos h]; simp; omega
  · rw [if_neg h]; simp; omega
theorem setwith_eq {s k : Nat} (hs : s < 256) (hk : k < 8) : impl_set_with.f (s : Int) (k : Int) = some ((s ||| 2 ^ k : Nat) : Int) := by
  unfold impl_set_with.f
  rw [if_pos (by omega)]
  have : shl .u16 1 (k : Int) = IntKind.u16.wrap (2 ^ k) := by
    unfold shl
    rw [Int.toNat_natCast, Nat.min_eq_left (by show k ≤ 16; omega), Int.one_mul]
  rw [this, with_eq hs hk]
theorem sethas_eq {s k : Nat} (hs : s < 256) (hk : k < 8) : impl_set_has.f (s : Int) (k : Int) = some (s.testBit k) := by
  unfold impl_set_has.f
  rw [if_pos (by omega)]
  have : shr .u16 (s : Int) (k : Int) = (s : Int) / 2 ^ k := by
    unfold shr
    rw [Int.toNat_natCast, Nat.min_eq_left (by show k ≤ 16; omega)]
  rw [this, has_eq hs]
/-- The set of ascending numbers below n. -/
def setGo (n : Nat) : List Int → Nat → Int → Option Nat
  | [], s, _ => some s
  | x :: r, s, last => if last + 1 ≤ x ∧ x ≤ (n : Int) - 1 then setGo n r (s ||| 2 ^ x.toNat) x else none
def setD (n : Nat) (L : List Int) : Option Nat := setGo n L 0 (-1)
def setR (o : Option Nat) : Int × Bool := match o with | some s => ((s : Int), true) | none => (0, false)
theorem ev_setGo {n : Nat} (hn : n ≤ 8) (L : List Int) : ∀ (r pre : List Int) (s : Nat) (last : Int), L = pre ++ r → s < 2 ^ n → (pre.length : Int) ≤ last + 1 → last ≤ (n : Int) - 1 →
    Ev (fun k => impl_setOf.l0 k (n : Int) (s : Int) last L (L.length : Int) (pre.length : Int)) (setR (setGo n r s last))
  | [], pre, s, last, hL, hs, h1, h2 => by
    refine Ev.succ ((Ev.const _).of fun k => ?_)
    rw [List.append_nil] at hL
    subst hL
    simp only [impl_setOf.l0]
    rw [if_neg (by omega)]
    rfl
  | x :: r, pre, s, last, hL, hs, h1, h2 => by
    have hlen : L.length = pre.length + (r.length + 1) := by rw [hL]; simp
    have hw1 : wrap64 (last + 1) = last + 1 := w64 (by omega) (by omega)
    have hw2 : wrap64 ((n : Int) - 1) = (n : Int) - 1 := w64 (by omega) (by omega)
    have hrd : rd L (pre.length : Int) = x := by rw [hL]; exact rd_mid rfl
    refine Ev.succ ?_
    by_cases hx : last + 1 ≤ x ∧ x ≤ (n : Int) - 1
    · have hx0 : 0 ≤ x := by omega
      obtain ⟨m, rfl⟩ : ∃ m : Nat, x = (m : Int) := ⟨x.toNat, by omega⟩
      have hs8 : s < 256 := Nat.lt_of_lt_of_le hs (pow8 hn)
      have ih := ev_setGo hn L r (pre ++ [(m : Int)]) (s ||| 2 ^ m) m (by rw [hL]; simp) (Nat.or_lt_two_pow hs (Nat.pow_lt_pow_right (by omega) (by omega))) (by simp; omega) (by omega)
      have hg : setGo n ((m : Int) :: r) s last = setGo n r (s ||| 2 ^ m) m := by
        rw [setGo, if_pos hx, Int.toNat_natCast]
      rw [hg]
      refine ih.of fun k => ?_
      simp only [impl_setOf.l0]
      rw [if_pos (by omega), if_pos (by omega), if_pos (by omega), hrd, hw1, hw2, within_eq, decide_eq_true hx]
      simp only [Option.bind_some, if_true]
      rw [setwith_eq hs8 (by omega)]
      simp only [Option.bind_some, List.length_append, List.length_cons, List.length_nil]
      rw [w64 (by omega) (by omega)]
      rfl
    · have hg : setGo n (x :: r) s last = none := by rw [setGo, if_neg hx]
      rw [hg]
      refine (Ev.const _).of fun k => ?_
      simp only [impl_setOf.l0]
      rw [if_pos (by omega), if_pos (by omega), if_pos (by omega), hrd, hw1, hw2, within_eq, decide_eq_false hx]
      rfl
theorem ev_setOf {n : Nat} (hn : n ≤ 8) (L : List Int) : Ev (fun k => impl_setOf.f k L (n : Int)) (setR (setD n L)) :=
  ev_setGo hn L L [] 0 (-1) rfl (Nat.two_pow_pos n) (by simp) (by omega)
theorem setGo_lt {n : Nat} : ∀ {r : List Int} {s : Nat} {last : Int} {t : Nat}, setGo n r s last = some t → s < 2 ^ n → -1 ≤ last → t < 2 ^ n
  | [], s, last, t, h, hs, hl => by rw [setGo] at h; cases h; exact hs
  | x :: r, s, last, t, h, hs, hl => by
    rw [setGo] at h
    by_cases hx : last + 1 ≤ x ∧ x ≤ (n : Int) - 1
    · rw [if_pos hx] at h
      exact setGo_lt h (Nat.or_lt_two_pow hs (Nat.pow_lt_pow_right (by omega) (by omega))) (by omega)
    · rw [if_neg hx] at h; cases h
theorem setD_lt {n : Nat} {L : List Int} {t : Nat} (h : setD n L = some t) : t < 2 ^ n := setGo_lt h (Nat.two_pow_pos n) (by omega)
def taskOk (t : Tk) : Prop := (1 ≤ t.f0 ∧ t.f0 ≤ 20) ∧ (0 ≤ t.f2 ∧ t.f2 ≤ 2) ∧ (1 ≤ t.f3 ∧ t.f3 ≤ 4)
instance (t : Tk) : Decidable (taskOk t) := by unfold taskOk; infer_instance
def needsGo (n : Nat) : List Tk → Option (List Nat)
  | [] => some []
  | t :: r => match setD n t.f1 with
    | none => none
    | some s => if taskOk t then (needsGo n r).map (s :: ·) else none
def needsD (g : List Tk) : Option (List Nat) := if g.length ≤ 8 then needsGo g.length g else none
def needsR (o : Option (List Nat)) : List Int × Bool := match o with | some N => (up N, true) | none => ([], false)
theorem rdT_mid {pre r : List Tk} {x : Tk} {i : Int} (hi : i = (pre.length : Int)) : rd_T37 (pre ++ x :: r) i = x := by
  subst hi
  simp [rd_T37]
theorem ev_needsGo (G : List Tk) (h8 : G.length ≤ 8) : ∀ (r pre : List Tk) (N : List Nat), G = pre ++ r → N.length = pre.length →
    Ev (fun k => impl_needsOf.l0 k G (up N) G (G.length : Int) (pre.length : Int)) (needsR ((needsGo G.length r).map (N ++ ·)))
  | [], pre, N, hG, hN => by
    refine Ev.succ ((Ev.const _).of fun k => ?_)
    rw [List.append_nil] at hG
    subst hG
    simp only [impl_needsOf.l0]
    rw [if_neg (by omega)]
    simp [needsGo, needsR]
  | t :: r, pre, N, hG, hN => by
    have hlen : G.length = pre.length + (r.length + 1) := by rw [hG]; simp
    have hrd : rd_T37 G (pre.length : Int) = t := by rw [hG]; exact rdT_mid rfl
    have hs := ev_setOf h8 t.f1
    refine Ev.succ ?_
    cases he : setD G.length t.f1 with
    | none =>
      rw [he] at hs
      have hg : needsGo G.length (t :: r) = none := by rw [needsGo, he]
      rw [hg]
      obtain ⟨K, h2⟩ := hs
      dsimp only at h2
      refine ⟨K, fun k hk => ?_⟩
      show impl_needsOf.l0 (k + 1) _ _ _ _ _ = _
      simp only [impl_needsOf.l0]
      rw [if_pos (by omega), if_pos (by omega), if_pos (by omega), hrd, h2 k hk]
      rfl
    | some s =>
      rw [he] at hs
      by_cases hok : taskOk t
      · have hg : needsGo G.length (t :: r) = (needsGo G.length r).map (s :: ·) := by rw [needsGo, he]; simp [hok]
        have ih := ev_needsGo G h8 r (pre ++ [t]) (N ++ [s]) (by rw [hG]; simp) (by simp [hN])
        have e1 : ((needsGo G.length r).map (s :: ·)).map (N ++ ·) = (needsGo G.length r).map ((N ++ [s]) ++ ·) := by cases needsGo G.length r <;> simp
        rw [hg, e1]
        obtain ⟨K, h2⟩ := hs
        dsimp only at h2
        obtain ⟨K2, h3⟩ := ih
        dsimp only at h3
        refine ⟨max K K2, fun k hk => ?_⟩
        show impl_needsOf.l0 (k + 1) _ _ _ _ _ = _
        simp only [impl_needsOf.l0]
        rw [if_pos (by omega), if_pos (by omega), if_pos (by omega), hrd, h2 k (by omega)]
        simp only [setR, Option.bind_some, if_true]
        rw [within_eq, decide_eq_true hok.1]
        simp only [Option.bind_some, if_true]
        rw [within_eq, decide_eq_true hok.2.1]
        simp only [Option.bind_some, if_true]
        rw [within_eq, decide_eq_true hok.2.2]
        simp only [Option.bind_some, if_true]
        rw [if_pos (by rw [up_length]; omega), w64 (by omega) (by omega)]
        have := h3 k (by omega)
        simpa [up] using this
      · have hg : needsGo G.length (t :: r) = none := by rw [needsGo, he]; simp [hok]
        rw [hg]
        obtain ⟨K, h2⟩ := hs
        dsimp only at h2
        refine ⟨K, fun k hk => ?_⟩
        show impl_needsOf.l0 (k + 1) _ _ _ _ _ = _
        simp only [impl_needsOf.l0]
        rw [if_pos (by omega), if_pos (by omega), if_pos (by omega), hrd, h2 k (by omega)]
        simp only [setR, Option.bind_some, if_true]
        rw [within_eq, within_eq, within_eq]
        simp only [Option.bind_some]
        by_cases h1 : 1 ≤ t.f0 ∧ t.f0 ≤ 20
        · by_cases h2 : 0 ≤ t.f2 ∧ t.f2 ≤ 2
          · by_cases h3 : 1 ≤ t.f3 ∧ t.f3 ≤ 4
            · exact absurd ⟨h1, h2, h3⟩ hok
            · simp [h1, h2, h3, needsR]
          · simp [h1, h2, needsR]
        · simp [h1, needsR]
theorem ev_needsOf (G : List Tk) : Ev (fun k => impl_needsOf.f k G) (needsR (needsD G)) := by
  unfold needsD
  by_cases h : G.length ≤ 8
  · rw [if_pos h]
    have h2 := ev_needsGo G h G [] [] rfl rfl
    have e : (needsGo G.length G).map (([] : List Nat) ++ ·) = needsGo G.length G := by cases needsGo G.length G <;> simp
    rw [e] at h2
    refine h2.of fun k => ?_
    unfold impl_needsOf.f
    rw [if_neg (by omega), if_pos (by omega), if_pos (by omega)]
    rfl
  · rw [if_neg h]
    refine (Ev.const _).of fun k => ?_
    unfold impl_needsOf.f
    rw [if_pos (by omega)]
    rfl
theorem needsGo_spec {n : Nat} : ∀ {r : List Tk} {N : List Nat}, needsGo n r = some N → N.length = r.length ∧ below1 n N
  | [], N, h => by rw [needsGo] at h; cases h; exact ⟨rfl, fun x hx => by cases hx⟩
  | t :: r, N, h => by
    rw [needsGo] at h
    cases he : setD n t.f1 with
    | none => rw [he] at h; cases h
    | some s =>
      rw [he] at h
      by_cases hok : taskOk t
      · simp only [hok, if_true] at h
        cases hg : needsGo n r with
        | none => rw [hg] at h; cases h
        | some M =>
          rw [hg] at h
          cases h
          have := needsGo_spec hg
          refine ⟨by simp [this.1], fun x hx => ?_⟩
          rcases List.mem_cons.1 hx with rfl | hx
          · exact setD_lt he
          · exact this.2 x hx
      · simp [hok] at h
theorem needsD_spec {g : List Tk} {N : List Nat} (h : needsD g = some N) : g.length ≤ 8 ∧ N.length = g.length ∧ below1 g.length N := by
  unfold needsD at h
  by_cases h8 : g.length ≤ 8
  · rw [if_pos h8] at h
    exact ⟨h8, needsGo_spec h⟩
  · rw [if_neg h8] at h; cases h
end Go.Proofs.YtekajandipdlhaaDoor.Core
namespace Go.Proofs.YtekajandipdlhaaDoor.Core
open Go Go.RowKit Go.Shelf Go.Proofs.YtekajandipdlhaaDoorW.PrintWords Go.Proofs.YtekajandipdlhaaDoorW.PrintMore Go.Proofs.YtekajandipdlhaaDoor.P
attribute [local go_sem] Oper.semAt_some wide_fn wide_depth
def nextFrom (N : List Nat) (d : Nat) : Nat → Nat → Option Nat
  | _, 0 => none
  | i, m + 1 => if d.testBit i = false ∧ sub (N.getD i 0) d = 0 then some i else nextFrom N d (i + 1) m
def nextD (N : List Nat) (d : Nat) : Option Nat := nextFrom N d 0 N.length
def orderGo (N : List Nat) : Nat → List Nat → Nat → List Nat × Nat
  | 0, L, d => (L, d)
  | m + 1, L, d => match nextD N d with
    | some i => orderGo N m (L ++ [i]) (d ||| 2 ^ i)
    | none => orderGo N m L d
def orderD (N : List Nat) : List Nat × Nat := orderGo N N.length [] 0
theorem nextFrom_spec {N : List Nat} {d : Nat} : ∀ {m i j : Nat}, nextFrom N d i m = some j → i ≤ j ∧ j < i + m ∧ d.testBit j = false ∧ sub (N.getD j 0) d = 0
  | 0, i, j, h => by rw [nextFrom] at h; cases h
  | m + 1, i, j, h => by
    rw [nextFrom] at h
    by_cases hc : d.testBit i = false ∧ sub (N.getD i 0) d = 0
    · rw [if_pos hc] at h
      cases h
      exact ⟨by omega, by omega, hc⟩
    · rw [if_neg hc] at h
      have := nextFrom_spec h
      exact ⟨by omega, by omega, this.2.2⟩
theorem nextD_spec {N : List Nat} {d j : Nat} (h : nextD N d = some j) : j < N.length ∧ d.testBit j = false ∧ sub (N.getD j 0) d = 0 := by
  have := nextFrom_spec h
  exact ⟨by omega, this.2.2⟩
def ordR (x : List Nat × Nat) : List Int × Int := (up x.1, (x.2 : Int))
theorem order_step {N : List Nat} {n : Nat} (hN : N.length = n) (hn : n ≤ 8) (L : List Nat) (d i j k : Nat) (hd8 : d < 256) (hNi : N.getD i 0 < 256) (hi : i < n) (hj : j ≤ 8) (hL : L.length ≤ j) : impl_order.l1 (k + 1) (up N) (up L) (d : Int) (n : Int) (j : Int) (up N) (n : Int) (i : Int) = (if d.testBit i = true then impl_order.l1 k (up N) (up L) (d : Int) (n : Int) (j : Int) (up N) (n : Int) ((i + 1 : Nat) : Int) else if ((sub (N.getD i 0) d : Nat) : Int) = 0 then impl_order.l0 k (up N) (up (L ++ [i])) ((d ||| 2 ^ i : Nat) : Int) (n : Int) ((j + 1 : Nat) : Int) else impl_order.l1 k (up N) (up L) (d : Int) (n : Int) (j : Int) (up N) (n : Int) ((i + 1 : Nat) : Int)) := by
  have h8 : up (L ++ [i]) = up L ++ [(i : Int)] := by simp [up]
  have hwj : ((j + 1 : Nat) : Int) = wrap64 ((j : Int) + 1) := by rw [w64 (by omega) (by omega)]; omega
  have hw : ((i + 1 : Nat) : Int) = wrap64 ((i : Int) + 1) := by rw [w64 (by omega) (by omega)]; omega
  rw [h8, hwj, hw, ← andNot_eq hNi hd8, impl_order.l1, if_pos (by omega), if_pos (by omega), if_pos (by rw [up_length, hN]; omega), sethas_eq hd8 (by omega), Option.bind_some, rd_up (L := N) (i := i) rfl]
  congr 1
  congr 1
  rw [if_pos (by rw [up_length]; omega), setwith_eq hd8 (by omega), Option.bind_some]
theorem ev_next {N : List Nat} {n : Nat} (hN : N.length = n) (hn : n ≤ 8) (hb : below1 n N) (L : List Nat) (d : Nat) (hd : d < 2 ^ n) (j : Nat) (hL : L.length ≤ j) (hj : j ≤ 8) (R : List Nat → Nat → List Int × Int)
    (ho : ∀ (L' : List Nat) (d' : Nat), d' < 2 ^ n → L'.length ≤ j + 1 → Ev (fun k => impl_order.l0 k (up N) (up L') (d' : Int) (n : Int) ((j + 1 : Nat) : Int)) (R L' d')) (m : Nat) : ∀ i, i + m = n →
    Ev (fun k => impl_order.l1 k (up N) (up L) (d : Int) (n : Int) (j : Int) (up N) (n : Int) (i : Int)) (match nextFrom N d i m with | some i => R (L ++ [i]) (d ||| 2 ^ i) | none => R L d) := by
  induction m with
  | zero =>
    intro i hi
    have hwj : wrap64 ((j : Int) + 1) = ((j + 1 : Nat) : Int) := by rw [w64 (by omega) (by omega)]; omega
    have hg : nextFrom N d i 0 = none := by rw [nextFrom]
    have h0 := ho L d hd (by omega)
    rw [hg]
    refine Ev.succ (h0.of fun k => ?_)
    rw [impl_order.l1, if_neg (by omega), hwj]
  | succ m ih =>
    intro i hi
    have h256 := pow8 hn
    have hd8 : d < 256 := Nat.lt_of_lt_of_le hd h256
    have hNi : N.getD i 0 < 256 := Nat.lt_of_lt_of_le (getD_lt hb i) h256
    have hstep := fun k => order_step hN hn L d i j k hd8 hNi (by omega) hj hL
    have ih := ih (i + 1) (by omega)
    refine Ev.succ ?_
    cases hbit : d.testBit i with
    | true =>
      have hg : nextFrom N d i (m + 1) = nextFrom N d (i + 1) m := by rw [nextFrom, if_neg (by simp [hbit])]
      rw [hg]
      refine ih.of fun k => ?_
      rw [hstep, if_pos hbit]
    | false =>
      by_cases hz : sub (N.getD i 0) d = 0
      · have hg : nextFrom N d i (m + 1) = some i := by rw [nextFrom, if_pos ⟨hbit, hz⟩]
        rw [hg]
        have h0 := ho (L ++ [i]) (d ||| 2 ^ i) (Nat.or_lt_two_pow hd (Nat.pow_lt_pow_right (by omega) (by omega))) (by simp; omega)
        refine h0.of fun k => ?_
        rw [hstep, if_neg (by simp [hbit]), if_pos (by omega)]
      · have hg : nextFrom N d i (m + 1) = nextFrom N d (i + 1) m := by rw [nextFrom, if_neg (fun h => hz h.2)]
        rw [hg]
        refine ih.of fun k => ?_
        rw [hstep, if_neg (by simp [hbit]), if_neg (by omega)]
theorem ev_orderGo {N : List Nat} {n : Nat} (hN : N.length = n) (hn : n ≤ 8) (hb : below1 n N) : ∀ (m j : Nat) (L : List Nat) (d : Nat), j + m = n → d < 2 ^ n → L.length ≤ j →
    Ev (fun k => impl_order.l0 k (up N) (up L) (d : Int) (n : Int) (j : Int)) (ordR (orderGo N m L d))
  | 0, j, L, d, hj, hd, hL => by
    refine Ev.succ ((Ev.const _).of fun k => ?_)
    simp only [impl_order.l0]
    rw [if_neg (by omega)]
    rfl
  | m + 1, j, L, d, hj, hd, hL => by
    refine Ev.succ ?_
    have h := ev_next hN hn hb L d hd j hL (by omega) (fun L' d' => ordR (orderGo N m L' d')) (fun L' d' hd' hL' => ev_orderGo hN hn hb m (j + 1) L' d' (by omega) hd' hL') N.length 0 (by omega)
    have e : (match nextFrom N d 0 N.length with | some i => ordR (orderGo N m (L ++ [i]) (d ||| 2 ^ i)) | none => ordR (orderGo N m L d)) = ordR (orderGo N (m + 1) L d) := by
      rw [orderGo, nextD]
      cases he : nextFrom N d 0 N.length <;> rfl
    rw [← e]
    refine h.of fun k => ?_
    simp only [impl_order.l0]
    rw [if_pos (by omega), up_length, hN]
    rfl
theorem ev_order {N : List Nat} (hn : N.length ≤ 8) (hb : below1 N.length N) : Ev (fun k => impl_order.f k (up N)) (ordR (orderD N)) := by
  have h := ev_orderGo rfl hn hb N.length 0 [] 0 (by omega) (Nat.two_pow_pos _) (by simp)
  refine h.of fun k => ?_
  unfold impl_order.f
  rw [up_length]
  rfl
/-- What an order (as far as it goes) and its set have. -/
structure OrdOk (N : List Nat) (L : List Nat) (d : Nat) : Prop where
  lt : ∀ i ∈ L, i < N.length
  set : ∀ i, d.testBit i = true ↔ i ∈ L
  dlt : d < 2 ^ N.length
  nodup : L.Nodup
  len : L.length + zb N.length d = N.length
  needs : ∀ pre i suf, L = pre ++ i :: suf → ∀ k, (N.getD i 0).testBit k = true → k ∈ pre
theorem zb_step {p i : Nat} (hp : p.testBit i = false) : ∀ {n : Nat}, i < n → zb n (p ||| 2 ^ i) + 1 = zb n p
  | 0, h => by omega
  | n + 1, h => by
    simp only [zb, or_bit]
    by_cases hi : i = n
    · subst hi
      have : ∀ m, m ≤ i → zb m (p ||| 2 ^ i) = zb m p := by
        intro m
        induction m with
        | zero => intro _; rfl
        | succ m ih =>
          intro hm
          simp only [zb, or_bit, ih (by omega)]
          have : i ≠ m := by omega
          simp [this]
      rw [this i (Nat.le_refl _)]
      simp [hp]
    · have := zb_step hp (n := n) (by omega)
      cases p.testBit n <;> simp [hi] <;> omega
theorem zb_zero : ∀ n, zb n 0 = n
  | 0 => rfl
  | n + 1 => by simp [zb, zb_zero n]
theorem zb_full (n : Nat) : ∀ m, m ≤ n → zb m (2 ^ n - 1) = 0
  | 0, _ => rfl
  | m + 1, h => by
    simp only [zb, zb_full n m (by omega), Nat.testBit_two_pow_sub_one]
    simp; omega
theorem OrdOk.step {N L : List Nat} {d i : Nat} (hn : N.length ≤ 8) (hb : below1 N.length N) (h : OrdOk N L d) (hi : i < N.length) (h1 : d.testBit i = false) (h2 : sub (N.getD i 0) d = 0) : OrdOk N (L ++ [i]) (d ||| 2 ^ i) where
  lt := by
    intro k hk
    rcases List.mem_append.1 hk with hk | hk
    · exact h.lt k hk
    · rw [List.mem_singleton.1 hk]; exact hi
  set := by
    intro k
    rw [or_bit, List.mem_append, List.mem_singleton, Bool.or_eq_true, h.set, decide_eq_true_eq]
    constructor
    · rintro (h | h)
      · exact .inl h
      · exact .inr h.symm
    · rintro (h | h)
      · exact .inl h
      · exact .inr h.symm
  dlt := Nat.or_lt_two_pow h.dlt (Nat.pow_lt_pow_right (by omega) hi)
  nodup := by
    rw [List.nodup_append]
    refine ⟨h.nodup, by simp, fun a ha b hb => ?_⟩
    rw [List.mem_singleton.1 hb]
    rintro rfl
    have := (h.set a).2 ha
    rw [this] at h1
    cases h1
  len := by
    have := zb_step h1 hi
    have := h.len
    simp
    omega
  needs := by
    intro pre k suf he m hm
    rcases List.eq_nil_or_concat suf with rfl | ⟨s2, x, rfl⟩
    · have h3 : pre = L ∧ k = i := by
        have := List.append_inj' he (by simp)
        simpa [eq_comm] using this
      obtain ⟨rfl, rfl⟩ := h3
      have hd8 : d < 256 := Nat.lt_of_lt_of_le h.dlt (pow8 hn)
      have h4 := sub_testBit (i := m) (Nat.lt_of_lt_of_le (getD_lt hb k) (pow8 hn)) hd8
      rw [h2, hm] at h4
      simp at h4
      exact (h.set m).1 h4
    · have h3 : L = pre ++ k :: s2 := by
        have e2 : L ++ [i] = (pre ++ k :: s2) ++ [x] := by rw [he]; simp
        exact (List.append_inj' e2 (by simp)).1
      exact h.needs pre k s2 h3 m hm
theorem orderGo_ok {N : List Nat} (hn : N.length ≤ 8) (hb : below1 N.length N) : ∀ {m : Nat} {L : List Nat} {d : Nat}, OrdOk N L d → OrdOk N (orderGo N m L d).1 (orderGo N m L d).2
  | 0, L, d, h => h
  | m + 1, L, d, h => by
    rw [orderGo]
    cases he : nextD N d with
    | none => exact orderGo_ok hn hb h
    | some i =>
      have := nextD_spec he
      exact orderGo_ok hn hb (h.step hn hb this.1 this.2.1 this.2.2)
theorem orderD_ok {N : List Nat} (hn : N.length ≤ 8) (hb : below1 N.length N) : OrdOk N (orderD N).1 (orderD N).2 :=
  orderGo_ok hn hb ⟨by simp, by simp, Nat.two_pow_pos _, by simp, by rw [zb_zero]; simp, by simp⟩
/-- What is known of a valid graph. -/
def mkG (g : List Tk) (N : List Nat) : GD := ⟨g, N, (orderD N).1, (reach N (orderD N).1 g.length).1, (reach N (orderD N).1 g.length).2⟩
def graphD (g : List Tk) : Option GD := match needsD g with
  | none => none
  | some N => if (orderD N).2 = 2 ^ g.length - 1 then some (mkG g N) else none
theorem graphD_spec {g : List Tk} {G : GD} (h : graphD g = some G) : ∃ N, needsD g = some N ∧ (orderD N).2 = 2 ^ g.length - 1 ∧ G = mkG g N := by
  unfold graphD at h
  cases he : needsD g with
  | none => rw [he] at h; cases h
  | some N =>
    rw [he] at h
    simp only [] at h
    by_cases hf : (orderD N).2 = 2 ^ g.length - 1
    · rw [if_pos hf] at h
      cases h
      exact ⟨N, rfl, hf, rfl⟩
    · rw [if_neg hf] at h; cases h
theorem graphD_tasks {g : List Tk} {G : GD} (h : graphD g = some G) : G.tasks = g := by
  obtain ⟨N, _, _, rfl⟩ := graphD_spec h
  rfl
theorem graphD_ok {g : List Tk} {G : GD} (h : graphD g = some G) : GOk G := by
  obtain ⟨N, h1, h2, rfl⟩ := graphD_spec h
  obtain ⟨h8, hl, hb⟩ := needsD_spec h1
  have hb' : below1 N.length N := by rw [hl]; exact hb
  have ok := orderD_ok (by omega) hb'
  have hob : ∀ i ∈ (orderD N).1, i < g.length := fun i hi => by have := ok.lt i hi; omega
  have hr := reach_below hb hob
  refine ⟨h8, hl, hb, ?_, hob, reach_len1 _ _ _, hr.1, reach_len2 _ _ _, hr.2⟩
  have := ok.len
  rw [h2, hl, zb_full _ _ (Nat.le_refl _)] at this
  exact this
set_option maxRecDepth 100000 in
set_option maxHeartbeats 4000000 in
theorem graphOf_no2 (k : Nat) (A0 : Option Addr) (c0 : Nat) (l0 : List Tk) (N O : List Nat) (d : Nat) (w : World) (hr0 : k37.C w A0 l0.length l0) (hc0 : l0.length ≤ c0) (h8 : l0.length ≤ 8) (hne : d ≠ 2 ^ l0.length - 1)
    (h : impl_needsOf.f k l0 = some (up N, true)) (ho : impl_order.f k (up N) = some (up O, (d : Int))) :
    Calls Tryd.prog 60 #[.slice A0 l0.length c0] w fun e w' => e = .returned (.tuple #[.pointer none, .bool false]) ∧ Below w.heap.size w w' := by
  have h' := Lib.hid h
  have ho' := Lib.hid ho
  clear h ho
  have hev := everything_calls l0.length h8
  generalize 2 ^ l0.length - 1 = full at hne hev
  generalize hfi : ((full : Nat) : Int) = fi at hev
  generalize hdi : ((d : Nat) : Int) = di at ho'
  have hne1 : (di != fi) = true := by simp; omega
  clear hfi hdi
  refine calls_marks Tryd.func60 rfl ?_
  simp only [Tryd.ntmps60, List.size_toArray, List.length_cons, List.length_nil, Nat.reduceAdd, Nat.reduceSub, Array.replicate_succ, Array.replicate_zero, List.push_toArray, List.append_toArray, List.nil_append, List.cons_append]
  go_wp2_with (first | (go_at_call 98; refine (impl_needsOf.calls k A0 c0 l0 _ _ _ hr0 hc0 h'.out).mono ?_; rintro e w1 ⟨v0, rfl, hR1, hB1⟩; obtain ⟨A1, c1, rfl, hl1', hC1⟩ := Kd.R_reads hR1; have hz1 := Lib.hid (up_length N)) | (go_at_call 99; refine (impl_order.calls k _ _ (up N) _ _ _ hC1 hl1' ho'.out).mono ?_; rintro e w2 ⟨v1, rfl, hR2, hB2⟩) | (go_at_call 100; refine (hev _).mono ?_; rintro e w3 ⟨rfl, rfl⟩))
  refine leave_ret (Marks.nil w.heap.size w.heap.size _) (fun W => results_tmp2 rfl _ _ _) ?_
  intro W' ht
  exact ⟨rfl, ht.below (below_step hB1 hB2) (Nat.le_refl _) (Nat.le_refl _)⟩
/-- What graphOf hands back. -/
def graphPost (A0 : Option Addr) (g : List Tk) (w : World) (e : Ending) (w' : World) : Prop := match graphD g with
  | none => e = .returned (.tuple #[.pointer none, .bool false]) ∧ Below w.heap.size w w'
  | some G => ∃ (b : Nat) (v : Value), e = .returned (.tuple #[.pointer (some ⟨b, 0, none⟩), .bool true]) ∧ Below w.heap.size w w' ∧ w.heap.size ≤ b ∧ IsG w' b G ∧ w'.cell? ⟨b, 2, none⟩ = some v ∧ (Kd.int .i64).R 3 w' w.heap.size (fun _ => True) v (up G.order) ∧ (∀ W2 : World, k37.C W2 A0 g.length g → (∀ k, w.heap.size ≤ k → k < w'.heap.size → W2.heap[k]? = w'.heap[k]?) → IsG W2 b G)
theorem graphOf_calls (A0 : Option Addr) (c0 : Nat) (l0 : List Tk) (w : World) (hT : Tab w) (hr0 : k37.C w A0 l0.length l0) (hc0 : l0.length ≤ c0) :
    Calls Tryd.prog 60 #[.slice A0 l0.length c0] w (graphPost A0 l0 w) := by
  have hn := ev_needsOf l0
  cases he : needsD l0 with
  | none =>
    rw [he] at hn
    obtain ⟨k, hk⟩ := hn.one
    refine (graphOf_no1 k A0 c0 l0 [] w hr0 hc0 hk).mono ?_
    intro e w' h
    have hg : graphD l0 = none := by unfold graphD; rw [he]
    unfold graphPost
    rw [hg]
    exact h
  | some N =>
    rw [he] at hn
    obtain ⟨h8, hl, hb⟩ := needsD_spec he
    have hb' : below1 N.length N := by rw [hl]; exact hb
    have ho := ev_order (N := N) (by omega) hb'
    have ok := orderD_ok (N := N) (by omega) hb'
    obtain ⟨k, h1, h2⟩ := hn.both ho
    by_cases hf : (orderD N).2 = 2 ^ l0.length - 1
    · have hg : graphD l0 = some (mkG l0 N) := by unfold graphD; rw [he]; simp only []; rw [if_pos hf]
      have h2' : impl_order.f k (up N) = some (up (orderD N).1, ((2 ^ l0.length - 1 : Nat) : Int)) := by rw [← hf]; exact h2
      have gok := graphD_ok hg
      refine (graphOf_yes k A0 c0 l0 N (orderD N).1 w hT hr0 hc0 h8 hl hb gok.ob (by have := gok.ol; have := gok.n8; show (orderD N).1.length ≤ 8; simp only [mkG] at *; omega) h1 h2').mono ?_
      intro e w' h
      unfold graphPost
      rw [hg]
      exact h
    · have hg : graphD l0 = none := by unfold graphD; rw [he]; simp only []; rw [if_neg hf]
      refine (graphOf_no2 k A0 c0 l0 N (orderD N).1 (orderD N).2 w hr0 hc0 h8 hf h1 h2).mono ?_
      intro e w' h
      unfold graphPost
      rw [hg]
      exact h
end Go.Proofs.YtekajandipdlhaaDoor.Core
end
section
set_option linter.unusedVariables false
set_option linter.unusedSimpArgs false
namespace Go.Proofs.YtekajandipdlhaaDoor.Core
open Go Go.RowKit Go.Proofs.YtekajandipdlhaaDoorW.PrintWords Go.Proofs.YtekajandipdlhaaDoorW.PrintMore Go.Proofs.YtekajandipdlhaaDoor.P
abbrev big : Nat := 4611686018427387904
theorem w64s {n : Nat} (h : n < big) : wrap64 ((n : Int) + 1) = ((n + 1 : Nat) : Int) := by rw [w64 (by omega) (by unfold big at h; omega)]; omega
theorem inRange_eq (x a b : Int) : spec_inRange.f x a b = some (decide (a ≤ x ∧ x ≤ b)) := by
  unfold spec_inRange.f
  by_cases h : a ≤ x
  · rw [if_pos h]; simp; omega
  · rw [if_neg h]; simp; omega
theorem copyInts_eq {l : List Int} (h : l.length < big) (h2 : l.length < 17592186044416) : spec_copyInts.f l = some l := by
  unfold spec_copyInts.f
  simp [h2]
theorem ev_isIn_from (L : List Int) (x : Int) (hL : L.length < big) : ∀ (r pre : List Int), L = pre ++ r → Ev (fun k => spec_isIn.l0 k L x (pre.length : Int)) (decide (x ∈ r))
  | [], pre, hp => by
    refine Ev.succ ((Ev.const _).of fun k => ?_)
    rw [List.append_nil] at hp
    subst hp
    rw [spec_isIn.l0, if_neg (by omega)]
    simp
  | y :: r, pre, hp => by
    have hlen : L.length = pre.length + (r.length + 1) := by rw [hp]; simp
    have hrd : rd L (pre.length : Int) = y := by rw [hp]; exact rd_mid rfl
    refine Ev.succ ?_
    by_cases hy : y = x
    · refine (Ev.const _).of fun k => ?_
      rw [spec_isIn.l0, if_pos (by omega), if_pos (by omega), hrd, if_pos hy]
      simp [hy]
    · have ih := ev_isIn_from L x hL r (pre ++ [y]) (by rw [hp]; simp)
      have e : decide (x ∈ y :: r) = decide (x ∈ r) := by
        have : x ≠ y := fun h => hy h.symm
        simp [this]
      rw [e]
      refine ih.of fun k => ?_
      rw [spec_isIn.l0, if_pos (by omega), if_pos (by omega), hrd, if_neg hy, w64s (by omega)]
      simp
theorem ev_isIn {L : List Int} (hL : L.length < big) (x : Int) : Ev (fun k => spec_isIn.f k L x) (decide (x ∈ L)) := ev_isIn_from L x hL L [] rfl
theorem ev_allIn_from (L : List Int) (a b : Int) (hL : L.length < big) : ∀ (r pre : List Int), L = pre ++ r → Ev (fun k => spec_allIn.l0 k L a b (pre.length : Int)) (decide (∀ x ∈ r, a ≤ x ∧ x ≤ b))
  | [], pre, hp => by
    refine Ev.succ ((Ev.const _).of fun k => ?_)
    rw [List.append_nil] at hp
    subst hp
    rw [spec_allIn.l0, if_neg (by omega)]
    simp
  | y :: r, pre, hp => by
    have hlen : L.length = pre.length + (r.length + 1) := by rw [hp]; simp
    have hrd : rd L (pre.length : Int) = y := by rw [hp]; exact rd_mid rfl
    refine Ev.succ ?_
    by_cases hy : a ≤ y ∧ y ≤ b
    · have ih := ev_allIn_from L a b hL r (pre ++ [y]) (by rw [hp]; simp)
      have e : decide (∀ x ∈ y :: r, a ≤ x ∧ x ≤ b) = decide (∀ x ∈ r, a ≤ x ∧ x ≤ b) := by simp [hy]
      rw [e]
      refine ih.of fun k => ?_
      rw [spec_allIn.l0, if_pos (by omega), if_pos (by omega), hrd, inRange_eq, decide_eq_true hy, Option.bind_some, if_pos rfl, w64s (by omega)]
      simp
    · refine (Ev.const _).of fun k => ?_
      rw [spec_allIn.l0, if_pos (by omega), if_pos (by omega), hrd, inRange_eq, decide_eq_false hy, Option.bind_some, if_neg (by simp)]
      simp only [Option.some.injEq]
      rw [eq_comm, decide_eq_false_iff_not]
      exact fun h => hy (h y List.mem_cons_self)
theorem ev_allIn {L : List Int} (hL : L.length < big) (a b : Int) : Ev (fun k => spec_allIn.f k L a b) (decide (∀ x ∈ L, a ≤ x ∧ x ≤ b)) := ev_allIn_from L a b hL L [] rfl
def ascD : List Int → Bool
  | [] => true
  | [_] => true
  | x :: y :: r => decide (x < y) && ascD (y :: r)
theorem ev_asc_from (L : List Int) (hL : L.length < big) : ∀ (r pre : List Int) (x : Int), L = pre ++ x :: r → Ev (fun k => spec_ascends.l0 k L ((pre.length + 1 : Nat) : Int)) (ascD (x :: r))
  | [], pre, x, hp => by
    have hlen : L.length = pre.length + 1 := by rw [hp]; simp
    refine Ev.succ ((Ev.const _).of fun k => ?_)
    rw [spec_ascends.l0, if_neg (by omega)]
    rfl
  | y :: r, pre, x, hp => by
    have hlen : L.length = pre.length + (r.length + 1 + 1) := by rw [hp]; simp
    have hw : wrap64 (((pre.length + 1 : Nat) : Int) - 1) = (pre.length : Int) := by rw [w64 (by omega) (by unfold big at hL; omega)]; omega
    have hrd : rd L (pre.length : Int) = x := by rw [hp]; exact rd_mid rfl
    have hrd2 : rd L ((pre.length + 1 : Nat) : Int) = y := by
      have : L = (pre ++ [x]) ++ y :: r := by rw [hp]; simp
      rw [this]; exact rd_mid (by simp)
    refine Ev.succ ?_
    by_cases hy : x < y
    · have ih := ev_asc_from L hL r (pre ++ [x]) y (by rw [hp]; simp)
      have e : ascD (x :: y :: r) = ascD (y :: r) := by simp [ascD, hy]
      rw [e]
      refine ih.of fun k => ?_
      rw [spec_ascends.l0, if_pos (by omega), if_pos (by omega), hw, if_pos (by omega), if_pos (by omega), hrd, hrd2, if_neg (by omega), w64s (by omega)]
      simp
    · have e : ascD (x :: y :: r) = false := by simp [ascD, hy]
      rw [e]
      refine (Ev.const _).of fun k => ?_
      rw [spec_ascends.l0, if_pos (by omega), if_pos (by omega), hw, if_pos (by omega), if_pos (by omega), hrd, hrd2, if_pos (by omega)]
theorem ev_ascends {L : List Int} (hL : L.length < big) : Ev (fun k => spec_ascends.f k L) (ascD L) := by
  cases L with
  | nil =>
    refine Ev.of (Ev.succ ((Ev.const true).of (g := fun k => spec_ascends.l0 (k + 1) [] 1) fun k => ?_)) (fun k => rfl)
    rw [spec_ascends.l0, if_neg (by simp)]
  | cons x r => exact ev_asc_from (x :: r) hL r [] x rfl
theorem ev_allDone_from (L M : List Int) (hL : L.length < big) (hM : M.length < big) : ∀ (r pre : List Int), L = pre ++ r → Ev (fun k => spec_allDone.l0 k L M (pre.length : Int)) (decide (∀ x ∈ r, x ∈ M))
  | [], pre, hp => by
    refine Ev.succ ((Ev.const _).of fun k => ?_)
    rw [List.append_nil] at hp
    subst hp
    rw [spec_allDone.l0, if_neg (by omega)]
    simp
  | y :: r, pre, hp => by
    have hlen : L.length = pre.length + (r.length + 1) := by rw [hp]; simp
    have hrd : rd L (pre.length : Int) = y := by rw [hp]; exact rd_mid rfl
    have hi := ev_isIn hM y
    refine Ev.succ ?_
    by_cases hy : y ∈ M
    · have ih := ev_allDone_from L M hL hM r (pre ++ [y]) (by rw [hp]; simp)
      have e : decide (∀ x ∈ y :: r, x ∈ M) = decide (∀ x ∈ r, x ∈ M) := by simp [hy]
      rw [e]
      rw [decide_eq_true hy] at hi
      refine (hi.bind (g := fun k t => if t = true then spec_allDone.l0 k L M ((pre ++ [y]).length : Int) else some false) (ih.of fun k => if_pos rfl)).of fun k => ?_
      rw [spec_allDone.l0, if_pos (by omega), if_pos (by omega), hrd, w64s (by omega)]
      simp
    · have e : decide (∀ x ∈ y :: r, x ∈ M) = false := by
        rw [decide_eq_false_iff_not]
        exact fun h => hy (h y List.mem_cons_self)
      rw [e]
      rw [decide_eq_false hy] at hi
      refine (hi.bind (g := fun k t => if t = true then spec_allDone.l0 k L M ((pre ++ [y]).length : Int) else some false) ((Ev.const false).of fun k => if_neg (by simp))).of fun k => ?_
      rw [spec_allDone.l0, if_pos (by omega), if_pos (by omega), hrd, w64s (by omega)]
      simp
theorem ev_allDone {L M : List Int} (hL : L.length < big) (hM : M.length < big) : Ev (fun k => spec_allDone.f k L M) (decide (∀ x ∈ L, x ∈ M)) := ev_allDone_from L M hL hM L [] rfl
def needsOk (n : Nat) (l : List Int) : Prop := (∀ x ∈ l, 0 ≤ x ∧ x ≤ (n : Int) - 1) ∧ ascD l = true
instance (n : Nat) (l : List Int) : Decidable (needsOk n l) := by unfold needsOk; infer_instance
theorem ev_validTask {t : Tk} (ht : t.f1.length < big) {n : Nat} (hn : n < big) : Ev (fun k => spec_validTask.f k t.f0 t.f1 t.f2 t.f3 (n : Int)) (decide (taskOk t ∧ needsOk n t.f1)) := by
  have hw : wrap64 ((n : Int) - 1) = (n : Int) - 1 := w64 (by omega) (by unfold big at hn; omega)
  have hA := ev_allIn ht 0 ((n : Int) - 1)
  have hB := ev_ascends ht
  by_cases h1 : 1 ≤ t.f0 ∧ t.f0 ≤ 20
  · by_cases h2 : 0 ≤ t.f2 ∧ t.f2 ≤ 2
    · by_cases h3 : 1 ≤ t.f3 ∧ t.f3 ≤ 4
      · have hok : taskOk t := ⟨h1, h2, h3⟩
        have hu : ∀ k, spec_validTask.f k t.f0 t.f1 t.f2 t.f3 (n : Int) = (spec_allIn.f k t.f1 0 ((n : Int) - 1)).bind fun t113 => (if t113 = true then ((spec_ascends.f k t.f1).bind fun t114 => (some t114)) else (some false)) := by
          intro k
          unfold spec_validTask.f
          rw [inRange_eq, inRange_eq, inRange_eq, decide_eq_true h1, decide_eq_true h2, decide_eq_true h3, hw]
          rfl
        refine Ev.of ?_ hu
        refine (hA.bind (g := fun k t113 => if t113 = true then ((spec_ascends.f k t.f1).bind fun t114 => (some t114)) else (some false)) (b := decide (taskOk t ∧ needsOk n t.f1)) ?_)
        by_cases h4 : ∀ x ∈ t.f1, 0 ≤ x ∧ x ≤ (n : Int) - 1
        · rw [decide_eq_true h4]
          have e : decide (taskOk t ∧ needsOk n t.f1) = ascD t.f1 := by
            cases h5 : ascD t.f1
            · rw [decide_eq_false_iff_not]; intro h; have := h.2.2; rw [h5] at this; cases this
            · rw [decide_eq_true_eq]; exact ⟨hok, h4, h5⟩
          rw [e]
          refine (hB.bind (g := fun _ t114 => some t114) (Ev.const _)).of fun k => ?_
          rw [if_pos rfl]
        · rw [decide_eq_false h4]
          have e : decide (taskOk t ∧ needsOk n t.f1) = false := by rw [decide_eq_false_iff_not]; exact fun h => h4 h.2.1
          rw [e]
          exact (Ev.const false).of fun k => if_neg (by simp)
      · have e : decide (taskOk t ∧ needsOk n t.f1) = false := by rw [decide_eq_false_iff_not]; exact fun h => h3 h.1.2.2
        rw [e]
        refine (Ev.const false).of fun k => ?_
        unfold spec_validTask.f
        rw [inRange_eq, inRange_eq, inRange_eq, decide_eq_true h1, decide_eq_true h2, decide_eq_false h3]
        rfl
    · have e : decide (taskOk t ∧ needsOk n t.f1) = false := by rw [decide_eq_false_iff_not]; exact fun h => h2 h.1.2.1
      rw [e]
      refine (Ev.const false).of fun k => ?_
      unfold spec_validTask.f
      rw [inRange_eq, inRange_eq, decide_eq_true h1, decide_eq_false h2]
      rfl
  · have e : decide (taskOk t ∧ needsOk n t.f1) = false := by rw [decide_eq_false_iff_not]; exact fun h => h1 h.1.1
    rw [e]
    refine (Ev.const false).of fun k => ?_
    unfold spec_validTask.f
    rw [inRange_eq, decide_eq_false h1]
    rfl
/-- All lists are of a size that fits. -/
def Fits (g : List Tk) : Prop := g.length < big ∧ ∀ t ∈ g, t.f1.length < big
theorem ev_tasksFine_from (g : List Tk) (hg : Fits g) : ∀ (r pre : List Tk), g = pre ++ r → Ev (fun k => spec_tasksFine.l0 k g (pre.length : Int)) (decide ((∀ t ∈ r, taskOk t ∧ needsOk g.length t.f1) ∧ g.length ≤ 8))
  | [], pre, hp => by
    refine Ev.succ ((Ev.const _).of fun k => ?_)
    rw [List.append_nil] at hp
    subst hp
    rw [spec_tasksFine.l0, if_neg (by omega)]
    congr 1
    rw [decide_eq_decide]
    constructor
    · intro h; exact ⟨by simp, by omega⟩
    · intro h; omega
  | t :: r, pre, hp => by
    have hlen : g.length = pre.length + (r.length + 1) := by rw [hp]; simp
    have hbig := hg.1
    have hrd : rd_T37 g (pre.length : Int) = t := by rw [hp]; exact rdT_mid rfl
    have hv := ev_validTask (hg.2 t (by rw [hp]; simp)) hg.1
    refine Ev.succ ?_
    by_cases hy : taskOk t ∧ needsOk g.length t.f1
    · have ih := ev_tasksFine_from g hg r (pre ++ [t]) (by rw [hp]; simp)
      have e : decide ((∀ t' ∈ t :: r, taskOk t' ∧ needsOk g.length t'.f1) ∧ g.length ≤ 8) = decide ((∀ t ∈ r, taskOk t ∧ needsOk g.length t.f1) ∧ g.length ≤ 8) := by simp [hy]
      rw [e]
      rw [decide_eq_true hy] at hv
      refine (hv.bind (g := fun k b => if b = true then spec_tasksFine.l0 k g ((pre ++ [t]).length : Int) else some false) (ih.of fun k => if_pos rfl)).of fun k => ?_
      rw [spec_tasksFine.l0, if_pos (by omega), if_pos (by omega), hrd, w64s (by omega)]
      simp
    · have e : decide ((∀ t' ∈ t :: r, taskOk t' ∧ needsOk g.length t'.f1) ∧ g.length ≤ 8) = false := by
        rw [decide_eq_false_iff_not]
        exact fun h => hy (h.1 t List.mem_cons_self)
      rw [e]
      rw [decide_eq_false hy] at hv
      refine (hv.bind (g := fun k b => if b = true then spec_tasksFine.l0 k g ((pre ++ [t]).length : Int) else some false) ((Ev.const false).of fun k => if_neg (by simp))).of fun k => ?_
      rw [spec_tasksFine.l0, if_pos (by omega), if_pos (by omega), hrd, w64s (by omega)]
      simp
def fineD (g : List Tk) : Prop := (∀ t ∈ g, taskOk t ∧ needsOk g.length t.f1) ∧ g.length ≤ 8
instance (g : List Tk) : Decidable (fineD g) := by unfold fineD; infer_instance
theorem ev_tasksFine {g : List Tk} (hg : Fits g) : Ev (fun k => spec_tasksFine.f k g) (decide (fineD g)) := ev_tasksFine_from g hg g [] rfl
end Go.Proofs.YtekajandipdlhaaDoor.Core
end
section
set_option linter.unusedVariables false
set_option linter.unusedSimpArgs false
namespace Go.Proofs.YtekajandipdlhaaDoor.Core
open Go Go.RowKit Go.Proofs.YtekajandipdlhaaDoorW.PrintWords Go.Proofs.YtekajandipdlhaaDoorW.PrintMore Go.Proofs.YtekajandipdlhaaDoor.P
theorem asc_lt : ∀ {r : List Int} {x : Int}, ascD (x :: r) = true → ascD r = true ∧ ∀ y ∈ r, x < y
  | [], x, _ => ⟨rfl, by simp⟩
  | y :: r, x, h => by
    simp only [ascD, Bool.and_eq_true, decide_eq_true_eq] at h
    have h2 := asc_lt h.2
    refine ⟨h.2, fun z hz => ?_⟩
    rcases List.mem_cons.1 hz with rfl | hz
    · exact h.1
    · have := h2.2 z hz; omega
theorem asc_mk {r : List Int} {x : Int} (h : ascD r = true) (h2 : ∀ y ∈ r, x < y) : ascD (x :: r) = true := by
  cases r with
  | nil => rfl
  | cons y r => simp [ascD, h, h2 y List.mem_cons_self]
theorem setGo_some {n : Nat} : ∀ {r : List Int} {s : Nat} {last : Int} {t : Nat}, -1 ≤ last → setGo n r s last = some t → (∀ x ∈ r, last + 1 ≤ x ∧ x ≤ (n : Int) - 1) ∧ ascD r = true ∧ ∀ i : Nat, t.testBit i = (s.testBit i || decide ((i : Int) ∈ r))
  | [], s, last, t, hl, h => by
    rw [setGo] at h
    cases h
    exact ⟨by simp, rfl, by simp⟩
  | x :: r, s, last, t, hl, h => by
    rw [setGo] at h
    by_cases hx : last + 1 ≤ x ∧ x ≤ (n : Int) - 1
    · rw [if_pos hx] at h
      obtain ⟨h1, h2, h3⟩ := setGo_some (by omega) h
      refine ⟨fun y hy => ?_, asc_mk h2 (fun y hy => by have := h1 y hy; omega), fun i => ?_⟩
      · rcases List.mem_cons.1 hy with rfl | hy
        · exact hx
        · have := h1 y hy; omega
      · rw [h3, or_bit]
        have : decide (x.toNat = i) = decide ((i : Int) = x) := by rw [decide_eq_decide]; omega
        rw [this]
        by_cases e : (i : Int) = x
        · simp [e]
        · simp [e]
    · rw [if_neg hx] at h; cases h
theorem setGo_ok {n : Nat} : ∀ {r : List Int} (s : Nat) {last : Int}, (∀ x ∈ r, last + 1 ≤ x ∧ x ≤ (n : Int) - 1) → ascD r = true → ∃ t, setGo n r s last = some t
  | [], s, last, _, _ => ⟨s, rfl⟩
  | x :: r, s, last, h, ha => by
    have h2 := asc_lt ha
    have hx := h x List.mem_cons_self
    rw [setGo, if_pos hx]
    exact setGo_ok _ (fun y hy => ⟨by have := h2.2 y hy; omega, (h y (List.mem_cons_of_mem _ hy)).2⟩) h2.1
theorem setD_some {n : Nat} {l : List Int} {t : Nat} (h : setD n l = some t) : needsOk n l ∧ ∀ i : Nat, t.testBit i = decide ((i : Int) ∈ l) := by
  obtain ⟨h1, h2, h3⟩ := setGo_some (by omega) h
  exact ⟨⟨fun x hx => by have := h1 x hx; omega, h2⟩, fun i => by rw [h3]; simp⟩
theorem setD_ok {n : Nat} {l : List Int} (h : needsOk n l) : ∃ t, setD n l = some t := setGo_ok 0 (fun x hx => by have := h.1 x hx; omega) h.2
theorem needsGo_ok {n : Nat} : ∀ {r : List Tk}, (∀ t ∈ r, taskOk t ∧ needsOk n t.f1) → ∃ N, needsGo n r = some N
  | [], _ => ⟨[], rfl⟩
  | t :: r, h => by
    obtain ⟨s, hs⟩ := setD_ok (h t List.mem_cons_self).2
    obtain ⟨N, hN⟩ := needsGo_ok (fun t' ht => h t' (List.mem_cons_of_mem _ ht))
    rw [needsGo, hs]
    simp only [(h t List.mem_cons_self).1, if_true, hN]
    exact ⟨_, rfl⟩
theorem needsGo_fine {n : Nat} : ∀ {r : List Tk} {N : List Nat}, needsGo n r = some N → (∀ t ∈ r, taskOk t ∧ needsOk n t.f1) ∧ ∀ i, i < r.length → ∀ j : Nat, (N.getD i 0).testBit j = decide ((j : Int) ∈ (r.getD i z37).f1)
  | [], N, h => ⟨by simp, by intro i hi; simp at hi⟩
  | t :: r, N, h => by
    rw [needsGo] at h
    cases he : setD n t.f1 with
    | none => rw [he] at h; cases h
    | some s =>
      rw [he] at h
      by_cases hok : taskOk t
      · simp only [hok, if_true] at h
        cases hg : needsGo n r with
        | none => rw [hg] at h; cases h
        | some M =>
          rw [hg] at h
          cases h
          have ih := needsGo_fine hg
          have hs := setD_some he
          refine ⟨fun t' ht => ?_, fun i hi j => ?_⟩
          · rcases List.mem_cons.1 ht with rfl | ht
            · exact ⟨hok, hs.1⟩
            · exact ih.1 t' ht
          · cases i with
            | zero => simpa using hs.2 j
            | succ i => simpa using ih.2 i (by simpa using hi) j
      · simp [hok] at h
theorem needsD_fine {g : List Tk} {N : List Nat} (h : needsD g = some N) : fineD g ∧ ∀ i, i < g.length → ∀ j : Nat, (N.getD i 0).testBit j = decide ((j : Int) ∈ (g.getD i z37).f1) := by
  have h8 := (needsD_spec h).1
  unfold needsD at h
  rw [if_pos h8] at h
  have := needsGo_fine h
  exact ⟨⟨this.1, h8⟩, this.2⟩
theorem fineD_needs {g : List Tk} (h : fineD g) : ∃ N, needsD g = some N := by
  unfold needsD
  rw [if_pos h.2]
  exact needsGo_ok h.1
theorem sub_zero {a b : Nat} (ha : a < 256) (hb : b < 256) : sub a b = 0 ↔ ∀ j, a.testBit j = true → b.testBit j = true := by
  constructor
  · intro h j hj
    have := sub_testBit (i := j) ha hb
    rw [h, hj] at this
    simpa using this
  · intro h
    apply Nat.eq_of_testBit_eq
    intro j
    rw [sub_testBit ha hb, Nat.zero_testBit]
    cases e : a.testBit j
    · rfl
    · rw [h j e]; rfl
theorem mem_up {L : List Nat} {i : Nat} : (i : Int) ∈ up L ↔ i ∈ L := by
  unfold up
  rw [List.mem_map]
  constructor
  · rintro ⟨a, ha, e⟩
    have : a = i := Int.ofNat.inj e
    exact this ▸ ha
  · intro h
    exact ⟨i, h, rfl⟩
/-- All needs of a task are among some, said both ways. -/
theorem done_iff {g : List Tk} {N : List Nat} (hN : needsD g = some N) {L : List Nat} {d : Nat} (hd : d < 256) (hs : ∀ i, d.testBit i = true ↔ i ∈ L) {i : Nat} (hi : i < g.length) : (∀ x ∈ (g.getD i z37).f1, x ∈ up L) ↔ sub (N.getD i 0) d = 0 := by
  obtain ⟨h8, hl, hb⟩ := needsD_spec hN
  obtain ⟨hf, hbit⟩ := needsD_fine hN
  rw [sub_zero (Nat.lt_of_lt_of_le (getD_lt hb i) (pow8 h8)) hd]
  constructor
  · intro h j hj
    rw [hbit i hi j, decide_eq_true_eq] at hj
    exact (hs j).2 (mem_up.1 (h _ hj))
  · intro h x hx
    have hmem : g.getD i z37 ∈ g := by
      rw [List.getD_eq_getElem?_getD, List.getElem?_eq_getElem hi]
      exact List.getElem_mem hi
    have h0 := (hf.1 _ hmem).2.1 x hx
    obtain ⟨j, rfl⟩ : ∃ j : Nat, x = (j : Int) := ⟨x.toNat, by omega⟩
    refine mem_up.2 ((hs j).1 (h j ?_))
    rw [hbit i hi j, decide_eq_true_eq]
    exact hx
theorem rdT_nat (g : List Tk) (i : Nat) : rd_T37 g (i : Int) = g.getD i z37 := by simp [rd_T37]
theorem getD_mem {g : List Tk} {i : Nat} (hi : i < g.length) : g.getD i z37 ∈ g := by
  rw [List.getD_eq_getElem?_getD, List.getElem?_eq_getElem hi]
  exact List.getElem_mem hi
theorem ev_top_found {g : List Tk} (hg : Fits g) (L : List Nat) (hL : L.length ≤ 100) (j : Nat) (i : Int) (R : List Int) (h : Ev (fun k => spec_topOrder.l0 k g (up (L ++ [j]))) R) : Ev (fun k => spec_topOrder.l1 k g (up L) (j : Int) i) R := by
  have e : up (L ++ [j]) = up L ++ [(j : Int)] := by simp [up]
  have h2 : Ev (fun k => spec_topOrder.j2 k g (up L) (j : Int) i false) R := by
    refine Ev.succ (h.of fun k => ?_)
    rw [spec_topOrder.j2, if_neg (by simp), if_neg (by omega), if_pos (by rw [up_length]; omega), e]
  refine Ev.succ (h2.of fun k => ?_)
  rw [spec_topOrder.l1, show decide ((j : Int) < 0) = false by simp]
  split <;> rfl
theorem ev_top_scan {g : List Tk} (hg : Fits g) {N : List Nat} (hN : needsD g = some N) (L : List Nat) (d : Nat) (hL : L.length ≤ 100) (hd : d < 256) (hs : ∀ i, d.testBit i = true ↔ i ∈ L) (R : Option Nat → List Int) (hR : R none = up L) : ∀ (m i : Nat), i + m = g.length →
    (∀ j, nextFrom N d i m = some j → Ev (fun k => spec_topOrder.l0 k g (up (L ++ [j]))) (R (some j))) → Ev (fun k => spec_topOrder.l1 k g (up L) (-1) (i : Int)) (R (nextFrom N d i m))
  | 0, i, hi, ho => by
    rw [nextFrom, hR]
    refine Ev.succ ?_
    have h2 : Ev (fun k => spec_topOrder.j2 k g (up L) (-1) (i : Int) false) (up L) := by
      refine Ev.succ ((Ev.const _).of fun k => ?_)
      rw [spec_topOrder.j2, if_neg (by simp), if_pos (by omega)]
    refine h2.of fun k => ?_
    rw [spec_topOrder.l1, if_neg (by omega)]
  | m + 1, i, hi, ho => by
    have hig : i < g.length := by omega
    have h8 := (needsD_spec hN).1
    have hin := ev_isIn (L := up L) (by rw [up_length]; unfold big; omega) (i : Int)
    have hdn := ev_allDone (L := (g.getD i z37).f1) (M := up L) (hg.2 _ (getD_mem hig)) (by rw [up_length]; unfold big; omega)
    have e1 : decide ((i : Int) ∈ up L) = d.testBit i := by
      rw [Bool.eq_iff_iff, decide_eq_true_eq, mem_up, hs]
    have e2 : decide (∀ x ∈ (g.getD i z37).f1, x ∈ up L) = decide (sub (N.getD i 0) d = 0) := by
      rw [decide_eq_decide]; exact done_iff hN hd hs hig
    rw [e1] at hin
    rw [e2] at hdn
    have hw : wrap64 ((i : Int) + 1) = ((i + 1 : Nat) : Int) := w64s (by unfold big; omega)
    refine Ev.succ ?_
    have hj2 : Ev (fun k => spec_topOrder.j2 k g (up L) (-1) (i : Int) true) (R (nextFrom N d i (m + 1))) := by
      refine Ev.succ ?_
      have hu : ∀ k, spec_topOrder.j2 (k + 1) g (up L) (-1) (i : Int) true = (spec_isIn.f k (up L) (i : Int)).bind fun t126 => (if t126 = true then (spec_topOrder.l1 k g (up L) (-1) ((i + 1 : Nat) : Int)) else ((spec_allDone.f k (g.getD i z37).f1 (up L)).bind fun t128 => (if t128 = true then (spec_topOrder.l1 k g (up L) (i : Int) ((i + 1 : Nat) : Int)) else (spec_topOrder.l1 k g (up L) (-1) ((i + 1 : Nat) : Int))))) := by
        intro k
        rw [spec_topOrder.j2, if_pos rfl, hw, if_pos (show 0 ≤ (i : Int) by omega), if_pos (show (i : Int) < (g.length : Int) by omega), rdT_nat]
      refine Ev.of ?_ hu
      refine hin.bind (g := fun k t126 => (if t126 = true then (spec_topOrder.l1 k g (up L) (-1) ((i + 1 : Nat) : Int)) else ((spec_allDone.f k (g.getD i z37).f1 (up L)).bind fun t128 => (if t128 = true then (spec_topOrder.l1 k g (up L) (i : Int) ((i + 1 : Nat) : Int)) else (spec_topOrder.l1 k g (up L) (-1) ((i + 1 : Nat) : Int)))))) ?_
      cases hbit : d.testBit i with
      | true =>
        have hg2 : nextFrom N d i (m + 1) = nextFrom N d (i + 1) m := by rw [nextFrom, if_neg (by simp [hbit])]
        rw [hg2] at ho ⊢
        exact (ev_top_scan hg hN L d hL hd hs R hR m (i + 1) (by omega) ho).of fun k => if_pos rfl
      | false =>
        by_cases hz : sub (N.getD i 0) d = 0
        · have hg2 : nextFrom N d i (m + 1) = some i := by rw [nextFrom, if_pos ⟨hbit, hz⟩]
          rw [hg2]
          rw [decide_eq_true hz] at hdn
          have hf := ev_top_found hg L hL i ((i + 1 : Nat) : Int) _ (ho i hg2)
          refine (hdn.bind (g := fun k t128 => if t128 = true then (spec_topOrder.l1 k g (up L) (i : Int) ((i + 1 : Nat) : Int)) else (spec_topOrder.l1 k g (up L) (-1) ((i + 1 : Nat) : Int))) (hf.of fun k => if_pos rfl)).of fun k => ?_
          rw [if_neg (by simp)]
        · have hg2 : nextFrom N d i (m + 1) = nextFrom N d (i + 1) m := by rw [nextFrom, if_neg (fun h => hz h.2)]
          rw [hg2] at ho ⊢
          rw [decide_eq_false hz] at hdn
          have ih := ev_top_scan hg hN L d hL hd hs R hR m (i + 1) (by omega) ho
          refine (hdn.bind (g := fun k t128 => if t128 = true then (spec_topOrder.l1 k g (up L) (i : Int) ((i + 1 : Nat) : Int)) else (spec_topOrder.l1 k g (up L) (-1) ((i + 1 : Nat) : Int))) (ih.of fun k => if_neg (by simp))).of fun k => ?_
          rw [if_neg (by simp)]
    refine hj2.of fun k => ?_
    rw [spec_topOrder.l1, if_pos (by omega)]
    rfl
theorem orderGo_none {N : List Nat} {d : Nat} (h : nextD N d = none) : ∀ (m : Nat) (L : List Nat), orderGo N m L d = (L, d)
  | 0, L => rfl
  | m + 1, L => by rw [orderGo, h]; exact orderGo_none h m L
theorem next_zb {N : List Nat} {d j : Nat} (h : nextD N d = some j) : zb N.length (d ||| 2 ^ j) < zb N.length d := by
  have := nextD_spec h
  exact zb_lt this.2.1 this.1
theorem ev_top_go {g : List Tk} (hg : Fits g) {N : List Nat} (hN : needsD g = some N) : ∀ (m : Nat) (L : List Nat) (d : Nat), OrdOk N L d → zb N.length d ≤ m → Ev (fun k => spec_topOrder.l0 k g (up L)) (up (orderGo N m L d).1) := by
  obtain ⟨h8, hl, hb⟩ := needsD_spec hN
  have hb' : below1 N.length N := by rw [hl]; exact hb
  intro m
  induction m with
  | zero =>
    intro L d ok hz
    have hlt := Nat.lt_of_lt_of_le ok.dlt (pow8 (n := N.length) (by omega))
    have hnone : nextD N d = none := by
      cases h : nextD N d with
      | none => rfl
      | some j => have := next_zb h; omega
    have h := ev_top_scan hg hN L d (by have := ok.len; omega) hlt ok.set (fun _ => up L) rfl g.length 0 (by omega) (fun j hj => by
      have : nextD N d = some j := by unfold nextD; rw [hl]; exact hj
      rw [hnone] at this; cases this)
    refine Ev.succ (h.of fun k => ?_)
    rw [spec_topOrder.l0]
    rfl
  | succ m ih =>
    intro L d ok hz
    have hlt := Nat.lt_of_lt_of_le ok.dlt (pow8 (n := N.length) (by omega))
    have h := ev_top_scan hg hN L d (by have := ok.len; omega) hlt ok.set (fun o => match o with | some i => up (orderGo N m (L ++ [i]) (d ||| 2 ^ i)).1 | none => up L) rfl g.length 0 (by omega) (fun j hj => by
      have hj2 : nextD N d = some j := by unfold nextD; rw [hl]; exact hj
      have hsp := nextD_spec hj2
      have := next_zb hj2
      exact ih (L ++ [j]) (d ||| 2 ^ j) (ok.step (by omega) hb' hsp.1 hsp.2.1 hsp.2.2) (by omega))
    have e : (match nextFrom N d 0 g.length with | some i => up (orderGo N m (L ++ [i]) (d ||| 2 ^ i)).1 | none => up L) = up (orderGo N (m + 1) L d).1 := by
      rw [orderGo]
      have e2 : nextD N d = nextFrom N d 0 g.length := by unfold nextD; rw [hl]
      rw [e2]
      cases hx : nextFrom N d 0 g.length with
      | none => simp only []; rw [orderGo_none (by rw [e2]; exact hx)]
      | some i => rfl
    rw [← e]
    refine Ev.succ (h.of fun k => ?_)
    rw [spec_topOrder.l0]
    rfl
theorem ordOk_nil (N : List Nat) : OrdOk N [] 0 := ⟨by simp, by simp, Nat.two_pow_pos _, by simp, by rw [zb_zero]; simp, by simp⟩
theorem ev_topOrder {g : List Tk} (hg : Fits g) {N : List Nat} (hN : needsD g = some N) : Ev (fun k => spec_topOrder.f k g) (up (orderD N).1) :=
  ev_top_go hg hN N.length [] 0 (ordOk_nil N) (by rw [zb_zero]; exact Nat.le_refl _)
theorem zb_zero_full {n : Nat} : ∀ {m d : Nat}, zb m d = 0 → ∀ i, i < m → d.testBit i = true
  | 0, d, _, i, h => by omega
  | m + 1, d, h, i, hi => by
    simp only [zb] at h
    by_cases e : i = m
    · subst e
      cases hb : d.testBit i
      · simp [hb] at h
      · rfl
    · exact zb_zero_full (n := n) (m := m) (by omega) i (by omega)
theorem full_iff {N L : List Nat} {d : Nat} (ok : OrdOk N L d) : d = 2 ^ N.length - 1 ↔ L.length = N.length := by
  constructor
  · intro h
    have := ok.len
    rw [h, zb_full _ _ (Nat.le_refl _)] at this
    exact this
  · intro h
    have hz : zb N.length d = 0 := by have := ok.len; omega
    apply Nat.eq_of_testBit_eq
    intro i
    rw [Nat.testBit_two_pow_sub_one]
    by_cases hi : i < N.length
    · rw [zb_zero_full (n := 0) hz i hi]; simp [hi]
    · cases hb : d.testBit i
      · simp [hi]
      · exact absurd (ok.lt i ((ok.set i).1 hb)) hi
theorem ev_validGraph {g : List Tk} (hg : Fits g) : Ev (fun k => spec_validGraph.f k g) (graphD g).isSome := by
  have hf := ev_tasksFine hg
  unfold graphD
  by_cases h : fineD g
  · obtain ⟨N, hN⟩ := fineD_needs h
    obtain ⟨h8, hl, hb⟩ := needsD_spec hN
    rw [decide_eq_true h] at hf
    have ht := ev_topOrder hg hN
    have ok := orderD_ok (N := N) (by omega) (by rw [hl]; exact hb)
    have hfull := full_iff ok
    rw [hN]
    simp only []
    refine (hf.bind (g := fun k b => if b = true then ((spec_topOrder.f k g).bind fun t130 => (some ((t130.length : Int) == (g.length : Int)))) else some false) ?_).of fun k => rfl
    refine (ht.bind (g := fun k t130 => some ((t130.length : Int) == (g.length : Int))) (b := (if (orderD N).2 = 2 ^ g.length - 1 then some (mkG g N) else none).isSome) ((Ev.const _).of fun k => ?_)).of fun k => if_pos rfl
    rw [up_length]
    congr 1
    by_cases hd : (orderD N).2 = 2 ^ g.length - 1
    · rw [if_pos hd]
      have := hfull.1 (by rw [hl]; exact hd)
      simp [this, hl]
    · rw [if_neg hd]
      have : (orderD N).1.length ≠ g.length := fun e => hd (by rw [← hl]; exact hfull.2 (by omega))
      simp [this]
      omega
  · rw [decide_eq_false h] at hf
    have hn : needsD g = none := by
      cases e : needsD g with
      | none => rfl
      | some N => exact absurd (needsD_fine e).1 h
    rw [hn]
    refine (hf.bind (g := fun k b => if b = true then ((spec_topOrder.f k g).bind fun t130 => (some ((t130.length : Int) == (g.length : Int)))) else some false) ((Ev.const false).of fun k => if_neg (by simp))).of fun k => rfl
end Go.Proofs.YtekajandipdlhaaDoor.Core
end
section
set_option linter.unusedVariables false
set_option linter.unusedSimpArgs false
namespace Go.Proofs.YtekajandipdlhaaDoor.Core
open Go Go.RowKit Go.Proofs.YtekajandipdlhaaDoorW.PrintWords Go.Proofs.YtekajandipdlhaaDoorW.PrintMore Go.Proofs.YtekajandipdlhaaDoor.P
theorem Ev.pos {α : Type} {c : Prop} [Decidable c] {f g : Nat → Option α} {r : α} (hc : c) (h : Ev f r) : Ev (fun k => if c then f k else g k) r := h.of fun k => if_pos hc
theorem Ev.neg {α : Type} {c : Prop} [Decidable c] {f g : Nat → Option α} {r : α} (hc : ¬ c) (h : Ev g r) : Ev (fun k => if c then f k else g k) r := h.of fun k => if_neg hc
theorem Ev.sb {α β : Type} {g : Nat → α → Option β} {a : α} {b : β} (h : Ev (fun k => g k a) b) : Ev (fun k => (some a).bind (g k)) b := h.of fun k => rfl
theorem Ev.conv {α : Type} {f : Nat → Option α} {a b : α} (h : Ev f a) (e : a = b) : Ev f b := e ▸ h
def EvP {α : Type} (f : Nat → Option α) (Q : α → Prop) : Prop := ∃ r, Ev f r ∧ Q r
theorem EvP.ret {α : Type} {Q : α → Prop} {a : α} (h : Q a) : EvP (fun _ => some a) Q := ⟨a, Ev.const a, h⟩
theorem EvP.bind {α β : Type} {f : Nat → Option α} {g : Nat → α → Option β} {Q : α → Prop} {R : β → Prop} (h : EvP f Q) (h2 : ∀ a, Q a → EvP (fun k => g k a) R) : EvP (fun k => (f k).bind (g k)) R := by
  obtain ⟨a, h, q⟩ := h
  obtain ⟨b, h2, q2⟩ := h2 a q
  exact ⟨b, h.bind h2, q2⟩
theorem EvP.sb {α β : Type} {g : Nat → α → Option β} {a : α} {R : β → Prop} (h : EvP (fun k => g k a) R) : EvP (fun k => (some a).bind (g k)) R := h
theorem EvP.pos {α : Type} {c : Prop} [Decidable c] {f g : Nat → Option α} {Q : α → Prop} (hc : c) (h : EvP f Q) : EvP (fun k => if c then f k else g k) Q := by
  obtain ⟨r, h, q⟩ := h
  exact ⟨r, h.pos hc, q⟩
theorem EvP.neg {α : Type} {c : Prop} [Decidable c] {f g : Nat → Option α} {Q : α → Prop} (hc : ¬ c) (h : EvP g Q) : EvP (fun k => if c then f k else g k) Q := by
  obtain ⟨r, h, q⟩ := h
  exact ⟨r, h.neg hc, q⟩
theorem EvP.ite {α : Type} {c : Prop} [Decidable c] {f g : Nat → Option α} {Q : α → Prop} (h1 : c → EvP f Q) (h2 : ¬ c → EvP g Q) : EvP (fun k => if c then f k else g k) Q :=
  if hc : c then EvP.pos hc (h1 hc) else EvP.neg hc (h2 hc)
theorem EvP.succ {α : Type} {f : Nat → Option α} {Q : α → Prop} (h : EvP (fun k => f (k + 1)) Q) : EvP f Q := by
  obtain ⟨r, h, q⟩ := h
  exact ⟨r, h.succ, q⟩
theorem EvP.of {α : Type} {f g : Nat → Option α} {Q : α → Prop} (h : EvP f Q) (e : ∀ k, g k = f k) : EvP g Q := by
  obtain ⟨r, h, q⟩ := h
  exact ⟨r, h.of e, q⟩
theorem EvP.mono {α : Type} {f : Nat → Option α} {Q R : α → Prop} (h : EvP f Q) (hq : ∀ a, Q a → R a) : EvP f R := by
  obtain ⟨r, h, q⟩ := h
  exact ⟨r, h, hq r q⟩
theorem Ev.p {α : Type} {f : Nat → Option α} {r : α} {Q : α → Prop} (h : Ev f r) (q : Q r) : EvP f Q := ⟨r, h, q⟩
theorem EvP.ev {α : Type} {f : Nat → Option α} {r : α} (h : EvP f (fun x => x = r)) : Ev f r := by
  obtain ⟨r, h, rfl⟩ := h
  exact h
theorem Ev.bindP {α β : Type} {f : Nat → Option α} {g : Nat → α → Option β} {a : α} {R : β → Prop} (h : Ev f a) (h2 : EvP (fun k => g k a) R) : EvP (fun k => (f k).bind (g k)) R := by
  obtain ⟨b, h2, q2⟩ := h2
  exact ⟨b, h.bind h2, q2⟩
theorem i64_xor_nat (a b : Nat) (ha : a < 4611686018427387904) (hb : b < 4611686018427387904) : bits .xor .i64 (a : Int) (b : Int) = ((a ^^^ b : Nat) : Int) := by
  have hx : a ^^^ b < 2 ^ 62 := Nat.xor_lt_two_pow (by omega) (by omega)
  have h1 : (BitVec.ofInt 64 (a : Int)).toNat = a := by
    rw [BitVec.ofInt_natCast, BitVec.toNat_ofNat]; exact Nat.mod_eq_of_lt (by omega)
  have h2 : (BitVec.ofInt 64 (b : Int)).toNat = b := by
    rw [BitVec.ofInt_natCast, BitVec.toNat_ofNat]; exact Nat.mod_eq_of_lt (by omega)
  show IntKind.i64.wrap ((BitVec.ofInt 64 (a : Int) ^^^ BitVec.ofInt 64 (b : Int)).toNat : Int) = _
  rw [BitVec.toNat_xor, h1, h2, IntKind.wrap_i64]
  omega
theorem i64_xor (a b : Int) (ha : 0 ≤ a) (ha2 : a < 4294967296) (hb : 0 ≤ b) (hb2 : b < 4294967296) : 0 ≤ bits .xor .i64 a b ∧ bits .xor .i64 a b < 4294967296 := by
  obtain ⟨m, rfl⟩ := Int.eq_ofNat_of_zero_le ha
  obtain ⟨n, rfl⟩ := Int.eq_ofNat_of_zero_le hb
  rw [i64_xor_nat m n (by omega) (by omega)]
  have hx : m ^^^ n < 2 ^ 32 := Nat.xor_lt_two_pow (by omega) (by omega)
  omega
theorem tmod_lt {a n : Int} (ha : 0 ≤ a) (hn : 0 < n) : 0 ≤ Int.tmod a n ∧ Int.tmod a n < n := by
  rw [Int.tmod_eq_emod_of_nonneg ha]
  exact ⟨Int.emod_nonneg _ (by omega), Int.emod_lt_of_pos _ hn⟩
theorem tdiv_le {a n : Int} (ha : 0 ≤ a) (hn : 0 < n) : 0 ≤ Int.tdiv a n ∧ Int.tdiv a n ≤ a := by
  rw [Int.tdiv_eq_ediv_of_nonneg ha]
  exact ⟨Int.ediv_nonneg ha (by omega), Int.ediv_le_self _ ha⟩
end Go.Proofs.YtekajandipdlhaaDoor.Core
end
section
set_option linter.unusedVariables false
set_option linter.unusedSimpArgs false
namespace Go.Proofs.YtekajandipdlhaaDoor.Core
open Go Go.RowKit Go.Proofs.YtekajandipdlhaaDoorW.PrintWords Go.Proofs.YtekajandipdlhaaDoorW.PrintMore Go.Proofs.YtekajandipdlhaaDoor.P
theorem asc_ext : ∀ {a b : List Int}, ascD a = true → ascD b = true → (∀ x, x ∈ a ↔ x ∈ b) → a = b
  | [], [], _, _, _ => rfl
  | [], y :: b, _, _, h => by have := (h y).2 List.mem_cons_self; cases this
  | x :: a, [], _, _, h => by have := (h x).1 List.mem_cons_self; cases this
  | x :: a, y :: b, ha, hb, h => by
    have h1 := asc_lt ha
    have h2 := asc_lt hb
    have e : x = y := by
      rcases List.mem_cons.1 ((h x).1 List.mem_cons_self) with e | e
      · exact e
      · rcases List.mem_cons.1 ((h y).2 List.mem_cons_self) with e' | e'
        · exact e'.symm
        · have := h1.2 y e'
          have := h2.2 x e
          omega
    subst e
    rw [asc_ext h1.1 h2.1 (fun z => ⟨fun hz => ?_, fun hz => ?_⟩)]
    · rcases List.mem_cons.1 ((h z).1 (List.mem_cons_of_mem _ hz)) with e | e
      · have := h1.2 z hz; omega
      · exact e
    · rcases List.mem_cons.1 ((h z).2 (List.mem_cons_of_mem _ hz)) with e | e
      · have := h2.2 z hz; omega
      · exact e
theorem asc_filter (p : Nat → Bool) : ∀ (m i : Nat), ascD (up ((List.range' i m).filter p)) = true ∧ ∀ x ∈ up ((List.range' i m).filter p), (i : Int) ≤ x
  | 0, i => ⟨rfl, by simp [up]⟩
  | m + 1, i => by
    have ih := asc_filter p m (i + 1)
    rw [List.range'_succ, List.filter_cons]
    split
    · refine ⟨asc_mk ih.1 (fun y hy => by have := ih.2 y hy; show (i : Int) < y; omega), fun x hx => ?_⟩
      rcases List.mem_cons.1 hx with rfl | hx
      · exact Int.le_refl _
      · have := ih.2 x hx; omega
    · exact ⟨ih.1, fun x hx => by have := ih.2 x hx; omega⟩
theorem asc_elems (s : Nat) : ascD (up (elemsN s)) = true := by
  unfold elemsN
  rw [List.range_eq_range']
  exact (asc_filter (fun i => s.testBit i) 8 0).1
end Go.Proofs.YtekajandipdlhaaDoor.Core
end
section
set_option linter.unusedVariables false
set_option linter.unusedSimpArgs false
namespace Go.Proofs.YtekajandipdlhaaDoor.Core
open Go Go.RowKit Go.Proofs.YtekajandipdlhaaDoorW.PrintWords Go.Proofs.YtekajandipdlhaaDoorW.PrintMore Go.Proofs.YtekajandipdlhaaDoor.P
/-- What is known of a valid graph. -/
structure VG (g : List Tk) (G : GD) : Prop where
  tasks : G.tasks = g
  n8 : g.length ≤ 8
  nl : G.needs.length = g.length
  nb : below1 g.length G.needs
  needsD : needsD g = some G.needs
  bits : ∀ i, i < g.length → ∀ j : Nat, (G.needs.getD i 0).testBit j = decide ((j : Int) ∈ (g.getD i z37).f1)
  fine : fineD g
  ord : OrdOk G.needs G.order (2 ^ g.length - 1)
theorem vg_of {g : List Tk} {G : GD} (h : graphD g = some G) : VG g G := by
  obtain ⟨N, hN, hf, rfl⟩ := graphD_spec h
  obtain ⟨h8, hl, hb⟩ := needsD_spec hN
  have ok := orderD_ok (N := N) (by omega) (by rw [hl]; exact hb)
  rw [hf] at ok
  exact ⟨rfl, h8, hl, hb, hN, (needsD_fine hN).2, (needsD_fine hN).1, ok⟩
theorem VG.mem {g : List Tk} {G : GD} (v : VG g G) {i : Nat} : i ∈ G.order ↔ i < g.length := by
  rw [← v.ord.set i, Nat.testBit_two_pow_sub_one]
  simp
theorem VG.needs_len {g : List Tk} {G : GD} (v : VG g G) : G.needs.length ≤ 8 := by have := v.nl; have := v.n8; omega
theorem VG.mem_ready {g : List Tk} {G : GD} (v : VG g G) {p i : Nat} : i ∈ elemsN (G.ready p) ↔ i < g.length ∧ p.testBit i = false ∧ sub (G.needs.getD i 0) p = 0 := by
  rw [Core.mem_ready v.needs_len, v.nl]
end Go.Proofs.YtekajandipdlhaaDoor.Core
end
section
set_option linter.unusedVariables false
set_option linter.unusedSimpArgs false
namespace Go.Proofs.YtekajandipdlhaaDoor.Core
open Go Go.RowKit Go.Proofs.YtekajandipdlhaaDoorW.PrintWords Go.Proofs.YtekajandipdlhaaDoorW.PrintMore Go.Proofs.YtekajandipdlhaaDoor.P
theorem VG.sub_iff' {g : List Tk} {G : GD} (v : VG g G) {p i : Nat} (hp : p < 2 ^ g.length) : sub (G.needs.getD i 0) p = 0 ↔ ∀ j, (G.needs.getD i 0).testBit j = true → p.testBit j = true := by
  have h256 : 2 ^ g.length ≤ 256 := pow8 v.n8
  have := getD_lt v.nb i
  exact sub_zero (by omega) (by omega)
theorem fold_b (i : Nat) : ∀ (ks : List Nat) (B : List Nat), i < B.length → (∀ m ∈ ks, m ≠ i) →
    (∀ j, j ≠ i → (ks.foldl (bStep i) B).getD j 0 = B.getD j 0) ∧ ∀ k, ((ks.foldl (bStep i) B).getD i 0).testBit k = true ↔ (B.getD i 0).testBit k = true ∨ ∃ m ∈ ks, k = m ∨ (B.getD m 0).testBit k = true
  | [], B, hi, hk => ⟨fun _ _ => rfl, fun k => by simp⟩
  | m :: ks, B, hi, hk => by
    have hm : m ≠ i := hk m List.mem_cons_self
    obtain ⟨h1, h2⟩ := fold_b i ks (bStep i B m) (by rw [bStep_length]; exact hi) (fun x hx => hk x (List.mem_cons_of_mem _ hx))
    have e1 : ∀ j, j ≠ i → (bStep i B m).getD j 0 = B.getD j 0 := by
      intro j hj
      unfold bStep
      rw [List.getD_eq_getElem?_getD, List.getElem?_set_ne (Ne.symm hj), ← List.getD_eq_getElem?_getD]
    have e2 : (bStep i B m).getD i 0 = B.getD i 0 ||| (B.getD m 0 ||| 2 ^ m) := by
      unfold bStep
      rw [List.getD_eq_getElem?_getD, List.getElem?_set_self hi]
      rfl
    refine ⟨fun j hj => (h1 j hj).trans (e1 j hj), fun k => ?_⟩
    rw [List.foldl_cons, h2, e2, Nat.testBit_or, or_bit]
    constructor
    · rintro (h | ⟨x, hx, h⟩)
      · simp only [Bool.or_eq_true, decide_eq_true_eq] at h
        rcases h with h | h | h
        · exact .inl h
        · exact .inr ⟨m, List.mem_cons_self, .inr h⟩
        · exact .inr ⟨m, List.mem_cons_self, .inl h.symm⟩
      · refine .inr ⟨x, List.mem_cons_of_mem _ hx, h.imp_right fun h => ?_⟩
        rw [← e1 x (hk x (List.mem_cons_of_mem _ hx))]; exact h
    · rintro (h | ⟨x, hx, h⟩)
      · exact .inl (by simp only [Bool.or_eq_true, decide_eq_true_eq]; exact .inl h)
      · rcases List.mem_cons.1 hx with rfl | hx
        · refine .inl ?_
          simp only [Bool.or_eq_true, decide_eq_true_eq]
          rcases h with h | h
          · exact .inr (.inr h.symm)
          · exact .inr (.inl h)
        · refine .inr ⟨x, hx, h.imp_right fun h => ?_⟩
          rw [e1 x (hk x (List.mem_cons_of_mem _ hx))]; exact h
/-- What the tables hold behind the first tasks of the order. -/
def BInv (N : List Nat) (n : Nat) (pre : List Nat) (B : List Nat) : Prop :=
  B.length = n ∧ (∀ i, i ∉ pre → B.getD i 0 = 0) ∧ ∀ i ∈ pre, ∀ k, (B.getD i 0).testBit k = true ↔ ∃ m, (N.getD i 0).testBit m = true ∧ (k = m ∨ (B.getD m 0).testBit k = true)
theorem binv_fold {N L : List Nat} {n : Nat} (hn : n ≤ 8) (hb : below1 n N) (hnd : L.Nodup) (hlt : ∀ i ∈ L, i < n) (hnx : ∀ pre i suf, L = pre ++ i :: suf → ∀ k, (N.getD i 0).testBit k = true → k ∈ pre) :
    ∀ (suf pre : List Nat) (LU : List Nat × List Nat), L = pre ++ suf → BInv N n pre LU.1 → BInv N n L (suf.foldl (rStep N) LU).1
  | [], pre, LU, hL, h => by rw [List.append_nil] at hL; rw [hL]; exact h
  | i :: suf, pre, LU, hL, h => by
    obtain ⟨hlen, h0, hI⟩ := h
    have hni : i ∉ pre := by
      intro hm
      rw [hL, List.nodup_append] at hnd
      exact hnd.2.2 i hm i List.mem_cons_self rfl
    have hil : i < n := hlt i (by rw [hL]; simp)
    have hneed := hnx pre i suf hL
    have hel : ∀ m, m ∈ elemsN (N.getD i 0) ↔ (N.getD i 0).testBit m = true := by
      intro m
      rw [mem_elemsN]
      refine ⟨fun h => h.2, fun h => ⟨?_, h⟩⟩
      have := hlt m (by rw [hL]; exact List.mem_append_left _ (hneed m h))
      omega
    obtain ⟨f1, f2⟩ := fold_b i (elemsN (N.getD i 0)) LU.1 (by rw [hlen]; exact hil) (fun m hm e => hni (e ▸ hneed m ((hel m).1 hm)))
    refine binv_fold hn hb hnd hlt hnx suf (pre ++ [i]) (rStep N LU i) (by rw [hL]; simp) ⟨?_, ?_, ?_⟩
    · show ((elemsN (N.getD i 0)).foldl (bStep i) LU.1).length = n
      rw [fold_len (bStep_length i), hlen]
    · intro j hj
      simp only [List.mem_append, List.mem_singleton, not_or] at hj
      exact (f1 j hj.2).trans (h0 j hj.1)
    · intro j hj k
      show ((((elemsN (N.getD i 0)).foldl (bStep i) LU.1).getD j 0).testBit k = true ↔ ∃ m, (N.getD j 0).testBit m = true ∧ (k = m ∨ (((elemsN (N.getD i 0)).foldl (bStep i) LU.1).getD m 0).testBit k = true))
      rcases List.mem_append.1 hj with hj | hj
      · have hji : j ≠ i := fun e => hni (e ▸ hj)
        rw [f1 j hji, hI j hj k]
        have hjm : ∀ m, (N.getD j 0).testBit m = true → m ≠ i := by
          intro m hm e
          obtain ⟨a, b, hab⟩ := List.append_of_mem hj
          have := hnx a j (b ++ i :: suf) (by rw [hL, hab]; simp) m hm
          exact hni (by rw [← e, hab]; exact List.mem_append_left _ this)
        constructor
        · rintro ⟨m, h1, h2⟩
          exact ⟨m, h1, by rw [f1 m (hjm m h1)]; exact h2⟩
        · rintro ⟨m, h1, h2⟩
          exact ⟨m, h1, by rw [f1 m (hjm m h1)] at h2; exact h2⟩
      · rw [List.mem_singleton.1 hj, f2 k, h0 i hni]
        have hmi : ∀ m, (N.getD i 0).testBit m = true → m ≠ i := fun m hm e => hni (e ▸ hneed m hm)
        constructor
        · rintro (h | ⟨m, hm, h⟩)
          · simp at h
          · exact ⟨m, (hel m).1 hm, by rw [f1 m (hmi m ((hel m).1 hm))]; exact h⟩
        · rintro ⟨m, hm, h⟩
          exact .inr ⟨m, (hel m).2 hm, by rw [f1 m (hmi m hm)] at h; exact h⟩
theorem below_bits {g : List Tk} {G : GD} (hG : graphD g = some G) {i : Nat} (hi : i < g.length) (k : Nat) : (G.below.getD i 0).testBit k = true ↔ ∃ m, (G.needs.getD i 0).testBit m = true ∧ (k = m ∨ (G.below.getD m 0).testBit k = true) := by
  have v := vg_of hG
  obtain ⟨N, hN, hf, rfl⟩ := graphD_spec hG
  have h := binv_fold (N := N) (L := (orderD N).1) v.n8 v.nb v.ord.nodup (fun i hi => v.mem.1 hi) v.ord.needs (orderD N).1 [] (List.replicate g.length 0, List.replicate g.length 0) rfl
    ⟨by simp, fun i _ => by show (List.replicate g.length 0).getD i 0 = 0; rw [List.getD_eq_getElem?_getD, List.getElem?_replicate]; split <;> rfl, fun i hi => by cases hi⟩
  exact h.2.2 i (v.mem.2 hi) k
end Go.Proofs.YtekajandipdlhaaDoor.Core
end
section
set_option linter.unusedVariables false
set_option linter.unusedSimpArgs false
namespace Go.Proofs.YtekajandipdlhaaDoor.Core
open Go Go.RowKit Go.Proofs.YtekajandipdlhaaDoorW.PrintWords Go.Proofs.YtekajandipdlhaaDoorW.PrintMore Go.Proofs.YtekajandipdlhaaDoor.P
theorem VG.need_lt {g : List Tk} {G : GD} (v : VG g G) {i m : Nat} (h : (G.needs.getD i 0).testBit m = true) : m < g.length := by
  have h1 := getD_lt v.nb i
  have h2 := Nat.ge_two_pow_of_testBit h
  have h3 : 2 ^ m < 2 ^ g.length := Nat.lt_of_le_of_lt h2 h1
  exact (Nat.pow_lt_pow_iff_right (by omega)).1 h3
/-- From the needs to the task. -/
theorem VG.ind {g : List Tk} {G : GD} (v : VG g G) {Q : Nat → Prop} (h : ∀ i, i < g.length → (∀ m, (G.needs.getD i 0).testBit m = true → Q m) → Q i) : ∀ i, i < g.length → Q i := by
  have key : ∀ (suf pre : List Nat), G.order = pre ++ suf → (∀ i ∈ pre, Q i) → ∀ i ∈ G.order, Q i := by
    intro suf
    induction suf with
    | nil => intro pre ho hp i hi; rw [ho, List.append_nil] at hi; exact hp i hi
    | cons a s ih =>
      intro pre ho hp
      refine ih (pre ++ [a]) (by rw [ho]; simp) fun i hi => ?_
      rcases List.mem_append.1 hi with hi | hi
      · exact hp i hi
      · rw [List.mem_singleton.1 hi]
        exact h a (v.mem.1 (by rw [ho]; simp)) fun m hm => hp m (v.ord.needs pre a s ho m hm)
  exact fun i hi => key G.order [] rfl (by simp) i (v.mem.2 hi)
theorem VG.below_before {g : List Tk} {G : GD} (v : VG g G) (hG : graphD g = some G) : ∀ i, i < g.length → ∀ k, (G.below.getD i 0).testBit k = true → ∀ pre suf, G.order = pre ++ i :: suf → k ∈ pre := by
  refine v.ind (Q := fun i => ∀ k, (G.below.getD i 0).testBit k = true → ∀ pre suf, G.order = pre ++ i :: suf → k ∈ pre) fun i hi ih k hk pre suf ho => ?_
  obtain ⟨m, hm, h⟩ := (below_bits hG hi k).1 hk
  have hmp := v.ord.needs pre i suf ho m hm
  rcases h with rfl | h
  · exact hmp
  · obtain ⟨a, b, rfl⟩ := List.append_of_mem hmp
    exact List.mem_append_left _ (ih m hm k h a (b ++ i :: suf) (by rw [ho]; simp))
theorem VG.list {g : List Tk} {G : GD} (v : VG g G) {i : Nat} (hi : i < g.length) : (g.getD i z37).f1 = up (elemsN (G.needs.getD i 0)) := by
  have hg : g.getD i z37 ∈ g := by
    rw [List.getD_eq_getElem?_getD, List.getElem?_eq_getElem hi]
    exact List.getElem_mem hi
  have hf := (v.fine.1 _ hg).2
  refine asc_ext hf.2 (asc_elems _) (fun x => ?_)
  show _ ↔ x ∈ elems _
  rw [mem_elems]
  constructor
  · intro hx
    have hb := hf.1 x hx
    have h8 := v.n8
    refine ⟨x.toNat, by omega, by omega, ?_⟩
    rw [v.bits i hi, decide_eq_true_eq, show ((x.toNat : Nat) : Int) = x by omega]
    exact hx
  · rintro ⟨k, rfl, _, hk⟩
    rw [v.bits i hi, decide_eq_true_eq] at hk
    exact hk
end Go.Proofs.YtekajandipdlhaaDoor.Core
end
section
set_option linter.unusedVariables false
set_option linter.unusedSimpArgs false
namespace Go.Proofs.YtekajandipdlhaaDoor.Core
open Go Go.RowKit Go.Shelf Go.Proofs.YtekajandipdlhaaDoorW.PrintWords Go.Proofs.YtekajandipdlhaaDoorW.PrintMore Go.Proofs.YtekajandipdlhaaDoor.P
attribute [local go_sem] Oper.semAt_some wide_fn wide_depth
theorem drawn_below {w w' : World} (h : Drawn0 w w') : Below w.heap.size w w' := by
  obtain ⟨n, rfl⟩ := h
  exact pw_below_drewN (Below.refl _ _) n
theorem graphOf_none (A0 : Option Addr) (c0 : Nat) (l0 : List Tk) (w : World) (hT : Tab w) (hr0 : k37.C w A0 l0.length l0) (hc0 : l0.length ≤ c0) (hg : graphD l0 = none) :
    Calls Tryd.prog 60 #[.slice A0 l0.length c0] w fun e w' => e = .returned (.tuple #[.pointer none, .bool false]) ∧ Below w.heap.size w w' :=
  (graphOf_calls A0 c0 l0 w hT hr0 hc0).mono fun e w' h => by unfold graphPost at h; rw [hg] at h; exact h
theorem graphOf_row (A0 : Option Addr) (c0 : Nat) (l0 : List Tk) (G : GD) (w : World) (hT : Tab w) (hr0 : k37.C w A0 l0.length l0) (hc0 : l0.length ≤ c0) (hg : graphD l0 = some G) :
    Calls Tryd.prog 60 #[.slice A0 l0.length c0] w fun e w' => ∃ (b : Nat) (v : Value), e = .returned (.tuple #[.pointer (some ⟨b, 0, none⟩), .bool true]) ∧ Below w.heap.size w w' ∧ w.heap.size ≤ b ∧ IsG w' b G ∧ w'.cell? ⟨b, 2, none⟩ = some v ∧ (Kd.int .i64).R 3 w' w.heap.size (fun _ => True) v (up G.order) :=
  (graphOf_calls A0 c0 l0 w hT hr0 hc0).mono fun e w' h => by
    unfold graphPost at h
    rw [hg] at h
    obtain ⟨b, v, h1, h2, h3, h4, h5, h6, _⟩ := h
    exact ⟨b, v, h1, h2, h3, h4, h5, h6⟩
theorem graphOf_some (A0 : Option Addr) (c0 : Nat) (l0 : List Tk) (G : GD) (w : World) (hT : Tab w) (hr0 : k37.C w A0 l0.length l0) (hc0 : l0.length ≤ c0) (hg : graphD l0 = some G) :
    Calls Tryd.prog 60 #[.slice A0 l0.length c0] w fun e w' => ∃ b : Nat, e = .returned (.tuple #[.pointer (some ⟨b, 0, none⟩), .bool true]) ∧ Below w.heap.size w w' ∧ IsG w' b G :=
  (graphOf_row A0 c0 l0 G w hT hr0 hc0 hg).mono fun e w' ⟨b, v, h1, h2, _, h3, _⟩ => ⟨b, h1, h2, h3⟩
theorem within_is (x a b : Int) (t : Bool) (w : World) (h : decide (a ≤ x ∧ x ≤ b) = t) :
    Calls Tryd.prog 81 #[.int .i64 x, .int .i64 a, .int .i64 b] w fun e w' => e = .returned (.bool t) ∧ Below w.heap.size w w' :=
  (impl_within.calls x a b t w (by rw [within_eq, h])).mono fun e w' h => ⟨h.1, drawn_below h.2⟩
theorem grown_of_below {a b : World} (row : Option Nat) (h : Below a.heap.size a b) : a.grownBy b row := ⟨h.os, h.tape, h.output, h.size, fun k hk _ => h.block k hk⟩
end Go.Proofs.YtekajandipdlhaaDoor.Core
end
section
set_option linter.unusedVariables false
set_option linter.unusedSimpArgs false
namespace Go.Proofs.YtekajandipdlhaaDoor.Core
open Go Go.RowKit Go.Shelf Go.Proofs.YtekajandipdlhaaDoorW.PrintWords Go.Proofs.YtekajandipdlhaaDoorW.PrintLast Go.Proofs.YtekajandipdlhaaDoorW.PrintMore Go.Proofs.YtekajandipdlhaaDoor.P
attribute [local go_sem] Oper.semAt_some wide_fn wide_depth
/-- One more need's own needs. -/
def ustep (G : GD) (i : Nat) (o k : Nat) : Nat := o ||| (G.needs.getD i 0 &&& G.below.getD k 0)
/-- The needs of a task that another one of its needs needs. -/
def uselessD (G : GD) (i : Nat) : Nat := (elemsN (G.needs.getD i 0)).foldl (ustep G i) 0
theorem ustep_lt {G : GD} (ok : GOk G) (i : Nat) {o : Nat} (ho : o < 2 ^ G.tasks.length) (k : Nat) : ustep G i o k < 2 ^ G.tasks.length :=
  Nat.or_lt_two_pow ho (Nat.lt_of_le_of_lt Nat.and_le_left (getD_lt ok.nb i))
theorem ufold_lt {G : GD} (ok : GOk G) (i : Nat) : ∀ (ks : List Nat) (o : Nat), o < 2 ^ G.tasks.length → ks.foldl (ustep G i) o < 2 ^ G.tasks.length
  | [], _, h => h
  | k :: ks, o, h => ufold_lt ok i ks _ (ustep_lt ok i h k)
theorem uselessD_lt {G : GD} (ok : GOk G) (i : Nat) : uselessD G i < 2 ^ G.tasks.length := ufold_lt ok i _ 0 (Nat.two_pow_pos _)
set_option maxRecDepth 100000 in
set_option maxHeartbeats 8000000 in
theorem useless_calls (b : Nat) (G : GD) (i : Nat) (w : World) (hT : Tab w) (hg : IsG w b G) (ok : GOk G) (hi : i < G.tasks.length) :
    Calls Tryd.prog 61 #[.pointer (some ⟨b, 0, none⟩), .int .i64 (i : Int)] w fun e w' => e = .returned (.int .u16 ((uselessD G i : Nat) : Int)) ∧ Below w.heap.size w w' := by
  obtain ⟨xi, hxi⟩ : ∃ x : Int, x = (i : Int) := ⟨_, rfl⟩
  rw [← hxi]
  have HI := Aside0.mk hxi
  clear hxi
  refine calls_marks Tryd.func61 rfl ?_
  simp only [Tryd.ntmps61, List.size_toArray, List.length_cons, List.length_nil, Nat.reduceAdd, Nat.reduceSub, Array.replicate_succ, Array.replicate_zero, List.push_toArray, List.append_toArray, List.nil_append, List.cons_append]
  go_wp2
  have o1 : (w.alloc (.cells #[.pointer (some ⟨b, 0, none⟩)] 61)).heap.size = w.heap.size + 1 := by simp
  have x1 := Boxed.new w 61 (.pointer (some ⟨b, 0, none⟩))
  have B1 := (Below.refl w.heap.size w).alloc (Nat.le_refl _) (.cells #[.pointer (some ⟨b, 0, none⟩)] 61)
  revert o1 x1 B1
  generalize w.alloc (.cells #[.pointer (some ⟨b, 0, none⟩)] 61) = w1
  intro o1 x1 B1
  have i2 := Boxed.new w1 3 (.int .i64 xi)
  rw [o1] at i2
  have o2 : (w1.alloc (.cells #[.int .i64 xi] 3)).heap.size = w.heap.size + 1 + 1 := by simp [o1]
  have x2 := x1.alloc (.cells #[.int .i64 xi] 3)
  have B2 := B1.alloc (by omega) (.cells #[.int .i64 xi] 3)
  revert o2 x2 B2 i2
  generalize w1.alloc (.cells #[.int .i64 xi] 3) = w2
  intro i2 o2 x2 B2
  have u3 := Boxed.new w2 70 (.int .u16 0)
  rw [o2] at u3
  have o3 : (w2.alloc (.cells #[.int .u16 0] 70)).heap.size = w.heap.size + 1 + 1 + 1 := by simp [o2]
  have x3 := x2.alloc (.cells #[.int .u16 0] 70)
  have i3 := i2.alloc (.cells #[.int .u16 0] 70)
  have B3 := B2.alloc (by omega) (.cells #[.int .u16 0] 70)
  revert o3 x3 B3 i3 u3
  generalize w2.alloc (.cells #[.int .u16 0] 70) = w3
  intro u3 o3 x3 i3 B3
  clear o1 x1 B1 i2 o2 x2 B2
  refine wp_region_still_tail 7 rfl (by kernel_rfl) ?_
  change wpStill _ _ w3.drew (fun a' => wpList _ _ _ _ a' w3.drew) _ _
  have hdr : Below w3.heap.size w3 w3.drew := below_drew (Below.refl _ _)
  revert hdr
  generalize w3.drew = w4
  intro hdr
  have x4 : Boxed w4 w.heap.size 61 (.pointer (some ⟨b, 0, none⟩)) := (hdr.block _ x3.lt).trans x3
  have i4 : Boxed w4 (w.heap.size + 1) 3 (.int .i64 xi) := (hdr.block _ i3.lt).trans i3
  have u4 : Boxed w4 (w.heap.size + 1 + 1) 70 (.int .u16 0) := (hdr.block _ u3.lt).trans u3
  have B4 := below_step B3 hdr
  have hs4 : w.heap.size + 1 + 1 + 1 ≤ w4.heap.size := by have := hdr.size; omega
  clear u3 o3 x3 i3 B3 hdr
  have hg4 := hg.move B4
  obtain ⟨A1, c1, hcn, hcl, hC⟩ := hg4.needs
  have hnl := ok.nl
  have hxi := HI.out
  have p0 : 0 ≤ xi := by omega
  have q0 : xi < (G.needs.length : Int) := by omega
  obtain ⟨ad, e0, hxn⟩ := Kd.at_int hC xi p0 q0
  subst e0
  rw [rd_up (i := i) hxi] at hxn
  have h256 := pow8 ok.n8
  have hsi := getD_lt ok.nb i
  have hs_ : uselessD G i = (elemsN (G.needs.getD i 0)).foldl (ustep G i) 0 := rfl
  have hlt8 : ∀ {x : Int}, x ∈ elems (G.needs.getD i 0) → x < G.tasks.length := fun hx => by have := elems_lt hsi hx; omega
  generalize hsn : G.needs.getD i 0 = s at hxn hsi hs_ hlt8
  have HS := Aside0.mk hsn
  have HU := Aside0.mk hs_
  clear hsn hs_ hxi hnl hC hcl
  have hcx := x4.cell
  have hci := i4.cell
  replace p0 := eq_true p0
  replace q0 := eq_true q0
  simp only [List.take_succ_cons, List.take_zero, List.drop_succ_cons, List.drop_zero]
  repeat still_step
  refine wpStill_nil ?_
  go_wp2_with (go_at_call 62; refine (all_calls s _).mono ?_; rintro e w' ⟨rfl, rfl⟩)
  clear hcx hci hcn hxn p0 q0 hg4
  have s5 := Boxed.new w4 70 (.int .u16 (s : Int))
  have x5 := x4.alloc (.cells #[.int .u16 (s : Int)] 70)
  have i5 := i4.alloc (.cells #[.int .u16 (s : Int)] 70)
  have u5 := u4.alloc (.cells #[.int .u16 (s : Int)] 70)
  have B5 := B4.alloc B4.size (.cells #[.int .u16 (s : Int)] 70)
  have o5 : (w4.alloc (.cells #[.int .u16 (s : Int)] 70)).heap.size = w4.heap.size + 1 := by simp
  revert s5 x5 i5 u5 B5 o5
  generalize w4.alloc (.cells #[.int .u16 (s : Int)] 70) = w5
  intro s5 x5 i5 u5 B5 o5
  clear x4 i4 u4 B4
  have hle : w.heap.size ≤ w5.heap.size := B5.size
  refine wp_rangeSet Tab.tame (w := w5) (w0 := w5) (p := 15) (d := 6) rfl (enters_of Tryd.func101 (by kernel_rfl) rfl)
    (all_seq w4.heap.size s (Nat.lt_of_lt_of_le hsi h256) w5 (hT.of B5) s5.cell) (Below.refl _ _) (by simp)
    (fun ys W' => ∃ zs : List Nat, ys = up zs ∧ Boxed W' (w.heap.size + 1 + 1) 70 (.int .u16 ((zs.foldl (ustep G i) 0 : Nat) : Int)) ∧ Boxed W' w.heap.size 61 (.pointer (some ⟨b, 0, none⟩)) ∧ Boxed W' (w.heap.size + 1) 3 (.int .i64 xi) ∧ Below w.heap.size w W' ∧ w5.heap.size ≤ W'.heap.size) (fun _ _ _ => False)
    (ownFrom_tame (fun ys W' W'' ht ⟨zs, a, b, c, d, e, f⟩ => ⟨zs, a, ht.boxed b, ht.boxed c, ht.boxed d, ht.below e (Nat.le_refl _) hle, Nat.le_trans f ht.size⟩)) (fun _ => ownFrom_tame (fun _ _ _ _ h => h))
    ⟨[], rfl, u5, x5, i5, B5, Nat.le_refl _⟩ (fun ys W' ⟨_, _, _, _, _, b, _⟩ => hT.of b) ?body ?done (fun _ _ _ _ _ h _ => h.elim)
  case body =>
    rintro l pre1 x W1 hx ⟨zs, rfl, hu, hxb, hib, hB, hsz⟩ hlt1
    gi_wp2
    obtain ⟨k0, hxk, hk8, _⟩ := mem_elems.1 hx
    have hkn : k0 < G.tasks.length := by have := hlt8 hx; omega
    have hofold := ufold_lt ok i zs 0 (Nat.two_pow_pos _)
    have hstep : (zs ++ [k0]).foldl (ustep G i) 0 = zs.foldl (ustep G i) 0 ||| (s &&& G.below.getD k0 0) := by rw [List.foldl_append, ← HS.out]; rfl
    refine wpIn_still_tail 17 rfl (by kernel_rfl) (by kernel_rfl) (fun ⟨_, _, h⟩ => h) ?_
    change wpStill _ _ W1.drew (fun a' => wpList _ _ _ _ a' W1.drew) _ _
    have hdr : Below W1.heap.size W1 W1.drew := below_drew (Below.refl _ _)
    have hko := KeepsOthers.drew W1
    revert hdr hko
    generalize W1.drew = Wd
    intro hdr hko
    have hu4 : Boxed Wd (w.heap.size + 1 + 1) 70 (.int .u16 ((zs.foldl (ustep G i) 0 : Nat) : Int)) := (hdr.block _ hu.lt).trans hu
    have hxb4 : Boxed Wd w.heap.size 61 (.pointer (some ⟨b, 0, none⟩)) := (hdr.block _ hxb.lt).trans hxb
    have hib4 : Boxed Wd (w.heap.size + 1) 3 (.int .i64 xi) := (hdr.block _ hib.lt).trans hib
    have hBd := below_step hB hdr
    have hgd := hg.move hBd
    obtain ⟨An, cn, hcn, _, hCn⟩ := hgd.needs
    obtain ⟨Ab, cb, hcb, _, hCb⟩ := hgd.below
    have hnl := ok.nl
    have hbl := ok.bl
    have hxi := HI.out
    have p1 : 0 ≤ xi := by omega
    have q1 : xi < (G.needs.length : Int) := by omega
    have p2 : 0 ≤ x := by omega
    have q2 : x < (G.below.length : Int) := by omega
    obtain ⟨adn, e1, hxn⟩ := Kd.at_int hCn xi p1 q1
    obtain ⟨adb, e2, hxbl⟩ := Kd.at_int hCb x p2 q2
    subst e1
    subst e2
    rw [rd_up (i := i) hxi, HS.out] at hxn
    rw [rd_up (i := k0) hxk] at hxbl
    have hbk := getD_lt ok.bb k0
    generalize G.below.getD k0 0 = sb at hxbl hbk hstep
    have hand := and_eq (a := s) (b := sb) (Nat.lt_of_lt_of_le hsi h256) (Nat.lt_of_lt_of_le hbk h256)
    have handlt : s &&& sb < 2 ^ G.tasks.length := Nat.lt_of_le_of_lt Nat.and_le_left hsi
    generalize hr2_ : s &&& sb = r2 at hand handlt hstep
    generalize hso : zs.foldl (ustep G i) 0 = so at hu4 hofold hstep
    have hor := or_eq (a := so) (b := r2) (Nat.lt_of_lt_of_le hofold h256) (Nat.lt_of_lt_of_le handlt h256)
    generalize so ||| r2 = r3 at hor hstep
    replace p1 := eq_true p1
    replace q1 := eq_true q1
    replace p2 := eq_true p2
    replace q2 := eq_true q2
    have hcu := hu4.cell
    have hfu := hu4.frozen
    have hcx := hxb4.cell
    have hci := hib4.cell
    have HX := Aside0.mk hxk
    have HST := Aside0.mk hstep
    clear hxk hx hnl hbl hxi hr2_ hso hstep hgd hCn hCb hlt1
    simp only [List.take_succ_cons, List.take_zero, List.drop_succ_cons, List.drop_zero]
    repeat still_step
    refine wpStill_nil ?_
    go_wp2
    have hgr := grownBy_setCell' Wd (w.heap.size + 1 + 1) (.int .u16 (r3 : Int))
    refine ⟨(hko.trans (KeepsOthers.setCell _ _ _)).from _, zs ++ [k0], ?_, ?_, ?_, ?_, ?_, ?_⟩
    · rw [HX.out]; simp [up]
    · rw [HST.out]; exact hu4.set _
    · exact hxb4.kept hgr (fun e => by injection e with e; omega)
    · exact hib4.kept hgr (fun e => by injection e with e; omega)
    · exact below_put hgr hBd (Nat.le_refl _) (by omega)
    · have h1 := hgr.size; have h3 := hdr.size; omega
  case done =>
    rintro D W2 hD ⟨zs, hzs, hu, hxb, hib, hB, hsz⟩ hk
    obtain rfl : elemsN s = zs := up_inj hzs
    have hm := (Marks.nil w.heap.size w5.heap.size W2).cons hD (by omega) hk
    rw [← HU.out] at hu
    have hcu := hu.cell
    clear hzs hk
    go_wp2
    refine leave_ret hm (fun W => results_tmp rfl _ _ _) ?_
    intro W' ht
    exact ⟨rfl, ht.below hB (Nat.le_refl _) (Nat.le_refl _)⟩
end Go.Proofs.YtekajandipdlhaaDoor.Core
end
section
set_option linter.unusedVariables false
set_option linter.unusedSimpArgs false
namespace Go.Proofs.YtekajandipdlhaaDoor.Core
open Go Go.RowKit Go.Shelf Go.Proofs.YtekajandipdlhaaDoorW.PrintWords Go.Proofs.YtekajandipdlhaaDoorW.PrintLast Go.Proofs.YtekajandipdlhaaDoorW.PrintMore Go.Proofs.YtekajandipdlhaaDoor.P
attribute [local go_sem] Oper.semAt_some wide_fn wide_depth
/-- All needs of the set's tasks are in it. -/
def closedD (N : List Nat) (s : Nat) : Bool := (elemsN s).all fun i => decide (sub (N.getD i 0) s = 0)
/-- The world behind the three results' boxes. -/
structure DW (w w0 : World) : Prop where
  eq : w0 = ((w.alloc (.cells #[.pointer none] 61)).alloc (.cells #[.int .u16 0] 70)).alloc (.cells #[.bool false] 4)
  r0 : Boxed w0 w.heap.size 61 (.pointer none)
  r1 : Boxed w0 (w.heap.size + 1) 70 (.int .u16 0)
  r2 : Boxed w0 (w.heap.size + 1 + 1) 4 (.bool false)
  below : Below w.heap.size w w0
  size : w0.heap.size = w.heap.size + 1 + 1 + 1
/-- Behind a call that leaves the elder blocks alone, and a further box. -/
theorem DW.on {w w0 w1 : World} (h : DW w w0) (hB : Below w0.heap.size w0 w1) : Boxed w1 w.heap.size 61 (.pointer none) ∧ Boxed w1 (w.heap.size + 1) 70 (.int .u16 0) ∧ Boxed w1 (w.heap.size + 1 + 1) 4 (.bool false) ∧ Below w.heap.size w w1 :=
  ⟨(hB.block _ h.r0.lt).trans h.r0, (hB.block _ h.r1.lt).trans h.r1, (hB.block _ h.r2.lt).trans h.r2, below_step h.below hB⟩
/-- The three results' boxes, and those of the graph and the set; what graphOf made stays. -/
structure DI (w w1 : World) (bx bs b s : Nat) (W : World) : Prop where
  r0 : Boxed W w.heap.size 61 (.pointer none)
  r1 : Boxed W (w.heap.size + 1) 70 (.int .u16 0)
  r2 : Boxed W (w.heap.size + 1 + 1) 4 (.bool false)
  x : Boxed W bx 61 (.pointer (some ⟨b, 0, none⟩))
  s : Boxed W bs 70 (.int .u16 (s : Int))
  below : Below w.heap.size w W
  keep : ∀ k, w.heap.size + 1 + 1 + 1 ≤ k → k < w1.heap.size → W.heap[k]? = w1.heap[k]?
  size : w1.heap.size ≤ W.heap.size
theorem DI.move {w w1 : World} {bx bs b s : Nat} {W W' : World} (h : DI w w1 bx bs b s W) (hb : Below W.heap.size W W') : DI w w1 bx bs b s W' :=
  ⟨(hb.block _ h.r0.lt).trans h.r0, (hb.block _ h.r1.lt).trans h.r1, (hb.block _ h.r2.lt).trans h.r2, (hb.block _ h.x.lt).trans h.x, (hb.block _ h.s.lt).trans h.s, below_step h.below hb,
    fun k h1 h2 => (hb.block k (Nat.lt_of_lt_of_le h2 h.size)).trans (h.keep k h1 h2), Nat.le_trans h.size hb.size⟩
theorem DI.tame {w w1 : World} {bx bs b s B : Nat} {W W' : World} (h : DI w w1 bx bs b s W) (hw : w.heap.size ≤ B) (hB : w1.heap.size ≤ B) (ht : Tame B W W') : DI w w1 bx bs b s W' :=
  ⟨ht.boxed h.r0, ht.boxed h.r1, ht.boxed h.r2, ht.boxed h.x, ht.boxed h.s, ht.below h.below (Nat.le_refl _) hw,
    fun k h1 h2 => (ht.block k (Nat.lt_of_lt_of_le h2 h.size) (.inl (Nat.lt_of_lt_of_le h2 hB))).trans (h.keep k h1 h2), Nat.le_trans h.size ht.size⟩
end Go.Proofs.YtekajandipdlhaaDoor.Core
end
section
set_option linter.unusedVariables false
set_option linter.unusedSimpArgs false
namespace Go.Proofs.YtekajandipdlhaaDoor.Core
open Go Go.RowKit Go.Proofs.YtekajandipdlhaaDoorW.PrintWords Go.Proofs.YtekajandipdlhaaDoorW.PrintMore Go.Proofs.YtekajandipdlhaaDoor.P
theorem VG.list_bit {g : List Tk} {G : GD} (v : VG g G) {s : Nat} (hs : s < 2 ^ g.length) (i : Nat) : s.testBit i = true ↔ i ∈ elemsN s := by
  rw [mem_elemsN]
  refine ⟨fun h => ⟨?_, h⟩, fun h => h.2⟩
  have h1 := Nat.ge_two_pow_of_testBit h
  have h2 : 2 ^ i < 2 ^ g.length := Nat.lt_of_le_of_lt h1 hs
  have h3 := (Nat.pow_lt_pow_iff_right (by omega : 1 < 2)).1 h2
  have := v.n8
  omega
end Go.Proofs.YtekajandipdlhaaDoor.Core
end
section
set_option linter.unusedVariables false
set_option linter.unusedSimpArgs false
namespace Go.Proofs.YtekajandipdlhaaDoor.Core
open Go Go.RowKit Go.Proofs.YtekajandipdlhaaDoorW.PrintWords
section
variable {F : Fence} {nF : Nat} {P : Program} {ops : Array Oper} {rest : List Oper} {o : Oper} {a : Act} {Q : Exit → Act → World → Prop}
theorem gate_dstIn {N : Tmp} {W : World} (_hN : o.dst = some N) (h : wpListIn F nF P ops Q (o :: rest) a W) : wpListIn F nF P ops Q (o :: rest) a W := h
theorem R_litIn {α : Type} (d : Kd α) {w0 W : World} (base e : Nat) (hgd : o.guard = none) {N : Tmp} (_hd : o.dst = some N) (t : TypeId) (m : Nat) (es : Array (Nat × Operand)) (ho : o.op = .buildSlice t m es) {xs : List α} {inner : List Value} {ok okp : Nat → Prop}
    (hrun : (execOp a.eval o).run P W = .ok (.value (.slice (some ⟨W.heap.size, 0, none⟩) xs.length xs.length)) (W.alloc (.cells inner.toArray e)))
    (hrep : Reps (d.M W base okp) d.sz xs inner) (hok : ∀ k, okp k → ok k) (hfresh : ok W.heap.size) (HB : Below base w0 W) (hbase : base ≤ W.heap.size) (hm : xs.length ≤ 9223372036854775807)
    (h : ∀ v1 w1, d.R e w1 base ok v1 xs → Below base w0 w1 → W.grownBy w1 none → (∃ b, v1.ownBlock = some b ∧ W.heap.size ≤ b) → wpListIn F nF P ops Q rest (a.put o.dst v1) w1) : wpListIn F nF P ops Q (o :: rest) a W := by
  refine wpListIn_plain hgd fun K hK => ?_
  unfold Oper.wpIn
  refine ⟨by simp [Oper.about, ho], ?_⟩
  rw [Oper.semAt_plain F _ _ (by rw [ho]; intro c hc'; cases hc'), hrun]
  refine hK _ _ (h _ _ ⟨fun k hk => ?_, inner, ?_, ?_⟩ (HB.alloc hbase _) (World.grownBy_alloc W _ none) ⟨W.heap.size, by simp [Value.ownBlock], Nat.le_refl _⟩)
  · have : W.heap.size = k := by simpa [Value.ownBlock] using hk
    subst this
    exact hfresh
  · have h2 := World.ownsRow_lit (base := base) (e := e) (size := d.sz) W inner.toArray xs.length hbase (by simpa [maxLen] using hm) (by simpa using hrep.1)
    simpa using h2
  · refine hrep.imp_ (fun p c hp => d.M_mono (fun k hk => ⟨hok k hk.1, fun he => ?_⟩) (Kd.M_below (d.M_bound hp) (below_alloc (Below.refl _ _) _)))
    have h3 : k = W.heap.size := by simpa [Value.ownBlock] using he
    have := hk.2.2.1
    omega
theorem R_appendIn {α : Type} (d : Kd α) {w0 W : World} (base : Nat) (hgd : o.guard = none) (s x : Operand) (t e : TypeId) (z : Value) (bytes : Nat)
    (ho : o.op = .call { callee := .builtin .append, args := #[s, x], argTypes := #[t, t] })
    (ht : P.underlying t = some (.slice e)) (hinfo : (P.info? e).map (fun i => (i.zero, i.size, i.bytes)) = some (some z, d.sz, bytes)) (hz : z.cells.size = d.sz) (hs0 : 0 < d.sz) (hb0 : 0 < bytes)
    (v : Value) (xs : List α) (p : α) (cs : List Value) (ok okp : Nat → Prop) (hs : a.eval s = v) (hx : a.eval x = .slice (some ⟨W.heap.size, 0, none⟩) 1 1) (hp : d.M W base okp p cs) (hokp : ∀ k, okp k → ok k ∧ some k ≠ v.ownBlock) (hfresh : ∀ k, W.heap.size ≤ k → ok k)
    (HO : d.R e W base ok v xs) (HB : Below base w0 W) (hbase : base ≤ W.heap.size) (hl : (xs.length + 1) * bytes ≤ 140737488355328)
    (h : ∀ v1 w1, d.R e w1 base ok v1 (xs ++ [p]) → Below base w0 w1 → W.grownBy w1 v.ownBlock → (v1.ownBlock = v.ownBlock ∨ ∃ b, v1.ownBlock = some b ∧ W.heap.size ≤ b) → wpListIn F nF P ops Q rest (a.put o.dst v1) w1) :
    wpListIn F nF P ops Q (o :: rest) a (W.alloc (.cells cs.toArray e)) := by
  obtain ⟨h0, inner, hown, hr⟩ := HO
  obtain ⟨i0, hi, hzz⟩ := Option.map_eq_some_iff.1 hinfo
  simp only [Prod.mk.injEq] at hzz
  obtain ⟨hz0, hz1, hz2⟩ := hzz
  have hlen : xs.length + 1 ≤ 140737488355328 := Nat.le_trans (Nat.le_mul_of_pos_right _ hb0) hl
  obtain ⟨v1, w1, hrn, hown1, hg, _, hat⟩ := run_append_own_at (P := P) (W.alloc (.cells cs.toArray e)) base t o.type e i0 z d.sz bytes ht hi hz0 hz1 hz2 hz hs0 v xs.length inner (hown.alloc _) ⟨W.heap.size, 0, none⟩ 1 1 cs (by rw [d.K_len (d.K_of_M hp)]; simp)
    (by simpa using World.news_of_block (cs := cs.toArray) (t := e) (fr := (0, 0)) (heap_alloc_new W (.cells cs.toArray e))) (d.K_one (d.K_of_M hp)) (by simp only [maxLen]; omega) hl (by simp; omega)
  have hg1 := World.grownBy.trans (World.grownBy_alloc W (.cells cs.toArray e) v.ownBlock) hg
  have hat1 : v1.ownBlock = v.ownBlock ∨ ∃ b, v1.ownBlock = some b ∧ W.heap.size ≤ b := hat.imp id (fun h => ⟨_, h, by simp⟩)
  have hfin := h v1 w1 (Kd.R_appended h0 hr hp hokp hfresh hown1 hg1 hat1) ((HB.alloc hbase _).grown hg (by simp; omega) (own_base hown)) hg1 hat1
  refine wpListIn_plain hgd fun K hK => ?_
  unfold Oper.wpIn
  refine ⟨by simp [Oper.about, ho, resolve, Target.leads, Sem.run_pure], ?_⟩
  rw [Oper.semAt_plain F _ _ (by rw [ho]; intro c hc'; cases hc')]
  simp [execOp, ho, resolve, invoke, builtin, hs, hx, hrn, Result.andThen]
  exact hK _ _ hfin
theorem S_appendIn {α : Type} (d : Kd α) {w0 W : World} (base : Nat) (hgd : o.guard = none) (s x : Operand) (t e : TypeId) (z : Value) (bytes : Nat)
    (ho : o.op = .call { callee := .builtin .append, args := #[s, x], argTypes := #[t, t] })
    (ht : P.underlying t = some (.slice e)) (hinfo : (P.info? e).map (fun i => (i.zero, i.size, i.bytes)) = some (some z, d.sz, bytes)) (hz : z.cells.size = d.sz) (hs0 : 0 < d.sz) (hb0 : 0 < bytes)
    (v : Value) (xs : List α) (p : α) (cs : List Value) (ok okp : Nat → Prop) (hs : a.eval s = v) (hx : a.eval x = .slice (some ⟨W.heap.size, 0, none⟩) 1 1) (hp : d.M W base okp p cs) (hokp : ∀ k, okp k → ok k ∧ some k ≠ v.ownBlock) (hfresh : ∀ k, W.heap.size ≤ k → ok k)
    (HO : Kd.S d e W base (fun k => ok k ∧ ¬ okp k) v xs) (HB : Below base w0 W) (hbase : base ≤ W.heap.size) (hl : (xs.length + 1) * bytes ≤ 140737488355328)
    (h : ∀ v1 w1, Kd.S d e w1 base ok v1 (xs ++ [p]) → Below base w0 w1 → W.grownBy w1 v.ownBlock → (v1.ownBlock = v.ownBlock ∨ ∃ b, v1.ownBlock = some b ∧ W.heap.size ≤ b) → wpListIn F nF P ops Q rest (a.put o.dst v1) w1) :
    wpListIn F nF P ops Q (o :: rest) a (W.alloc (.cells cs.toArray e)) := by
  obtain ⟨f, hf, hR⟩ := Kd.S_tag HO xs.length okp (fun _ hk h2 => h2.2 hk)
  refine R_appendIn (Kd.tag f d) base hgd s x t e z bytes ho ht hinfo hz hs0 hb0 v xs.zipIdx (p, xs.length) cs ok okp hs hx (d.M_mono (fun k hk => ⟨hk, hf k hk⟩) hp) hokp hfresh (Kd.R_mono hR (fun _ hk => hk.1)) HB hbase (by rw [List.length_zipIdx]; exact hl) ?_
  intro v1 w1 hr
  rw [← Kd.zip_snoc] at hr
  exact h v1 w1 ⟨f, hr⟩
end
end Go.Proofs.YtekajandipdlhaaDoor.Core
end
section
set_option linter.unusedVariables false
set_option linter.unusedSimpArgs false
namespace Go.Proofs.YtekajandipdlhaaDoor.Core
open Go Go.RowKit Go.Shelf Go.Proofs.YtekajandipdlhaaDoorW.PrintWords Go.Proofs.YtekajandipdlhaaDoorW.PrintLast Go.Proofs.YtekajandipdlhaaDoorW.PrintMore Go.Proofs.YtekajandipdlhaaDoor.P
def uframe (f : Nat → Value) (v3 v5 v20 v21 : Value) : Array Value := #[f 0, f 1, f 2, v3, f 4, v5, f 6, f 7, f 8, f 9, f 10, f 11, f 12, f 13, f 14, f 15, f 16, f 17, f 18, f 19, v20, v21, f 22, f 23, f 24, f 25, f 26, f 27, f 28, f 29, f 30, f 31, f 32, f 33, f 34, f 35, f 36]
theorem uframe_lit {T : Array Value} {v3 v5 v20 v21 : Value} (hs : T.size = 37) (h3 : T[3]? = some v3) (h5 : T[5]? = some v5) (h20 : T[20]? = some v20) (h21 : T[21]? = some v21) : ∃ f, T = uframe f v3 v5 v20 v21 := by
  refine ⟨fun j => T.getD j undef, ?_⟩
  have hT0 : T = ((List.range 37).map fun j => T.getD j undef).toArray := by
    apply Array.ext
    · simp [hs]
    · intro i h1 h2
      simp [Array.getD_eq_getD_getElem?, h1]
  have e (j : Nat) (v : Value) (h : T[j]? = some v) : v = T.getD j undef := by rw [Array.getD_eq_getD_getElem?, h]; rfl
  obtain rfl := e _ _ h3
  obtain rfl := e _ _ h5
  obtain rfl := e _ _ h20
  obtain rfl := e _ _ h21
  exact hT0
/-- A task's useless needs, as pairs. -/
def uRow (i k : Nat) : List Int := [(i : Int), (k : Int)]
def uPairs (G : GD) (i : Nat) : List (List Int) := (elemsN (uselessD G i)).map (uRow i)
def uTo (G : GD) : Nat → List (List Int)
  | 0 => []
  | n + 1 => uTo G n ++ uPairs G n
theorem uPairs_length (G : GD) (i : Nat) : (uPairs G i).length ≤ 8 := by unfold uPairs; rw [List.length_map]; exact elemsN_length _
theorem uTo_length (G : GD) : ∀ n, (uTo G n).length ≤ n * 8
  | 0 => Nat.le_refl _
  | n + 1 => by
    have := uTo_length G n
    have := uPairs_length G n
    rw [uTo, List.length_append]
    omega
def uselessND (g : List Tk) : List (List Int) := match graphD g with
  | none => []
  | some G => uTo G g.length
/-- The row in its box, over a world. -/
def UI (w1 : World) (gb : Nat) (W : World) (rows : List (List Int)) : Prop :=
  (∃ A c, Boxed W gb 24 (.slice A rows.length c) ∧ Kd.S (Kd.slice 3 (Kd.int .i64)) 35 W w1.heap.size (fun _ => True) (.slice A rows.length c) rows) ∧ Below w1.heap.size w1 W
theorem UI.move {w1 : World} {gb : Nat} {W W' : World} {rows : List (List Int)} (h : UI w1 gb W rows) (hb : Below W.heap.size W W') : UI w1 gb W' rows := by
  obtain ⟨⟨A, c, h1, h2⟩, h3⟩ := h
  exact ⟨⟨A, c, (hb.block _ h1.lt).trans h1, Kd.S_below h2 hb⟩, below_step h3 hb⟩
theorem UI.alloc {w1 : World} {gb : Nat} {W : World} {rows : List (List Int)} (h : UI w1 gb W rows) (o : Obj) : UI w1 gb (W.alloc o) rows := h.move (below_alloc (Below.refl _ _) o)
theorem UI.tame {w1 : World} {gb B : Nat} {W W' : World} {rows : List (List Int)} (h : UI w1 gb W rows) (hB : w1.heap.size ≤ B) (ht : Tame B W W') : UI w1 gb W' rows := by
  obtain ⟨⟨A, c, h1, ⟨f, h2⟩⟩, h3⟩ := h
  exact ⟨⟨A, c, ht.boxed h1, ⟨f, ht.R h2⟩⟩, ht.below h3 (Nat.le_refl _) hB⟩
end Go.Proofs.YtekajandipdlhaaDoor.Core
namespace Go.Proofs.YtekajandipdlhaaDoor.P
open Go Go.RowKit Go.Shelf Go.Proofs.YtekajandipdlhaaDoorW.PrintWords Go.Proofs.YtekajandipdlhaaDoorW.PrintLast Go.Proofs.YtekajandipdlhaaDoorW.PrintMore Go.Proofs.YtekajandipdlhaaDoor.Core
attribute [local go_sem] Oper.semAt_some wide_fn wide_depth
def impl_UselessNeeds.f (l0 : List S37) : Option (List (List Int)) := some (uselessND l0)
set_option maxRecDepth 100000 in
set_option maxHeartbeats 1000000 in
theorem impl_UselessNeeds.calls (A0 : Option Addr) (c0 : Nat) (l0 : List S37) (r : List (List Int)) (w : World) (hr0 : Kd.C k37 w A0 l0.length l0) (hc0 : l0.length ≤ c0) (hT : Tab w) (h : impl_UselessNeeds.f l0 = some r) :
    Calls Tryd.prog 18 #[.slice A0 l0.length c0] w fun e w' => ∃ v0_ : Value, e = .returned (v0_) ∧ Kd.S (Kd.slice 3 (Kd.int .i64)) 35 w' w.heap.size (fun _ => True) v0_ r ∧ Below w.heap.size w w' := by
  have hr : r = uselessND l0 := (Option.some.inj h).symm
  subst hr
  clear h
  cases hg : graphD l0 with
  | none =>
    have hcd : uselessND l0 = [] := by unfold uselessND; rw [hg]
    rw [hcd]
    have HG := Aside0.mk (graphOf_none A0 c0 l0 w hT hr0 hc0 hg)
    clear hr0 hT hg hcd
    go_enter Tryd.func18, Tryd.ntmps18
    go_wp2_with (go_at_call 60; refine HG.out.mono ?_; rintro e w' ⟨rfl, hB⟩)
    go_ret
    exact ⟨_, rfl, Kd.S_nil _ _ _ _ _, hB⟩
  | some G =>
    have hcd : uselessND l0 = uTo G G.tasks.length := by unfold uselessND; rw [hg, graphD_tasks hg]
    rw [hcd]
    have HG := Aside0.mk (graphOf_some A0 c0 l0 G w hT hr0 hc0 hg)
    have OK := Aside0.mk (graphD_ok hg)
    have HT := Aside0.mk hT
    clear hr0 hT hg hcd hc0
    refine calls_marks Tryd.func18 rfl ?_
    simp only [Tryd.ntmps18, List.size_toArray, List.length_cons, List.length_nil, Nat.reduceAdd, Nat.reduceSub, Array.replicate_succ, Array.replicate_zero, List.push_toArray, List.append_toArray, List.nil_append, List.cons_append]
    go_wp2_with (first
      | (go_at_call 60; refine HG.out.mono ?_; rintro e w1 ⟨b, rfl, hB, hI⟩; have HB1 := Aside0.mk hB; have HI := Aside0.mk hI; clear hB hI HG)
      | ((with_reducible refine gate_dst (N := 15) rfl ?_); refine Kd.S_lit (Kd.slice 3 (Kd.int .i64)) _ 35 ?hg (N := 15) ?hd (xs := ([] : List (List Int))) (inner := []) (ok := fun _ => True) (okp := fun _ => True) ?hr ?hp (fun _ hk => hk) trivial (Below.refl _ _) (Nat.le_refl _) (by simp) ?_; (case hd => rfl); (case hg => rfl); (case hr => first | (go_simp; done) | (go_simp; rfl)); (case hp => exact (Reps.none _ _)); intro v15 w3 ho hb hg_ hnew_; obtain ⟨Ao, co, eo⟩ := Kd.S_slice ho; subst eo; have HO := Aside0.mk ho; have HB := Aside0.mk hb; clear hg_ hnew_ ho hb)
      | ((with_reducible refine gate_dst (N := 5) rfl ?_); refine box_event ?hg (N := 5) ?hd (cs := #[.slice none 0 0]) (t := 24) ?hr ?_; (case hd => rfl); (case hg => rfl); (case hr => first | (go_simp; done) | (go_simp; rfl)); intro gb hg w4 hbox hb; have n0 := Aside0.mk (Kd.S_below HO.out hb); have n1 := Aside0.mk (below_step HB.out hb); have GE := Aside0.mk (show w1.heap.size ≤ gb by rw [hg]; exact HB.out.size); clear HO HB hb hg; have HO := n0; have HB := n1; have BK := Aside0.mk hbox; clear n0 n1 hbox; have z0 : w4.cell? ⟨gb, 0, none⟩ = some (.slice none 0 0) := (blk_cell BK.out 0).trans rfl; have f0 := blk_frozen BK.out 0)
      | ((with_reducible refine gate_store (t := 24) (p := 5) rfl ?_); refine store_event (t := 24) (p := 5) (v := ?vo) (w1 := w4.setCell ⟨gb, 0, none⟩ (.slice Ao ([] : List (List Int)).length co)) ?hg ?ho ?hn ?hr ?_; (case ho => rfl); (case hg => rfl); (case hn => rfl); (case hr => first | (go_simp; done) | (go_simp; rfl)); intro w5 hw; have hb5 : Below w1.heap.size w1 w5 := (by rw [hw]; exact HB.out.setCell (p := ⟨gb, 0, none⟩) GE.out _); have HU := Aside0.mk (show UI w1 gb w5 (uTo G 0) from ⟨⟨Ao, co, by rw [hw]; exact Boxed.set _ BK.out, by rw [hw]; exact Kd.S_set HO.out BK.out (by decide) 0 _⟩, hb5⟩); have hI5 := HI.out.move hb5; obtain ⟨An, cn, hcn, _, _⟩ := hI5.needs; clear hw hI5 hb5 z0 f0 HO HB BK))
    clear hcn
    rename_i _ _
    have HWL := Aside0.mk (show w.heap.size ≤ w1.heap.size from HB1.out.size)
    refine wp_loop_ghost_k (fun n a W => ∃ i, i + n = G.tasks.length ∧ a.tmps.size = 37 ∧ a.tmps[3]? = some (.pointer (some ⟨b, 0, none⟩)) ∧ a.tmps[5]? = some (.pointer (some ⟨gb, 0, none⟩)) ∧ a.tmps[20]? = some (.int .i64 (G.needs.length : Int)) ∧ a.tmps[21]? = some (.int .i64 (i : Int)) ∧ (∃ hi, Marks w.heap.size hi W a.defers ∧ w.heap.size ≤ hi ∧ hi ≤ W.heap.size) ∧ UI w1 gb W (uTo G i)) G.tasks.length ⟨0, Nat.zero_add _, rfl, rfl, rfl, rfl, rfl, ⟨_, Marks.nil _ w5.heap.size _, Nat.le_trans HB1.out.size HU.out.2.size, Nat.le_refl _⟩, HU.out⟩ ?_
    rintro n ⟨tmps, ds⟩ W ⟨i, hin, hsz, h3, h5, h20, h21, ⟨hi, hM, hlo, hhi⟩, hU⟩ J K hJ hK
    generalize hj : (i : Int) = j at h21
    generalize hnl : (G.needs.length : Int) = nl at h20
    obtain ⟨f, rfl⟩ := uframe_lit hsz h3 h5 h20 h21
    clear hsz h3 h5 h20 h21 HU
    unfold uframe
    have HM := Aside0.mk hM
    have HU := Aside0.mk hU
    have HJ := Aside0.mk (show i + n = G.tasks.length ∧ j = (i : Int) ∧ nl = (G.tasks.length : Int) from ⟨hin, hj.symm, by rw [← hnl, OK.out.nl]⟩)
    have HNL := Aside0.mk (show G.needs.length = G.tasks.length from OK.out.nl)
    clear hM hU hj hnl hin
    cases n with
    | zero =>
      have hlt : decide (j < nl) = false := decide_eq_false (by obtain ⟨e1, e2, e3⟩ := HJ.out; omega)
      have hfin : uTo G i = uTo G G.tasks.length := by rw [show i = G.tasks.length by have := HJ.out.1; omega]
      obtain ⟨⟨A, c, hbx, hS⟩, hBw⟩ := HU.out
      have hcb := hbx.cell
      have HS := Aside0.mk hS
      have HBw := Aside0.mk hBw
      have HF := Aside0.mk hfin
      clear hS hBw hfin
      go_wp2
      refine leave_ret HM.out (fun W => results_tmp rfl _ _ _) ?_
      intro W' ht
      obtain ⟨f2, hS⟩ := HS.out
      exact ⟨_, rfl, by rw [← HF.out]; exact Kd.S_lower ⟨f2, ht.R hS⟩ HWL.out, ht.below (below_step HB1.out HBw.out) (Nat.le_refl _) (Nat.le_refl _)⟩
    | succ n =>
      have hlt : decide (j < nl) = true := decide_eq_true (by obtain ⟨e1, e2, e3⟩ := HJ.out; omega)
      have hil : i < G.tasks.length := by have := HJ.out.1; omega
      have HUC := fun W hT hg => useless_calls b G i W hT hg OK.out hil
      rw [← HJ.out.2.1] at HUC
      have hul := uselessD_lt OK.out i
      have hst : uTo G (i + 1) = uTo G i ++ (elemsN (uselessD G i)).map (uRow i) := rfl
      generalize uselessD G i = u at HUC hul hst
      have h8 := OK.out.n8
      have hul8 : u < 256 := Nat.lt_of_lt_of_le hul (pow8 h8)
      have HUC := Aside0.mk HUC
      have HST := Aside0.mk hst
      have HRL := Aside0.mk (show (uTo G i).length ≤ 64 from Nat.le_trans (uTo_length G i) (by omega))
      clear hst hul h8
      go_wp2_with (first
        | ((with_reducible refine gate_dst (N := 6) rfl ?_); refine box_event ?hg (N := 6) ?hd (cs := #[.int .i64 0]) (t := 3) ?hr ?_; (case hd => rfl); (case hg => rfl); (case hr => first | (go_simp; done) | (go_simp; rfl)); intro gi hg w6 hbox hb; have GEI := Aside0.mk (show W.heap.size ≤ gi by rw [hg]; exact Nat.le_refl _); have HX := Aside0.mk hb; clear hb hg; have BK := Aside0.mk hbox; clear hbox; have z0 : w6.cell? ⟨gi, 0, none⟩ = some (.int .i64 0) := (blk_cell BK.out 0).trans rfl; have f0 := blk_frozen BK.out 0)
        | ((with_reducible refine gate_store (t := 3) (p := 6) rfl ?_); go_loud (refine store_event (t := 3) (p := 6) (v := ?vo7) (w1 := w6.setCell ⟨gi, 0, none⟩ (.int .i64 j)) ?hg ?ho ?hn ?hr ?_; (case ho => rfl); (case hg => rfl); (case hn => rfl); (case hr => first | (go_simp; done) | (go_simp; rfl)); intro w7 hw; have hb := (show Below W.heap.size W w7 by rw [hw]; exact HX.out.setCell (p := ⟨gi, 0, none⟩) GEI.out _); have hbi := (show Boxed w7 gi 3 (.int .i64 j) by rw [hw]; exact Boxed.set _ BK.out); have HNE := Aside0.mk (show gb ≠ gi by (obtain ⟨⟨A, c, hbx, _⟩, _⟩ := HU.out; have h1 := hbx.lt; have h2 := GEI.out; omega)); have HU7 := HU.out.move hb; have HM7 := HM.out.below hb; have HZ := Aside0.mk hb.size; clear hw z0 f0 BK HX HU HM hb; have HU := Aside0.mk HU7; have HM := Aside0.mk HM7; clear HU7 HM7; have HBI := Aside0.mk hbi; have hci := hbi.cell; clear hbi))
        | (go_at_call 61; go_loud (refine (HUC.out w7 (HT.out.of (below_step HB1.out HU.out.2)) (HI.out.move HU.out.2)).mono ?_; rintro e w8 ⟨rfl, hb⟩; clear hci; have HU7 := HU.out.move hb; have HM7 := HM.out.below hb; have hbi7 := (hb.block _ HBI.out.lt).trans HBI.out; have hz7 := Nat.le_trans HZ.out hb.size; clear HU HM HBI HZ hb HUC; have HU := Aside0.mk HU7; have HM := Aside0.mk HM7; have HBI := Aside0.mk (show Boxed w8 gi 3 (.int .i64 j) from hbi7); have HZ := Aside0.mk hz7; clear HU7 HM7 hbi7 hz7))
        | (go_at_call 62; refine (all_calls u _).mono ?_; rintro e w' ⟨rfl, rfl⟩))
      have hs3 := Boxed.new w8 70 (.int .u16 (u : Int))
      have hU3 := HU.out.alloc (.cells #[.int .u16 (u : Int)] 70)
      have hbi3 := HBI.out.alloc (.cells #[.int .u16 (u : Int)] 70)
      have hM3 := HM.out.below ((Below.refl w8.heap.size w8).alloc (Nat.le_refl _) (.cells #[.int .u16 (u : Int)] 70))
      have hsz3 : (w8.alloc (.cells #[.int .u16 (u : Int)] 70)).heap.size = w8.heap.size + 1 := by simp
      have hz := HZ.out
      clear HU HM HBI HZ
      revert hs3 hbi3 hU3 hM3 hsz3
      generalize w8.alloc (.cells #[.int .u16 (u : Int)] 70) = Wb
      intro hs3 hU3 hbi3 hM3 hsz3
      have hb1 : w1.heap.size ≤ Wb.heap.size := hU3.2.size
      have hb2 : hi ≤ Wb.heap.size := by omega
      refine wp_rangeSet Tab.tame (w := Wb) (w0 := Wb) (p := 28) (d := 7) rfl (enters_of Tryd.func101 (by kernel_rfl) rfl)
        (all_seq w8.heap.size u hul8 Wb (HT.out.of (below_step HB1.out hU3.2)) hs3.cell) (Below.refl _ _) (by simp)
        (fun ys W' => ∃ zs : List Nat, ys = up zs ∧ UI w1 gb W' (uTo G i ++ zs.map (uRow i)) ∧ Boxed W' gi 3 (.int .i64 j) ∧ Marks w.heap.size hi W' ds ∧ Wb.heap.size ≤ W'.heap.size) (fun _ _ _ => False)
        (ownFrom_tame (fun ys W' W'' ht ⟨zs, a, b, c, d, e⟩ => ⟨zs, a, b.tame hb1 ht, ht.boxed c, d.tame ht hb2, Nat.le_trans e ht.size⟩)) (fun _ => ownFrom_tame (fun _ _ _ _ h => h))
        ⟨[], rfl, by rw [List.map_nil, List.append_nil]; exact hU3, hbi3, hM3, Nat.le_refl _⟩ (fun ys W' ⟨_, _, b, _⟩ => HT.out.of (below_step HB1.out b.2)) ?body1 ?done1 (fun _ _ _ _ _ h _ => h.elim)
      case body1 =>
        rintro l pre1 x Wd hx ⟨zs, rfl, hU4, hbi4, hM4, hsz4⟩ hlt1
        obtain ⟨k0, hxk, hk0, _⟩ := mem_elems.1 hx
        have hzl16 : zs.length < 16 := by rwa [up_length] at hlt1
        have hRl : (uTo G i ++ zs.map (uRow i)).length ≤ 100 := by rw [List.length_append, List.length_map]; have := HRL.out; omega
        have hstep : uTo G i ++ (zs ++ [k0]).map (uRow i) = (uTo G i ++ zs.map (uRow i)) ++ [[j, x]] := by rw [List.map_append, ← List.append_assoc, hxk, HJ.out.2.1]; rfl
        generalize uTo G i ++ zs.map (uRow i) = R at hU4 hRl hstep
        obtain ⟨⟨A, c, hbx, hS⟩, hBw⟩ := hU4
        have hcu := hbx.cell
        have hci := hbi4.cell
        have HS := Aside0.mk hS
        have HBX := Aside0.mk hbx
        have HBW := Aside0.mk hBw
        have HBI := Aside0.mk hbi4
        have HM := Aside0.mk hM4
        have HXK := Aside0.mk hxk
        have HSTEP := Aside0.mk hstep
        have HRl := Aside0.mk hRl
        have HSZ := Aside0.mk hsz4
        have HKO := Aside0.mk (KeepsOthers.refl Wd)
        clear hS hbx hBw hbi4 hM4 hxk hstep hRl hsz4 hlt1 hlt hx hzl16 hbi3 hU3 hM3 hs3
        gi_wp2_with (first
          | ((with_reducible refine gate_dstIn (N := 32) rfl ?_); go_loud (refine R_litIn (Kd.int .i64) _ 3 ?hg (N := 32) ?hd _ _ _ rfl (xs := [j, x]) (inner := [.int .i64 j, .int .i64 x]) (ok := fun _ => True) (okp := fun _ => True) ?hr ?hp (fun _ hk => hk) trivial (Below.refl _ _) (Nat.le_refl _) (by simp) ?_; (case hd => rfl); (case hg => rfl); (case hr => first | (go_simp; done) | (go_simp; rfl)); (case hp => exact Kd.reps_scalar (enc := Value.int .i64) [j, x]); intro v32 w9 ho hb hg_ hnew_; obtain ⟨A9, c9, e9⟩ := Kd.R_slice ho; rw [show ([j, x] : List Int).length = 2 from rfl] at e9; subst e9; have HL := Aside0.mk ho; have HS9 := Aside0.mk (Kd.S_old HS.out hb); have HB9 := Aside0.mk (below_step HBW.out hb); have HBX9 := Aside0.mk (show Boxed w9 gb 24 (.slice A R.length c) from (hb.block _ HBX.out.lt).trans HBX.out); have HBI9 := Aside0.mk (show Boxed w9 gi 3 (.int .i64 j) from (hb.block _ HBI.out.lt).trans HBI.out); have HM9 := Aside0.mk (HM.out.below hb); have HKO9 := Aside0.mk (HKO.out.trans (keepsOthers_below hb)); have HSZ9 := Aside0.mk (Nat.le_trans HSZ.out hb.size); have HZD := Aside0.mk (show w1.heap.size ≤ Wd.heap.size from HBW.out.size); clear hg_ hnew_ ho hb HBW HBX HBI HM HKO HSZ hcu hci))
          | (gi_at_builtin; go_loud (refine S_appendIn (Kd.slice 3 (Kd.int .i64)) (w0 := w1) w1.heap.size rfl (.tmp 29) (.tmp 33) 24 35 (.slice none 0 0) 24 rfl Tryd.underlying24 info35 rfl (by decide) (by omega) (.slice A R.length c) R [j, x] [.slice A9 2 c9] (fun _ => True) (fun k_ => some k_ = (.slice A9 2 c9 : Value).ownBlock) rfl rfl ?aP ?aH ?aF ?aO ?aB ?aS ?aL ?_; (case aP => exact Kd.M_row (Kd.R_lower (Kd.R_tight rfl HL.out) HZD.out)); (case aH => exact fun k hk => ⟨trivial, fun e => by have h1 := Kd.R_base HL.out k hk.symm; have h2 := Kd.S_lt HS.out k e.symm; omega⟩); (case aF => exact fun _ _ => trivial); (case aO => exact Kd.S_mono HS9.out (fun k hk => ⟨trivial, fun e => by have h1 := Kd.R_base HL.out k e.symm; have h2 := hk.2; omega⟩)); (case aB => exact HB9.out); (case aS => exact HB9.out.size); (case aL => have h1 := HRl.out; omega); intro v10 w10 ho hb hg hat; obtain ⟨A10, c10, e10⟩ := Kd.S_slice ho; rw [show (R ++ [[j, x]]).length = R.length + 1 by simp] at e10; subst e10; have hty := Kd.S_typed HS9.out; have hbx := HBX9.out.kept hg (fun e => by obtain ⟨cs, hc⟩ := hty gb e.symm; have h1 := HBX9.out.symm.trans hc; injection h1 with h1; injection h1 with _ h2; exact absurd h2 (by decide)); have hbi := HBI9.out.kept hg (fun e => by obtain ⟨cs, hc⟩ := hty gi e.symm; have h1 := HBI9.out.symm.trans hc; injection h1 with h1; injection h1 with _ h2; exact absurd h2 (by decide)); have HM10 := Aside0.mk (HM9.out.grow hg (fun k hk => by obtain ⟨cs, hc⟩ := hty k hk; exact ⟨_, _, hc⟩)); have HKO10 := Aside0.mk (HKO9.out.trans (KeepsOthers.of_grownBy hg (fun jj o ej hj => by obtain ⟨cs, hc⟩ := hty jj ej; rw [hc] at hj; cases hj; rfl))); have HSZ10 := Aside0.mk (Nat.le_trans HSZ9.out hg.size); have HS10 := Aside0.mk ho; have HB10 := Aside0.mk hb; have HBX10 := Aside0.mk hbx; have HBI10 := Aside0.mk hbi; have hcb := hbx.cell; have hfb := hbx.frozen; clear hty hbx hbi ho hb hg hat HS9 HB9 HBX9 HBI9 HM9 HKO9 HSZ9 HL)))
        refine ⟨(HKO10.out.trans (KeepsOthers.setCell _ _ _)).from _, zs ++ [k0], by rw [HXK.out]; simp [Core.up], ?_, ?_, ?_, ?_⟩
        · rw [HSTEP.out]
          refine ⟨⟨A10, c10, ?_, ?_⟩, HB10.out.setCell (p := ⟨gb, 0, none⟩) GE.out _⟩
          · rw [show (R ++ [[j, x]]).length = R.length + 1 by simp]
            exact HBX10.out.set _
          · rw [show (R ++ [[j, x]]).length = R.length + 1 by simp]
            exact Kd.S_set HS10.out HBX10.out (by decide) 0 _
        · exact HBI10.out.kept (grownBy_setCell' _ _ _) (fun e => by injection e with e; exact HNE.out e.symm)
        · exact HM10.out.grow (grownBy_setCell' _ _ _) (fun k hk => ⟨_, _, by cases hk; exact HBX10.out⟩)
        · exact Nat.le_trans HSZ10.out (KeepsOthers.setCell _ _ _).size
      case done1 =>
        rintro D W2 hD ⟨zs, hzs, hU4, hbi4, hM4, hsz4⟩ hk
        obtain rfl : elemsN u = zs := up_inj hzs
        have hM5 := hM4.cons (Nat.le_trans hb2 hD) hlo hk
        rw [← HST.out] at hU4
        have HU5 := Aside0.mk hU4
        have HM5 := Aside0.mk hM5
        clear hzs hk hs3 hbi3 hU3 hM3 hU4 hM5 hM4
        go_wp2
        have hj1 : wrap64 (j + 1) = ((i + 1 : Nat) : Int) := by
          have h1 := HJ.out
          have h2 := OK.out.n8
          rw [w64 (n := j + 1) (by omega) (by omega)]
          omega
        exact ⟨n, by omega, hJ _ _ _ ⟨i + 1, by have := HJ.out.1; omega, rfl, rfl, rfl, by rw [HNL.out, ← HJ.out.2.2]; rfl, by rw [← hj1]; rfl, ⟨_, HM5.out, Nat.le_trans HWL.out HU5.out.2.size, Nat.le_refl _⟩, HU5.out⟩⟩
end Go.Proofs.YtekajandipdlhaaDoor.P
end
section
set_option linter.unusedVariables false
set_option linter.unusedSimpArgs false
namespace Go.Proofs.YtekajandipdlhaaDoor.Core
open Go Go.RowKit Go.Shelf Go.Proofs.YtekajandipdlhaaDoorW.PrintWords Go.Proofs.YtekajandipdlhaaDoorW.PrintLast Go.Proofs.YtekajandipdlhaaDoorW.PrintMore Go.Proofs.YtekajandipdlhaaDoor.P
attribute [local go_sem] Oper.semAt_some wide_fn wide_depth max2_int max_two
def icells (L : List Nat) : Array Value := (L.map fun (x : Nat) => Value.int .i64 (x : Int)).toArray
theorem iset {W : World} {p t : Nat} {L : List Nat} (h : W.heap[p]? = some (.cells (icells L) t (0, 0))) (i x : Nat) : (W.setCell ⟨p, i, none⟩ (.int .i64 (x : Int))).heap[p]? = some (.cells (icells (L.set i x)) t (0, 0)) := by
  rw [blk_set h i _]
  congr 2
  apply Array.ext'
  simp [icells, List.map_set]
/-- What the loops hold: the row, its variable; the rest as it was. -/
structure SI (w0 : World) (p pO n : Nat) (W : World) (L : List Nat) : Prop where
  row : W.heap[p]? = some (.cells (icells L) 3 (0, 0))
  box : Boxed W pO 35 (.slice (some ⟨p, 0, none⟩) n n)
  below : Below w0.heap.size w0 W
theorem SI.tame {w0 W W' : World} {p pO n B : Nat} {L : List Nat} (h : SI w0 p pO n W L) (hb : w0.heap.size ≤ B) (ht : Tame B W W') : SI w0 p pO n W' L := ⟨ht.cells h.row, ht.boxed h.box, ht.below h.below (Nat.le_refl _) hb⟩
theorem SI.move {w0 W W' : World} {p pO n : Nat} {L : List Nat} (h : SI w0 p pO n W L) (hb : Below W.heap.size W W') : SI w0 p pO n W' L := ⟨(hb.block _ (cells_lt h.row)).trans h.row, (hb.block _ h.box.lt).trans h.box, below_step h.below hb⟩
theorem SI.alloc {w0 W : World} {p pO n : Nat} {L : List Nat} (h : SI w0 p pO n W L) (o : Obj) : SI w0 p pO n (W.alloc o) L := h.move ((Below.refl W.heap.size W).alloc (Nat.le_refl _) o)
theorem SI.set {w0 W : World} {p pO n : Nat} {L : List Nat} (h : SI w0 p pO n W L) (hp : w0.heap.size ≤ p) (hne : pO ≠ p) (i x : Nat) : SI w0 p pO n (W.setCell ⟨p, i, none⟩ (.int .i64 (x : Int))) (L.set i x) := ⟨iset h.row i x, (sother _ hne).trans h.box, h.below.setCell (p := ⟨p, i, none⟩) hp _⟩
end Go.Proofs.YtekajandipdlhaaDoor.Core
end
section
set_option linter.unusedVariables false
set_option linter.unusedSimpArgs false
namespace Go.Proofs.YtekajandipdlhaaDoor.Core
open Go Go.RowKit Go.Proofs.YtekajandipdlhaaDoorW.PrintWords Go.Proofs.YtekajandipdlhaaDoorW.PrintMore Go.Proofs.YtekajandipdlhaaDoor.P
theorem VG.len {g : List Tk} {G : GD} (v : VG g G) : G.order.length = g.length := by
  have := v.ord.len
  rw [v.nl, zb_full _ _ (Nat.le_refl _)] at this
  omega
end Go.Proofs.YtekajandipdlhaaDoor.Core
end
section
set_option linter.unusedVariables false
set_option linter.unusedSimpArgs false
namespace Go.Proofs.YtekajandipdlhaaDoor.Core
open Go Go.RowKit Go.Shelf Go.Proofs.YtekajandipdlhaaDoorW.PrintWords Go.Proofs.YtekajandipdlhaaDoorW.PrintLast Go.Proofs.YtekajandipdlhaaDoorW.PrintMore Go.Proofs.YtekajandipdlhaaDoor.P
attribute [local go_sem] Oper.semAt_some wide_fn wide_depth
/-- The answer that some number of rounds gives. -/
noncomputable def lim {α : Type} (f : Nat → Option α) : Option α := open Classical in if h : ∃ k r, f k = some r then some h.choose_spec.choose else none
theorem lim_some {α : Type} {f : Nat → Option α} {r : α} (h : lim f = some r) : ∃ k, f k = some r := by
  unfold lim at h
  by_cases hh : ∃ k r, f k = some r
  · rw [dif_pos hh] at h
    cases h
    exact ⟨_, hh.choose_spec.choose_spec⟩
  · rw [dif_neg hh] at h; cases h
theorem lim_of {α : Type} {f : Nat → Option α} (hm : ∀ k, LeO (f k) (f (k + 1))) {k : Nat} {r : α} (h : f k = some r) : lim f = some r := by
  have hh : ∃ k r, f k = some r := ⟨k, r, h⟩
  have h2 := hh.choose_spec.choose_spec
  unfold lim
  rw [dif_pos hh]
  rcases Nat.le_total k hh.choose with hle | hle
  · have := at_rounds hm hle h
    rw [h2] at this; exact this
  · have := at_rounds hm hle h2
    rw [h] at this; exact this.symm
theorem mkQ (w : World) (base : Nat) (ok : Nat → Prop) (x : Tk) {v1 : Value} (g1 : (Kd.int .i64).Q 3 w base ok v1 x.f1) : k37.M w base ok x [.int .i64 x.f0, v1, .int .i64 x.f2, .int .i64 x.f3] :=
  ⟨[.int .i64 x.f0], [v1, .int .i64 x.f2, .int .i64 x.f3], rfl, rfl, ⟨[v1], [.int .i64 x.f2, .int .i64 x.f3], rfl, ⟨v1, rfl, g1⟩, ⟨[.int .i64 x.f2], [.int .i64 x.f3], rfl, rfl, rfl⟩⟩⟩
theorem S_put0 {W : World} {base gb n cap : Nat} {ok : Nat → Prop} {xs : List Tk} (h : Kd.S k37 37 W base ok (.slice (some ⟨gb, 0, none⟩) n cap) xs) (i : Int) (h0 : 0 ≤ i) (h1 : i < n) :
    (∃ u, W.cell? ⟨gb, i.toNat * 4, none⟩ = some (.int .i64 u)) ∧ W.frozen? ⟨gb, i.toNat * 4, none⟩ = false ∧ ∀ t : Int,
      Kd.S k37 37 (W.setCell ⟨gb, i.toNat * 4, none⟩ (.int .i64 t)) base ok (.slice (some ⟨gb, 0, none⟩) n cap) (xs.set i.toNat { rd_T37 xs i with f0 := t }) ∧ W.grownBy (W.setCell ⟨gb, i.toNat * 4, none⟩ (.int .i64 t)) (some gb) := by
  obtain ⟨oki, c, hcl, hM, hcc, hfr, hoki, hH⟩ := Kd.S_elem (Kd.S_mono (ok' := fun k => ok k ∧ ¬ False) h (fun k hk => ⟨hk, id⟩)) z37 i h0 h1
  obtain ⟨v1, rfl, g1⟩ := k37_openM hM
  refine ⟨⟨_, hcc 0 _ rfl⟩, hfr 0, fun t => ?_⟩
  exact Kd.S_seg (okg := fun _ => False) hH h0 h1 (seg := [.int .i64 t]) (j := 0) (show 0 + 1 ≤ 4 from by decide) (x' := { rd_T37 xs i with f0 := t }) (mkQ _ _ _ { rd_T37 xs i with f0 := t } g1) (fun k hk => .inl hk) (fun k hk => hk.elim)
theorem S_put2 {W : World} {base gb n cap : Nat} {ok : Nat → Prop} {xs : List Tk} (h : Kd.S k37 37 W base ok (.slice (some ⟨gb, 0, none⟩) n cap) xs) (i : Int) (h0 : 0 ≤ i) (h1 : i < n) :
    (∃ u, W.cell? ⟨gb, i.toNat * 4 + 2, none⟩ = some (.int .i64 u)) ∧ W.frozen? ⟨gb, i.toNat * 4 + 2, none⟩ = false ∧ ∀ t : Int,
      Kd.S k37 37 (W.setCell ⟨gb, i.toNat * 4 + 2, none⟩ (.int .i64 t)) base ok (.slice (some ⟨gb, 0, none⟩) n cap) (xs.set i.toNat { rd_T37 xs i with f2 := t }) ∧ W.grownBy (W.setCell ⟨gb, i.toNat * 4 + 2, none⟩ (.int .i64 t)) (some gb) := by
  obtain ⟨oki, c, hcl, hM, hcc, hfr, hoki, hH⟩ := Kd.S_elem (Kd.S_mono (ok' := fun k => ok k ∧ ¬ False) h (fun k hk => ⟨hk, id⟩)) z37 i h0 h1
  obtain ⟨v1, rfl, g1⟩ := k37_openM hM
  refine ⟨⟨_, hcc 2 _ rfl⟩, hfr 2, fun t => ?_⟩
  exact Kd.S_seg (okg := fun _ => False) hH h0 h1 (seg := [.int .i64 t]) (j := 2) (show 2 + 1 ≤ 4 from by decide) (x' := { rd_T37 xs i with f2 := t }) (mkQ _ _ _ { rd_T37 xs i with f2 := t } g1) (fun k hk => .inl hk) (fun k hk => hk.elim)
theorem S_put3 {W : World} {base gb n cap : Nat} {ok : Nat → Prop} {xs : List Tk} (h : Kd.S k37 37 W base ok (.slice (some ⟨gb, 0, none⟩) n cap) xs) (i : Int) (h0 : 0 ≤ i) (h1 : i < n) :
    (∃ u, W.cell? ⟨gb, i.toNat * 4 + 3, none⟩ = some (.int .i64 u)) ∧ W.frozen? ⟨gb, i.toNat * 4 + 3, none⟩ = false ∧ ∀ t : Int,
      Kd.S k37 37 (W.setCell ⟨gb, i.toNat * 4 + 3, none⟩ (.int .i64 t)) base ok (.slice (some ⟨gb, 0, none⟩) n cap) (xs.set i.toNat { rd_T37 xs i with f3 := t }) ∧ W.grownBy (W.setCell ⟨gb, i.toNat * 4 + 3, none⟩ (.int .i64 t)) (some gb) := by
  obtain ⟨oki, c, hcl, hM, hcc, hfr, hoki, hH⟩ := Kd.S_elem (Kd.S_mono (ok' := fun k => ok k ∧ ¬ False) h (fun k hk => ⟨hk, id⟩)) z37 i h0 h1
  obtain ⟨v1, rfl, g1⟩ := k37_openM hM
  refine ⟨⟨_, hcc 3 _ rfl⟩, hfr 3, fun t => ?_⟩
  exact Kd.S_seg (okg := fun _ => False) hH h0 h1 (seg := [.int .i64 t]) (j := 3) (show 3 + 1 ≤ 4 from by decide) (x' := { rd_T37 xs i with f3 := t }) (mkQ _ _ _ { rd_T37 xs i with f3 := t } g1) (fun k hk => .inl hk) (fun k hk => hk.elim)
def spec_anyGraph.fk (k : Nat) (s0 : List Int) (s1 : Int) : Option (List Tk × Int) :=
  (spec_someGraph.f k s0 s1 8).bind fun a =>
  if a.1.length = 0 then some (a.1, a.2) else
  (spec_reader_pick.f k s0 a.2 (a.1.length : Int)).bind fun p =>
  (spec_reader_pick.f k s0 p.2 24).bind fun q =>
  if ¬ (0 ≤ p.1 ∧ p.1 < (a.1.length : Int)) then none else
  if q.1 = 0 then (spec_reader_one.f k s0 q.2 [0, 21, 20]).bind fun t => some (a.1.set p.1.toNat { rd_T37 a.1 p.1 with f0 := t.1 }, t.2)
  else if q.1 = 1 then (spec_reader_pick.f k s0 q.2 (a.1.length : Int)).bind fun b =>
    if (rd_T37 a.1 p.1).f1.length < 1000 then (spec_reader_spoil.f k s0 b.2 ((rd_T37 a.1 p.1).f1 ++ [b.1]) 8).bind fun c => some (a.1.set p.1.toNat { rd_T37 a.1 p.1 with f1 := c.1 }, c.2) else none
  else if q.1 = 2 then (spec_reader_one.f k s0 q.2 [-1, 3]).bind fun t => some (a.1.set p.1.toNat { rd_T37 a.1 p.1 with f2 := t.1 }, t.2)
  else if q.1 = 3 then (spec_reader_one.f k s0 q.2 [0, 5]).bind fun t => some (a.1.set p.1.toNat { rd_T37 a.1 p.1 with f3 := t.1 }, t.2)
  else if q.1 = 4 then (spec_someGraph.f k s0 q.2 8).bind fun b => if a.1.length + b.1.length < 1000 then some (a.1 ++ b.1, b.2) else none
  else some (a.1, q.2)
theorem spec_anyGraph.mono : ∀ a0 a1 k, LeO (spec_anyGraph.fk k a0 a1) (spec_anyGraph.fk (k + 1) a0 a1) := by
  intro a0 a1 k
  unfold spec_anyGraph.fk
  repeat' first
      | (with_reducible exact spec_someGraph.mono _ _ _ _)
      | (with_reducible exact spec_reader_pick.mono _ _ _ _)
      | (with_reducible exact spec_reader_one.mono _ _ _ _)
      | (with_reducible exact spec_reader_spoil.mono _ _ _ _ _)
      | (with_reducible exact LeO.refl _)
      | (with_reducible exact LeO.none _)
      | (with_reducible refine LeO.ite ?_ ?_)
      | (with_reducible refine LeO.bind ?_ (fun _ => ?_))
      | exact LeO.none _
      | refine LeO.ite ?_ ?_
      | refine LeO.bind ?_ (fun _ => ?_)
/-- What anyGraph leaves. -/
def anyPost (w0 w : World) (g : Nat) (s0 : List Int) (r1 : List Tk) (r2 : Int) (e : Ending) (w' : World) : Prop :=
  ∃ v0_ : Value, e = .returned (v0_) ∧ Kd.S k37 37 w' w.heap.size (fun _ => True) v0_ r1 ∧ IsS101 w0 w' g s0 r2 ∧ Below w0.heap.size w0 w' ∧ KeepBut w w' g none
theorem R_lits {w : World} {b base t : Nat} {l : List Int} (h : w.heap[b]? = some (.cells (l.map (Value.int .i64)).toArray t (0, 0))) (hb : base ≤ b) (hl : l.length ≤ maxLen) : (Kd.int .i64).R t w base (fun _ => True) (.slice (some ⟨b, 0, none⟩) l.length l.length) l :=
  row_R (k := .i64) ⟨by simp, .inr ⟨b, l.length, _, rfl, hb, h, Nat.le_refl _, hl, by simp, by simp [List.take_of_length_le]⟩⟩
theorem C_lits {w : World} {b t : Nat} {l : List Int} (h : w.heap[b]? = some (.cells (l.map (Value.int .i64)).toArray t (0, 0))) (hl : l.length ≤ maxLen) : (Kd.int .i64).C w (some ⟨b, 0, none⟩) l.length l :=
  (Kd.R_reads' (R_lits (base := 0) h (Nat.zero_le _) hl)).2.2
set_option maxRecDepth 100000 in
set_option maxHeartbeats 4000000 in
theorem any_empty (k g : Nat) (s0 : List Int) (s1 : Int) (w0 w : World) (hI : IsS101 w0 w g s0 s1) (hB : Below w0.heap.size w0 w) (a2 : Int) (h1 : spec_someGraph.f k s0 s1 8 = some ([], a2)) : Calls Tryd.prog 67 #[.pointer (some ⟨g, 0, none⟩)] w (anyPost w0 w g s0  [] a2) := by
  have A1 := Aside0.mk h1
  clear h1
  obtain ⟨a, ha⟩ : ∃ a : List Tk, a = [] := ⟨_, rfl⟩
  rw [← ha] at A1
  have hlen : (a.length : Int) = 0 := by rw [ha]; rfl
  have HA := Aside0.mk ha
  clear ha
  have hz : ((a.length : Int) == 0) = true := by simp [hlen]
  have HL := Aside0.mk hlen
  clear hlen
  go_enter Tryd.func67, Tryd.ntmps67
  go_wp2_with (go_at_call 103; refine (spec_someGraph.calls k g s0 s1 8 a a2 w0 _ hI hB A1.out).mono ?_; rintro e w1 ⟨v1, rfl, hS1, hI1, hB1, hK1⟩; clear hI hB; obtain ⟨A, c, rfl⟩ := Kd.S_slice hS1)
  go_ret
  exact ⟨_, rfl, by rw [← HA.out]; exact hS1, hI1, hB1, hK1⟩
set_option maxRecDepth 100000 in
set_option maxHeartbeats 4000000 in
theorem any_same (k g : Nat) (s0 : List Int) (s1 : Int) (w0 w : World) (hI : IsS101 w0 w g s0 s1) (hB : Below w0.heap.size w0 w) (a : List Tk) (a2 p p2 q q2 : Int) (hpos : 0 < a.length) (hp0 : 0 ≤ p) (hp1 : p < (a.length : Int)) (h1 : spec_someGraph.f k s0 s1 8 = some (a, a2)) (h2 : spec_reader_pick.f k s0 a2 (a.length : Int) = some (p, p2)) (h3 : spec_reader_pick.f k s0 p2 24 = some (q, q2)) (hq : q ≠ 0 ∧ q ≠ 1 ∧ q ≠ 2 ∧ q ≠ 3 ∧ q ≠ 4) : Calls Tryd.prog 67 #[.pointer (some ⟨g, 0, none⟩)] w (anyPost w0 w g s0  a q2) := by
  have A1 := Aside0.mk h1
  have A2 := Aside0.mk h2
  have A3 := Aside0.mk h3
  clear h1 h2 h3
  have hz : ((a.length : Int) == 0) = false := beq_eq_false_iff_ne.2 (by omega)
  have hglt : g < w.heap.size := hI.lt
  have hq0 : (q == 0) = false := beq_eq_false_iff_ne.2 (by omega)
  have hq1 : (q == 1) = false := beq_eq_false_iff_ne.2 (by omega)
  have hq2 : (q == 2) = false := beq_eq_false_iff_ne.2 (by omega)
  have hq3 : (q == 3) = false := beq_eq_false_iff_ne.2 (by omega)
  have hq4 : (q == 4) = false := beq_eq_false_iff_ne.2 (by omega)
  go_enter Tryd.func67, Tryd.ntmps67
  go_wp2_with (first | (go_at_call 103; refine (spec_someGraph.calls k g s0 s1 8 a a2 w0 _ hI hB A1.out).mono ?_; rintro e w1 ⟨v1, rfl, hS1, hI1, hB1, hK1⟩; clear hI hB; obtain ⟨gb, cap, rfl, hgb, hgl, cells, hcells⟩ := Kd.S_form hS1 hpos) | (go_at_call 104; refine (spec_reader_pick.calls k g s0 a2 (a.length : Int) p p2 w0 _ hI1 hB1 A2.out).mono ?_; rintro e w2 ⟨rfl, hI2, hB2, hK2⟩; clear hI1 hB1) | (go_at_call 104; refine (spec_reader_pick.calls k g s0 p2 24 q q2 w0 _ hI2 hB2 A3.out).mono ?_; rintro e w3 ⟨rfl, hI3, hB3, hK3⟩; clear hI2 hB2))
  have hS3 : Kd.S k37 37 w3 w.heap.size (fun k => k ≠ g) (.slice (some ⟨gb, 0, none⟩) a.length cap) a := Kd.S_keep (Kd.S_keep (Kd.S_mono (Kd.S_bound hS1) (fun k hk => Nat.ne_of_gt (Nat.lt_of_lt_of_le hglt hk.2.1))) hK2 (fun k hk => hk)) hK3 (fun k hk => hk)
  have hK4 := (hK1.trans hK2 (.inl rfl)).trans hK3 (.inl rfl)
  clear hS1 hK1 hK2 hK3
  go_ret
  exact ⟨_, rfl, Kd.S_mono hS3 (fun _ _ => trivial), hI3, hB3, hK4⟩
set_option maxRecDepth 100000 in
set_option maxHeartbeats 4000000 in
theorem any_case0 (k g : Nat) (s0 : List Int) (s1 : Int) (w0 w : World) (hI : IsS101 w0 w g s0 s1) (hB : Below w0.heap.size w0 w) (a : List Tk) (a2 p p2 q q2 : Int) (hpos : 0 < a.length) (hp0 : 0 ≤ p) (hp1 : p < (a.length : Int)) (h1 : spec_someGraph.f k s0 s1 8 = some (a, a2)) (h2 : spec_reader_pick.f k s0 a2 (a.length : Int) = some (p, p2)) (h3 : spec_reader_pick.f k s0 p2 24 = some (q, q2)) (hq : q = 0) (t t2 : Int) (h4 : spec_reader_one.f k s0 q2 [0, 21, 20] = some (t, t2)) : Calls Tryd.prog 67 #[.pointer (some ⟨g, 0, none⟩)] w (anyPost w0 w g s0  (a.set p.toNat { rd_T37 a p with f0 := t }) t2) := by
  have A1 := Aside0.mk h1
  have A2 := Aside0.mk h2
  have A3 := Aside0.mk h3
  clear h1 h2 h3
  have hz : ((a.length : Int) == 0) = false := beq_eq_false_iff_ne.2 (by omega)
  have hglt : g < w.heap.size := hI.lt
  have A4 := Aside0.mk h4
  clear h4
  have hq0 : (q == 0) = true := by simp [hq]
  have hp0' := eq_true hp0
  have hp1' := eq_true hp1
  go_enter Tryd.func67, Tryd.ntmps67
  go_wp2_with (first | (go_at_call 103; refine (spec_someGraph.calls k g s0 s1 8 a a2 w0 _ hI hB A1.out).mono ?_; rintro e w1 ⟨v1, rfl, hS1, hI1, hB1, hK1⟩; clear hI hB; obtain ⟨gb, cap, rfl, hgb, hgl, cells, hcells⟩ := Kd.S_form hS1 hpos) | (go_at_call 104; refine (spec_reader_pick.calls k g s0 a2 (a.length : Int) p p2 w0 _ hI1 hB1 A2.out).mono ?_; rintro e w2 ⟨rfl, hI2, hB2, hK2⟩; clear hI1 hB1) | (go_at_call 104; refine (spec_reader_pick.calls k g s0 p2 24 q q2 w0 _ hI2 hB2 A3.out).mono ?_; rintro e w3 ⟨rfl, hI3, hB3, hK3⟩; clear hI2 hB2) | (go_at_call 105; have hS3 : Kd.S k37 37 w3 w.heap.size (fun k => k ≠ g) (.slice (some ⟨gb, 0, none⟩) a.length cap) a := Kd.S_keep (Kd.S_keep (Kd.S_mono (Kd.S_bound hS1) (fun k hk => Nat.ne_of_gt (Nat.lt_of_lt_of_le hglt hk.2.1))) hK2 (fun k hk => hk)) hK3 (fun k hk => hk); have hK4 := (hK1.trans hK2 (.inl rfl)).trans hK3 (.inl rfl); clear hS1 hK1 hK2 hK3; have hN4 := cells_new w3 (.cells #[.int .i64 0, .int .i64 21, .int .i64 20] 3); have hI4 := hI3.alloc (.cells #[.int .i64 0, .int .i64 21, .int .i64 20] 3); have hB4 := hB3.alloc hB3.size (.cells #[.int .i64 0, .int .i64 21, .int .i64 20] 3); have hS4 := Kd.S_alloc hS3 (.cells #[.int .i64 0, .int .i64 21, .int .i64 20] 3); have hK5 := keep_alloc hK4 (.cells #[.int .i64 0, .int .i64 21, .int .i64 20] 3); have hsz := hI3.lt; refine (spec_reader_one.calls k g s0 q2 _ _ [0, 21, 20] t t2 w0 _ hI4 hB4 (C_lits (l := [0, 21, 20]) hN4 (by decide)) (by decide) (fun ad e _ => by cases e; show w3.heap.size ≠ g; omega) A4.out).mono ?_; rintro e w5 ⟨rfl, hI5, hB5, hK6⟩; have hS5 := Kd.S_keep hS4 hK6 (fun k hk => hk); obtain ⟨⟨u, hcu⟩, hfu, hput⟩ := S_put0 hS5 p hp0 hp1; have hK7 := hK5.trans hK6 (.inl rfl); have HPUT := Aside0.mk hput; have hI6 := Aside0.mk hI5; clear hS4 hS3 hI3 hB3 hK4 hI4 hB4 hN4 hK5 hK6 hput hI5))
  go_ret
  obtain ⟨hS6, hg6⟩ := HPUT.out t
  exact ⟨_, rfl, Kd.S_mono hS6 (fun _ _ => trivial), hI6.out.grown hg6 (fun e => by injection e with e; omega), below_put hg6 hB5 (Nat.le_refl _) (by have := hI6.out.ge; omega), hK7.trans (KeepBut.of_grown hg6 g) (.inr ⟨gb, rfl, hgb⟩)⟩
set_option maxRecDepth 100000 in
set_option maxHeartbeats 4000000 in
theorem any_case2 (k g : Nat) (s0 : List Int) (s1 : Int) (w0 w : World) (hI : IsS101 w0 w g s0 s1) (hB : Below w0.heap.size w0 w) (a : List Tk) (a2 p p2 q q2 : Int) (hpos : 0 < a.length) (hp0 : 0 ≤ p) (hp1 : p < (a.length : Int)) (h1 : spec_someGraph.f k s0 s1 8 = some (a, a2)) (h2 : spec_reader_pick.f k s0 a2 (a.length : Int) = some (p, p2)) (h3 : spec_reader_pick.f k s0 p2 24 = some (q, q2)) (hq : q = 2) (t t2 : Int) (h4 : spec_reader_one.f k s0 q2 [-1, 3] = some (t, t2)) : Calls Tryd.prog 67 #[.pointer (some ⟨g, 0, none⟩)] w (anyPost w0 w g s0  (a.set p.toNat { rd_T37 a p with f2 := t }) t2) := by
  have A1 := Aside0.mk h1
  have A2 := Aside0.mk h2
  have A3 := Aside0.mk h3
  clear h1 h2 h3
  have hz : ((a.length : Int) == 0) = false := beq_eq_false_iff_ne.2 (by omega)
  have hglt : g < w.heap.size := hI.lt
  have A4 := Aside0.mk h4
  clear h4
  have hq0 : (q == 0) = false := beq_eq_false_iff_ne.2 (by omega)
  have hq1 : (q == 1) = false := beq_eq_false_iff_ne.2 (by omega)
  have hq2 : (q == 2) = true := by simp [hq]
  have hp0' := eq_true hp0
  have hp1' := eq_true hp1
  go_enter Tryd.func67, Tryd.ntmps67
  go_wp2_with (first | (go_at_call 103; refine (spec_someGraph.calls k g s0 s1 8 a a2 w0 _ hI hB A1.out).mono ?_; rintro e w1 ⟨v1, rfl, hS1, hI1, hB1, hK1⟩; clear hI hB; obtain ⟨gb, cap, rfl, hgb, hgl, cells, hcells⟩ := Kd.S_form hS1 hpos) | (go_at_call 104; refine (spec_reader_pick.calls k g s0 a2 (a.length : Int) p p2 w0 _ hI1 hB1 A2.out).mono ?_; rintro e w2 ⟨rfl, hI2, hB2, hK2⟩; clear hI1 hB1) | (go_at_call 104; refine (spec_reader_pick.calls k g s0 p2 24 q q2 w0 _ hI2 hB2 A3.out).mono ?_; rintro e w3 ⟨rfl, hI3, hB3, hK3⟩; clear hI2 hB2) | (go_at_call 105; have hS3 : Kd.S k37 37 w3 w.heap.size (fun k => k ≠ g) (.slice (some ⟨gb, 0, none⟩) a.length cap) a := Kd.S_keep (Kd.S_keep (Kd.S_mono (Kd.S_bound hS1) (fun k hk => Nat.ne_of_gt (Nat.lt_of_lt_of_le hglt hk.2.1))) hK2 (fun k hk => hk)) hK3 (fun k hk => hk); have hK4 := (hK1.trans hK2 (.inl rfl)).trans hK3 (.inl rfl); clear hS1 hK1 hK2 hK3; have hN4 := cells_new w3 (.cells #[.int .i64 (-1), .int .i64 3] 3); have hI4 := hI3.alloc (.cells #[.int .i64 (-1), .int .i64 3] 3); have hB4 := hB3.alloc hB3.size (.cells #[.int .i64 (-1), .int .i64 3] 3); have hS4 := Kd.S_alloc hS3 (.cells #[.int .i64 (-1), .int .i64 3] 3); have hK5 := keep_alloc hK4 (.cells #[.int .i64 (-1), .int .i64 3] 3); have hsz := hI3.lt; refine (spec_reader_one.calls k g s0 q2 _ _ [-1, 3] t t2 w0 _ hI4 hB4 (C_lits (l := [-1, 3]) hN4 (by decide)) (by decide) (fun ad e _ => by cases e; show w3.heap.size ≠ g; omega) A4.out).mono ?_; rintro e w5 ⟨rfl, hI5, hB5, hK6⟩; have hS5 := Kd.S_keep hS4 hK6 (fun k hk => hk); obtain ⟨⟨u, hcu⟩, hfu, hput⟩ := S_put2 hS5 p hp0 hp1; have hK7 := hK5.trans hK6 (.inl rfl); have HPUT := Aside0.mk hput; have hI6 := Aside0.mk hI5; clear hS4 hS3 hI3 hB3 hK4 hI4 hB4 hN4 hK5 hK6 hput hI5))
  go_ret
  obtain ⟨hS6, hg6⟩ := HPUT.out t
  exact ⟨_, rfl, Kd.S_mono hS6 (fun _ _ => trivial), hI6.out.grown hg6 (fun e => by injection e with e; omega), below_put hg6 hB5 (Nat.le_refl _) (by have := hI6.out.ge; omega), hK7.trans (KeepBut.of_grown hg6 g) (.inr ⟨gb, rfl, hgb⟩)⟩
set_option maxRecDepth 100000 in
set_option maxHeartbeats 4000000 in
theorem any_case3 (k g : Nat) (s0 : List Int) (s1 : Int) (w0 w : World) (hI : IsS101 w0 w g s0 s1) (hB : Below w0.heap.size w0 w) (a : List Tk) (a2 p p2 q q2 : Int) (hpos : 0 < a.length) (hp0 : 0 ≤ p) (hp1 : p < (a.length : Int)) (h1 : spec_someGraph.f k s0 s1 8 = some (a, a2)) (h2 : spec_reader_pick.f k s0 a2 (a.length : Int) = some (p, p2)) (h3 : spec_reader_pick.f k s0 p2 24 = some (q, q2)) (hq : q = 3) (t t2 : Int) (h4 : spec_reader_one.f k s0 q2 [0, 5] = some (t, t2)) : Calls Tryd.prog 67 #[.pointer (some ⟨g, 0, none⟩)] w (anyPost w0 w g s0  (a.set p.toNat { rd_T37 a p with f3 := t }) t2) := by
  have A1 := Aside0.mk h1
  have A2 := Aside0.mk h2
  have A3 := Aside0.mk h3
  clear h1 h2 h3
  have hz : ((a.length : Int) == 0) = false := beq_eq_false_iff_ne.2 (by omega)
  have hglt : g < w.heap.size := hI.lt
  have A4 := Aside0.mk h4
  clear h4
  have hq0 : (q == 0) = false := beq_eq_false_iff_ne.2 (by omega)
  have hq1 : (q == 1) = false := beq_eq_false_iff_ne.2 (by omega)
  have hq2 : (q == 2) = false := beq_eq_false_iff_ne.2 (by omega)
  have hq3 : (q == 3) = true := by simp [hq]
  have hp0' := eq_true hp0
  have hp1' := eq_true hp1
  go_enter Tryd.func67, Tryd.ntmps67
  go_wp2_with (first | (go_at_call 103; refine (spec_someGraph.calls k g s0 s1 8 a a2 w0 _ hI hB A1.out).mono ?_; rintro e w1 ⟨v1, rfl, hS1, hI1, hB1, hK1⟩; clear hI hB; obtain ⟨gb, cap, rfl, hgb, hgl, cells, hcells⟩ := Kd.S_form hS1 hpos) | (go_at_call 104; refine (spec_reader_pick.calls k g s0 a2 (a.length : Int) p p2 w0 _ hI1 hB1 A2.out).mono ?_; rintro e w2 ⟨rfl, hI2, hB2, hK2⟩; clear hI1 hB1) | (go_at_call 104; refine (spec_reader_pick.calls k g s0 p2 24 q q2 w0 _ hI2 hB2 A3.out).mono ?_; rintro e w3 ⟨rfl, hI3, hB3, hK3⟩; clear hI2 hB2) | (go_at_call 105; have hS3 : Kd.S k37 37 w3 w.heap.size (fun k => k ≠ g) (.slice (some ⟨gb, 0, none⟩) a.length cap) a := Kd.S_keep (Kd.S_keep (Kd.S_mono (Kd.S_bound hS1) (fun k hk => Nat.ne_of_gt (Nat.lt_of_lt_of_le hglt hk.2.1))) hK2 (fun k hk => hk)) hK3 (fun k hk => hk); have hK4 := (hK1.trans hK2 (.inl rfl)).trans hK3 (.inl rfl); clear hS1 hK1 hK2 hK3; have hN4 := cells_new w3 (.cells #[.int .i64 0, .int .i64 5] 3); have hI4 := hI3.alloc (.cells #[.int .i64 0, .int .i64 5] 3); have hB4 := hB3.alloc hB3.size (.cells #[.int .i64 0, .int .i64 5] 3); have hS4 := Kd.S_alloc hS3 (.cells #[.int .i64 0, .int .i64 5] 3); have hK5 := keep_alloc hK4 (.cells #[.int .i64 0, .int .i64 5] 3); have hsz := hI3.lt; refine (spec_reader_one.calls k g s0 q2 _ _ [0, 5] t t2 w0 _ hI4 hB4 (C_lits (l := [0, 5]) hN4 (by decide)) (by decide) (fun ad e _ => by cases e; show w3.heap.size ≠ g; omega) A4.out).mono ?_; rintro e w5 ⟨rfl, hI5, hB5, hK6⟩; have hS5 := Kd.S_keep hS4 hK6 (fun k hk => hk); obtain ⟨⟨u, hcu⟩, hfu, hput⟩ := S_put3 hS5 p hp0 hp1; have hK7 := hK5.trans hK6 (.inl rfl); have HPUT := Aside0.mk hput; have hI6 := Aside0.mk hI5; clear hS4 hS3 hI3 hB3 hK4 hI4 hB4 hN4 hK5 hK6 hput hI5))
  go_ret
  obtain ⟨hS6, hg6⟩ := HPUT.out t
  exact ⟨_, rfl, Kd.S_mono hS6 (fun _ _ => trivial), hI6.out.grown hg6 (fun e => by injection e with e; omega), below_put hg6 hB5 (Nat.le_refl _) (by have := hI6.out.ge; omega), hK7.trans (KeepBut.of_grown hg6 g) (.inr ⟨gb, rfl, hgb⟩)⟩
theorem infoTask : (Tryd.prog.info? 37).map (fun i => (i.zero, i.size, i.bytes)) = some (some (.agg #[.int .i64 0, .slice none 0 0, .int .i64 0, .int .i64 0]), 4, 48) := by kernel_rfl
theorem zip_app (xs ys : List Tk) : (xs ++ ys).zipIdx = xs.zipIdx ++ ys.zipIdx xs.length := by rw [List.zipIdx_append]; simp
/-- Two rows' elements behind each other: the owners of the second one's rows are told anew. -/
theorem S_two {W : World} {b1 N : Nat} {ok : Nat → Prop} {v v2 : Value} {xs ys : List Tk} (h1 : Kd.S k37 37 W b1 (fun k => ok k ∧ k < N) v xs) (h2 : Kd.S k37 37 W N (fun _ => True) v2 ys) (hb : b1 ≤ N) :
    ∃ f A c, v2 = .slice A ys.length c ∧ (Kd.tag f k37).R 37 W b1 (fun k => ok k ∧ k < N) v xs.zipIdx ∧ ReadsRow ((Kd.tag f k37).M W b1 (fun k => N ≤ k)) 4 W A ys.length (ys.zipIdx xs.length) := by
  obtain ⟨f1, hf1⟩ := h1
  obtain ⟨f2, hf2⟩ := h2
  refine ⟨fun k => if k < N then f1 k else f2 k + xs.length, ?_⟩
  have hR2 := Kd.R_bound hf2
  obtain ⟨A, c, rfl, hl, hr⟩ := OwnRow.reads hR2.2
  rw [List.length_zipIdx] at hr
  refine ⟨A, c, by rw [List.length_zipIdx], Kd.R_tag hf1 (fun k hk _ => if_pos hk.2), by simp, hr.2.1, fun hn => ?_⟩
  obtain ⟨ad, e, hc⟩ := hr.2.2 hn
  refine ⟨ad, e, fun j p hj => ?_⟩
  rw [List.getElem?_zipIdx] at hj
  obtain ⟨x, hx, rfl⟩ := Option.map_eq_some_iff.1 hj
  obtain ⟨cs, h3, h4, h5⟩ := hc j (x, j) (by rw [List.getElem?_zipIdx, hx]; simp)
  refine ⟨cs, h3, ?_, h5⟩
  refine Kd.M_lower k37 hb (Kd.M_mono k37 (fun k hk => ?_) h4)
  have hk1 := hk.1.1.2.1
  have hk2 : f2 k = j := hk.2
  refine ⟨hk1, ?_⟩
  show (if k < N then f1 k else f2 k + xs.length) = xs.length + j
  rw [if_neg (by omega), hk2]
  omega
set_option maxRecDepth 100000 in
set_option maxHeartbeats 4000000 in
theorem any_case4 (k g : Nat) (s0 : List Int) (s1 : Int) (w0 w : World) (hI : IsS101 w0 w g s0 s1) (hB : Below w0.heap.size w0 w) (a : List Tk) (a2 p p2 q q2 : Int) (hpos : 0 < a.length) (hp0 : 0 ≤ p) (hp1 : p < (a.length : Int)) (h1 : spec_someGraph.f k s0 s1 8 = some (a, a2)) (h2 : spec_reader_pick.f k s0 a2 (a.length : Int) = some (p, p2)) (h3 : spec_reader_pick.f k s0 p2 24 = some (q, q2)) (hq : q = 4) (c : List Tk) (c2 : Int) (hlen : a.length + c.length < 1000) (h4 : spec_someGraph.f k s0 q2 8 = some (c, c2)) : Calls Tryd.prog 67 #[.pointer (some ⟨g, 0, none⟩)] w (anyPost w0 w g s0  (a ++ c) c2) := by
  have A1 := Aside0.mk h1
  have A2 := Aside0.mk h2
  have A3 := Aside0.mk h3
  clear h1 h2 h3
  have hz : ((a.length : Int) == 0) = false := beq_eq_false_iff_ne.2 (by omega)
  have hglt : g < w.heap.size := hI.lt
  have A4 := Aside0.mk h4
  clear h4
  have hq0 : (q == 0) = false := beq_eq_false_iff_ne.2 (by omega)
  have hq1 : (q == 1) = false := beq_eq_false_iff_ne.2 (by omega)
  have hq2 : (q == 2) = false := beq_eq_false_iff_ne.2 (by omega)
  have hq3 : (q == 3) = false := beq_eq_false_iff_ne.2 (by omega)
  have hq4 : (q == 4) = true := by simp [hq]
  go_enter Tryd.func67, Tryd.ntmps67
  go_wp2_with (first | (go_at_call 103; refine (spec_someGraph.calls k g s0 s1 8 a a2 w0 _ hI hB A1.out).mono ?_; rintro e w1 ⟨v1, rfl, hS1, hI1, hB1, hK1⟩; clear hI hB; obtain ⟨gb, cap, rfl, hgb, hgl, cells, hcells⟩ := Kd.S_form hS1 hpos) | (go_at_call 104; refine (spec_reader_pick.calls k g s0 a2 (a.length : Int) p p2 w0 _ hI1 hB1 A2.out).mono ?_; rintro e w2 ⟨rfl, hI2, hB2, hK2⟩; clear hI1 hB1) | (go_at_call 104; refine (spec_reader_pick.calls k g s0 p2 24 q q2 w0 _ hI2 hB2 A3.out).mono ?_; rintro e w3 ⟨rfl, hI3, hB3, hK3⟩; clear hI2 hB2) | (go_at_call 103; have hS3 : Kd.S k37 37 w3 w.heap.size (fun k => k ≠ g) (.slice (some ⟨gb, 0, none⟩) a.length cap) a := Kd.S_keep (Kd.S_keep (Kd.S_mono (Kd.S_bound hS1) (fun k hk => Nat.ne_of_gt (Nat.lt_of_lt_of_le hglt hk.2.1))) hK2 (fun k hk => hk)) hK3 (fun k hk => hk); have hK4 := (hK1.trans hK2 (.inl rfl)).trans hK3 (.inl rfl); clear hS1 hK1 hK2 hK3; have HGL3 := Aside0.mk hI3.lt; have HGB3 := Aside0.mk (Kd.S_lt hS3 gb (by simp [Value.ownBlock])); have hK4s := hK4.1; refine (spec_someGraph.calls k g s0 q2 8 c c2 w0 _ hI3 hB3 A4.out).mono ?_; rintro e w5 ⟨v2, rfl, hS5, hI5, hB5, hK5⟩; have hS4 : Kd.S k37 37 w5 w.heap.size (fun k => k ≠ g ∧ k < w3.heap.size) _ a := Kd.S_keep (Kd.S_mono (Kd.S_bound hS3) (fun k hk => ⟨hk.1, hk.2.2.1⟩)) hK5 (fun k hk => hk.1); obtain ⟨f, A, cc, rfl, hR6, hRR⟩ := S_two hS4 hS5 hK4s; have hK6 := hK4.trans hK5 (.inl rfl); have HR6 := Aside0.mk hR6; have HRR := Aside0.mk hRR; have HI5 := Aside0.mk hI5; have HB5 := Aside0.mk hB5; have HK6 := Aside0.mk hK6; have HLE := Aside0.mk hK5.1; clear hS3 hS4 hS5 hI3 hB3 hK4 hK5 hR6 hRR hI5 hB5 hK6 hK4s) | ((with_reducible refine gate_builtin (b := .append) (xs := #[.tmp 65, .tmp 67]) rfl ?_); go_loud (at_builtin; have hgb3 : gb < w3.heap.size := HGB3.out; have hle5 : w.heap.size ≤ w5.heap.size := HK6.out.1; refine Kd.R_append_rows (Kd.tag f k37) (w0 := w5) w.heap.size rfl (.tmp 65) (.tmp 67) 26 37 (.agg #[.int .i64 0, .slice none 0 0, .int .i64 0, .int .i64 0]) 48 rfl Tryd.underlying26 infoTask rfl (show 0 < 4 from by decide) (by decide) (.slice (some ⟨gb, 0, none⟩) a.length cap) a.zipIdx (c.zipIdx a.length) A c.length cc (fun k => k ≠ g) (fun k => w3.heap.size ≤ k) rfl rfl (Kd.R_mono HR6.out (fun _ hk => hk.1)) HRR.out (fun _ _ h => h) (fun k (hk : w3.heap.size ≤ k) => ⟨Nat.ne_of_gt (Nat.lt_of_lt_of_le HGL3.out hk), fun e => by have e2 : k = gb := (by simpa [Value.ownBlock] using e); omega⟩) (fun k hk => Nat.ne_of_gt (Nat.lt_of_lt_of_le HI5.out.lt hk)) (Below.refl _ _) hle5 (by simp; omega) ?_; intro v6 w6 ho hb hg hat)))
  go_ret
  have hS6 : Kd.S k37 37 w6 w.heap.size (fun k => k ≠ g) v6 (a ++ c) := ⟨f, by rw [zip_app]; exact ho⟩
  have hg' : w5.grownBy w6 (some gb) := by simpa [Value.ownBlock] using hg
  have hI6 := HI5.out.grown hg' (fun e => by injection e with e; omega)
  exact ⟨_, rfl, Kd.S_mono hS6 (fun _ _ => trivial), hI6, below_put hg' HB5.out (Nat.le_refl _) (by have := HI5.out.ge; omega), HK6.out.trans (KeepBut.of_grown hg' g) (.inr ⟨gb, rfl, hgb⟩)⟩
theorem infoInt_ : (Tryd.prog.info? 3).map (fun i => (i.zero, i.size, i.bytes)) = some (some (.int .i64 0), 1, 8) := by kernel_rfl
set_option maxRecDepth 100000 in
set_option maxHeartbeats 4000000 in
theorem any_case1 (k g : Nat) (s0 : List Int) (s1 : Int) (w0 w : World) (hI : IsS101 w0 w g s0 s1) (hB : Below w0.heap.size w0 w) (a : List Tk) (a2 p p2 q q2 : Int) (hpos : 0 < a.length) (hp0 : 0 ≤ p) (hp1 : p < (a.length : Int)) (h1 : spec_someGraph.f k s0 s1 8 = some (a, a2)) (h2 : spec_reader_pick.f k s0 a2 (a.length : Int) = some (p, p2)) (h3 : spec_reader_pick.f k s0 p2 24 = some (q, q2)) (hq : q = 1) (b b2 : Int) (r : List Int) (r2 : Int) (h4 : spec_reader_pick.f k s0 q2 (a.length : Int) = some (b, b2)) (hlen : (rd_T37 a p).f1.length < 1000) (h5 : spec_reader_spoil.f k s0 b2 ((rd_T37 a p).f1 ++ [b]) 8 = some (r, r2)) : Calls Tryd.prog 67 #[.pointer (some ⟨g, 0, none⟩)] w (anyPost w0 w g s0  (a.set p.toNat { rd_T37 a p with f1 := r }) r2) := by
  have A1 := Aside0.mk h1
  have A2 := Aside0.mk h2
  have A3 := Aside0.mk h3
  clear h1 h2 h3
  have hz : ((a.length : Int) == 0) = false := beq_eq_false_iff_ne.2 (by omega)
  have hglt : g < w.heap.size := hI.lt
  have A4 := Aside0.mk h4
  have A5 := Aside0.mk h5
  clear h4 h5
  have hq0 : (q == 0) = false := beq_eq_false_iff_ne.2 (by omega)
  have hq1 : (q == 1) = true := by simp [hq]
  go_enter Tryd.func67, Tryd.ntmps67
  go_wp2_with (first | (go_at_call 103; refine (spec_someGraph.calls k g s0 s1 8 a a2 w0 _ hI hB A1.out).mono ?_; rintro e w1 ⟨v1, rfl, hS1, hI1, hB1, hK1⟩; clear hI hB; obtain ⟨gb, cap, rfl, hgb, hgl, cells, hcells⟩ := Kd.S_form hS1 hpos) | (go_at_call 104; refine (spec_reader_pick.calls k g s0 a2 (a.length : Int) p p2 w0 _ hI1 hB1 A2.out).mono ?_; rintro e w2 ⟨rfl, hI2, hB2, hK2⟩; clear hI1 hB1) | (go_at_call 104; refine (spec_reader_pick.calls k g s0 p2 24 q q2 w0 _ hI2 hB2 A3.out).mono ?_; rintro e w3 ⟨rfl, hI3, hB3, hK3⟩; clear hI2 hB2))
  have hS3 : Kd.S k37 37 w3 w.heap.size (fun k => k ≠ g) (.slice (some ⟨gb, 0, none⟩) a.length cap) a := Kd.S_keep (Kd.S_keep (Kd.S_mono (Kd.S_bound hS1) (fun k hk => Nat.ne_of_gt (Nat.lt_of_lt_of_le hglt hk.2.1))) hK2 (fun k hk => hk)) hK3 (fun k hk => hk)
  have hK4 := (hK1.trans hK2 (.inl rfl)).trans hK3 (.inl rfl)
  clear hS1 hK1 hK2 hK3
  have hp0' := eq_true hp0
  have hp1' := eq_true hp1
  have hS3b : Kd.S k37 37 w3 w.heap.size (fun k => k ≠ g ∧ k < w3.heap.size) (.slice (some ⟨gb, 0, none⟩) a.length cap) a := Kd.S_mono (Kd.S_bound hS3) (fun k hk => ⟨hk.1, hk.2.2.1⟩)
  obtain ⟨oki, c, hcl, hM, hcc, hfr, hoki, hH⟩ := Kd.S_elem hS3b z37 p hp0 hp1
  obtain ⟨v4, rfl, g4⟩ := k37_openM hM
  clear hS3b
  have hx1 : w3.cell? ⟨gb, p.toNat * 4 + 1, none⟩ = some v4 := hcc 1 _ rfl
  have hgb3 : gb < w3.heap.size := Kd.S_lt hS3 gb (by simp [Value.ownBlock])
  clear hcc hfr hM hcl hS3
  have hI4 : IsS101 w0 w3.drew g s0 q2 := hI3.drew
  have hB4 : Below w0.heap.size w0 w3.drew := below_drew1 hB3
  have hK4' : KeepBut w w3.drew g none := keep_drew hK4
  have hH4 := Kd.H_drew hH
  have g4' := Kd.Q_drew g4
  have hsz4 : w3.drew.heap.size = w3.heap.size := rfl
  have hd4 : Below w3.heap.size w3 w3.drew := below_drew (Below.refl _ _)
  refine start_ (n := 18) (S := fun w' => w'.cell? ⟨gb, p.toNat * 4 + 1, none⟩ = some v4) (ds := [13, 14, 15, 16, 17]) #[false, false, false, false, false, false, false, false, false, false, false, false, false, false, false, false, false, false] rfl (by kernel_rfl) rfl ((hd4.cell hgb3).trans hx1) (fun hHeld => ?_)
  revert hI4 hB4 hK4' hH4 g4' hsz4 hHeld
  generalize w3.drew = w4
  intro hI4 hB4 hK4' hH4 g4' hsz4 hHeld
  clear hI3 hB3 hK4 hH g4 hx1 hd4
  refine pure_ (i := 0) (N := some 28) (v := ?_) (a' := ?_) #[true, false, false, false, false, false, false, false, false, false, false, false, false, false, false, false, false, false] rfl rfl (by kernel_rfl) (fun _ _ _ h => h) (Or.inl ⟨by rfl, ?_⟩) ?_ ?_
  rotate_left
  · intro w'
    go_simp
    with_reducible rfl
  rotate_left
  · simp only [Act.put, List.setIfInBounds_toArray, List.set_cons_zero, List.set_cons_succ, i64_w, i32_w]
    rfl
  refine pure_ (i := 1) (N := some 29) (v := ?_) (a' := ?_) #[true, true, false, false, false, false, false, false, false, false, false, false, false, false, false, false, false, false] rfl rfl (by kernel_rfl) (fun _ _ _ h => h) (Or.inl ⟨by rfl, ?_⟩) ?_ ?_
  rotate_left
  · intro w'
    go_simp
    with_reducible rfl
  rotate_left
  · simp only [Act.put, List.setIfInBounds_toArray, List.set_cons_zero, List.set_cons_succ, i64_w, i32_w]
    rfl
  refine pure_ (i := 2) (N := some 30) (v := ?_) (a' := ?_) #[true, true, true, false, false, false, false, false, false, false, false, false, false, false, false, false, false, false] rfl rfl (by kernel_rfl) (fun _ _ _ h => h) (Or.inl ⟨by rfl, ?_⟩) ?_ ?_
  rotate_left
  · intro w'
    go_simp
    with_reducible rfl
  rotate_left
  · simp only [Act.put, List.setIfInBounds_toArray, List.set_cons_zero, List.set_cons_succ, i64_w, i32_w]
    rfl
  refine pure_ (i := 3) (N := some 31) (v := ?_) (a' := ?_) #[true, true, true, true, false, false, false, false, false, false, false, false, false, false, false, false, false, false] rfl rfl (by kernel_rfl) (fun _ _ _ h => h) (Or.inl ⟨by rfl, ?_⟩) ?_ ?_
  rotate_left
  · intro w'
    go_simp
    with_reducible rfl
  rotate_left
  · simp only [Act.put, List.setIfInBounds_toArray, List.set_cons_zero, List.set_cons_succ, i64_w, i32_w]
    rfl
  refine pure_ (i := 4) (N := some 32) (v := ?_) (a' := ?_) #[true, true, true, true, true, false, false, false, false, false, false, false, false, false, false, false, false, false] rfl rfl (by kernel_rfl) (fun _ _ _ h => h) (Or.inl ⟨by rfl, ?_⟩) ?_ ?_
  rotate_left
  · intro w'
    go_simp
    with_reducible rfl
  rotate_left
  · simp only [Act.put, List.setIfInBounds_toArray, List.set_cons_zero, List.set_cons_succ, i64_w, i32_w]
    rfl
  refine pure_ (i := 5) (N := some 33) (v := ?_) (a' := ?_) #[true, true, true, true, true, true, false, false, false, false, false, false, false, false, false, false, false, false] rfl rfl (by kernel_rfl) (fun _ _ _ h => h) (Or.inl ⟨by rfl, ?_⟩) ?_ ?_
  rotate_left
  · intro w'
    go_simp
    with_reducible rfl
  rotate_left
  · simp only [Act.put, List.setIfInBounds_toArray, List.set_cons_zero, List.set_cons_succ, i64_w, i32_w]
    rfl
  refine pure_ (i := 6) (N := some 34) (v := ?_) (a' := ?_) #[true, true, true, true, true, true, true, false, false, false, false, false, false, false, false, false, false, false] rfl rfl (by kernel_rfl) (fun _ _ _ h => h) (Or.inl ⟨by rfl, ?_⟩) ?_ ?_
  rotate_left
  · intro w'
    go_simp
    with_reducible rfl
  rotate_left
  · simp only [Act.put, List.setIfInBounds_toArray, List.set_cons_zero, List.set_cons_succ, i64_w, i32_w]
    rfl
  refine take_ (i := 7) (N := some 35) (v := ?_) (a' := ?_) #[true, true, true, true, true, true, true, true, false, false, false, false, false, false, false, false, false, false] rfl rfl (by kernel_rfl) (fun _ _ _ h => h) (Or.inl ⟨by rfl, ?_⟩) hHeld ?_ ?_
  rotate_left
  · rintro w' hc
    go_simp
    with_reducible rfl
  rotate_left
  · simp only [Act.put, List.setIfInBounds_toArray, List.set_cons_zero, List.set_cons_succ, i64_w, i32_w]
    rfl
  refine pure_ (i := 8) (N := some 36) (v := ?_) (a' := ?_) #[true, true, true, true, true, true, true, true, true, false, false, false, false, false, false, false, false, false] rfl rfl (by kernel_rfl) (fun _ _ _ h => h) (Or.inl ⟨by rfl, ?_⟩) ?_ ?_
  rotate_left
  · intro w'
    go_simp
    with_reducible rfl
  rotate_left
  · simp only [Act.put, List.setIfInBounds_toArray, List.set_cons_zero, List.set_cons_succ, i64_w, i32_w]
    rfl
  refine pure_ (i := 9) (N := some 37) (v := ?_) (a' := ?_) #[true, true, true, true, true, true, true, true, true, true, false, false, false, false, false, false, false, false] rfl rfl (by kernel_rfl) (fun _ _ _ h => h) (Or.inl ⟨by rfl, ?_⟩) ?_ ?_
  rotate_left
  · intro w'
    go_simp
    with_reducible rfl
  rotate_left
  · simp only [Act.put, List.setIfInBounds_toArray, List.set_cons_zero, List.set_cons_succ, i64_w, i32_w]
    rfl
  refine pure_ (i := 10) (N := some 38) (v := ?_) (a' := ?_) #[true, true, true, true, true, true, true, true, true, true, true, false, false, false, false, false, false, false] rfl rfl (by kernel_rfl) (fun _ _ _ h => h) (Or.inl ⟨by rfl, ?_⟩) ?_ ?_
  rotate_left
  · intro w'
    go_simp
    with_reducible rfl
  rotate_left
  · simp only [Act.put, List.setIfInBounds_toArray, List.set_cons_zero, List.set_cons_succ, i64_w, i32_w]
    rfl
  refine one_ (i := 11) (N := some 39) #[true, true, true, true, true, true, true, true, true, true, true, true, false, false, false, false, false, false] rfl rfl (by kernel_rfl) (by decide) (fun K hK => ?_)
  refine goes_ Tryd.func104 (by kernel_rfl) rfl #[.pointer (some ⟨g, 0, none⟩), .int .i64 (a.length : Int)] (by rfl) rfl rfl (by (try simp only [List.map_toArray, List.map_cons, List.map_nil]); rfl) ?_
  refine (spec_reader_pick.calls k g s0 q2 (a.length : Int) b b2 w0 _ hI4 hB4 A4.out).mono ?_
  rintro e w5 ⟨rfl, hI5, hB5, hK5⟩
  have hgb4 : gb < w4.heap.size := by omega
  have hne : gb ≠ g := by have := Nat.lt_of_lt_of_le hglt hgb; omega
  refine ⟨_, rfl, hK.out _ _ (keep_cell hK5 hHeld hne) (fun hHeld5 => ?_)⟩
  clear hK K
  refine norm_ (a' := ?_) ?_ ?_
  rotate_left
  · show Act.put _ (some 39) _ = _
    simp only [Act.put, List.setIfInBounds_toArray, List.set_cons_zero, List.set_cons_succ, i64_w, i32_w]
    rfl
  have hH5 := Kd.H_keep hH4 hK5 (fun k hk => hk.1)
  have g5 := Kd.Q_keep g4' hK5 (fun k hk => (hoki k hk).1.1)
  have hg5lt := hI5.lt
  have hK6 := hK4'.trans hK5 (.inl rfl)
  have hsz5 : w3.heap.size ≤ w5.heap.size := by rw [← hsz4]; exact hK5.1
  clear hH4 g4' hK5 hK4' hI4 hB4 hHeld hsz4
  refine one_ (i := 12) (N := some 40) #[true, true, true, true, true, true, true, true, true, true, true, true, true, false, false, false, false, false] rfl rfl (by kernel_rfl) (by decide) (fun K hK => ?_)
  refine value_ (w1 := w5.alloc (.cells #[.int .i64 b] 3)) (v := .slice (some ⟨w5.heap.size, 0, none⟩) 1 1) (by rfl) rfl ?_ ?_
  · go_simp; try rfl
  refine hK.out _ _ ((((Below.refl w5.heap.size w5).alloc (Nat.le_refl _) (.cells #[.int .i64 b] 3)).cell (show gb < w5.heap.size by omega)).trans hHeld5) (fun hHeld6 => ?_)
  clear hK K
  refine norm_ (a' := ?_) ?_ ?_
  rotate_left
  · simp only [Act.put, List.setIfInBounds_toArray, List.set_cons_zero, List.set_cons_succ, i64_w, i32_w]
    rfl
  refine last_ (i := 13) (N := some 41) #[true, true, true, true, true, true, true, true, true, true, true, true, true, true, false, false, false, false] rfl rfl (by kernel_rfl) (by decide) (fun K hK => ?_)
  refine Kd.Q_append_step (Kd.int .i64) (w0 := w5) w.heap.size (by rfl) (.tmp 35) (.tmp 40) 35 3 (.int .i64 0) 8 rfl Tryd.underlying35 infoInt_ rfl (by decide) (by decide) v4 (rd_T37 a p).f1 b [.int .i64 b] (fun k => oki k ∨ w5.heap.size ≤ k) (fun _ => False) rfl rfl rfl (fun _ h => h.elim) (fun _ hk => .inr hk) (Kd.Q_mono g5 (fun _ hk => .inl hk)) (Below.refl _ _) hK6.1 (by omega) ?_
  intro v7 w7 hQ7 hB7 hg7 hat7
  refine hK.out _ _ ?_
  clear hK K
  refine norm_ (a' := ?_) ?_ ?_
  rotate_left
  · simp only [Act.put, List.setIfInBounds_toArray, List.set_cons_zero, List.set_cons_succ, i64_w, i32_w]
    rfl
  have hvo : ∀ k, v4.ownBlock = some k → oki k := fun k hk => g5.1 k hk
  have hH7 := Kd.H_grown hH5 hg7 hvo
  have hI7 := hI5.grown hg7 (fun e => (hoki g (hvo g e.symm)).1.1 rfl)
  have hB8 : Below w0.heap.size w0 w7 := by
    refine ⟨hg7.os.trans hB5.os, hg7.tape.trans hB5.tape, hg7.output.trans hB5.output, Nat.le_trans hB5.size hg7.size, fun k hk => (hg7.block k (Nat.lt_of_lt_of_le hk hB5.size) (fun e => ?_)).trans (hB5.block k hk)⟩
    have h1 := Kd.Q_base g5 k e.symm
    have h2 := hI5.ge
    omega
  have hK8 : KeepBut w w7 g none := ⟨Nat.le_trans hK6.1 hg7.size, fun k hk hkg hn => (hg7.block k (Nat.lt_of_lt_of_le hk hK6.1) (fun e => by have := Kd.Q_base g5 k e.symm; omega)).trans (hK6.2 k hk hkg hn)⟩
  have hsz7 := hg7.size
  obtain ⟨A7, c7, rfl, hl7, hC7⟩ := Kd.Q_reads hQ7
  have hlen7 : ((rd_T37 a p).f1 ++ [b]).length = (rd_T37 a p).f1.length + 1 := by simp
  have hQg := hQ7.1
  clear hH5 g5 hI5 hB5 hK6 hHeld5 hHeld6
  refine last_ (i := 14) (N := some 42) #[true, true, true, true, true, true, true, true, true, true, true, true, true, true, true, false, false, false] rfl rfl (by kernel_rfl) (by decide) (fun K hK => ?_)
  refine goes_ Tryd.func106 (by kernel_rfl) rfl #[.pointer (some ⟨g, 0, none⟩), .slice A7 ((rd_T37 a p).f1 ++ [b]).length c7, .int .i64 8] (by rfl) rfl rfl (by (try simp only [List.map_toArray, List.map_cons, List.map_nil]); rfl) ?_
  refine (spec_reader_spoil.calls k g s0 b2 A7 c7 ((rd_T37 a p).f1 ++ [b]) 8 r r2 w0 _ hI7 hB8 hC7 hl7 (fun ad e hpos7 => ?_) A5.out).mono ?_
  · subst e
    rcases hQg ad.block (by simp [Value.ownBlock]) with h | h
    · exact (hoki _ h).1.1
    · exact Nat.ne_of_gt (Nat.lt_of_lt_of_le hg5lt h)
  rintro e w9 ⟨v9, rfl, hQ9, hI9, hB9, hK9⟩
  refine ⟨_, rfl, hK.out _ _ ?_⟩
  clear hK K
  refine norm_ (a' := ?_) ?_ ?_
  rotate_left
  · simp only [Act.put, List.setIfInBounds_toArray, List.set_cons_zero, List.set_cons_succ, i64_w, i32_w]
    rfl
  have hH9 := Kd.H_keep hH7 hK9 (fun k hk => hk.1)
  have hH10 := Kd.H_mono (ok' := fun k => k ≠ g ∧ ¬ (w7.heap.size ≤ k)) hH9 (fun k hk => ⟨hk.1, by omega⟩)
  obtain ⟨hS11, hg11⟩ := Kd.S_seg (okg := fun k => w7.heap.size ≤ k) hH10 hp0 hp1 (seg := [v9]) (j := 1) (show 1 + 1 ≤ 4 from by decide) (x' := { rd_T37 a p with f1 := r }) (mkQ _ _ _ { rd_T37 a p with f1 := r } (Kd.Q_mono (Kd.Q_lower (Kd.Q_bound hQ9) (show w.heap.size ≤ w7.heap.size by have := hK8.1; omega)) (fun k hk => hk.2.1))) (fun k hk => .inr hk) (fun k hk => ⟨Nat.ne_of_gt (Nat.lt_of_lt_of_le hI7.lt hk), by omega⟩)
  obtain ⟨rows, _, hraw, _, _, hcc9, _⟩ := Kd.H_raw hH10 hp0 hp1
  have hcell9 : w9.cell? ⟨gb, p.toNat * 4 + 1, none⟩ = some v4 := hcc9 1 _ rfl
  obtain ⟨cs9, hcs9⟩ := Kd.R_typed hraw gb (by simp [Value.ownBlock])
  have hfz9 : w9.frozen? ⟨gb, p.toNat * 4 + 1, none⟩ = false := by simp [World.frozen?, hcs9]
  clear hraw hcc9 hcs9 hH10 hH9
  have hsl9 := Kd.Q_slice hQ9
  refine pure_ (i := 15) (N := some 43) (v := ?_) (a' := ?_) #[true, true, true, true, true, true, true, true, true, true, true, true, true, true, true, true, false, false] rfl rfl (by kernel_rfl) (fun _ _ _ h => h) (Or.inl ⟨by rfl, ?_⟩) ?_ ?_
  rotate_left
  · intro w'
    go_simp
    with_reducible rfl
  rotate_left
  · simp only [Act.put, List.setIfInBounds_toArray, List.set_cons_zero, List.set_cons_succ, i64_w, i32_w]
    rfl
  refine pure_ (i := 16) (N := some 44) (v := ?_) (a' := ?_) #[true, true, true, true, true, true, true, true, true, true, true, true, true, true, true, true, true, false] rfl rfl (by kernel_rfl) (fun _ _ _ h => h) (Or.inl ⟨by rfl, ?_⟩) ?_ ?_
  rotate_left
  · intro w'
    go_simp
    with_reducible rfl
  rotate_left
  · simp only [Act.put, List.setIfInBounds_toArray, List.set_cons_zero, List.set_cons_succ, i64_w, i32_w]
    rfl
  obtain ⟨A9, c9, hv9, _⟩ := hsl9
  refine last_ (i := 17) (N := none) #[true, true, true, true, true, true, true, true, true, true, true, true, true, true, true, true, true, true] rfl rfl (by kernel_rfl) (by decide) (fun K hK => ?_)
  refine skip_ (w1 := w9.setCell ⟨gb, p.toNat * 4 + 1, none⟩ v9) (by rfl) rfl ?_ ?_
  · subst hv9; go_simp
  refine hK.out _ _ ?_
  clear hK K
  refine done_ (by kernel_rfl) ?_
  have hS12 : Kd.S k37 37 (w9.setCell ⟨gb, p.toNat * 4 + 1, none⟩ v9) w.heap.size (fun k => k ≠ g) _ _ := hS11
  have hg12 : w9.grownBy (w9.setCell ⟨gb, p.toNat * 4 + 1, none⟩ v9) (some gb) := hg11
  have hI12 := hI9.grown hg12 (fun e => by injection e with e; have := Nat.lt_of_lt_of_le hglt hgb; omega)
  have hB12 := below_put hg12 hB9 (Nat.le_refl _) (by have := hI9.ge; omega)
  have hK12 := (hK8.trans hK9 (.inl rfl)).trans (KeepBut.of_grown hg12 g) (.inr ⟨gb, rfl, hgb⟩)
  revert hS12 hI12 hB12 hK12
  generalize w9.setCell ⟨gb, p.toNat * 4 + 1, none⟩ v9 = w13
  intro hS12 hI12 hB12 hK12
  clear hS11 hg11 hg12
  go_wp2
  go_ret
  exact ⟨_, rfl, Kd.S_mono hS12 (fun _ _ => trivial), hI12, hB12, hK12⟩
end Go.Proofs.YtekajandipdlhaaDoor.Core
namespace Go.Proofs.YtekajandipdlhaaDoor.P
open Go Go.RowKit Go.Shelf Go.Proofs.YtekajandipdlhaaDoorW.PrintWords Go.Proofs.YtekajandipdlhaaDoorW.PrintMore Go.Proofs.YtekajandipdlhaaDoor.Core
noncomputable def spec_anyGraph.f (s0_0 : List Int) (s0_1 : Int) : Option (List S37 × Int) := lim (fun k => spec_anyGraph.fk k s0_0 s0_1)
theorem spec_anyGraph.calls (g : Nat) (s0_0 : List Int) (s0_1 : Int) (r1 : List S37) (r2 : Int) (w0 w : World) (hI : IsS101 w0 w g s0_0 s0_1) (hB : Below w0.heap.size w0 w) (h : spec_anyGraph.f s0_0 s0_1 = some (r1, r2)) :
    Calls Tryd.prog 67 #[.pointer (some ⟨g, 0, none⟩)] w fun e w' => ∃ v0_ : Value, e = .returned (v0_) ∧ Kd.S k37 37 w' w.heap.size (fun _ => True) v0_ r1 ∧ IsS101 w0 w' g s0_0 r2 ∧ Below w0.heap.size w0 w' ∧ KeepBut w w' g none := by
  obtain ⟨k, hk⟩ := lim_some h
  clear h
  unfold spec_anyGraph.fk at hk
  obtain ⟨⟨a, a2⟩, h1, hk⟩ := Option.bind_eq_some_iff.1 hk
  by_cases hl : a.length = 0
  · rw [if_pos hl] at hk
    cases hk
    obtain rfl := List.eq_nil_of_length_eq_zero hl
    exact any_empty k g s0_0 s0_1 w0 w hI hB _ h1
  · rw [if_neg hl] at hk
    obtain ⟨⟨p, p2⟩, h2, hk⟩ := Option.bind_eq_some_iff.1 hk
    obtain ⟨⟨q, q2⟩, h3, hk⟩ := Option.bind_eq_some_iff.1 hk
    by_cases hp : ¬ (0 ≤ p ∧ p < (a.length : Int))
    · rw [if_pos hp] at hk; cases hk
    · rw [if_neg hp] at hk
      obtain ⟨hp0, hp1⟩ := Decidable.not_not.1 hp
      have hpos : 0 < a.length := by omega
      by_cases e0 : q = 0
      · rw [if_pos e0] at hk
        obtain ⟨⟨t, t2⟩, h4, hk⟩ := Option.bind_eq_some_iff.1 hk
        cases hk
        exact any_case0 k g s0_0 s0_1 w0 w hI hB a a2 p p2 q q2 hpos hp0 hp1 h1 h2 h3 e0 t _ h4
      · rw [if_neg e0] at hk
        by_cases e1 : q = 1
        · rw [if_pos e1] at hk
          obtain ⟨⟨b, b2⟩, h4, hk⟩ := Option.bind_eq_some_iff.1 hk
          by_cases hlen : (rd_T37 a p).f1.length < 1000
          · simp only [hlen, if_true] at hk
            obtain ⟨⟨c, c2⟩, h5, hk⟩ := Option.bind_eq_some_iff.1 hk
            cases hk
            exact any_case1 k g s0_0 s0_1 w0 w hI hB a a2 p p2 q q2 hpos hp0 hp1 h1 h2 h3 e1 b b2 c _ h4 hlen h5
          · simp only [hlen, if_false] at hk; cases hk
        · rw [if_neg e1] at hk
          by_cases e2 : q = 2
          · rw [if_pos e2] at hk
            obtain ⟨⟨t, t2⟩, h4, hk⟩ := Option.bind_eq_some_iff.1 hk
            cases hk
            exact any_case2 k g s0_0 s0_1 w0 w hI hB a a2 p p2 q q2 hpos hp0 hp1 h1 h2 h3 e2 t _ h4
          · rw [if_neg e2] at hk
            by_cases e3 : q = 3
            · rw [if_pos e3] at hk
              obtain ⟨⟨t, t2⟩, h4, hk⟩ := Option.bind_eq_some_iff.1 hk
              cases hk
              exact any_case3 k g s0_0 s0_1 w0 w hI hB a a2 p p2 q q2 hpos hp0 hp1 h1 h2 h3 e3 t _ h4
            · rw [if_neg e3] at hk
              by_cases e4 : q = 4
              · rw [if_pos e4] at hk
                obtain ⟨⟨c, c2⟩, h4, hk⟩ := Option.bind_eq_some_iff.1 hk
                by_cases hlen : a.length + c.length < 1000
                · simp only [hlen, if_true] at hk
                  cases hk
                  exact any_case4 k g s0_0 s0_1 w0 w hI hB a a2 p p2 q q2 hpos hp0 hp1 h1 h2 h3 e4 c _ hlen h4
                · simp only [hlen, if_false] at hk; cases hk
              · rw [if_neg e4] at hk
                cases hk
                exact any_same k g s0_0 s0_1 w0 w hI hB a a2 p p2 q _ hpos hp0 hp1 h1 h2 h3 ⟨e0, e1, e2, e3, e4⟩
end Go.Proofs.YtekajandipdlhaaDoor.P
namespace Go.Proofs.YtekajandipdlhaaDoor.Core
end Go.Proofs.YtekajandipdlhaaDoor.Core
end
section
namespace Go.Proofs.YtekajandipdlhaaDoor.P
open Go.RowKit Go.Proofs.YtekajandipdlhaaDoorW.PrintWords Go.Proofs.YtekajandipdlhaaDoorW.PrintLast Go.Proofs.YtekajandipdlhaaDoorW.PrintMore
attribute [local go_sem] max2_int min2_int max_two min_two max_three min_three max_four min_four   -- for this text's walks alone
set_option linter.unusedVariables false
set_option linter.unusedSimpArgs false
def spec_newReader.f (l0 : List Int) : Option (List Int × Int) := if (l0.length : Int) > 2000 then (if 2000 ≤ (l0.length : Int) then (some (l0.take 2000, 0)) else (none)) else (some (l0, 0))
set_option maxHeartbeats 8000000 in
set_option maxRecDepth 100000 in
theorem spec_newReader.calls (A0 : Option Addr) (c0 : Nat) (l0 : List Int) (r1 : List Int) (r2 : Int) (w0 w : World) (hB : Below w0.heap.size w0 w) (hr0 : Kd.C (Kd.int .u8) w0 A0 l0.length l0) (hc0 : l0.length ≤ c0) (h : spec_newReader.f l0 = some (r1, r2)) :
    Calls Tryd.prog 68 #[.slice A0 l0.length c0] w fun e w' => ∃ g_ : Nat, e = .returned (.pointer (some ⟨g_, 0, none⟩)) ∧ IsS101 w0 w' g_ r1 r2 ∧ Below w0.heap.size w0 w' ∧ Below w.heap.size w w' := by
  have hu101 := Tryd.underlying101
  have HR0 := Aside0.mk hr0
  have HC0 := Aside0.mk hc0
  clear hr0 hc0
  have HBW := Aside0.mk (Below.refl w.heap.size w)
  have HW0 := Aside0.mk hB.size
  have HB := Aside0.mk hB
  clear hB
  have H : (if (l0.length : Int) > 2000 then (if 2000 ≤ (l0.length : Int) then (some (l0.take 2000, 0)) else (none)) else (some (l0, 0))) = some (r1, r2) := h
  clear h
  by_cases c2 : (l0.length : Int) > 2000
  · rw [if_pos c2] at H
    have c2b0 : decide (2000 < (l0.length : Int)) = true := decide_eq_true c2
    have c2b1 : decide (2000 < l0.length) = true := decide_eq_true (by omega)
    clear c2
    by_cases c3 : 2000 ≤ (l0.length : Int)
    · rw [if_pos c3] at H
      have c3b0 := eq_true c3
      have c3b1 : decide (2000 ≤ (l0.length : Int)) = true := decide_eq_true c3
      clear c3
      simp only [Option.some.injEq, Prod.mk.injEq] at H
      obtain ⟨rfl, rfl⟩ := H
      obtain ⟨i04, hi04, _, hsz4, _⟩ := info_parts info5
      obtain ⟨hcut4, hA4, hC4⟩ := print_take_of (P := Tryd.prog) (Value.int .u8) 0 33 5 .i64 Tryd.underlying33 hi04 hsz4 A0 c0 l0 2000 (by omega) (of_decide_eq_true (by first | (with_reducible assumption) | assumption)) HC0.out
      have HR338 := Aside0.mk (Kd.C_of_reads (h1 := fun _ => rfl) (hA4 _ (Kd.reads_of_C HR0.out)))
      have HC338 := Aside0.mk hC4
      clear hA4 hC4 hi04 hsz4
      go_enter Tryd.func68, Tryd.ntmps68
      go_wp2_with (first | ((with_reducible refine gate_dst (N := 10) rfl ?_); refine box_event ?hg (N := 10) ?hd (cs := #[.slice A0 (l0.take 2000).length c0, .int .i64 0]) (t := 101) ?hr ?_; (case hd => rfl); (case hg => rfl); (case hr => first | (go_simp; done) | (go_simp; rfl)); intro gb339 hg w5 hbox hb; have n0_ := Aside0.mk (below_step HBW.out hb); have n1_ := Aside0.mk (below_step (by repeat (first | (with_reducible first | exact HB.out | apply below_alloc | apply pw_below_drewN | apply below_drew1) | exact HB.out)) hb); have n2_ := Aside0.mk (hbox); have n3_ := Aside0.mk ((by rw [hg]; exact (below_size (by repeat (first | (with_reducible first | exact HBW.out | apply below_alloc | apply pw_below_drewN | apply below_drew1) | exact HBW.out))) : w.heap.size ≤ gb339)); have n4_ := Aside0.mk ((Nat.le_trans HW0.out (by rw [hg]; exact (below_size (by repeat (first | (with_reducible first | exact HBW.out | apply below_alloc | apply pw_below_drewN | apply below_drew1) | exact HBW.out))) : w.heap.size ≤ gb339) : w0.heap.size ≤ gb339)); clear HBW; clear HB; have HBW := n0_; have HB := n1_; have BK339 := n2_; have GW339 := n3_; have GE339 := n4_; clear n0_ n1_ n2_ n3_ n4_; clear hb hbox hg))
      go_ret
      exact ⟨_, rfl, (show IsS101 w0 _ gb339 (l0.take 2000) 0 from ⟨_, _, by (with_reducible repeat (first | refine blk_drewN ?_ _ | refine blk_drew ?_ | refine blk_alloc ?_ _)); exact BK339.out, GE339.out, HR338.out⟩), by repeat (first | (with_reducible first | exact HB.out | apply below_alloc | apply pw_below_drewN | apply below_drew1 | refine below_set ?_ GE339.out) | exact HB.out), by repeat (first | (with_reducible first | exact HBW.out | apply below_alloc | apply pw_below_drewN | apply below_drew1 | refine below_set ?_ GW339.out) | exact HBW.out)⟩
    · rw [if_neg c3] at H
      exact absurd H (by simp)
  · rw [if_neg c2] at H
    have c2b0 : decide (2000 < (l0.length : Int)) = false := decide_eq_false c2
    have c2b1 : decide (2000 < l0.length) = false := decide_eq_false (by omega)
    clear c2
    simp only [Option.some.injEq, Prod.mk.injEq] at H
    obtain ⟨rfl, rfl⟩ := H
    go_enter Tryd.func68, Tryd.ntmps68
    go_wp2_with (first | ((with_reducible refine gate_dst (N := 10) rfl ?_); refine box_event ?hg (N := 10) ?hd (cs := #[.slice A0 l0.length c0, .int .i64 0]) (t := 101) ?hr ?_; (case hd => rfl); (case hg => rfl); (case hr => first | (go_simp; done) | (go_simp; rfl)); intro gb340 hg w6 hbox hb; have n0_ := Aside0.mk (below_step HBW.out hb); have n1_ := Aside0.mk (below_step (by repeat (first | (with_reducible first | exact HB.out | apply below_alloc | apply pw_below_drewN | apply below_drew1) | exact HB.out)) hb); have n2_ := Aside0.mk (hbox); have n3_ := Aside0.mk ((by rw [hg]; exact (below_size (by repeat (first | (with_reducible first | exact HBW.out | apply below_alloc | apply pw_below_drewN | apply below_drew1) | exact HBW.out))) : w.heap.size ≤ gb340)); have n4_ := Aside0.mk ((Nat.le_trans HW0.out (by rw [hg]; exact (below_size (by repeat (first | (with_reducible first | exact HBW.out | apply below_alloc | apply pw_below_drewN | apply below_drew1) | exact HBW.out))) : w.heap.size ≤ gb340) : w0.heap.size ≤ gb340)); clear HBW; clear HB; have HBW := n0_; have HB := n1_; have BK340 := n2_; have GW340 := n3_; have GE340 := n4_; clear n0_ n1_ n2_ n3_ n4_; clear hb hbox hg))
    go_ret
    exact ⟨_, rfl, (show IsS101 w0 _ gb340 l0 0 from ⟨_, _, by (with_reducible repeat (first | refine blk_drewN ?_ _ | refine blk_drew ?_ | refine blk_alloc ?_ _)); exact BK340.out, GE340.out, HR0.out⟩), by repeat (first | (with_reducible first | exact HB.out | apply below_alloc | apply pw_below_drewN | apply below_drew1 | refine below_set ?_ GE340.out) | exact HB.out), by repeat (first | (with_reducible first | exact HBW.out | apply below_alloc | apply pw_below_drewN | apply below_drew1 | refine below_set ?_ GW340.out) | exact HBW.out)⟩
noncomputable def spec_DrawUselessNeeds.f (l0 : List Int) : Option ((List (S37))) := (spec_newReader.f l0).bind fun bt341 => ((spec_anyGraph.f bt341.1 bt341.2).bind fun bt344 => (some bt344.1))
set_option maxHeartbeats 8000000 in
set_option maxRecDepth 100000 in
theorem spec_DrawUselessNeeds.calls (A0 : Option Addr) (c0 : Nat) (l0 : List Int) (r : List (S37)) (w : World) (hr0 : Kd.C (Kd.int .u8) w A0 l0.length l0) (hc0 : l0.length ≤ c0) (h : spec_DrawUselessNeeds.f l0 = some r) :
    Calls Tryd.prog 24 #[.slice A0 l0.length c0] w fun e w' => ∃ v0_ : Value, e = .returned (v0_) ∧ Kd.S k37 37 w' w.heap.size (fun _ => True) v0_ r ∧ Below w.heap.size w w' := by
  have HR0 := Aside0.mk hr0
  have HC0 := Aside0.mk hc0
  clear hr0 hc0
  have HB := Aside0.mk (Below.refl w.heap.size w)
  have H : ((spec_newReader.f l0).bind fun bt341 => ((spec_anyGraph.f bt341.1 bt341.2).bind fun bt344 => (some bt344.1))) = some r := h
  clear h
  replace H := Option.bind_eq_some_iff.mp H
  obtain ⟨⟨t341, t342⟩, A20, H⟩ := H
  replace H : ((spec_anyGraph.f t341 t342).bind fun bt344 => (some bt344.1)) = some r := H
  have A2 := Aside0.mk A20
  clear A20
  replace H := Option.bind_eq_some_iff.mp H
  obtain ⟨⟨t344, t347⟩, A30, H⟩ := H
  replace H : (some t344) = some r := H
  have A3 := Aside0.mk A30
  clear A30
  obtain rfl := Option.some.inj H
  go_enter Tryd.func24, Tryd.ntmps24
  go_wp2_with (first | ((with_reducible refine gate_callee (f := 68) rfl ?_); refine goesL_ (some 4) rfl rfl Tryd.func68 (by kernel_rfl) rfl #[.slice A0 l0.length c0] rfl (by (try simp only [List.map_toArray, List.map_cons, List.map_nil]); first | done | rfl | (simp only [List.length_drop, List.length_take]; rfl)) ?_; (with_reducible refine (spec_newReader.calls _ _ l0 t341 t342 w _ ?side1 ?side2 ?side3 A2.out).mono ?_); (case side1 => repeat (first | (with_reducible first | exact HB.out | apply below_alloc | apply pw_below_drewN | apply below_drew1) | exact HB.out)); (case side2 => exact HR0.out); (case side3 => exact HC0.out); rintro e w4 ⟨g343, rfl, hi, hb, hb2⟩; refine ⟨_, rfl, ?_⟩; have n0_ := Aside0.mk (hb); have n1_ := Aside0.mk (hi); clear HB; have HB := n0_; have HI343 := n1_; clear n0_ n1_; (try clear hb); (try clear hb2); (try clear hk); (try clear hi)) | ((with_reducible refine gate_callee (f := 67) rfl ?_); refine goesL_ (some 5) rfl rfl Tryd.func67 (by kernel_rfl) rfl #[.pointer (some ⟨g343, 0, none⟩)] rfl (by (try simp only [List.map_toArray, List.map_cons, List.map_nil]); first | done | rfl | (simp only [List.length_drop, List.length_take]; rfl)) ?_; (with_reducible refine (spec_anyGraph.calls g343 t341 t342 t344 t347 w _ ?side1 ?side2 A3.out).mono ?_); (case side1 => repeat (first | (with_reducible first | exact HI343.out | apply IsS101.alloc | apply IsS101.drewN | apply IsS101.drew | apply IsS101.set_1) | exact HI343.out)); (case side2 => repeat (first | (with_reducible first | exact HB.out | apply below_alloc | apply pw_below_drewN | apply below_drew1 | refine below_set ?_ (IsS101.ge HI343.out)) | exact HB.out)); rintro e w5 ⟨v345, rfl, ho0, hi, hb, hk⟩; refine ⟨_, rfl, ?_⟩; have n0_ := Aside0.mk (Kd.S_lower ho0 (below_size (by repeat (first | (with_reducible first | exact HB.out | apply below_alloc | apply pw_below_drewN | apply below_drew1 | refine below_set ?_ (IsS101.ge HI343.out)) | exact HB.out)))); have n1_ := Aside0.mk (hb); have n2_ := Aside0.mk (hi); clear HB; clear HI343; have HO346 := n0_; have HB := n1_; have HI343 := n2_; clear n0_ n1_ n2_; (try clear hb); (try clear hb2); (try clear hk); (try clear hi); (try clear ho0)))
  go_ret
  exact ⟨_, by first | rfl | (simp [errW_none, errW_some] <;> rfl) | (simp [*, errW_none, errW_some] <;> rfl), by (with_reducible repeat (first | apply Kd.S_alloc | apply Kd.S_drewN | apply Kd.S_drew)); exact HO346.out, by repeat (first | (with_reducible first | exact HB.out | apply below_alloc | apply pw_below_drewN | apply below_drew1 | refine below_set ?_ (IsS101.ge HI343.out)) | exact HB.out)⟩
end Go.Proofs.YtekajandipdlhaaDoor.P
end
