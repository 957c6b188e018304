/- What the proofs of several laws use: words and contracts, part 4 of 7. -/
import Derived.Test.YtpibdjkajgfgjaaDoorZCD13
import Derived.Laws.Bits64
section
namespace Go.Proofs.YtpibdjkajgfgjaaDoor.P
open Go.RowKit Go.Proofs.YtpibdjkajgfgjaaDoorW.PrintWords Go.Proofs.YtpibdjkajgfgjaaDoorW.PrintLast Go.Proofs.YtpibdjkajgfgjaaDoorW.PrintMore
attribute [local go_sem] max2_int min2_int max_two min_two max_three min_three max_four min_four   -- for this text's walks alone
set_option linter.unusedVariables false
set_option linter.unusedSimpArgs false
def spec_ready.l0 : Nat → List (S48) → List Int → List Int → Int → Option (List Int)
  | 0, _, _, _, _ => none
  | k + 1, x0, x1, x5, x6 => if x6 < (x0.length : Int) then ((spec_isIn.f k x1 x6).bind fun t402 => (if t402 = true then (spec_ready.l0 k x0 x1 x5 (wrap64 (x6 + 1))) else (if 0 ≤ x6 then ((spec_allDone.f k ((rd_T48 x0 x6).f1) x1).bind fun t404 => (if t404 = true then (if x5.length < 17592186044416 then (spec_ready.l0 k x0 x1 (x5 ++ [x6]) (wrap64 (x6 + 1))) else (none)) else (spec_ready.l0 k x0 x1 x5 (wrap64 (x6 + 1))))) else (none)))) else (some x5)
def spec_ready.f (k : Nat) (l0 : List (S48)) (l1 : List Int) : Option (List Int) := spec_ready.l0 k l0 l1 (([] : List Int)) 0
theorem spec_ready.mono_l : ∀ k, (∀ y0 y1 y2 y3, LeO (spec_ready.l0 k y0 y1 y2 y3) (spec_ready.l0 (k + 1) y0 y1 y2 y3))
  | 0 => fun _ _ _ _ r h => by simp [spec_ready.l0] at h
  | k + 1 => by
    have ih0 := spec_ready.mono_l k
    · intro y0 y1 y2 y3
      unfold spec_ready.l0
      repeat' first
      | (with_reducible exact ih0 _ _ _ _)
      | (with_reducible exact spec_allDone.mono _ _ _)
      | (with_reducible exact spec_isIn.mono _ _ _)
      | (with_reducible exact LeO.refl _)
      | (with_reducible exact LeO.none _)
      | (with_reducible refine LeO.ite ?_ ?_)
      | (with_reducible refine LeO.bind ?_ (fun _ => ?_))
      | exact ih0 _ _ _ _
      | exact spec_allDone.mono _ _ _
      | exact spec_isIn.mono _ _ _
      | exact LeO.none _
      | refine LeO.ite ?_ ?_
      | refine LeO.bind ?_ (fun _ => ?_)
theorem spec_ready.mono : ∀ a0 a1 k, LeO (spec_ready.f k a0 a1) (spec_ready.f (k + 1) a0 a1) := by
  intro a0 a1 k
  have ih0 := spec_ready.mono_l k
  unfold spec_ready.f
  repeat' first
      | (with_reducible exact ih0 _ _ _ _)
      | (with_reducible exact spec_allDone.mono _ _ _)
      | (with_reducible exact spec_isIn.mono _ _ _)
      | (with_reducible exact LeO.refl _)
      | (with_reducible exact LeO.none _)
      | (with_reducible refine LeO.ite ?_ ?_)
      | (with_reducible refine LeO.bind ?_ (fun _ => ?_))
      | exact ih0 _ _ _ _
      | exact spec_allDone.mono _ _ _
      | exact spec_isIn.mono _ _ _
      | exact LeO.none _
      | refine LeO.ite ?_ ?_
      | refine LeO.bind ?_ (fun _ => ?_)
set_option maxHeartbeats 8000000 in
set_option maxRecDepth 100000 in
theorem spec_ready.calls (k : Nat) (A0 : Option Addr) (c0 : Nat) (l0 : List (S48)) (A1 : Option Addr) (c1 : Nat) (l1 : List Int) (r : List Int) (w : World) (hr0 : Kd.C k48 w A0 l0.length l0) (hc0 : l0.length ≤ c0) (hr1 : Kd.C (Kd.int .i64) w A1 l1.length l1) (hc1 : l1.length ≤ c1) (h : spec_ready.f k l0 l1 = some r) :
    Calls Tryd.prog 97 #[.slice A0 l0.length c0, .slice A1 l1.length c1] w fun e w' => ∃ v0_ : Value, e = .returned (v0_) ∧ Kd.R (Kd.int .i64) 3 w' w.heap.size (fun _ => True) v0_ r ∧ Below w.heap.size w w' := by
  have HR0 := Aside0.mk hr0
  have HC0 := Aside0.mk hc0
  clear hr0 hc0
  have HR1 := Aside0.mk hr1
  have HC1 := Aside0.mk hc1
  clear hr1 hc1
  have HB := Aside0.mk (Below.refl w.heap.size w)
  have H : (spec_ready.l0 k l0 l1 (([] : List Int)) 0) = some r := h
  clear h
  obtain ⟨y399, hy399⟩ : ∃ y_ : List Int, y_ = (([] : List Int)) := ⟨_, rfl⟩
  replace H : (spec_ready.l0 k l0 l1 y399 0) = some r := by first | (rw [hy399]; with_reducible exact H) | (have H2_ := (Option.bind_some _ _).symm.trans H; rw [hy399]; with_reducible exact H2_) | (have H2_ := (Option.bind_some _ _).symm.trans H; with_reducible exact H2_) | with_reducible exact H | (rw [hy399]; exact H) | exact H
  have Ny399 := Aside0.mk hy399
  clear hy399
  have H' := Aside0.mk H
  clear H
  go_enter Tryd.func97, Tryd.ntmps97
  go_wp2_with (first | ((with_reducible refine gate_dst (N := 7) rfl ?_); refine Kd.R_lit (Kd.int .i64) _ 3 ?hg (N := 7) ?hd (xs := ([] : List Int)) (inner := []) (ok := fun _ => True) (okp := fun _ => True) ?hr ?hp (fun _ hk => hk) trivial (Below.refl _ _) (Nat.le_refl _) (by simp) ?_; (case hd => rfl); (case hg => rfl); (case hr => first | (go_simp; done) | (go_simp; rfl)); (case hp => exact (Reps.none _ _)); intro v400 w3 ho4 hb hg_ hnew_; clear hg_ hnew_; (first | rw [← Ny399.out] at ho4 | (simp only [Int.reduceToNat] at ho4; rw [← Ny399.out] at ho4)); have n0_ := Aside0.mk (Kd.R_lower ho4 (below_size (by repeat (first | (with_reducible first | exact HB.out | apply below_alloc | apply pw_below_drewN | apply below_drew1) | exact HB.out)))); have n1_ := Aside0.mk (below_step (by repeat (first | (with_reducible first | exact HB.out | apply below_alloc | apply pw_below_drewN | apply below_drew1) | exact HB.out)) hb); clear HB; have HO401 := n0_; have HB := n1_; clear n0_ n1_; clear hb ho4))
  go_loopg [5, 6] k (fun kq v5 v6 w' => ∃ (x5_1 : List Int) (x6_1 : Int), v6 = .int .i64 x6_1 ∧ Aside0 (spec_ready.l0 kq l0 l1 x5_1 x6_1 = some r) ∧ Aside0 (kq ≤ k) ∧ Aside0 (Kd.R (Kd.int .i64) 3 w' w.heap.size (fun _ => True) v5 x5_1) ∧ Aside0 (Below w.heap.size w w'))
  case atStart => exact ⟨(y399), (0), (by first | rfl | (simp; done) | (simp [*]; done)), H', ⟨Nat.le_refl _⟩, ⟨by (with_reducible repeat (first | apply Kd.R_alloc | apply Kd.R_drewN | apply Kd.R_drew)); exact HO401.out⟩, ⟨by repeat (first | (with_reducible first | exact HB.out | apply below_alloc | apply pw_below_drewN | apply below_drew1) | exact HB.out)⟩⟩
  case round =>
    clear H'
    try clear c1
    try clear p2
    obtain ⟨x5_1, x6_1, rfl, HA, HK1, HO_5, HB⟩ := hrel
    cases gk with
    | zero => exact absurd HA.out (by simp [spec_ready.l0])
    | succ k1 =>
      have H := HA.out
      clear HA
      simp only [spec_ready.l0] at H
      by_cases c5 : x6_1 < (l0.length : Int)
      · rw [if_pos c5] at H
        have c5b0 : decide (x6_1 < (l0.length : Int)) = true := decide_eq_true c5
        clear c5
        replace H := Option.bind_eq_some_iff.mp H
        obtain ⟨t402, A60, H⟩ := H
        replace H : (if t402 = true then (spec_ready.l0 k1 l0 l1 x5_1 (wrap64 (x6_1 + 1))) else (if 0 ≤ x6_1 then ((spec_allDone.f k1 ((rd_T48 l0 x6_1).f1) l1).bind fun t404 => (if t404 = true then (if x5_1.length < 17592186044416 then (spec_ready.l0 k1 l0 l1 (x5_1 ++ [x6_1]) (wrap64 (x6_1 + 1))) else (none)) else (spec_ready.l0 k1 l0 l1 x5_1 (wrap64 (x6_1 + 1))))) else (none))) = some r := H
        have A6 := Aside0.mk A60
        clear A60
        by_cases c7 : t402 = true
        · subst c7
          have H1 : (spec_ready.l0 k1 l0 l1 x5_1 (wrap64 (x6_1 + 1))) = some r := by rw [if_pos rfl] at H; exact H
          clear H
          have H := H1
          clear H1
          have H' := Aside0.mk H
          clear H
          go_wp2_with (first | ((with_reducible refine gate_callee (f := 56) rfl ?_); refine goesL_ (some 16) rfl rfl Tryd.func56 (by kernel_rfl) rfl #[.slice A1 l1.length c1, .int .i64 x6_1] rfl (by (try simp only [List.map_toArray, List.map_cons, List.map_nil]); first | done | rfl | (simp only [List.length_drop, List.length_take]; rfl)) ?_; (with_reducible refine (spec_isIn.calls k1 _ _ l1 x6_1 true _ ?side1 ?side2 A6.out).mono ?_); (case side1 => repeat (first | exact (Kd.C_below HR1.out HB.out) | (with_reducible refine Kd.C_alloc ?_ _) | (with_reducible refine Kd.C_drewN ?_ _) | (with_reducible refine Kd.C_drew ?_))); (case side2 => exact HC1.out); rintro e w' ⟨rfl, ⟨nd, rfl⟩⟩; refine ⟨_, rfl, ?_⟩))
          go_roundg k1
          case measure => have := HK1.out; omega
          case rel => exact ⟨(x5_1), (wrap64 (x6_1 + 1)), (by first | rfl | (simp; done) | (simp [*]; done)), H', ⟨by have := HK1.out; omega⟩, ⟨by (with_reducible repeat (first | apply Kd.R_alloc | apply Kd.R_drewN | apply Kd.R_drew)); exact HO_5.out⟩, ⟨by repeat (first | (with_reducible first | exact HB.out | apply below_alloc | apply pw_below_drewN | apply below_drew1) | exact HB.out)⟩⟩
        · replace c7 := Bool.eq_false_iff.mpr c7
          subst c7
          have H1 : (if 0 ≤ x6_1 then ((spec_allDone.f k1 ((rd_T48 l0 x6_1).f1) l1).bind fun t404 => (if t404 = true then (if x5_1.length < 17592186044416 then (spec_ready.l0 k1 l0 l1 (x5_1 ++ [x6_1]) (wrap64 (x6_1 + 1))) else (none)) else (spec_ready.l0 k1 l0 l1 x5_1 (wrap64 (x6_1 + 1))))) else (none)) = some r := by rw [if_neg (show ¬ (false = true) by decide)] at H; exact H
          clear H
          have H := H1
          clear H1
          by_cases c8 : 0 ≤ x6_1
          · rw [if_pos c8] at H
            have c8b0 : decide (0 ≤ x6_1) = true := decide_eq_true c8
            clear c8
            replace H := Option.bind_eq_some_iff.mp H
            obtain ⟨t404, A90, H⟩ := H
            replace H : (if t404 = true then (if x5_1.length < 17592186044416 then (spec_ready.l0 k1 l0 l1 (x5_1 ++ [x6_1]) (wrap64 (x6_1 + 1))) else (none)) else (spec_ready.l0 k1 l0 l1 x5_1 (wrap64 (x6_1 + 1)))) = some r := H
            have A9 := Aside0.mk A90
            clear A90
            by_cases c10 : t404 = true
            · subst c10
              have H1 : (if x5_1.length < 17592186044416 then (spec_ready.l0 k1 l0 l1 (x5_1 ++ [x6_1]) (wrap64 (x6_1 + 1))) else (none)) = some r := by rw [if_pos rfl] at H; exact H
              clear H
              have H := H1
              clear H1
              by_cases c11 : x5_1.length < 17592186044416
              · rw [if_pos c11] at H
                have LMc11 := Aside0.mk c11
                clear c11
                obtain ⟨y405, hy405⟩ : ∃ y_ : List Int, y_ = (x5_1 ++ [x6_1]) := ⟨_, rfl⟩
                replace H : (spec_ready.l0 k1 l0 l1 y405 (wrap64 (x6_1 + 1))) = some r := by first | (rw [hy405]; with_reducible exact H) | (have H2_ := (Option.bind_some _ _).symm.trans H; rw [hy405]; with_reducible exact H2_) | (have H2_ := (Option.bind_some _ _).symm.trans H; with_reducible exact H2_) | with_reducible exact H | (rw [hy405]; exact H) | exact H
                have Ny405 := Aside0.mk hy405
                clear hy405
                have H' := Aside0.mk H
                clear H
                go_wp2_with (first | ((with_reducible refine gate_callee (f := 56) rfl ?_); refine goesL_ (some 16) rfl rfl Tryd.func56 (by kernel_rfl) rfl #[.slice A1 l1.length c1, .int .i64 x6_1] rfl (by (try simp only [List.map_toArray, List.map_cons, List.map_nil]); first | done | rfl | (simp only [List.length_drop, List.length_take]; rfl)) ?_; (with_reducible refine (spec_isIn.calls k1 _ _ l1 x6_1 false _ ?side1 ?side2 A6.out).mono ?_); (case side1 => repeat (first | exact (Kd.C_below HR1.out HB.out) | (with_reducible refine Kd.C_alloc ?_ _) | (with_reducible refine Kd.C_drewN ?_ _) | (with_reducible refine Kd.C_drew ?_))); (case side2 => exact HC1.out); rintro e w' ⟨rfl, ⟨nd, rfl⟩⟩; refine ⟨_, rfl, ?_⟩; have p403 : 0 ≤ (x6_1 : Int) := of_decide_eq_true (by first | (with_reducible assumption) | assumption); have q403 : x6_1 < (l0.length : Int) := of_decide_eq_true (by first | (with_reducible assumption) | assumption); obtain ⟨ad403, A403_1, c403_1, e403, hx403_0, hx403_1, hx403_2, hx403_3, hl403_1, hi403_1⟩ := at_T48 HR0.out x6_1 p403 q403; cases e403; replace hx403_0 := (HB.out.cell (World.block_lt_of_cell? w _ hx403_0)).trans hx403_0; replace hx403_1 := (HB.out.cell (World.block_lt_of_cell? w _ hx403_1)).trans hx403_1; replace hx403_2 := (HB.out.cell (World.block_lt_of_cell? w _ hx403_2)).trans hx403_2; replace hx403_3 := (HB.out.cell (World.block_lt_of_cell? w _ hx403_3)).trans hx403_3; have HR403_1 := Aside0.mk hi403_1; have HC403_1 := Aside0.mk hl403_1; clear hi403_1 hl403_1; replace p403 := eq_true p403; replace q403 := eq_true q403) | (go_at_call 108; (with_reducible refine (spec_allDone.calls k1 _ _ ((rd_T48 l0 x6_1).f1) _ _ l1 true _ ?side1 ?side2 ?side3 ?side4 A9.out).mono ?_); (case side1 => repeat (first | exact (Kd.C_below HR403_1.out (by repeat (first | (with_reducible first | exact HB.out | apply below_alloc | apply pw_below_drewN | apply below_drew1) | exact HB.out))) | (with_reducible refine Kd.C_alloc ?_ _) | (with_reducible refine Kd.C_drewN ?_ _) | (with_reducible refine Kd.C_drew ?_))); (case side2 => exact HC403_1.out); (case side3 => repeat (first | exact (Kd.C_below HR1.out (by repeat (first | (with_reducible first | exact HB.out | apply below_alloc | apply pw_below_drewN | apply below_drew1) | exact HB.out))) | (with_reducible refine Kd.C_alloc ?_ _) | (with_reducible refine Kd.C_drewN ?_ _) | (with_reducible refine Kd.C_drew ?_))); (case side4 => exact HC1.out); rintro e w' ⟨rfl, ⟨nd, rfl⟩⟩) | ((with_reducible refine gate_builtin (b := .append) (xs := #[.tmp 27, .tmp 29]) rfl ?_); at_builtin; refine Kd.R_append (Kd.int .i64) (w0 := w) w.heap.size rfl (.tmp 27) (.tmp 29) 23 3 (.int .i64 0) 8 rfl Tryd.underlying23 info3 rfl (by decide) (by omega) u5 x5_1 x6_1 [.int .i64 x6_1] (fun _ => True) (fun _ => False) rfl rfl ?aP (fun _ hk => hk.elim) ?aF ?aO ?aB ?aS ?aL ?_; (case aP => exact rfl); (case aB => exact (by repeat (first | (with_reducible first | exact HB.out | apply below_alloc | apply pw_below_drewN | apply below_drew1) | exact HB.out))); (case aF => exact (fun _ _ => trivial)); (case aO => exact (by (with_reducible repeat (first | apply Kd.R_alloc | apply Kd.R_drewN | apply Kd.R_drew)); exact HO_5.out)); (case aS => exact (below_size (by repeat (first | (with_reducible first | exact HB.out | apply below_alloc | apply pw_below_drewN | apply below_drew1) | exact HB.out)))); (case aL => have := LMc11.out; omega); intro v406 w12 ho hb hg hat; rw [← Ny405.out] at ho; have n0_ := Aside0.mk (hb); have n1_ := Aside0.mk (ho); clear HB; clear HO_5; have HB := n0_; have HO407 := n1_; clear n0_ n1_; clear ho hb hg hat))
                go_roundg k1
                case measure => have := HK1.out; omega
                case rel => exact ⟨(y405), (wrap64 (x6_1 + 1)), (by first | rfl | (simp; done) | (simp [*]; done)), H', ⟨by have := HK1.out; omega⟩, ⟨by (with_reducible repeat (first | apply Kd.R_alloc | apply Kd.R_drewN | apply Kd.R_drew)); exact HO407.out⟩, ⟨by repeat (first | (with_reducible first | exact HB.out | apply below_alloc | apply pw_below_drewN | apply below_drew1) | exact HB.out)⟩⟩
              · rw [if_neg c11] at H
                exact absurd H (by simp)
            · replace c10 := Bool.eq_false_iff.mpr c10
              subst c10
              have H1 : (spec_ready.l0 k1 l0 l1 x5_1 (wrap64 (x6_1 + 1))) = some r := by rw [if_neg (show ¬ (false = true) by decide)] at H; exact H
              clear H
              have H := H1
              clear H1
              have H' := Aside0.mk H
              clear H
              go_wp2_with (first | ((with_reducible refine gate_callee (f := 56) rfl ?_); refine goesL_ (some 16) rfl rfl Tryd.func56 (by kernel_rfl) rfl #[.slice A1 l1.length c1, .int .i64 x6_1] rfl (by (try simp only [List.map_toArray, List.map_cons, List.map_nil]); first | done | rfl | (simp only [List.length_drop, List.length_take]; rfl)) ?_; (with_reducible refine (spec_isIn.calls k1 _ _ l1 x6_1 false _ ?side1 ?side2 A6.out).mono ?_); (case side1 => repeat (first | exact (Kd.C_below HR1.out HB.out) | (with_reducible refine Kd.C_alloc ?_ _) | (with_reducible refine Kd.C_drewN ?_ _) | (with_reducible refine Kd.C_drew ?_))); (case side2 => exact HC1.out); rintro e w' ⟨rfl, ⟨nd, rfl⟩⟩; refine ⟨_, rfl, ?_⟩; have p403 : 0 ≤ (x6_1 : Int) := of_decide_eq_true (by first | (with_reducible assumption) | assumption); have q403 : x6_1 < (l0.length : Int) := of_decide_eq_true (by first | (with_reducible assumption) | assumption); obtain ⟨ad403, A403_1, c403_1, e403, hx403_0, hx403_1, hx403_2, hx403_3, hl403_1, hi403_1⟩ := at_T48 HR0.out x6_1 p403 q403; cases e403; replace hx403_0 := (HB.out.cell (World.block_lt_of_cell? w _ hx403_0)).trans hx403_0; replace hx403_1 := (HB.out.cell (World.block_lt_of_cell? w _ hx403_1)).trans hx403_1; replace hx403_2 := (HB.out.cell (World.block_lt_of_cell? w _ hx403_2)).trans hx403_2; replace hx403_3 := (HB.out.cell (World.block_lt_of_cell? w _ hx403_3)).trans hx403_3; have HR403_1 := Aside0.mk hi403_1; have HC403_1 := Aside0.mk hl403_1; clear hi403_1 hl403_1; replace p403 := eq_true p403; replace q403 := eq_true q403) | (go_at_call 108; (with_reducible refine (spec_allDone.calls k1 _ _ ((rd_T48 l0 x6_1).f1) _ _ l1 false _ ?side1 ?side2 ?side3 ?side4 A9.out).mono ?_); (case side1 => repeat (first | exact (Kd.C_below HR403_1.out (by repeat (first | (with_reducible first | exact HB.out | apply below_alloc | apply pw_below_drewN | apply below_drew1) | exact HB.out))) | (with_reducible refine Kd.C_alloc ?_ _) | (with_reducible refine Kd.C_drewN ?_ _) | (with_reducible refine Kd.C_drew ?_))); (case side2 => exact HC403_1.out); (case side3 => repeat (first | exact (Kd.C_below HR1.out (by repeat (first | (with_reducible first | exact HB.out | apply below_alloc | apply pw_below_drewN | apply below_drew1) | exact HB.out))) | (with_reducible refine Kd.C_alloc ?_ _) | (with_reducible refine Kd.C_drewN ?_ _) | (with_reducible refine Kd.C_drew ?_))); (case side4 => exact HC1.out); rintro e w' ⟨rfl, ⟨nd, rfl⟩⟩))
              go_roundg k1
              case measure => have := HK1.out; omega
              case rel => exact ⟨(x5_1), (wrap64 (x6_1 + 1)), (by first | rfl | (simp; done) | (simp [*]; done)), H', ⟨by have := HK1.out; omega⟩, ⟨by (with_reducible repeat (first | apply Kd.R_alloc | apply Kd.R_drewN | apply Kd.R_drew)); exact HO_5.out⟩, ⟨by repeat (first | (with_reducible first | exact HB.out | apply below_alloc | apply pw_below_drewN | apply below_drew1) | exact HB.out)⟩⟩
          · rw [if_neg c8] at H
            exact absurd H (by simp)
      · rw [if_neg c5] at H
        have c5b0 : decide (x6_1 < (l0.length : Int)) = false := decide_eq_false c5
        clear c5
        obtain rfl := Option.some.inj H
        go_wp2
        go_ret
        exact ⟨_, by first | rfl | (simp [errW_none, errW_some] <;> rfl) | (simp [*, errW_none, errW_some] <;> rfl), by (with_reducible repeat (first | apply Kd.R_alloc | apply Kd.R_drewN | apply Kd.R_drew)); exact HO_5.out, by repeat (first | (with_reducible first | exact HB.out | apply below_alloc | apply pw_below_drewN | apply below_drew1) | exact HB.out)⟩
end Go.Proofs.YtpibdjkajgfgjaaDoor.P
end
section
namespace Go.Proofs.YtpibdjkajgfgjaaDoor.P
open Go.RowKit Go.Proofs.YtpibdjkajgfgjaaDoorW.PrintWords Go.Proofs.YtpibdjkajgfgjaaDoorW.PrintLast Go.Proofs.YtpibdjkajgfgjaaDoorW.PrintMore
attribute [local go_sem] max2_int min2_int max_two min_two max_three min_three max_four min_four   -- for this text's walks alone
set_option linter.unusedVariables false
set_option linter.unusedSimpArgs false
def spec_ReadyTasks.f (k : Nat) (l0 : List (S48)) (l1 : List Int) : Option (List Int) := (spec_validDone.f k l0 l1).bind fun t408 => (if t408 = true then ((spec_ready.f k l0 l1).bind fun t409 => (some t409)) else (some ([] : List Int)))
theorem spec_ReadyTasks.mono : ∀ a0 a1 k, LeO (spec_ReadyTasks.f k a0 a1) (spec_ReadyTasks.f (k + 1) a0 a1) := by
  intro a0 a1 k
  unfold spec_ReadyTasks.f
  repeat' first
      | (with_reducible exact spec_ready.mono _ _ _)
      | (with_reducible exact spec_validDone.mono _ _ _)
      | (with_reducible exact LeO.refl _)
      | (with_reducible exact LeO.none _)
      | (with_reducible refine LeO.ite ?_ ?_)
      | (with_reducible refine LeO.bind ?_ (fun _ => ?_))
      | exact spec_ready.mono _ _ _
      | exact spec_validDone.mono _ _ _
      | exact LeO.none _
      | refine LeO.ite ?_ ?_
      | refine LeO.bind ?_ (fun _ => ?_)
set_option maxHeartbeats 8000000 in
set_option maxRecDepth 100000 in
theorem spec_ReadyTasks.calls (k : Nat) (A0 : Option Addr) (c0 : Nat) (l0 : List (S48)) (A1 : Option Addr) (c1 : Nat) (l1 : List Int) (r : List Int) (w : World) (hr0 : Kd.C k48 w A0 l0.length l0) (hc0 : l0.length ≤ c0) (hr1 : Kd.C (Kd.int .i64) w A1 l1.length l1) (hc1 : l1.length ≤ c1) (h : spec_ReadyTasks.f k l0 l1 = some r) :
    Calls Tryd.prog 122 #[.slice A0 l0.length c0, .slice A1 l1.length c1] w fun e w' => ∃ v0_ : Value, e = .returned (v0_) ∧ Kd.R (Kd.int .i64) 3 w' w.heap.size (fun _ => True) v0_ r ∧ Below w.heap.size w w' := by
  have HR0 := Aside0.mk hr0
  have HC0 := Aside0.mk hc0
  clear hr0 hc0
  have HR1 := Aside0.mk hr1
  have HC1 := Aside0.mk hc1
  clear hr1 hc1
  have HB := Aside0.mk (Below.refl w.heap.size w)
  have H : ((spec_validDone.f k l0 l1).bind fun t408 => (if t408 = true then ((spec_ready.f k l0 l1).bind fun t409 => (some t409)) else (some ([] : List Int)))) = some r := h
  clear h
  replace H := Option.bind_eq_some_iff.mp H
  obtain ⟨t408, A30, H⟩ := H
  replace H : (if t408 = true then ((spec_ready.f k l0 l1).bind fun t409 => (some t409)) else (some ([] : List Int))) = some r := H
  have A3 := Aside0.mk A30
  clear A30
  by_cases c4 : t408 = true
  · subst c4
    have H1 : ((spec_ready.f k l0 l1).bind fun t409 => (some t409)) = some r := by rw [if_pos rfl] at H; exact H
    clear H
    have H := H1
    clear H1
    replace H := Option.bind_eq_some_iff.mp H
    obtain ⟨t409, A50, H⟩ := H
    replace H : (some t409) = some r := H
    have A5 := Aside0.mk A50
    clear A50
    obtain rfl := Option.some.inj H
    go_enter Tryd.func122, Tryd.ntmps122
    go_wp2_with (first | ((with_reducible refine gate_callee (f := 73) rfl ?_); refine goesL_ (some 7) rfl rfl Tryd.func73 (by kernel_rfl) rfl #[.slice A0 l0.length c0, .slice A1 l1.length c1] rfl (by (try simp only [List.map_toArray, List.map_cons, List.map_nil]); first | done | rfl | (simp only [List.length_drop, List.length_take]; rfl)) ?_; (with_reducible refine (spec_validDone.calls k _ _ l0 _ _ l1 true _ ?side1 ?side2 ?side3 ?side4 A3.out).mono ?_); (case side1 => repeat (first | exact HR0.out | (with_reducible refine Kd.C_alloc ?_ _) | (with_reducible refine Kd.C_drewN ?_ _) | (with_reducible refine Kd.C_drew ?_))); (case side2 => exact HC0.out); (case side3 => repeat (first | exact HR1.out | (with_reducible refine Kd.C_alloc ?_ _) | (with_reducible refine Kd.C_drewN ?_ _) | (with_reducible refine Kd.C_drew ?_))); (case side4 => exact HC1.out); rintro e w6 ⟨rfl, hb⟩; refine ⟨_, rfl, ?_⟩; have n0_ := Aside0.mk (below_step (by repeat (first | (with_reducible first | exact HB.out | apply below_alloc | apply pw_below_drewN | apply below_drew1) | exact HB.out)) hb); clear HB; have HB := n0_; clear n0_; (try clear hb); (try clear hb2); (try clear hk); (try clear hi)) | ((with_reducible refine gate_callee (f := 97) rfl ?_); refine goesL_ (some 11) rfl rfl Tryd.func97 (by kernel_rfl) rfl #[.slice A0 l0.length c0, .slice A1 l1.length c1] rfl (by (try simp only [List.map_toArray, List.map_cons, List.map_nil]); first | done | rfl | (simp only [List.length_drop, List.length_take]; rfl)) ?_; (with_reducible refine (spec_ready.calls k _ _ l0 _ _ l1 t409 _ ?side1 ?side2 ?side3 ?side4 A5.out).mono ?_); (case side1 => repeat (first | exact (Kd.C_below HR0.out HB.out) | (with_reducible refine Kd.C_alloc ?_ _) | (with_reducible refine Kd.C_drewN ?_ _) | (with_reducible refine Kd.C_drew ?_))); (case side2 => exact HC0.out); (case side3 => repeat (first | exact (Kd.C_below HR1.out HB.out) | (with_reducible refine Kd.C_alloc ?_ _) | (with_reducible refine Kd.C_drewN ?_ _) | (with_reducible refine Kd.C_drew ?_))); (case side4 => exact HC1.out); rintro e w7 ⟨v410, rfl, ho0, hb⟩; refine ⟨_, rfl, ?_⟩; have n0_ := Aside0.mk (Kd.R_lower ho0 (below_size (by repeat (first | (with_reducible first | exact HB.out | apply below_alloc | apply pw_below_drewN | apply below_drew1) | exact HB.out)))); have n1_ := Aside0.mk (below_step (by repeat (first | (with_reducible first | exact HB.out | apply below_alloc | apply pw_below_drewN | apply below_drew1) | exact HB.out)) hb); clear HB; have HO411 := n0_; have HB := n1_; clear n0_ n1_; (try clear hb); (try clear hb2); (try clear hk); (try clear hi); (try clear ho0)))
    go_ret
    exact ⟨_, by first | rfl | (simp [errW_none, errW_some] <;> rfl) | (simp [*, errW_none, errW_some] <;> rfl), by (with_reducible repeat (first | apply Kd.R_alloc | apply Kd.R_drewN | apply Kd.R_drew)); exact HO411.out, by repeat (first | (with_reducible first | exact HB.out | apply below_alloc | apply pw_below_drewN | apply below_drew1) | exact HB.out)⟩
  · replace c4 := Bool.eq_false_iff.mpr c4
    subst c4
    have H1 : (some ([] : List Int)) = some r := by rw [if_neg (show ¬ (false = true) by decide)] at H; exact H
    clear H
    have H := H1
    clear H1
    obtain rfl := Option.some.inj H
    go_enter Tryd.func122, Tryd.ntmps122
    go_wp2_with (first | ((with_reducible refine gate_callee (f := 73) rfl ?_); refine goesL_ (some 7) rfl rfl Tryd.func73 (by kernel_rfl) rfl #[.slice A0 l0.length c0, .slice A1 l1.length c1] rfl (by (try simp only [List.map_toArray, List.map_cons, List.map_nil]); first | done | rfl | (simp only [List.length_drop, List.length_take]; rfl)) ?_; (with_reducible refine (spec_validDone.calls k _ _ l0 _ _ l1 false _ ?side1 ?side2 ?side3 ?side4 A3.out).mono ?_); (case side1 => repeat (first | exact HR0.out | (with_reducible refine Kd.C_alloc ?_ _) | (with_reducible refine Kd.C_drewN ?_ _) | (with_reducible refine Kd.C_drew ?_))); (case side2 => exact HC0.out); (case side3 => repeat (first | exact HR1.out | (with_reducible refine Kd.C_alloc ?_ _) | (with_reducible refine Kd.C_drewN ?_ _) | (with_reducible refine Kd.C_drew ?_))); (case side4 => exact HC1.out); rintro e w8 ⟨rfl, hb⟩; refine ⟨_, rfl, ?_⟩; have n0_ := Aside0.mk (below_step (by repeat (first | (with_reducible first | exact HB.out | apply below_alloc | apply pw_below_drewN | apply below_drew1) | exact HB.out)) hb); clear HB; have HB := n0_; clear n0_; (try clear hb); (try clear hb2); (try clear hk); (try clear hi)))
    go_ret
    exact ⟨_, by first | rfl | (simp [errW_none, errW_some] <;> rfl) | (simp [*, errW_none, errW_some] <;> rfl), by first | exact Kd.R_nil _ _ _ _ _ | exact Kd.N_nil _ _ _ _ _ | exact Kd.V_nil _ _ _ _ _ | exact Kd.Q_nil _ _ _ _ _ | exact Kd.S_nil _ _ _ _ _, by repeat (first | (with_reducible first | exact HB.out | apply below_alloc | apply pw_below_drewN | apply below_drew1) | exact HB.out)⟩
end Go.Proofs.YtpibdjkajgfgjaaDoor.P
end
section
namespace Go.Proofs.YtpibdjkajgfgjaaDoor.P
open Go.RowKit Go.Proofs.YtpibdjkajgfgjaaDoorW.PrintWords Go.Proofs.YtpibdjkajgfgjaaDoorW.PrintLast Go.Proofs.YtpibdjkajgfgjaaDoorW.PrintMore
attribute [local go_sem] max2_int min2_int max_two min_two max_three min_three max_four min_four   -- for this text's walks alone
set_option linter.unusedVariables false
set_option linter.unusedSimpArgs false
mutual
def spec_FinishTask.j0 : Nat → List (S48) → List Int → Int → List Int → Bool → Option (List Int × Bool)
  | 0, _, _, _, _, _ => none
  | k + 1, x0, x1, x2, x8, x22 => if x22 = true then (some (([] : List Int), false)) else (spec_FinishTask.l0 k x0 x1 x2 x8 0)
def spec_FinishTask.l0 : Nat → List (S48) → List Int → Int → List Int → Int → Option (List Int × Bool)
  | 0, _, _, _, _, _ => none
  | k + 1, x0, x1, x2, x8, x9 => if x9 < (x0.length : Int) then (if x9 = x2 then (if x8.length < 17592186044416 then (spec_FinishTask.l0 k x0 x1 x2 (x8 ++ [x9]) (wrap64 (x9 + 1))) else (none)) else ((spec_isIn.f k x1 x9).bind fun t423 => (if t423 = true then (if x8.length < 17592186044416 then (spec_FinishTask.l0 k x0 x1 x2 (x8 ++ [x9]) (wrap64 (x9 + 1))) else (none)) else (spec_FinishTask.l0 k x0 x1 x2 x8 (wrap64 (x9 + 1)))))) else (some (x8, true))
end
def spec_FinishTask.f (k : Nat) (l0 : List (S48)) (l1 : List Int) (a2 : Int) : Option (List Int × Bool) := (some (([] : List Int) : List Int)).bind fun y412 => ((spec_validDone.f k l0 l1).bind fun t415 => (if t415 = true then ((spec_ready.f k l0 l1).bind fun t416 => ((spec_isIn.f k t416 a2).bind fun t419 => (spec_FinishTask.j0 k l0 l1 a2 y412 (!t419)))) else (spec_FinishTask.j0 k l0 l1 a2 y412 true)))
theorem spec_FinishTask.mono_l : ∀ k, (∀ y0 y1 y2 y3 y4, LeO (spec_FinishTask.j0 k y0 y1 y2 y3 y4) (spec_FinishTask.j0 (k + 1) y0 y1 y2 y3 y4)) ∧ (∀ y0 y1 y2 y3 y4, LeO (spec_FinishTask.l0 k y0 y1 y2 y3 y4) (spec_FinishTask.l0 (k + 1) y0 y1 y2 y3 y4))
  | 0 => ⟨fun _ _ _ _ _ r h => by simp [spec_FinishTask.j0] at h, fun _ _ _ _ _ r h => by simp [spec_FinishTask.l0] at h⟩
  | k + 1 => by
    obtain ⟨ih0, ih1⟩ := spec_FinishTask.mono_l k
    refine ⟨?_, ?_⟩
    · intro y0 y1 y2 y3 y4
      unfold spec_FinishTask.j0
      repeat' first
      | (with_reducible exact ih0 _ _ _ _ _)
      | (with_reducible exact ih1 _ _ _ _ _)
      | (with_reducible exact spec_isIn.mono _ _ _)
      | (with_reducible exact spec_ready.mono _ _ _)
      | (with_reducible exact spec_validDone.mono _ _ _)
      | (with_reducible exact LeO.refl _)
      | (with_reducible exact LeO.none _)
      | (with_reducible refine LeO.ite ?_ ?_)
      | (with_reducible refine LeO.bind ?_ (fun _ => ?_))
      | exact ih0 _ _ _ _ _
      | exact ih1 _ _ _ _ _
      | exact spec_isIn.mono _ _ _
      | exact spec_ready.mono _ _ _
      | exact spec_validDone.mono _ _ _
      | exact LeO.none _
      | refine LeO.ite ?_ ?_
      | refine LeO.bind ?_ (fun _ => ?_)
    · intro y0 y1 y2 y3 y4
      unfold spec_FinishTask.l0
      repeat' first
      | (with_reducible exact ih0 _ _ _ _ _)
      | (with_reducible exact ih1 _ _ _ _ _)
      | (with_reducible exact spec_isIn.mono _ _ _)
      | (with_reducible exact spec_ready.mono _ _ _)
      | (with_reducible exact spec_validDone.mono _ _ _)
      | (with_reducible exact LeO.refl _)
      | (with_reducible exact LeO.none _)
      | (with_reducible refine LeO.ite ?_ ?_)
      | (with_reducible refine LeO.bind ?_ (fun _ => ?_))
      | exact ih0 _ _ _ _ _
      | exact ih1 _ _ _ _ _
      | exact spec_isIn.mono _ _ _
      | exact spec_ready.mono _ _ _
      | exact spec_validDone.mono _ _ _
      | exact LeO.none _
      | refine LeO.ite ?_ ?_
      | refine LeO.bind ?_ (fun _ => ?_)
theorem spec_FinishTask.mono : ∀ a0 a1 a2 k, LeO (spec_FinishTask.f k a0 a1 a2) (spec_FinishTask.f (k + 1) a0 a1 a2) := by
  intro a0 a1 a2 k
  obtain ⟨ih0, ih1⟩ := spec_FinishTask.mono_l k
  unfold spec_FinishTask.f
  repeat' first
      | (with_reducible exact ih0 _ _ _ _ _)
      | (with_reducible exact ih1 _ _ _ _ _)
      | (with_reducible exact spec_isIn.mono _ _ _)
      | (with_reducible exact spec_ready.mono _ _ _)
      | (with_reducible exact spec_validDone.mono _ _ _)
      | (with_reducible exact LeO.refl _)
      | (with_reducible exact LeO.none _)
      | (with_reducible refine LeO.ite ?_ ?_)
      | (with_reducible refine LeO.bind ?_ (fun _ => ?_))
      | exact ih0 _ _ _ _ _
      | exact ih1 _ _ _ _ _
      | exact spec_isIn.mono _ _ _
      | exact spec_ready.mono _ _ _
      | exact spec_validDone.mono _ _ _
      | exact LeO.none _
      | refine LeO.ite ?_ ?_
      | refine LeO.bind ?_ (fun _ => ?_)
set_option maxHeartbeats 8000000 in
set_option maxRecDepth 100000 in
theorem spec_FinishTask.calls (k : Nat) (A0 : Option Addr) (c0 : Nat) (l0 : List (S48)) (A1 : Option Addr) (c1 : Nat) (l1 : List Int) (a2 : Int) (r1 : List Int) (r2 : Bool) (w : World) (hr0 : Kd.C k48 w A0 l0.length l0) (hc0 : l0.length ≤ c0) (hr1 : Kd.C (Kd.int .i64) w A1 l1.length l1) (hc1 : l1.length ≤ c1) (h : spec_FinishTask.f k l0 l1 a2 = some (r1, r2)) :
    Calls Tryd.prog 123 #[.slice A0 l0.length c0, .slice A1 l1.length c1, .int .i64 a2] w fun e w' => ∃ v0_ : Value, e = .returned (.tuple #[v0_, .bool r2]) ∧ Kd.R (Kd.int .i64) 3 w' w.heap.size (fun _ => True) v0_ r1 ∧ Below w.heap.size w w' := by
  have HR0 := Aside0.mk hr0
  have HC0 := Aside0.mk hc0
  clear hr0 hc0
  have HR1 := Aside0.mk hr1
  have HC1 := Aside0.mk hc1
  clear hr1 hc1
  have HB := Aside0.mk (Below.refl w.heap.size w)
  have H : ((some (([] : List Int) : List Int)).bind fun y412 => ((spec_validDone.f k l0 l1).bind fun t415 => (if t415 = true then ((spec_ready.f k l0 l1).bind fun t416 => ((spec_isIn.f k t416 a2).bind fun t419 => (spec_FinishTask.j0 k l0 l1 a2 y412 (!t419)))) else (spec_FinishTask.j0 k l0 l1 a2 y412 true)))) = some (r1, r2) := h
  clear h
  obtain ⟨y412, hy412⟩ : ∃ y_ : List Int, y_ = (([] : List Int)) := ⟨_, rfl⟩
  replace H : ((spec_validDone.f k l0 l1).bind fun t415 => (if t415 = true then ((spec_ready.f k l0 l1).bind fun t416 => ((spec_isIn.f k t416 a2).bind fun t419 => (spec_FinishTask.j0 k l0 l1 a2 y412 (!t419)))) else (spec_FinishTask.j0 k l0 l1 a2 y412 true))) = some (r1, r2) := by first | (rw [hy412]; with_reducible exact H) | (have H2_ := (Option.bind_some _ _).symm.trans H; rw [hy412]; with_reducible exact H2_) | (have H2_ := (Option.bind_some _ _).symm.trans H; with_reducible exact H2_) | with_reducible exact H | (rw [hy412]; exact H) | exact H
  have Ny412 := Aside0.mk hy412
  clear hy412
  have HC4 := Aside0.mk H
  clear H
  go_enter Tryd.func123, Tryd.ntmps123
  go_upto_region 2 with (first | ((with_reducible refine gate_dst (N := 10) rfl ?_); refine Kd.R_lit (Kd.int .i64) _ 3 ?hg (N := 10) ?hd (xs := ([] : List Int)) (inner := []) (ok := fun _ => True) (okp := fun _ => True) ?hr ?hp (fun _ hk => hk) trivial (Below.refl _ _) (Nat.le_refl _) (by simp) ?_; (case hd => rfl); (case hg => rfl); (case hr => first | (go_simp; done) | (go_simp; rfl)); (case hp => exact (Reps.none _ _)); intro v413 w5 ho6 hb hg_ hnew_; clear hg_ hnew_; (first | rw [← Ny412.out] at ho6 | (simp only [Int.reduceToNat] at ho6; rw [← Ny412.out] at ho6)); have n0_ := Aside0.mk (Kd.R_lower ho6 (below_size (by repeat (first | (with_reducible first | exact HB.out | apply below_alloc | apply pw_below_drewN | apply below_drew1) | exact HB.out)))); have n1_ := Aside0.mk (below_step (by repeat (first | (with_reducible first | exact HB.out | apply below_alloc | apply pw_below_drewN | apply below_drew1) | exact HB.out)) hb); clear HB; have HO414 := n0_; have HB := n1_; clear n0_ n1_; clear hb ho6))
  (try simp only [Act.put, List.setIfInBounds_toArray, List.set_cons_zero, List.set_cons_succ])
  go_cut [22] (fun v22 wc => ∃ (kq : Nat) (x22_3 : Bool), v22 = .bool x22_3 ∧ Aside0 (spec_FinishTask.j0 kq l0 l1 a2 y412 x22_3 = some (r1, r2)) ∧ Aside0 (kq ≤ k) ∧ Aside0 (Kd.R (Kd.int .i64) 3 wc w.heap.size (fun _ => True) v413 y412) ∧ Aside0 (Below w.heap.size w wc))
  case first =>
    have H := HC4.out
    clear HC4
    replace H := Option.bind_eq_some_iff.mp H
    obtain ⟨t415, A70, H⟩ := H
    replace H : (if t415 = true then ((spec_ready.f k l0 l1).bind fun t416 => ((spec_isIn.f k t416 a2).bind fun t419 => (spec_FinishTask.j0 k l0 l1 a2 y412 (!t419)))) else (spec_FinishTask.j0 k l0 l1 a2 y412 true)) = some (r1, r2) := H
    have A7 := Aside0.mk A70
    clear A70
    by_cases c8 : t415 = true
    · subst c8
      have H1 : ((spec_ready.f k l0 l1).bind fun t416 => ((spec_isIn.f k t416 a2).bind fun t419 => (spec_FinishTask.j0 k l0 l1 a2 y412 (!t419)))) = some (r1, r2) := by rw [if_pos rfl] at H; exact H
      clear H
      have H := H1
      clear H1
      replace H := Option.bind_eq_some_iff.mp H
      obtain ⟨t416, A90, H⟩ := H
      replace H : ((spec_isIn.f k t416 a2).bind fun t419 => (spec_FinishTask.j0 k l0 l1 a2 y412 (!t419))) = some (r1, r2) := H
      have A9 := Aside0.mk A90
      clear A90
      replace H := Option.bind_eq_some_iff.mp H
      obtain ⟨t419, A100, H⟩ := H
      replace H : (spec_FinishTask.j0 k l0 l1 a2 y412 (!t419)) = some (r1, r2) := H
      have A10 := Aside0.mk A100
      clear A100
      have H' := Aside0.mk H
      clear H
      go_wp2_with (first | ((with_reducible refine gate_callee (f := 73) rfl ?_); refine goesL_ (some 13) rfl rfl Tryd.func73 (by kernel_rfl) rfl #[.slice A0 l0.length c0, .slice A1 l1.length c1] rfl (by (try simp only [List.map_toArray, List.map_cons, List.map_nil]); first | done | rfl | (simp only [List.length_drop, List.length_take]; rfl)) ?_; (with_reducible refine (spec_validDone.calls k _ _ l0 _ _ l1 true _ ?side1 ?side2 ?side3 ?side4 A7.out).mono ?_); (case side1 => repeat (first | exact (Kd.C_below HR0.out HB.out) | (with_reducible refine Kd.C_alloc ?_ _) | (with_reducible refine Kd.C_drewN ?_ _) | (with_reducible refine Kd.C_drew ?_))); (case side2 => exact HC0.out); (case side3 => repeat (first | exact (Kd.C_below HR1.out HB.out) | (with_reducible refine Kd.C_alloc ?_ _) | (with_reducible refine Kd.C_drewN ?_ _) | (with_reducible refine Kd.C_drew ?_))); (case side4 => exact HC1.out); rintro e w11 ⟨rfl, hb⟩; refine ⟨_, rfl, ?_⟩; have n0_ := Aside0.mk (Kd.R_below (by (with_reducible repeat (first | apply Kd.R_alloc | apply Kd.R_drewN | apply Kd.R_drew)); exact HO414.out) hb); have n1_ := Aside0.mk (below_step (by repeat (first | (with_reducible first | exact HB.out | apply below_alloc | apply pw_below_drewN | apply below_drew1) | exact HB.out)) hb); clear HO414; clear HB; have HO414 := n0_; have HB := n1_; clear n0_ n1_; (try clear hb); (try clear hb2); (try clear hk); (try clear hi)) | (go_at_call 97; (with_reducible refine (spec_ready.calls k _ _ l0 _ _ l1 t416 _ ?side1 ?side2 ?side3 ?side4 A9.out).mono ?_); (case side1 => repeat (first | exact (Kd.C_below HR0.out HB.out) | (with_reducible refine Kd.C_alloc ?_ _) | (with_reducible refine Kd.C_drewN ?_ _) | (with_reducible refine Kd.C_drew ?_))); (case side2 => exact HC0.out); (case side3 => repeat (first | exact (Kd.C_below HR1.out HB.out) | (with_reducible refine Kd.C_alloc ?_ _) | (with_reducible refine Kd.C_drewN ?_ _) | (with_reducible refine Kd.C_drew ?_))); (case side4 => exact HC1.out); rintro e w12 ⟨v417, rfl, ho0, hb⟩; have n0_ := Aside0.mk (Kd.R_elder' (by (with_reducible repeat (first | apply Kd.R_alloc | apply Kd.R_drewN | apply Kd.R_drew)); exact HO414.out) (Kd.R_base ho0) hb); have n1_ := Aside0.mk (Kd.R_lower (Kd.R_new' ho0 (Kd.R_lt (by (with_reducible repeat (first | apply Kd.R_alloc | apply Kd.R_drewN | apply Kd.R_drew)); exact HO414.out))) (below_size (by repeat (first | (with_reducible first | exact HB.out | apply below_alloc | apply pw_below_drewN | apply below_drew1) | exact HB.out)))); have n2_ := Aside0.mk (below_step (by repeat (first | (with_reducible first | exact HB.out | apply below_alloc | apply pw_below_drewN | apply below_drew1) | exact HB.out)) hb); clear HO414; clear HB; have HO414 := n0_; have HO418 := n1_; have HB := n2_; clear n0_ n1_ n2_; (try clear hb); (try clear hb2); (try clear hk); (try clear hi); (try clear ho0); obtain ⟨Ao13, co13, eo13⟩ := Kd.R_slice HO418.out; subst eo13) | (go_at_call 56; (with_reducible refine (spec_isIn.calls k _ _ t416 a2 t419 _ ?side1 ?side2 A10.out).mono ?_); (case side1 => repeat (first | exact (Kd.R_reads' HO418.out).2.2 | (with_reducible refine Kd.C_alloc ?_ _) | (with_reducible refine Kd.C_drewN ?_ _) | (with_reducible refine Kd.C_drew ?_))); (case side2 => exact (Kd.R_reads' HO418.out).2.1); rintro e w' ⟨rfl, ⟨nd, rfl⟩⟩))
      go_meet
      case rel => exact ⟨_, (!t419), (by first | rfl | (simp; done) | (simp [*]; done)), H', ⟨by first | omega | exact Nat.le_refl _⟩, ⟨by (with_reducible repeat (first | apply Kd.R_alloc | apply Kd.R_drewN | apply Kd.R_drew)); exact Kd.R_mono HO414.out (fun _ hk => trivial)⟩, ⟨by repeat (first | (with_reducible first | exact HB.out | apply below_alloc | apply pw_below_drewN | apply below_drew1) | exact HB.out)⟩⟩
    · replace c8 := Bool.eq_false_iff.mpr c8
      subst c8
      have H1 : (spec_FinishTask.j0 k l0 l1 a2 y412 true) = some (r1, r2) := by rw [if_neg (show ¬ (false = true) by decide)] at H; exact H
      clear H
      have H := H1
      clear H1
      have H' := Aside0.mk H
      clear H
      go_wp2_with (first | ((with_reducible refine gate_callee (f := 73) rfl ?_); refine goesL_ (some 13) rfl rfl Tryd.func73 (by kernel_rfl) rfl #[.slice A0 l0.length c0, .slice A1 l1.length c1] rfl (by (try simp only [List.map_toArray, List.map_cons, List.map_nil]); first | done | rfl | (simp only [List.length_drop, List.length_take]; rfl)) ?_; (with_reducible refine (spec_validDone.calls k _ _ l0 _ _ l1 false _ ?side1 ?side2 ?side3 ?side4 A7.out).mono ?_); (case side1 => repeat (first | exact (Kd.C_below HR0.out HB.out) | (with_reducible refine Kd.C_alloc ?_ _) | (with_reducible refine Kd.C_drewN ?_ _) | (with_reducible refine Kd.C_drew ?_))); (case side2 => exact HC0.out); (case side3 => repeat (first | exact (Kd.C_below HR1.out HB.out) | (with_reducible refine Kd.C_alloc ?_ _) | (with_reducible refine Kd.C_drewN ?_ _) | (with_reducible refine Kd.C_drew ?_))); (case side4 => exact HC1.out); rintro e w14 ⟨rfl, hb⟩; refine ⟨_, rfl, ?_⟩; have n0_ := Aside0.mk (Kd.R_below (by (with_reducible repeat (first | apply Kd.R_alloc | apply Kd.R_drewN | apply Kd.R_drew)); exact HO414.out) hb); have n1_ := Aside0.mk (below_step (by repeat (first | (with_reducible first | exact HB.out | apply below_alloc | apply pw_below_drewN | apply below_drew1) | exact HB.out)) hb); clear HO414; clear HB; have HO414 := n0_; have HB := n1_; clear n0_ n1_; (try clear hb); (try clear hb2); (try clear hk); (try clear hi)))
      go_meet
      case rel => exact ⟨_, (true), (by first | rfl | (simp; done) | (simp [*]; done)), H', ⟨by first | omega | exact Nat.le_refl _⟩, ⟨by (with_reducible repeat (first | apply Kd.R_alloc | apply Kd.R_drewN | apply Kd.R_drew)); exact HO414.out⟩, ⟨by repeat (first | (with_reducible first | exact HB.out | apply below_alloc | apply pw_below_drewN | apply below_drew1) | exact HB.out)⟩⟩
  case rest =>
    clear HC4
    try clear c1
    try clear p2
    try clear c7
    try clear c8
    try clear c12
    obtain ⟨kq, x22_3, rfl, HA, HJ3, HO_8, HB⟩ := hcut
    cases kq with
    | zero => exact absurd HA.out (by simp [spec_FinishTask.j0])
    | succ kj3 =>
      have H := HA.out
      clear HA
      simp only [spec_FinishTask.j0] at H
      by_cases c15 : x22_3 = true
      · subst c15
        have H1 : (some (([] : List Int), false)) = some (r1, r2) := by rw [if_pos rfl] at H; exact H
        clear H
        have H := H1
        clear H1
        simp only [Option.some.injEq, Prod.mk.injEq] at H
        obtain ⟨rfl, rfl⟩ := H
        go_wp2
        go_ret2
        exact ⟨_, by first | rfl | (simp [errW_none, errW_some] <;> rfl) | (simp [*, errW_none, errW_some] <;> rfl), by first | exact Kd.R_nil _ _ _ _ _ | exact Kd.N_nil _ _ _ _ _ | exact Kd.V_nil _ _ _ _ _ | exact Kd.Q_nil _ _ _ _ _ | exact Kd.S_nil _ _ _ _ _, by repeat (first | (with_reducible first | exact HB.out | apply below_alloc | apply pw_below_drewN | apply below_drew1) | exact HB.out)⟩
      · replace c15 := Bool.eq_false_iff.mpr c15
        subst c15
        have H1 : (spec_FinishTask.l0 kj3 l0 l1 a2 y412 0) = some (r1, r2) := by rw [if_neg (show ¬ (false = true) by decide)] at H; exact H
        clear H
        have H := H1
        clear H1
        have H' := Aside0.mk H
        clear H
        go_wp2
        go_loopg [8, 9] kj3 (fun kq v8 v9 w' => ∃ (x8_2 : List Int) (x9_2 : Int), v9 = .int .i64 x9_2 ∧ Aside0 (spec_FinishTask.l0 kq l0 l1 a2 x8_2 x9_2 = some (r1, r2)) ∧ Aside0 (kq ≤ kj3) ∧ Aside0 (Kd.R (Kd.int .i64) 3 w' w.heap.size (fun _ => True) v8 x8_2) ∧ Aside0 (Below w.heap.size w w'))
        case atStart => exact ⟨(y412), (0), (by first | rfl | (simp; done) | (simp [*]; done)), H', ⟨Nat.le_refl _⟩, ⟨by (with_reducible repeat (first | apply Kd.R_alloc | apply Kd.R_drewN | apply Kd.R_drew)); exact HO_8.out⟩, ⟨by repeat (first | (with_reducible first | exact HB.out | apply below_alloc | apply pw_below_drewN | apply below_drew1) | exact HB.out)⟩⟩
        case round =>
          clear H'
          try clear c1
          try clear p2
          try clear c7
          try clear c8
          try clear c12
          try clear c15
          try clear p2
          obtain ⟨x8_2, x9_2, rfl, HA, HK2, HO_8, HB⟩ := hrel
          cases gk with
          | zero => exact absurd HA.out (by simp [spec_FinishTask.l0])
          | succ k2 =>
            have H := HA.out
            clear HA
            simp only [spec_FinishTask.l0] at H
            by_cases c16 : x9_2 < (l0.length : Int)
            · rw [if_pos c16] at H
              have c16b0 : decide (x9_2 < (l0.length : Int)) = true := decide_eq_true c16
              clear c16
              by_cases c17 : x9_2 = a2
              · rw [if_pos c17] at H
                have c17b0 : (x9_2 == a2) = true := beq_iff_eq.mpr c17
                have c17b1 : (x9_2 != a2) = false := bne_eq_false_iff_eq.mpr c17
                clear c17
                by_cases c18 : x8_2.length < 17592186044416
                · rw [if_pos c18] at H
                  have LMc18 := Aside0.mk c18
                  clear c18
                  obtain ⟨y420, hy420⟩ : ∃ y_ : List Int, y_ = (x8_2 ++ [x9_2]) := ⟨_, rfl⟩
                  replace H : (spec_FinishTask.l0 k2 l0 l1 a2 y420 (wrap64 (x9_2 + 1))) = some (r1, r2) := by first | (rw [hy420]; with_reducible exact H) | (have H2_ := (Option.bind_some _ _).symm.trans H; rw [hy420]; with_reducible exact H2_) | (have H2_ := (Option.bind_some _ _).symm.trans H; with_reducible exact H2_) | with_reducible exact H | (rw [hy420]; exact H) | exact H
                  have Ny420 := Aside0.mk hy420
                  clear hy420
                  have H' := Aside0.mk H
                  clear H
                  go_wp2_with (first | ((with_reducible refine gate_builtin (b := .append) (xs := #[.tmp 37, .tmp 39]) rfl ?_); at_builtin; refine Kd.R_append (Kd.int .i64) (w0 := w) w.heap.size rfl (.tmp 37) (.tmp 39) 23 3 (.int .i64 0) 8 rfl Tryd.underlying23 info3 rfl (by decide) (by omega) u8 x8_2 x9_2 [.int .i64 x9_2] (fun _ => True) (fun _ => False) rfl rfl ?aP (fun _ hk => hk.elim) ?aF ?aO ?aB ?aS ?aL ?_; (case aP => exact rfl); (case aB => exact (by repeat (first | (with_reducible first | exact HB.out | apply below_alloc | apply pw_below_drewN | apply below_drew1) | exact HB.out))); (case aF => exact (fun _ _ => trivial)); (case aO => exact (by (with_reducible repeat (first | apply Kd.R_alloc | apply Kd.R_drewN | apply Kd.R_drew)); exact HO_8.out)); (case aS => exact (below_size (by repeat (first | (with_reducible first | exact HB.out | apply below_alloc | apply pw_below_drewN | apply below_drew1) | exact HB.out)))); (case aL => have := LMc18.out; omega); intro v421 w19 ho hb hg hat; rw [← Ny420.out] at ho; have n0_ := Aside0.mk (hb); have n1_ := Aside0.mk (ho); clear HB; clear HO_8; have HB := n0_; have HO422 := n1_; clear n0_ n1_; clear ho hb hg hat))
                  go_roundg k2
                  case measure => have := HJ3.out; have := HK2.out; omega
                  case rel => exact ⟨(y420), (wrap64 (x9_2 + 1)), (by first | rfl | (simp; done) | (simp [*]; done)), H', ⟨by have := HJ3.out; have := HK2.out; omega⟩, ⟨by (with_reducible repeat (first | apply Kd.R_alloc | apply Kd.R_drewN | apply Kd.R_drew)); exact HO422.out⟩, ⟨by repeat (first | (with_reducible first | exact HB.out | apply below_alloc | apply pw_below_drewN | apply below_drew1) | exact HB.out)⟩⟩
                · rw [if_neg c18] at H
                  exact absurd H (by simp)
              · rw [if_neg c17] at H
                have c17b0 : (x9_2 == a2) = false := beq_eq_false_iff_ne.mpr c17
                have c17b1 : (x9_2 != a2) = true := bne_iff_ne.mpr c17
                replace H := Option.bind_eq_some_iff.mp H
                obtain ⟨t423, A200, H⟩ := H
                replace H : (if t423 = true then (if x8_2.length < 17592186044416 then (spec_FinishTask.l0 k2 l0 l1 a2 (x8_2 ++ [x9_2]) (wrap64 (x9_2 + 1))) else (none)) else (spec_FinishTask.l0 k2 l0 l1 a2 x8_2 (wrap64 (x9_2 + 1)))) = some (r1, r2) := H
                have A20 := Aside0.mk A200
                clear A200
                by_cases c21 : t423 = true
                · subst c21
                  have H1 : (if x8_2.length < 17592186044416 then (spec_FinishTask.l0 k2 l0 l1 a2 (x8_2 ++ [x9_2]) (wrap64 (x9_2 + 1))) else (none)) = some (r1, r2) := by rw [if_pos rfl] at H; exact H
                  clear H
                  have H := H1
                  clear H1
                  by_cases c22 : x8_2.length < 17592186044416
                  · rw [if_pos c22] at H
                    have LMc22 := Aside0.mk c22
                    clear c22
                    obtain ⟨y424, hy424⟩ : ∃ y_ : List Int, y_ = (x8_2 ++ [x9_2]) := ⟨_, rfl⟩
                    replace H : (spec_FinishTask.l0 k2 l0 l1 a2 y424 (wrap64 (x9_2 + 1))) = some (r1, r2) := by first | (rw [hy424]; with_reducible exact H) | (have H2_ := (Option.bind_some _ _).symm.trans H; rw [hy424]; with_reducible exact H2_) | (have H2_ := (Option.bind_some _ _).symm.trans H; with_reducible exact H2_) | with_reducible exact H | (rw [hy424]; exact H) | exact H
                    have Ny424 := Aside0.mk hy424
                    clear hy424
                    have H' := Aside0.mk H
                    clear H
                    go_wp2_with (first | (go_at_call 56; (with_reducible refine (spec_isIn.calls k2 _ _ l1 x9_2 true _ ?side1 ?side2 A20.out).mono ?_); (case side1 => repeat (first | exact (Kd.C_below HR1.out HB.out) | (with_reducible refine Kd.C_alloc ?_ _) | (with_reducible refine Kd.C_drewN ?_ _) | (with_reducible refine Kd.C_drew ?_))); (case side2 => exact HC1.out); rintro e w' ⟨rfl, ⟨nd, rfl⟩⟩) | ((with_reducible refine gate_builtin (b := .append) (xs := #[.tmp 37, .tmp 39]) rfl ?_); at_builtin; refine Kd.R_append (Kd.int .i64) (w0 := w) w.heap.size rfl (.tmp 37) (.tmp 39) 23 3 (.int .i64 0) 8 rfl Tryd.underlying23 info3 rfl (by decide) (by omega) u8 x8_2 x9_2 [.int .i64 x9_2] (fun _ => True) (fun _ => False) rfl rfl ?aP (fun _ hk => hk.elim) ?aF ?aO ?aB ?aS ?aL ?_; (case aP => exact rfl); (case aB => exact (by repeat (first | (with_reducible first | exact HB.out | apply below_alloc | apply pw_below_drewN | apply below_drew1) | exact HB.out))); (case aF => exact (fun _ _ => trivial)); (case aO => exact (by (with_reducible repeat (first | apply Kd.R_alloc | apply Kd.R_drewN | apply Kd.R_drew)); exact HO_8.out)); (case aS => exact (below_size (by repeat (first | (with_reducible first | exact HB.out | apply below_alloc | apply pw_below_drewN | apply below_drew1) | exact HB.out)))); (case aL => have := LMc22.out; omega); intro v425 w23 ho hb hg hat; rw [← Ny424.out] at ho; have n0_ := Aside0.mk (hb); have n1_ := Aside0.mk (ho); clear HB; clear HO_8; have HB := n0_; have HO426 := n1_; clear n0_ n1_; clear ho hb hg hat))
                    go_roundg k2
                    case measure => have := HJ3.out; have := HK2.out; omega
                    case rel => exact ⟨(y424), (wrap64 (x9_2 + 1)), (by first | rfl | (simp; done) | (simp [*]; done)), H', ⟨by have := HJ3.out; have := HK2.out; omega⟩, ⟨by (with_reducible repeat (first | apply Kd.R_alloc | apply Kd.R_drewN | apply Kd.R_drew)); exact HO426.out⟩, ⟨by repeat (first | (with_reducible first | exact HB.out | apply below_alloc | apply pw_below_drewN | apply below_drew1) | exact HB.out)⟩⟩
                  · rw [if_neg c22] at H
                    exact absurd H (by simp)
                · replace c21 := Bool.eq_false_iff.mpr c21
                  subst c21
                  have H1 : (spec_FinishTask.l0 k2 l0 l1 a2 x8_2 (wrap64 (x9_2 + 1))) = some (r1, r2) := by rw [if_neg (show ¬ (false = true) by decide)] at H; exact H
                  clear H
                  have H := H1
                  clear H1
                  have H' := Aside0.mk H
                  clear H
                  go_wp2_with (first | (go_at_call 56; (with_reducible refine (spec_isIn.calls k2 _ _ l1 x9_2 false _ ?side1 ?side2 A20.out).mono ?_); (case side1 => repeat (first | exact (Kd.C_below HR1.out HB.out) | (with_reducible refine Kd.C_alloc ?_ _) | (with_reducible refine Kd.C_drewN ?_ _) | (with_reducible refine Kd.C_drew ?_))); (case side2 => exact HC1.out); rintro e w' ⟨rfl, ⟨nd, rfl⟩⟩))
                  go_roundg k2
                  case measure => have := HJ3.out; have := HK2.out; omega
                  case rel => exact ⟨(x8_2), (wrap64 (x9_2 + 1)), (by first | rfl | (simp; done) | (simp [*]; done)), H', ⟨by have := HJ3.out; have := HK2.out; omega⟩, ⟨by (with_reducible repeat (first | apply Kd.R_alloc | apply Kd.R_drewN | apply Kd.R_drew)); exact HO_8.out⟩, ⟨by repeat (first | (with_reducible first | exact HB.out | apply below_alloc | apply pw_below_drewN | apply below_drew1) | exact HB.out)⟩⟩
            · rw [if_neg c16] at H
              have c16b0 : decide (x9_2 < (l0.length : Int)) = false := decide_eq_false c16
              clear c16
              simp only [Option.some.injEq, Prod.mk.injEq] at H
              obtain ⟨rfl, rfl⟩ := H
              go_wp2
              go_ret2
              exact ⟨_, by first | rfl | (simp [errW_none, errW_some] <;> rfl) | (simp [*, errW_none, errW_some] <;> rfl), by (with_reducible repeat (first | apply Kd.R_alloc | apply Kd.R_drewN | apply Kd.R_drew)); exact HO_8.out, by repeat (first | (with_reducible first | exact HB.out | apply below_alloc | apply pw_below_drewN | apply below_drew1) | exact HB.out)⟩
end Go.Proofs.YtpibdjkajgfgjaaDoor.P
end
section
namespace Go.Proofs.YtpibdjkajgfgjaaDoor.P
open Go.RowKit Go.Proofs.YtpibdjkajgfgjaaDoorW.PrintWords Go.Proofs.YtpibdjkajgfgjaaDoorW.PrintLast Go.Proofs.YtpibdjkajgfgjaaDoorW.PrintMore
attribute [local go_sem] max2_int min2_int max_two min_two max_three min_three max_four min_four   -- for this text's walks alone
set_option linter.unusedVariables false
set_option linter.unusedSimpArgs false
def spec_someDone.l0 : Nat → List (S48) → List Int → Int → List Int → Int → Option (List Int × Int)
  | 0, _, _, _, _, _ => none
  | k + 1, x1, x5, x6, x1000, x1001 => if x6 > 0 then ((spec_ReadyTasks.f k x1 x5).bind fun t436 => (if (t436.length : Int) > 0 then ((spec_reader_pick.f k x1000 x1001 (t436.length : Int)).bind fun bt439 => (if 0 ≤ bt439.1 then (if bt439.1 < (t436.length : Int) then ((spec_FinishTask.f k x1 x5 (rd t436 bt439.1)).bind fun bt442 => (if bt442.2 = true then (spec_someDone.l0 k x1 bt442.1 (wrap64 (x6 - 1)) x1000 bt439.2) else (spec_someDone.l0 k x1 x5 (wrap64 (x6 - 1)) x1000 bt439.2))) else (none)) else (none))) else (spec_someDone.l0 k x1 x5 (wrap64 (x6 - 1)) x1000 x1001))) else ((spec_reader_spoil.f k x1000 x1001 x5 8).bind fun bt432 => (some (bt432.1, bt432.2)))
def spec_someDone.f (k : Nat) (s0_0 : List Int) (s0_1 : Int) (l1 : List (S48)) : Option (List Int × Int) := (spec_reader_pick.f k s0_0 s0_1 (wrap64 ((l1.length : Int) + 1))).bind fun bt430 => (spec_someDone.l0 k l1 (([] : List Int)) bt430.1 s0_0 bt430.2)
theorem spec_someDone.mono_l : ∀ k, (∀ y0 y1 y2 y3 y4, LeO (spec_someDone.l0 k y0 y1 y2 y3 y4) (spec_someDone.l0 (k + 1) y0 y1 y2 y3 y4))
  | 0 => fun _ _ _ _ _ r h => by simp [spec_someDone.l0] at h
  | k + 1 => by
    have ih0 := spec_someDone.mono_l k
    · intro y0 y1 y2 y3 y4
      unfold spec_someDone.l0
      repeat' first
      | (with_reducible exact ih0 _ _ _ _ _)
      | (with_reducible exact spec_FinishTask.mono _ _ _ _)
      | (with_reducible exact spec_ReadyTasks.mono _ _ _)
      | (with_reducible exact spec_reader_pick.mono _ _ _ _)
      | (with_reducible exact spec_reader_spoil.mono _ _ _ _ _)
      | (with_reducible exact LeO.refl _)
      | (with_reducible exact LeO.none _)
      | (with_reducible refine LeO.ite ?_ ?_)
      | (with_reducible refine LeO.bind ?_ (fun _ => ?_))
      | exact ih0 _ _ _ _ _
      | exact spec_FinishTask.mono _ _ _ _
      | exact spec_ReadyTasks.mono _ _ _
      | exact spec_reader_pick.mono _ _ _ _
      | exact spec_reader_spoil.mono _ _ _ _ _
      | exact LeO.none _
      | refine LeO.ite ?_ ?_
      | refine LeO.bind ?_ (fun _ => ?_)
theorem spec_someDone.mono : ∀ a0 a1 a2 k, LeO (spec_someDone.f k a0 a1 a2) (spec_someDone.f (k + 1) a0 a1 a2) := by
  intro a0 a1 a2 k
  have ih0 := spec_someDone.mono_l k
  unfold spec_someDone.f
  repeat' first
      | (with_reducible exact ih0 _ _ _ _ _)
      | (with_reducible exact spec_FinishTask.mono _ _ _ _)
      | (with_reducible exact spec_ReadyTasks.mono _ _ _)
      | (with_reducible exact spec_reader_pick.mono _ _ _ _)
      | (with_reducible exact spec_reader_spoil.mono _ _ _ _ _)
      | (with_reducible exact LeO.refl _)
      | (with_reducible exact LeO.none _)
      | (with_reducible refine LeO.ite ?_ ?_)
      | (with_reducible refine LeO.bind ?_ (fun _ => ?_))
      | exact ih0 _ _ _ _ _
      | exact spec_FinishTask.mono _ _ _ _
      | exact spec_ReadyTasks.mono _ _ _
      | exact spec_reader_pick.mono _ _ _ _
      | exact spec_reader_spoil.mono _ _ _ _ _
      | exact LeO.none _
      | refine LeO.ite ?_ ?_
      | refine LeO.bind ?_ (fun _ => ?_)
set_option maxHeartbeats 8000000 in
set_option maxRecDepth 100000 in
theorem spec_someDone.calls (k : Nat) (g : Nat) (s0_0 : List Int) (s0_1 : Int) (A1 : Option Addr) (c1 : Nat) (l1 : List (S48)) (r1 : List Int) (r2 : Int) (w0 w : World) (hI : IsS116 w0 w g s0_0 s0_1) (hB : Below w0.heap.size w0 w) (hr1 : ∀ W_, KeepBut w W_ g none → Kd.C k48 W_ A1 l1.length l1) (hc1 : l1.length ≤ c1) (h : spec_someDone.f k s0_0 s0_1 l1 = some (r1, r2)) :
    Calls Tryd.prog 107 #[.pointer (some ⟨g, 0, none⟩), .slice A1 l1.length c1] w fun e w' => ∃ v0_ : Value, e = .returned (v0_) ∧ Kd.Q (Kd.int .i64) 3 w' w.heap.size (fun _ => True) v0_ r1 ∧ IsS116 w0 w' g s0_0 r2 ∧ Below w0.heap.size w0 w' ∧ KeepBut w w' g none := by
  have HR1 := Aside0.mk hr1
  have HC1 := Aside0.mk hc1
  clear hr1 hc1
  have HI0 := Aside0.mk hI
  have HK := Aside0.mk (KeepBut.refl w g none)
  have HL := Aside0.mk hB.size
  clear hI
  have HW0 := Aside0.mk hB.size
  have HB := Aside0.mk hB
  clear hB
  have H : ((spec_reader_pick.f k s0_0 s0_1 (wrap64 ((l1.length : Int) + 1))).bind fun bt430 => (spec_someDone.l0 k l1 (([] : List Int)) bt430.1 s0_0 bt430.2)) = some (r1, r2) := h
  clear h
  obtain ⟨y427, hy427⟩ : ∃ y_ : List Int, y_ = (([] : List Int)) := ⟨_, rfl⟩
  replace H : ((spec_reader_pick.f k s0_0 s0_1 (wrap64 ((l1.length : Int) + 1))).bind fun bt430 => (spec_someDone.l0 k l1 y427 bt430.1 s0_0 bt430.2)) = some (r1, r2) := by first | (rw [hy427]; with_reducible exact H) | (have H2_ := (Option.bind_some _ _).symm.trans H; rw [hy427]; with_reducible exact H2_) | (have H2_ := (Option.bind_some _ _).symm.trans H; with_reducible exact H2_) | with_reducible exact H | (rw [hy427]; exact H) | exact H
  have Ny427 := Aside0.mk hy427
  clear hy427
  replace H := Option.bind_eq_some_iff.mp H
  obtain ⟨⟨t430, t431⟩, A30, H⟩ := H
  replace H : (spec_someDone.l0 k l1 y427 t430 s0_0 t431) = some (r1, r2) := H
  have A3 := Aside0.mk A30
  clear A30
  have H' := Aside0.mk H
  clear H
  go_enter Tryd.func107, Tryd.ntmps107
  go_wp2_with (first | ((with_reducible refine gate_dst (N := 10) rfl ?_); refine Kd.R_lit (Kd.int .i64) _ 3 ?hg (N := 10) ?hd (xs := ([] : List Int)) (inner := []) (ok := fun _ => True) (okp := fun _ => True) ?hr ?hp (fun _ hk => hk) trivial (Below.refl _ _) (Nat.le_refl _) (by simp) ?_; (case hd => rfl); (case hg => rfl); (case hr => first | (go_simp; done) | (go_simp; rfl)); (case hp => exact (Reps.none _ _)); intro v428 w4 ho5 hb hg_ hnew_; clear hg_ hnew_; (first | rw [← Ny427.out] at ho5 | (simp only [Int.reduceToNat] at ho5; rw [← Ny427.out] at ho5)); have n0_ := Aside0.mk (Kd.R_lower ho5 (keep_size (w := w) (g := g) (row := none) (by repeat (first | (with_reducible first | exact HK.out | apply KeepBut.set_ | apply keep_drewN | apply keep_drew | apply keep_alloc) | exact HK.out)))); have n1_ := Aside0.mk (IsS116.below (by repeat (first | (with_reducible first | exact HI0.out | apply IsS116.alloc | apply IsS116.drewN | apply IsS116.drew | apply IsS116.set_1) | exact HI0.out)) hb); have n2_ := Aside0.mk (KeepBut.trans (by repeat (first | (with_reducible first | exact HK.out | apply KeepBut.set_ | apply keep_drewN | apply keep_drew | apply keep_alloc) | exact HK.out)) (KeepBut.of_below hb g none) (.inl rfl)); have n3_ := Aside0.mk (below_step (by repeat (first | (with_reducible first | exact HB.out | apply below_alloc | apply pw_below_drewN | apply below_drew1 | refine below_set ?_ (IsS116.ge HI0.out)) | exact HB.out)) hb); clear HI0; clear HK; clear HB; have HO429 := n0_; have HI0 := n1_; have HK := n2_; have HB := n3_; clear n0_ n1_ n2_ n3_; clear hb ho5) | ((with_reducible refine gate_callee (f := 89) rfl ?_); refine goesL_ (some 15) rfl rfl Tryd.func89 (by kernel_rfl) rfl #[.pointer (some ⟨g, 0, none⟩), .int .i64 (wrap64 ((l1.length : Int) + 1))] rfl (by (try simp only [List.map_toArray, List.map_cons, List.map_nil]); first | done | rfl | (simp only [List.length_drop, List.length_take]; rfl)) ?_; (with_reducible refine (spec_reader_pick.calls k g s0_0 s0_1 (wrap64 ((l1.length : Int) + 1)) t430 t431 w0 _ ?side1 ?side2 A3.out).mono ?_); (case side1 => repeat (first | (with_reducible first | exact HI0.out | apply IsS116.alloc | apply IsS116.drewN | apply IsS116.drew | apply IsS116.set_1) | exact HI0.out)); (case side2 => repeat (first | (with_reducible first | exact HB.out | apply below_alloc | apply pw_below_drewN | apply below_drew1 | refine below_set ?_ (IsS116.ge HI0.out)) | exact HB.out)); rintro e w6 ⟨rfl, hi, hb, hk⟩; refine ⟨_, rfl, ?_⟩; have n0_ := Aside0.mk (Kd.R_mono (Kd.R_keep (IsS116.apart (show IsS116 w0 _ g s0_0 s0_1 from by repeat (first | (with_reducible first | exact HI0.out | apply IsS116.alloc | apply IsS116.drewN | apply IsS116.drew | apply IsS116.set_1) | exact HI0.out)) (by (with_reducible repeat (first | apply Kd.R_alloc | apply Kd.R_drewN | apply Kd.R_drew)); exact HO429.out) (by decide)) hk (fun _ h => h.2)) (fun _ h => h.1)); have n1_ := Aside0.mk (KeepBut.trans (by repeat (first | (with_reducible first | exact HK.out | apply KeepBut.set_ | apply keep_drewN | apply keep_drew | apply keep_alloc) | exact HK.out)) hk (.inl rfl)); have n2_ := Aside0.mk (hb); have n3_ := Aside0.mk (hi); clear HO429; clear HK; clear HB; clear HI0; have HO429 := n0_; have HK := n1_; have HB := n2_; have HI0 := n3_; clear n0_ n1_ n2_ n3_; (try clear hb); (try clear hb2); (try clear hk); (try clear hi)))
  go_loopg [5, 6] k (fun kq v5 v6 w' => ∃ (x5_1 : List Int) (x6_1 : Int) (x1001_1 : Int), v6 = .int .i64 x6_1 ∧ Aside0 (spec_someDone.l0 kq l1 x5_1 x6_1 s0_0 x1001_1 = some (r1, r2)) ∧ Aside0 (kq ≤ k) ∧ Aside0 (Kd.R (Kd.int .i64) 3 w' w.heap.size (fun _ => True) v5 x5_1) ∧ Aside0 (IsS116 w0 w' g s0_0 x1001_1) ∧ Aside0 (KeepBut w w' g none) ∧ Aside0 (Below w0.heap.size w0 w'))
  case atStart => exact ⟨(y427), (t430), (t431), (by first | rfl | (simp; done) | (simp [*]; done)), H', ⟨Nat.le_refl _⟩, ⟨by (with_reducible repeat (first | apply Kd.R_alloc | apply Kd.R_drewN | apply Kd.R_drew)); exact HO429.out⟩, ⟨by repeat (first | (with_reducible first | exact HI0.out | apply IsS116.alloc | apply IsS116.drewN | apply IsS116.drew | apply IsS116.set_1) | exact HI0.out)⟩, ⟨by repeat (first | (with_reducible first | exact HK.out | apply KeepBut.set_ | apply keep_drewN | apply keep_drew | apply keep_alloc) | exact HK.out)⟩, ⟨by repeat (first | (with_reducible first | exact HB.out | apply below_alloc | apply pw_below_drewN | apply below_drew1 | refine below_set ?_ (IsS116.ge HI0.out)) | exact HB.out)⟩⟩
  case round =>
    clear H'
    try clear c1
    try clear p2
    try clear p6
    obtain ⟨x5_1, x6_1, x1001_1, rfl, HA, HK1, HO_5, HI0, HK, HB⟩ := hrel
    cases gk with
    | zero => exact absurd HA.out (by simp [spec_someDone.l0])
    | succ k1 =>
      have H := HA.out
      clear HA
      simp only [spec_someDone.l0] at H
      by_cases c7 : x6_1 > 0
      · rw [if_pos c7] at H
        have c7b0 : decide (0 < x6_1) = true := decide_eq_true c7
        clear c7
        replace H := Option.bind_eq_some_iff.mp H
        obtain ⟨t436, A80, H⟩ := H
        replace H : (if (t436.length : Int) > 0 then ((spec_reader_pick.f k1 s0_0 x1001_1 (t436.length : Int)).bind fun bt439 => (if 0 ≤ bt439.1 then (if bt439.1 < (t436.length : Int) then ((spec_FinishTask.f k1 l1 x5_1 (rd t436 bt439.1)).bind fun bt442 => (if bt442.2 = true then (spec_someDone.l0 k1 l1 bt442.1 (wrap64 (x6_1 - 1)) s0_0 bt439.2) else (spec_someDone.l0 k1 l1 x5_1 (wrap64 (x6_1 - 1)) s0_0 bt439.2))) else (none)) else (none))) else (spec_someDone.l0 k1 l1 x5_1 (wrap64 (x6_1 - 1)) s0_0 x1001_1)) = some (r1, r2) := H
        have A8 := Aside0.mk A80
        clear A80
        by_cases c9 : (t436.length : Int) > 0
        · rw [if_pos c9] at H
          have c9b0 : decide (0 < (t436.length : Int)) = true := decide_eq_true c9
          have c9b1 : decide (0 < t436.length) = true := decide_eq_true (by omega)
          clear c9
          replace H := Option.bind_eq_some_iff.mp H
          obtain ⟨⟨t439, t440⟩, A100, H⟩ := H
          replace H : (if 0 ≤ t439 then (if t439 < (t436.length : Int) then ((spec_FinishTask.f k1 l1 x5_1 (rd t436 t439)).bind fun bt442 => (if bt442.2 = true then (spec_someDone.l0 k1 l1 bt442.1 (wrap64 (x6_1 - 1)) s0_0 t440) else (spec_someDone.l0 k1 l1 x5_1 (wrap64 (x6_1 - 1)) s0_0 t440))) else (none)) else (none)) = some (r1, r2) := H
          have A10 := Aside0.mk A100
          clear A100
          by_cases c11 : 0 ≤ t439
          · rw [if_pos c11] at H
            have c11b0 : decide (0 ≤ t439) = true := decide_eq_true c11
            clear c11
            by_cases c12 : t439 < (t436.length : Int)
            · rw [if_pos c12] at H
              have c12b0 : decide (t439 < (t436.length : Int)) = true := decide_eq_true c12
              clear c12
              replace H := Option.bind_eq_some_iff.mp H
              obtain ⟨⟨t442, t443⟩, A130, H⟩ := H
              replace H : (if t443 = true then (spec_someDone.l0 k1 l1 t442 (wrap64 (x6_1 - 1)) s0_0 t440) else (spec_someDone.l0 k1 l1 x5_1 (wrap64 (x6_1 - 1)) s0_0 t440)) = some (r1, r2) := H
              have A13 := Aside0.mk A130
              clear A130
              by_cases c14 : t443 = true
              · subst c14
                have H1 : (spec_someDone.l0 k1 l1 t442 (wrap64 (x6_1 - 1)) s0_0 t440) = some (r1, r2) := by rw [if_pos rfl] at H; exact H
                clear H
                have H := H1
                clear H1
                have H' := Aside0.mk H
                clear H
                obtain ⟨Ao15, co15, eo15⟩ := Kd.R_slice HO_5.out
                subst eo15
                go_wp2_with (first | ((with_reducible refine gate_callee (f := 122) rfl ?_); refine goesL_ (some 22) rfl rfl Tryd.func122 (by kernel_rfl) rfl #[.slice A1 l1.length c1, .slice Ao15 x5_1.length co15] rfl (by (try simp only [List.map_toArray, List.map_cons, List.map_nil]); first | done | rfl | (simp only [List.length_drop, List.length_take]; rfl)) ?_; (with_reducible refine (spec_ReadyTasks.calls k1 _ _ l1 _ _ x5_1 t436 _ ?side1 ?side2 ?side3 ?side4 A8.out).mono ?_); (case side1 => exact Kd.C_foot_now HR1.out (by repeat (first | (with_reducible first | exact HK.out | apply KeepBut.set_ | apply keep_drewN | apply keep_drew | apply keep_alloc) | exact HK.out))); (case side2 => exact HC1.out); (case side3 => repeat (first | exact (Kd.R_reads' HO_5.out).2.2 | (with_reducible refine Kd.C_alloc ?_ _) | (with_reducible refine Kd.C_drewN ?_ _) | (with_reducible refine Kd.C_drew ?_))); (case side4 => exact (Kd.R_reads' HO_5.out).2.1); rintro e w16 ⟨v437, rfl, ho0, hb⟩; refine ⟨_, rfl, ?_⟩; have n0_ := Aside0.mk (Kd.R_elder' (by (with_reducible repeat (first | apply Kd.R_alloc | apply Kd.R_drewN | apply Kd.R_drew)); exact HO_5.out) (Kd.R_base ho0) hb); have n1_ := Aside0.mk (Kd.R_lower (Kd.R_new' ho0 (Kd.R_lt (by (with_reducible repeat (first | apply Kd.R_alloc | apply Kd.R_drewN | apply Kd.R_drew)); exact HO_5.out))) (keep_size (w := w) (g := g) (row := none) (by repeat (first | (with_reducible first | exact HK.out | apply KeepBut.set_ | apply keep_drewN | apply keep_drew | apply keep_alloc) | exact HK.out)))); have n2_ := Aside0.mk (IsS116.below (by repeat (first | (with_reducible first | exact HI0.out | apply IsS116.alloc | apply IsS116.drewN | apply IsS116.drew | apply IsS116.set_1) | exact HI0.out)) hb); have n3_ := Aside0.mk (KeepBut.trans (by repeat (first | (with_reducible first | exact HK.out | apply KeepBut.set_ | apply keep_drewN | apply keep_drew | apply keep_alloc) | exact HK.out)) (KeepBut.of_below hb g none) (.inl rfl)); have n4_ := Aside0.mk (below_step (by repeat (first | (with_reducible first | exact HB.out | apply below_alloc | apply pw_below_drewN | apply below_drew1 | refine below_set ?_ (IsS116.ge HI0.out)) | exact HB.out)) hb); clear HO_5; clear HI0; clear HK; clear HB; have HO_5 := n0_; have HO438 := n1_; have HI0 := n2_; have HK := n3_; have HB := n4_; clear n0_ n1_ n2_ n3_ n4_; (try clear hb); (try clear hb2); (try clear hk); (try clear hi); (try clear ho0); obtain ⟨Ao17, co17, eo17⟩ := Kd.R_slice HO438.out; subst eo17) | ((with_reducible refine gate_callee (f := 89) rfl ?_); refine goesL_ (some 33) rfl rfl Tryd.func89 (by kernel_rfl) rfl #[.pointer (some ⟨g, 0, none⟩), .int .i64 (t436.length : Int)] rfl (by (try simp only [List.map_toArray, List.map_cons, List.map_nil]); first | done | rfl | (simp only [List.length_drop, List.length_take]; rfl)) ?_; (with_reducible refine (spec_reader_pick.calls k1 g s0_0 x1001_1 (t436.length : Int) t439 t440 w0 _ ?side1 ?side2 A10.out).mono ?_); (case side1 => repeat (first | (with_reducible first | exact HI0.out | apply IsS116.alloc | apply IsS116.drewN | apply IsS116.drew | apply IsS116.set_1) | exact HI0.out)); (case side2 => repeat (first | (with_reducible first | exact HB.out | apply below_alloc | apply pw_below_drewN | apply below_drew1 | refine below_set ?_ (IsS116.ge HI0.out)) | exact HB.out)); rintro e w18 ⟨rfl, hi, hb, hk⟩; refine ⟨_, rfl, ?_⟩; have n0_ := Aside0.mk (Kd.R_mono (Kd.R_keep (IsS116.apart (show IsS116 w0 _ g s0_0 x1001_1 from by repeat (first | (with_reducible first | exact HI0.out | apply IsS116.alloc | apply IsS116.drewN | apply IsS116.drew | apply IsS116.set_1) | exact HI0.out)) (by (with_reducible repeat (first | apply Kd.R_alloc | apply Kd.R_drewN | apply Kd.R_drew)); exact HO_5.out) (by decide)) hk (fun _ h => h.2)) (fun _ h => h.1)); have n1_ := Aside0.mk (Kd.R_mono (Kd.R_keep (IsS116.apart (show IsS116 w0 _ g s0_0 x1001_1 from by repeat (first | (with_reducible first | exact HI0.out | apply IsS116.alloc | apply IsS116.drewN | apply IsS116.drew | apply IsS116.set_1) | exact HI0.out)) (by (with_reducible repeat (first | apply Kd.R_alloc | apply Kd.R_drewN | apply Kd.R_drew)); exact HO438.out) (by decide)) hk (fun _ h => h.2)) (fun _ h => h.1)); have n2_ := Aside0.mk (KeepBut.trans (by repeat (first | (with_reducible first | exact HK.out | apply KeepBut.set_ | apply keep_drewN | apply keep_drew | apply keep_alloc) | exact HK.out)) hk (.inl rfl)); have n3_ := Aside0.mk (hb); have n4_ := Aside0.mk (hi); clear HO_5; clear HO438; clear HK; clear HB; clear HI0; have HO_5 := n0_; have HO438 := n1_; have HK := n2_; have HB := n3_; have HI0 := n4_; clear n0_ n1_ n2_ n3_ n4_; (try clear hb); (try clear hb2); (try clear hk); (try clear hi); have p441 : 0 ≤ (t439 : Int) := of_decide_eq_true (by first | (with_reducible assumption) | assumption); have q441 : t439 < (t436.length : Int) := of_decide_eq_true (by first | (with_reducible assumption) | assumption); obtain ⟨ad441, e441, hx441_0⟩ := Kd.at_int (Kd.R_reads' HO438.out).2.2 t439 p441 q441; cases e441; replace p441 := eq_true p441; replace q441 := eq_true q441) | ((with_reducible refine gate_callee (f := 123) rfl ?_); refine goesL_ (some 36) rfl rfl Tryd.func123 (by kernel_rfl) rfl #[.slice A1 l1.length c1, .slice Ao15 x5_1.length co15, .int .i64 (rd t436 t439)] rfl (by (try simp only [List.map_toArray, List.map_cons, List.map_nil]); first | done | rfl | (simp only [List.length_drop, List.length_take]; rfl)) ?_; (with_reducible refine (spec_FinishTask.calls k1 _ _ l1 _ _ x5_1 (rd t436 t439) t442 true _ ?side1 ?side2 ?side3 ?side4 A13.out).mono ?_); (case side1 => exact Kd.C_foot_now HR1.out (by repeat (first | (with_reducible first | exact HK.out | apply KeepBut.set_ | apply keep_drewN | apply keep_drew | apply keep_alloc) | exact HK.out))); (case side2 => exact HC1.out); (case side3 => repeat (first | exact (Kd.R_reads' HO_5.out).2.2 | (with_reducible refine Kd.C_alloc ?_ _) | (with_reducible refine Kd.C_drewN ?_ _) | (with_reducible refine Kd.C_drew ?_))); (case side4 => exact (Kd.R_reads' HO_5.out).2.1); rintro e w19 ⟨v444, rfl, ho0, hb⟩; refine ⟨_, rfl, ?_⟩; have n0_ := Aside0.mk (Kd.R_elder' (by (with_reducible repeat (first | apply Kd.R_alloc | apply Kd.R_drewN | apply Kd.R_drew)); exact HO_5.out) (Kd.R_base ho0) hb); have n1_ := Aside0.mk (Kd.R_elder' (by (with_reducible repeat (first | apply Kd.R_alloc | apply Kd.R_drewN | apply Kd.R_drew)); exact HO438.out) (Kd.R_base ho0) hb); have n2_ := Aside0.mk (Kd.R_lower (Kd.R_new' (Kd.R_new' ho0 (Kd.R_lt (by (with_reducible repeat (first | apply Kd.R_alloc | apply Kd.R_drewN | apply Kd.R_drew)); exact HO_5.out))) (Kd.R_lt (by (with_reducible repeat (first | apply Kd.R_alloc | apply Kd.R_drewN | apply Kd.R_drew)); exact HO438.out))) (keep_size (w := w) (g := g) (row := none) (by repeat (first | (with_reducible first | exact HK.out | apply KeepBut.set_ | apply keep_drewN | apply keep_drew | apply keep_alloc) | exact HK.out)))); have n3_ := Aside0.mk (IsS116.below (by repeat (first | (with_reducible first | exact HI0.out | apply IsS116.alloc | apply IsS116.drewN | apply IsS116.drew | apply IsS116.set_1) | exact HI0.out)) hb); have n4_ := Aside0.mk (KeepBut.trans (by repeat (first | (with_reducible first | exact HK.out | apply KeepBut.set_ | apply keep_drewN | apply keep_drew | apply keep_alloc) | exact HK.out)) (KeepBut.of_below hb g none) (.inl rfl)); have n5_ := Aside0.mk (below_step (by repeat (first | (with_reducible first | exact HB.out | apply below_alloc | apply pw_below_drewN | apply below_drew1 | refine below_set ?_ (IsS116.ge HI0.out)) | exact HB.out)) hb); clear HO_5; clear HO438; clear HI0; clear HK; clear HB; have HO_5 := n0_; have HO438 := n1_; have HO445 := n2_; have HI0 := n3_; have HK := n4_; have HB := n5_; clear n0_ n1_ n2_ n3_ n4_ n5_; (try clear hb); (try clear hb2); (try clear hk); (try clear hi); (try clear ho0)))
                go_roundg k1
                case measure => have := HK1.out; omega
                case rel => exact ⟨(t442), (wrap64 (x6_1 - 1)), (t440), (by first | rfl | (simp; done) | (simp [*]; done)), H', ⟨by have := HK1.out; omega⟩, ⟨by (with_reducible repeat (first | apply Kd.R_alloc | apply Kd.R_drewN | apply Kd.R_drew)); exact Kd.R_mono HO445.out (fun _ hk => trivial)⟩, ⟨by repeat (first | (with_reducible first | exact HI0.out | apply IsS116.alloc | apply IsS116.drewN | apply IsS116.drew | apply IsS116.set_1) | exact HI0.out)⟩, ⟨by repeat (first | (with_reducible first | exact HK.out | apply KeepBut.set_ | apply keep_drewN | apply keep_drew | apply keep_alloc) | exact HK.out)⟩, ⟨by repeat (first | (with_reducible first | exact HB.out | apply below_alloc | apply pw_below_drewN | apply below_drew1 | refine below_set ?_ (IsS116.ge HI0.out)) | exact HB.out)⟩⟩
              · replace c14 := Bool.eq_false_iff.mpr c14
                subst c14
                have H1 : (spec_someDone.l0 k1 l1 x5_1 (wrap64 (x6_1 - 1)) s0_0 t440) = some (r1, r2) := by rw [if_neg (show ¬ (false = true) by decide)] at H; exact H
                clear H
                have H := H1
                clear H1
                have H' := Aside0.mk H
                clear H
                obtain ⟨Ao20, co20, eo20⟩ := Kd.R_slice HO_5.out
                subst eo20
                go_wp2_with (first | ((with_reducible refine gate_callee (f := 122) rfl ?_); refine goesL_ (some 22) rfl rfl Tryd.func122 (by kernel_rfl) rfl #[.slice A1 l1.length c1, .slice Ao20 x5_1.length co20] rfl (by (try simp only [List.map_toArray, List.map_cons, List.map_nil]); first | done | rfl | (simp only [List.length_drop, List.length_take]; rfl)) ?_; (with_reducible refine (spec_ReadyTasks.calls k1 _ _ l1 _ _ x5_1 t436 _ ?side1 ?side2 ?side3 ?side4 A8.out).mono ?_); (case side1 => exact Kd.C_foot_now HR1.out (by repeat (first | (with_reducible first | exact HK.out | apply KeepBut.set_ | apply keep_drewN | apply keep_drew | apply keep_alloc) | exact HK.out))); (case side2 => exact HC1.out); (case side3 => repeat (first | exact (Kd.R_reads' HO_5.out).2.2 | (with_reducible refine Kd.C_alloc ?_ _) | (with_reducible refine Kd.C_drewN ?_ _) | (with_reducible refine Kd.C_drew ?_))); (case side4 => exact (Kd.R_reads' HO_5.out).2.1); rintro e w21 ⟨v437, rfl, ho0, hb⟩; refine ⟨_, rfl, ?_⟩; have n0_ := Aside0.mk (Kd.R_elder' (by (with_reducible repeat (first | apply Kd.R_alloc | apply Kd.R_drewN | apply Kd.R_drew)); exact HO_5.out) (Kd.R_base ho0) hb); have n1_ := Aside0.mk (Kd.R_lower (Kd.R_new' ho0 (Kd.R_lt (by (with_reducible repeat (first | apply Kd.R_alloc | apply Kd.R_drewN | apply Kd.R_drew)); exact HO_5.out))) (keep_size (w := w) (g := g) (row := none) (by repeat (first | (with_reducible first | exact HK.out | apply KeepBut.set_ | apply keep_drewN | apply keep_drew | apply keep_alloc) | exact HK.out)))); have n2_ := Aside0.mk (IsS116.below (by repeat (first | (with_reducible first | exact HI0.out | apply IsS116.alloc | apply IsS116.drewN | apply IsS116.drew | apply IsS116.set_1) | exact HI0.out)) hb); have n3_ := Aside0.mk (KeepBut.trans (by repeat (first | (with_reducible first | exact HK.out | apply KeepBut.set_ | apply keep_drewN | apply keep_drew | apply keep_alloc) | exact HK.out)) (KeepBut.of_below hb g none) (.inl rfl)); have n4_ := Aside0.mk (below_step (by repeat (first | (with_reducible first | exact HB.out | apply below_alloc | apply pw_below_drewN | apply below_drew1 | refine below_set ?_ (IsS116.ge HI0.out)) | exact HB.out)) hb); clear HO_5; clear HI0; clear HK; clear HB; have HO_5 := n0_; have HO438 := n1_; have HI0 := n2_; have HK := n3_; have HB := n4_; clear n0_ n1_ n2_ n3_ n4_; (try clear hb); (try clear hb2); (try clear hk); (try clear hi); (try clear ho0); obtain ⟨Ao22, co22, eo22⟩ := Kd.R_slice HO438.out; subst eo22) | ((with_reducible refine gate_callee (f := 89) rfl ?_); refine goesL_ (some 33) rfl rfl Tryd.func89 (by kernel_rfl) rfl #[.pointer (some ⟨g, 0, none⟩), .int .i64 (t436.length : Int)] rfl (by (try simp only [List.map_toArray, List.map_cons, List.map_nil]); first | done | rfl | (simp only [List.length_drop, List.length_take]; rfl)) ?_; (with_reducible refine (spec_reader_pick.calls k1 g s0_0 x1001_1 (t436.length : Int) t439 t440 w0 _ ?side1 ?side2 A10.out).mono ?_); (case side1 => repeat (first | (with_reducible first | exact HI0.out | apply IsS116.alloc | apply IsS116.drewN | apply IsS116.drew | apply IsS116.set_1) | exact HI0.out)); (case side2 => repeat (first | (with_reducible first | exact HB.out | apply below_alloc | apply pw_below_drewN | apply below_drew1 | refine below_set ?_ (IsS116.ge HI0.out)) | exact HB.out)); rintro e w23 ⟨rfl, hi, hb, hk⟩; refine ⟨_, rfl, ?_⟩; have n0_ := Aside0.mk (Kd.R_mono (Kd.R_keep (IsS116.apart (show IsS116 w0 _ g s0_0 x1001_1 from by repeat (first | (with_reducible first | exact HI0.out | apply IsS116.alloc | apply IsS116.drewN | apply IsS116.drew | apply IsS116.set_1) | exact HI0.out)) (by (with_reducible repeat (first | apply Kd.R_alloc | apply Kd.R_drewN | apply Kd.R_drew)); exact HO_5.out) (by decide)) hk (fun _ h => h.2)) (fun _ h => h.1)); have n1_ := Aside0.mk (Kd.R_mono (Kd.R_keep (IsS116.apart (show IsS116 w0 _ g s0_0 x1001_1 from by repeat (first | (with_reducible first | exact HI0.out | apply IsS116.alloc | apply IsS116.drewN | apply IsS116.drew | apply IsS116.set_1) | exact HI0.out)) (by (with_reducible repeat (first | apply Kd.R_alloc | apply Kd.R_drewN | apply Kd.R_drew)); exact HO438.out) (by decide)) hk (fun _ h => h.2)) (fun _ h => h.1)); have n2_ := Aside0.mk (KeepBut.trans (by repeat (first | (with_reducible first | exact HK.out | apply KeepBut.set_ | apply keep_drewN | apply keep_drew | apply keep_alloc) | exact HK.out)) hk (.inl rfl)); have n3_ := Aside0.mk (hb); have n4_ := Aside0.mk (hi); clear HO_5; clear HO438; clear HK; clear HB; clear HI0; have HO_5 := n0_; have HO438 := n1_; have HK := n2_; have HB := n3_; have HI0 := n4_; clear n0_ n1_ n2_ n3_ n4_; (try clear hb); (try clear hb2); (try clear hk); (try clear hi); have p441 : 0 ≤ (t439 : Int) := of_decide_eq_true (by first | (with_reducible assumption) | assumption); have q441 : t439 < (t436.length : Int) := of_decide_eq_true (by first | (with_reducible assumption) | assumption); obtain ⟨ad441, e441, hx441_0⟩ := Kd.at_int (Kd.R_reads' HO438.out).2.2 t439 p441 q441; cases e441; replace p441 := eq_true p441; replace q441 := eq_true q441) | ((with_reducible refine gate_callee (f := 123) rfl ?_); refine goesL_ (some 36) rfl rfl Tryd.func123 (by kernel_rfl) rfl #[.slice A1 l1.length c1, .slice Ao20 x5_1.length co20, .int .i64 (rd t436 t439)] rfl (by (try simp only [List.map_toArray, List.map_cons, List.map_nil]); first | done | rfl | (simp only [List.length_drop, List.length_take]; rfl)) ?_; (with_reducible refine (spec_FinishTask.calls k1 _ _ l1 _ _ x5_1 (rd t436 t439) t442 false _ ?side1 ?side2 ?side3 ?side4 A13.out).mono ?_); (case side1 => exact Kd.C_foot_now HR1.out (by repeat (first | (with_reducible first | exact HK.out | apply KeepBut.set_ | apply keep_drewN | apply keep_drew | apply keep_alloc) | exact HK.out))); (case side2 => exact HC1.out); (case side3 => repeat (first | exact (Kd.R_reads' HO_5.out).2.2 | (with_reducible refine Kd.C_alloc ?_ _) | (with_reducible refine Kd.C_drewN ?_ _) | (with_reducible refine Kd.C_drew ?_))); (case side4 => exact (Kd.R_reads' HO_5.out).2.1); rintro e w24 ⟨v444, rfl, ho0, hb⟩; refine ⟨_, rfl, ?_⟩; have n0_ := Aside0.mk (Kd.R_elder' (by (with_reducible repeat (first | apply Kd.R_alloc | apply Kd.R_drewN | apply Kd.R_drew)); exact HO_5.out) (Kd.R_base ho0) hb); have n1_ := Aside0.mk (Kd.R_elder' (by (with_reducible repeat (first | apply Kd.R_alloc | apply Kd.R_drewN | apply Kd.R_drew)); exact HO438.out) (Kd.R_base ho0) hb); have n2_ := Aside0.mk (Kd.R_lower (Kd.R_new' (Kd.R_new' ho0 (Kd.R_lt (by (with_reducible repeat (first | apply Kd.R_alloc | apply Kd.R_drewN | apply Kd.R_drew)); exact HO_5.out))) (Kd.R_lt (by (with_reducible repeat (first | apply Kd.R_alloc | apply Kd.R_drewN | apply Kd.R_drew)); exact HO438.out))) (keep_size (w := w) (g := g) (row := none) (by repeat (first | (with_reducible first | exact HK.out | apply KeepBut.set_ | apply keep_drewN | apply keep_drew | apply keep_alloc) | exact HK.out)))); have n3_ := Aside0.mk (IsS116.below (by repeat (first | (with_reducible first | exact HI0.out | apply IsS116.alloc | apply IsS116.drewN | apply IsS116.drew | apply IsS116.set_1) | exact HI0.out)) hb); have n4_ := Aside0.mk (KeepBut.trans (by repeat (first | (with_reducible first | exact HK.out | apply KeepBut.set_ | apply keep_drewN | apply keep_drew | apply keep_alloc) | exact HK.out)) (KeepBut.of_below hb g none) (.inl rfl)); have n5_ := Aside0.mk (below_step (by repeat (first | (with_reducible first | exact HB.out | apply below_alloc | apply pw_below_drewN | apply below_drew1 | refine below_set ?_ (IsS116.ge HI0.out)) | exact HB.out)) hb); clear HO_5; clear HO438; clear HI0; clear HK; clear HB; have HO_5 := n0_; have HO438 := n1_; have HO445 := n2_; have HI0 := n3_; have HK := n4_; have HB := n5_; clear n0_ n1_ n2_ n3_ n4_ n5_; (try clear hb); (try clear hb2); (try clear hk); (try clear hi); (try clear ho0)))
                go_roundg k1
                case measure => have := HK1.out; omega
                case rel => exact ⟨(x5_1), (wrap64 (x6_1 - 1)), (t440), (by first | rfl | (simp; done) | (simp [*]; done)), H', ⟨by have := HK1.out; omega⟩, ⟨by (with_reducible repeat (first | apply Kd.R_alloc | apply Kd.R_drewN | apply Kd.R_drew)); exact Kd.R_mono HO_5.out (fun _ hk => trivial)⟩, ⟨by repeat (first | (with_reducible first | exact HI0.out | apply IsS116.alloc | apply IsS116.drewN | apply IsS116.drew | apply IsS116.set_1) | exact HI0.out)⟩, ⟨by repeat (first | (with_reducible first | exact HK.out | apply KeepBut.set_ | apply keep_drewN | apply keep_drew | apply keep_alloc) | exact HK.out)⟩, ⟨by repeat (first | (with_reducible first | exact HB.out | apply below_alloc | apply pw_below_drewN | apply below_drew1 | refine below_set ?_ (IsS116.ge HI0.out)) | exact HB.out)⟩⟩
            · rw [if_neg c12] at H
              exact absurd H (by simp)
          · rw [if_neg c11] at H
            exact absurd H (by simp)
        · rw [if_neg c9] at H
          have c9b0 : decide (0 < (t436.length : Int)) = false := decide_eq_false c9
          have c9b1 : decide (0 < t436.length) = false := decide_eq_false (by omega)
          clear c9
          have H' := Aside0.mk H
          clear H
          obtain ⟨Ao25, co25, eo25⟩ := Kd.R_slice HO_5.out
          subst eo25
          go_wp2_with (first | ((with_reducible refine gate_callee (f := 122) rfl ?_); refine goesL_ (some 22) rfl rfl Tryd.func122 (by kernel_rfl) rfl #[.slice A1 l1.length c1, .slice Ao25 x5_1.length co25] rfl (by (try simp only [List.map_toArray, List.map_cons, List.map_nil]); first | done | rfl | (simp only [List.length_drop, List.length_take]; rfl)) ?_; (with_reducible refine (spec_ReadyTasks.calls k1 _ _ l1 _ _ x5_1 t436 _ ?side1 ?side2 ?side3 ?side4 A8.out).mono ?_); (case side1 => exact Kd.C_foot_now HR1.out (by repeat (first | (with_reducible first | exact HK.out | apply KeepBut.set_ | apply keep_drewN | apply keep_drew | apply keep_alloc) | exact HK.out))); (case side2 => exact HC1.out); (case side3 => repeat (first | exact (Kd.R_reads' HO_5.out).2.2 | (with_reducible refine Kd.C_alloc ?_ _) | (with_reducible refine Kd.C_drewN ?_ _) | (with_reducible refine Kd.C_drew ?_))); (case side4 => exact (Kd.R_reads' HO_5.out).2.1); rintro e w26 ⟨v437, rfl, ho0, hb⟩; refine ⟨_, rfl, ?_⟩; have n0_ := Aside0.mk (Kd.R_elder' (by (with_reducible repeat (first | apply Kd.R_alloc | apply Kd.R_drewN | apply Kd.R_drew)); exact HO_5.out) (Kd.R_base ho0) hb); have n1_ := Aside0.mk (Kd.R_lower (Kd.R_new' ho0 (Kd.R_lt (by (with_reducible repeat (first | apply Kd.R_alloc | apply Kd.R_drewN | apply Kd.R_drew)); exact HO_5.out))) (keep_size (w := w) (g := g) (row := none) (by repeat (first | (with_reducible first | exact HK.out | apply KeepBut.set_ | apply keep_drewN | apply keep_drew | apply keep_alloc) | exact HK.out)))); have n2_ := Aside0.mk (IsS116.below (by repeat (first | (with_reducible first | exact HI0.out | apply IsS116.alloc | apply IsS116.drewN | apply IsS116.drew | apply IsS116.set_1) | exact HI0.out)) hb); have n3_ := Aside0.mk (KeepBut.trans (by repeat (first | (with_reducible first | exact HK.out | apply KeepBut.set_ | apply keep_drewN | apply keep_drew | apply keep_alloc) | exact HK.out)) (KeepBut.of_below hb g none) (.inl rfl)); have n4_ := Aside0.mk (below_step (by repeat (first | (with_reducible first | exact HB.out | apply below_alloc | apply pw_below_drewN | apply below_drew1 | refine below_set ?_ (IsS116.ge HI0.out)) | exact HB.out)) hb); clear HO_5; clear HI0; clear HK; clear HB; have HO_5 := n0_; have HO438 := n1_; have HI0 := n2_; have HK := n3_; have HB := n4_; clear n0_ n1_ n2_ n3_ n4_; (try clear hb); (try clear hb2); (try clear hk); (try clear hi); (try clear ho0); obtain ⟨Ao27, co27, eo27⟩ := Kd.R_slice HO438.out; subst eo27))
          go_roundg k1
          case measure => have := HK1.out; omega
          case rel => exact ⟨(x5_1), (wrap64 (x6_1 - 1)), (x1001_1), (by first | rfl | (simp; done) | (simp [*]; done)), H', ⟨by have := HK1.out; omega⟩, ⟨by (with_reducible repeat (first | apply Kd.R_alloc | apply Kd.R_drewN | apply Kd.R_drew)); exact Kd.R_mono HO_5.out (fun _ hk => trivial)⟩, ⟨by repeat (first | (with_reducible first | exact HI0.out | apply IsS116.alloc | apply IsS116.drewN | apply IsS116.drew | apply IsS116.set_1) | exact HI0.out)⟩, ⟨by repeat (first | (with_reducible first | exact HK.out | apply KeepBut.set_ | apply keep_drewN | apply keep_drew | apply keep_alloc) | exact HK.out)⟩, ⟨by repeat (first | (with_reducible first | exact HB.out | apply below_alloc | apply pw_below_drewN | apply below_drew1 | refine below_set ?_ (IsS116.ge HI0.out)) | exact HB.out)⟩⟩
      · rw [if_neg c7] at H
        have c7b0 : decide (0 < x6_1) = false := decide_eq_false c7
        clear c7
        replace H := Option.bind_eq_some_iff.mp H
        obtain ⟨⟨t432, t435⟩, A280, H⟩ := H
        replace H : (some (t432, t435)) = some (r1, r2) := H
        have A28 := Aside0.mk A280
        clear A280
        simp only [Option.some.injEq, Prod.mk.injEq] at H
        obtain ⟨rfl, rfl⟩ := H
        obtain ⟨Ao29, co29, eo29⟩ := Kd.R_slice HO_5.out
        subst eo29
        go_wp2_with (first | ((with_reducible refine gate_callee (f := 91) rfl ?_); refine goesL_ (some 43) rfl rfl Tryd.func91 (by kernel_rfl) rfl #[.pointer (some ⟨g, 0, none⟩), .slice Ao29 x5_1.length co29, .int .i64 8] rfl (by (try simp only [List.map_toArray, List.map_cons, List.map_nil]); first | done | rfl | (simp only [List.length_drop, List.length_take]; rfl)) ?_; (with_reducible refine (spec_reader_spoil.calls k1 g s0_0 x1001_1 _ _ x5_1 8 t432 t435 w0 _ ?side1 ?side2 ?side3 ?side4 ?side5 A28.out).mono ?_); (case side1 => repeat (first | (with_reducible first | exact HI0.out | apply IsS116.alloc | apply IsS116.drewN | apply IsS116.drew | apply IsS116.set_1) | exact HI0.out)); (case side2 => repeat (first | (with_reducible first | exact HB.out | apply below_alloc | apply pw_below_drewN | apply below_drew1 | refine below_set ?_ (IsS116.ge HI0.out)) | exact HB.out)); (case side3 => repeat (first | exact (Kd.R_reads' HO_5.out).2.2 | (with_reducible refine Kd.C_alloc ?_ _) | (with_reducible refine Kd.C_drewN ?_ _) | (with_reducible refine Kd.C_drew ?_))); (case side4 => exact (Kd.R_reads' HO_5.out).2.1); (case side5 => exact far_slice (IsS116.own_ne HI0.out HO_5.out (by decide))); rintro e w30 ⟨v433, rfl, ho0, hi, hb, hk⟩; refine ⟨_, rfl, ?_⟩; have n0_ := Aside0.mk (Kd.R_mono (Kd.R_told (Kd.R_oldK (IsS116.apart (show IsS116 w0 _ g s0_0 x1001_1 from by repeat (first | (with_reducible first | exact HI0.out | apply IsS116.alloc | apply IsS116.drewN | apply IsS116.drew | apply IsS116.set_1) | exact HI0.out)) (by (with_reducible repeat (first | apply Kd.R_alloc | apply Kd.R_drewN | apply Kd.R_drew)); exact HO_5.out) (by decide)) hk) (Kd.Q_base ho0)) (fun _ h_ => h_.1)); have n1_ := Aside0.mk (Kd.Q_lower (Kd.Q_new' ho0 (Kd.R_lt (by (with_reducible repeat (first | apply Kd.R_alloc | apply Kd.R_drewN | apply Kd.R_drew)); exact HO_5.out))) (keep_size (w := w) (g := g) (row := none) (by repeat (first | (with_reducible first | exact HK.out | apply KeepBut.set_ | apply keep_drewN | apply keep_drew | apply keep_alloc) | exact HK.out)))); have n2_ := Aside0.mk (KeepBut.trans (by repeat (first | (with_reducible first | exact HK.out | apply KeepBut.set_ | apply keep_drewN | apply keep_drew | apply keep_alloc) | exact HK.out)) hk (.inl rfl)); have n3_ := Aside0.mk (hb); have n4_ := Aside0.mk (hi); clear HO_5; clear HK; clear HB; clear HI0; have HO_5 := n0_; have HO434 := n1_; have HK := n2_; have HB := n3_; have HI0 := n4_; clear n0_ n1_ n2_ n3_ n4_; (try clear hb); (try clear hb2); (try clear hk); (try clear hi); (try clear ho0)))
        go_ret
        exact ⟨_, by first | rfl | (simp [errW_none, errW_some] <;> rfl) | (simp [*, errW_none, errW_some] <;> rfl), by (with_reducible repeat (first | apply Kd.Q_alloc | apply Kd.Q_drewN | apply Kd.Q_drew)); exact Kd.Q_mono HO434.out (fun _ hk => trivial), by repeat (first | (with_reducible first | exact HI0.out | apply IsS116.alloc | apply IsS116.drewN | apply IsS116.drew | apply IsS116.set_1) | exact HI0.out), by repeat (first | (with_reducible first | exact HB.out | apply below_alloc | apply pw_below_drewN | apply below_drew1 | refine below_set ?_ (IsS116.ge HI0.out)) | exact HB.out), by repeat (first | (with_reducible first | exact HK.out | apply KeepBut.set_ | apply keep_drewN | apply keep_drew | apply keep_alloc) | exact HK.out)⟩
end Go.Proofs.YtpibdjkajgfgjaaDoor.P
end
section
set_option linter.unusedVariables false
set_option linter.unusedSimpArgs false
namespace Go.Proofs.YtpibdjkajgfgjaaDoor.Core
open Go Go.RowKit Go.Shelf Go.Proofs.YtpibdjkajgfgjaaDoorW.PrintWords Go.Proofs.YtpibdjkajgfgjaaDoorW.PrintLast Go.Proofs.YtpibdjkajgfgjaaDoorW.PrintMore Go.Proofs.YtpibdjkajgfgjaaDoor.P
attribute [local go_sem] Oper.semAt_some wide_fn wide_depth
/-- What holds of each valid graph. -/
structure GOk (G : GD) : Prop where
  n8 : G.tasks.length ≤ 8
  nl : G.needs.length = G.tasks.length
  nb : below1 G.tasks.length G.needs
  ol : G.order.length = G.tasks.length
  ob : ∀ i ∈ G.order, i < G.tasks.length
  bl : G.below.length = G.tasks.length
  bb : below1 G.tasks.length G.below
  al : G.above.length = G.tasks.length
  ab : below1 G.tasks.length G.above
theorem IsG.move {w w' : World} {b : Nat} {G : GD} (h : IsG w b G) (hb : Below w.heap.size w w') : IsG w' b G := by
  obtain ⟨A0, A1, A2, A3, A4, c0, c1, c2, c3, c4, hh, h0, h1, h2, h3, h4⟩ := h
  exact ⟨A0, A1, A2, A3, A4, c0, c1, c2, c3, c4, (hb.block b (cells_lt hh)).trans hh, ⟨h0.1, Kd.C_below h0.2 hb⟩, ⟨h1.1, Kd.C_below h1.2 hb⟩, ⟨h2.1, Kd.C_below h2.2 hb⟩, ⟨h3.1, Kd.C_below h3.2 hb⟩, ⟨h4.1, Kd.C_below h4.2 hb⟩⟩
theorem IsG.lt {w : World} {b : Nat} {G : GD} (h : IsG w b G) : b < w.heap.size := by
  obtain ⟨A0, A1, A2, A3, A4, c0, c1, c2, c3, c4, hh, _⟩ := h
  exact cells_lt hh
theorem IsG.tasks {w : World} {b : Nat} {G : GD} (h : IsG w b G) : ∃ A c, w.cell? ⟨b, 0, none⟩ = some (.slice A G.tasks.length c) ∧ G.tasks.length ≤ c ∧ k48.C w A G.tasks.length G.tasks := by
  obtain ⟨A0, A1, A2, A3, A4, c0, c1, c2, c3, c4, hh, h0, h1, h2, h3, h4⟩ := h
  exact ⟨A0, c0, by simp [World.cell?, hh], h0.1, h0.2⟩
theorem IsG.needs {w : World} {b : Nat} {G : GD} (h : IsG w b G) : ∃ A c, w.cell? ⟨b, 1, none⟩ = some (.slice A G.needs.length c) ∧ G.needs.length ≤ c ∧ (Kd.int .u16).C w A G.needs.length (up G.needs) := by
  obtain ⟨A0, A1, A2, A3, A4, c0, c1, c2, c3, c4, hh, h0, h1, h2, h3, h4⟩ := h
  exact ⟨A1, c1, by simp [World.cell?, hh], h1.1, h1.2⟩
theorem IsG.order {w : World} {b : Nat} {G : GD} (h : IsG w b G) : ∃ A c, w.cell? ⟨b, 2, none⟩ = some (.slice A G.order.length c) ∧ G.order.length ≤ c ∧ (Kd.int .i64).C w A G.order.length (up G.order) := by
  obtain ⟨A0, A1, A2, A3, A4, c0, c1, c2, c3, c4, hh, h0, h1, h2, h3, h4⟩ := h
  exact ⟨A2, c2, by simp [World.cell?, hh], h2.1, h2.2⟩
theorem IsG.below {w : World} {b : Nat} {G : GD} (h : IsG w b G) : ∃ A c, w.cell? ⟨b, 3, none⟩ = some (.slice A G.below.length c) ∧ G.below.length ≤ c ∧ (Kd.int .u16).C w A G.below.length (up G.below) := by
  obtain ⟨A0, A1, A2, A3, A4, c0, c1, c2, c3, c4, hh, h0, h1, h2, h3, h4⟩ := h
  exact ⟨A3, c3, by simp [World.cell?, hh], h3.1, h3.2⟩
theorem IsG.above {w : World} {b : Nat} {G : GD} (h : IsG w b G) : ∃ A c, w.cell? ⟨b, 4, none⟩ = some (.slice A G.above.length c) ∧ G.above.length ≤ c ∧ (Kd.int .u16).C w A G.above.length (up G.above) := by
  obtain ⟨A0, A1, A2, A3, A4, c0, c1, c2, c3, c4, hh, h0, h1, h2, h3, h4⟩ := h
  exact ⟨A4, c4, by simp [World.cell?, hh], h4.1, h4.2⟩
set_option maxHeartbeats 1000000 in
theorem size_calls (b : Nat) (G : GD) (w : World) (hg : IsG w b G) :
    Calls Tryd.prog 62 #[.pointer (some ⟨b, 0, none⟩)] w fun e w' => e = .returned (.int .i64 (G.tasks.length : Int)) ∧ w = w' := by
  obtain ⟨A, c, hc, _, _⟩ := hg.tasks
  go_enter Tryd.func62, Tryd.ntmps62
  go_wp2
  go_ret
  exact ⟨rfl, rfl⟩
/-- The tasks that can come next, among the first ones. -/
def readyTo (N : List Nat) (d : Nat) : Nat → Nat
  | 0 => 0
  | i + 1 => if d.testBit i = false ∧ sub (N.getD i 0) d = 0 then readyTo N d i ||| 2 ^ i else readyTo N d i
theorem readyTo_lt (N : List Nat) (d : Nat) : ∀ i, readyTo N d i < 2 ^ i
  | 0 => by simp [readyTo]
  | i + 1 => by
    have h := Nat.lt_of_lt_of_le (readyTo_lt N d i) (Nat.pow_le_pow_right (n := 2) (by omega) (Nat.le_succ i))
    unfold readyTo
    split
    · exact Nat.or_lt_two_pow h (Nat.pow_lt_pow_right (by omega) (by omega))
    · exact h
def GD.ready (G : GD) (d : Nat) : Nat := readyTo G.needs d G.needs.length
set_option maxRecDepth 100000 in
set_option maxHeartbeats 4000000 in
theorem ready_calls (b : Nat) (G : GD) (d : Nat) (w : World) (hg : IsG w b G) (ok : GOk G) (hd : d < 256) :
    Calls Tryd.prog 75 #[.pointer (some ⟨b, 0, none⟩), .int .u16 (d : Int)] w fun e w' => e = .returned (.int .u16 ((G.ready d : Nat) : Int)) ∧ w = w' := by
  obtain ⟨A, c, hc, _, hC⟩ := hg.needs
  have hC := Aside0.mk hC
  go_enter Tryd.func75, Tryd.ntmps75
  go_wp2
  go_loopg [5, 13] G.needs.length (fun kq v5 v13 w' => ∃ (i : Nat) (x : Int) (o : Int), v5 = .int .u16 o ∧ v13 = .int .i64 x ∧ Aside0 (i + kq = G.needs.length ∧ x = (i : Int) ∧ o = ((readyTo G.needs d i : Nat) : Int)) ∧ w = w')
  case atStart => exact ⟨0, 0, 0, rfl, rfl, ⟨by omega, rfl, rfl⟩, rfl⟩
  case round =>
    obtain ⟨i, x, o, rfl, rfl, hh, rfl⟩ := hrel
    by_cases hlt : i < G.needs.length
    · have p0 : 0 ≤ x := by have := hh.out.2.1; omega
      have q0 : x < (G.needs.length : Int) := by have := hh.out.2.1; omega
      have hlt0 : decide (x < (G.needs.length : Int)) = true := decide_eq_true q0
      obtain ⟨ad, e0, hx0⟩ := Kd.at_int hC.out x p0 q0
      subst e0
      rw [rd_up (i := i) hh.out.2.1] at hx0
      have h8 : G.needs.length ≤ 8 := by have := ok.n8; have := ok.nl; omega
      have hNi : G.needs.getD i 0 < 256 := Nat.lt_of_lt_of_le (getD_lt ok.nb i) (pow8 ok.n8)
      have hA := andNot_eq hNi hd
      have hW := readyTo_lt G.needs d i
      have hstep : readyTo G.needs d (i + 1) = if d.testBit i = false ∧ sub (G.needs.getD i 0) d = 0 then readyTo G.needs d i ||| 2 ^ i else readyTo G.needs d i := rfl
      have hB := has_calls d i hd (by omega) w
      have hWc := with_calls (readyTo G.needs d i) i (Nat.lt_of_lt_of_le hW (Nat.le_trans (Nat.pow_le_pow_right (by omega) (show i ≤ 8 by omega)) (by decide))) (by omega) w
      rw [← hh.out.2.2, ← hh.out.2.1] at hWc
      rw [← hh.out.2.1] at hB
      generalize G.needs.getD i 0 = s at hx0 hA hstep
      generalize hbb : d.testBit i = bb at hB hstep
      generalize hz : sub s d = z0 at hA hstep
      generalize hz2 : ((z0 : Nat) : Int) = z at hA
      generalize hr1 : readyTo G.needs d i ||| 2 ^ i = r1 at hWc hstep
      replace p0 := eq_true p0
      replace q0 := eq_true q0
      have HS := Aside0.mk hstep
      have HZ := Aside0.mk hz2
      have HL := Aside0.mk hlt
      clear hstep hbb hz hz2 hr1 hlt hW
      have hz01 : z = 0 ∨ z ≠ 0 := by omega
      cases bb with
      | true =>
        go_wp2_with (go_at_call 65; refine hB.mono ?_; rintro e w' ⟨rfl, rfl⟩)
        go_roundg (G.needs.length - (i + 1))
        case measure => have := hh.out.1; have := HL.out; omega
        case rel =>
          have h1 := hh.out; have := HL.out
          refine ⟨i + 1, _, _, rfl, rfl, ⟨by omega, by rw [h1.2.1]; unfold wrap64; omega, by rw [HS.out, h1.2.2]; simp⟩, rfl⟩
      | false =>
        rcases hz01 with rfl | hz0
        · go_wp2_with (first | (go_at_call 65; refine hB.mono ?_; rintro e w' ⟨rfl, rfl⟩) | (go_at_call 66; refine hWc.mono ?_; rintro e w' ⟨rfl, rfl⟩))
          go_roundg (G.needs.length - (i + 1))
          case measure => have := hh.out.1; have := HL.out; omega
          case rel =>
            have h1 := hh.out; have := HL.out
            have hz3 : z0 = 0 := by have := HZ.out; omega
            refine ⟨i + 1, _, _, rfl, rfl, ⟨by omega, by rw [h1.2.1]; unfold wrap64; omega, by rw [HS.out, hz3]; simp⟩, rfl⟩
        · have hz4 : (z == 0) = false := beq_eq_false_iff_ne.2 hz0
          go_wp2_with (first | (go_at_call 65; refine hB.mono ?_; rintro e w' ⟨rfl, rfl⟩) | (go_at_call 66; refine hWc.mono ?_; rintro e w' ⟨rfl, rfl⟩))
          go_roundg (G.needs.length - (i + 1))
          case measure => have := hh.out.1; have := HL.out; omega
          case rel =>
            have h1 := hh.out; have := HL.out
            have hz3 : z0 ≠ 0 := by have := HZ.out; omega
            refine ⟨i + 1, _, _, rfl, rfl, ⟨by omega, by rw [h1.2.1]; unfold wrap64; omega, by rw [HS.out, h1.2.2]; simp [hz3]⟩, rfl⟩
    · have hlt0 : decide (x < (G.needs.length : Int)) = false := by have := hh.out; simp; omega
      have hi : i = G.needs.length := by have := hh.out; omega
      have ho := hh.out.2.2
      go_wp2
      go_ret
      refine ⟨?_, rfl⟩
      rw [ho, hi]
      rfl
end Go.Proofs.YtpibdjkajgfgjaaDoor.Core
end
section
set_option linter.unusedVariables false
set_option linter.unusedSimpArgs false
namespace Go.Proofs.YtpibdjkajgfgjaaDoor.Core
open Go Go.RowKit Go.Shelf Go.Proofs.YtpibdjkajgfgjaaDoorW.PrintWords Go.Proofs.YtpibdjkajgfgjaaDoorW.PrintLast Go.Proofs.YtpibdjkajgfgjaaDoorW.PrintMore Go.Proofs.YtpibdjkajgfgjaaDoor.P
/-- How many of the first n numbers a set lacks. -/
def zb : Nat → Nat → Nat
  | 0, _ => 0
  | n + 1, p => zb n p + (if p.testBit n then 0 else 1)
theorem or_bit (p i j : Nat) : (p ||| 2 ^ i).testBit j = (p.testBit j || decide (i = j)) := by rw [Nat.testBit_or, Nat.testBit_two_pow]
theorem zb_le (p i : Nat) : ∀ n, zb n (p ||| 2 ^ i) ≤ zb n p
  | 0 => Nat.le_refl _
  | n + 1 => by
    have := zb_le p i n
    simp only [zb, or_bit]
    by_cases h : i = n
    · subst h; cases p.testBit i <;> simp <;> omega
    · cases p.testBit n <;> simp [h] <;> omega
theorem zb_lt {p i : Nat} (hp : p.testBit i = false) : ∀ {n : Nat}, i < n → zb n (p ||| 2 ^ i) < zb n p
  | 0, h => by omega
  | n + 1, h => by
    simp only [zb, or_bit]
    by_cases hi : i = n
    · subst hi
      have := zb_le p i i
      simp [hp]
      omega
    · have := zb_lt hp (n := n) (by omega)
      cases p.testBit n <;> simp [hi] <;> omega
theorem readyTo_bit (N : List Nat) (d i : Nat) : ∀ n, (readyTo N d n).testBit i = true → i < n ∧ d.testBit i = false ∧ sub (N.getD i 0) d = 0
  | 0 => by simp [readyTo]
  | n + 1 => by
    intro h
    unfold readyTo at h
    split at h
    · rename_i hc
      rw [or_bit] at h
      by_cases hi : n = i
      · subst hi; exact ⟨by omega, hc⟩
      · have := readyTo_bit N d i n (by simpa [hi] using h)
        exact ⟨by omega, this.2⟩
    · have := readyTo_bit N d i n h
      exact ⟨by omega, this.2⟩
theorem readyTo_bit' (N : List Nat) (d i : Nat) : ∀ n, i < n → d.testBit i = false → sub (N.getD i 0) d = 0 → (readyTo N d n).testBit i = true
  | 0 => by intro h; omega
  | n + 1 => by
    intro h h1 h2
    unfold readyTo
    by_cases hi : n = i
    · subst hi
      rw [if_pos ⟨h1, h2⟩, or_bit]
      simp
    · have := readyTo_bit' N d i n (by omega) h1 h2
      split
      · rw [or_bit, this]; rfl
      · exact this
theorem mem_ready {G : GD} {d i : Nat} (h8 : G.needs.length ≤ 8) : i ∈ elemsN (G.ready d) ↔ i < G.needs.length ∧ d.testBit i = false ∧ sub (G.needs.getD i 0) d = 0 := by
  rw [mem_elemsN]
  constructor
  · intro h
    exact readyTo_bit _ _ _ _ h.2
  · intro h
    exact ⟨by omega, readyTo_bit' _ _ _ _ h.1 h.2.1 h.2.2⟩
theorem elemsN_length (s : Nat) : (elemsN s).length ≤ 8 := by
  have := elems_length s
  rwa [elems, List.length_map] at this
theorem ready_lt (G : GD) (d : Nat) : G.ready d < 2 ^ G.needs.length := readyTo_lt _ _ _
/-- Whether a task can come next. -/
def canNext (N : List Nat) (d i : Nat) : Bool := !d.testBit i && decide (sub (N.getD i 0) d = 0)
theorem elemsN_ready {G : GD} (h8 : G.needs.length ≤ 8) (d : Nat) : elemsN (G.ready d) = (List.range G.needs.length).filter (canNext G.needs d) := by
  have e8 : List.range 8 = List.range G.needs.length ++ (List.range (8 - G.needs.length)).map (G.needs.length + ·) := by
    rw [← List.range_add]; congr 1; omega
  unfold elemsN
  rw [e8, List.filter_append]
  have e2 : ((List.range (8 - G.needs.length)).map (G.needs.length + ·)).filter (fun i => (G.ready d).testBit i) = [] := by
    rw [List.filter_eq_nil_iff]
    intro x hx hb
    obtain ⟨y, _, rfl⟩ := List.mem_map.1 hx
    have := (readyTo_bit _ _ _ _ hb).1
    omega
  rw [e2, List.append_nil]
  refine List.filter_congr fun i hi => ?_
  have hi := List.mem_range.1 hi
  rw [Bool.eq_iff_iff]
  constructor
  · intro h
    have := readyTo_bit _ _ _ _ h
    have h1 := this.2.1
    have h2 := this.2.2
    simp only [canNext, Bool.and_eq_true, Bool.not_eq_true', decide_eq_true_eq]
    exact ⟨h1, h2⟩
  · intro h
    have h2 : d.testBit i = false ∧ sub (G.needs.getD i 0) d = 0 := by simpa [canNext] using h
    exact readyTo_bit' _ _ _ _ hi h2.1 h2.2
end Go.Proofs.YtpibdjkajgfgjaaDoor.Core
end
section
set_option linter.unusedVariables false
set_option linter.unusedSimpArgs false
namespace Go.Proofs.YtpibdjkajgfgjaaDoor.Core
open Go Go.RowKit Go.Proofs.YtpibdjkajgfgjaaDoorW.PrintWords Go.Proofs.YtpibdjkajgfgjaaDoorW.PrintMore Go.Proofs.YtpibdjkajgfgjaaDoor.P
/-- From some number on, f says r. -/
def Ev {α : Type} (f : Nat → Option α) (r : α) : Prop := ∃ K, ∀ k, K ≤ k → f k = some r
theorem Ev.const {α : Type} (r : α) : Ev (fun _ => some r) r := ⟨0, fun _ _ => rfl⟩
theorem Ev.bind {α β : Type} {f : Nat → Option α} {g : Nat → α → Option β} {a : α} {b : β} (h : Ev f a) (h2 : Ev (fun k => g k a) b) : Ev (fun k => (f k).bind (g k)) b := by
  obtain ⟨K, h⟩ := h
  obtain ⟨K2, h2⟩ := h2
  exact ⟨max K K2, fun k hk => by show (f k).bind (g k) = some b; rw [h k (by omega)]; exact h2 k (by omega)⟩
theorem Ev.succ {α : Type} {f : Nat → Option α} {r : α} (h : Ev (fun k => f (k + 1)) r) : Ev f r := by
  obtain ⟨K, h⟩ := h
  refine ⟨K + 1, fun k hk => ?_⟩
  obtain ⟨m, rfl⟩ : ∃ m, k = m + 1 := ⟨k - 1, by omega⟩
  exact h m (by omega)
theorem Ev.of {α : Type} {f g : Nat → Option α} {r : α} (h : Ev f r) (e : ∀ k, g k = f k) : Ev g r := by
  obtain ⟨K, h⟩ := h
  exact ⟨K, fun k hk => (e k).trans (h k hk)⟩
theorem Ev.both {α β : Type} {f : Nat → Option α} {g : Nat → Option β} {a : α} {b : β} (h : Ev f a) (h2 : Ev g b) : ∃ k, f k = some a ∧ g k = some b := by
  obtain ⟨K, h⟩ := h
  obtain ⟨K2, h2⟩ := h2
  exact ⟨max K K2, h _ (by omega), h2 _ (by omega)⟩
theorem Ev.one {α : Type} {f : Nat → Option α} {a : α} (h : Ev f a) : ∃ k, f k = some a := by
  obtain ⟨K, h⟩ := h
  exact ⟨K, h _ (by omega)⟩
theorem w64 {n : Int} (h0 : -9223372036854775808 ≤ n) (h1 : n ≤ 9223372036854775807) : wrap64 n = n := by unfold wrap64; omega
theorem rd_mid {pre r : List Int} {x : Int} {i : Int} (hi : i = (pre.length : Int)) : rd (pre ++ x :: r) i = x := by
  subst hi
  simp [rd]
theorem within_eq (x a b : Int) : impl_within.f x a b = some (decide (a ≤ x ∧ x ≤ b)) := by
  unfold impl_within.f
  by_cases h : x ≥ a
  · rw [if_pos h]; simp; omega
  · rw [if_neg h]; simp; omega
theorem setwith_eq {s k : Nat} (hs : s < 256) (hk : k < 8) : impl_set_with.f (s : Int) (k : Int) = some ((s ||| 2 ^ k : Nat) : Int) := by
  unfold impl_set_with.f
  rw [if_pos (by omega)]
  have : shl .u16 1 (k : Int) = IntKind.u16.wrap (2 ^ k) := by
    unfold shl
    rw [Int.toNat_natCast, Nat.min_eq_left (by show k ≤ 16; omega), Int.one_mul]
  rw [this, with_eq hs hk]
theorem sethas_eq {s k : Nat} (hs : s < 256) (hk : k < 8) : impl_set_has.f (s : Int) (k : Int) = some (s.testBit k) := by
  unfold impl_set_has.f
  rw [if_pos (by omega)]
  have : shr .u16 (s : Int) (k : Int) = (s : Int) / 2 ^ k := by
    unfold shr
    rw [Int.toNat_natCast, Nat.min_eq_left (by show k ≤ 16; omega)]
  rw [this, has_eq hs]
/-- The set of ascending numbers below n. -/
def setGo (n : Nat) : List Int → Nat → Int → Option Nat
  | [], s, _ => some s
  | x :: r, s, last => if last + 1 ≤ x ∧ x ≤ (n : Int) - 1 then setGo n r (s ||| 2 ^ x.toNat) x else none
def setD (n : Nat) (L : List Int) : Option Nat := setGo n L 0 (-1)
def setR (o : Option Nat) : Int × Bool := match o with | some s => ((s : Int), true) | none => (0, false)
theorem ev_setGo {n : Nat} (hn : n ≤ 8) (L : List Int) : ∀ (r pre : List Int) (s : Nat) (last : Int), L = pre ++ r → s < 2 ^ n → (pre.length : Int) ≤ last + 1 → last ≤ (n : Int) - 1 →
    Ev (fun k => impl_setOf.l0 k (n : Int) (s : Int) last L (L.length : Int) (pre.length : Int)) (setR (setGo n r s last))
  | [], pre, s, last, hL, hs, h1, h2 => by
    refine Ev.succ ((Ev.const _).of fun k => ?_)
    rw [List.append_nil] at hL
    subst hL
    simp only [impl_setOf.l0]
    rw [if_neg (by omega)]
    rfl
  | x :: r, pre, s, last, hL, hs, h1, h2 => by
    have hlen : L.length = pre.length + (r.length + 1) := by rw [hL]; simp
    have hw1 : wrap64 (last + 1) = last + 1 := w64 (by omega) (by omega)
    have hw2 : wrap64 ((n : Int) - 1) = (n : Int) - 1 := w64 (by omega) (by omega)
    have hrd : rd L (pre.length : Int) = x := by rw [hL]; exact rd_mid rfl
    refine Ev.succ ?_
    by_cases hx : last + 1 ≤ x ∧ x ≤ (n : Int) - 1
    · have hx0 : 0 ≤ x := by omega
      obtain ⟨m, rfl⟩ : ∃ m : Nat, x = (m : Int) := ⟨x.toNat, by omega⟩
      have hs8 : s < 256 := Nat.lt_of_lt_of_le hs (pow8 hn)
      have ih := ev_setGo hn L r (pre ++ [(m : Int)]) (s ||| 2 ^ m) m (by rw [hL]; simp) (Nat.or_lt_two_pow hs (Nat.pow_lt_pow_right (by omega) (by omega))) (by simp; omega) (by omega)
      have hg : setGo n ((m : Int) :: r) s last = setGo n r (s ||| 2 ^ m) m := by
        rw [setGo, if_pos hx, Int.toNat_natCast]
      rw [hg]
      refine ih.of fun k => ?_
      simp only [impl_setOf.l0]
      rw [if_pos (by omega), if_pos (by omega), if_pos (by omega), hrd, hw1, hw2, within_eq, decide_eq_true hx]
      simp only [Option.bind_some, if_true]
      rw [setwith_eq hs8 (by omega)]
      simp only [Option.bind_some, List.length_append, List.length_cons, List.length_nil]
      rw [w64 (by omega) (by omega)]
      rfl
    · have hg : setGo n (x :: r) s last = none := by rw [setGo, if_neg hx]
      rw [hg]
      refine (Ev.const _).of fun k => ?_
      simp only [impl_setOf.l0]
      rw [if_pos (by omega), if_pos (by omega), if_pos (by omega), hrd, hw1, hw2, within_eq, decide_eq_false hx]
      rfl
theorem ev_setOf {n : Nat} (hn : n ≤ 8) (L : List Int) : Ev (fun k => impl_setOf.f k L (n : Int)) (setR (setD n L)) :=
  ev_setGo hn L L [] 0 (-1) rfl (Nat.two_pow_pos n) (by simp) (by omega)
theorem setGo_lt {n : Nat} : ∀ {r : List Int} {s : Nat} {last : Int} {t : Nat}, setGo n r s last = some t → s < 2 ^ n → -1 ≤ last → t < 2 ^ n
  | [], s, last, t, h, hs, hl => by rw [setGo] at h; cases h; exact hs
  | x :: r, s, last, t, h, hs, hl => by
    rw [setGo] at h
    by_cases hx : last + 1 ≤ x ∧ x ≤ (n : Int) - 1
    · rw [if_pos hx] at h
      exact setGo_lt h (Nat.or_lt_two_pow hs (Nat.pow_lt_pow_right (by omega) (by omega))) (by omega)
    · rw [if_neg hx] at h; cases h
theorem setD_lt {n : Nat} {L : List Int} {t : Nat} (h : setD n L = some t) : t < 2 ^ n := setGo_lt h (Nat.two_pow_pos n) (by omega)
def taskOk (t : Tk) : Prop := (1 ≤ t.f0 ∧ t.f0 ≤ 20) ∧ (0 ≤ t.f2 ∧ t.f2 ≤ 2) ∧ (1 ≤ t.f3 ∧ t.f3 ≤ 4)
instance (t : Tk) : Decidable (taskOk t) := by unfold taskOk; infer_instance
def needsGo (n : Nat) : List Tk → Option (List Nat)
  | [] => some []
  | t :: r => match setD n t.f1 with
    | none => none
    | some s => if taskOk t then (needsGo n r).map (s :: ·) else none
def needsD (g : List Tk) : Option (List Nat) := if g.length ≤ 8 then needsGo g.length g else none
def needsR (o : Option (List Nat)) : List Int × Bool := match o with | some N => (up N, true) | none => ([], false)
theorem rdT_mid {pre r : List Tk} {x : Tk} {i : Int} (hi : i = (pre.length : Int)) : rd_T48 (pre ++ x :: r) i = x := by
  subst hi
  simp [rd_T48]
theorem ev_needsGo (G : List Tk) (h8 : G.length ≤ 8) : ∀ (r pre : List Tk) (N : List Nat), G = pre ++ r → N.length = pre.length →
    Ev (fun k => impl_needsOf.l0 k G (up N) G (G.length : Int) (pre.length : Int)) (needsR ((needsGo G.length r).map (N ++ ·)))
  | [], pre, N, hG, hN => by
    refine Ev.succ ((Ev.const _).of fun k => ?_)
    rw [List.append_nil] at hG
    subst hG
    simp only [impl_needsOf.l0]
    rw [if_neg (by omega)]
    simp [needsGo, needsR]
  | t :: r, pre, N, hG, hN => by
    have hlen : G.length = pre.length + (r.length + 1) := by rw [hG]; simp
    have hrd : rd_T48 G (pre.length : Int) = t := by rw [hG]; exact rdT_mid rfl
    have hs := ev_setOf h8 t.f1
    refine Ev.succ ?_
    cases he : setD G.length t.f1 with
    | none =>
      rw [he] at hs
      have hg : needsGo G.length (t :: r) = none := by rw [needsGo, he]
      rw [hg]
      obtain ⟨K, h2⟩ := hs
      dsimp only at h2
      refine ⟨K, fun k hk => ?_⟩
      show impl_needsOf.l0 (k + 1) _ _ _ _ _ = _
      simp only [impl_needsOf.l0]
      rw [if_pos (by omega), if_pos (by omega), if_pos (by omega), hrd, h2 k hk]
      rfl
    | some s =>
      rw [he] at hs
      by_cases hok : taskOk t
      · have hg : needsGo G.length (t :: r) = (needsGo G.length r).map (s :: ·) := by rw [needsGo, he]; simp [hok]
        have ih := ev_needsGo G h8 r (pre ++ [t]) (N ++ [s]) (by rw [hG]; simp) (by simp [hN])
        have e1 : ((needsGo G.length r).map (s :: ·)).map (N ++ ·) = (needsGo G.length r).map ((N ++ [s]) ++ ·) := by cases needsGo G.length r <;> simp
        rw [hg, e1]
        obtain ⟨K, h2⟩ := hs
        dsimp only at h2
        obtain ⟨K2, h3⟩ := ih
        dsimp only at h3
        refine ⟨max K K2, fun k hk => ?_⟩
        show impl_needsOf.l0 (k + 1) _ _ _ _ _ = _
        simp only [impl_needsOf.l0]
        rw [if_pos (by omega), if_pos (by omega), if_pos (by omega), hrd, h2 k (by omega)]
        simp only [setR, Option.bind_some, if_true]
        rw [within_eq, decide_eq_true hok.1]
        simp only [Option.bind_some, if_true]
        rw [within_eq, decide_eq_true hok.2.1]
        simp only [Option.bind_some, if_true]
        rw [within_eq, decide_eq_true hok.2.2]
        simp only [Option.bind_some, if_true]
        rw [if_pos (by rw [up_length]; omega), w64 (by omega) (by omega)]
        have := h3 k (by omega)
        simpa [up] using this
      · have hg : needsGo G.length (t :: r) = none := by rw [needsGo, he]; simp [hok]
        rw [hg]
        obtain ⟨K, h2⟩ := hs
        dsimp only at h2
        refine ⟨K, fun k hk => ?_⟩
        show impl_needsOf.l0 (k + 1) _ _ _ _ _ = _
        simp only [impl_needsOf.l0]
        rw [if_pos (by omega), if_pos (by omega), if_pos (by omega), hrd, h2 k (by omega)]
        simp only [setR, Option.bind_some, if_true]
        rw [within_eq, within_eq, within_eq]
        simp only [Option.bind_some]
        by_cases h1 : 1 ≤ t.f0 ∧ t.f0 ≤ 20
        · by_cases h2 : 0 ≤ t.f2 ∧ t.f2 ≤ 2
          · by_cases h3 : 1 ≤ t.f3 ∧ t.f3 ≤ 4
            · exact absurd ⟨h1, h2, h3⟩ hok
            · simp [h1, h2, h3, needsR]
          · simp [h1, h2, needsR]
        · simp [h1, needsR]
theorem ev_needsOf (G : List Tk) : Ev (fun k => impl_needsOf.f k G) (needsR (needsD G)) := by
  unfold needsD
  by_cases h : G.length ≤ 8
  · rw [if_pos h]
    have h2 := ev_needsGo G h G [] [] rfl rfl
    have e : (needsGo G.length G).map (([] : List Nat) ++ ·) = needsGo G.length G := by cases needsGo G.length G <;> simp
    rw [e] at h2
    refine h2.of fun k => ?_
    unfold impl_needsOf.f
    rw [if_neg (by omega), if_pos (by omega), if_pos (by omega)]
    rfl
  · rw [if_neg h]
    refine (Ev.const _).of fun k => ?_
    unfold impl_needsOf.f
    rw [if_pos (by omega)]
    rfl
theorem needsGo_spec {n : Nat} : ∀ {r : List Tk} {N : List Nat}, needsGo n r = some N → N.length = r.length ∧ below1 n N
  | [], N, h => by rw [needsGo] at h; cases h; exact ⟨rfl, fun x hx => by cases hx⟩
  | t :: r, N, h => by
    rw [needsGo] at h
    cases he : setD n t.f1 with
    | none => rw [he] at h; cases h
    | some s =>
      rw [he] at h
      by_cases hok : taskOk t
      · simp only [hok, if_true] at h
        cases hg : needsGo n r with
        | none => rw [hg] at h; cases h
        | some M =>
          rw [hg] at h
          cases h
          have := needsGo_spec hg
          refine ⟨by simp [this.1], fun x hx => ?_⟩
          rcases List.mem_cons.1 hx with rfl | hx
          · exact setD_lt he
          · exact this.2 x hx
      · simp [hok] at h
theorem needsD_spec {g : List Tk} {N : List Nat} (h : needsD g = some N) : g.length ≤ 8 ∧ N.length = g.length ∧ below1 g.length N := by
  unfold needsD at h
  by_cases h8 : g.length ≤ 8
  · rw [if_pos h8] at h
    exact ⟨h8, needsGo_spec h⟩
  · rw [if_neg h8] at h; cases h
end Go.Proofs.YtpibdjkajgfgjaaDoor.Core
namespace Go.Proofs.YtpibdjkajgfgjaaDoor.Core
open Go Go.RowKit Go.Shelf Go.Proofs.YtpibdjkajgfgjaaDoorW.PrintWords Go.Proofs.YtpibdjkajgfgjaaDoorW.PrintMore Go.Proofs.YtpibdjkajgfgjaaDoor.P
attribute [local go_sem] Oper.semAt_some wide_fn wide_depth
def nextFrom (N : List Nat) (d : Nat) : Nat → Nat → Option Nat
  | _, 0 => none
  | i, m + 1 => if d.testBit i = false ∧ sub (N.getD i 0) d = 0 then some i else nextFrom N d (i + 1) m
def nextD (N : List Nat) (d : Nat) : Option Nat := nextFrom N d 0 N.length
def orderGo (N : List Nat) : Nat → List Nat → Nat → List Nat × Nat
  | 0, L, d => (L, d)
  | m + 1, L, d => match nextD N d with
    | some i => orderGo N m (L ++ [i]) (d ||| 2 ^ i)
    | none => orderGo N m L d
def orderD (N : List Nat) : List Nat × Nat := orderGo N N.length [] 0
theorem nextFrom_spec {N : List Nat} {d : Nat} : ∀ {m i j : Nat}, nextFrom N d i m = some j → i ≤ j ∧ j < i + m ∧ d.testBit j = false ∧ sub (N.getD j 0) d = 0
  | 0, i, j, h => by rw [nextFrom] at h; cases h
  | m + 1, i, j, h => by
    rw [nextFrom] at h
    by_cases hc : d.testBit i = false ∧ sub (N.getD i 0) d = 0
    · rw [if_pos hc] at h
      cases h
      exact ⟨by omega, by omega, hc⟩
    · rw [if_neg hc] at h
      have := nextFrom_spec h
      exact ⟨by omega, by omega, this.2.2⟩
theorem nextD_spec {N : List Nat} {d j : Nat} (h : nextD N d = some j) : j < N.length ∧ d.testBit j = false ∧ sub (N.getD j 0) d = 0 := by
  have := nextFrom_spec h
  exact ⟨by omega, this.2.2⟩
def ordR (x : List Nat × Nat) : List Int × Int := (up x.1, (x.2 : Int))
theorem order_step {N : List Nat} {n : Nat} (hN : N.length = n) (hn : n ≤ 8) (L : List Nat) (d i j k : Nat) (hd8 : d < 256) (hNi : N.getD i 0 < 256) (hi : i < n) (hj : j ≤ 8) (hL : L.length ≤ j) : impl_order.l1 (k + 1) (up N) (up L) (d : Int) (n : Int) (j : Int) (up N) (n : Int) (i : Int) = (if d.testBit i = true then impl_order.l1 k (up N) (up L) (d : Int) (n : Int) (j : Int) (up N) (n : Int) ((i + 1 : Nat) : Int) else if ((sub (N.getD i 0) d : Nat) : Int) = 0 then impl_order.l0 k (up N) (up (L ++ [i])) ((d ||| 2 ^ i : Nat) : Int) (n : Int) ((j + 1 : Nat) : Int) else impl_order.l1 k (up N) (up L) (d : Int) (n : Int) (j : Int) (up N) (n : Int) ((i + 1 : Nat) : Int)) := by
  have h8 : up (L ++ [i]) = up L ++ [(i : Int)] := by simp [up]
  have hwj : ((j + 1 : Nat) : Int) = wrap64 ((j : Int) + 1) := by rw [w64 (by omega) (by omega)]; omega
  have hw : ((i + 1 : Nat) : Int) = wrap64 ((i : Int) + 1) := by rw [w64 (by omega) (by omega)]; omega
  rw [h8, hwj, hw, ← andNot_eq hNi hd8, impl_order.l1, if_pos (by omega), if_pos (by omega), if_pos (by rw [up_length, hN]; omega), sethas_eq hd8 (by omega), Option.bind_some, rd_up (L := N) (i := i) rfl]
  congr 1
  congr 1
  rw [if_pos (by rw [up_length]; omega), setwith_eq hd8 (by omega), Option.bind_some]
theorem ev_next {N : List Nat} {n : Nat} (hN : N.length = n) (hn : n ≤ 8) (hb : below1 n N) (L : List Nat) (d : Nat) (hd : d < 2 ^ n) (j : Nat) (hL : L.length ≤ j) (hj : j ≤ 8) (R : List Nat → Nat → List Int × Int)
    (ho : ∀ (L' : List Nat) (d' : Nat), d' < 2 ^ n → L'.length ≤ j + 1 → Ev (fun k => impl_order.l0 k (up N) (up L') (d' : Int) (n : Int) ((j + 1 : Nat) : Int)) (R L' d')) (m : Nat) : ∀ i, i + m = n →
    Ev (fun k => impl_order.l1 k (up N) (up L) (d : Int) (n : Int) (j : Int) (up N) (n : Int) (i : Int)) (match nextFrom N d i m with | some i => R (L ++ [i]) (d ||| 2 ^ i) | none => R L d) := by
  induction m with
  | zero =>
    intro i hi
    have hwj : wrap64 ((j : Int) + 1) = ((j + 1 : Nat) : Int) := by rw [w64 (by omega) (by omega)]; omega
    have hg : nextFrom N d i 0 = none := by rw [nextFrom]
    have h0 := ho L d hd (by omega)
    rw [hg]
    refine Ev.succ (h0.of fun k => ?_)
    rw [impl_order.l1, if_neg (by omega), hwj]
  | succ m ih =>
    intro i hi
    have h256 := pow8 hn
    have hd8 : d < 256 := Nat.lt_of_lt_of_le hd h256
    have hNi : N.getD i 0 < 256 := Nat.lt_of_lt_of_le (getD_lt hb i) h256
    have hstep := fun k => order_step hN hn L d i j k hd8 hNi (by omega) hj hL
    have ih := ih (i + 1) (by omega)
    refine Ev.succ ?_
    cases hbit : d.testBit i with
    | true =>
      have hg : nextFrom N d i (m + 1) = nextFrom N d (i + 1) m := by rw [nextFrom, if_neg (by simp [hbit])]
      rw [hg]
      refine ih.of fun k => ?_
      rw [hstep, if_pos hbit]
    | false =>
      by_cases hz : sub (N.getD i 0) d = 0
      · have hg : nextFrom N d i (m + 1) = some i := by rw [nextFrom, if_pos ⟨hbit, hz⟩]
        rw [hg]
        have h0 := ho (L ++ [i]) (d ||| 2 ^ i) (Nat.or_lt_two_pow hd (Nat.pow_lt_pow_right (by omega) (by omega))) (by simp; omega)
        refine h0.of fun k => ?_
        rw [hstep, if_neg (by simp [hbit]), if_pos (by omega)]
      · have hg : nextFrom N d i (m + 1) = nextFrom N d (i + 1) m := by rw [nextFrom, if_neg (fun h => hz h.2)]
        rw [hg]
        refine ih.of fun k => ?_
        rw [hstep, if_neg (by simp [hbit]), if_neg (by omega)]
theorem ev_orderGo {N : List Nat} {n : Nat} (hN : N.length = n) (hn : n ≤ 8) (hb : below1 n N) : ∀ (m j : Nat) (L : List Nat) (d : Nat), j + m = n → d < 2 ^ n → L.length ≤ j →
    Ev (fun k => impl_order.l0 k (up N) (up L) (d : Int) (n : Int) (j : Int)) (ordR (orderGo N m L d))
  | 0, j, L, d, hj, hd, hL => by
    refine Ev.succ ((Ev.const _).of fun k => ?_)
    simp only [impl_order.l0]
    rw [if_neg (by omega)]
    rfl
  | m + 1, j, L, d, hj, hd, hL => by
    refine Ev.succ ?_
    have h := ev_next hN hn hb L d hd j hL (by omega) (fun L' d' => ordR (orderGo N m L' d')) (fun L' d' hd' hL' => ev_orderGo hN hn hb m (j + 1) L' d' (by omega) hd' hL') N.length 0 (by omega)
    have e : (match nextFrom N d 0 N.length with | some i => ordR (orderGo N m (L ++ [i]) (d ||| 2 ^ i)) | none => ordR (orderGo N m L d)) = ordR (orderGo N (m + 1) L d) := by
      rw [orderGo, nextD]
      cases he : nextFrom N d 0 N.length <;> rfl
    rw [← e]
    refine h.of fun k => ?_
    simp only [impl_order.l0]
    rw [if_pos (by omega), up_length, hN]
    rfl
theorem ev_order {N : List Nat} (hn : N.length ≤ 8) (hb : below1 N.length N) : Ev (fun k => impl_order.f k (up N)) (ordR (orderD N)) := by
  have h := ev_orderGo rfl hn hb N.length 0 [] 0 (by omega) (Nat.two_pow_pos _) (by simp)
  refine h.of fun k => ?_
  unfold impl_order.f
  rw [up_length]
  rfl
/-- What an order (as far as it goes) and its set have. -/
structure OrdOk (N : List Nat) (L : List Nat) (d : Nat) : Prop where
  lt : ∀ i ∈ L, i < N.length
  set : ∀ i, d.testBit i = true ↔ i ∈ L
  dlt : d < 2 ^ N.length
  nodup : L.Nodup
  len : L.length + zb N.length d = N.length
  needs : ∀ pre i suf, L = pre ++ i :: suf → ∀ k, (N.getD i 0).testBit k = true → k ∈ pre
theorem zb_step {p i : Nat} (hp : p.testBit i = false) : ∀ {n : Nat}, i < n → zb n (p ||| 2 ^ i) + 1 = zb n p
  | 0, h => by omega
  | n + 1, h => by
    simp only [zb, or_bit]
    by_cases hi : i = n
    · subst hi
      have : ∀ m, m ≤ i → zb m (p ||| 2 ^ i) = zb m p := by
        intro m
        induction m with
        | zero => intro _; rfl
        | succ m ih =>
          intro hm
          simp only [zb, or_bit, ih (by omega)]
          have : i ≠ m := by omega
          simp [this]
      rw [this i (Nat.le_refl _)]
      simp [hp]
    · have := zb_step hp (n := n) (by omega)
      cases p.testBit n <;> simp [hi] <;> omega
theorem zb_zero : ∀ n, zb n 0 = n
  | 0 => rfl
  | n + 1 => by simp [zb, zb_zero n]
theorem zb_full (n : Nat) : ∀ m, m ≤ n → zb m (2 ^ n - 1) = 0
  | 0, _ => rfl
  | m + 1, h => by
    simp only [zb, zb_full n m (by omega), Nat.testBit_two_pow_sub_one]
    simp; omega
theorem OrdOk.step {N L : List Nat} {d i : Nat} (hn : N.length ≤ 8) (hb : below1 N.length N) (h : OrdOk N L d) (hi : i < N.length) (h1 : d.testBit i = false) (h2 : sub (N.getD i 0) d = 0) : OrdOk N (L ++ [i]) (d ||| 2 ^ i) where
  lt := by
    intro k hk
    rcases List.mem_append.1 hk with hk | hk
    · exact h.lt k hk
    · rw [List.mem_singleton.1 hk]; exact hi
  set := by
    intro k
    rw [or_bit, List.mem_append, List.mem_singleton, Bool.or_eq_true, h.set, decide_eq_true_eq]
    constructor
    · rintro (h | h)
      · exact .inl h
      · exact .inr h.symm
    · rintro (h | h)
      · exact .inl h
      · exact .inr h.symm
  dlt := Nat.or_lt_two_pow h.dlt (Nat.pow_lt_pow_right (by omega) hi)
  nodup := by
    rw [List.nodup_append]
    refine ⟨h.nodup, by simp, fun a ha b hb => ?_⟩
    rw [List.mem_singleton.1 hb]
    rintro rfl
    have := (h.set a).2 ha
    rw [this] at h1
    cases h1
  len := by
    have := zb_step h1 hi
    have := h.len
    simp
    omega
  needs := by
    intro pre k suf he m hm
    rcases List.eq_nil_or_concat suf with rfl | ⟨s2, x, rfl⟩
    · have h3 : pre = L ∧ k = i := by
        have := List.append_inj' he (by simp)
        simpa [eq_comm] using this
      obtain ⟨rfl, rfl⟩ := h3
      have hd8 : d < 256 := Nat.lt_of_lt_of_le h.dlt (pow8 hn)
      have h4 := sub_testBit (i := m) (Nat.lt_of_lt_of_le (getD_lt hb k) (pow8 hn)) hd8
      rw [h2, hm] at h4
      simp at h4
      exact (h.set m).1 h4
    · have h3 : L = pre ++ k :: s2 := by
        have e2 : L ++ [i] = (pre ++ k :: s2) ++ [x] := by rw [he]; simp
        exact (List.append_inj' e2 (by simp)).1
      exact h.needs pre k s2 h3 m hm
theorem orderGo_ok {N : List Nat} (hn : N.length ≤ 8) (hb : below1 N.length N) : ∀ {m : Nat} {L : List Nat} {d : Nat}, OrdOk N L d → OrdOk N (orderGo N m L d).1 (orderGo N m L d).2
  | 0, L, d, h => h
  | m + 1, L, d, h => by
    rw [orderGo]
    cases he : nextD N d with
    | none => exact orderGo_ok hn hb h
    | some i =>
      have := nextD_spec he
      exact orderGo_ok hn hb (h.step hn hb this.1 this.2.1 this.2.2)
theorem orderD_ok {N : List Nat} (hn : N.length ≤ 8) (hb : below1 N.length N) : OrdOk N (orderD N).1 (orderD N).2 :=
  orderGo_ok hn hb ⟨by simp, by simp, Nat.two_pow_pos _, by simp, by rw [zb_zero]; simp, by simp⟩
/-- What is known of a valid graph. -/
def mkG (g : List Tk) (N : List Nat) : GD := ⟨g, N, (orderD N).1, (reach N (orderD N).1 g.length).1, (reach N (orderD N).1 g.length).2⟩
def graphD (g : List Tk) : Option GD := match needsD g with
  | none => none
  | some N => if (orderD N).2 = 2 ^ g.length - 1 then some (mkG g N) else none
theorem graphD_spec {g : List Tk} {G : GD} (h : graphD g = some G) : ∃ N, needsD g = some N ∧ (orderD N).2 = 2 ^ g.length - 1 ∧ G = mkG g N := by
  unfold graphD at h
  cases he : needsD g with
  | none => rw [he] at h; cases h
  | some N =>
    rw [he] at h
    simp only [] at h
    by_cases hf : (orderD N).2 = 2 ^ g.length - 1
    · rw [if_pos hf] at h
      cases h
      exact ⟨N, rfl, hf, rfl⟩
    · rw [if_neg hf] at h; cases h
theorem graphD_tasks {g : List Tk} {G : GD} (h : graphD g = some G) : G.tasks = g := by
  obtain ⟨N, _, _, rfl⟩ := graphD_spec h
  rfl
theorem graphD_ok {g : List Tk} {G : GD} (h : graphD g = some G) : GOk G := by
  obtain ⟨N, h1, h2, rfl⟩ := graphD_spec h
  obtain ⟨h8, hl, hb⟩ := needsD_spec h1
  have hb' : below1 N.length N := by rw [hl]; exact hb
  have ok := orderD_ok (by omega) hb'
  have hob : ∀ i ∈ (orderD N).1, i < g.length := fun i hi => by have := ok.lt i hi; omega
  have hr := reach_below hb hob
  refine ⟨h8, hl, hb, ?_, hob, reach_len1 _ _ _, hr.1, reach_len2 _ _ _, hr.2⟩
  have := ok.len
  rw [h2, hl, zb_full _ _ (Nat.le_refl _)] at this
  exact this
set_option maxRecDepth 100000 in
set_option maxHeartbeats 4000000 in
theorem graphOf_no2 (k : Nat) (A0 : Option Addr) (c0 : Nat) (l0 : List Tk) (N O : List Nat) (d : Nat) (w : World) (hr0 : k48.C w A0 l0.length l0) (hc0 : l0.length ≤ c0) (h8 : l0.length ≤ 8) (hne : d ≠ 2 ^ l0.length - 1)
    (h : impl_needsOf.f k l0 = some (up N, true)) (ho : impl_order.f k (up N) = some (up O, (d : Int))) :
    Calls Tryd.prog 60 #[.slice A0 l0.length c0] w fun e w' => e = .returned (.tuple #[.pointer none, .bool false]) ∧ Below w.heap.size w w' := by
  have h' := Lib.hid h
  have ho' := Lib.hid ho
  clear h ho
  have hev := everything_calls l0.length h8
  generalize 2 ^ l0.length - 1 = full at hne hev
  generalize hfi : ((full : Nat) : Int) = fi at hev
  generalize hdi : ((d : Nat) : Int) = di at ho'
  have hne1 : (di != fi) = true := by simp; omega
  clear hfi hdi
  refine calls_marks Tryd.func60 rfl ?_
  simp only [Tryd.ntmps60, List.size_toArray, List.length_cons, List.length_nil, Nat.reduceAdd, Nat.reduceSub, Array.replicate_succ, Array.replicate_zero, List.push_toArray, List.append_toArray, List.nil_append, List.cons_append]
  go_wp2_with (first | (go_at_call 103; refine (impl_needsOf.calls k A0 c0 l0 _ _ _ hr0 hc0 h'.out).mono ?_; rintro e w1 ⟨v0, rfl, hR1, hB1⟩; obtain ⟨A1, c1, rfl, hl1', hC1⟩ := Kd.R_reads hR1; have hz1 := Lib.hid (up_length N)) | (go_at_call 104; refine (impl_order.calls k _ _ (up N) _ _ _ hC1 hl1' ho'.out).mono ?_; rintro e w2 ⟨v1, rfl, hR2, hB2⟩) | (go_at_call 72; refine (hev _).mono ?_; rintro e w3 ⟨rfl, rfl⟩))
  refine leave_ret (Marks.nil w.heap.size w.heap.size _) (fun W => results_tmp2 rfl _ _ _) ?_
  intro W' ht
  exact ⟨rfl, ht.below (below_step hB1 hB2) (Nat.le_refl _) (Nat.le_refl _)⟩
/-- What graphOf hands back. -/
def graphPost (A0 : Option Addr) (g : List Tk) (w : World) (e : Ending) (w' : World) : Prop := match graphD g with
  | none => e = .returned (.tuple #[.pointer none, .bool false]) ∧ Below w.heap.size w w'
  | some G => ∃ (b : Nat) (v : Value), e = .returned (.tuple #[.pointer (some ⟨b, 0, none⟩), .bool true]) ∧ Below w.heap.size w w' ∧ w.heap.size ≤ b ∧ IsG w' b G ∧ w'.cell? ⟨b, 2, none⟩ = some v ∧ (Kd.int .i64).R 3 w' w.heap.size (fun _ => True) v (up G.order) ∧ (∀ W2 : World, k48.C W2 A0 g.length g → (∀ k, w.heap.size ≤ k → k < w'.heap.size → W2.heap[k]? = w'.heap[k]?) → IsG W2 b G)
theorem graphOf_calls (A0 : Option Addr) (c0 : Nat) (l0 : List Tk) (w : World) (hT : Tab w) (hr0 : k48.C w A0 l0.length l0) (hc0 : l0.length ≤ c0) :
    Calls Tryd.prog 60 #[.slice A0 l0.length c0] w (graphPost A0 l0 w) := by
  have hn := ev_needsOf l0
  cases he : needsD l0 with
  | none =>
    rw [he] at hn
    obtain ⟨k, hk⟩ := hn.one
    refine (graphOf_no1 k A0 c0 l0 [] w hr0 hc0 hk).mono ?_
    intro e w' h
    have hg : graphD l0 = none := by unfold graphD; rw [he]
    unfold graphPost
    rw [hg]
    exact h
  | some N =>
    rw [he] at hn
    obtain ⟨h8, hl, hb⟩ := needsD_spec he
    have hb' : below1 N.length N := by rw [hl]; exact hb
    have ho := ev_order (N := N) (by omega) hb'
    have ok := orderD_ok (N := N) (by omega) hb'
    obtain ⟨k, h1, h2⟩ := hn.both ho
    by_cases hf : (orderD N).2 = 2 ^ l0.length - 1
    · have hg : graphD l0 = some (mkG l0 N) := by unfold graphD; rw [he]; simp only []; rw [if_pos hf]
      have h2' : impl_order.f k (up N) = some (up (orderD N).1, ((2 ^ l0.length - 1 : Nat) : Int)) := by rw [← hf]; exact h2
      have gok := graphD_ok hg
      refine (graphOf_yes k A0 c0 l0 N (orderD N).1 w hT hr0 hc0 h8 hl hb gok.ob (by have := gok.ol; have := gok.n8; show (orderD N).1.length ≤ 8; simp only [mkG] at *; omega) h1 h2').mono ?_
      intro e w' h
      unfold graphPost
      rw [hg]
      exact h
    · have hg : graphD l0 = none := by unfold graphD; rw [he]; simp only []; rw [if_neg hf]
      refine (graphOf_no2 k A0 c0 l0 N (orderD N).1 (orderD N).2 w hr0 hc0 h8 hf h1 h2).mono ?_
      intro e w' h
      unfold graphPost
      rw [hg]
      exact h
end Go.Proofs.YtpibdjkajgfgjaaDoor.Core
end
section
set_option linter.unusedVariables false
set_option linter.unusedSimpArgs false
namespace Go.Proofs.YtpibdjkajgfgjaaDoor.Core
open Go Go.RowKit Go.Proofs.YtpibdjkajgfgjaaDoorW.PrintWords Go.Proofs.YtpibdjkajgfgjaaDoorW.PrintMore Go.Proofs.YtpibdjkajgfgjaaDoor.P
theorem Ev.pos {α : Type} {c : Prop} [Decidable c] {f g : Nat → Option α} {r : α} (hc : c) (h : Ev f r) : Ev (fun k => if c then f k else g k) r := h.of fun k => if_pos hc
theorem Ev.neg {α : Type} {c : Prop} [Decidable c] {f g : Nat → Option α} {r : α} (hc : ¬ c) (h : Ev g r) : Ev (fun k => if c then f k else g k) r := h.of fun k => if_neg hc
theorem Ev.sb {α β : Type} {g : Nat → α → Option β} {a : α} {b : β} (h : Ev (fun k => g k a) b) : Ev (fun k => (some a).bind (g k)) b := h.of fun k => rfl
theorem Ev.conv {α : Type} {f : Nat → Option α} {a b : α} (h : Ev f a) (e : a = b) : Ev f b := e ▸ h
def EvP {α : Type} (f : Nat → Option α) (Q : α → Prop) : Prop := ∃ r, Ev f r ∧ Q r
theorem EvP.ret {α : Type} {Q : α → Prop} {a : α} (h : Q a) : EvP (fun _ => some a) Q := ⟨a, Ev.const a, h⟩
theorem EvP.bind {α β : Type} {f : Nat → Option α} {g : Nat → α → Option β} {Q : α → Prop} {R : β → Prop} (h : EvP f Q) (h2 : ∀ a, Q a → EvP (fun k => g k a) R) : EvP (fun k => (f k).bind (g k)) R := by
  obtain ⟨a, h, q⟩ := h
  obtain ⟨b, h2, q2⟩ := h2 a q
  exact ⟨b, h.bind h2, q2⟩
theorem EvP.sb {α β : Type} {g : Nat → α → Option β} {a : α} {R : β → Prop} (h : EvP (fun k => g k a) R) : EvP (fun k => (some a).bind (g k)) R := h
theorem EvP.pos {α : Type} {c : Prop} [Decidable c] {f g : Nat → Option α} {Q : α → Prop} (hc : c) (h : EvP f Q) : EvP (fun k => if c then f k else g k) Q := by
  obtain ⟨r, h, q⟩ := h
  exact ⟨r, h.pos hc, q⟩
theorem EvP.neg {α : Type} {c : Prop} [Decidable c] {f g : Nat → Option α} {Q : α → Prop} (hc : ¬ c) (h : EvP g Q) : EvP (fun k => if c then f k else g k) Q := by
  obtain ⟨r, h, q⟩ := h
  exact ⟨r, h.neg hc, q⟩
theorem EvP.ite {α : Type} {c : Prop} [Decidable c] {f g : Nat → Option α} {Q : α → Prop} (h1 : c → EvP f Q) (h2 : ¬ c → EvP g Q) : EvP (fun k => if c then f k else g k) Q :=
  if hc : c then EvP.pos hc (h1 hc) else EvP.neg hc (h2 hc)
theorem EvP.succ {α : Type} {f : Nat → Option α} {Q : α → Prop} (h : EvP (fun k => f (k + 1)) Q) : EvP f Q := by
  obtain ⟨r, h, q⟩ := h
  exact ⟨r, h.succ, q⟩
theorem EvP.of {α : Type} {f g : Nat → Option α} {Q : α → Prop} (h : EvP f Q) (e : ∀ k, g k = f k) : EvP g Q := by
  obtain ⟨r, h, q⟩ := h
  exact ⟨r, h.of e, q⟩
theorem EvP.mono {α : Type} {f : Nat → Option α} {Q R : α → Prop} (h : EvP f Q) (hq : ∀ a, Q a → R a) : EvP f R := by
  obtain ⟨r, h, q⟩ := h
  exact ⟨r, h, hq r q⟩
theorem Ev.p {α : Type} {f : Nat → Option α} {r : α} {Q : α → Prop} (h : Ev f r) (q : Q r) : EvP f Q := ⟨r, h, q⟩
theorem EvP.ev {α : Type} {f : Nat → Option α} {r : α} (h : EvP f (fun x => x = r)) : Ev f r := by
  obtain ⟨r, h, rfl⟩ := h
  exact h
theorem Ev.bindP {α β : Type} {f : Nat → Option α} {g : Nat → α → Option β} {a : α} {R : β → Prop} (h : Ev f a) (h2 : EvP (fun k => g k a) R) : EvP (fun k => (f k).bind (g k)) R := by
  obtain ⟨b, h2, q2⟩ := h2
  exact ⟨b, h.bind h2, q2⟩
theorem i64_xor_nat (a b : Nat) (ha : a < 4611686018427387904) (hb : b < 4611686018427387904) : bits .xor .i64 (a : Int) (b : Int) = ((a ^^^ b : Nat) : Int) := by
  have hx : a ^^^ b < 2 ^ 62 := Nat.xor_lt_two_pow (by omega) (by omega)
  have h1 : (BitVec.ofInt 64 (a : Int)).toNat = a := by
    rw [BitVec.ofInt_natCast, BitVec.toNat_ofNat]; exact Nat.mod_eq_of_lt (by omega)
  have h2 : (BitVec.ofInt 64 (b : Int)).toNat = b := by
    rw [BitVec.ofInt_natCast, BitVec.toNat_ofNat]; exact Nat.mod_eq_of_lt (by omega)
  show IntKind.i64.wrap ((BitVec.ofInt 64 (a : Int) ^^^ BitVec.ofInt 64 (b : Int)).toNat : Int) = _
  rw [BitVec.toNat_xor, h1, h2, IntKind.wrap_i64]
  omega
theorem i64_xor (a b : Int) (ha : 0 ≤ a) (ha2 : a < 4294967296) (hb : 0 ≤ b) (hb2 : b < 4294967296) : 0 ≤ bits .xor .i64 a b ∧ bits .xor .i64 a b < 4294967296 := by
  obtain ⟨m, rfl⟩ := Int.eq_ofNat_of_zero_le ha
  obtain ⟨n, rfl⟩ := Int.eq_ofNat_of_zero_le hb
  rw [i64_xor_nat m n (by omega) (by omega)]
  have hx : m ^^^ n < 2 ^ 32 := Nat.xor_lt_two_pow (by omega) (by omega)
  omega
theorem tmod_lt {a n : Int} (ha : 0 ≤ a) (hn : 0 < n) : 0 ≤ Int.tmod a n ∧ Int.tmod a n < n := by
  rw [Int.tmod_eq_emod_of_nonneg ha]
  exact ⟨Int.emod_nonneg _ (by omega), Int.emod_lt_of_pos _ hn⟩
theorem tdiv_le {a n : Int} (ha : 0 ≤ a) (hn : 0 < n) : 0 ≤ Int.tdiv a n ∧ Int.tdiv a n ≤ a := by
  rw [Int.tdiv_eq_ediv_of_nonneg ha]
  exact ⟨Int.ediv_nonneg ha (by omega), Int.ediv_le_self _ ha⟩
end Go.Proofs.YtpibdjkajgfgjaaDoor.Core
end
section
set_option linter.unusedVariables false
set_option linter.unusedSimpArgs false
namespace Go.Proofs.YtpibdjkajgfgjaaDoor.Core
open Go Go.RowKit Go.Shelf Go.Proofs.YtpibdjkajgfgjaaDoorW.PrintWords Go.Proofs.YtpibdjkajgfgjaaDoorW.PrintLast Go.Proofs.YtpibdjkajgfgjaaDoorW.PrintMore Go.Proofs.YtpibdjkajgfgjaaDoor.P
attribute [local go_sem] Oper.semAt_some wide_fn wide_depth
/-- The answer that some number of rounds gives. -/
noncomputable def lim {α : Type} (f : Nat → Option α) : Option α := open Classical in if h : ∃ k r, f k = some r then some h.choose_spec.choose else none
theorem lim_some {α : Type} {f : Nat → Option α} {r : α} (h : lim f = some r) : ∃ k, f k = some r := by
  unfold lim at h
  by_cases hh : ∃ k r, f k = some r
  · rw [dif_pos hh] at h
    cases h
    exact ⟨_, hh.choose_spec.choose_spec⟩
  · rw [dif_neg hh] at h; cases h
theorem lim_of {α : Type} {f : Nat → Option α} (hm : ∀ k, LeO (f k) (f (k + 1))) {k : Nat} {r : α} (h : f k = some r) : lim f = some r := by
  have hh : ∃ k r, f k = some r := ⟨k, r, h⟩
  have h2 := hh.choose_spec.choose_spec
  unfold lim
  rw [dif_pos hh]
  rcases Nat.le_total k hh.choose with hle | hle
  · have := at_rounds hm hle h
    rw [h2] at this; exact this
  · have := at_rounds hm hle h2
    rw [h] at this; exact this.symm
theorem mkQ (w : World) (base : Nat) (ok : Nat → Prop) (x : Tk) {v1 : Value} (g1 : (Kd.int .i64).Q 3 w base ok v1 x.f1) : k48.M w base ok x [.int .i64 x.f0, v1, .int .i64 x.f2, .int .i64 x.f3] :=
  ⟨[.int .i64 x.f0], [v1, .int .i64 x.f2, .int .i64 x.f3], rfl, rfl, ⟨[v1], [.int .i64 x.f2, .int .i64 x.f3], rfl, ⟨v1, rfl, g1⟩, ⟨[.int .i64 x.f2], [.int .i64 x.f3], rfl, rfl, rfl⟩⟩⟩
theorem S_put0 {W : World} {base gb n cap : Nat} {ok : Nat → Prop} {xs : List Tk} (h : Kd.S k48 48 W base ok (.slice (some ⟨gb, 0, none⟩) n cap) xs) (i : Int) (h0 : 0 ≤ i) (h1 : i < n) :
    (∃ u, W.cell? ⟨gb, i.toNat * 4, none⟩ = some (.int .i64 u)) ∧ W.frozen? ⟨gb, i.toNat * 4, none⟩ = false ∧ ∀ t : Int,
      Kd.S k48 48 (W.setCell ⟨gb, i.toNat * 4, none⟩ (.int .i64 t)) base ok (.slice (some ⟨gb, 0, none⟩) n cap) (xs.set i.toNat { rd_T48 xs i with f0 := t }) ∧ W.grownBy (W.setCell ⟨gb, i.toNat * 4, none⟩ (.int .i64 t)) (some gb) := by
  obtain ⟨oki, c, hcl, hM, hcc, hfr, hoki, hH⟩ := Kd.S_elem (Kd.S_mono (ok' := fun k => ok k ∧ ¬ False) h (fun k hk => ⟨hk, id⟩)) z48 i h0 h1
  obtain ⟨v1, rfl, g1⟩ := k48_openM hM
  refine ⟨⟨_, hcc 0 _ rfl⟩, hfr 0, fun t => ?_⟩
  exact Kd.S_seg (okg := fun _ => False) hH h0 h1 (seg := [.int .i64 t]) (j := 0) (show 0 + 1 ≤ 4 from by decide) (x' := { rd_T48 xs i with f0 := t }) (mkQ _ _ _ { rd_T48 xs i with f0 := t } g1) (fun k hk => .inl hk) (fun k hk => hk.elim)
theorem S_put2 {W : World} {base gb n cap : Nat} {ok : Nat → Prop} {xs : List Tk} (h : Kd.S k48 48 W base ok (.slice (some ⟨gb, 0, none⟩) n cap) xs) (i : Int) (h0 : 0 ≤ i) (h1 : i < n) :
    (∃ u, W.cell? ⟨gb, i.toNat * 4 + 2, none⟩ = some (.int .i64 u)) ∧ W.frozen? ⟨gb, i.toNat * 4 + 2, none⟩ = false ∧ ∀ t : Int,
      Kd.S k48 48 (W.setCell ⟨gb, i.toNat * 4 + 2, none⟩ (.int .i64 t)) base ok (.slice (some ⟨gb, 0, none⟩) n cap) (xs.set i.toNat { rd_T48 xs i with f2 := t }) ∧ W.grownBy (W.setCell ⟨gb, i.toNat * 4 + 2, none⟩ (.int .i64 t)) (some gb) := by
  obtain ⟨oki, c, hcl, hM, hcc, hfr, hoki, hH⟩ := Kd.S_elem (Kd.S_mono (ok' := fun k => ok k ∧ ¬ False) h (fun k hk => ⟨hk, id⟩)) z48 i h0 h1
  obtain ⟨v1, rfl, g1⟩ := k48_openM hM
  refine ⟨⟨_, hcc 2 _ rfl⟩, hfr 2, fun t => ?_⟩
  exact Kd.S_seg (okg := fun _ => False) hH h0 h1 (seg := [.int .i64 t]) (j := 2) (show 2 + 1 ≤ 4 from by decide) (x' := { rd_T48 xs i with f2 := t }) (mkQ _ _ _ { rd_T48 xs i with f2 := t } g1) (fun k hk => .inl hk) (fun k hk => hk.elim)
theorem S_put3 {W : World} {base gb n cap : Nat} {ok : Nat → Prop} {xs : List Tk} (h : Kd.S k48 48 W base ok (.slice (some ⟨gb, 0, none⟩) n cap) xs) (i : Int) (h0 : 0 ≤ i) (h1 : i < n) :
    (∃ u, W.cell? ⟨gb, i.toNat * 4 + 3, none⟩ = some (.int .i64 u)) ∧ W.frozen? ⟨gb, i.toNat * 4 + 3, none⟩ = false ∧ ∀ t : Int,
      Kd.S k48 48 (W.setCell ⟨gb, i.toNat * 4 + 3, none⟩ (.int .i64 t)) base ok (.slice (some ⟨gb, 0, none⟩) n cap) (xs.set i.toNat { rd_T48 xs i with f3 := t }) ∧ W.grownBy (W.setCell ⟨gb, i.toNat * 4 + 3, none⟩ (.int .i64 t)) (some gb) := by
  obtain ⟨oki, c, hcl, hM, hcc, hfr, hoki, hH⟩ := Kd.S_elem (Kd.S_mono (ok' := fun k => ok k ∧ ¬ False) h (fun k hk => ⟨hk, id⟩)) z48 i h0 h1
  obtain ⟨v1, rfl, g1⟩ := k48_openM hM
  refine ⟨⟨_, hcc 3 _ rfl⟩, hfr 3, fun t => ?_⟩
  exact Kd.S_seg (okg := fun _ => False) hH h0 h1 (seg := [.int .i64 t]) (j := 3) (show 3 + 1 ≤ 4 from by decide) (x' := { rd_T48 xs i with f3 := t }) (mkQ _ _ _ { rd_T48 xs i with f3 := t } g1) (fun k hk => .inl hk) (fun k hk => hk.elim)
def spec_anyGraph.fk (k : Nat) (s0 : List Int) (s1 : Int) : Option (List Tk × Int) :=
  (spec_someGraph.f k s0 s1 8).bind fun a =>
  if a.1.length = 0 then some (a.1, a.2) else
  (spec_reader_pick.f k s0 a.2 (a.1.length : Int)).bind fun p =>
  (spec_reader_pick.f k s0 p.2 24).bind fun q =>
  if ¬ (0 ≤ p.1 ∧ p.1 < (a.1.length : Int)) then none else
  if q.1 = 0 then (spec_reader_one.f k s0 q.2 [0, 21, 20]).bind fun t => some (a.1.set p.1.toNat { rd_T48 a.1 p.1 with f0 := t.1 }, t.2)
  else if q.1 = 1 then (spec_reader_pick.f k s0 q.2 (a.1.length : Int)).bind fun b =>
    if (rd_T48 a.1 p.1).f1.length < 1000 then (spec_reader_spoil.f k s0 b.2 ((rd_T48 a.1 p.1).f1 ++ [b.1]) 8).bind fun c => some (a.1.set p.1.toNat { rd_T48 a.1 p.1 with f1 := c.1 }, c.2) else none
  else if q.1 = 2 then (spec_reader_one.f k s0 q.2 [-1, 3]).bind fun t => some (a.1.set p.1.toNat { rd_T48 a.1 p.1 with f2 := t.1 }, t.2)
  else if q.1 = 3 then (spec_reader_one.f k s0 q.2 [0, 5]).bind fun t => some (a.1.set p.1.toNat { rd_T48 a.1 p.1 with f3 := t.1 }, t.2)
  else if q.1 = 4 then (spec_someGraph.f k s0 q.2 8).bind fun b => if a.1.length + b.1.length < 1000 then some (a.1 ++ b.1, b.2) else none
  else some (a.1, q.2)
theorem spec_anyGraph.mono : ∀ a0 a1 k, LeO (spec_anyGraph.fk k a0 a1) (spec_anyGraph.fk (k + 1) a0 a1) := by
  intro a0 a1 k
  unfold spec_anyGraph.fk
  repeat' first
      | (with_reducible exact spec_someGraph.mono _ _ _ _)
      | (with_reducible exact spec_reader_pick.mono _ _ _ _)
      | (with_reducible exact spec_reader_one.mono _ _ _ _)
      | (with_reducible exact spec_reader_spoil.mono _ _ _ _ _)
      | (with_reducible exact LeO.refl _)
      | (with_reducible exact LeO.none _)
      | (with_reducible refine LeO.ite ?_ ?_)
      | (with_reducible refine LeO.bind ?_ (fun _ => ?_))
      | exact LeO.none _
      | refine LeO.ite ?_ ?_
      | refine LeO.bind ?_ (fun _ => ?_)
/-- What anyGraph leaves. -/
def anyPost (w0 w : World) (g : Nat) (s0 : List Int) (r1 : List Tk) (r2 : Int) (e : Ending) (w' : World) : Prop :=
  ∃ v0_ : Value, e = .returned (v0_) ∧ Kd.S k48 48 w' w.heap.size (fun _ => True) v0_ r1 ∧ IsS116 w0 w' g s0 r2 ∧ Below w0.heap.size w0 w' ∧ KeepBut w w' g none
theorem R_lits {w : World} {b base t : Nat} {l : List Int} (h : w.heap[b]? = some (.cells (l.map (Value.int .i64)).toArray t (0, 0))) (hb : base ≤ b) (hl : l.length ≤ maxLen) : (Kd.int .i64).R t w base (fun _ => True) (.slice (some ⟨b, 0, none⟩) l.length l.length) l :=
  row_R (k := .i64) ⟨by simp, .inr ⟨b, l.length, _, rfl, hb, h, Nat.le_refl _, hl, by simp, by simp [List.take_of_length_le]⟩⟩
theorem C_lits {w : World} {b t : Nat} {l : List Int} (h : w.heap[b]? = some (.cells (l.map (Value.int .i64)).toArray t (0, 0))) (hl : l.length ≤ maxLen) : (Kd.int .i64).C w (some ⟨b, 0, none⟩) l.length l :=
  (Kd.R_reads' (R_lits (base := 0) h (Nat.zero_le _) hl)).2.2
set_option maxRecDepth 100000 in
set_option maxHeartbeats 4000000 in
theorem any_empty (k g : Nat) (s0 : List Int) (s1 : Int) (w0 w : World) (hI : IsS116 w0 w g s0 s1) (hB : Below w0.heap.size w0 w) (a2 : Int) (h1 : spec_someGraph.f k s0 s1 8 = some ([], a2)) : Calls Tryd.prog 81 #[.pointer (some ⟨g, 0, none⟩)] w (anyPost w0 w g s0  [] a2) := by
  have A1 := Aside0.mk h1
  clear h1
  obtain ⟨a, ha⟩ : ∃ a : List Tk, a = [] := ⟨_, rfl⟩
  rw [← ha] at A1
  have hlen : (a.length : Int) = 0 := by rw [ha]; rfl
  have HA := Aside0.mk ha
  clear ha
  have hz : ((a.length : Int) == 0) = true := by simp [hlen]
  have HL := Aside0.mk hlen
  clear hlen
  go_enter Tryd.func81, Tryd.ntmps81
  go_wp2_with (go_at_call 114; refine (spec_someGraph.calls k g s0 s1 8 a a2 w0 _ hI hB A1.out).mono ?_; rintro e w1 ⟨v1, rfl, hS1, hI1, hB1, hK1⟩; clear hI hB; obtain ⟨A, c, rfl⟩ := Kd.S_slice hS1)
  go_ret
  exact ⟨_, rfl, by rw [← HA.out]; exact hS1, hI1, hB1, hK1⟩
set_option maxRecDepth 100000 in
set_option maxHeartbeats 4000000 in
theorem any_same (k g : Nat) (s0 : List Int) (s1 : Int) (w0 w : World) (hI : IsS116 w0 w g s0 s1) (hB : Below w0.heap.size w0 w) (a : List Tk) (a2 p p2 q q2 : Int) (hpos : 0 < a.length) (hp0 : 0 ≤ p) (hp1 : p < (a.length : Int)) (h1 : spec_someGraph.f k s0 s1 8 = some (a, a2)) (h2 : spec_reader_pick.f k s0 a2 (a.length : Int) = some (p, p2)) (h3 : spec_reader_pick.f k s0 p2 24 = some (q, q2)) (hq : q ≠ 0 ∧ q ≠ 1 ∧ q ≠ 2 ∧ q ≠ 3 ∧ q ≠ 4) : Calls Tryd.prog 81 #[.pointer (some ⟨g, 0, none⟩)] w (anyPost w0 w g s0  a q2) := by
  have A1 := Aside0.mk h1
  have A2 := Aside0.mk h2
  have A3 := Aside0.mk h3
  clear h1 h2 h3
  have hz : ((a.length : Int) == 0) = false := beq_eq_false_iff_ne.2 (by omega)
  have hglt : g < w.heap.size := hI.lt
  have hq0 : (q == 0) = false := beq_eq_false_iff_ne.2 (by omega)
  have hq1 : (q == 1) = false := beq_eq_false_iff_ne.2 (by omega)
  have hq2 : (q == 2) = false := beq_eq_false_iff_ne.2 (by omega)
  have hq3 : (q == 3) = false := beq_eq_false_iff_ne.2 (by omega)
  have hq4 : (q == 4) = false := beq_eq_false_iff_ne.2 (by omega)
  go_enter Tryd.func81, Tryd.ntmps81
  go_wp2_with (first | (go_at_call 114; refine (spec_someGraph.calls k g s0 s1 8 a a2 w0 _ hI hB A1.out).mono ?_; rintro e w1 ⟨v1, rfl, hS1, hI1, hB1, hK1⟩; clear hI hB; obtain ⟨gb, cap, rfl, hgb, hgl, cells, hcells⟩ := Kd.S_form hS1 hpos) | (go_at_call 89; refine (spec_reader_pick.calls k g s0 a2 (a.length : Int) p p2 w0 _ hI1 hB1 A2.out).mono ?_; rintro e w2 ⟨rfl, hI2, hB2, hK2⟩; clear hI1 hB1) | (go_at_call 89; refine (spec_reader_pick.calls k g s0 p2 24 q q2 w0 _ hI2 hB2 A3.out).mono ?_; rintro e w3 ⟨rfl, hI3, hB3, hK3⟩; clear hI2 hB2))
  have hS3 : Kd.S k48 48 w3 w.heap.size (fun k => k ≠ g) (.slice (some ⟨gb, 0, none⟩) a.length cap) a := Kd.S_keep (Kd.S_keep (Kd.S_mono (Kd.S_bound hS1) (fun k hk => Nat.ne_of_gt (Nat.lt_of_lt_of_le hglt hk.2.1))) hK2 (fun k hk => hk)) hK3 (fun k hk => hk)
  have hK4 := (hK1.trans hK2 (.inl rfl)).trans hK3 (.inl rfl)
  clear hS1 hK1 hK2 hK3
  go_ret
  exact ⟨_, rfl, Kd.S_mono hS3 (fun _ _ => trivial), hI3, hB3, hK4⟩
set_option maxRecDepth 100000 in
set_option maxHeartbeats 4000000 in
theorem any_case0 (k g : Nat) (s0 : List Int) (s1 : Int) (w0 w : World) (hI : IsS116 w0 w g s0 s1) (hB : Below w0.heap.size w0 w) (a : List Tk) (a2 p p2 q q2 : Int) (hpos : 0 < a.length) (hp0 : 0 ≤ p) (hp1 : p < (a.length : Int)) (h1 : spec_someGraph.f k s0 s1 8 = some (a, a2)) (h2 : spec_reader_pick.f k s0 a2 (a.length : Int) = some (p, p2)) (h3 : spec_reader_pick.f k s0 p2 24 = some (q, q2)) (hq : q = 0) (t t2 : Int) (h4 : spec_reader_one.f k s0 q2 [0, 21, 20] = some (t, t2)) : Calls Tryd.prog 81 #[.pointer (some ⟨g, 0, none⟩)] w (anyPost w0 w g s0  (a.set p.toNat { rd_T48 a p with f0 := t }) t2) := by
  have A1 := Aside0.mk h1
  have A2 := Aside0.mk h2
  have A3 := Aside0.mk h3
  clear h1 h2 h3
  have hz : ((a.length : Int) == 0) = false := beq_eq_false_iff_ne.2 (by omega)
  have hglt : g < w.heap.size := hI.lt
  have A4 := Aside0.mk h4
  clear h4
  have hq0 : (q == 0) = true := by simp [hq]
  have hp0' := eq_true hp0
  have hp1' := eq_true hp1
  go_enter Tryd.func81, Tryd.ntmps81
  go_wp2_with (first | (go_at_call 114; refine (spec_someGraph.calls k g s0 s1 8 a a2 w0 _ hI hB A1.out).mono ?_; rintro e w1 ⟨v1, rfl, hS1, hI1, hB1, hK1⟩; clear hI hB; obtain ⟨gb, cap, rfl, hgb, hgl, cells, hcells⟩ := Kd.S_form hS1 hpos) | (go_at_call 89; refine (spec_reader_pick.calls k g s0 a2 (a.length : Int) p p2 w0 _ hI1 hB1 A2.out).mono ?_; rintro e w2 ⟨rfl, hI2, hB2, hK2⟩; clear hI1 hB1) | (go_at_call 89; refine (spec_reader_pick.calls k g s0 p2 24 q q2 w0 _ hI2 hB2 A3.out).mono ?_; rintro e w3 ⟨rfl, hI3, hB3, hK3⟩; clear hI2 hB2) | (go_at_call 92; have hS3 : Kd.S k48 48 w3 w.heap.size (fun k => k ≠ g) (.slice (some ⟨gb, 0, none⟩) a.length cap) a := Kd.S_keep (Kd.S_keep (Kd.S_mono (Kd.S_bound hS1) (fun k hk => Nat.ne_of_gt (Nat.lt_of_lt_of_le hglt hk.2.1))) hK2 (fun k hk => hk)) hK3 (fun k hk => hk); have hK4 := (hK1.trans hK2 (.inl rfl)).trans hK3 (.inl rfl); clear hS1 hK1 hK2 hK3; have hN4 := cells_new w3 (.cells #[.int .i64 0, .int .i64 21, .int .i64 20] 3); have hI4 := hI3.alloc (.cells #[.int .i64 0, .int .i64 21, .int .i64 20] 3); have hB4 := hB3.alloc hB3.size (.cells #[.int .i64 0, .int .i64 21, .int .i64 20] 3); have hS4 := Kd.S_alloc hS3 (.cells #[.int .i64 0, .int .i64 21, .int .i64 20] 3); have hK5 := keep_alloc hK4 (.cells #[.int .i64 0, .int .i64 21, .int .i64 20] 3); have hsz := hI3.lt; refine (spec_reader_one.calls k g s0 q2 _ _ [0, 21, 20] t t2 w0 _ hI4 hB4 (C_lits (l := [0, 21, 20]) hN4 (by decide)) (by decide) (fun ad e _ => by cases e; show w3.heap.size ≠ g; omega) A4.out).mono ?_; rintro e w5 ⟨rfl, hI5, hB5, hK6⟩; have hS5 := Kd.S_keep hS4 hK6 (fun k hk => hk); obtain ⟨⟨u, hcu⟩, hfu, hput⟩ := S_put0 hS5 p hp0 hp1; have hK7 := hK5.trans hK6 (.inl rfl); have HPUT := Aside0.mk hput; have hI6 := Aside0.mk hI5; clear hS4 hS3 hI3 hB3 hK4 hI4 hB4 hN4 hK5 hK6 hput hI5))
  go_ret
  obtain ⟨hS6, hg6⟩ := HPUT.out t
  exact ⟨_, rfl, Kd.S_mono hS6 (fun _ _ => trivial), hI6.out.grown hg6 (fun e => by injection e with e; omega), below_put hg6 hB5 (Nat.le_refl _) (by have := hI6.out.ge; omega), hK7.trans (KeepBut.of_grown hg6 g) (.inr ⟨gb, rfl, hgb⟩)⟩
set_option maxRecDepth 100000 in
set_option maxHeartbeats 4000000 in
theorem any_case2 (k g : Nat) (s0 : List Int) (s1 : Int) (w0 w : World) (hI : IsS116 w0 w g s0 s1) (hB : Below w0.heap.size w0 w) (a : List Tk) (a2 p p2 q q2 : Int) (hpos : 0 < a.length) (hp0 : 0 ≤ p) (hp1 : p < (a.length : Int)) (h1 : spec_someGraph.f k s0 s1 8 = some (a, a2)) (h2 : spec_reader_pick.f k s0 a2 (a.length : Int) = some (p, p2)) (h3 : spec_reader_pick.f k s0 p2 24 = some (q, q2)) (hq : q = 2) (t t2 : Int) (h4 : spec_reader_one.f k s0 q2 [-1, 3] = some (t, t2)) : Calls Tryd.prog 81 #[.pointer (some ⟨g, 0, none⟩)] w (anyPost w0 w g s0  (a.set p.toNat { rd_T48 a p with f2 := t }) t2) := by
  have A1 := Aside0.mk h1
  have A2 := Aside0.mk h2
  have A3 := Aside0.mk h3
  clear h1 h2 h3
  have hz : ((a.length : Int) == 0) = false := beq_eq_false_iff_ne.2 (by omega)
  have hglt : g < w.heap.size := hI.lt
  have A4 := Aside0.mk h4
  clear h4
  have hq0 : (q == 0) = false := beq_eq_false_iff_ne.2 (by omega)
  have hq1 : (q == 1) = false := beq_eq_false_iff_ne.2 (by omega)
  have hq2 : (q == 2) = true := by simp [hq]
  have hp0' := eq_true hp0
  have hp1' := eq_true hp1
  go_enter Tryd.func81, Tryd.ntmps81
  go_wp2_with (first | (go_at_call 114; refine (spec_someGraph.calls k g s0 s1 8 a a2 w0 _ hI hB A1.out).mono ?_; rintro e w1 ⟨v1, rfl, hS1, hI1, hB1, hK1⟩; clear hI hB; obtain ⟨gb, cap, rfl, hgb, hgl, cells, hcells⟩ := Kd.S_form hS1 hpos) | (go_at_call 89; refine (spec_reader_pick.calls k g s0 a2 (a.length : Int) p p2 w0 _ hI1 hB1 A2.out).mono ?_; rintro e w2 ⟨rfl, hI2, hB2, hK2⟩; clear hI1 hB1) | (go_at_call 89; refine (spec_reader_pick.calls k g s0 p2 24 q q2 w0 _ hI2 hB2 A3.out).mono ?_; rintro e w3 ⟨rfl, hI3, hB3, hK3⟩; clear hI2 hB2) | (go_at_call 92; have hS3 : Kd.S k48 48 w3 w.heap.size (fun k => k ≠ g) (.slice (some ⟨gb, 0, none⟩) a.length cap) a := Kd.S_keep (Kd.S_keep (Kd.S_mono (Kd.S_bound hS1) (fun k hk => Nat.ne_of_gt (Nat.lt_of_lt_of_le hglt hk.2.1))) hK2 (fun k hk => hk)) hK3 (fun k hk => hk); have hK4 := (hK1.trans hK2 (.inl rfl)).trans hK3 (.inl rfl); clear hS1 hK1 hK2 hK3; have hN4 := cells_new w3 (.cells #[.int .i64 (-1), .int .i64 3] 3); have hI4 := hI3.alloc (.cells #[.int .i64 (-1), .int .i64 3] 3); have hB4 := hB3.alloc hB3.size (.cells #[.int .i64 (-1), .int .i64 3] 3); have hS4 := Kd.S_alloc hS3 (.cells #[.int .i64 (-1), .int .i64 3] 3); have hK5 := keep_alloc hK4 (.cells #[.int .i64 (-1), .int .i64 3] 3); have hsz := hI3.lt; refine (spec_reader_one.calls k g s0 q2 _ _ [-1, 3] t t2 w0 _ hI4 hB4 (C_lits (l := [-1, 3]) hN4 (by decide)) (by decide) (fun ad e _ => by cases e; show w3.heap.size ≠ g; omega) A4.out).mono ?_; rintro e w5 ⟨rfl, hI5, hB5, hK6⟩; have hS5 := Kd.S_keep hS4 hK6 (fun k hk => hk); obtain ⟨⟨u, hcu⟩, hfu, hput⟩ := S_put2 hS5 p hp0 hp1; have hK7 := hK5.trans hK6 (.inl rfl); have HPUT := Aside0.mk hput; have hI6 := Aside0.mk hI5; clear hS4 hS3 hI3 hB3 hK4 hI4 hB4 hN4 hK5 hK6 hput hI5))
  go_ret
  obtain ⟨hS6, hg6⟩ := HPUT.out t
  exact ⟨_, rfl, Kd.S_mono hS6 (fun _ _ => trivial), hI6.out.grown hg6 (fun e => by injection e with e; omega), below_put hg6 hB5 (Nat.le_refl _) (by have := hI6.out.ge; omega), hK7.trans (KeepBut.of_grown hg6 g) (.inr ⟨gb, rfl, hgb⟩)⟩
set_option maxRecDepth 100000 in
set_option maxHeartbeats 4000000 in
theorem any_case3 (k g : Nat) (s0 : List Int) (s1 : Int) (w0 w : World) (hI : IsS116 w0 w g s0 s1) (hB : Below w0.heap.size w0 w) (a : List Tk) (a2 p p2 q q2 : Int) (hpos : 0 < a.length) (hp0 : 0 ≤ p) (hp1 : p < (a.length : Int)) (h1 : spec_someGraph.f k s0 s1 8 = some (a, a2)) (h2 : spec_reader_pick.f k s0 a2 (a.length : Int) = some (p, p2)) (h3 : spec_reader_pick.f k s0 p2 24 = some (q, q2)) (hq : q = 3) (t t2 : Int) (h4 : spec_reader_one.f k s0 q2 [0, 5] = some (t, t2)) : Calls Tryd.prog 81 #[.pointer (some ⟨g, 0, none⟩)] w (anyPost w0 w g s0  (a.set p.toNat { rd_T48 a p with f3 := t }) t2) := by
  have A1 := Aside0.mk h1
  have A2 := Aside0.mk h2
  have A3 := Aside0.mk h3
  clear h1 h2 h3
  have hz : ((a.length : Int) == 0) = false := beq_eq_false_iff_ne.2 (by omega)
  have hglt : g < w.heap.size := hI.lt
  have A4 := Aside0.mk h4
  clear h4
  have hq0 : (q == 0) = false := beq_eq_false_iff_ne.2 (by omega)
  have hq1 : (q == 1) = false := beq_eq_false_iff_ne.2 (by omega)
  have hq2 : (q == 2) = false := beq_eq_false_iff_ne.2 (by omega)
  have hq3 : (q == 3) = true := by simp [hq]
  have hp0' := eq_true hp0
  have hp1' := eq_true hp1
  go_enter Tryd.func81, Tryd.ntmps81
  go_wp2_with (first | (go_at_call 114; refine (spec_someGraph.calls k g s0 s1 8 a a2 w0 _ hI hB A1.out).mono ?_; rintro e w1 ⟨v1, rfl, hS1, hI1, hB1, hK1⟩; clear hI hB; obtain ⟨gb, cap, rfl, hgb, hgl, cells, hcells⟩ := Kd.S_form hS1 hpos) | (go_at_call 89; refine (spec_reader_pick.calls k g s0 a2 (a.length : Int) p p2 w0 _ hI1 hB1 A2.out).mono ?_; rintro e w2 ⟨rfl, hI2, hB2, hK2⟩; clear hI1 hB1) | (go_at_call 89; refine (spec_reader_pick.calls k g s0 p2 24 q q2 w0 _ hI2 hB2 A3.out).mono ?_; rintro e w3 ⟨rfl, hI3, hB3, hK3⟩; clear hI2 hB2) | (go_at_call 92; have hS3 : Kd.S k48 48 w3 w.heap.size (fun k => k ≠ g) (.slice (some ⟨gb, 0, none⟩) a.length cap) a := Kd.S_keep (Kd.S_keep (Kd.S_mono (Kd.S_bound hS1) (fun k hk => Nat.ne_of_gt (Nat.lt_of_lt_of_le hglt hk.2.1))) hK2 (fun k hk => hk)) hK3 (fun k hk => hk); have hK4 := (hK1.trans hK2 (.inl rfl)).trans hK3 (.inl rfl); clear hS1 hK1 hK2 hK3; have hN4 := cells_new w3 (.cells #[.int .i64 0, .int .i64 5] 3); have hI4 := hI3.alloc (.cells #[.int .i64 0, .int .i64 5] 3); have hB4 := hB3.alloc hB3.size (.cells #[.int .i64 0, .int .i64 5] 3); have hS4 := Kd.S_alloc hS3 (.cells #[.int .i64 0, .int .i64 5] 3); have hK5 := keep_alloc hK4 (.cells #[.int .i64 0, .int .i64 5] 3); have hsz := hI3.lt; refine (spec_reader_one.calls k g s0 q2 _ _ [0, 5] t t2 w0 _ hI4 hB4 (C_lits (l := [0, 5]) hN4 (by decide)) (by decide) (fun ad e _ => by cases e; show w3.heap.size ≠ g; omega) A4.out).mono ?_; rintro e w5 ⟨rfl, hI5, hB5, hK6⟩; have hS5 := Kd.S_keep hS4 hK6 (fun k hk => hk); obtain ⟨⟨u, hcu⟩, hfu, hput⟩ := S_put3 hS5 p hp0 hp1; have hK7 := hK5.trans hK6 (.inl rfl); have HPUT := Aside0.mk hput; have hI6 := Aside0.mk hI5; clear hS4 hS3 hI3 hB3 hK4 hI4 hB4 hN4 hK5 hK6 hput hI5))
  go_ret
  obtain ⟨hS6, hg6⟩ := HPUT.out t
  exact ⟨_, rfl, Kd.S_mono hS6 (fun _ _ => trivial), hI6.out.grown hg6 (fun e => by injection e with e; omega), below_put hg6 hB5 (Nat.le_refl _) (by have := hI6.out.ge; omega), hK7.trans (KeepBut.of_grown hg6 g) (.inr ⟨gb, rfl, hgb⟩)⟩
theorem infoTask : (Tryd.prog.info? 48).map (fun i => (i.zero, i.size, i.bytes)) = some (some (.agg #[.int .i64 0, .slice none 0 0, .int .i64 0, .int .i64 0]), 4, 48) := by kernel_rfl
theorem zip_app (xs ys : List Tk) : (xs ++ ys).zipIdx = xs.zipIdx ++ ys.zipIdx xs.length := by rw [List.zipIdx_append]; simp
/-- Two rows' elements behind each other: the owners of the second one's rows are told anew. -/
theorem S_two {W : World} {b1 N : Nat} {ok : Nat → Prop} {v v2 : Value} {xs ys : List Tk} (h1 : Kd.S k48 48 W b1 (fun k => ok k ∧ k < N) v xs) (h2 : Kd.S k48 48 W N (fun _ => True) v2 ys) (hb : b1 ≤ N) :
    ∃ f A c, v2 = .slice A ys.length c ∧ (Kd.tag f k48).R 48 W b1 (fun k => ok k ∧ k < N) v xs.zipIdx ∧ ReadsRow ((Kd.tag f k48).M W b1 (fun k => N ≤ k)) 4 W A ys.length (ys.zipIdx xs.length) := by
  obtain ⟨f1, hf1⟩ := h1
  obtain ⟨f2, hf2⟩ := h2
  refine ⟨fun k => if k < N then f1 k else f2 k + xs.length, ?_⟩
  have hR2 := Kd.R_bound hf2
  obtain ⟨A, c, rfl, hl, hr⟩ := OwnRow.reads hR2.2
  rw [List.length_zipIdx] at hr
  refine ⟨A, c, by rw [List.length_zipIdx], Kd.R_tag hf1 (fun k hk _ => if_pos hk.2), by simp, hr.2.1, fun hn => ?_⟩
  obtain ⟨ad, e, hc⟩ := hr.2.2 hn
  refine ⟨ad, e, fun j p hj => ?_⟩
  rw [List.getElem?_zipIdx] at hj
  obtain ⟨x, hx, rfl⟩ := Option.map_eq_some_iff.1 hj
  obtain ⟨cs, h3, h4, h5⟩ := hc j (x, j) (by rw [List.getElem?_zipIdx, hx]; simp)
  refine ⟨cs, h3, ?_, h5⟩
  refine Kd.M_lower k48 hb (Kd.M_mono k48 (fun k hk => ?_) h4)
  have hk1 := hk.1.1.2.1
  have hk2 : f2 k = j := hk.2
  refine ⟨hk1, ?_⟩
  show (if k < N then f1 k else f2 k + xs.length) = xs.length + j
  rw [if_neg (by omega), hk2]
  omega
set_option maxRecDepth 100000 in
set_option maxHeartbeats 4000000 in
theorem any_case4 (k g : Nat) (s0 : List Int) (s1 : Int) (w0 w : World) (hI : IsS116 w0 w g s0 s1) (hB : Below w0.heap.size w0 w) (a : List Tk) (a2 p p2 q q2 : Int) (hpos : 0 < a.length) (hp0 : 0 ≤ p) (hp1 : p < (a.length : Int)) (h1 : spec_someGraph.f k s0 s1 8 = some (a, a2)) (h2 : spec_reader_pick.f k s0 a2 (a.length : Int) = some (p, p2)) (h3 : spec_reader_pick.f k s0 p2 24 = some (q, q2)) (hq : q = 4) (c : List Tk) (c2 : Int) (hlen : a.length + c.length < 1000) (h4 : spec_someGraph.f k s0 q2 8 = some (c, c2)) : Calls Tryd.prog 81 #[.pointer (some ⟨g, 0, none⟩)] w (anyPost w0 w g s0  (a ++ c) c2) := by
  have A1 := Aside0.mk h1
  have A2 := Aside0.mk h2
  have A3 := Aside0.mk h3
  clear h1 h2 h3
  have hz : ((a.length : Int) == 0) = false := beq_eq_false_iff_ne.2 (by omega)
  have hglt : g < w.heap.size := hI.lt
  have A4 := Aside0.mk h4
  clear h4
  have hq0 : (q == 0) = false := beq_eq_false_iff_ne.2 (by omega)
  have hq1 : (q == 1) = false := beq_eq_false_iff_ne.2 (by omega)
  have hq2 : (q == 2) = false := beq_eq_false_iff_ne.2 (by omega)
  have hq3 : (q == 3) = false := beq_eq_false_iff_ne.2 (by omega)
  have hq4 : (q == 4) = true := by simp [hq]
  go_enter Tryd.func81, Tryd.ntmps81
  go_wp2_with (first | (go_at_call 114; refine (spec_someGraph.calls k g s0 s1 8 a a2 w0 _ hI hB A1.out).mono ?_; rintro e w1 ⟨v1, rfl, hS1, hI1, hB1, hK1⟩; clear hI hB; obtain ⟨gb, cap, rfl, hgb, hgl, cells, hcells⟩ := Kd.S_form hS1 hpos) | (go_at_call 89; refine (spec_reader_pick.calls k g s0 a2 (a.length : Int) p p2 w0 _ hI1 hB1 A2.out).mono ?_; rintro e w2 ⟨rfl, hI2, hB2, hK2⟩; clear hI1 hB1) | (go_at_call 89; refine (spec_reader_pick.calls k g s0 p2 24 q q2 w0 _ hI2 hB2 A3.out).mono ?_; rintro e w3 ⟨rfl, hI3, hB3, hK3⟩; clear hI2 hB2) | (go_at_call 114; have hS3 : Kd.S k48 48 w3 w.heap.size (fun k => k ≠ g) (.slice (some ⟨gb, 0, none⟩) a.length cap) a := Kd.S_keep (Kd.S_keep (Kd.S_mono (Kd.S_bound hS1) (fun k hk => Nat.ne_of_gt (Nat.lt_of_lt_of_le hglt hk.2.1))) hK2 (fun k hk => hk)) hK3 (fun k hk => hk); have hK4 := (hK1.trans hK2 (.inl rfl)).trans hK3 (.inl rfl); clear hS1 hK1 hK2 hK3; have HGL3 := Aside0.mk hI3.lt; have HGB3 := Aside0.mk (Kd.S_lt hS3 gb (by simp [Value.ownBlock])); have hK4s := hK4.1; refine (spec_someGraph.calls k g s0 q2 8 c c2 w0 _ hI3 hB3 A4.out).mono ?_; rintro e w5 ⟨v2, rfl, hS5, hI5, hB5, hK5⟩; have hS4 : Kd.S k48 48 w5 w.heap.size (fun k => k ≠ g ∧ k < w3.heap.size) _ a := Kd.S_keep (Kd.S_mono (Kd.S_bound hS3) (fun k hk => ⟨hk.1, hk.2.2.1⟩)) hK5 (fun k hk => hk.1); obtain ⟨f, A, cc, rfl, hR6, hRR⟩ := S_two hS4 hS5 hK4s; have hK6 := hK4.trans hK5 (.inl rfl); have HR6 := Aside0.mk hR6; have HRR := Aside0.mk hRR; have HI5 := Aside0.mk hI5; have HB5 := Aside0.mk hB5; have HK6 := Aside0.mk hK6; have HLE := Aside0.mk hK5.1; clear hS3 hS4 hS5 hI3 hB3 hK4 hK5 hR6 hRR hI5 hB5 hK6 hK4s) | ((with_reducible refine gate_builtin (b := .append) (xs := #[.tmp 65, .tmp 67]) rfl ?_); go_loud (at_builtin; have hgb3 : gb < w3.heap.size := HGB3.out; have hle5 : w.heap.size ≤ w5.heap.size := HK6.out.1; refine Kd.R_append_rows (Kd.tag f k48) (w0 := w5) w.heap.size rfl (.tmp 65) (.tmp 67) 26 48 (.agg #[.int .i64 0, .slice none 0 0, .int .i64 0, .int .i64 0]) 48 rfl Tryd.underlying26 infoTask rfl (show 0 < 4 from by decide) (by decide) (.slice (some ⟨gb, 0, none⟩) a.length cap) a.zipIdx (c.zipIdx a.length) A c.length cc (fun k => k ≠ g) (fun k => w3.heap.size ≤ k) rfl rfl (Kd.R_mono HR6.out (fun _ hk => hk.1)) HRR.out (fun _ _ h => h) (fun k (hk : w3.heap.size ≤ k) => ⟨Nat.ne_of_gt (Nat.lt_of_lt_of_le HGL3.out hk), fun e => by have e2 : k = gb := (by simpa [Value.ownBlock] using e); omega⟩) (fun k hk => Nat.ne_of_gt (Nat.lt_of_lt_of_le HI5.out.lt hk)) (Below.refl _ _) hle5 (by simp; omega) ?_; intro v6 w6 ho hb hg hat)))
  go_ret
  have hS6 : Kd.S k48 48 w6 w.heap.size (fun k => k ≠ g) v6 (a ++ c) := ⟨f, by rw [zip_app]; exact ho⟩
  have hg' : w5.grownBy w6 (some gb) := by simpa [Value.ownBlock] using hg
  have hI6 := HI5.out.grown hg' (fun e => by injection e with e; omega)
  exact ⟨_, rfl, Kd.S_mono hS6 (fun _ _ => trivial), hI6, below_put hg' HB5.out (Nat.le_refl _) (by have := HI5.out.ge; omega), HK6.out.trans (KeepBut.of_grown hg' g) (.inr ⟨gb, rfl, hgb⟩)⟩
theorem infoInt_ : (Tryd.prog.info? 3).map (fun i => (i.zero, i.size, i.bytes)) = some (some (.int .i64 0), 1, 8) := by kernel_rfl
set_option maxRecDepth 100000 in
set_option maxHeartbeats 4000000 in
theorem any_case1 (k g : Nat) (s0 : List Int) (s1 : Int) (w0 w : World) (hI : IsS116 w0 w g s0 s1) (hB : Below w0.heap.size w0 w) (a : List Tk) (a2 p p2 q q2 : Int) (hpos : 0 < a.length) (hp0 : 0 ≤ p) (hp1 : p < (a.length : Int)) (h1 : spec_someGraph.f k s0 s1 8 = some (a, a2)) (h2 : spec_reader_pick.f k s0 a2 (a.length : Int) = some (p, p2)) (h3 : spec_reader_pick.f k s0 p2 24 = some (q, q2)) (hq : q = 1) (b b2 : Int) (r : List Int) (r2 : Int) (h4 : spec_reader_pick.f k s0 q2 (a.length : Int) = some (b, b2)) (hlen : (rd_T48 a p).f1.length < 1000) (h5 : spec_reader_spoil.f k s0 b2 ((rd_T48 a p).f1 ++ [b]) 8 = some (r, r2)) : Calls Tryd.prog 81 #[.pointer (some ⟨g, 0, none⟩)] w (anyPost w0 w g s0  (a.set p.toNat { rd_T48 a p with f1 := r }) r2) := by
  have A1 := Aside0.mk h1
  have A2 := Aside0.mk h2
  have A3 := Aside0.mk h3
  clear h1 h2 h3
  have hz : ((a.length : Int) == 0) = false := beq_eq_false_iff_ne.2 (by omega)
  have hglt : g < w.heap.size := hI.lt
  have A4 := Aside0.mk h4
  have A5 := Aside0.mk h5
  clear h4 h5
  have hq0 : (q == 0) = false := beq_eq_false_iff_ne.2 (by omega)
  have hq1 : (q == 1) = true := by simp [hq]
  go_enter Tryd.func81, Tryd.ntmps81
  go_wp2_with (first | (go_at_call 114; refine (spec_someGraph.calls k g s0 s1 8 a a2 w0 _ hI hB A1.out).mono ?_; rintro e w1 ⟨v1, rfl, hS1, hI1, hB1, hK1⟩; clear hI hB; obtain ⟨gb, cap, rfl, hgb, hgl, cells, hcells⟩ := Kd.S_form hS1 hpos) | (go_at_call 89; refine (spec_reader_pick.calls k g s0 a2 (a.length : Int) p p2 w0 _ hI1 hB1 A2.out).mono ?_; rintro e w2 ⟨rfl, hI2, hB2, hK2⟩; clear hI1 hB1) | (go_at_call 89; refine (spec_reader_pick.calls k g s0 p2 24 q q2 w0 _ hI2 hB2 A3.out).mono ?_; rintro e w3 ⟨rfl, hI3, hB3, hK3⟩; clear hI2 hB2))
  have hS3 : Kd.S k48 48 w3 w.heap.size (fun k => k ≠ g) (.slice (some ⟨gb, 0, none⟩) a.length cap) a := Kd.S_keep (Kd.S_keep (Kd.S_mono (Kd.S_bound hS1) (fun k hk => Nat.ne_of_gt (Nat.lt_of_lt_of_le hglt hk.2.1))) hK2 (fun k hk => hk)) hK3 (fun k hk => hk)
  have hK4 := (hK1.trans hK2 (.inl rfl)).trans hK3 (.inl rfl)
  clear hS1 hK1 hK2 hK3
  have hp0' := eq_true hp0
  have hp1' := eq_true hp1
  have hS3b : Kd.S k48 48 w3 w.heap.size (fun k => k ≠ g ∧ k < w3.heap.size) (.slice (some ⟨gb, 0, none⟩) a.length cap) a := Kd.S_mono (Kd.S_bound hS3) (fun k hk => ⟨hk.1, hk.2.2.1⟩)
  obtain ⟨oki, c, hcl, hM, hcc, hfr, hoki, hH⟩ := Kd.S_elem hS3b z48 p hp0 hp1
  obtain ⟨v4, rfl, g4⟩ := k48_openM hM
  clear hS3b
  have hx1 : w3.cell? ⟨gb, p.toNat * 4 + 1, none⟩ = some v4 := hcc 1 _ rfl
  have hgb3 : gb < w3.heap.size := Kd.S_lt hS3 gb (by simp [Value.ownBlock])
  clear hcc hfr hM hcl hS3
  have hI4 : IsS116 w0 w3.drew g s0 q2 := hI3.drew
  have hB4 : Below w0.heap.size w0 w3.drew := below_drew1 hB3
  have hK4' : KeepBut w w3.drew g none := keep_drew hK4
  have hH4 := Kd.H_drew hH
  have g4' := Kd.Q_drew g4
  have hsz4 : w3.drew.heap.size = w3.heap.size := rfl
  have hd4 : Below w3.heap.size w3 w3.drew := below_drew (Below.refl _ _)
  refine start_ (n := 18) (S := fun w' => w'.cell? ⟨gb, p.toNat * 4 + 1, none⟩ = some v4) (ds := [13, 14, 15, 16, 17]) #[false, false, false, false, false, false, false, false, false, false, false, false, false, false, false, false, false, false] rfl (by kernel_rfl) rfl ((hd4.cell hgb3).trans hx1) (fun hHeld => ?_)
  revert hI4 hB4 hK4' hH4 g4' hsz4 hHeld
  generalize w3.drew = w4
  intro hI4 hB4 hK4' hH4 g4' hsz4 hHeld
  clear hI3 hB3 hK4 hH g4 hx1 hd4
  refine pure_ (i := 0) (N := some 28) (v := ?_) (a' := ?_) #[true, false, false, false, false, false, false, false, false, false, false, false, false, false, false, false, false, false] rfl rfl (by kernel_rfl) (fun _ _ _ h => h) (Or.inl ⟨by rfl, ?_⟩) ?_ ?_
  rotate_left
  · intro w'
    go_simp
    with_reducible rfl
  rotate_left
  · simp only [Act.put, List.setIfInBounds_toArray, List.set_cons_zero, List.set_cons_succ, i64_w, i32_w]
    rfl
  refine pure_ (i := 1) (N := some 29) (v := ?_) (a' := ?_) #[true, true, false, false, false, false, false, false, false, false, false, false, false, false, false, false, false, false] rfl rfl (by kernel_rfl) (fun _ _ _ h => h) (Or.inl ⟨by rfl, ?_⟩) ?_ ?_
  rotate_left
  · intro w'
    go_simp
    with_reducible rfl
  rotate_left
  · simp only [Act.put, List.setIfInBounds_toArray, List.set_cons_zero, List.set_cons_succ, i64_w, i32_w]
    rfl
  refine pure_ (i := 2) (N := some 30) (v := ?_) (a' := ?_) #[true, true, true, false, false, false, false, false, false, false, false, false, false, false, false, false, false, false] rfl rfl (by kernel_rfl) (fun _ _ _ h => h) (Or.inl ⟨by rfl, ?_⟩) ?_ ?_
  rotate_left
  · intro w'
    go_simp
    with_reducible rfl
  rotate_left
  · simp only [Act.put, List.setIfInBounds_toArray, List.set_cons_zero, List.set_cons_succ, i64_w, i32_w]
    rfl
  refine pure_ (i := 3) (N := some 31) (v := ?_) (a' := ?_) #[true, true, true, true, false, false, false, false, false, false, false, false, false, false, false, false, false, false] rfl rfl (by kernel_rfl) (fun _ _ _ h => h) (Or.inl ⟨by rfl, ?_⟩) ?_ ?_
  rotate_left
  · intro w'
    go_simp
    with_reducible rfl
  rotate_left
  · simp only [Act.put, List.setIfInBounds_toArray, List.set_cons_zero, List.set_cons_succ, i64_w, i32_w]
    rfl
  refine pure_ (i := 4) (N := some 32) (v := ?_) (a' := ?_) #[true, true, true, true, true, false, false, false, false, false, false, false, false, false, false, false, false, false] rfl rfl (by kernel_rfl) (fun _ _ _ h => h) (Or.inl ⟨by rfl, ?_⟩) ?_ ?_
  rotate_left
  · intro w'
    go_simp
    with_reducible rfl
  rotate_left
  · simp only [Act.put, List.setIfInBounds_toArray, List.set_cons_zero, List.set_cons_succ, i64_w, i32_w]
    rfl
  refine pure_ (i := 5) (N := some 33) (v := ?_) (a' := ?_) #[true, true, true, true, true, true, false, false, false, false, false, false, false, false, false, false, false, false] rfl rfl (by kernel_rfl) (fun _ _ _ h => h) (Or.inl ⟨by rfl, ?_⟩) ?_ ?_
  rotate_left
  · intro w'
    go_simp
    with_reducible rfl
  rotate_left
  · simp only [Act.put, List.setIfInBounds_toArray, List.set_cons_zero, List.set_cons_succ, i64_w, i32_w]
    rfl
  refine pure_ (i := 6) (N := some 34) (v := ?_) (a' := ?_) #[true, true, true, true, true, true, true, false, false, false, false, false, false, false, false, false, false, false] rfl rfl (by kernel_rfl) (fun _ _ _ h => h) (Or.inl ⟨by rfl, ?_⟩) ?_ ?_
  rotate_left
  · intro w'
    go_simp
    with_reducible rfl
  rotate_left
  · simp only [Act.put, List.setIfInBounds_toArray, List.set_cons_zero, List.set_cons_succ, i64_w, i32_w]
    rfl
  refine take_ (i := 7) (N := some 35) (v := ?_) (a' := ?_) #[true, true, true, true, true, true, true, true, false, false, false, false, false, false, false, false, false, false] rfl rfl (by kernel_rfl) (fun _ _ _ h => h) (Or.inl ⟨by rfl, ?_⟩) hHeld ?_ ?_
  rotate_left
  · rintro w' hc
    go_simp
    with_reducible rfl
  rotate_left
  · simp only [Act.put, List.setIfInBounds_toArray, List.set_cons_zero, List.set_cons_succ, i64_w, i32_w]
    rfl
  refine pure_ (i := 8) (N := some 36) (v := ?_) (a' := ?_) #[true, true, true, true, true, true, true, true, true, false, false, false, false, false, false, false, false, false] rfl rfl (by kernel_rfl) (fun _ _ _ h => h) (Or.inl ⟨by rfl, ?_⟩) ?_ ?_
  rotate_left
  · intro w'
    go_simp
    with_reducible rfl
  rotate_left
  · simp only [Act.put, List.setIfInBounds_toArray, List.set_cons_zero, List.set_cons_succ, i64_w, i32_w]
    rfl
  refine pure_ (i := 9) (N := some 37) (v := ?_) (a' := ?_) #[true, true, true, true, true, true, true, true, true, true, false, false, false, false, false, false, false, false] rfl rfl (by kernel_rfl) (fun _ _ _ h => h) (Or.inl ⟨by rfl, ?_⟩) ?_ ?_
  rotate_left
  · intro w'
    go_simp
    with_reducible rfl
  rotate_left
  · simp only [Act.put, List.setIfInBounds_toArray, List.set_cons_zero, List.set_cons_succ, i64_w, i32_w]
    rfl
  refine pure_ (i := 10) (N := some 38) (v := ?_) (a' := ?_) #[true, true, true, true, true, true, true, true, true, true, true, false, false, false, false, false, false, false] rfl rfl (by kernel_rfl) (fun _ _ _ h => h) (Or.inl ⟨by rfl, ?_⟩) ?_ ?_
  rotate_left
  · intro w'
    go_simp
    with_reducible rfl
  rotate_left
  · simp only [Act.put, List.setIfInBounds_toArray, List.set_cons_zero, List.set_cons_succ, i64_w, i32_w]
    rfl
  refine one_ (i := 11) (N := some 39) #[true, true, true, true, true, true, true, true, true, true, true, true, false, false, false, false, false, false] rfl rfl (by kernel_rfl) (by decide) (fun K hK => ?_)
  refine goes_ Tryd.func89 (by kernel_rfl) rfl #[.pointer (some ⟨g, 0, none⟩), .int .i64 (a.length : Int)] (by rfl) rfl rfl (by (try simp only [List.map_toArray, List.map_cons, List.map_nil]); rfl) ?_
  refine (spec_reader_pick.calls k g s0 q2 (a.length : Int) b b2 w0 _ hI4 hB4 A4.out).mono ?_
  rintro e w5 ⟨rfl, hI5, hB5, hK5⟩
  have hgb4 : gb < w4.heap.size := by omega
  have hne : gb ≠ g := by have := Nat.lt_of_lt_of_le hglt hgb; omega
  refine ⟨_, rfl, hK.out _ _ (keep_cell hK5 hHeld hne) (fun hHeld5 => ?_)⟩
  clear hK K
  refine norm_ (a' := ?_) ?_ ?_
  rotate_left
  · show Act.put _ (some 39) _ = _
    simp only [Act.put, List.setIfInBounds_toArray, List.set_cons_zero, List.set_cons_succ, i64_w, i32_w]
    rfl
  have hH5 := Kd.H_keep hH4 hK5 (fun k hk => hk.1)
  have g5 := Kd.Q_keep g4' hK5 (fun k hk => (hoki k hk).1.1)
  have hg5lt := hI5.lt
  have hK6 := hK4'.trans hK5 (.inl rfl)
  have hsz5 : w3.heap.size ≤ w5.heap.size := by rw [← hsz4]; exact hK5.1
  clear hH4 g4' hK5 hK4' hI4 hB4 hHeld hsz4
  refine one_ (i := 12) (N := some 40) #[true, true, true, true, true, true, true, true, true, true, true, true, true, false, false, false, false, false] rfl rfl (by kernel_rfl) (by decide) (fun K hK => ?_)
  refine value_ (w1 := w5.alloc (.cells #[.int .i64 b] 3)) (v := .slice (some ⟨w5.heap.size, 0, none⟩) 1 1) (by rfl) rfl ?_ ?_
  · go_simp; try rfl
  refine hK.out _ _ ((((Below.refl w5.heap.size w5).alloc (Nat.le_refl _) (.cells #[.int .i64 b] 3)).cell (show gb < w5.heap.size by omega)).trans hHeld5) (fun hHeld6 => ?_)
  clear hK K
  refine norm_ (a' := ?_) ?_ ?_
  rotate_left
  · simp only [Act.put, List.setIfInBounds_toArray, List.set_cons_zero, List.set_cons_succ, i64_w, i32_w]
    rfl
  refine last_ (i := 13) (N := some 41) #[true, true, true, true, true, true, true, true, true, true, true, true, true, true, false, false, false, false] rfl rfl (by kernel_rfl) (by decide) (fun K hK => ?_)
  refine Kd.Q_append_step (Kd.int .i64) (w0 := w5) w.heap.size (by rfl) (.tmp 35) (.tmp 40) 23 3 (.int .i64 0) 8 rfl Tryd.underlying23 infoInt_ rfl (by decide) (by decide) v4 (rd_T48 a p).f1 b [.int .i64 b] (fun k => oki k ∨ w5.heap.size ≤ k) (fun _ => False) rfl rfl rfl (fun _ h => h.elim) (fun _ hk => .inr hk) (Kd.Q_mono g5 (fun _ hk => .inl hk)) (Below.refl _ _) hK6.1 (by omega) ?_
  intro v7 w7 hQ7 hB7 hg7 hat7
  refine hK.out _ _ ?_
  clear hK K
  refine norm_ (a' := ?_) ?_ ?_
  rotate_left
  · simp only [Act.put, List.setIfInBounds_toArray, List.set_cons_zero, List.set_cons_succ, i64_w, i32_w]
    rfl
  have hvo : ∀ k, v4.ownBlock = some k → oki k := fun k hk => g5.1 k hk
  have hH7 := Kd.H_grown hH5 hg7 hvo
  have hI7 := hI5.grown hg7 (fun e => (hoki g (hvo g e.symm)).1.1 rfl)
  have hB8 : Below w0.heap.size w0 w7 := by
    refine ⟨hg7.os.trans hB5.os, hg7.tape.trans hB5.tape, hg7.output.trans hB5.output, Nat.le_trans hB5.size hg7.size, fun k hk => (hg7.block k (Nat.lt_of_lt_of_le hk hB5.size) (fun e => ?_)).trans (hB5.block k hk)⟩
    have h1 := Kd.Q_base g5 k e.symm
    have h2 := hI5.ge
    omega
  have hK8 : KeepBut w w7 g none := ⟨Nat.le_trans hK6.1 hg7.size, fun k hk hkg hn => (hg7.block k (Nat.lt_of_lt_of_le hk hK6.1) (fun e => by have := Kd.Q_base g5 k e.symm; omega)).trans (hK6.2 k hk hkg hn)⟩
  have hsz7 := hg7.size
  obtain ⟨A7, c7, rfl, hl7, hC7⟩ := Kd.Q_reads hQ7
  have hlen7 : ((rd_T48 a p).f1 ++ [b]).length = (rd_T48 a p).f1.length + 1 := by simp
  have hQg := hQ7.1
  clear hH5 g5 hI5 hB5 hK6 hHeld5 hHeld6
  refine last_ (i := 14) (N := some 42) #[true, true, true, true, true, true, true, true, true, true, true, true, true, true, true, false, false, false] rfl rfl (by kernel_rfl) (by decide) (fun K hK => ?_)
  refine goes_ Tryd.func91 (by kernel_rfl) rfl #[.pointer (some ⟨g, 0, none⟩), .slice A7 ((rd_T48 a p).f1 ++ [b]).length c7, .int .i64 8] (by rfl) rfl rfl (by (try simp only [List.map_toArray, List.map_cons, List.map_nil]); rfl) ?_
  refine (spec_reader_spoil.calls k g s0 b2 A7 c7 ((rd_T48 a p).f1 ++ [b]) 8 r r2 w0 _ hI7 hB8 hC7 hl7 (fun ad e hpos7 => ?_) A5.out).mono ?_
  · subst e
    rcases hQg ad.block (by simp [Value.ownBlock]) with h | h
    · exact (hoki _ h).1.1
    · exact Nat.ne_of_gt (Nat.lt_of_lt_of_le hg5lt h)
  rintro e w9 ⟨v9, rfl, hQ9, hI9, hB9, hK9⟩
  refine ⟨_, rfl, hK.out _ _ ?_⟩
  clear hK K
  refine norm_ (a' := ?_) ?_ ?_
  rotate_left
  · simp only [Act.put, List.setIfInBounds_toArray, List.set_cons_zero, List.set_cons_succ, i64_w, i32_w]
    rfl
  have hH9 := Kd.H_keep hH7 hK9 (fun k hk => hk.1)
  have hH10 := Kd.H_mono (ok' := fun k => k ≠ g ∧ ¬ (w7.heap.size ≤ k)) hH9 (fun k hk => ⟨hk.1, by omega⟩)
  obtain ⟨hS11, hg11⟩ := Kd.S_seg (okg := fun k => w7.heap.size ≤ k) hH10 hp0 hp1 (seg := [v9]) (j := 1) (show 1 + 1 ≤ 4 from by decide) (x' := { rd_T48 a p with f1 := r }) (mkQ _ _ _ { rd_T48 a p with f1 := r } (Kd.Q_mono (Kd.Q_lower (Kd.Q_bound hQ9) (show w.heap.size ≤ w7.heap.size by have := hK8.1; omega)) (fun k hk => hk.2.1))) (fun k hk => .inr hk) (fun k hk => ⟨Nat.ne_of_gt (Nat.lt_of_lt_of_le hI7.lt hk), by omega⟩)
  obtain ⟨rows, _, hraw, _, _, hcc9, _⟩ := Kd.H_raw hH10 hp0 hp1
  have hcell9 : w9.cell? ⟨gb, p.toNat * 4 + 1, none⟩ = some v4 := hcc9 1 _ rfl
  obtain ⟨cs9, hcs9⟩ := Kd.R_typed hraw gb (by simp [Value.ownBlock])
  have hfz9 : w9.frozen? ⟨gb, p.toNat * 4 + 1, none⟩ = false := by simp [World.frozen?, hcs9]
  clear hraw hcc9 hcs9 hH10 hH9
  have hsl9 := Kd.Q_slice hQ9
  refine pure_ (i := 15) (N := some 43) (v := ?_) (a' := ?_) #[true, true, true, true, true, true, true, true, true, true, true, true, true, true, true, true, false, false] rfl rfl (by kernel_rfl) (fun _ _ _ h => h) (Or.inl ⟨by rfl, ?_⟩) ?_ ?_
  rotate_left
  · intro w'
    go_simp
    with_reducible rfl
  rotate_left
  · simp only [Act.put, List.setIfInBounds_toArray, List.set_cons_zero, List.set_cons_succ, i64_w, i32_w]
    rfl
  refine pure_ (i := 16) (N := some 44) (v := ?_) (a' := ?_) #[true, true, true, true, true, true, true, true, true, true, true, true, true, true, true, true, true, false] rfl rfl (by kernel_rfl) (fun _ _ _ h => h) (Or.inl ⟨by rfl, ?_⟩) ?_ ?_
  rotate_left
  · intro w'
    go_simp
    with_reducible rfl
  rotate_left
  · simp only [Act.put, List.setIfInBounds_toArray, List.set_cons_zero, List.set_cons_succ, i64_w, i32_w]
    rfl
  obtain ⟨A9, c9, hv9, _⟩ := hsl9
  refine last_ (i := 17) (N := none) #[true, true, true, true, true, true, true, true, true, true, true, true, true, true, true, true, true, true] rfl rfl (by kernel_rfl) (by decide) (fun K hK => ?_)
  refine skip_ (w1 := w9.setCell ⟨gb, p.toNat * 4 + 1, none⟩ v9) (by rfl) rfl ?_ ?_
  · subst hv9; go_simp
  refine hK.out _ _ ?_
  clear hK K
  refine done_ (by kernel_rfl) ?_
  have hS12 : Kd.S k48 48 (w9.setCell ⟨gb, p.toNat * 4 + 1, none⟩ v9) w.heap.size (fun k => k ≠ g) _ _ := hS11
  have hg12 : w9.grownBy (w9.setCell ⟨gb, p.toNat * 4 + 1, none⟩ v9) (some gb) := hg11
  have hI12 := hI9.grown hg12 (fun e => by injection e with e; have := Nat.lt_of_lt_of_le hglt hgb; omega)
  have hB12 := below_put hg12 hB9 (Nat.le_refl _) (by have := hI9.ge; omega)
  have hK12 := (hK8.trans hK9 (.inl rfl)).trans (KeepBut.of_grown hg12 g) (.inr ⟨gb, rfl, hgb⟩)
  revert hS12 hI12 hB12 hK12
  generalize w9.setCell ⟨gb, p.toNat * 4 + 1, none⟩ v9 = w13
  intro hS12 hI12 hB12 hK12
  clear hS11 hg11 hg12
  go_wp2
  go_ret
  exact ⟨_, rfl, Kd.S_mono hS12 (fun _ _ => trivial), hI12, hB12, hK12⟩
end Go.Proofs.YtpibdjkajgfgjaaDoor.Core
namespace Go.Proofs.YtpibdjkajgfgjaaDoor.P
open Go Go.RowKit Go.Shelf Go.Proofs.YtpibdjkajgfgjaaDoorW.PrintWords Go.Proofs.YtpibdjkajgfgjaaDoorW.PrintMore Go.Proofs.YtpibdjkajgfgjaaDoor.Core
noncomputable def spec_anyGraph.f (s0_0 : List Int) (s0_1 : Int) : Option (List S48 × Int) := lim (fun k => spec_anyGraph.fk k s0_0 s0_1)
theorem spec_anyGraph.calls (g : Nat) (s0_0 : List Int) (s0_1 : Int) (r1 : List S48) (r2 : Int) (w0 w : World) (hI : IsS116 w0 w g s0_0 s0_1) (hB : Below w0.heap.size w0 w) (h : spec_anyGraph.f s0_0 s0_1 = some (r1, r2)) :
    Calls Tryd.prog 81 #[.pointer (some ⟨g, 0, none⟩)] w fun e w' => ∃ v0_ : Value, e = .returned (v0_) ∧ Kd.S k48 48 w' w.heap.size (fun _ => True) v0_ r1 ∧ IsS116 w0 w' g s0_0 r2 ∧ Below w0.heap.size w0 w' ∧ KeepBut w w' g none := by
  obtain ⟨k, hk⟩ := lim_some h
  clear h
  unfold spec_anyGraph.fk at hk
  obtain ⟨⟨a, a2⟩, h1, hk⟩ := Option.bind_eq_some_iff.1 hk
  by_cases hl : a.length = 0
  · rw [if_pos hl] at hk
    cases hk
    obtain rfl := List.eq_nil_of_length_eq_zero hl
    exact any_empty k g s0_0 s0_1 w0 w hI hB _ h1
  · rw [if_neg hl] at hk
    obtain ⟨⟨p, p2⟩, h2, hk⟩ := Option.bind_eq_some_iff.1 hk
    obtain ⟨⟨q, q2⟩, h3, hk⟩ := Option.bind_eq_some_iff.1 hk
    by_cases hp : ¬ (0 ≤ p ∧ p < (a.length : Int))
    · rw [if_pos hp] at hk; cases hk
    · rw [if_neg hp] at hk
      obtain ⟨hp0, hp1⟩ := Decidable.not_not.1 hp
      have hpos : 0 < a.length := by omega
      by_cases e0 : q = 0
      · rw [if_pos e0] at hk
        obtain ⟨⟨t, t2⟩, h4, hk⟩ := Option.bind_eq_some_iff.1 hk
        cases hk
        exact any_case0 k g s0_0 s0_1 w0 w hI hB a a2 p p2 q q2 hpos hp0 hp1 h1 h2 h3 e0 t _ h4
      · rw [if_neg e0] at hk
        by_cases e1 : q = 1
        · rw [if_pos e1] at hk
          obtain ⟨⟨b, b2⟩, h4, hk⟩ := Option.bind_eq_some_iff.1 hk
          by_cases hlen : (rd_T48 a p).f1.length < 1000
          · simp only [hlen, if_true] at hk
            obtain ⟨⟨c, c2⟩, h5, hk⟩ := Option.bind_eq_some_iff.1 hk
            cases hk
            exact any_case1 k g s0_0 s0_1 w0 w hI hB a a2 p p2 q q2 hpos hp0 hp1 h1 h2 h3 e1 b b2 c _ h4 hlen h5
          · simp only [hlen, if_false] at hk; cases hk
        · rw [if_neg e1] at hk
          by_cases e2 : q = 2
          · rw [if_pos e2] at hk
            obtain ⟨⟨t, t2⟩, h4, hk⟩ := Option.bind_eq_some_iff.1 hk
            cases hk
            exact any_case2 k g s0_0 s0_1 w0 w hI hB a a2 p p2 q q2 hpos hp0 hp1 h1 h2 h3 e2 t _ h4
          · rw [if_neg e2] at hk
            by_cases e3 : q = 3
            · rw [if_pos e3] at hk
              obtain ⟨⟨t, t2⟩, h4, hk⟩ := Option.bind_eq_some_iff.1 hk
              cases hk
              exact any_case3 k g s0_0 s0_1 w0 w hI hB a a2 p p2 q q2 hpos hp0 hp1 h1 h2 h3 e3 t _ h4
            · rw [if_neg e3] at hk
              by_cases e4 : q = 4
              · rw [if_pos e4] at hk
                obtain ⟨⟨c, c2⟩, h4, hk⟩ := Option.bind_eq_some_iff.1 hk
                by_cases hlen : a.length + c.length < 1000
                · simp only [hlen, if_true] at hk
                  cases hk
                  exact any_case4 k g s0_0 s0_1 w0 w hI hB a a2 p p2 q q2 hpos hp0 hp1 h1 h2 h3 e4 c _ hlen h4
                · simp only [hlen, if_false] at hk; cases hk
              · rw [if_neg e4] at hk
                cases hk
                exact any_same k g s0_0 s0_1 w0 w hI hB a a2 p p2 q _ hpos hp0 hp1 h1 h2 h3 ⟨e0, e1, e2, e3, e4⟩
end Go.Proofs.YtpibdjkajgfgjaaDoor.P
namespace Go.Proofs.YtpibdjkajgfgjaaDoor.Core
end Go.Proofs.YtpibdjkajgfgjaaDoor.Core
end
section
set_option linter.unusedVariables false
set_option linter.unusedSimpArgs false
namespace Go.Proofs.YtpibdjkajgfgjaaDoor.Core
open Go Go.RowKit Go.Proofs.YtpibdjkajgfgjaaDoorW.PrintWords Go.Proofs.YtpibdjkajgfgjaaDoorW.PrintMore Go.Proofs.YtpibdjkajgfgjaaDoor.P
abbrev big : Nat := 4611686018427387904
theorem w64s {n : Nat} (h : n < big) : wrap64 ((n : Int) + 1) = ((n + 1 : Nat) : Int) := by rw [w64 (by omega) (by unfold big at h; omega)]; omega
theorem inRange_eq (x a b : Int) : spec_inRange.f x a b = some (decide (a ≤ x ∧ x ≤ b)) := by
  unfold spec_inRange.f
  by_cases h : a ≤ x
  · rw [if_pos h]; simp; omega
  · rw [if_neg h]; simp; omega
theorem copyInts_eq {l : List Int} (h : l.length < big) (h2 : l.length < 17592186044416) : spec_copyInts.f l = some l := by
  unfold spec_copyInts.f
  simp [h2]
theorem ev_isIn_from (L : List Int) (x : Int) (hL : L.length < big) : ∀ (r pre : List Int), L = pre ++ r → Ev (fun k => spec_isIn.l0 k L x (pre.length : Int)) (decide (x ∈ r))
  | [], pre, hp => by
    refine Ev.succ ((Ev.const _).of fun k => ?_)
    rw [List.append_nil] at hp
    subst hp
    rw [spec_isIn.l0, if_neg (by omega)]
    simp
  | y :: r, pre, hp => by
    have hlen : L.length = pre.length + (r.length + 1) := by rw [hp]; simp
    have hrd : rd L (pre.length : Int) = y := by rw [hp]; exact rd_mid rfl
    refine Ev.succ ?_
    by_cases hy : y = x
    · refine (Ev.const _).of fun k => ?_
      rw [spec_isIn.l0, if_pos (by omega), if_pos (by omega), hrd, if_pos hy]
      simp [hy]
    · have ih := ev_isIn_from L x hL r (pre ++ [y]) (by rw [hp]; simp)
      have e : decide (x ∈ y :: r) = decide (x ∈ r) := by
        have : x ≠ y := fun h => hy h.symm
        simp [this]
      rw [e]
      refine ih.of fun k => ?_
      rw [spec_isIn.l0, if_pos (by omega), if_pos (by omega), hrd, if_neg hy, w64s (by omega)]
      simp
theorem ev_isIn {L : List Int} (hL : L.length < big) (x : Int) : Ev (fun k => spec_isIn.f k L x) (decide (x ∈ L)) := ev_isIn_from L x hL L [] rfl
theorem ev_allIn_from (L : List Int) (a b : Int) (hL : L.length < big) : ∀ (r pre : List Int), L = pre ++ r → Ev (fun k => spec_allIn.l0 k L a b (pre.length : Int)) (decide (∀ x ∈ r, a ≤ x ∧ x ≤ b))
  | [], pre, hp => by
    refine Ev.succ ((Ev.const _).of fun k => ?_)
    rw [List.append_nil] at hp
    subst hp
    rw [spec_allIn.l0, if_neg (by omega)]
    simp
  | y :: r, pre, hp => by
    have hlen : L.length = pre.length + (r.length + 1) := by rw [hp]; simp
    have hrd : rd L (pre.length : Int) = y := by rw [hp]; exact rd_mid rfl
    refine Ev.succ ?_
    by_cases hy : a ≤ y ∧ y ≤ b
    · have ih := ev_allIn_from L a b hL r (pre ++ [y]) (by rw [hp]; simp)
      have e : decide (∀ x ∈ y :: r, a ≤ x ∧ x ≤ b) = decide (∀ x ∈ r, a ≤ x ∧ x ≤ b) := by simp [hy]
      rw [e]
      refine ih.of fun k => ?_
      rw [spec_allIn.l0, if_pos (by omega), if_pos (by omega), hrd, inRange_eq, decide_eq_true hy, Option.bind_some, if_pos rfl, w64s (by omega)]
      simp
    · refine (Ev.const _).of fun k => ?_
      rw [spec_allIn.l0, if_pos (by omega), if_pos (by omega), hrd, inRange_eq, decide_eq_false hy, Option.bind_some, if_neg (by simp)]
      simp only [Option.some.injEq]
      rw [eq_comm, decide_eq_false_iff_not]
      exact fun h => hy (h y List.mem_cons_self)
theorem ev_allIn {L : List Int} (hL : L.length < big) (a b : Int) : Ev (fun k => spec_allIn.f k L a b) (decide (∀ x ∈ L, a ≤ x ∧ x ≤ b)) := ev_allIn_from L a b hL L [] rfl
def ascD : List Int → Bool
  | [] => true
  | [_] => true
  | x :: y :: r => decide (x < y) && ascD (y :: r)
theorem ev_asc_from (L : List Int) (hL : L.length < big) : ∀ (r pre : List Int) (x : Int), L = pre ++ x :: r → Ev (fun k => spec_ascends.l0 k L ((pre.length + 1 : Nat) : Int)) (ascD (x :: r))
  | [], pre, x, hp => by
    have hlen : L.length = pre.length + 1 := by rw [hp]; simp
    refine Ev.succ ((Ev.const _).of fun k => ?_)
    rw [spec_ascends.l0, if_neg (by omega)]
    rfl
  | y :: r, pre, x, hp => by
    have hlen : L.length = pre.length + (r.length + 1 + 1) := by rw [hp]; simp
    have hw : wrap64 (((pre.length + 1 : Nat) : Int) - 1) = (pre.length : Int) := by rw [w64 (by omega) (by unfold big at hL; omega)]; omega
    have hrd : rd L (pre.length : Int) = x := by rw [hp]; exact rd_mid rfl
    have hrd2 : rd L ((pre.length + 1 : Nat) : Int) = y := by
      have : L = (pre ++ [x]) ++ y :: r := by rw [hp]; simp
      rw [this]; exact rd_mid (by simp)
    refine Ev.succ ?_
    by_cases hy : x < y
    · have ih := ev_asc_from L hL r (pre ++ [x]) y (by rw [hp]; simp)
      have e : ascD (x :: y :: r) = ascD (y :: r) := by simp [ascD, hy]
      rw [e]
      refine ih.of fun k => ?_
      rw [spec_ascends.l0, if_pos (by omega), if_pos (by omega), hw, if_pos (by omega), if_pos (by omega), hrd, hrd2, if_neg (by omega), w64s (by omega)]
      simp
    · have e : ascD (x :: y :: r) = false := by simp [ascD, hy]
      rw [e]
      refine (Ev.const _).of fun k => ?_
      rw [spec_ascends.l0, if_pos (by omega), if_pos (by omega), hw, if_pos (by omega), if_pos (by omega), hrd, hrd2, if_pos (by omega)]
theorem ev_ascends {L : List Int} (hL : L.length < big) : Ev (fun k => spec_ascends.f k L) (ascD L) := by
  cases L with
  | nil =>
    refine Ev.of (Ev.succ ((Ev.const true).of (g := fun k => spec_ascends.l0 (k + 1) [] 1) fun k => ?_)) (fun k => rfl)
    rw [spec_ascends.l0, if_neg (by simp)]
  | cons x r => exact ev_asc_from (x :: r) hL r [] x rfl
theorem ev_allDone_from (L M : List Int) (hL : L.length < big) (hM : M.length < big) : ∀ (r pre : List Int), L = pre ++ r → Ev (fun k => spec_allDone.l0 k L M (pre.length : Int)) (decide (∀ x ∈ r, x ∈ M))
  | [], pre, hp => by
    refine Ev.succ ((Ev.const _).of fun k => ?_)
    rw [List.append_nil] at hp
    subst hp
    rw [spec_allDone.l0, if_neg (by omega)]
    simp
  | y :: r, pre, hp => by
    have hlen : L.length = pre.length + (r.length + 1) := by rw [hp]; simp
    have hrd : rd L (pre.length : Int) = y := by rw [hp]; exact rd_mid rfl
    have hi := ev_isIn hM y
    refine Ev.succ ?_
    by_cases hy : y ∈ M
    · have ih := ev_allDone_from L M hL hM r (pre ++ [y]) (by rw [hp]; simp)
      have e : decide (∀ x ∈ y :: r, x ∈ M) = decide (∀ x ∈ r, x ∈ M) := by simp [hy]
      rw [e]
      rw [decide_eq_true hy] at hi
      refine (hi.bind (g := fun k t => if t = true then spec_allDone.l0 k L M ((pre ++ [y]).length : Int) else some false) (ih.of fun k => if_pos rfl)).of fun k => ?_
      rw [spec_allDone.l0, if_pos (by omega), if_pos (by omega), hrd, w64s (by omega)]
      simp
    · have e : decide (∀ x ∈ y :: r, x ∈ M) = false := by
        rw [decide_eq_false_iff_not]
        exact fun h => hy (h y List.mem_cons_self)
      rw [e]
      rw [decide_eq_false hy] at hi
      refine (hi.bind (g := fun k t => if t = true then spec_allDone.l0 k L M ((pre ++ [y]).length : Int) else some false) ((Ev.const false).of fun k => if_neg (by simp))).of fun k => ?_
      rw [spec_allDone.l0, if_pos (by omega), if_pos (by omega), hrd, w64s (by omega)]
      simp
theorem ev_allDone {L M : List Int} (hL : L.length < big) (hM : M.length < big) : Ev (fun k => spec_allDone.f k L M) (decide (∀ x ∈ L, x ∈ M)) := ev_allDone_from L M hL hM L [] rfl
def needsOk (n : Nat) (l : List Int) : Prop := (∀ x ∈ l, 0 ≤ x ∧ x ≤ (n : Int) - 1) ∧ ascD l = true
instance (n : Nat) (l : List Int) : Decidable (needsOk n l) := by unfold needsOk; infer_instance
theorem ev_validTask {t : Tk} (ht : t.f1.length < big) {n : Nat} (hn : n < big) : Ev (fun k => spec_validTask.f k t.f0 t.f1 t.f2 t.f3 (n : Int)) (decide (taskOk t ∧ needsOk n t.f1)) := by
  have hw : wrap64 ((n : Int) - 1) = (n : Int) - 1 := w64 (by omega) (by unfold big at hn; omega)
  have hA := ev_allIn ht 0 ((n : Int) - 1)
  have hB := ev_ascends ht
  by_cases h1 : 1 ≤ t.f0 ∧ t.f0 ≤ 20
  · by_cases h2 : 0 ≤ t.f2 ∧ t.f2 ≤ 2
    · by_cases h3 : 1 ≤ t.f3 ∧ t.f3 ≤ 4
      · have hok : taskOk t := ⟨h1, h2, h3⟩
        have hu : ∀ k, spec_validTask.f k t.f0 t.f1 t.f2 t.f3 (n : Int) = (spec_allIn.f k t.f1 0 ((n : Int) - 1)).bind fun t113 => (if t113 = true then ((spec_ascends.f k t.f1).bind fun t114 => (some t114)) else (some false)) := by
          intro k
          unfold spec_validTask.f
          rw [inRange_eq, inRange_eq, inRange_eq, decide_eq_true h1, decide_eq_true h2, decide_eq_true h3, hw]
          rfl
        refine Ev.of ?_ hu
        refine (hA.bind (g := fun k t113 => if t113 = true then ((spec_ascends.f k t.f1).bind fun t114 => (some t114)) else (some false)) (b := decide (taskOk t ∧ needsOk n t.f1)) ?_)
        by_cases h4 : ∀ x ∈ t.f1, 0 ≤ x ∧ x ≤ (n : Int) - 1
        · rw [decide_eq_true h4]
          have e : decide (taskOk t ∧ needsOk n t.f1) = ascD t.f1 := by
            cases h5 : ascD t.f1
            · rw [decide_eq_false_iff_not]; intro h; have := h.2.2; rw [h5] at this; cases this
            · rw [decide_eq_true_eq]; exact ⟨hok, h4, h5⟩
          rw [e]
          refine (hB.bind (g := fun _ t114 => some t114) (Ev.const _)).of fun k => ?_
          rw [if_pos rfl]
        · rw [decide_eq_false h4]
          have e : decide (taskOk t ∧ needsOk n t.f1) = false := by rw [decide_eq_false_iff_not]; exact fun h => h4 h.2.1
          rw [e]
          exact (Ev.const false).of fun k => if_neg (by simp)
      · have e : decide (taskOk t ∧ needsOk n t.f1) = false := by rw [decide_eq_false_iff_not]; exact fun h => h3 h.1.2.2
        rw [e]
        refine (Ev.const false).of fun k => ?_
        unfold spec_validTask.f
        rw [inRange_eq, inRange_eq, inRange_eq, decide_eq_true h1, decide_eq_true h2, decide_eq_false h3]
        rfl
    · have e : decide (taskOk t ∧ needsOk n t.f1) = false := by rw [decide_eq_false_iff_not]; exact fun h => h2 h.1.2.1
      rw [e]
      refine (Ev.const false).of fun k => ?_
      unfold spec_validTask.f
      rw [inRange_eq, inRange_eq, decide_eq_true h1, decide_eq_false h2]
      rfl
  · have e : decide (taskOk t ∧ needsOk n t.f1) = false := by rw [decide_eq_false_iff_not]; exact fun h => h1 h.1.1
    rw [e]
    refine (Ev.const false).of fun k => ?_
    unfold spec_validTask.f
    rw [inRange_eq, decide_eq_false h1]
    rfl
/-- All lists are of a size that fits. -/
def Fits (g : List Tk) : Prop := g.length < big ∧ ∀ t ∈ g, t.f1.length < big
theorem ev_tasksFine_from (g : List Tk) (hg : Fits g) : ∀ (r pre : List Tk), g = pre ++ r → Ev (fun k => spec_tasksFine.l0 k g (pre.length : Int)) (decide ((∀ t ∈ r, taskOk t ∧ needsOk g.length t.f1) ∧ g.length ≤ 8))
  | [], pre, hp => by
    refine Ev.succ ((Ev.const _).of fun k => ?_)
    rw [List.append_nil] at hp
    subst hp
    rw [spec_tasksFine.l0, if_neg (by omega)]
    congr 1
    rw [decide_eq_decide]
    constructor
    · intro h; exact ⟨by simp, by omega⟩
    · intro h; omega
  | t :: r, pre, hp => by
    have hlen : g.length = pre.length + (r.length + 1) := by rw [hp]; simp
    have hbig := hg.1
    have hrd : rd_T48 g (pre.length : Int) = t := by rw [hp]; exact rdT_mid rfl
    have hv := ev_validTask (hg.2 t (by rw [hp]; simp)) hg.1
    refine Ev.succ ?_
    by_cases hy : taskOk t ∧ needsOk g.length t.f1
    · have ih := ev_tasksFine_from g hg r (pre ++ [t]) (by rw [hp]; simp)
      have e : decide ((∀ t' ∈ t :: r, taskOk t' ∧ needsOk g.length t'.f1) ∧ g.length ≤ 8) = decide ((∀ t ∈ r, taskOk t ∧ needsOk g.length t.f1) ∧ g.length ≤ 8) := by simp [hy]
      rw [e]
      rw [decide_eq_true hy] at hv
      refine (hv.bind (g := fun k b => if b = true then spec_tasksFine.l0 k g ((pre ++ [t]).length : Int) else some false) (ih.of fun k => if_pos rfl)).of fun k => ?_
      rw [spec_tasksFine.l0, if_pos (by omega), if_pos (by omega), hrd, w64s (by omega)]
      simp
    · have e : decide ((∀ t' ∈ t :: r, taskOk t' ∧ needsOk g.length t'.f1) ∧ g.length ≤ 8) = false := by
        rw [decide_eq_false_iff_not]
        exact fun h => hy (h.1 t List.mem_cons_self)
      rw [e]
      rw [decide_eq_false hy] at hv
      refine (hv.bind (g := fun k b => if b = true then spec_tasksFine.l0 k g ((pre ++ [t]).length : Int) else some false) ((Ev.const false).of fun k => if_neg (by simp))).of fun k => ?_
      rw [spec_tasksFine.l0, if_pos (by omega), if_pos (by omega), hrd, w64s (by omega)]
      simp
def fineD (g : List Tk) : Prop := (∀ t ∈ g, taskOk t ∧ needsOk g.length t.f1) ∧ g.length ≤ 8
instance (g : List Tk) : Decidable (fineD g) := by unfold fineD; infer_instance
theorem ev_tasksFine {g : List Tk} (hg : Fits g) : Ev (fun k => spec_tasksFine.f k g) (decide (fineD g)) := ev_tasksFine_from g hg g [] rfl
end Go.Proofs.YtpibdjkajgfgjaaDoor.Core
end
section
set_option linter.unusedVariables false
set_option linter.unusedSimpArgs false
namespace Go.Proofs.YtpibdjkajgfgjaaDoor.Core
open Go Go.RowKit Go.Proofs.YtpibdjkajgfgjaaDoorW.PrintWords Go.Proofs.YtpibdjkajgfgjaaDoorW.PrintMore Go.Proofs.YtpibdjkajgfgjaaDoor.P
/-- A reader's state: few bytes, not far read. -/
def RS (s0 : List Int) (N p : Int) : Prop := s0.length ≤ 2000 ∧ (∀ x ∈ s0, 0 ≤ x ∧ x ≤ 255) ∧ 0 ≤ p ∧ p ≤ N ∧ N ≤ 100000
theorem RS.mono {s0 : List Int} {N M p : Int} (h : RS s0 N p) (hM : N ≤ M) (h2 : M ≤ 100000) : RS s0 M p := ⟨h.1, h.2.1, h.2.2.1, by have := h.2.2.2.1; omega, h2⟩
theorem rd_byte {s0 : List Int} {N p i : Int} (h : RS s0 N p) (h0 : 0 ≤ i) (h1 : i < (s0.length : Int)) : 0 ≤ rd s0 i ∧ rd s0 i ≤ 255 := by
  refine h.2.1 _ ?_
  unfold rd
  rw [List.getD_eq_getElem?_getD, List.getElem?_eq_getElem (by omega), Option.getD_some]
  exact List.getElem_mem _
/-- What pick answers. -/
def PickOk (n : Int) (s0 : List Int) (N : Int) (r : Int × Int) : Prop := (n < 1 → r.1 = 0) ∧ (1 ≤ n → 0 ≤ r.1 ∧ r.1 < n) ∧ RS s0 (N + 1) r.2
theorem ev_pick {s0 : List Int} {N p n : Int} (h : RS s0 N p) (hN : N < 100000) : EvP (fun k => spec_reader_pick.f k s0 p n) (PickOk n s0 N) := by
  obtain ⟨hl, hb, h0, h1, _⟩ := h
  have hp : wrap64 (p + 1) = p + 1 := w64 (by omega) (by omega)
  have hp1 : wrap64 (p + 1 - 1) = p := by rw [Int.add_sub_cancel]; exact w64 (by omega) (by omega)
  have hRS : RS s0 (N + 1) (p + 1) := ⟨hl, hb, by omega, by omega, by omega⟩
  have hz : EvP (fun k => spec_reader_pick.j0 k n true s0 (p + 1)) (fun r => r = (0, p + 1)) := by
    refine EvP.succ ?_
    simp only [spec_reader_pick.j0, if_true]
    exact EvP.ret rfl
  unfold spec_reader_pick.f
  rw [hp]
  refine EvP.ite (fun hn => hz.mono fun a e => ?_) (fun hn => ?_)
  · subst e; exact ⟨fun _ => rfl, fun _ => by omega, hRS⟩
  by_cases he : s0.length = 0
  · rw [show ((s0.length : Int) == 0) = true by simp [he]]
    exact hz.mono fun a e => by subst e; exact ⟨fun _ => rfl, fun _ => by omega, hRS⟩
  rw [show ((s0.length : Int) == 0) = false from beq_eq_false_iff_ne.2 (by omega)]
  refine EvP.succ ?_
  simp only [spec_reader_pick.j0, hp1, Bool.false_eq_true, if_false]
  refine EvP.ite (fun hlt => ?_) (fun hge => ?_)
  · have hr := hb (rd s0 p) (by
      unfold rd
      rw [List.getD_eq_getElem?_getD, List.getElem?_eq_getElem (by omega), Option.getD_some]
      exact List.getElem_mem _)
    refine EvP.pos h0 (EvP.neg (by omega) (EvP.ret ?_))
    rw [w64 (n := rd s0 p) (by omega) (by omega)]
    exact ⟨fun _ => by omega, fun _ => tmod_lt hr.1 (by omega), hRS⟩
  · have hpos : (0 : Int) < s0.length := by omega
    have hm1 := tmod_lt h0 hpos
    have h7 : wrap64 (p * 7) = p * 7 := w64 (by omega) (by omega)
    have h73 : wrap64 (p * 7 + 3) = p * 7 + 3 := w64 (by omega) (by omega)
    have hm2 := tmod_lt (a := p * 7 + 3) (by omega) hpos
    have hd := tdiv_le h0 hpos
    have hr1 := rd_byte ⟨hl, hb, h0, h1, by omega⟩ hm1.1 hm1.2
    have hr2 := rd_byte ⟨hl, hb, h0, h1, by omega⟩ hm2.1 hm2.2
    rw [h7, h73]
    refine EvP.neg (by omega) (EvP.pos hm1.1 (EvP.pos hm1.2 (EvP.pos hm2.1 (EvP.pos hm2.2 (EvP.neg (by omega) (EvP.ret ?_))))))
    generalize rd s0 (Int.tmod p s0.length) = x1 at *
    generalize rd s0 (Int.tmod (p * 7 + 3) s0.length) = x2 at *
    generalize Int.tdiv p s0.length = dd at *
    have e : wrap64 (wrap64 (wrap64 (wrap64 (wrap64 x1 * 131) + wrap64 (wrap64 x2 * 1117)) + wrap64 (p * 29)) + wrap64 (wrap64 dd * 53)) = x1 * 131 + x2 * 1117 + p * 29 + dd * 53 := by
      rw [w64 (n := x1) (by omega) (by omega), w64 (n := x2) (by omega) (by omega), w64 (n := dd) (by omega) (by omega), w64 (n := x1 * 131) (by omega) (by omega), w64 (n := x2 * 1117) (by omega) (by omega), w64 (n := x1 * 131 + x2 * 1117) (by omega) (by omega), w64 (n := p * 29) (by omega) (by omega), w64 (n := x1 * 131 + x2 * 1117 + p * 29) (by omega) (by omega), w64 (n := dd * 53) (by omega) (by omega), w64 (by omega) (by omega)]
    rw [e]
    generalize hy : x1 * 131 + x2 * 1117 + p * 29 + dd * 53 = y at *
    have hq := tdiv_le (a := y) (n := 64) (by omega) (by omega)
    rw [w64 (n := Int.tdiv y 64) (by omega) (by omega)]
    have hx := i64_xor y (Int.tdiv y 64) (by omega) (by omega) (by omega) (by omega)
    exact ⟨fun _ => by omega, fun _ => tmod_lt hx.1 (by omega), hRS⟩
theorem ev_one {s0 : List Int} {N p : Int} (h : RS s0 N p) (hN : N < 100000) (L : List Int) (hL : 0 < L.length) : EvP (fun k => spec_reader_one.f k s0 p L) (fun r => r.1 ∈ L ∧ RS s0 (N + 1) r.2) := by
  unfold spec_reader_one.f
  refine (ev_pick h hN).bind fun a ha => ?_
  have h2 := ha.2.1 (by omega)
  refine EvP.pos h2.1 (EvP.pos h2.2 (EvP.ret ⟨?_, ha.2.2⟩))
  show rd L a.1 ∈ L
  unfold rd
  rw [List.getD_eq_getElem?_getD, List.getElem?_eq_getElem (by omega), Option.getD_some]
  exact List.getElem_mem _
theorem ev_spoil {s0 : List Int} {N p : Int} (h : RS s0 N p) (hN : N + 2 < 100000) (L : List Int) (n : Int) (hL : L.length ≤ 10000) : EvP (fun k => spec_reader_spoil.f k s0 p L n) (fun r => r.1.length ≤ L.length + 1 ∧ RS s0 (N + 3) r.2) := by
  unfold spec_reader_spoil.f
  rw [show spec_copyInts.f L = some L from copyInts_eq (by unfold big; omega) (by omega)]
  refine EvP.sb ?_
  refine (ev_pick h (by omega)).bind fun a ha => ?_
  have hm := ha.2.2.mono (M := N + 3) (by omega) (by omega)
  refine EvP.ite (fun _ => EvP.pos (by omega) (EvP.ret ⟨by simp, hm⟩)) (fun _ => ?_)
  refine EvP.ite (fun _ => EvP.ite (fun h0 => EvP.pos (by omega) (EvP.ret ⟨by simp; omega, hm⟩)) (fun _ => EvP.ret ⟨by show L.length ≤ _; omega, hm⟩)) (fun _ => ?_)
  refine EvP.ite (fun _ => EvP.ite (fun h0 => ?_) (fun _ => EvP.ret ⟨by show L.length ≤ _; omega, hm⟩)) (fun _ => EvP.ret ⟨by show L.length ≤ _; omega, hm⟩)
  refine (ev_pick ha.2.2 (by omega)).bind fun b hb => ?_
  refine (ev_one hb.2.2 (by omega) _ (by simp)).bind fun c hc => ?_
  have h2 := hb.2.1 (by omega)
  exact EvP.pos h2.1 (EvP.pos h2.2 (EvP.ret ⟨by simp, hc.2.mono (by omega) (by omega)⟩))
/-- A graph of few tasks, whose lists of needs are short. -/
def GSmall (n m : Nat) (g : List Tk) : Prop := g.length ≤ n ∧ ∀ t ∈ g, t.f1.length ≤ m
theorem GSmall.fits {n m : Nat} {g : List Tk} (h : GSmall n m g) (hn : n < big) (hm : m < big) : Fits g := ⟨by have := h.1; omega, fun t ht => by have := h.2 t ht; omega⟩
theorem ev_turned_in (x0 : List Tk) (x3 : List Tk) (x4 x5 : Int) (f0 f2 f3 : Int) (L : List Int) (hL : L.length ≤ 10000) (R : List Tk → Prop) (hx3 : x3.length ≤ 100) (hk : ∀ L2 : List Int, L2.length = L.length → EvP (fun k => spec_turned.l0 k x0 (x3 ++ [⟨f0, L2, f2, f3⟩]) x4 (wrap64 (x5 - 1))) R) :
    ∀ (m : Nat) (x7 : List Int), m ≤ L.length → x7.length + m = L.length → EvP (fun k => spec_turned.l1 k x0 x3 x4 x5 x7 ((m : Int) - 1) f0 L f2 f3) R
  | 0, x7, _, h => by
    refine EvP.succ ?_
    simp only [spec_turned.l1]
    exact EvP.neg (by omega) (EvP.pos (by omega) (hk x7 (by omega)))
  | m + 1, x7, hm, h => by
    refine EvP.succ ?_
    simp only [spec_turned.l1]
    refine EvP.pos (by omega) (EvP.pos (by omega) (EvP.pos (by omega) (EvP.pos (by omega) ?_)))
    have := ev_turned_in x0 x3 x4 x5 f0 f2 f3 L hL R hx3 hk m (x7 ++ [wrap64 (x4 - rd L (((m + 1 : Nat) : Int) - 1))]) (by omega) (by simp; omega)
    rw [show wrap64 (((m + 1 : Nat) : Int) - 1 - 1) = (m : Int) - 1 by rw [w64 (by omega) (by omega)]; omega]
    exact this
theorem ev_turned {n m : Nat} {g : List Tk} (hg : GSmall n m g) (hn : n ≤ 100) (hm : m ≤ 10000) : EvP (fun k => spec_turned.f k g) (fun r => r.length = g.length ∧ GSmall n m r) := by
  have key : ∀ (j : Nat) (x3 : List Tk) (x4 : Int), j ≤ g.length → x3.length + j = g.length → (∀ t ∈ x3, t.f1.length ≤ m) → EvP (fun k => spec_turned.l0 k g x3 x4 ((j : Int) - 1)) (fun r => r.length = g.length ∧ GSmall n m r) := by
    intro j
    induction j with
    | zero =>
      intro x3 x4 hj hl ht
      refine EvP.succ ?_
      simp only [spec_turned.l0]
      exact EvP.neg (by omega) (EvP.ret ⟨by show x3.length = _; omega, by have := hg.1; show x3.length ≤ n; omega, ht⟩)
    | succ j ih =>
      intro x3 x4 hj hl ht
      have hgl := hg.1
      refine EvP.succ ?_
      simp only [spec_turned.l0]
      refine EvP.pos (by omega) (EvP.pos (by omega) (EvP.pos (by omega) ?_))
      have hmem : rd_T48 g (((j + 1 : Nat) : Int) - 1) ∈ g := by
        unfold rd_T48
        rw [List.getD_eq_getElem?_getD, List.getElem?_eq_getElem (by omega), Option.getD_some]
        exact List.getElem_mem _
      have hlen := hg.2 _ hmem
      generalize rd_T48 g (((j + 1 : Nat) : Int) - 1) = t at *
      rw [show wrap64 ((t.f1.length : Int) - 1) = (t.f1.length : Int) - 1 from w64 (by omega) (by omega)]
      refine ev_turned_in g x3 x4 (((j + 1 : Nat) : Int) - 1) t.f0 t.f2 t.f3 t.f1 (by omega) _ (by omega) (fun L2 h2 => ?_) t.f1.length [] (Nat.le_refl _) (by simp)
      rw [show wrap64 (((j + 1 : Nat) : Int) - 1 - 1) = (j : Int) - 1 by rw [w64 (by omega) (by omega)]; omega]
      refine ih _ _ (by omega) (by simp; omega) (fun u hu => ?_)
      rcases List.mem_append.1 hu with hu | hu
      · exact ht u hu
      · rw [List.mem_singleton.1 hu]; show L2.length ≤ m; omega
  have hgl := hg.1
  unfold spec_turned.f
  rw [show wrap64 ((g.length : Int) - 1) = (g.length : Int) - 1 from w64 (by omega) (by omega)]
  exact key g.length [] _ (Nat.le_refl _) (by simp) (by simp)
theorem ev_some_in (g : List Tk) (x6 : Int) (s0 : List Int) (f0 f2 f3 : Int) (N : Int) (hg : g.length ≤ 8) (hN : N + 8 < 100000) (R : List Tk × Int → Prop)
    (hk : ∀ (L : List Int) (p : Int), L.length ≤ 8 → RS s0 (N + 8) p → EvP (fun k => spec_someGraph.l0 k (g ++ [⟨f0, L, f2, f3⟩]) (wrap64 (x6 - 1)) s0 p) R) :
    ∀ (d i : Nat) (L : List Int) (p : Int), i + d = g.length → L.length ≤ i → RS s0 (N + i) p → EvP (fun k => spec_someGraph.l1 k g x6 (i : Int) s0 p f0 L f2 f3) R
  | 0, i, L, p, h, hL, hp => by
    refine EvP.succ ?_
    simp only [spec_someGraph.l1]
    exact EvP.neg (by omega) (EvP.pos (by omega) (hk L p (by omega) (hp.mono (by omega) (by omega))))
  | d + 1, i, L, p, h, hL, hp => by
    refine EvP.succ ?_
    simp only [spec_someGraph.l1]
    refine EvP.pos (by omega) ?_
    refine (ev_pick hp (by omega)).bind fun a ha => ?_
    have hp2 : RS s0 (N + ((i + 1 : Nat) : Int)) a.2 := ha.2.2.mono (by omega) (by omega)
    rw [show wrap64 ((i : Int) + 1) = ((i + 1 : Nat) : Int) by rw [w64 (by omega) (by omega)]; omega]
    refine EvP.ite (fun _ => EvP.pos (by omega) ?_) (fun _ => ?_)
    · exact ev_some_in g x6 s0 f0 f2 f3 N hg hN R hk d (i + 1) _ _ (by omega) (by simp; omega) hp2
    · exact ev_some_in g x6 s0 f0 f2 f3 N hg hN R hk d (i + 1) _ _ (by omega) (by omega) hp2
theorem ev_some_out (s0 : List Int) : ∀ (j : Nat) (g : List Tk) (N p : Int), g.length + j ≤ 8 → N + j * 11 + 1 < 100000 → (∀ t ∈ g, t.f1.length ≤ 8) → RS s0 N p →
    EvP (fun k => spec_someGraph.l0 k g (j : Int) s0 p) (fun r => GSmall 8 8 r.1 ∧ RS s0 (N + j * 11 + 1) r.2)
  | 0, g, N, p, hg, hN, ht, hp => by
    refine EvP.succ ?_
    simp only [spec_someGraph.l0]
    refine EvP.neg (by omega) ?_
    refine EvP.ite (fun h1 => ?_) (fun _ => EvP.ret ⟨⟨by show g.length ≤ 8; omega, ht⟩, hp.mono (by omega) (by omega)⟩)
    refine (ev_pick hp (by omega)).bind fun a ha => ?_
    refine EvP.ite (fun _ => ?_) (fun _ => EvP.ret ⟨⟨by show g.length ≤ 8; omega, ht⟩, ha.2.2.mono (by omega) (by omega)⟩)
    refine (ev_turned (n := 8) (m := 8) ⟨by omega, ht⟩ (by omega) (by omega)).bind fun r hr => ?_
    exact EvP.ret ⟨hr.2, ha.2.2.mono (by omega) (by omega)⟩
  | j + 1, g, N, p, hg, hN, ht, hp => by
    refine EvP.succ ?_
    simp only [spec_someGraph.l0]
    refine EvP.pos (by omega) ?_
    refine (ev_one hp (by omega) _ (by simp)).bind fun a ha => ?_
    refine (ev_pick ha.2 (by omega)).bind fun b hb => ?_
    refine (ev_pick hb.2.2 (by omega)).bind fun c hc => ?_
    refine ev_some_in g ((j + 1 : Nat) : Int) s0 a.1 b.1 (wrap64 (1 + c.1)) (N + 1 + 1 + 1) (by omega) (by omega) _ (fun L q hL hq => ?_) g.length 0 [] _ (by omega) (by simp) (hc.2.2.mono (by omega) (by omega))
    rw [show wrap64 (((j + 1 : Nat) : Int) - 1) = (j : Int) by rw [w64 (by omega) (by omega)]; omega]
    refine (ev_some_out s0 j _ (N + 11) q (by simp; omega) (by omega) (fun u hu => ?_) (hq.mono (by omega) (by omega))).mono fun r hr => ⟨hr.1, hr.2.mono (by omega) (by omega)⟩
    rcases List.mem_append.1 hu with hu | hu
    · exact ht u hu
    · rw [List.mem_singleton.1 hu]; exact hL
theorem ev_someGraph {s0 : List Int} {N p : Int} (h : RS s0 N p) (hN : N + 100 < 100000) (a : Int) (ha : 0 ≤ a) : EvP (fun k => spec_someGraph.f k s0 p a) (fun r => GSmall 8 8 r.1 ∧ RS s0 (N + 100) r.2) := by
  unfold spec_someGraph.f
  refine (ev_one h (by omega) _ (by simp)).bind fun b hb => ?_
  have hb8 : 0 ≤ mn a b.1 ∧ mn a b.1 ≤ 8 := by
    have := hb.1
    simp at this
    unfold mn
    split <;> omega
  generalize mn a b.1 = c at *
  obtain ⟨j, rfl⟩ := Int.eq_ofNat_of_zero_le hb8.1
  exact (ev_some_out s0 j [] (N + 1) b.2 (by simp; omega) (by omega) (by simp) hb.2).mono fun r hr => ⟨hr.1, hr.2.mono (by omega) (by omega)⟩
theorem lim_evP {α : Type} {f : Nat → Option α} {Q : α → Prop} (hm : ∀ k, LeO (f k) (f (k + 1))) (h : EvP f Q) : EvP (fun _ => lim f) Q := by
  obtain ⟨r, h, q⟩ := h
  obtain ⟨k, hk⟩ := h.one
  exact ⟨r, ⟨0, fun _ _ => lim_of hm hk⟩, q⟩
theorem rdT_small {n m : Nat} {g : List Tk} (h : GSmall n m g) {i : Int} (h0 : 0 ≤ i) (h1 : i < (g.length : Int)) : (rd_T48 g i).f1.length ≤ m := by
  refine h.2 _ ?_
  unfold rd_T48
  rw [List.getD_eq_getElem?_getD, List.getElem?_eq_getElem (by omega), Option.getD_some]
  exact List.getElem_mem _
theorem small_set {n m m2 : Nat} {g : List Tk} (h : GSmall n m g) (i : Nat) (t : Tk) (ht : t.f1.length ≤ m2) (hm : m ≤ m2) {n2 : Nat} (hn : n ≤ n2) : GSmall n2 m2 (g.set i t) := by
  refine ⟨by rw [List.length_set]; have := h.1; omega, fun u hu => ?_⟩
  rcases List.mem_or_eq_of_mem_set hu with h1 | h1
  · have := h.2 u h1; omega
  · rw [h1]; exact ht
theorem ev_anyGraph {s0 : List Int} {N p : Int} (h : RS s0 N p) (hN : N + 210 < 100000) : EvP (fun _ => spec_anyGraph.f s0 p) (fun r => GSmall 16 10 r.1 ∧ RS s0 (N + 210) r.2) := by
  unfold spec_anyGraph.f
  refine lim_evP (fun k => spec_anyGraph.mono s0 p k) ?_
  unfold spec_anyGraph.fk
  refine (ev_someGraph h (by omega) 8 (by omega)).bind fun a ha => ?_
  have hs : GSmall 16 10 a.1 := ⟨by have := ha.1.1; omega, fun t ht => by have := ha.1.2 t ht; omega⟩
  refine EvP.ite (fun _ => EvP.ret ⟨hs, ha.2.mono (by omega) (by omega)⟩) (fun hne => ?_)
  refine (ev_pick ha.2 (by omega)).bind fun b hb => ?_
  refine (ev_pick hb.2.2 (by omega)).bind fun c hc => ?_
  have hb2 := hb.2.1 (by omega)
  refine EvP.neg (fun hh => hh hb2) ?_
  have hl := rdT_small ha.1 hb2.1 hb2.2
  generalize rd_T48 a.1 b.1 = tk at hl
  refine EvP.ite (fun _ => (ev_one hc.2.2 (by omega) _ (by simp)).bind fun d hd => EvP.ret ⟨small_set ha.1 _ _ (by show tk.f1.length ≤ 10; omega) (by omega) (by omega), hd.2.mono (by omega) (by omega)⟩) (fun _ => ?_)
  refine EvP.ite (fun _ => ?_) (fun _ => ?_)
  · refine (ev_pick hc.2.2 (by omega)).bind fun d hd => ?_
    refine EvP.pos (by omega) ?_
    refine (ev_spoil hd.2.2 (by omega) _ 8 (by simp; omega)).bind fun e he => ?_
    have := he.1
    simp only [List.length_append, List.length_cons, List.length_nil] at this
    exact EvP.ret ⟨small_set ha.1 _ _ (by show e.1.length ≤ 10; omega) (by omega) (by omega), he.2.mono (by omega) (by omega)⟩
  refine EvP.ite (fun _ => (ev_one hc.2.2 (by omega) _ (by simp)).bind fun d hd => EvP.ret ⟨small_set ha.1 _ _ (by show tk.f1.length ≤ 10; omega) (by omega) (by omega), hd.2.mono (by omega) (by omega)⟩) (fun _ => ?_)
  refine EvP.ite (fun _ => (ev_one hc.2.2 (by omega) _ (by simp)).bind fun d hd => EvP.ret ⟨small_set ha.1 _ _ (by show tk.f1.length ≤ 10; omega) (by omega) (by omega), hd.2.mono (by omega) (by omega)⟩) (fun _ => ?_)
  refine EvP.ite (fun _ => ?_) (fun _ => EvP.ret ⟨hs, hc.2.2.mono (by omega) (by omega)⟩)
  refine (ev_someGraph hc.2.2 (by omega) 8 (by omega)).bind fun d hd => ?_
  have h1 := ha.1.1
  have h2 := hd.1.1
  refine EvP.pos (by omega) (EvP.ret ⟨⟨by simp; omega, fun t ht => ?_⟩, hd.2.mono (by omega) (by omega)⟩)
  rcases List.mem_append.1 ht with ht | ht
  · have := ha.1.2 t ht; omega
  · have := hd.1.2 t ht; omega
/-- The bytes of a code. -/
def Bytes (l : List Int) : Prop := ∀ x ∈ l, (Lit.int .u8 x).wf = true
theorem byte_of_wf {x : Int} (h : (Lit.int .u8 x).wf = true) : 0 ≤ x ∧ x ≤ 255 := by
  simp only [Lit.wf, IntKind.min, IntKind.max, IntKind.signed, IntKind.bits, Bool.and_eq_true, decide_eq_true_eq] at h
  simp at h
  omega
theorem ev_newReader {l : List Int} (h : Bytes l) : EvP (fun _ => spec_newReader.f l) (fun r => RS r.1 0 r.2) := by
  have hb : ∀ x ∈ l, 0 ≤ x ∧ x ≤ 255 := fun x hx => byte_of_wf (h x hx)
  unfold spec_newReader.f
  refine EvP.ite (fun h1 => EvP.pos (by omega) (EvP.ret ⟨by simp; omega, fun x hx => hb x (List.mem_of_mem_take hx), by omega, by omega, by omega⟩)) (fun h1 => EvP.ret ⟨by show l.length ≤ 2000; omega, hb, by show (0 : Int) ≤ 0; omega, by show (0 : Int) ≤ 0; omega, by omega⟩)
end Go.Proofs.YtpibdjkajgfgjaaDoor.Core
end
section
set_option linter.unusedVariables false
set_option linter.unusedSimpArgs false
namespace Go.Proofs.YtpibdjkajgfgjaaDoor.Core
open Go Go.RowKit Go.Proofs.YtpibdjkajgfgjaaDoorW.PrintWords Go.Proofs.YtpibdjkajgfgjaaDoorW.PrintMore Go.Proofs.YtpibdjkajgfgjaaDoor.P
theorem asc_lt : ∀ {r : List Int} {x : Int}, ascD (x :: r) = true → ascD r = true ∧ ∀ y ∈ r, x < y
  | [], x, _ => ⟨rfl, by simp⟩
  | y :: r, x, h => by
    simp only [ascD, Bool.and_eq_true, decide_eq_true_eq] at h
    have h2 := asc_lt h.2
    refine ⟨h.2, fun z hz => ?_⟩
    rcases List.mem_cons.1 hz with rfl | hz
    · exact h.1
    · have := h2.2 z hz; omega
theorem asc_mk {r : List Int} {x : Int} (h : ascD r = true) (h2 : ∀ y ∈ r, x < y) : ascD (x :: r) = true := by
  cases r with
  | nil => rfl
  | cons y r => simp [ascD, h, h2 y List.mem_cons_self]
theorem setGo_some {n : Nat} : ∀ {r : List Int} {s : Nat} {last : Int} {t : Nat}, -1 ≤ last → setGo n r s last = some t → (∀ x ∈ r, last + 1 ≤ x ∧ x ≤ (n : Int) - 1) ∧ ascD r = true ∧ ∀ i : Nat, t.testBit i = (s.testBit i || decide ((i : Int) ∈ r))
  | [], s, last, t, hl, h => by
    rw [setGo] at h
    cases h
    exact ⟨by simp, rfl, by simp⟩
  | x :: r, s, last, t, hl, h => by
    rw [setGo] at h
    by_cases hx : last + 1 ≤ x ∧ x ≤ (n : Int) - 1
    · rw [if_pos hx] at h
      obtain ⟨h1, h2, h3⟩ := setGo_some (by omega) h
      refine ⟨fun y hy => ?_, asc_mk h2 (fun y hy => by have := h1 y hy; omega), fun i => ?_⟩
      · rcases List.mem_cons.1 hy with rfl | hy
        · exact hx
        · have := h1 y hy; omega
      · rw [h3, or_bit]
        have : decide (x.toNat = i) = decide ((i : Int) = x) := by rw [decide_eq_decide]; omega
        rw [this]
        by_cases e : (i : Int) = x
        · simp [e]
        · simp [e]
    · rw [if_neg hx] at h; cases h
theorem setGo_ok {n : Nat} : ∀ {r : List Int} (s : Nat) {last : Int}, (∀ x ∈ r, last + 1 ≤ x ∧ x ≤ (n : Int) - 1) → ascD r = true → ∃ t, setGo n r s last = some t
  | [], s, last, _, _ => ⟨s, rfl⟩
  | x :: r, s, last, h, ha => by
    have h2 := asc_lt ha
    have hx := h x List.mem_cons_self
    rw [setGo, if_pos hx]
    exact setGo_ok _ (fun y hy => ⟨by have := h2.2 y hy; omega, (h y (List.mem_cons_of_mem _ hy)).2⟩) h2.1
theorem setD_some {n : Nat} {l : List Int} {t : Nat} (h : setD n l = some t) : needsOk n l ∧ ∀ i : Nat, t.testBit i = decide ((i : Int) ∈ l) := by
  obtain ⟨h1, h2, h3⟩ := setGo_some (by omega) h
  exact ⟨⟨fun x hx => by have := h1 x hx; omega, h2⟩, fun i => by rw [h3]; simp⟩
theorem setD_ok {n : Nat} {l : List Int} (h : needsOk n l) : ∃ t, setD n l = some t := setGo_ok 0 (fun x hx => by have := h.1 x hx; omega) h.2
theorem setD_none {n : Nat} {l : List Int} (h : setD n l = none) : ¬needsOk n l := fun h2 => by
  obtain ⟨t, ht⟩ := setD_ok h2
  rw [h] at ht
  cases ht
theorem needsGo_ok {n : Nat} : ∀ {r : List Tk}, (∀ t ∈ r, taskOk t ∧ needsOk n t.f1) → ∃ N, needsGo n r = some N
  | [], _ => ⟨[], rfl⟩
  | t :: r, h => by
    obtain ⟨s, hs⟩ := setD_ok (h t List.mem_cons_self).2
    obtain ⟨N, hN⟩ := needsGo_ok (fun t' ht => h t' (List.mem_cons_of_mem _ ht))
    rw [needsGo, hs]
    simp only [(h t List.mem_cons_self).1, if_true, hN]
    exact ⟨_, rfl⟩
theorem needsGo_fine {n : Nat} : ∀ {r : List Tk} {N : List Nat}, needsGo n r = some N → (∀ t ∈ r, taskOk t ∧ needsOk n t.f1) ∧ ∀ i, i < r.length → ∀ j : Nat, (N.getD i 0).testBit j = decide ((j : Int) ∈ (r.getD i z48).f1)
  | [], N, h => ⟨by simp, by intro i hi; simp at hi⟩
  | t :: r, N, h => by
    rw [needsGo] at h
    cases he : setD n t.f1 with
    | none => rw [he] at h; cases h
    | some s =>
      rw [he] at h
      by_cases hok : taskOk t
      · simp only [hok, if_true] at h
        cases hg : needsGo n r with
        | none => rw [hg] at h; cases h
        | some M =>
          rw [hg] at h
          cases h
          have ih := needsGo_fine hg
          have hs := setD_some he
          refine ⟨fun t' ht => ?_, fun i hi j => ?_⟩
          · rcases List.mem_cons.1 ht with rfl | ht
            · exact ⟨hok, hs.1⟩
            · exact ih.1 t' ht
          · cases i with
            | zero => simpa using hs.2 j
            | succ i => simpa using ih.2 i (by simpa using hi) j
      · simp [hok] at h
theorem needsD_fine {g : List Tk} {N : List Nat} (h : needsD g = some N) : fineD g ∧ ∀ i, i < g.length → ∀ j : Nat, (N.getD i 0).testBit j = decide ((j : Int) ∈ (g.getD i z48).f1) := by
  have h8 := (needsD_spec h).1
  unfold needsD at h
  rw [if_pos h8] at h
  have := needsGo_fine h
  exact ⟨⟨this.1, h8⟩, this.2⟩
theorem fineD_needs {g : List Tk} (h : fineD g) : ∃ N, needsD g = some N := by
  unfold needsD
  rw [if_pos h.2]
  exact needsGo_ok h.1
theorem sub_zero {a b : Nat} (ha : a < 256) (hb : b < 256) : sub a b = 0 ↔ ∀ j, a.testBit j = true → b.testBit j = true := by
  constructor
  · intro h j hj
    have := sub_testBit (i := j) ha hb
    rw [h, hj] at this
    simpa using this
  · intro h
    apply Nat.eq_of_testBit_eq
    intro j
    rw [sub_testBit ha hb, Nat.zero_testBit]
    cases e : a.testBit j
    · rfl
    · rw [h j e]; rfl
theorem mem_up {L : List Nat} {i : Nat} : (i : Int) ∈ up L ↔ i ∈ L := by
  unfold up
  rw [List.mem_map]
  constructor
  · rintro ⟨a, ha, e⟩
    have : a = i := Int.ofNat.inj e
    exact this ▸ ha
  · intro h
    exact ⟨i, h, rfl⟩
/-- All needs of a task are among some, said both ways. -/
theorem done_iff {g : List Tk} {N : List Nat} (hN : needsD g = some N) {L : List Nat} {d : Nat} (hd : d < 256) (hs : ∀ i, d.testBit i = true ↔ i ∈ L) {i : Nat} (hi : i < g.length) : (∀ x ∈ (g.getD i z48).f1, x ∈ up L) ↔ sub (N.getD i 0) d = 0 := by
  obtain ⟨h8, hl, hb⟩ := needsD_spec hN
  obtain ⟨hf, hbit⟩ := needsD_fine hN
  rw [sub_zero (Nat.lt_of_lt_of_le (getD_lt hb i) (pow8 h8)) hd]
  constructor
  · intro h j hj
    rw [hbit i hi j, decide_eq_true_eq] at hj
    exact (hs j).2 (mem_up.1 (h _ hj))
  · intro h x hx
    have hmem : g.getD i z48 ∈ g := by
      rw [List.getD_eq_getElem?_getD, List.getElem?_eq_getElem hi]
      exact List.getElem_mem hi
    have h0 := (hf.1 _ hmem).2.1 x hx
    obtain ⟨j, rfl⟩ : ∃ j : Nat, x = (j : Int) := ⟨x.toNat, by omega⟩
    refine mem_up.2 ((hs j).1 (h j ?_))
    rw [hbit i hi j, decide_eq_true_eq]
    exact hx
theorem rdT_nat (g : List Tk) (i : Nat) : rd_T48 g (i : Int) = g.getD i z48 := by simp [rd_T48]
theorem getD_mem {g : List Tk} {i : Nat} (hi : i < g.length) : g.getD i z48 ∈ g := by
  rw [List.getD_eq_getElem?_getD, List.getElem?_eq_getElem hi]
  exact List.getElem_mem hi
theorem ev_top_found {g : List Tk} (hg : Fits g) (L : List Nat) (hL : L.length ≤ 100) (j : Nat) (i : Int) (R : List Int) (h : Ev (fun k => spec_topOrder.l0 k g (up (L ++ [j]))) R) : Ev (fun k => spec_topOrder.l1 k g (up L) (j : Int) i) R := by
  have e : up (L ++ [j]) = up L ++ [(j : Int)] := by simp [up]
  have h2 : Ev (fun k => spec_topOrder.j2 k g (up L) (j : Int) i false) R := by
    refine Ev.succ (h.of fun k => ?_)
    rw [spec_topOrder.j2, if_neg (by simp), if_neg (by omega), if_pos (by rw [up_length]; omega), e]
  refine Ev.succ (h2.of fun k => ?_)
  rw [spec_topOrder.l1, show decide ((j : Int) < 0) = false by simp]
  split <;> rfl
theorem ev_top_scan {g : List Tk} (hg : Fits g) {N : List Nat} (hN : needsD g = some N) (L : List Nat) (d : Nat) (hL : L.length ≤ 100) (hd : d < 256) (hs : ∀ i, d.testBit i = true ↔ i ∈ L) (R : Option Nat → List Int) (hR : R none = up L) : ∀ (m i : Nat), i + m = g.length →
    (∀ j, nextFrom N d i m = some j → Ev (fun k => spec_topOrder.l0 k g (up (L ++ [j]))) (R (some j))) → Ev (fun k => spec_topOrder.l1 k g (up L) (-1) (i : Int)) (R (nextFrom N d i m))
  | 0, i, hi, ho => by
    rw [nextFrom, hR]
    refine Ev.succ ?_
    have h2 : Ev (fun k => spec_topOrder.j2 k g (up L) (-1) (i : Int) false) (up L) := by
      refine Ev.succ ((Ev.const _).of fun k => ?_)
      rw [spec_topOrder.j2, if_neg (by simp), if_pos (by omega)]
    refine h2.of fun k => ?_
    rw [spec_topOrder.l1, if_neg (by omega)]
  | m + 1, i, hi, ho => by
    have hig : i < g.length := by omega
    have h8 := (needsD_spec hN).1
    have hin := ev_isIn (L := up L) (by rw [up_length]; unfold big; omega) (i : Int)
    have hdn := ev_allDone (L := (g.getD i z48).f1) (M := up L) (hg.2 _ (getD_mem hig)) (by rw [up_length]; unfold big; omega)
    have e1 : decide ((i : Int) ∈ up L) = d.testBit i := by
      rw [Bool.eq_iff_iff, decide_eq_true_eq, mem_up, hs]
    have e2 : decide (∀ x ∈ (g.getD i z48).f1, x ∈ up L) = decide (sub (N.getD i 0) d = 0) := by
      rw [decide_eq_decide]; exact done_iff hN hd hs hig
    rw [e1] at hin
    rw [e2] at hdn
    have hw : wrap64 ((i : Int) + 1) = ((i + 1 : Nat) : Int) := w64s (by unfold big; omega)
    refine Ev.succ ?_
    have hj2 : Ev (fun k => spec_topOrder.j2 k g (up L) (-1) (i : Int) true) (R (nextFrom N d i (m + 1))) := by
      refine Ev.succ ?_
      have hu : ∀ k, spec_topOrder.j2 (k + 1) g (up L) (-1) (i : Int) true = (spec_isIn.f k (up L) (i : Int)).bind fun t126 => (if t126 = true then (spec_topOrder.l1 k g (up L) (-1) ((i + 1 : Nat) : Int)) else ((spec_allDone.f k (g.getD i z48).f1 (up L)).bind fun t128 => (if t128 = true then (spec_topOrder.l1 k g (up L) (i : Int) ((i + 1 : Nat) : Int)) else (spec_topOrder.l1 k g (up L) (-1) ((i + 1 : Nat) : Int))))) := by
        intro k
        rw [spec_topOrder.j2, if_pos rfl, hw, if_pos (show 0 ≤ (i : Int) by omega), if_pos (show (i : Int) < (g.length : Int) by omega), rdT_nat]
      refine Ev.of ?_ hu
      refine hin.bind (g := fun k t126 => (if t126 = true then (spec_topOrder.l1 k g (up L) (-1) ((i + 1 : Nat) : Int)) else ((spec_allDone.f k (g.getD i z48).f1 (up L)).bind fun t128 => (if t128 = true then (spec_topOrder.l1 k g (up L) (i : Int) ((i + 1 : Nat) : Int)) else (spec_topOrder.l1 k g (up L) (-1) ((i + 1 : Nat) : Int)))))) ?_
      cases hbit : d.testBit i with
      | true =>
        have hg2 : nextFrom N d i (m + 1) = nextFrom N d (i + 1) m := by rw [nextFrom, if_neg (by simp [hbit])]
        rw [hg2] at ho ⊢
        exact (ev_top_scan hg hN L d hL hd hs R hR m (i + 1) (by omega) ho).of fun k => if_pos rfl
      | false =>
        by_cases hz : sub (N.getD i 0) d = 0
        · have hg2 : nextFrom N d i (m + 1) = some i := by rw [nextFrom, if_pos ⟨hbit, hz⟩]
          rw [hg2]
          rw [decide_eq_true hz] at hdn
          have hf := ev_top_found hg L hL i ((i + 1 : Nat) : Int) _ (ho i hg2)
          refine (hdn.bind (g := fun k t128 => if t128 = true then (spec_topOrder.l1 k g (up L) (i : Int) ((i + 1 : Nat) : Int)) else (spec_topOrder.l1 k g (up L) (-1) ((i + 1 : Nat) : Int))) (hf.of fun k => if_pos rfl)).of fun k => ?_
          rw [if_neg (by simp)]
        · have hg2 : nextFrom N d i (m + 1) = nextFrom N d (i + 1) m := by rw [nextFrom, if_neg (fun h => hz h.2)]
          rw [hg2] at ho ⊢
          rw [decide_eq_false hz] at hdn
          have ih := ev_top_scan hg hN L d hL hd hs R hR m (i + 1) (by omega) ho
          refine (hdn.bind (g := fun k t128 => if t128 = true then (spec_topOrder.l1 k g (up L) (i : Int) ((i + 1 : Nat) : Int)) else (spec_topOrder.l1 k g (up L) (-1) ((i + 1 : Nat) : Int))) (ih.of fun k => if_neg (by simp))).of fun k => ?_
          rw [if_neg (by simp)]
    refine hj2.of fun k => ?_
    rw [spec_topOrder.l1, if_pos (by omega)]
    rfl
theorem orderGo_none {N : List Nat} {d : Nat} (h : nextD N d = none) : ∀ (m : Nat) (L : List Nat), orderGo N m L d = (L, d)
  | 0, L => rfl
  | m + 1, L => by rw [orderGo, h]; exact orderGo_none h m L
theorem next_zb {N : List Nat} {d j : Nat} (h : nextD N d = some j) : zb N.length (d ||| 2 ^ j) < zb N.length d := by
  have := nextD_spec h
  exact zb_lt this.2.1 this.1
theorem ev_top_go {g : List Tk} (hg : Fits g) {N : List Nat} (hN : needsD g = some N) : ∀ (m : Nat) (L : List Nat) (d : Nat), OrdOk N L d → zb N.length d ≤ m → Ev (fun k => spec_topOrder.l0 k g (up L)) (up (orderGo N m L d).1) := by
  obtain ⟨h8, hl, hb⟩ := needsD_spec hN
  have hb' : below1 N.length N := by rw [hl]; exact hb
  intro m
  induction m with
  | zero =>
    intro L d ok hz
    have hlt := Nat.lt_of_lt_of_le ok.dlt (pow8 (n := N.length) (by omega))
    have hnone : nextD N d = none := by
      cases h : nextD N d with
      | none => rfl
      | some j => have := next_zb h; omega
    have h := ev_top_scan hg hN L d (by have := ok.len; omega) hlt ok.set (fun _ => up L) rfl g.length 0 (by omega) (fun j hj => by
      have : nextD N d = some j := by unfold nextD; rw [hl]; exact hj
      rw [hnone] at this; cases this)
    refine Ev.succ (h.of fun k => ?_)
    rw [spec_topOrder.l0]
    rfl
  | succ m ih =>
    intro L d ok hz
    have hlt := Nat.lt_of_lt_of_le ok.dlt (pow8 (n := N.length) (by omega))
    have h := ev_top_scan hg hN L d (by have := ok.len; omega) hlt ok.set (fun o => match o with | some i => up (orderGo N m (L ++ [i]) (d ||| 2 ^ i)).1 | none => up L) rfl g.length 0 (by omega) (fun j hj => by
      have hj2 : nextD N d = some j := by unfold nextD; rw [hl]; exact hj
      have hsp := nextD_spec hj2
      have := next_zb hj2
      exact ih (L ++ [j]) (d ||| 2 ^ j) (ok.step (by omega) hb' hsp.1 hsp.2.1 hsp.2.2) (by omega))
    have e : (match nextFrom N d 0 g.length with | some i => up (orderGo N m (L ++ [i]) (d ||| 2 ^ i)).1 | none => up L) = up (orderGo N (m + 1) L d).1 := by
      rw [orderGo]
      have e2 : nextD N d = nextFrom N d 0 g.length := by unfold nextD; rw [hl]
      rw [e2]
      cases hx : nextFrom N d 0 g.length with
      | none => simp only []; rw [orderGo_none (by rw [e2]; exact hx)]
      | some i => rfl
    rw [← e]
    refine Ev.succ (h.of fun k => ?_)
    rw [spec_topOrder.l0]
    rfl
theorem ordOk_nil (N : List Nat) : OrdOk N [] 0 := ⟨by simp, by simp, Nat.two_pow_pos _, by simp, by rw [zb_zero]; simp, by simp⟩
theorem ev_topOrder {g : List Tk} (hg : Fits g) {N : List Nat} (hN : needsD g = some N) : Ev (fun k => spec_topOrder.f k g) (up (orderD N).1) :=
  ev_top_go hg hN N.length [] 0 (ordOk_nil N) (by rw [zb_zero]; exact Nat.le_refl _)
theorem zb_zero_full {n : Nat} : ∀ {m d : Nat}, zb m d = 0 → ∀ i, i < m → d.testBit i = true
  | 0, d, _, i, h => by omega
  | m + 1, d, h, i, hi => by
    simp only [zb] at h
    by_cases e : i = m
    · subst e
      cases hb : d.testBit i
      · simp [hb] at h
      · rfl
    · exact zb_zero_full (n := n) (m := m) (by omega) i (by omega)
theorem full_iff {N L : List Nat} {d : Nat} (ok : OrdOk N L d) : d = 2 ^ N.length - 1 ↔ L.length = N.length := by
  constructor
  · intro h
    have := ok.len
    rw [h, zb_full _ _ (Nat.le_refl _)] at this
    exact this
  · intro h
    have hz : zb N.length d = 0 := by have := ok.len; omega
    apply Nat.eq_of_testBit_eq
    intro i
    rw [Nat.testBit_two_pow_sub_one]
    by_cases hi : i < N.length
    · rw [zb_zero_full (n := 0) hz i hi]; simp [hi]
    · cases hb : d.testBit i
      · simp [hi]
      · exact absurd (ok.lt i ((ok.set i).1 hb)) hi
theorem ev_validGraph {g : List Tk} (hg : Fits g) : Ev (fun k => spec_validGraph.f k g) (graphD g).isSome := by
  have hf := ev_tasksFine hg
  unfold graphD
  by_cases h : fineD g
  · obtain ⟨N, hN⟩ := fineD_needs h
    obtain ⟨h8, hl, hb⟩ := needsD_spec hN
    rw [decide_eq_true h] at hf
    have ht := ev_topOrder hg hN
    have ok := orderD_ok (N := N) (by omega) (by rw [hl]; exact hb)
    have hfull := full_iff ok
    rw [hN]
    simp only []
    refine (hf.bind (g := fun k b => if b = true then ((spec_topOrder.f k g).bind fun t130 => (some ((t130.length : Int) == (g.length : Int)))) else some false) ?_).of fun k => rfl
    refine (ht.bind (g := fun k t130 => some ((t130.length : Int) == (g.length : Int))) (b := (if (orderD N).2 = 2 ^ g.length - 1 then some (mkG g N) else none).isSome) ((Ev.const _).of fun k => ?_)).of fun k => if_pos rfl
    rw [up_length]
    congr 1
    by_cases hd : (orderD N).2 = 2 ^ g.length - 1
    · rw [if_pos hd]
      have := hfull.1 (by rw [hl]; exact hd)
      simp [this, hl]
    · rw [if_neg hd]
      have : (orderD N).1.length ≠ g.length := fun e => hd (by rw [← hl]; exact hfull.2 (by omega))
      simp [this]
      omega
  · rw [decide_eq_false h] at hf
    have hn : needsD g = none := by
      cases e : needsD g with
      | none => rfl
      | some N => exact absurd (needsD_fine e).1 h
    rw [hn]
    refine (hf.bind (g := fun k b => if b = true then ((spec_topOrder.f k g).bind fun t130 => (some ((t130.length : Int) == (g.length : Int)))) else some false) ((Ev.const false).of fun k => if_neg (by simp))).of fun k => rfl
end Go.Proofs.YtpibdjkajgfgjaaDoor.Core
end
section
set_option linter.unusedVariables false
set_option linter.unusedSimpArgs false
namespace Go.Proofs.YtpibdjkajgfgjaaDoor.Core
open Go Go.RowKit Go.Proofs.YtpibdjkajgfgjaaDoorW.PrintWords Go.Proofs.YtpibdjkajgfgjaaDoorW.PrintMore Go.Proofs.YtpibdjkajgfgjaaDoor.P
theorem asc_ext : ∀ {a b : List Int}, ascD a = true → ascD b = true → (∀ x, x ∈ a ↔ x ∈ b) → a = b
  | [], [], _, _, _ => rfl
  | [], y :: b, _, _, h => by have := (h y).2 List.mem_cons_self; cases this
  | x :: a, [], _, _, h => by have := (h x).1 List.mem_cons_self; cases this
  | x :: a, y :: b, ha, hb, h => by
    have h1 := asc_lt ha
    have h2 := asc_lt hb
    have e : x = y := by
      rcases List.mem_cons.1 ((h x).1 List.mem_cons_self) with e | e
      · exact e
      · rcases List.mem_cons.1 ((h y).2 List.mem_cons_self) with e' | e'
        · exact e'.symm
        · have := h1.2 y e'
          have := h2.2 x e
          omega
    subst e
    rw [asc_ext h1.1 h2.1 (fun z => ⟨fun hz => ?_, fun hz => ?_⟩)]
    · rcases List.mem_cons.1 ((h z).1 (List.mem_cons_of_mem _ hz)) with e | e
      · have := h1.2 z hz; omega
      · exact e
    · rcases List.mem_cons.1 ((h z).2 (List.mem_cons_of_mem _ hz)) with e | e
      · have := h2.2 z hz; omega
      · exact e
theorem asc_filter (p : Nat → Bool) : ∀ (m i : Nat), ascD (up ((List.range' i m).filter p)) = true ∧ ∀ x ∈ up ((List.range' i m).filter p), (i : Int) ≤ x
  | 0, i => ⟨rfl, by simp [up]⟩
  | m + 1, i => by
    have ih := asc_filter p m (i + 1)
    rw [List.range'_succ, List.filter_cons]
    split
    · refine ⟨asc_mk ih.1 (fun y hy => by have := ih.2 y hy; show (i : Int) < y; omega), fun x hx => ?_⟩
      rcases List.mem_cons.1 hx with rfl | hx
      · exact Int.le_refl _
      · have := ih.2 x hx; omega
    · exact ⟨ih.1, fun x hx => by have := ih.2 x hx; omega⟩
theorem asc_elems (s : Nat) : ascD (up (elemsN s)) = true := by
  unfold elemsN
  rw [List.range_eq_range']
  exact (asc_filter (fun i => s.testBit i) 8 0).1
/-- A list of ascending numbers is its set's. -/
theorem set_list {n : Nat} (hn : n ≤ 8) {l : List Int} {s : Nat} (h : setD n l = some s) : up (elemsN s) = l := by
  obtain ⟨h1, h2⟩ := setD_some h
  refine asc_ext (asc_elems s) h1.2 (fun x => ?_)
  constructor
  · intro hx
    obtain ⟨i, rfl, _, hi⟩ := mem_elems.1 hx
    rw [h2] at hi
    simpa using hi
  · intro hx
    have h3 := h1.1 x hx
    obtain ⟨i, rfl⟩ := Int.eq_ofNat_of_zero_le h3.1
    refine mem_elems.2 ⟨i, rfl, by omega, ?_⟩
    rw [h2]
    simpa using hx
theorem set_cases (n : Nat) (l : List Int) : (∃ s, setD n l = some s ∧ needsOk n l) ∨ (setD n l = none ∧ ¬ needsOk n l) := by
  cases h : setD n l with
  | some s => exact .inl ⟨s, rfl, (setD_some h).1⟩
  | none => exact .inr ⟨rfl, setD_none h⟩
end Go.Proofs.YtpibdjkajgfgjaaDoor.Core
end
section
set_option linter.unusedVariables false
set_option linter.unusedSimpArgs false
namespace Go.Proofs.YtpibdjkajgfgjaaDoor.Core
open Go Go.RowKit Go.Proofs.YtpibdjkajgfgjaaDoorW.PrintWords Go.Proofs.YtpibdjkajgfgjaaDoorW.PrintMore Go.Proofs.YtpibdjkajgfgjaaDoor.P
/-- What is known of a valid graph. -/
structure VG (g : List Tk) (G : GD) : Prop where
  tasks : G.tasks = g
  n8 : g.length ≤ 8
  nl : G.needs.length = g.length
  nb : below1 g.length G.needs
  needsD : needsD g = some G.needs
  bits : ∀ i, i < g.length → ∀ j : Nat, (G.needs.getD i 0).testBit j = decide ((j : Int) ∈ (g.getD i z48).f1)
  fine : fineD g
  ord : OrdOk G.needs G.order (2 ^ g.length - 1)
theorem vg_of {g : List Tk} {G : GD} (h : graphD g = some G) : VG g G := by
  obtain ⟨N, hN, hf, rfl⟩ := graphD_spec h
  obtain ⟨h8, hl, hb⟩ := needsD_spec hN
  have ok := orderD_ok (N := N) (by omega) (by rw [hl]; exact hb)
  rw [hf] at ok
  exact ⟨rfl, h8, hl, hb, hN, (needsD_fine hN).2, (needsD_fine hN).1, ok⟩
theorem VG.needs_len {g : List Tk} {G : GD} (v : VG g G) : G.needs.length ≤ 8 := by have := v.nl; have := v.n8; omega
theorem VG.mem_ready {g : List Tk} {G : GD} (v : VG g G) {p i : Nat} : i ∈ elemsN (G.ready p) ↔ i < g.length ∧ p.testBit i = false ∧ sub (G.needs.getD i 0) p = 0 := by
  rw [Core.mem_ready v.needs_len, v.nl]
end Go.Proofs.YtpibdjkajgfgjaaDoor.Core
end
section
set_option linter.unusedVariables false
set_option linter.unusedSimpArgs false
namespace Go.Proofs.YtpibdjkajgfgjaaDoor.Core
open Go Go.RowKit Go.Proofs.YtpibdjkajgfgjaaDoorW.PrintWords Go.Proofs.YtpibdjkajgfgjaaDoorW.PrintMore Go.Proofs.YtpibdjkajgfgjaaDoor.P
theorem VG.sub_iff' {g : List Tk} {G : GD} (v : VG g G) {p i : Nat} (hp : p < 2 ^ g.length) : sub (G.needs.getD i 0) p = 0 ↔ ∀ j, (G.needs.getD i 0).testBit j = true → p.testBit j = true := by
  have h256 : 2 ^ g.length ≤ 256 := pow8 v.n8
  have := getD_lt v.nb i
  exact sub_zero (by omega) (by omega)
end Go.Proofs.YtpibdjkajgfgjaaDoor.Core
end
section
set_option linter.unusedVariables false
set_option linter.unusedSimpArgs false
namespace Go.Proofs.YtpibdjkajgfgjaaDoor.Core
open Go Go.RowKit Go.Shelf Go.Proofs.YtpibdjkajgfgjaaDoorW.PrintWords Go.Proofs.YtpibdjkajgfgjaaDoorW.PrintMore Go.Proofs.YtpibdjkajgfgjaaDoor.P
attribute [local go_sem] Oper.semAt_some wide_fn wide_depth
theorem drawn_below {w w' : World} (h : Drawn0 w w') : Below w.heap.size w w' := by
  obtain ⟨n, rfl⟩ := h
  exact pw_below_drewN (Below.refl _ _) n
theorem graphOf_none (A0 : Option Addr) (c0 : Nat) (l0 : List Tk) (w : World) (hT : Tab w) (hr0 : k48.C w A0 l0.length l0) (hc0 : l0.length ≤ c0) (hg : graphD l0 = none) :
    Calls Tryd.prog 60 #[.slice A0 l0.length c0] w fun e w' => e = .returned (.tuple #[.pointer none, .bool false]) ∧ Below w.heap.size w w' :=
  (graphOf_calls A0 c0 l0 w hT hr0 hc0).mono fun e w' h => by unfold graphPost at h; rw [hg] at h; exact h
theorem graphOf_keep (A0 : Option Addr) (c0 : Nat) (l0 : List Tk) (G : GD) (w : World) (hT : Tab w) (hr0 : k48.C w A0 l0.length l0) (hc0 : l0.length ≤ c0) (hg : graphD l0 = some G) :
    Calls Tryd.prog 60 #[.slice A0 l0.length c0] w fun e w' => ∃ (b : Nat), e = .returned (.tuple #[.pointer (some ⟨b, 0, none⟩), .bool true]) ∧ Below w.heap.size w w' ∧ w.heap.size ≤ b ∧ IsG w' b G ∧ (∀ W2 : World, k48.C W2 A0 l0.length l0 → (∀ k, w.heap.size ≤ k → k < w'.heap.size → W2.heap[k]? = w'.heap[k]?) → IsG W2 b G) :=
  (graphOf_calls A0 c0 l0 w hT hr0 hc0).mono fun e w' h => by
    unfold graphPost at h
    rw [hg] at h
    obtain ⟨b, v, h1, h2, h3, h4, _, _, h5⟩ := h
    exact ⟨b, h1, h2, h3, h4, h5⟩
theorem setOf_none {n : Nat} (hn : n ≤ 8) (A : Option Addr) (c : Nat) (L : List Int) (w : World) (hC : (Kd.int .i64).C w A L.length L) (hc : L.length ≤ c) (h : setD n L = none) :
    Calls Tryd.prog 61 #[.slice A L.length c, .int .i64 (n : Int)] w fun e w' => e = .returned (.tuple #[.int .u16 0, .bool false]) ∧ Below w.heap.size w w' := by
  obtain ⟨k, hk⟩ := (ev_setOf hn L).one
  rw [h] at hk
  exact (impl_setOf.calls k A c L (n : Int) 0 false w hC hc hk).mono fun e w' h => ⟨h.1, drawn_below h.2⟩
theorem setOf_some {n : Nat} (hn : n ≤ 8) (A : Option Addr) (c : Nat) (L : List Int) (s : Nat) (w : World) (hC : (Kd.int .i64).C w A L.length L) (hc : L.length ≤ c) (h : setD n L = some s) :
    Calls Tryd.prog 61 #[.slice A L.length c, .int .i64 (n : Int)] w fun e w' => e = .returned (.tuple #[.int .u16 (s : Int), .bool true]) ∧ Below w.heap.size w w' := by
  obtain ⟨k, hk⟩ := (ev_setOf hn L).one
  rw [h] at hk
  exact (impl_setOf.calls k A c L (n : Int) (s : Int) true w hC hc hk).mono fun e w' h => ⟨h.1, drawn_below h.2⟩
theorem grown_of_below {a b : World} (row : Option Nat) (h : Below a.heap.size a b) : a.grownBy b row := ⟨h.os, h.tape, h.output, h.size, fun k hk _ => h.block k hk⟩
theorem leaveM' {P : Program} {fn : Func} {tmps : Array Value} {R : Ending → World → Prop} {lo hi : Nat} :
    ∀ (ds : List Deferred) (W : World), Marks lo hi W ds → (∀ W', Tame lo W W' → ∃ v, (results fn tmps).run P W' = .ok v W' ∧ R (.returned v) W') → LeavesInM Fence.wide 0 P fn tmps R ds .returning W
  | [], W, _, hR => by
    obtain ⟨v, h1, h2⟩ := hR W (Tame.refl _ _)
    exact ⟨v, h1, h2⟩
  | d :: ds, W, hm, hR => by
    obtain ⟨D, rfl, h1, h2, h3⟩ := hm.2 d (List.mem_cons_self)
    have hlt := (Array.getElem?_eq_some_iff.1 h3).1
    have hnd := List.nodup_cons.1 hm.1
    refine ⟨by simp, .inl ⟨D, _, rfl, run_takeDeferred h3, ?_⟩⟩
    have ht : Tame lo W (W.putObj D (.deferred none)) := Tame.of_own (grownBy_putObj' W D _) (fun r e => by cases e; exact ⟨h1, _, h3, rfl⟩)
    refine leaveM' (hi := hi) ds _ ⟨hnd.2, fun d' hd' => ?_⟩ (fun W' h' => hR W' (ht.trans h'))
    obtain ⟨D', rfl, h1', h2', h3'⟩ := hm.2 d' (List.mem_cons_of_mem _ hd')
    refine ⟨D', rfl, h1', h2', (World.putObj_heap_other ?_).trans h3'⟩
    rintro rfl
    exact hnd.1 hd'
theorem leave_ret' {P : Program} {fn : Func} {a : Act} {W : World} {R : Ending → World → Prop} {lo hi : Nat} (hm : Marks lo hi W a.defers)
    (hR : ∀ W', Tame lo W W' → ∃ v, (results fn a.tmps).run P W' = .ok v W' ∧ R (.returned v) W') : bodyPostM Fence.wide 0 P fn R .ret a W := leaveM' _ _ hm hR
end Go.Proofs.YtpibdjkajgfgjaaDoor.Core
end
section
set_option linter.unusedVariables false
set_option linter.unusedSimpArgs false
namespace Go.Proofs.YtpibdjkajgfgjaaDoor.Core
open Go Go.RowKit Go.Shelf Go.Proofs.YtpibdjkajgfgjaaDoorW.PrintWords Go.Proofs.YtpibdjkajgfgjaaDoorW.PrintLast Go.Proofs.YtpibdjkajgfgjaaDoorW.PrintMore Go.Proofs.YtpibdjkajgfgjaaDoor.P
attribute [local go_sem] Oper.semAt_some wide_fn wide_depth
/-- All needs of the set's tasks are in it. -/
def closedD (N : List Nat) (s : Nat) : Bool := (elemsN s).all fun i => decide (sub (N.getD i 0) s = 0)
/-- A valid graph and the set of its done tasks. -/
def doneD (g : List Tk) (done : List Int) : Option (GD × Nat) := match graphD g with
  | none => none
  | some G => match setD g.length done with
    | none => none
    | some s => if closedD G.needs s then some (G, s) else none
/-- The results are stored. -/
theorem put3 {r : Nat} {v0 v1 v2 : Value} {W : World} (h0 : Boxed W r 63 v0) (h1 : Boxed W (r + 1) 67 v1) (h2 : Boxed W (r + 1 + 1) 4 v2) (u0 u1 u2 : Value) :
    ∃ W3, W3 = ((W.setCell ⟨r, 0, none⟩ u0).setCell ⟨r + 1, 0, none⟩ u1).setCell ⟨r + 1 + 1, 0, none⟩ u2 ∧ Boxed W3 r 63 u0 ∧ Boxed W3 (r + 1) 67 u1 ∧ Boxed W3 (r + 1 + 1) 4 u2 ∧ (∀ k, k ≠ r → k ≠ r + 1 → k ≠ r + 1 + 1 → W3.heap[k]? = W.heap[k]?) ∧ (∀ w : World, ∀ b, b ≤ r → Below b w W → Below b w W3) ∧ KeepsOthers W W3 := by
  have a0 := h0.set u0
  have a1 : Boxed (W.setCell ⟨r, 0, none⟩ u0) (r + 1) 67 v1 := (sother _ (by omega)).trans h1
  have a2 : Boxed ((W.setCell ⟨r, 0, none⟩ u0).setCell ⟨r + 1, 0, none⟩ u1) (r + 1 + 1) 4 v2 := (sother _ (by omega)).trans ((sother _ (by omega)).trans h2)
  refine ⟨_, rfl, (sother _ (by omega)).trans ((sother _ (by omega)).trans a0), (sother _ (by omega)).trans (a1.set u1), a2.set u2, fun k e0 e1 e2 => (sother _ e2).trans ((sother _ e1).trans (sother _ e0)), fun w b hb h => ?_, ((KeepsOthers.setCell _ _ _).trans (KeepsOthers.setCell _ _ _)).trans (KeepsOthers.setCell _ _ _)⟩
  exact ((h.setCell (p := ⟨r, 0, none⟩) hb _).setCell (p := ⟨r + 1, 0, none⟩) (by show b ≤ r + 1; omega) _).setCell (p := ⟨r + 1 + 1, 0, none⟩) (by show b ≤ r + 1 + 1; omega) _
/-- The three results read out of their boxes. -/
theorem results_three {r : Nat} {v0 v1 v2 : Value} {W : World} (h0 : Boxed W r 63 v0) (h1 : Boxed W (r + 1) 67 v1) (h2 : Boxed W (r + 1 + 1) 4 v2) (tmps : Array Value)
    (e4 : tmps.getD 4 undef = .pointer (some ⟨r, 0, none⟩)) (e5 : tmps.getD 5 undef = .pointer (some ⟨r + 1, 0, none⟩)) (e6 : tmps.getD 6 undef = .pointer (some ⟨r + 1 + 1, 0, none⟩)) :
    (results Tryd.f70 tmps).run Tryd.prog W = .ok (.tuple #[v0, v1, v2]) W := by
  have c0 := h0.cell
  have c1 := h1.cell
  have c2 := h2.cell
  have hr : Tryd.f70.results = #[.cell 4 63, .cell 5 67, .cell 6 4] := rfl
  have e4' : tmps[4]?.getD undef = .pointer (some ⟨r, 0, none⟩) := by simpa using e4
  have e5' : tmps[5]?.getD undef = .pointer (some ⟨r + 1, 0, none⟩) := by simpa using e5
  have e6' : tmps[6]?.getD undef = .pointer (some ⟨r + 1 + 1, 0, none⟩) := by simpa using e6
  simp only [results, hr]
  go_simp
/-- The world behind the three results' boxes. -/
structure DW (w w0 : World) : Prop where
  eq : w0 = ((w.alloc (.cells #[.pointer none] 63)).alloc (.cells #[.int .u16 0] 67)).alloc (.cells #[.bool false] 4)
  r0 : Boxed w0 w.heap.size 63 (.pointer none)
  r1 : Boxed w0 (w.heap.size + 1) 67 (.int .u16 0)
  r2 : Boxed w0 (w.heap.size + 1 + 1) 4 (.bool false)
  below : Below w.heap.size w w0
  size : w0.heap.size = w.heap.size + 1 + 1 + 1
theorem DW.mk' (w : World) : ∃ w0, DW w w0 := by
  have e1 : (w.alloc (.cells #[.pointer none] 63)).heap.size = w.heap.size + 1 := by simp
  have e2 : ((w.alloc (.cells #[.pointer none] 63)).alloc (.cells #[.int .u16 0] 67)).heap.size = w.heap.size + 1 + 1 := by simp
  have h1 := Boxed.new (w.alloc (.cells #[.pointer none] 63)) 67 (.int .u16 0)
  have h2 := Boxed.new ((w.alloc (.cells #[.pointer none] 63)).alloc (.cells #[.int .u16 0] 67)) 4 (.bool false)
  rw [e1] at h1
  rw [e2] at h2
  exact ⟨_, rfl, ((Boxed.new w _ _).alloc _).alloc _, h1.alloc _, h2, (((Below.refl w.heap.size w).alloc (Nat.le_refl _) _).alloc (by simp) _).alloc (by simp; omega) _, by simp⟩
/-- Behind a call that leaves the elder blocks alone, and a further box. -/
theorem DW.on {w w0 w1 : World} (h : DW w w0) (hB : Below w0.heap.size w0 w1) : Boxed w1 w.heap.size 63 (.pointer none) ∧ Boxed w1 (w.heap.size + 1) 67 (.int .u16 0) ∧ Boxed w1 (w.heap.size + 1 + 1) 4 (.bool false) ∧ Below w.heap.size w w1 :=
  ⟨(hB.block _ h.r0.lt).trans h.r0, (hB.block _ h.r1.lt).trans h.r1, (hB.block _ h.r2.lt).trans h.r2, below_step h.below hB⟩
set_option maxRecDepth 100000 in
set_option maxHeartbeats 8000000 in
theorem doneIn_no1 (A0 : Option Addr) (c0 : Nat) (l0 : List Tk) (A1 : Option Addr) (c1 : Nat) (l1 : List Int) (w : World) (hT : Tab w) (hr0 : k48.C w A0 l0.length l0) (hc0 : l0.length ≤ c0) (hg : graphD l0 = none) :
    Calls Tryd.prog 70 #[.slice A0 l0.length c0, .slice A1 l1.length c1] w fun e w' => e = .returned (.tuple #[.pointer none, .int .u16 0, .bool false]) ∧ Below w.heap.size w w' := by
  have HG := Aside0.mk (fun W (hB : Below w.heap.size w W) => graphOf_none A0 c0 l0 W (hT.of hB) (Kd.C_below hr0 hB) hc0 hg)
  obtain ⟨w0, D⟩ := DW.mk' w
  have D := Aside0.mk D
  clear hr0 hT hg
  refine calls_marks Tryd.func70 rfl ?_
  simp only [Tryd.ntmps70, List.size_toArray, List.length_cons, List.length_nil, Nat.reduceAdd, Nat.reduceSub, Array.replicate_succ, Array.replicate_zero, List.push_toArray, List.append_toArray, List.nil_append, List.cons_append]
  go_wp2_with (go_at_call 60; rw [← D.out.eq]; refine (HG.out _ D.out.below).mono ?_; rintro e w1 ⟨rfl, hB⟩; have hB1 := hB.alloc hB.size (.cells #[.pointer none] 63); obtain ⟨q0, q1, q2, qB⟩ := D.out.on hB1; have c0 := q0.cell; have c1 := q1.cell; have c2 := q2.cell; have f0 := q0.frozen; have f1 := q1.frozen; have f2 := q2.frozen)
  obtain ⟨w3, e3, p0, p1, p2, _, pB, _⟩ := put3 q0 q1 q2 (.pointer none) (.int .u16 0) (.bool false)
  rw [← e3]
  have qB2 := pB _ _ (Nat.le_refl _) qB
  refine leave_ret' (Marks.nil w.heap.size w.heap.size _) ?_
  intro W' ht
  exact ⟨_, results_three (ht.boxed p0) (ht.boxed p1) (ht.boxed p2) _ rfl rfl rfl, rfl, ht.below qB2 (Nat.le_refl _) (Nat.le_refl _)⟩
set_option maxRecDepth 100000 in
set_option maxHeartbeats 8000000 in
theorem doneIn_no2 (A0 : Option Addr) (c0 : Nat) (l0 : List Tk) (A1 : Option Addr) (c1 : Nat) (l1 : List Int) (G : GD) (w : World) (hT : Tab w) (hr0 : k48.C w A0 l0.length l0) (hc0 : l0.length ≤ c0) (hr1 : (Kd.int .i64).C w A1 l1.length l1) (hc1 : l1.length ≤ c1) (hg : graphD l0 = some G) (hs : setD l0.length l1 = none) :
    Calls Tryd.prog 70 #[.slice A0 l0.length c0, .slice A1 l1.length c1] w fun e w' => e = .returned (.tuple #[.pointer none, .int .u16 0, .bool false]) ∧ Below w.heap.size w w' := by
  have HG := Aside0.mk (fun W (hB : Below w.heap.size w W) => graphOf_keep A0 c0 l0 G W (hT.of hB) (Kd.C_below hr0 hB) hc0 hg)
  have hgt := graphD_tasks hg
  have h8 := (graphD_ok hg).n8
  rw [hgt] at h8
  have HS := Aside0.mk (fun W (hB : Below w.heap.size w W) => setOf_none h8 A1 c1 l1 W (Kd.C_below hr1 hB) hc1 hs)
  rw [← hgt] at HS
  obtain ⟨w0, D⟩ := DW.mk' w
  have D := Aside0.mk D
  clear hr0 hT hg hr1 hs hgt h8
  refine calls_marks Tryd.func70 rfl ?_
  simp only [Tryd.ntmps70, List.size_toArray, List.length_cons, List.length_nil, Nat.reduceAdd, Nat.reduceSub, Array.replicate_succ, Array.replicate_zero, List.push_toArray, List.append_toArray, List.nil_append, List.cons_append]
  go_wp2_with (first | (go_at_call 60; rw [← D.out.eq]; refine (HG.out _ D.out.below).mono ?_; rintro e w1 ⟨b, rfl, hB, hb, hg, hK⟩; have hB1 := hB.alloc hB.size (.cells #[.pointer (some ⟨b, 0, none⟩)] 63); have hB1' := below_step D.out.below hB1; have cx := (Boxed.new w1 63 (.pointer (some ⟨b, 0, none⟩))).cell; have hgx := hg.move ((Below.refl w1.heap.size w1).alloc (Nat.le_refl _) (.cells #[.pointer (some ⟨b, 0, none⟩)] 63)); clear hg hK) | (go_at_call 62; refine (size_calls b G _ hgx).mono ?_; rintro e w' ⟨rfl, rfl⟩) | (go_at_call 61; refine (HS.out _ hB1').mono ?_; rintro e w3 ⟨rfl, hB3⟩; have hB4 := below_step hB1 (hB3.alloc hB3.size (.cells #[.int .u16 0] 67)); obtain ⟨q0, q1, q2, qB⟩ := D.out.on hB4; have c0 := q0.cell; have c1 := q1.cell; have c2 := q2.cell; have f0 := q0.frozen; have f1 := q1.frozen; have f2 := q2.frozen))
  obtain ⟨w4, e4, p0, p1, p2, _, pB, _⟩ := put3 q0 q1 q2 (.pointer none) (.int .u16 0) (.bool false)
  rw [← e4]
  have qB2 := pB _ _ (Nat.le_refl _) qB
  refine leave_ret' (Marks.nil w.heap.size w.heap.size _) ?_
  intro W' ht
  exact ⟨_, results_three (ht.boxed p0) (ht.boxed p1) (ht.boxed p2) _ rfl rfl rfl, rfl, ht.below qB2 (Nat.le_refl _) (Nat.le_refl _)⟩
/-- The three results' boxes, and those of the graph and the set; what graphOf made stays. -/
structure DI (w w1 : World) (bx bs b s : Nat) (W : World) : Prop where
  r0 : Boxed W w.heap.size 63 (.pointer none)
  r1 : Boxed W (w.heap.size + 1) 67 (.int .u16 0)
  r2 : Boxed W (w.heap.size + 1 + 1) 4 (.bool false)
  x : Boxed W bx 63 (.pointer (some ⟨b, 0, none⟩))
  s : Boxed W bs 67 (.int .u16 (s : Int))
  below : Below w.heap.size w W
  keep : ∀ k, w.heap.size + 1 + 1 + 1 ≤ k → k < w1.heap.size → W.heap[k]? = w1.heap[k]?
  size : w1.heap.size ≤ W.heap.size
theorem cells_alloc_ne {W : World} {x : Obj} (k : Nat) (h : k < W.heap.size) : (W.alloc x).heap[k]? = W.heap[k]? := (World.grownBy_alloc W x none).block k h (by simp)
theorem DI.move {w w1 : World} {bx bs b s : Nat} {W W' : World} (h : DI w w1 bx bs b s W) (hb : Below W.heap.size W W') : DI w w1 bx bs b s W' :=
  ⟨(hb.block _ h.r0.lt).trans h.r0, (hb.block _ h.r1.lt).trans h.r1, (hb.block _ h.r2.lt).trans h.r2, (hb.block _ h.x.lt).trans h.x, (hb.block _ h.s.lt).trans h.s, below_step h.below hb,
    fun k h1 h2 => (hb.block k (Nat.lt_of_lt_of_le h2 h.size)).trans (h.keep k h1 h2), Nat.le_trans h.size hb.size⟩
theorem DI.tame {w w1 : World} {bx bs b s B : Nat} {W W' : World} (h : DI w w1 bx bs b s W) (hw : w.heap.size ≤ B) (hB : w1.heap.size ≤ B) (ht : Tame B W W') : DI w w1 bx bs b s W' :=
  ⟨ht.boxed h.r0, ht.boxed h.r1, ht.boxed h.r2, ht.boxed h.x, ht.boxed h.s, ht.below h.below (Nat.le_refl _) hw,
    fun k h1 h2 => (ht.block k (Nat.lt_of_lt_of_le h2 h.size) (.inl (Nat.lt_of_lt_of_le h2 hB))).trans (h.keep k h1 h2), Nat.le_trans h.size ht.size⟩
theorem DI.again {w w1 : World} {bx bs b s : Nat} {W : World} (h : DI w w1 bx bs b s W) (hx : w.heap.size + 1 + 1 + 1 ≤ bx) (hs : w.heap.size + 1 + 1 + 1 ≤ bs) :
    DI w w1 bx bs b s (((W.setCell ⟨w.heap.size, 0, none⟩ (.pointer none)).setCell ⟨w.heap.size + 1, 0, none⟩ (.int .u16 0)).setCell ⟨w.heap.size + 1 + 1, 0, none⟩ (.bool false)) ∧ KeepsOthers W (((W.setCell ⟨w.heap.size, 0, none⟩ (.pointer none)).setCell ⟨w.heap.size + 1, 0, none⟩ (.int .u16 0)).setCell ⟨w.heap.size + 1 + 1, 0, none⟩ (.bool false)) := by
  obtain ⟨w3, e3, p0, p1, p2, pN, pB, pK⟩ := put3 h.r0 h.r1 h.r2 (.pointer none) (.int .u16 0) (.bool false)
  rw [← e3]
  exact ⟨⟨p0, p1, p2, (pN _ (by omega) (by omega) (by omega)).trans h.x, (pN _ (by omega) (by omega) (by omega)).trans h.s, pB _ _ (Nat.le_refl _) h.below, fun k h1 h2 => (pN k (by omega) (by omega) (by omega)).trans (h.keep k h1 h2), Nat.le_trans h.size pK.size⟩, pK⟩
/-- What doneIn hands back for a valid graph and a set. -/
def setPost (G : GD) (s : Nat) (w : World) (e : Ending) (w' : World) : Prop := if closedD G.needs s = true then ∃ b : Nat, e = .returned (.tuple #[.pointer (some ⟨b, 0, none⟩), .int .u16 (s : Int), .bool true]) ∧ Below w.heap.size w w' ∧ IsG w' b G else e = .returned (.tuple #[.pointer none, .int .u16 0, .bool false]) ∧ Below w.heap.size w w'
set_option maxRecDepth 100000 in
set_option maxHeartbeats 8000000 in
theorem doneIn_set (A0 : Option Addr) (c0 : Nat) (l0 : List Tk) (A1 : Option Addr) (c1 : Nat) (l1 : List Int) (G : GD) (s : Nat) (w : World) (hT : Tab w) (hr0 : k48.C w A0 l0.length l0) (hc0 : l0.length ≤ c0) (hr1 : (Kd.int .i64).C w A1 l1.length l1) (hc1 : l1.length ≤ c1) (hg : graphD l0 = some G) (hs : setD l0.length l1 = some s) :
    Calls Tryd.prog 70 #[.slice A0 l0.length c0, .slice A1 l1.length c1] w (setPost G s w) := by
  have HG := Aside0.mk (fun W (hB : Below w.heap.size w W) => graphOf_keep A0 c0 l0 G W (hT.of hB) (Kd.C_below hr0 hB) hc0 hg)
  have hgt := graphD_tasks hg
  have OK := Aside0.mk (graphD_ok hg)
  have h8 := OK.out.n8
  rw [hgt] at h8
  have HS := Aside0.mk (fun W (hB : Below w.heap.size w W) => setOf_some h8 A1 c1 l1 s W (Kd.C_below hr1 hB) hc1 hs)
  have hsl := setD_lt hs
  have HC := Aside0.mk (fun W (hB : Below w.heap.size w W) => Kd.C_below hr0 hB)
  rw [← hgt] at HS hsl h8
  have HT := Aside0.mk hT
  obtain ⟨w0, D⟩ := DW.mk' w
  have D := Aside0.mk D
  clear hr0 hT hg hr1 hs hgt
  refine calls_marks Tryd.func70 rfl ?_
  simp only [Tryd.ntmps70, List.size_toArray, List.length_cons, List.length_nil, Nat.reduceAdd, Nat.reduceSub, Array.replicate_succ, Array.replicate_zero, List.push_toArray, List.append_toArray, List.nil_append, List.cons_append]
  go_wp2_with (first | (go_at_call 60; rw [← D.out.eq]; refine (HG.out _ D.out.below).mono ?_; rintro e w1 ⟨b, rfl, hB, hb, hg, hK⟩; have HK := Aside0.mk hK; have hB1 := hB.alloc hB.size (.cells #[.pointer (some ⟨b, 0, none⟩)] 63); have hB1' := below_step D.out.below hB1; have hx1 := Boxed.new w1 63 (.pointer (some ⟨b, 0, none⟩)); have cx := hx1.cell; have hgx := hg.move ((Below.refl w1.heap.size w1).alloc (Nat.le_refl _) (.cells #[.pointer (some ⟨b, 0, none⟩)] 63)); clear hK) | (go_at_call 62; refine (size_calls b G _ hgx).mono ?_; rintro e w' ⟨rfl, rfl⟩) | (go_at_call 61; refine (HS.out _ hB1').mono ?_; rintro e w3 ⟨rfl, hB3⟩; have cs := (Boxed.new w3 67 (.int .u16 (s : Int))).cell) | (go_at_call 79; refine (all_calls s _).mono ?_; rintro e w' ⟨rfl, rfl⟩))
  have o4 : (w3.alloc (.cells #[.int .u16 (s : Int)] 67)).heap.size = w3.heap.size + 1 := by simp
  have s5 := Boxed.new (w3.alloc (.cells #[.int .u16 (s : Int)] 67)) 67 (.int .u16 (s : Int))
  rw [o4] at s5
  have bs := (Boxed.new w3 67 (.int .u16 (s : Int))).alloc (.cells #[.int .u16 (s : Int)] 67)
  have hB5 : Below (w1.alloc (.cells #[.pointer (some ⟨b, 0, none⟩)] 63)).heap.size (w1.alloc (.cells #[.pointer (some ⟨b, 0, none⟩)] 63)) ((w3.alloc (.cells #[.int .u16 (s : Int)] 67)).alloc (.cells #[.int .u16 (s : Int)] 67)) := (hB3.alloc hB3.size _).alloc (by rw [o4]; have := hB3.size; omega) _
  have o5 : ((w3.alloc (.cells #[.int .u16 (s : Int)] 67)).alloc (.cells #[.int .u16 (s : Int)] 67)).heap.size = w3.heap.size + 1 + 1 := by simp
  revert s5 bs hB5 o5
  clear o4
  generalize (w3.alloc (.cells #[.int .u16 (s : Int)] 67)).alloc (.cells #[.int .u16 (s : Int)] 67) = w5
  intro s5 bs hB5 o5
  have oX : (w1.alloc (.cells #[.pointer (some ⟨b, 0, none⟩)] 63)).heap.size = w1.heap.size + 1 := by simp
  have hx5 : Boxed w5 w1.heap.size 63 (.pointer (some ⟨b, 0, none⟩)) := (hB5.block _ hx1.lt).trans hx1
  obtain ⟨q0, q1, q2, qB⟩ := D.out.on (below_step hB1 hB5)
  have hsz0 := D.out.size
  have hsz1 : w0.heap.size ≤ w1.heap.size := hB.size
  have hsz3 : w1.heap.size + 1 ≤ w3.heap.size := by have := hB3.size; omega
  have hD5 : DI w w1 w1.heap.size w3.heap.size b s w5 := ⟨q0, q1, q2, hx5, bs, qB, fun k h1 h2 => (hB5.block k (by omega)).trans (cells_alloc_ne k h2), by omega⟩
  have HD := Aside0.mk hD5
  have HZ := Aside0.mk (show w0.heap.size = w.heap.size + 1 + 1 + 1 ∧ (w0.heap.size ≤ w1.heap.size ∧ w1.heap.size ≤ w3.heap.size) ∧ w1.heap.size ≤ w5.heap.size ∧ w.heap.size ≤ w5.heap.size from ⟨hsz0, ⟨hsz1, by omega⟩, by omega, by omega⟩)
  have HGW := Aside0.mk (fun W (h : DI w w1 w1.heap.size w3.heap.size b s W) => HK.out W (HC.out W h.below) (fun k h1 h2 => h.keep k (by omega) h2))
  have h256 := pow8 h8
  have hs8 : s < 256 := Nat.lt_of_lt_of_le hsl h256
  clear q0 q1 q2 qB hx5 oX o5 bs hx1 cx hgx cs hB1 hB1' hB3 hB5 hD5 hg hsz0 hsz1 hsz3 hb hB
  refine wp_rangeSet Tab.tame (w := w5) (w0 := w5) (p := 29) (d := 10) rfl (enters_of Tryd.func111 (by kernel_rfl) rfl)
    (all_seq (w3.heap.size + 1) s hs8 w5 (HT.out.of HD.out.below) s5.cell) (Below.refl _ _) (by simp)
    (fun ys W' => ∃ zs : List Nat, ys = up zs ∧ (∀ z ∈ zs, sub (G.needs.getD z 0) s = 0) ∧ DI w w1 w1.heap.size w3.heap.size b s W' ∧ w5.heap.size ≤ W'.heap.size) (fun c _ W' => c = .ret ∧ closedD G.needs s = false ∧ DI w w1 w1.heap.size w3.heap.size b s W')
    (ownFrom_tame (fun ys W' W'' ht ⟨zs, a, z, d, e⟩ => ⟨zs, a, z, d.tame HZ.out.2.2.2 HZ.out.2.2.1 ht, Nat.le_trans e ht.size⟩)) (fun _ => ownFrom_tame (fun _ _ _ ht ⟨a, z, d⟩ => ⟨a, z, d.tame HZ.out.2.2.2 HZ.out.2.2.1 ht⟩))
    ⟨[], rfl, by simp, HD.out, Nat.le_refl _⟩ (fun ys W' ⟨_, _, _, d, _⟩ => HT.out.of d.below) ?body ?done ?stop
  case body =>
    rintro l pre1 x W1 hx ⟨zs, rfl, hz, hD, hsz⟩ hlt1
    gi_wp2
    obtain ⟨k0, hxk, hk8, hbit⟩ := mem_elems.1 hx
    have hkn : k0 < G.tasks.length := by have := elems_lt hsl hx; omega
    refine wpIn_still_tail 9 rfl (by kernel_rfl) (by kernel_rfl) (fun ⟨_, _, h⟩ => h) ?_
    change wpStill _ _ W1.drew (fun a' => wpList _ _ _ _ a' W1.drew) _ _
    have hdr : Below W1.heap.size W1 W1.drew := below_drew (Below.refl _ _)
    have hko := KeepsOthers.drew W1
    revert hdr hko
    generalize W1.drew = Wd
    intro hdr hko
    have hDd := hD.move hdr
    obtain ⟨An, cn, hcn, _, hCn⟩ := (HGW.out Wd hDd).needs
    have hnl := OK.out.nl
    have p1 : 0 ≤ x := by omega
    have q1 : x < (G.needs.length : Int) := by omega
    obtain ⟨adn, e1, hxn⟩ := Kd.at_int hCn x p1 q1
    subst e1
    rw [rd_up (i := k0) hxk] at hxn
    have hNi : G.needs.getD k0 0 < 2 ^ G.tasks.length := getD_lt OK.out.nb k0
    have hcl : sub (G.needs.getD k0 0) s ≠ 0 → closedD G.needs s = false := fun h => by
      rw [Bool.eq_false_iff]
      intro h2
      exact h (of_decide_eq_true (List.all_eq_true.1 h2 k0 (mem_elemsN.2 ⟨hk8, hbit⟩)))
    have hin : sub (G.needs.getD k0 0) s = 0 → ∀ z ∈ zs ++ [k0], sub (G.needs.getD z 0) s = 0 := fun h z hz' => by
      rcases List.mem_append.1 hz' with h' | h'
      · exact hz z h'
      · rw [List.mem_singleton.1 h']; exact h
    generalize G.needs.getD k0 0 = sn at hxn hNi hcl hin
    have hand := andNot_eq (Nat.lt_of_lt_of_le hNi h256) hs8
    generalize sub sn s = r2 at hand hcl hin
    replace p1 := eq_true p1
    replace q1 := eq_true q1
    have hcx := hDd.x.cell
    have hcs := hDd.s.cell
    have HX := Aside0.mk hxk
    have HCL := Aside0.mk hcl
    have HIN := Aside0.mk hin
    have HDd := Aside0.mk hDd
    clear hxk hx hnl hCn hlt1 hcl hin hDd hD
    simp only [List.take_succ_cons, List.take_zero, List.drop_succ_cons, List.drop_zero]
    repeat still_step
    refine wpStill_nil ?_
    by_cases hr : r2 = 0
    · subst hr
      go_wp2
      gi_wp2
      exact ⟨hko.from _, zs ++ [k0], by rw [HX.out]; simp [up], HIN.out trivial, HDd.out, Nat.le_trans hsz hdr.size⟩
    · have hz4 : (((r2 : Nat) : Int) != 0) = true := bne_iff_ne.2 (by omega)
      have d0 := HDd.out.r0.cell
      have d1 := HDd.out.r1.cell
      have d2 := HDd.out.r2.cell
      have f0 := HDd.out.r0.frozen
      have f1 := HDd.out.r1.frozen
      have f2 := HDd.out.r2.frozen
      have HR := Aside0.mk hr
      clear hr
      go_wp2
      gi_wp2
      obtain ⟨hD3, hk3⟩ := HDd.out.again (by have := HZ.out; omega) (by have := HZ.out; omega)
      exact ⟨(hko.trans hk3).from _, rfl, HCL.out HR.out, hD3⟩
  case done =>
    rintro D2 W2 hD2 ⟨zs, hzs, hz, hD, hsz⟩ hk
    obtain rfl : elemsN s = zs := up_inj hzs
    have hm := (Marks.nil w5.heap.size w5.heap.size W2).cons hD2 (Nat.le_refl _) hk
    have hcl : closedD G.needs s = true := List.all_eq_true.2 fun z h => decide_eq_true (hz z h)
    clear hzs hk hz
    go_wp2
    have HDd := Aside0.mk (hD.move (below_drew (Below.refl W2.heap.size W2)))
    have hm3 := hm.below (below_drew (Below.refl W2.heap.size W2))
    refine wp_normal ?_
    refine start_ (n := 5) (S := fun w' => w'.cell? ⟨w1.heap.size, 0, none⟩ = some (.pointer (some ⟨b, 0, none⟩)) ∧ w'.cell? ⟨w3.heap.size, 0, none⟩ = some (.int .u16 (s : Int))) (ds := []) #[false, false, false, false, false] rfl (by kernel_rfl) rfl ⟨HDd.out.x.cell, HDd.out.s.cell⟩ (fun hHeld => ?_)
    revert hHeld HDd hm3
    generalize W2.drew = W3
    intro HDd hm3 hHeld
    have d0 := HDd.out.r0.cell
    have d1 := HDd.out.r1.cell
    have d2 := HDd.out.r2.cell
    have f0 := HDd.out.r0.frozen
    have f1 := HDd.out.r1.frozen
    have f2 := HDd.out.r2.frozen
    have HCL := Aside0.mk hcl
    clear hcl hm hD
    refine take_ (i := 0) (N := some 40) (v := ?_) (a' := ?_) #[true, false, false, false, false] rfl rfl (by kernel_rfl) (fun _ _ _ h => h) (Or.inl ⟨by rfl, ?_⟩) hHeld ?_ ?_
    rotate_left
    · rintro w' ⟨s0, s1⟩
      go_simp
      with_reducible rfl
    rotate_left
    · simp only [Act.put, List.setIfInBounds_toArray, List.set_cons_zero, List.set_cons_succ, i64_w, i32_w]
      rfl
    refine take_ (i := 1) (N := some 41) (v := ?_) (a' := ?_) #[true, true, false, false, false] rfl rfl (by kernel_rfl) (fun _ _ _ h => h) (Or.inl ⟨by rfl, ?_⟩) hHeld ?_ ?_
    rotate_left
    · rintro w' ⟨s0, s1⟩
      go_simp
      with_reducible rfl
    rotate_left
    · simp only [Act.put, List.setIfInBounds_toArray, List.set_cons_zero, List.set_cons_succ, i64_w, i32_w]
      rfl
    refine one_ (i := 2) (N := none) #[true, true, true, false, false] rfl rfl (by kernel_rfl) (by decide) (fun K hK => ?_)
    refine skip_ (w1 := ?_) (by rfl) rfl ?_ ?_
    rotate_left
    · go_simp
      rfl
    refine hK.out _ _ ?hs2 (fun hHeld => ?_)
    case hs2 =>
      have hz := HZ.out
      exact ⟨(World.cell?_of_block (a := ⟨w1.heap.size, 0, none⟩) (sother _ (show w1.heap.size ≠ w.heap.size by omega))).trans hHeld.1, (World.cell?_of_block (a := ⟨w3.heap.size, 0, none⟩) (sother _ (show w3.heap.size ≠ w.heap.size by omega))).trans hHeld.2⟩
    clear hK K
    refine one_ (i := 3) (N := none) #[true, true, true, true, false] rfl rfl (by kernel_rfl) (by decide) (fun K hK => ?_)
    refine skip_ (w1 := ?_) (by rfl) rfl ?_ ?_
    rotate_left
    · go_simp
      rfl
    refine hK.out _ _ ?hs3 (fun hHeld => ?_)
    case hs3 =>
      have hz := HZ.out
      exact ⟨(World.cell?_of_block (a := ⟨w1.heap.size, 0, none⟩) (sother _ (show w1.heap.size ≠ w.heap.size + 1 by omega))).trans hHeld.1, (World.cell?_of_block (a := ⟨w3.heap.size, 0, none⟩) (sother _ (show w3.heap.size ≠ w.heap.size + 1 by omega))).trans hHeld.2⟩
    clear hK K
    refine one_ (i := 4) (N := none) #[true, true, true, true, true] rfl rfl (by kernel_rfl) (by decide) (fun K hK => ?_)
    refine skip_ (w1 := ?_) (by rfl) rfl ?_ ?_
    rotate_left
    · go_simp
      rfl
    refine hK.out _ _ ?hs4 (fun hHeld => ?_)
    case hs4 =>
      have hz := HZ.out
      exact ⟨(World.cell?_of_block (a := ⟨w1.heap.size, 0, none⟩) (sother _ (show w1.heap.size ≠ w.heap.size + 1 + 1 by omega))).trans hHeld.1, (World.cell?_of_block (a := ⟨w3.heap.size, 0, none⟩) (sother _ (show w3.heap.size ≠ w.heap.size + 1 + 1 by omega))).trans hHeld.2⟩
    clear hK K
    refine done_ (by kernel_rfl) ?_
    go_wp2
    obtain ⟨w6, e6, p0, p1, p2, pN, pB, pK⟩ := put3 HDd.out.r0 HDd.out.r1 HDd.out.r2 (.pointer (some ⟨b, 0, none⟩)) (.int .u16 (s : Int)) (.bool true)
    rw [← e6]
    have qB2 := pB _ _ (Nat.le_refl _) HDd.out.below
    refine leave_ret' (hm3.keeps pK) ?_
    intro W' ht
    have hBf := ht.below qB2 (Nat.le_refl _) HZ.out.2.2.2
    refine ⟨_, results_three (ht.boxed p0) (ht.boxed p1) (ht.boxed p2) _ rfl rfl rfl, ?_⟩
    unfold setPost
    rw [if_pos HCL.out]
    have hz1 := HZ.out.1
    have hz2 := HZ.out.2.2.1
    exact ⟨b, rfl, hBf, HK.out W' (HC.out W' hBf) (fun k h1 h2 => (ht.block k (by have := HDd.out.size; have := pK.size; omega) (.inl (by omega))).trans ((pN k (by omega) (by omega) (by omega)).trans (HDd.out.keep k (by omega) h2)))⟩
  case stop =>
    rintro D2 c pre W2 hD2 ⟨rfl, hcl, hD⟩ hk
    have hm := (Marks.nil w5.heap.size w5.heap.size W2).cons hD2 (Nat.le_refl _) hk
    clear hk
    go_wp2
    refine leave_ret' hm ?_
    intro W' ht
    have hD3 := hD.tame HZ.out.2.2.2 HZ.out.2.2.1 ht
    refine ⟨_, results_three hD3.r0 hD3.r1 hD3.r2 _ rfl rfl rfl, ?_⟩
    unfold setPost
    rw [if_neg (by rw [hcl]; simp)]
    exact ⟨rfl, hD3.below⟩
theorem doneIn_none (A0 : Option Addr) (c0 : Nat) (l0 : List Tk) (A1 : Option Addr) (c1 : Nat) (l1 : List Int) (w : World) (hT : Tab w) (hr0 : k48.C w A0 l0.length l0) (hc0 : l0.length ≤ c0) (hr1 : (Kd.int .i64).C w A1 l1.length l1) (hc1 : l1.length ≤ c1) (h : doneD l0 l1 = none) :
    Calls Tryd.prog 70 #[.slice A0 l0.length c0, .slice A1 l1.length c1] w fun e w' => e = .returned (.tuple #[.pointer none, .int .u16 0, .bool false]) ∧ Below w.heap.size w w' := by
  unfold doneD at h
  cases hg : graphD l0 with
  | none => exact doneIn_no1 A0 c0 l0 A1 c1 l1 w hT hr0 hc0 hg
  | some G =>
    rw [hg] at h
    simp only [] at h
    cases hs : setD l0.length l1 with
    | none => exact doneIn_no2 A0 c0 l0 A1 c1 l1 G w hT hr0 hc0 hr1 hc1 hg hs
    | some s =>
      rw [hs] at h
      simp only [] at h
      refine (doneIn_set A0 c0 l0 A1 c1 l1 G s w hT hr0 hc0 hr1 hc1 hg hs).mono fun e w' h2 => ?_
      by_cases hcl : closedD G.needs s = true
      · rw [if_pos hcl] at h; cases h
      · unfold setPost at h2; rwa [if_neg hcl] at h2
theorem doneIn_some (A0 : Option Addr) (c0 : Nat) (l0 : List Tk) (A1 : Option Addr) (c1 : Nat) (l1 : List Int) (G : GD) (s : Nat) (w : World) (hT : Tab w) (hr0 : k48.C w A0 l0.length l0) (hc0 : l0.length ≤ c0) (hr1 : (Kd.int .i64).C w A1 l1.length l1) (hc1 : l1.length ≤ c1) (h : doneD l0 l1 = some (G, s)) :
    Calls Tryd.prog 70 #[.slice A0 l0.length c0, .slice A1 l1.length c1] w fun e w' => ∃ b : Nat, e = .returned (.tuple #[.pointer (some ⟨b, 0, none⟩), .int .u16 (s : Int), .bool true]) ∧ Below w.heap.size w w' ∧ IsG w' b G := by
  unfold doneD at h
  cases hg : graphD l0 with
  | none => rw [hg] at h; cases h
  | some G2 =>
    rw [hg] at h
    simp only [] at h
    cases hs : setD l0.length l1 with
    | none => rw [hs] at h; cases h
    | some s2 =>
      rw [hs] at h
      simp only [] at h
      by_cases hcl : closedD G2.needs s2 = true
      · rw [if_pos hcl] at h
        obtain ⟨rfl, rfl⟩ := Prod.mk.inj (Option.some.inj h)
        refine (doneIn_set A0 c0 l0 A1 c1 l1 G2 s2 w hT hr0 hc0 hr1 hc1 hg hs).mono fun e w' h2 => ?_
        unfold setPost at h2
        rwa [if_pos hcl] at h2
      · rw [if_neg hcl] at h; cases h
theorem doneD_spec {g : List Tk} {done : List Int} {G : GD} {s : Nat} (h : doneD g done = some (G, s)) : graphD g = some G ∧ setD g.length done = some s ∧ closedD G.needs s = true := by
  unfold doneD at h
  cases hg : graphD g with
  | none => rw [hg] at h; cases h
  | some G2 =>
    rw [hg] at h
    simp only [] at h
    cases hs : setD g.length done with
    | none => rw [hs] at h; cases h
    | some s2 =>
      rw [hs] at h
      simp only [] at h
      by_cases hcl : closedD G2.needs s2 = true
      · rw [if_pos hcl] at h
        obtain ⟨rfl, rfl⟩ := Prod.mk.inj (Option.some.inj h)
        exact ⟨rfl, rfl, hcl⟩
      · rw [if_neg hcl] at h; cases h
end Go.Proofs.YtpibdjkajgfgjaaDoor.Core
end
