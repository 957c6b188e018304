/- The law FnFinishTaskReady holds of the given program: the proof's own part, with its row and its card, part 2 of 5. -/
import Derived.Test.YtekajandipdlhaaDoorZFnFinishTaskReady1
section
set_option linter.unusedVariables false
set_option linter.unusedSimpArgs false
namespace Go.Proofs.YtekajandipdlhaaDoor.P
open Go Core
end Go.Proofs.YtekajandipdlhaaDoor.P
namespace Go.Proofs.YtekajandipdlhaaDoor.Core
open Go Go.Proofs.YtekajandipdlhaaDoor.P
end Go.Proofs.YtekajandipdlhaaDoor.Core
namespace Go.Proofs.YtekajandipdlhaaDoor.Core
open Go Go.RowKit Go.Shelf Go.Proofs.YtekajandipdlhaaDoorW.PrintWords
attribute [local go_sem] Oper.semAt_some wide_fn wide_depth
set_option maxHeartbeats 1000000 in
theorem has_calls (s k : Nat) (hs : s < 256) (hk : k < 8) (w : World) :
    Calls Tryd.prog 87 #[.int .u16 (s : Int), .int .i64 (k : Int)] w fun e w' => e = .returned (.bool (s.testBit k)) ∧ w = w' := by
  go_enter Tryd.func87, Tryd.ntmps87
  go_wp2
  go_ret
  exact ⟨by rw [has_eq hs]; rfl, rfl⟩
end Go.Proofs.YtekajandipdlhaaDoor.Core
namespace Go.Proofs.YtekajandipdlhaaDoor.Core
open Go Go.RowKit Go.Shelf Go.Proofs.YtekajandipdlhaaDoorW.PrintWords Go.Proofs.YtekajandipdlhaaDoorW.PrintLast Go.Proofs.YtekajandipdlhaaDoorW.PrintMore Go.Proofs.YtekajandipdlhaaDoor.P
attribute [local go_sem] Oper.semAt_some wide_fn wide_depth
end Go.Proofs.YtekajandipdlhaaDoor.Core
end
section
namespace Go.Proofs.YtekajandipdlhaaDoor.P
open Go.RowKit Go.Proofs.YtekajandipdlhaaDoorW.PrintWords Go.Proofs.YtekajandipdlhaaDoorW.PrintLast Go.Proofs.YtekajandipdlhaaDoorW.PrintMore
attribute [local go_sem] max2_int min2_int max_two min_two max_three min_three max_four min_four   -- for this text's walks alone
set_option linter.unusedVariables false
set_option linter.unusedSimpArgs false
theorem IsS101.apartQ {w0 W : World} {g : Nat} {f0 : List Int} {f1 : Int} {α : Type} {d : Kd α} {e : Nat} {base : Nat} {ok : Nat → Prop} {v : Value} {xs : List α} (h : IsS101 w0 W g f0 f1) (ho : d.Q e W base ok v xs) (ht : ∀ q, q ∈ e :: d.E → q ≠ 101) : d.Q e W base (fun k => ok k ∧ k ≠ g) v xs := by
  obtain ⟨A0, c0, hb, hg, hr0⟩ := h
  exact Kd.Q_types ho hb ht
end Go.Proofs.YtekajandipdlhaaDoor.P
end
section
namespace Go.Proofs.YtekajandipdlhaaDoor.P
open Go.RowKit Go.Proofs.YtekajandipdlhaaDoorW.PrintWords Go.Proofs.YtekajandipdlhaaDoorW.PrintLast Go.Proofs.YtekajandipdlhaaDoorW.PrintMore
attribute [local go_sem] max2_int min2_int max_two min_two max_three min_three max_four min_four   -- for this text's walks alone
set_option linter.unusedVariables false
set_option linter.unusedSimpArgs false
def laws_isIn.l0 : Nat → List Int → Int → Int → Option (Bool)
  | 0, _, _, _ => none
  | k + 1, x0, x1, x5 => if x5 < (x0.length : Int) then (if 0 ≤ x5 then (if (rd x0 x5) = x1 then (some true) else (laws_isIn.l0 k x0 x1 (wrap64 (x5 + 1)))) else (none)) else (some false)
def laws_isIn.f (k : Nat) (l0 : List Int) (a1 : Int) : Option (Bool) := laws_isIn.l0 k l0 a1 0
theorem laws_isIn.mono_l : ∀ k, (∀ y0 y1 y2, LeO (laws_isIn.l0 k y0 y1 y2) (laws_isIn.l0 (k + 1) y0 y1 y2))
  | 0 => fun _ _ _ r h => by simp [laws_isIn.l0] at h
  | k + 1 => by
    have ih0 := laws_isIn.mono_l k
    · intro y0 y1 y2
      unfold laws_isIn.l0
      repeat' first
      | (with_reducible exact ih0 _ _ _)
      | (with_reducible exact LeO.refl _)
      | (with_reducible exact LeO.none _)
      | (with_reducible refine LeO.ite ?_ ?_)
      | (with_reducible refine LeO.bind ?_ (fun _ => ?_))
      | exact ih0 _ _ _
      | exact LeO.none _
      | refine LeO.ite ?_ ?_
      | refine LeO.bind ?_ (fun _ => ?_)
theorem laws_isIn.mono : ∀ a0 a1 k, LeO (laws_isIn.f k a0 a1) (laws_isIn.f (k + 1) a0 a1) := by
  intro a0 a1 k
  have ih0 := laws_isIn.mono_l k
  unfold laws_isIn.f
  repeat' first
      | (with_reducible exact ih0 _ _ _)
      | (with_reducible exact LeO.refl _)
      | (with_reducible exact LeO.none _)
      | (with_reducible refine LeO.ite ?_ ?_)
      | (with_reducible refine LeO.bind ?_ (fun _ => ?_))
      | exact ih0 _ _ _
      | exact LeO.none _
      | refine LeO.ite ?_ ?_
      | refine LeO.bind ?_ (fun _ => ?_)
set_option maxHeartbeats 8000000 in
set_option maxRecDepth 100000 in
theorem laws_isIn.calls (k : Nat) (A0 : Option Addr) (c0 : Nat) (l0 : List Int) (a1 : Int) (r : Bool) (w : World) (hr0 : Kd.C (Kd.int .i64) w A0 l0.length l0) (hc0 : l0.length ≤ c0) (h : laws_isIn.f k l0 a1 = some r) :
    Calls Tryd.prog 26 #[.slice A0 l0.length c0, .int .i64 a1] w fun e w' => e = .returned (.bool r) ∧ Drawn0 w w' := by
  have HR0 := Aside0.mk hr0
  have HC0 := Aside0.mk hc0
  clear hr0 hc0
  have H : (laws_isIn.l0 k l0 a1 0) = some r := h
  clear h
  have H' := Aside0.mk H
  clear H
  go_enter Tryd.func26, Tryd.ntmps26
  go_wp2
  go_loopg [5] k (fun kq v5 w' => ∃ (x5_1 : Int), v5 = .int .i64 x5_1 ∧ Aside0 (laws_isIn.l0 kq l0 a1 x5_1 = some r) ∧ Aside0 (kq ≤ k) ∧ Drawn0 w w')
  case atStart => exact ⟨(0), (by first | rfl | (simp; done) | (simp [*]; done)), H', ⟨Nat.le_refl _⟩, by repeat (first | exact Drawn0.refl _ | apply Drawn0.step)⟩
  case round =>
    clear H'
    try clear c2
    try clear p2
    obtain ⟨x5_1, rfl, HA, HK1, ⟨m1, rfl⟩⟩ := hrel
    cases gk with
    | zero => exact absurd HA.out (by simp [laws_isIn.l0])
    | succ k1 =>
      have H := HA.out
      clear HA
      simp only [laws_isIn.l0] at H
      by_cases c3 : x5_1 < (l0.length : Int)
      · rw [if_pos c3] at H
        have c3b0 : decide (x5_1 < (l0.length : Int)) = true := decide_eq_true c3
        clear c3
        by_cases c4 : 0 ≤ x5_1
        · rw [if_pos c4] at H
          have c4b0 : decide (0 ≤ x5_1) = true := decide_eq_true c4
          clear c4
          by_cases c5 : (rd l0 x5_1) = a1
          · rw [if_pos c5] at H
            have c5b0 : ((rd l0 x5_1) == a1) = true := beq_iff_eq.mpr c5
            have c5b1 : ((rd l0 x5_1) != a1) = false := bne_eq_false_iff_eq.mpr c5
            clear c5
            obtain rfl := Option.some.inj H
            have p353 : 0 ≤ (x5_1 : Int) := of_decide_eq_true (by first | (with_reducible assumption) | assumption)
            have q353 : x5_1 < (l0.length : Int) := of_decide_eq_true (by first | (with_reducible assumption) | assumption)
            obtain ⟨ad353, e353, hx353_0⟩ := Kd.at_int HR0.out x5_1 p353 q353
            cases e353
            replace p353 := eq_true p353
            replace q353 := eq_true q353
            go_wp2
            go_ret
            exact ⟨by first | rfl | (simp; done) | (simp [*]; done), by repeat (first | exact Drawn0.refl _ | apply Drawn0.step)⟩
          · rw [if_neg c5] at H
            have c5b0 : ((rd l0 x5_1) == a1) = false := beq_eq_false_iff_ne.mpr c5
            have c5b1 : ((rd l0 x5_1) != a1) = true := bne_iff_ne.mpr c5
            have H' := Aside0.mk H
            clear H
            have p353 : 0 ≤ (x5_1 : Int) := of_decide_eq_true (by first | (with_reducible assumption) | assumption)
            have q353 : x5_1 < (l0.length : Int) := of_decide_eq_true (by first | (with_reducible assumption) | assumption)
            obtain ⟨ad353, e353, hx353_0⟩ := Kd.at_int HR0.out x5_1 p353 q353
            cases e353
            replace p353 := eq_true p353
            replace q353 := eq_true q353
            go_wp2
            go_roundg k1
            case measure => have := HK1.out; omega
            case rel => exact ⟨(wrap64 (x5_1 + 1)), (by first | rfl | (simp; done) | (simp [*]; done)), H', ⟨by have := HK1.out; omega⟩, by repeat (first | exact Drawn0.refl _ | apply Drawn0.step)⟩
        · rw [if_neg c4] at H
          exact absurd H (by simp)
      · rw [if_neg c3] at H
        have c3b0 : decide (x5_1 < (l0.length : Int)) = false := decide_eq_false c3
        clear c3
        obtain rfl := Option.some.inj H
        go_wp2
        go_ret
        exact ⟨by first | rfl | (simp; done) | (simp [*]; done), by repeat (first | exact Drawn0.refl _ | apply Drawn0.step)⟩
end Go.Proofs.YtekajandipdlhaaDoor.P
end
section
namespace Go.Proofs.YtekajandipdlhaaDoor.P
open Go.RowKit Go.Proofs.YtekajandipdlhaaDoorW.PrintWords Go.Proofs.YtekajandipdlhaaDoorW.PrintLast Go.Proofs.YtekajandipdlhaaDoorW.PrintMore
attribute [local go_sem] max2_int min2_int max_two min_two max_three min_three max_four min_four   -- for this text's walks alone
set_option linter.unusedVariables false
set_option linter.unusedSimpArgs false
def spec_someAt.f (k : Nat) (s0_0 : List Int) (s0_1 : Int) (l1 : List (S37)) : Option (Int × Int) := (spec_reader_pick.f k s0_0 s0_1 10).bind fun bt594 => (if bt594.1 = 0 then ((spec_reader_one.f k s0_0 bt594.2 (([(-1), (l1.length : Int), 0] : List Int))).bind fun bt599 => (some (bt599.1, bt599.2))) else ((spec_reader_pick.f k s0_0 bt594.2 (mx 1 (l1.length : Int))).bind fun bt601 => (some (bt601.1, bt601.2))))
theorem spec_someAt.mono : ∀ a0 a1 a2 k, LeO (spec_someAt.f k a0 a1 a2) (spec_someAt.f (k + 1) a0 a1 a2) := by
  intro a0 a1 a2 k
  unfold spec_someAt.f
  repeat' first
      | (with_reducible exact spec_reader_one.mono _ _ _ _)
      | (with_reducible exact spec_reader_pick.mono _ _ _ _)
      | (with_reducible exact LeO.refl _)
      | (with_reducible exact LeO.none _)
      | (with_reducible refine LeO.ite ?_ ?_)
      | (with_reducible refine LeO.bind ?_ (fun _ => ?_))
      | exact spec_reader_one.mono _ _ _ _
      | exact spec_reader_pick.mono _ _ _ _
      | exact LeO.none _
      | refine LeO.ite ?_ ?_
      | refine LeO.bind ?_ (fun _ => ?_)
set_option maxHeartbeats 8000000 in
set_option maxRecDepth 100000 in
theorem spec_someAt.calls (k : Nat) (g : Nat) (s0_0 : List Int) (s0_1 : Int) (A1 : Option Addr) (c1 : Nat) (l1 : List (S37)) (r1 : Int) (r2 : Int) (w0 w : World) (hI : IsS101 w0 w g s0_0 s0_1) (hB : Below w0.heap.size w0 w) (hr1 : ∀ W_, KeepBut w W_ g none → Kd.C k37 W_ A1 l1.length l1) (hc1 : l1.length ≤ c1) (h : spec_someAt.f k s0_0 s0_1 l1 = some (r1, r2)) :
    Calls Tryd.prog 85 #[.pointer (some ⟨g, 0, none⟩), .slice A1 l1.length c1] w fun e w' => e = .returned (.int .i64 r1) ∧ IsS101 w0 w' g s0_0 r2 ∧ Below w0.heap.size w0 w' ∧ KeepBut w w' g none := by
  have HR1 := Aside0.mk hr1
  have HC1 := Aside0.mk hc1
  clear hr1 hc1
  have HI0 := Aside0.mk hI
  have HK := Aside0.mk (KeepBut.refl w g none)
  have HL := Aside0.mk hB.size
  clear hI
  have HW0 := Aside0.mk hB.size
  have HB := Aside0.mk hB
  clear hB
  have H : ((spec_reader_pick.f k s0_0 s0_1 10).bind fun bt594 => (if bt594.1 = 0 then ((spec_reader_one.f k s0_0 bt594.2 (([(-1), (l1.length : Int), 0] : List Int))).bind fun bt599 => (some (bt599.1, bt599.2))) else ((spec_reader_pick.f k s0_0 bt594.2 (mx 1 (l1.length : Int))).bind fun bt601 => (some (bt601.1, bt601.2))))) = some (r1, r2) := h
  clear h
  replace H := Option.bind_eq_some_iff.mp H
  obtain ⟨⟨t594, t595⟩, A30, H⟩ := H
  replace H : (if t594 = 0 then ((spec_reader_one.f k s0_0 t595 (([(-1), (l1.length : Int), 0] : List Int))).bind fun bt599 => (some (bt599.1, bt599.2))) else ((spec_reader_pick.f k s0_0 t595 (mx 1 (l1.length : Int))).bind fun bt601 => (some (bt601.1, bt601.2)))) = some (r1, r2) := H
  have A3 := Aside0.mk A30
  clear A30
  by_cases c4 : t594 = 0
  · rw [if_pos c4] at H
    have c4b0 : (t594 == 0) = true := beq_iff_eq.mpr c4
    have c4b1 : (t594 != 0) = false := bne_eq_false_iff_eq.mpr c4
    clear c4
    obtain ⟨y596, hy596⟩ : ∃ y_ : List Int, y_ = (([(-1), (l1.length : Int), 0] : List Int)) := ⟨_, rfl⟩
    replace H : ((spec_reader_one.f k s0_0 t595 y596).bind fun bt599 => (some (bt599.1, bt599.2))) = some (r1, r2) := by first | (rw [hy596]; with_reducible exact H) | (have H2_ := (Option.bind_some _ _).symm.trans H; rw [hy596]; with_reducible exact H2_) | (have H2_ := (Option.bind_some _ _).symm.trans H; with_reducible exact H2_) | with_reducible exact H | (rw [hy596]; exact H) | exact H
    have Ny596 := Aside0.mk hy596
    clear hy596
    replace H := Option.bind_eq_some_iff.mp H
    obtain ⟨⟨t599, t600⟩, A50, H⟩ := H
    replace H : (some (t599, t600)) = some (r1, r2) := H
    have A5 := Aside0.mk A50
    clear A50
    simp only [Option.some.injEq, Prod.mk.injEq] at H
    obtain ⟨rfl, rfl⟩ := H
    go_enter Tryd.func85, Tryd.ntmps85
    go_wp2_with (first | ((with_reducible refine gate_callee (f := 104) rfl ?_); refine goesL_ (some 6) rfl rfl Tryd.func104 (by kernel_rfl) rfl #[.pointer (some ⟨g, 0, none⟩), .int .i64 10] rfl (by (try simp only [List.map_toArray, List.map_cons, List.map_nil]); first | done | rfl | (simp only [List.length_drop, List.length_take]; rfl)) ?_; (with_reducible refine (spec_reader_pick.calls k g s0_0 s0_1 10 t594 t595 w0 _ ?side1 ?side2 A3.out).mono ?_); (case side1 => repeat (first | (with_reducible first | exact HI0.out | apply IsS101.alloc | apply IsS101.drewN | apply IsS101.drew | apply IsS101.set_1) | exact HI0.out)); (case side2 => repeat (first | (with_reducible first | exact HB.out | apply below_alloc | apply pw_below_drewN | apply below_drew1 | refine below_set ?_ (IsS101.ge HI0.out)) | exact HB.out)); rintro e w6 ⟨rfl, hi, hb, hk⟩; refine ⟨_, rfl, ?_⟩; have n0_ := Aside0.mk (KeepBut.trans (by repeat (first | (with_reducible first | exact HK.out | apply KeepBut.set_ | apply keep_drewN | apply keep_drew | apply keep_alloc) | exact HK.out)) hk (.inl rfl)); have n1_ := Aside0.mk (hb); have n2_ := Aside0.mk (hi); clear HK; clear HB; clear HI0; have HK := n0_; have HB := n1_; have HI0 := n2_; clear n0_ n1_ n2_; (try clear hb); (try clear hb2); (try clear hk); (try clear hi)) | ((with_reducible refine gate_dst (N := 11) rfl ?_); refine Kd.R_lit (Kd.int .i64) _ 3 ?hg (N := 11) ?hd (xs := ([(-1), (l1.length : Int), 0] : List Int)) (inner := [.int .i64 (-1), .int .i64 (l1.length : Int), .int .i64 0]) (ok := fun _ => True) (okp := fun _ => True) ?hr ?hp (fun _ hk => hk) trivial (Below.refl _ _) (Nat.le_refl _) (by simp) ?_; (case hd => rfl); (case hg => rfl); (case hr => first | (go_simp; done) | (go_simp; rfl)); (case hp => exact (Reps.one (show Kd.M (Kd.int .i64) _ _ _ (-1) [.int .i64 (-1)] from rfl) (Reps.one (show Kd.M (Kd.int .i64) _ _ _ (l1.length : Int) [.int .i64 (l1.length : Int)] from rfl) (Reps.one (show Kd.M (Kd.int .i64) _ _ _ 0 [.int .i64 0] from rfl) (Reps.none _ _))))); intro v597 w7 ho8 hb hg_ hnew_; clear hg_ hnew_; (first | rw [← Ny596.out] at ho8 | (simp only [Int.reduceToNat] at ho8; rw [← Ny596.out] at ho8)); have n0_ := Aside0.mk (Kd.R_lower ho8 (keep_size (w := w) (g := g) (row := none) (by repeat (first | (with_reducible first | exact HK.out | apply KeepBut.set_ | apply keep_drewN | apply keep_drew | apply keep_alloc) | exact HK.out)))); have n1_ := Aside0.mk (IsS101.below (by repeat (first | (with_reducible first | exact HI0.out | apply IsS101.alloc | apply IsS101.drewN | apply IsS101.drew | apply IsS101.set_1) | exact HI0.out)) hb); have n2_ := Aside0.mk (KeepBut.trans (by repeat (first | (with_reducible first | exact HK.out | apply KeepBut.set_ | apply keep_drewN | apply keep_drew | apply keep_alloc) | exact HK.out)) (KeepBut.of_below hb g none) (.inl rfl)); have n3_ := Aside0.mk (below_step (by repeat (first | (with_reducible first | exact HB.out | apply below_alloc | apply pw_below_drewN | apply below_drew1 | refine below_set ?_ (IsS101.ge HI0.out)) | exact HB.out)) hb); clear HI0; clear HK; clear HB; have HO598 := n0_; have HI0 := n1_; have HK := n2_; have HB := n3_; clear n0_ n1_ n2_ n3_; clear hb ho8; obtain ⟨Ao9, co9, eo9⟩ := Kd.R_slice HO598.out; subst eo9) | ((with_reducible refine gate_callee (f := 105) rfl ?_); refine goesL_ (some 12) rfl rfl Tryd.func105 (by kernel_rfl) rfl #[.pointer (some ⟨g, 0, none⟩), .slice Ao9 y596.length co9] rfl (by (try simp only [List.map_toArray, List.map_cons, List.map_nil]); first | done | rfl | (simp only [List.length_drop, List.length_take]; rfl)) ?_; (with_reducible refine (spec_reader_one.calls k g s0_0 t595 _ _ y596 t599 t600 w0 _ ?side1 ?side2 ?side3 ?side4 ?side5 A5.out).mono ?_); (case side1 => repeat (first | (with_reducible first | exact HI0.out | apply IsS101.alloc | apply IsS101.drewN | apply IsS101.drew | apply IsS101.set_1) | exact HI0.out)); (case side2 => repeat (first | (with_reducible first | exact HB.out | apply below_alloc | apply pw_below_drewN | apply below_drew1 | refine below_set ?_ (IsS101.ge HI0.out)) | exact HB.out)); (case side3 => repeat (first | exact (Kd.R_reads' HO598.out).2.2 | (with_reducible refine Kd.C_alloc ?_ _) | (with_reducible refine Kd.C_drewN ?_ _) | (with_reducible refine Kd.C_drew ?_))); (case side4 => exact (Kd.R_reads' HO598.out).2.1); (case side5 => exact far_slice (IsS101.own_ne HI0.out HO598.out (by decide))); rintro e w10 ⟨rfl, hi, hb, hk⟩; refine ⟨_, rfl, ?_⟩; have n0_ := Aside0.mk (Kd.R_mono (Kd.R_keep (IsS101.apart (show IsS101 w0 _ g s0_0 t595 from by repeat (first | (with_reducible first | exact HI0.out | apply IsS101.alloc | apply IsS101.drewN | apply IsS101.drew | apply IsS101.set_1) | exact HI0.out)) (by (with_reducible repeat (first | apply Kd.R_alloc | apply Kd.R_drewN | apply Kd.R_drew)); exact HO598.out) (by decide)) hk (fun _ h => h.2)) (fun _ h => h.1)); have n1_ := Aside0.mk (KeepBut.trans (by repeat (first | (with_reducible first | exact HK.out | apply KeepBut.set_ | apply keep_drewN | apply keep_drew | apply keep_alloc) | exact HK.out)) hk (.inl rfl)); have n2_ := Aside0.mk (hb); have n3_ := Aside0.mk (hi); clear HO598; clear HK; clear HB; clear HI0; have HO598 := n0_; have HK := n1_; have HB := n2_; have HI0 := n3_; clear n0_ n1_ n2_ n3_; (try clear hb); (try clear hb2); (try clear hk); (try clear hi)))
    go_ret
    exact ⟨by first | rfl | (simp [errW_none, errW_some] <;> rfl) | (simp [*, errW_none, errW_some] <;> rfl), by repeat (first | (with_reducible first | exact HI0.out | apply IsS101.alloc | apply IsS101.drewN | apply IsS101.drew | apply IsS101.set_1) | exact HI0.out), by repeat (first | (with_reducible first | exact HB.out | apply below_alloc | apply pw_below_drewN | apply below_drew1 | refine below_set ?_ (IsS101.ge HI0.out)) | exact HB.out), by repeat (first | (with_reducible first | exact HK.out | apply KeepBut.set_ | apply keep_drewN | apply keep_drew | apply keep_alloc) | exact HK.out)⟩
  · rw [if_neg c4] at H
    have c4b0 : (t594 == 0) = false := beq_eq_false_iff_ne.mpr c4
    have c4b1 : (t594 != 0) = true := bne_iff_ne.mpr c4
    obtain ⟨ji11, hji11⟩ : ∃ j_ : Int, (mx 1 (l1.length : Int)) = j_ := ⟨_, rfl⟩
    replace H : ((spec_reader_pick.f k s0_0 t595 (ji11)).bind fun bt601 => (some (bt601.1, bt601.2))) = some (r1, r2) := by first | (rw [hji11] at H; exact H) | (simp only [hji11] at H ⊢; exact H)
    (try rw [hji11] at A3)
    (try (have hji11l : 1 ≤ ji11 := by (rw [← hji11]; unfold mx; (repeat' split) <;> omega)))
    (try (have hji11m : 0 ≤ ji11 := by omega))
    have hji11_ : (if 1 < (l1.length : Int) then (l1.length : Int) else 1) = ji11 := hji11
    replace H := Option.bind_eq_some_iff.mp H
    obtain ⟨⟨t601, t602⟩, A120, H⟩ := H
    replace H : (some (t601, t602)) = some (r1, r2) := H
    have A12 := Aside0.mk A120
    clear A120
    simp only [Option.some.injEq, Prod.mk.injEq] at H
    obtain ⟨rfl, rfl⟩ := H
    go_enter Tryd.func85, Tryd.ntmps85
    go_wp2_with (first | ((with_reducible refine gate_callee (f := 104) rfl ?_); refine goesL_ (some 6) rfl rfl Tryd.func104 (by kernel_rfl) rfl #[.pointer (some ⟨g, 0, none⟩), .int .i64 10] rfl (by (try simp only [List.map_toArray, List.map_cons, List.map_nil]); first | done | rfl | (simp only [List.length_drop, List.length_take]; rfl)) ?_; (with_reducible refine (spec_reader_pick.calls k g s0_0 s0_1 10 t594 t595 w0 _ ?side1 ?side2 A3.out).mono ?_); (case side1 => repeat (first | (with_reducible first | exact HI0.out | apply IsS101.alloc | apply IsS101.drewN | apply IsS101.drew | apply IsS101.set_1) | exact HI0.out)); (case side2 => repeat (first | (with_reducible first | exact HB.out | apply below_alloc | apply pw_below_drewN | apply below_drew1 | refine below_set ?_ (IsS101.ge HI0.out)) | exact HB.out)); rintro e w13 ⟨rfl, hi, hb, hk⟩; refine ⟨_, rfl, ?_⟩; have n0_ := Aside0.mk (KeepBut.trans (by repeat (first | (with_reducible first | exact HK.out | apply KeepBut.set_ | apply keep_drewN | apply keep_drew | apply keep_alloc) | exact HK.out)) hk (.inl rfl)); have n1_ := Aside0.mk (hb); have n2_ := Aside0.mk (hi); clear HK; clear HB; clear HI0; have HK := n0_; have HB := n1_; have HI0 := n2_; clear n0_ n1_ n2_; (try clear hb); (try clear hb2); (try clear hk); (try clear hi)) | ((with_reducible refine gate_callee (f := 104) rfl ?_); refine goesL_ (some 17) rfl rfl Tryd.func104 (by kernel_rfl) rfl #[.pointer (some ⟨g, 0, none⟩), .int .i64 ji11] rfl (by (try simp only [List.map_toArray, List.map_cons, List.map_nil]); first | done | (simp only [hji11]; rfl) | rfl | (simp only [List.length_drop, List.length_take]; rfl)) ?_; (with_reducible refine (spec_reader_pick.calls k g s0_0 t595 ji11 t601 t602 w0 _ ?side1 ?side2 A12.out).mono ?_); (case side1 => repeat (first | (with_reducible first | exact HI0.out | apply IsS101.alloc | apply IsS101.drewN | apply IsS101.drew | apply IsS101.set_1) | exact HI0.out)); (case side2 => repeat (first | (with_reducible first | exact HB.out | apply below_alloc | apply pw_below_drewN | apply below_drew1 | refine below_set ?_ (IsS101.ge HI0.out)) | exact HB.out)); rintro e w14 ⟨rfl, hi, hb, hk⟩; refine ⟨_, rfl, ?_⟩; have n0_ := Aside0.mk (KeepBut.trans (by repeat (first | (with_reducible first | exact HK.out | apply KeepBut.set_ | apply keep_drewN | apply keep_drew | apply keep_alloc) | exact HK.out)) hk (.inl rfl)); have n1_ := Aside0.mk (hb); have n2_ := Aside0.mk (hi); clear HK; clear HB; clear HI0; have HK := n0_; have HB := n1_; have HI0 := n2_; clear n0_ n1_ n2_; (try clear hb); (try clear hb2); (try clear hk); (try clear hi)))
    go_ret
    exact ⟨by first | rfl | (simp [errW_none, errW_some] <;> rfl) | (simp only [← hji11]; first | rfl | (simp [errW_none, errW_some] <;> rfl)) | (simp [*, errW_none, errW_some] <;> rfl), by repeat (first | (with_reducible first | exact HI0.out | apply IsS101.alloc | apply IsS101.drewN | apply IsS101.drew | apply IsS101.set_1) | exact HI0.out), by repeat (first | (with_reducible first | exact HB.out | apply below_alloc | apply pw_below_drewN | apply below_drew1 | refine below_set ?_ (IsS101.ge HI0.out)) | exact HB.out), by repeat (first | (with_reducible first | exact HK.out | apply KeepBut.set_ | apply keep_drewN | apply keep_drew | apply keep_alloc) | exact HK.out)⟩
end Go.Proofs.YtekajandipdlhaaDoor.P
end
section
set_option linter.unusedVariables false
set_option linter.unusedSimpArgs false
namespace Go.Proofs.YtekajandipdlhaaDoor.Core
open Go Go.RowKit Go.Shelf Go.Proofs.YtekajandipdlhaaDoorW.PrintWords Go.Proofs.YtekajandipdlhaaDoorW.PrintLast Go.Proofs.YtekajandipdlhaaDoorW.PrintMore Go.Proofs.YtekajandipdlhaaDoor.P
attribute [local go_sem] Oper.semAt_some wide_fn wide_depth
set_option maxRecDepth 100000 in
set_option maxHeartbeats 4000000 in
theorem ready_calls (b : Nat) (G : GD) (d : Nat) (w : World) (hg : IsG w b G) (ok : GOk G) (hd : d < 256) :
    Calls Tryd.prog 86 #[.pointer (some ⟨b, 0, none⟩), .int .u16 (d : Int)] w fun e w' => e = .returned (.int .u16 ((G.ready d : Nat) : Int)) ∧ w = w' := by
  obtain ⟨A, c, hc, _, hC⟩ := hg.needs
  have hC := Aside0.mk hC
  go_enter Tryd.func86, Tryd.ntmps86
  go_wp2
  go_loopg [5, 13] G.needs.length (fun kq v5 v13 w' => ∃ (i : Nat) (x : Int) (o : Int), v5 = .int .u16 o ∧ v13 = .int .i64 x ∧ Aside0 (i + kq = G.needs.length ∧ x = (i : Int) ∧ o = ((readyTo G.needs d i : Nat) : Int)) ∧ w = w')
  case atStart => exact ⟨0, 0, 0, rfl, rfl, ⟨by omega, rfl, rfl⟩, rfl⟩
  case round =>
    obtain ⟨i, x, o, rfl, rfl, hh, rfl⟩ := hrel
    by_cases hlt : i < G.needs.length
    · have p0 : 0 ≤ x := by have := hh.out.2.1; omega
      have q0 : x < (G.needs.length : Int) := by have := hh.out.2.1; omega
      have hlt0 : decide (x < (G.needs.length : Int)) = true := decide_eq_true q0
      obtain ⟨ad, e0, hx0⟩ := Kd.at_int hC.out x p0 q0
      subst e0
      rw [rd_up (i := i) hh.out.2.1] at hx0
      have h8 : G.needs.length ≤ 8 := by have := ok.n8; have := ok.nl; omega
      have hNi : G.needs.getD i 0 < 256 := Nat.lt_of_lt_of_le (getD_lt ok.nb i) (pow8 ok.n8)
      have hA := andNot_eq hNi hd
      have hW := readyTo_lt G.needs d i
      have hstep : readyTo G.needs d (i + 1) = if d.testBit i = false ∧ sub (G.needs.getD i 0) d = 0 then readyTo G.needs d i ||| 2 ^ i else readyTo G.needs d i := rfl
      have hB := has_calls d i hd (by omega) w
      have hWc := with_calls (readyTo G.needs d i) i (Nat.lt_of_lt_of_le hW (Nat.le_trans (Nat.pow_le_pow_right (by omega) (show i ≤ 8 by omega)) (by decide))) (by omega) w
      rw [← hh.out.2.2, ← hh.out.2.1] at hWc
      rw [← hh.out.2.1] at hB
      generalize G.needs.getD i 0 = s at hx0 hA hstep
      generalize hbb : d.testBit i = bb at hB hstep
      generalize hz : sub s d = z0 at hA hstep
      generalize hz2 : ((z0 : Nat) : Int) = z at hA
      generalize hr1 : readyTo G.needs d i ||| 2 ^ i = r1 at hWc hstep
      replace p0 := eq_true p0
      replace q0 := eq_true q0
      have HS := Aside0.mk hstep
      have HZ := Aside0.mk hz2
      have HL := Aside0.mk hlt
      clear hstep hbb hz hz2 hr1 hlt hW
      have hz01 : z = 0 ∨ z ≠ 0 := by omega
      cases bb with
      | true =>
        go_wp2_with (go_at_call 87; refine hB.mono ?_; rintro e w' ⟨rfl, rfl⟩)
        go_roundg (G.needs.length - (i + 1))
        case measure => have := hh.out.1; have := HL.out; omega
        case rel =>
          have h1 := hh.out; have := HL.out
          refine ⟨i + 1, _, _, rfl, rfl, ⟨by omega, by rw [h1.2.1]; unfold wrap64; omega, by rw [HS.out, h1.2.2]; simp⟩, rfl⟩
      | false =>
        rcases hz01 with rfl | hz0
        · go_wp2_with (first | (go_at_call 87; refine hB.mono ?_; rintro e w' ⟨rfl, rfl⟩) | (go_at_call 88; refine hWc.mono ?_; rintro e w' ⟨rfl, rfl⟩))
          go_roundg (G.needs.length - (i + 1))
          case measure => have := hh.out.1; have := HL.out; omega
          case rel =>
            have h1 := hh.out; have := HL.out
            have hz3 : z0 = 0 := by have := HZ.out; omega
            refine ⟨i + 1, _, _, rfl, rfl, ⟨by omega, by rw [h1.2.1]; unfold wrap64; omega, by rw [HS.out, hz3]; simp⟩, rfl⟩
        · have hz4 : (z == 0) = false := beq_eq_false_iff_ne.2 hz0
          go_wp2_with (first | (go_at_call 87; refine hB.mono ?_; rintro e w' ⟨rfl, rfl⟩) | (go_at_call 88; refine hWc.mono ?_; rintro e w' ⟨rfl, rfl⟩))
          go_roundg (G.needs.length - (i + 1))
          case measure => have := hh.out.1; have := HL.out; omega
          case rel =>
            have h1 := hh.out; have := HL.out
            have hz3 : z0 ≠ 0 := by have := HZ.out; omega
            refine ⟨i + 1, _, _, rfl, rfl, ⟨by omega, by rw [h1.2.1]; unfold wrap64; omega, by rw [HS.out, h1.2.2]; simp [hz3]⟩, rfl⟩
    · have hlt0 : decide (x < (G.needs.length : Int)) = false := by have := hh.out; simp; omega
      have hi : i = G.needs.length := by have := hh.out; omega
      have ho := hh.out.2.2
      go_wp2
      go_ret
      refine ⟨?_, rfl⟩
      rw [ho, hi]
      rfl
end Go.Proofs.YtekajandipdlhaaDoor.Core
end
section
namespace Go.Proofs.YtekajandipdlhaaDoor.P
open Go.RowKit Go.Proofs.YtekajandipdlhaaDoorW.PrintWords Go.Proofs.YtekajandipdlhaaDoorW.PrintLast Go.Proofs.YtekajandipdlhaaDoorW.PrintMore
attribute [local go_sem] max2_int min2_int max_two min_two max_three min_three max_four min_four   -- for this text's walks alone
set_option linter.unusedVariables false
set_option linter.unusedSimpArgs false
noncomputable def spec_DrawFinishTask.f (k : Nat) (l0 : List Int) : Option ((List (S37)) × List Int × Int) := (spec_newReader.f l0).bind fun bt603 => ((spec_anyGraph.f bt603.1 bt603.2).bind fun bt606 => ((spec_someDone.f k bt603.1 bt606.2 bt606.1).bind fun bt610 => ((spec_someAt.f k bt603.1 bt610.2 bt606.1).bind fun bt614 => (some (bt606.1, bt610.1, bt614.1)))))
theorem spec_DrawFinishTask.mono : ∀ a0 k, LeO (spec_DrawFinishTask.f k a0) (spec_DrawFinishTask.f (k + 1) a0) := by
  intro a0 k
  unfold spec_DrawFinishTask.f
  repeat' first
      | (with_reducible exact spec_someAt.mono _ _ _ _)
      | (with_reducible exact spec_someDone.mono _ _ _ _)
      | (with_reducible exact LeO.refl _)
      | (with_reducible exact LeO.none _)
      | (with_reducible refine LeO.ite ?_ ?_)
      | (with_reducible refine LeO.bind ?_ (fun _ => ?_))
      | exact spec_someAt.mono _ _ _ _
      | exact spec_someDone.mono _ _ _ _
      | exact LeO.none _
      | refine LeO.ite ?_ ?_
      | refine LeO.bind ?_ (fun _ => ?_)
set_option maxHeartbeats 8000000 in
set_option maxRecDepth 100000 in
theorem spec_DrawFinishTask.calls (k : Nat) (A0 : Option Addr) (c0 : Nat) (l0 : List Int) (r1 : List (S37)) (r2 : List Int) (r3 : Int) (w : World) (hr0 : Kd.C (Kd.int .u8) w A0 l0.length l0) (hc0 : l0.length ≤ c0) (h : spec_DrawFinishTask.f k l0 = some (r1, r2, r3)) :
    Calls Tryd.prog 44 #[.slice A0 l0.length c0] w fun e w' => ∃ v0_ v1_ : Value, e = .returned (.tuple #[v0_, v1_, .int .i64 r3]) ∧ Kd.S k37 37 w' w.heap.size (fun k_ => some k_ ≠ (v1_ : Value).ownBlock) v0_ r1 ∧ Kd.Q (Kd.int .i64) 3 w' w.heap.size (fun _ => True) v1_ r2 ∧ Below w.heap.size w w' := by
  have HR0 := Aside0.mk hr0
  have HC0 := Aside0.mk hc0
  clear hr0 hc0
  have HB := Aside0.mk (Below.refl w.heap.size w)
  have H : ((spec_newReader.f l0).bind fun bt603 => ((spec_anyGraph.f bt603.1 bt603.2).bind fun bt606 => ((spec_someDone.f k bt603.1 bt606.2 bt606.1).bind fun bt610 => ((spec_someAt.f k bt603.1 bt610.2 bt606.1).bind fun bt614 => (some (bt606.1, bt610.1, bt614.1)))))) = some (r1, r2, r3) := h
  clear h
  replace H := Option.bind_eq_some_iff.mp H
  obtain ⟨⟨t603, t604⟩, A20, H⟩ := H
  replace H : ((spec_anyGraph.f t603 t604).bind fun bt606 => ((spec_someDone.f k t603 bt606.2 bt606.1).bind fun bt610 => ((spec_someAt.f k t603 bt610.2 bt606.1).bind fun bt614 => (some (bt606.1, bt610.1, bt614.1))))) = some (r1, r2, r3) := H
  have A2 := Aside0.mk A20
  clear A20
  replace H := Option.bind_eq_some_iff.mp H
  obtain ⟨⟨t606, t609⟩, A30, H⟩ := H
  replace H : ((spec_someDone.f k t603 t609 t606).bind fun bt610 => ((spec_someAt.f k t603 bt610.2 t606).bind fun bt614 => (some (t606, bt610.1, bt614.1)))) = some (r1, r2, r3) := H
  have A3 := Aside0.mk A30
  clear A30
  replace H := Option.bind_eq_some_iff.mp H
  obtain ⟨⟨t610, t613⟩, A40, H⟩ := H
  replace H : ((spec_someAt.f k t603 t613 t606).bind fun bt614 => (some (t606, t610, bt614.1))) = some (r1, r2, r3) := H
  have A4 := Aside0.mk A40
  clear A40
  replace H := Option.bind_eq_some_iff.mp H
  obtain ⟨⟨t614, t615⟩, A50, H⟩ := H
  replace H : (some (t606, t610, t614)) = some (r1, r2, r3) := H
  have A5 := Aside0.mk A50
  clear A50
  simp only [Option.some.injEq, Prod.mk.injEq] at H
  obtain ⟨rfl, rfl, rfl⟩ := H
  go_enter Tryd.func44, Tryd.ntmps44
  go_wp2_with (first | ((with_reducible refine gate_callee (f := 68) rfl ?_); refine goesL_ (some 9) rfl rfl Tryd.func68 (by kernel_rfl) rfl #[.slice A0 l0.length c0] rfl (by (try simp only [List.map_toArray, List.map_cons, List.map_nil]); first | done | rfl | (simp only [List.length_drop, List.length_take]; rfl)) ?_; (with_reducible refine (spec_newReader.calls _ _ l0 t603 t604 w _ ?side1 ?side2 ?side3 A2.out).mono ?_); (case side1 => repeat (first | (with_reducible first | exact HB.out | apply below_alloc | apply pw_below_drewN | apply below_drew1) | exact HB.out)); (case side2 => exact HR0.out); (case side3 => exact HC0.out); rintro e w6 ⟨g605, rfl, hi, hb, hb2⟩; refine ⟨_, rfl, ?_⟩; have n0_ := Aside0.mk (hb); have n1_ := Aside0.mk (hi); clear HB; have HB := n0_; have HI605 := n1_; clear n0_ n1_; (try clear hb); (try clear hb2); (try clear hk); (try clear hi)) | ((with_reducible refine gate_callee (f := 67) rfl ?_); refine goesL_ (some 11) rfl rfl Tryd.func67 (by kernel_rfl) rfl #[.pointer (some ⟨g605, 0, none⟩)] rfl (by (try simp only [List.map_toArray, List.map_cons, List.map_nil]); first | done | rfl | (simp only [List.length_drop, List.length_take]; rfl)) ?_; (with_reducible refine (spec_anyGraph.calls g605 t603 t604 t606 t609 w _ ?side1 ?side2 A3.out).mono ?_); (case side1 => repeat (first | (with_reducible first | exact HI605.out | apply IsS101.alloc | apply IsS101.drewN | apply IsS101.drew | apply IsS101.set_1) | exact HI605.out)); (case side2 => repeat (first | (with_reducible first | exact HB.out | apply below_alloc | apply pw_below_drewN | apply below_drew1 | refine below_set ?_ (IsS101.ge HI605.out)) | exact HB.out)); rintro e w7 ⟨v607, rfl, ho0, hi, hb, hk⟩; refine ⟨_, rfl, ?_⟩; have n0_ := Aside0.mk (Kd.S_lower ho0 (below_size (by repeat (first | (with_reducible first | exact HB.out | apply below_alloc | apply pw_below_drewN | apply below_drew1 | refine below_set ?_ (IsS101.ge HI605.out)) | exact HB.out)))); have n1_ := Aside0.mk (hb); have n2_ := Aside0.mk (hi); clear HB; clear HI605; have HO608 := n0_; have HB := n1_; have HI605 := n2_; clear n0_ n1_ n2_; (try clear hb); (try clear hb2); (try clear hk); (try clear hi); (try clear ho0); obtain ⟨Ao8, co8, eo8⟩ := Kd.S_slice HO608.out; subst eo8) | ((with_reducible refine gate_callee (f := 84) rfl ?_); refine goesL_ (some 14) rfl rfl Tryd.func84 (by kernel_rfl) rfl #[.pointer (some ⟨g605, 0, none⟩), .slice Ao8 t606.length co8] rfl (by (try simp only [List.map_toArray, List.map_cons, List.map_nil]); first | done | rfl | (simp only [List.length_drop, List.length_take]; rfl)) ?_; (with_reducible refine (spec_someDone.calls k g605 t603 t609 _ _ t606 t610 t613 w _ ?side1 ?side2 ?side3 ?side4 A4.out).mono ?_); (case side1 => repeat (first | (with_reducible first | exact HI605.out | apply IsS101.alloc | apply IsS101.drewN | apply IsS101.drew | apply IsS101.set_1) | exact HI605.out)); (case side2 => repeat (first | (with_reducible first | exact HB.out | apply below_alloc | apply pw_below_drewN | apply below_drew1 | refine below_set ?_ (IsS101.ge HI605.out)) | exact HB.out)); (case side3 => exact Kd.C_foot_own ((Kd.S_R (IsS101.apartS (show IsS101 w _ g605 t603 t609 from by repeat (first | (with_reducible first | exact HI605.out | apply IsS101.alloc | apply IsS101.drewN | apply IsS101.drew | apply IsS101.set_1) | exact HI605.out)) (by (with_reducible repeat (first | apply Kd.S_alloc | apply Kd.S_drewN | apply Kd.S_drew)); exact HO608.out) (by decide)))) (fun _ h_ => h_.2)); (case side4 => exact (Kd.S_reads' HO608.out).2.1); rintro e w9 ⟨v611, rfl, ho0, hi, hb, hk⟩; refine ⟨_, rfl, ?_⟩; have n0_ := Aside0.mk (Kd.S_mono (Kd.S_told (Kd.S_oldK (IsS101.apartS (show IsS101 w _ g605 t603 t609 from by repeat (first | (with_reducible first | exact HI605.out | apply IsS101.alloc | apply IsS101.drewN | apply IsS101.drew | apply IsS101.set_1) | exact HI605.out)) (by (with_reducible repeat (first | apply Kd.S_alloc | apply Kd.S_drewN | apply Kd.S_drew)); exact HO608.out) (by decide)) hk) (Kd.Q_base ho0)) (fun _ h_ => h_.1)); have n1_ := Aside0.mk (Kd.Q_lower ho0 (below_size (by repeat (first | (with_reducible first | exact HB.out | apply below_alloc | apply pw_below_drewN | apply below_drew1 | refine below_set ?_ (IsS101.ge HI605.out)) | exact HB.out)))); have n2_ := Aside0.mk (hb); have n3_ := Aside0.mk (hi); clear HO608; clear HB; clear HI605; have HO608 := n0_; have HO612 := n1_; have HB := n2_; have HI605 := n3_; clear n0_ n1_ n2_ n3_; (try clear hb); (try clear hb2); (try clear hk); (try clear hi); (try clear ho0)) | ((with_reducible refine gate_callee (f := 85) rfl ?_); refine goesL_ (some 19) rfl rfl Tryd.func85 (by kernel_rfl) rfl #[.pointer (some ⟨g605, 0, none⟩), .slice Ao8 t606.length co8] rfl (by (try simp only [List.map_toArray, List.map_cons, List.map_nil]); first | done | rfl | (simp only [List.length_drop, List.length_take]; rfl)) ?_; (with_reducible refine (spec_someAt.calls k g605 t603 t613 _ _ t606 t614 t615 w _ ?side1 ?side2 ?side3 ?side4 A5.out).mono ?_); (case side1 => repeat (first | (with_reducible first | exact HI605.out | apply IsS101.alloc | apply IsS101.drewN | apply IsS101.drew | apply IsS101.set_1) | exact HI605.out)); (case side2 => repeat (first | (with_reducible first | exact HB.out | apply below_alloc | apply pw_below_drewN | apply below_drew1 | refine below_set ?_ (IsS101.ge HI605.out)) | exact HB.out)); (case side3 => exact Kd.C_foot_own ((Kd.S_R (IsS101.apartS (show IsS101 w _ g605 t603 t613 from by repeat (first | (with_reducible first | exact HI605.out | apply IsS101.alloc | apply IsS101.drewN | apply IsS101.drew | apply IsS101.set_1) | exact HI605.out)) (by (with_reducible repeat (first | apply Kd.S_alloc | apply Kd.S_drewN | apply Kd.S_drew)); exact HO608.out) (by decide)))) (fun _ h_ => h_.2)); (case side4 => exact (Kd.S_reads' HO608.out).2.1); rintro e w10 ⟨rfl, hi, hb, hk⟩; refine ⟨_, rfl, ?_⟩; have n0_ := Aside0.mk (Kd.S_mono (Kd.S_keep (IsS101.apartS (show IsS101 w _ g605 t603 t613 from by repeat (first | (with_reducible first | exact HI605.out | apply IsS101.alloc | apply IsS101.drewN | apply IsS101.drew | apply IsS101.set_1) | exact HI605.out)) (by (with_reducible repeat (first | apply Kd.S_alloc | apply Kd.S_drewN | apply Kd.S_drew)); exact HO608.out) (by decide)) hk (fun _ h => h.2)) (fun _ h => h.1)); have n1_ := Aside0.mk (Kd.Q_mono (Kd.Q_keep (IsS101.apartQ (show IsS101 w _ g605 t603 t613 from by repeat (first | (with_reducible first | exact HI605.out | apply IsS101.alloc | apply IsS101.drewN | apply IsS101.drew | apply IsS101.set_1) | exact HI605.out)) (by (with_reducible repeat (first | apply Kd.Q_alloc | apply Kd.Q_drewN | apply Kd.Q_drew)); exact HO612.out) (by decide)) hk (fun _ h => h.2)) (fun _ h => h.1)); have n2_ := Aside0.mk (hb); have n3_ := Aside0.mk (hi); clear HO608; clear HO612; clear HB; clear HI605; have HO608 := n0_; have HO612 := n1_; have HB := n2_; have HI605 := n3_; clear n0_ n1_ n2_ n3_; (try clear hb); (try clear hb2); (try clear hk); (try clear hi)))
  go_ret3
  exact ⟨_, _, by first | rfl | (simp [errW_none, errW_some] <;> rfl) | (simp [*, errW_none, errW_some] <;> rfl), by (with_reducible repeat (first | apply Kd.S_alloc | apply Kd.S_drewN | apply Kd.S_drew)); exact Kd.S_mono HO608.out (fun _ hk => hk.2), by (with_reducible repeat (first | apply Kd.Q_alloc | apply Kd.Q_drewN | apply Kd.Q_drew)); exact HO612.out, by repeat (first | (with_reducible first | exact HB.out | apply below_alloc | apply pw_below_drewN | apply below_drew1 | refine below_set ?_ (IsS101.ge HI605.out)) | exact HB.out)⟩
end Go.Proofs.YtekajandipdlhaaDoor.P
end
section
set_option linter.unusedVariables false
set_option linter.unusedSimpArgs false
namespace Go.Proofs.YtekajandipdlhaaDoor.Core
open Go Go.RowKit Go.Proofs.YtekajandipdlhaaDoorW.PrintWords Go.Proofs.YtekajandipdlhaaDoorW.PrintMore Go.Proofs.YtekajandipdlhaaDoor.P
theorem VG.need_lt {g : List Tk} {G : GD} (v : VG g G) {i m : Nat} (h : (G.needs.getD i 0).testBit m = true) : m < g.length := by
  have h1 := getD_lt v.nb i
  have h2 := Nat.ge_two_pow_of_testBit h
  have h3 : 2 ^ m < 2 ^ g.length := Nat.lt_of_le_of_lt h2 h1
  exact (Nat.pow_lt_pow_iff_right (by omega)).1 h3
theorem VG.list {g : List Tk} {G : GD} (v : VG g G) {i : Nat} (hi : i < g.length) : (g.getD i z37).f1 = up (elemsN (G.needs.getD i 0)) := by
  have hg : g.getD i z37 ∈ g := by
    rw [List.getD_eq_getElem?_getD, List.getElem?_eq_getElem hi]
    exact List.getElem_mem hi
  have hf := (v.fine.1 _ hg).2
  refine asc_ext hf.2 (asc_elems _) (fun x => ?_)
  show _ ↔ x ∈ elems _
  rw [mem_elems]
  constructor
  · intro hx
    have hb := hf.1 x hx
    have h8 := v.n8
    refine ⟨x.toNat, by omega, by omega, ?_⟩
    rw [v.bits i hi, decide_eq_true_eq, show ((x.toNat : Nat) : Int) = x by omega]
    exact hx
  · rintro ⟨k, rfl, _, hk⟩
    rw [v.bits i hi, decide_eq_true_eq] at hk
    exact hk
end Go.Proofs.YtekajandipdlhaaDoor.Core
end
section
set_option linter.unusedVariables false
set_option linter.unusedSimpArgs false
namespace Go.Proofs.YtekajandipdlhaaDoor.Core
open Go Go.RowKit Go.Proofs.YtekajandipdlhaaDoor.P
end Go.Proofs.YtekajandipdlhaaDoor.Core
namespace Go.Proofs.YtekajandipdlhaaDoor.P
open Go Go.RowKit Go.Shelf Go.Proofs.YtekajandipdlhaaDoorW.PrintWords Go.Proofs.YtekajandipdlhaaDoorW.PrintMore Go.Proofs.YtekajandipdlhaaDoor.Core
attribute [local go_sem] Oper.semAt_some wide_fn wide_depth
def impl_ReadyTasks.f (l0 : List S37) (l1 : List Int) : Option (List Int) := some (readyD l0 l1)
set_option maxRecDepth 100000 in
set_option maxHeartbeats 4000000 in
theorem impl_ReadyTasks.calls (A0 : Option Addr) (c0 : Nat) (l0 : List S37) (A1 : Option Addr) (c1 : Nat) (l1 : List Int) (r : List Int) (w : World) (hr0 : Kd.C k37 w A0 l0.length l0) (hc0 : l0.length ≤ c0) (hr1 : Kd.C (Kd.int .i64) w A1 l1.length l1) (hc1 : l1.length ≤ c1) (hT : Tab w) (h : impl_ReadyTasks.f l0 l1 = some r) :
    Calls Tryd.prog 49 #[.slice A0 l0.length c0, .slice A1 l1.length c1] w fun e w' => ∃ v0_ : Value, e = .returned (v0_) ∧ Kd.R (Kd.int .i64) 3 w' w.heap.size (fun _ => True) v0_ r ∧ Below w.heap.size w w' := by
  have hr : r = readyD l0 l1 := (Option.some.inj h).symm
  subst hr
  clear h
  cases hg : doneD l0 l1 with
  | none =>
    have hcd : readyD l0 l1 = [] := by unfold readyD; rw [hg]
    rw [hcd]
    have HG := Aside0.mk (doneIn_none A0 c0 l0 A1 c1 l1 w hT hr0 hc0 hr1 hc1 hg)
    clear hr0 hr1 hT hg hcd
    go_enter Tryd.func49, Tryd.ntmps49
    go_wp2_with (go_at_call 80; refine HG.out.mono ?_; rintro e w1 ⟨rfl, hB⟩)
    go_ret
    exact ⟨_, rfl, Kd.R_nil _ _ _ _ _, hB⟩
  | some GS =>
    obtain ⟨G, s⟩ := GS
    have hcd : readyD l0 l1 = elems (G.ready s) := by unfold readyD; rw [hg]
    rw [hcd]
    have HG := Aside0.mk (doneIn_some A0 c0 l0 A1 c1 l1 G s w hT hr0 hc0 hr1 hc1 hg)
    obtain ⟨ok, hsl, hs8, hrl, hr8, -⟩ := done_facts hg
    have HT := Aside0.mk hT
    clear hr0 hr1 hT hg hcd
    go_enter Tryd.func49, Tryd.ntmps49
    go_wp2_with (first | (go_at_call 80; refine HG.out.mono ?_; rintro e w1 ⟨b, rfl, hB, hgr⟩) | (go_at_call 86; refine (ready_calls b G s _ hgr ok hs8).mono ?_; rintro e w' ⟨rfl, rfl⟩) | (go_at_call 71; refine (list_calls (G.ready s) hr8 _ (HT.out.of hB)).mono ?_; rintro e w2 ⟨v, rfl, hR, hB2⟩))
    go_ret
    exact ⟨_, rfl, Kd.R_mono (Kd.R_lower hR hB.size) (fun _ _ => trivial), below_step hB hB2⟩
end Go.Proofs.YtekajandipdlhaaDoor.P
end
section
set_option linter.unusedVariables false
set_option linter.unusedSimpArgs false
namespace Go.Proofs.YtekajandipdlhaaDoor.Core
open Go Go.RowKit Go.Proofs.YtekajandipdlhaaDoor.P
end Go.Proofs.YtekajandipdlhaaDoor.Core
namespace Go.Proofs.YtekajandipdlhaaDoor.P
open Go Go.RowKit Go.Shelf Go.Proofs.YtekajandipdlhaaDoorW.PrintWords Go.Proofs.YtekajandipdlhaaDoorW.PrintLast Go.Proofs.YtekajandipdlhaaDoorW.PrintMore Go.Proofs.YtekajandipdlhaaDoor.Core
attribute [local go_sem] Oper.semAt_some wide_fn wide_depth
def impl_FinishTask.f (l0 : List S37) (l1 : List Int) (a2 : Int) : Option (List Int × Bool) := some (finD l0 l1 a2)
set_option maxRecDepth 100000 in
set_option maxHeartbeats 1000000 in
theorem impl_FinishTask.calls (A0 : Option Addr) (c0 : Nat) (l0 : List S37) (A1 : Option Addr) (c1 : Nat) (l1 : List Int) (a2 : Int) (r1 : List Int) (r2 : Bool) (w : World) (hr0 : Kd.C k37 w A0 l0.length l0) (hc0 : l0.length ≤ c0) (hr1 : Kd.C (Kd.int .i64) w A1 l1.length l1) (hc1 : l1.length ≤ c1) (hT : Tab w) (h : impl_FinishTask.f l0 l1 a2 = some (r1, r2)) :
    Calls Tryd.prog 45 #[.slice A0 l0.length c0, .slice A1 l1.length c1, .int .i64 a2] w fun e w' => ∃ v0_ : Value, e = .returned (.tuple #[v0_, .bool r2]) ∧ Kd.R (Kd.int .i64) 3 w' w.heap.size (fun _ => True) v0_ r1 ∧ Below w.heap.size w w' := by
  have hr : finD l0 l1 a2 = (r1, r2) := Option.some.inj h
  clear h
  cases hg : doneD l0 l1 with
  | none =>
    obtain ⟨rfl, rfl⟩ : [] = r1 ∧ false = r2 := by unfold finD at hr; rw [hg] at hr; exact Prod.mk.inj hr
    have HG := Aside0.mk (doneIn_none A0 c0 l0 A1 c1 l1 w hT hr0 hc0 hr1 hc1 hg)
    clear hr0 hr1 hT hg hr
    go_enter Tryd.func45, Tryd.ntmps45
    go_wp2_with (go_at_call 80; refine HG.out.mono ?_; rintro e w1 ⟨rfl, hB⟩)
    refine bodyPost_ret (results_tmp2 rfl _ _ _) rfl ?_
    exact ⟨_, rfl, Kd.R_nil _ _ _ _ _, hB⟩
  | some GS =>
    obtain ⟨G, s⟩ := GS
    have HG := Aside0.mk (doneIn_some A0 c0 l0 A1 c1 l1 G s w hT hr0 hc0 hr1 hc1 hg)
    obtain ⟨ok, hsl, hs8, hrl, hr8, -⟩ := done_facts hg
    have h8 := ok.n8
    have OK := Aside0.mk ok
    have hcd : (if (0 ≤ a2 ∧ a2 ≤ (G.tasks.length : Int) - 1) ∧ (G.ready s).testBit a2.toNat = true then (elems (s ||| 2 ^ a2.toNat), true) else ([], false)) = (r1, r2) := by unfold finD at hr; rw [hg] at hr; exact hr
    have HT := Aside0.mk hT
    have HW := Aside0.mk (fun W (t : Bool) (ht : decide (0 ≤ a2 ∧ a2 ≤ (G.tasks.length : Int) - 1) = t) => within_is a2 0 ((G.tasks.length : Int) - 1) t W ht)
    have HRD := Aside0.mk (fun b W (hg : IsG W b G) => ready_calls b G s W hg OK.out hs8)
    clear hr0 hr1 hT hg hr ok
    have hw2 : wrap64 ((G.tasks.length : Int) - 1) = (G.tasks.length : Int) - 1 := w64 (by omega) (by omega)
    have hw1 : IntKind.i64.wrap ((G.tasks.length : Int) - 1) = (G.tasks.length : Int) - 1 := by rw [i64_w, w64 (by omega) (by omega)]
    by_cases hx : 0 ≤ a2 ∧ a2 ≤ (G.tasks.length : Int) - 1
    · obtain ⟨i, hi⟩ := Int.eq_ofNat_of_zero_le hx.1
      have hit : a2.toNat = i := by omega
      have hi8 : i < 8 := by omega
      have hwi := HW.out
      have HW2 := Aside0.mk (fun W => hwi W true (decide_eq_true hx))
      have HHAS := Aside0.mk (has_calls (G.ready s) i hr8 hi8)
      have HWITH := Aside0.mk (with_calls s i hs8 hi8)
      have hlt : s ||| 2 ^ i < 256 := Nat.or_lt_two_pow (n := 8) hs8 (Nat.pow_lt_pow_right (by omega) hi8)
      rw [hit] at hcd
      clear HW hwi hit
      rw [← hi] at HHAS HWITH
      generalize s ||| 2 ^ i = s2 at hcd HWITH hlt
      cases hbit : (G.ready s).testBit i with
      | true =>
        rw [hbit] at HHAS hcd
        rw [if_pos ⟨hx, rfl⟩] at hcd
        obtain ⟨rfl, rfl⟩ := Prod.mk.inj hcd
        clear hcd hbit hx hi
        go_enter Tryd.func45, Tryd.ntmps45
        go_wp2_with (first | (go_at_call 80; refine HG.out.mono ?_; rintro e w1 ⟨b, rfl, hB, hgr⟩) | (go_at_call 78; refine (size_calls b G _ hgr).mono ?_; rintro e w' ⟨rfl, rfl⟩) | (go_at_call 81; refine (HW2.out _).mono ?_; rintro e w2 ⟨rfl, hB2⟩; replace hgr := hgr.move hB2; replace hB := below_step hB hB2) | (go_at_call 86; refine (HRD.out b _ hgr).mono ?_; rintro e w' ⟨rfl, rfl⟩) | (go_at_call 87; refine (HHAS.out _).mono ?_; rintro e w' ⟨rfl, rfl⟩) | (go_at_call 88; refine (HWITH.out _).mono ?_; rintro e w' ⟨rfl, rfl⟩) | (go_at_call 71; refine (list_calls s2 hlt _ (HT.out.of hB)).mono ?_; rintro e w3 ⟨v, rfl, hR, hB3⟩))
        refine bodyPost_ret (results_tmp2 rfl _ _ _) rfl ?_
        exact ⟨_, rfl, Kd.R_mono (Kd.R_lower hR hB.size) (fun _ _ => trivial), below_step hB hB3⟩
      | false =>
        rw [hbit] at HHAS hcd
        rw [if_neg (by simp)] at hcd
        obtain ⟨rfl, rfl⟩ := Prod.mk.inj hcd
        clear hcd hbit hx hi
        go_enter Tryd.func45, Tryd.ntmps45
        go_wp2_with (first | (go_at_call 80; refine HG.out.mono ?_; rintro e w1 ⟨b, rfl, hB, hgr⟩) | (go_at_call 78; refine (size_calls b G _ hgr).mono ?_; rintro e w' ⟨rfl, rfl⟩) | (go_at_call 81; refine (HW2.out _).mono ?_; rintro e w2 ⟨rfl, hB2⟩; replace hgr := hgr.move hB2; replace hB := below_step hB hB2) | (go_at_call 86; refine (HRD.out b _ hgr).mono ?_; rintro e w' ⟨rfl, rfl⟩) | (go_at_call 87; refine (HHAS.out _).mono ?_; rintro e w' ⟨rfl, rfl⟩))
        refine bodyPost_ret (results_tmp2 rfl _ _ _) rfl ?_
        exact ⟨_, rfl, Kd.R_nil _ _ _ _ _, hB⟩
    · rw [if_neg (fun h => hx h.1)] at hcd
      obtain ⟨rfl, rfl⟩ := Prod.mk.inj hcd
      have hwi := HW.out
      have HW2 := Aside0.mk (fun W => hwi W false (decide_eq_false hx))
      clear hcd hx hwi HW
      go_enter Tryd.func45, Tryd.ntmps45
      go_wp2_with (first | (go_at_call 80; refine HG.out.mono ?_; rintro e w1 ⟨b, rfl, hB, hgr⟩) | (go_at_call 78; refine (size_calls b G _ hgr).mono ?_; rintro e w' ⟨rfl, rfl⟩) | (go_at_call 81; refine (HW2.out _).mono ?_; rintro e w2 ⟨rfl, hB2⟩; replace hB := below_step hB hB2))
      refine bodyPost_ret (results_tmp2 rfl _ _ _) rfl ?_
      exact ⟨_, rfl, Kd.R_nil _ _ _ _ _, hB⟩
end Go.Proofs.YtekajandipdlhaaDoor.P
end
section
namespace Go.Proofs.YtekajandipdlhaaDoor.P
open Go.Proofs.YtekajandipdlhaaDoor.Core (Tab Tab.of)
open Go.RowKit Go.Proofs.YtekajandipdlhaaDoorW.PrintWords Go.Proofs.YtekajandipdlhaaDoorW.PrintLast Go.Proofs.YtekajandipdlhaaDoorW.PrintMore
attribute [local go_sem] max2_int min2_int max_two min_two max_three min_three max_four min_four   -- for this text's walks alone
set_option linter.unusedVariables false
set_option linter.unusedSimpArgs false
mutual
noncomputable def laws_FnFinishTaskReady.j0 : Nat → List (S37) → List Int → Int → List Int → Bool → List Int → Bool → Bool → Option (Bool)
  | 0, _, _, _, _, _, _, _, _ => none
  | k + 1, x3, x4, x5, x6, x7, x8, x9, x48 => if x48 = true then ((laws_equalInts.f k x6 x8).bind fun t759 => (if t759 = true then (some (x7 == x9)) else (some false))) else ((impl_ReadyTasks.f x3 x4).bind fun t760 => ((impl_ReadyTasks.f x3 x6).bind fun t763 => (laws_FnFinishTaskReady.l0 k x3 x5 t760 t763 0)))
noncomputable def laws_FnFinishTaskReady.l0 : Nat → List (S37) → Int → List Int → List Int → Int → Option (Bool)
  | 0, _, _, _, _, _ => none
  | k + 1, x3, x5, x10, x11, x12 => if x12 < (x11.length : Int) then (if 0 ≤ x12 then ((laws_isIn.f k x10 (rd x11 x12)).bind fun t768 => (if t768 = true then (laws_FnFinishTaskReady.l0 k x3 x5 x10 x11 (wrap64 (x12 + 1))) else (if 0 ≤ (rd x11 x12) then (if (rd x11 x12) < (x3.length : Int) then ((laws_isIn.f k ((rd_T37 x3 (rd x11 x12)).f1) x5).bind fun t771 => (if t771 = true then (laws_FnFinishTaskReady.l0 k x3 x5 x10 x11 (wrap64 (x12 + 1))) else (some false))) else (none)) else (none)))) else (none)) else ((laws_isIn.f k x11 x5).bind fun t766 => (some (!t766)))
end
noncomputable def laws_FnFinishTaskReady.f (k : Nat) (l0 : List Int) : Option (Bool) := if (l0.length : Int) > 1048576 then (some true) else ((spec_DrawFinishTask.f k l0).bind fun bt743 => ((impl_FinishTask.f bt743.1 bt743.2.1 bt743.2.2).bind fun bt750 => ((spec_FinishTask.f k bt743.1 bt743.2.1 bt743.2.2).bind fun bt754 => ((laws_equalInts.f k bt750.1 bt754.1).bind fun t758 => (if t758 = true then (if (bt750.2 != bt754.2) = true then (laws_FnFinishTaskReady.j0 k bt743.1 bt743.2.1 bt743.2.2 bt750.1 bt750.2 bt754.1 bt754.2 true) else (laws_FnFinishTaskReady.j0 k bt743.1 bt743.2.1 bt743.2.2 bt750.1 bt750.2 bt754.1 bt754.2 (!bt750.2))) else (laws_FnFinishTaskReady.j0 k bt743.1 bt743.2.1 bt743.2.2 bt750.1 bt750.2 bt754.1 bt754.2 true))))))
theorem laws_FnFinishTaskReady.mono_l : ∀ k, (∀ y0 y1 y2 y3 y4 y5 y6 y7, LeO (laws_FnFinishTaskReady.j0 k y0 y1 y2 y3 y4 y5 y6 y7) (laws_FnFinishTaskReady.j0 (k + 1) y0 y1 y2 y3 y4 y5 y6 y7)) ∧ (∀ y0 y1 y2 y3 y4, LeO (laws_FnFinishTaskReady.l0 k y0 y1 y2 y3 y4) (laws_FnFinishTaskReady.l0 (k + 1) y0 y1 y2 y3 y4))
  | 0 => ⟨fun _ _ _ _ _ _ _ _ r h => by simp [laws_FnFinishTaskReady.j0] at h, fun _ _ _ _ _ r h => by simp [laws_FnFinishTaskReady.l0] at h⟩
  | k + 1 => by
    obtain ⟨ih0, ih1⟩ := laws_FnFinishTaskReady.mono_l k
    refine ⟨?_, ?_⟩
    · intro y0 y1 y2 y3 y4 y5 y6 y7
      unfold laws_FnFinishTaskReady.j0
      repeat' first
      | (with_reducible exact ih0 _ _ _ _ _ _ _ _)
      | (with_reducible exact ih1 _ _ _ _ _)
      | (with_reducible exact laws_equalInts.mono _ _ _)
      | (with_reducible exact laws_isIn.mono _ _ _)
      | (with_reducible exact spec_DrawFinishTask.mono _ _)
      | (with_reducible exact spec_FinishTask.mono _ _ _ _)
      | (with_reducible exact LeO.refl _)
      | (with_reducible exact LeO.none _)
      | (with_reducible refine LeO.ite ?_ ?_)
      | (with_reducible refine LeO.bind ?_ (fun _ => ?_))
      | exact ih0 _ _ _ _ _ _ _ _
      | exact ih1 _ _ _ _ _
      | exact laws_equalInts.mono _ _ _
      | exact laws_isIn.mono _ _ _
      | exact spec_DrawFinishTask.mono _ _
      | exact spec_FinishTask.mono _ _ _ _
      | exact LeO.none _
      | refine LeO.ite ?_ ?_
      | refine LeO.bind ?_ (fun _ => ?_)
    · intro y0 y1 y2 y3 y4
      unfold laws_FnFinishTaskReady.l0
      repeat' first
      | (with_reducible exact ih0 _ _ _ _ _ _ _ _)
      | (with_reducible exact ih1 _ _ _ _ _)
      | (with_reducible exact laws_equalInts.mono _ _ _)
      | (with_reducible exact laws_isIn.mono _ _ _)
      | (with_reducible exact spec_DrawFinishTask.mono _ _)
      | (with_reducible exact spec_FinishTask.mono _ _ _ _)
      | (with_reducible exact LeO.refl _)
      | (with_reducible exact LeO.none _)
      | (with_reducible refine LeO.ite ?_ ?_)
      | (with_reducible refine LeO.bind ?_ (fun _ => ?_))
      | exact ih0 _ _ _ _ _ _ _ _
      | exact ih1 _ _ _ _ _
      | exact laws_equalInts.mono _ _ _
      | exact laws_isIn.mono _ _ _
      | exact spec_DrawFinishTask.mono _ _
      | exact spec_FinishTask.mono _ _ _ _
      | exact LeO.none _
      | refine LeO.ite ?_ ?_
      | refine LeO.bind ?_ (fun _ => ?_)
theorem laws_FnFinishTaskReady.mono : ∀ a0 k, LeO (laws_FnFinishTaskReady.f k a0) (laws_FnFinishTaskReady.f (k + 1) a0) := by
  intro a0 k
  obtain ⟨ih0, ih1⟩ := laws_FnFinishTaskReady.mono_l k
  unfold laws_FnFinishTaskReady.f
  repeat' first
      | (with_reducible exact ih0 _ _ _ _ _ _ _ _)
      | (with_reducible exact ih1 _ _ _ _ _)
      | (with_reducible exact laws_equalInts.mono _ _ _)
      | (with_reducible exact laws_isIn.mono _ _ _)
      | (with_reducible exact spec_DrawFinishTask.mono _ _)
      | (with_reducible exact spec_FinishTask.mono _ _ _ _)
      | (with_reducible exact LeO.refl _)
      | (with_reducible exact LeO.none _)
      | (with_reducible refine LeO.ite ?_ ?_)
      | (with_reducible refine LeO.bind ?_ (fun _ => ?_))
      | exact ih0 _ _ _ _ _ _ _ _
      | exact ih1 _ _ _ _ _
      | exact laws_equalInts.mono _ _ _
      | exact laws_isIn.mono _ _ _
      | exact spec_DrawFinishTask.mono _ _
      | exact spec_FinishTask.mono _ _ _ _
      | exact LeO.none _
      | refine LeO.ite ?_ ?_
      | refine LeO.bind ?_ (fun _ => ?_)
set_option maxHeartbeats 8000000 in
set_option maxRecDepth 100000 in
theorem laws_FnFinishTaskReady.calls (k : Nat) (A0 : Option Addr) (c0 : Nat) (l0 : List Int) (r : Bool) (w : World) (hr0 : Kd.C (Kd.int .u8) w A0 l0.length l0) (hc0 : l0.length ≤ c0) (hT : Tab w) (h : laws_FnFinishTaskReady.f k l0 = some r) :
    Calls Tryd.prog 12 #[.slice A0 l0.length c0] w fun e w' => e = .returned (.bool r) ∧ Below w.heap.size w w' := by
  have HT := Aside0.mk hT
  clear hT
  have HR0 := Aside0.mk hr0
  have HC0 := Aside0.mk hc0
  clear hr0 hc0
  have HB := Aside0.mk (Below.refl w.heap.size w)
  have H : (if (l0.length : Int) > 1048576 then (some true) else ((spec_DrawFinishTask.f k l0).bind fun bt743 => ((impl_FinishTask.f bt743.1 bt743.2.1 bt743.2.2).bind fun bt750 => ((spec_FinishTask.f k bt743.1 bt743.2.1 bt743.2.2).bind fun bt754 => ((laws_equalInts.f k bt750.1 bt754.1).bind fun t758 => (if t758 = true then (if (bt750.2 != bt754.2) = true then (laws_FnFinishTaskReady.j0 k bt743.1 bt743.2.1 bt743.2.2 bt750.1 bt750.2 bt754.1 bt754.2 true) else (laws_FnFinishTaskReady.j0 k bt743.1 bt743.2.1 bt743.2.2 bt750.1 bt750.2 bt754.1 bt754.2 (!bt750.2))) else (laws_FnFinishTaskReady.j0 k bt743.1 bt743.2.1 bt743.2.2 bt750.1 bt750.2 bt754.1 bt754.2 true))))))) = some r := h
  clear h
  by_cases c2 : (l0.length : Int) > 1048576
  · rw [if_pos c2] at H
    have c2b0 : decide (1048576 < (l0.length : Int)) = true := decide_eq_true c2
    have c2b1 : decide (1048576 < l0.length) = true := decide_eq_true (by omega)
    clear c2
    obtain rfl := Option.some.inj H
    go_enter Tryd.func12, Tryd.ntmps12
    go_wp2
    go_ret
    exact ⟨by first | rfl | (simp [errW_none, errW_some] <;> rfl) | (simp [*, errW_none, errW_some] <;> rfl), by repeat (first | (with_reducible first | exact HB.out | apply below_alloc | apply pw_below_drewN | apply below_drew1) | exact HB.out)⟩
  · rw [if_neg c2] at H
    have c2b0 : decide (1048576 < (l0.length : Int)) = false := decide_eq_false c2
    have c2b1 : decide (1048576 < l0.length) = false := decide_eq_false (by omega)
    clear c2
    replace H := Option.bind_eq_some_iff.mp H
    obtain ⟨⟨t743, t744, t745⟩, A30, H⟩ := H
    replace H : ((impl_FinishTask.f t743 t744 t745).bind fun bt750 => ((spec_FinishTask.f k t743 t744 t745).bind fun bt754 => ((laws_equalInts.f k bt750.1 bt754.1).bind fun t758 => (if t758 = true then (if (bt750.2 != bt754.2) = true then (laws_FnFinishTaskReady.j0 k t743 t744 t745 bt750.1 bt750.2 bt754.1 bt754.2 true) else (laws_FnFinishTaskReady.j0 k t743 t744 t745 bt750.1 bt750.2 bt754.1 bt754.2 (!bt750.2))) else (laws_FnFinishTaskReady.j0 k t743 t744 t745 bt750.1 bt750.2 bt754.1 bt754.2 true))))) = some r := H
    have A3 := Aside0.mk A30
    clear A30
    replace H := Option.bind_eq_some_iff.mp H
    obtain ⟨⟨t750, t751⟩, A40, H⟩ := H
    replace H : ((spec_FinishTask.f k t743 t744 t745).bind fun bt754 => ((laws_equalInts.f k t750 bt754.1).bind fun t758 => (if t758 = true then (if (t751 != bt754.2) = true then (laws_FnFinishTaskReady.j0 k t743 t744 t745 t750 t751 bt754.1 bt754.2 true) else (laws_FnFinishTaskReady.j0 k t743 t744 t745 t750 t751 bt754.1 bt754.2 (!t751))) else (laws_FnFinishTaskReady.j0 k t743 t744 t745 t750 t751 bt754.1 bt754.2 true)))) = some r := H
    have A4 := Aside0.mk A40
    clear A40
    replace H := Option.bind_eq_some_iff.mp H
    obtain ⟨⟨t754, t755⟩, A50, H⟩ := H
    replace H : ((laws_equalInts.f k t750 t754).bind fun t758 => (if t758 = true then (if (t751 != t755) = true then (laws_FnFinishTaskReady.j0 k t743 t744 t745 t750 t751 t754 t755 true) else (laws_FnFinishTaskReady.j0 k t743 t744 t745 t750 t751 t754 t755 (!t751))) else (laws_FnFinishTaskReady.j0 k t743 t744 t745 t750 t751 t754 t755 true))) = some r := H
    have A5 := Aside0.mk A50
    clear A50
    have HC6 := Aside0.mk H
    clear H
    go_enter Tryd.func12, Tryd.ntmps12
    go_upto_region 6 with (first | ((with_reducible refine gate_callee (f := 44) rfl ?_); refine goesL_ (some 18) rfl rfl Tryd.func44 (by kernel_rfl) rfl #[.slice A0 l0.length c0] rfl (by (try simp only [List.map_toArray, List.map_cons, List.map_nil]); first | done | rfl | (simp only [List.length_drop, List.length_take]; rfl)) ?_; (with_reducible refine (spec_DrawFinishTask.calls k _ _ l0 t743 t744 t745 _ ?side1 ?side2 A3.out).mono ?_); (case side1 => repeat (first | exact HR0.out | (with_reducible refine Kd.C_alloc ?_ _) | (with_reducible refine Kd.C_drewN ?_ _) | (with_reducible refine Kd.C_drew ?_))); (case side2 => exact HC0.out); rintro e w7 ⟨v746, v748, rfl, ho0, ho1, hb⟩; refine ⟨_, rfl, ?_⟩; have n0_ := Aside0.mk (Kd.S_lower ho0 (below_size (by repeat (first | (with_reducible first | exact HB.out | apply below_alloc | apply pw_below_drewN | apply below_drew1) | exact HB.out)))); have n1_ := Aside0.mk (Kd.Q_lower ho1 (below_size (by repeat (first | (with_reducible first | exact HB.out | apply below_alloc | apply pw_below_drewN | apply below_drew1) | exact HB.out)))); have n2_ := Aside0.mk (below_step (by repeat (first | (with_reducible first | exact HB.out | apply below_alloc | apply pw_below_drewN | apply below_drew1) | exact HB.out)) hb); clear HB; have HO747 := n0_; have HO749 := n1_; have HB := n2_; clear n0_ n1_ n2_; (try clear hb); (try clear hb2); (try clear hk); (try clear hi); (try clear ho0); (try clear ho1); obtain ⟨Ao8, co8, eo8⟩ := Kd.S_slice HO747.out; subst eo8; obtain ⟨Ao9, co9, eo9, _⟩ := Kd.Q_slice HO749.out; subst eo9) | ((with_reducible refine gate_callee (f := 45) rfl ?_); refine goesL_ (some 26) rfl rfl Tryd.func45 (by kernel_rfl) rfl #[.slice Ao8 t743.length co8, .slice Ao9 t744.length co9, .int .i64 t745] rfl (by (try simp only [List.map_toArray, List.map_cons, List.map_nil]); first | done | rfl | (simp only [List.length_drop, List.length_take]; rfl)) ?_; (with_reducible refine (impl_FinishTask.calls _ _ t743 _ _ t744 t745 t750 t751 _ ?side1 ?side2 ?side3 ?side4 ?side5 A4.out).mono ?_); (case side1 => repeat (first | exact (Kd.S_reads' HO747.out).2.2 | (with_reducible refine Kd.C_alloc ?_ _) | (with_reducible refine Kd.C_drewN ?_ _) | (with_reducible refine Kd.C_drew ?_))); (case side2 => exact (Kd.S_reads' HO747.out).2.1); (case side3 => repeat (first | exact (Kd.Q_reads' HO749.out).2.2 | (with_reducible refine Kd.C_alloc ?_ _) | (with_reducible refine Kd.C_drewN ?_ _) | (with_reducible refine Kd.C_drew ?_))); (case side4 => exact (Kd.Q_reads' HO749.out).2.1); (case side5 => exact Tab.of HT.out (by repeat (first | (with_reducible first | exact HB.out | apply below_alloc | apply pw_below_drewN | apply below_drew1) | exact HB.out))); rintro e w10 ⟨v752, rfl, ho0, hb⟩; refine ⟨_, rfl, ?_⟩; have n0_ := Aside0.mk (Kd.S_elder' (by (with_reducible repeat (first | apply Kd.S_alloc | apply Kd.S_drewN | apply Kd.S_drew)); exact HO747.out) (Kd.R_base ho0) hb); have n1_ := Aside0.mk (Kd.Q_elder' (by (with_reducible repeat (first | apply Kd.Q_alloc | apply Kd.Q_drewN | apply Kd.Q_drew)); exact HO749.out) (Kd.R_base ho0) hb); have n2_ := Aside0.mk (Kd.R_lower (Kd.R_new' ho0 (Kd.Q_lt (by (with_reducible repeat (first | apply Kd.Q_alloc | apply Kd.Q_drewN | apply Kd.Q_drew)); exact HO749.out))) (below_size (by repeat (first | (with_reducible first | exact HB.out | apply below_alloc | apply pw_below_drewN | apply below_drew1) | exact HB.out)))); have n3_ := Aside0.mk (below_step (by repeat (first | (with_reducible first | exact HB.out | apply below_alloc | apply pw_below_drewN | apply below_drew1) | exact HB.out)) hb); clear HO747; clear HO749; clear HB; have HO747 := n0_; have HO749 := n1_; have HO753 := n2_; have HB := n3_; clear n0_ n1_ n2_ n3_; (try clear hb); (try clear hb2); (try clear hk); (try clear hi); (try clear ho0)) | ((with_reducible refine gate_callee (f := 46) rfl ?_); refine goesL_ (some 33) rfl rfl Tryd.func46 (by kernel_rfl) rfl #[.slice Ao8 t743.length co8, .slice Ao9 t744.length co9, .int .i64 t745] rfl (by (try simp only [List.map_toArray, List.map_cons, List.map_nil]); first | done | rfl | (simp only [List.length_drop, List.length_take]; rfl)) ?_; (with_reducible refine (spec_FinishTask.calls k _ _ t743 _ _ t744 t745 t754 t755 _ ?side1 ?side2 ?side3 ?side4 A5.out).mono ?_); (case side1 => repeat (first | exact (Kd.S_reads' HO747.out).2.2 | (with_reducible refine Kd.C_alloc ?_ _) | (with_reducible refine Kd.C_drewN ?_ _) | (with_reducible refine Kd.C_drew ?_))); (case side2 => exact (Kd.S_reads' HO747.out).2.1); (case side3 => repeat (first | exact (Kd.Q_reads' HO749.out).2.2 | (with_reducible refine Kd.C_alloc ?_ _) | (with_reducible refine Kd.C_drewN ?_ _) | (with_reducible refine Kd.C_drew ?_))); (case side4 => exact (Kd.Q_reads' HO749.out).2.1); rintro e w11 ⟨v756, rfl, ho0, hb⟩; refine ⟨_, rfl, ?_⟩; have n0_ := Aside0.mk (Kd.S_elder' (by (with_reducible repeat (first | apply Kd.S_alloc | apply Kd.S_drewN | apply Kd.S_drew)); exact HO747.out) (Kd.R_base ho0) hb); have n1_ := Aside0.mk (Kd.Q_elder' (by (with_reducible repeat (first | apply Kd.Q_alloc | apply Kd.Q_drewN | apply Kd.Q_drew)); exact HO749.out) (Kd.R_base ho0) hb); have n2_ := Aside0.mk (Kd.R_elder' (by (with_reducible repeat (first | apply Kd.R_alloc | apply Kd.R_drewN | apply Kd.R_drew)); exact HO753.out) (Kd.R_base ho0) hb); have n3_ := Aside0.mk (Kd.R_lower (Kd.R_new' (Kd.R_new' ho0 (Kd.Q_lt (by (with_reducible repeat (first | apply Kd.Q_alloc | apply Kd.Q_drewN | apply Kd.Q_drew)); exact HO749.out))) (Kd.R_lt (by (with_reducible repeat (first | apply Kd.R_alloc | apply Kd.R_drewN | apply Kd.R_drew)); exact HO753.out))) (below_size (by repeat (first | (with_reducible first | exact HB.out | apply below_alloc | apply pw_below_drewN | apply below_drew1) | exact HB.out)))); have n4_ := Aside0.mk (below_step (by repeat (first | (with_reducible first | exact HB.out | apply below_alloc | apply pw_below_drewN | apply below_drew1) | exact HB.out)) hb); clear HO747; clear HO749; clear HO753; clear HB; have HO747 := n0_; have HO749 := n1_; have HO753 := n2_; have HO757 := n3_; have HB := n4_; clear n0_ n1_ n2_ n3_ n4_; (try clear hb); (try clear hb2); (try clear hk); (try clear hi); (try clear ho0)))
    (try simp only [Act.put, List.setIfInBounds_toArray, List.set_cons_zero, List.set_cons_succ])
    go_cut [48] (fun v48 wc => ∃ (kq : Nat) (x48_5 : Bool), v48 = .bool x48_5 ∧ Aside0 (laws_FnFinishTaskReady.j0 kq t743 t744 t745 t750 t751 t754 t755 x48_5 = some r) ∧ Aside0 (kq ≤ k) ∧ Aside0 (Kd.S k37 37 wc w.heap.size (fun k_ => some k_ ≠ ((.slice Ao9 t744.length co9) : Value).ownBlock ∧ some k_ ≠ (v752 : Value).ownBlock ∧ some k_ ≠ (v756 : Value).ownBlock) (.slice Ao8 t743.length co8) t743) ∧ Aside0 (Kd.Q (Kd.int .i64) 3 wc w.heap.size (fun k_ => some k_ ≠ (v752 : Value).ownBlock ∧ some k_ ≠ (v756 : Value).ownBlock) (.slice Ao9 t744.length co9) t744) ∧ Aside0 (Kd.R (Kd.int .i64) 3 wc w.heap.size (fun k_ => some k_ ≠ ((.slice Ao9 t744.length co9) : Value).ownBlock ∧ some k_ ≠ (v756 : Value).ownBlock) v752 t750) ∧ Aside0 (Kd.R (Kd.int .i64) 3 wc w.heap.size (fun k_ => some k_ ≠ ((.slice Ao9 t744.length co9) : Value).ownBlock ∧ some k_ ≠ (v752 : Value).ownBlock) v756 t754) ∧ Aside0 (Below w.heap.size w wc))
    case first =>
      have H := HC6.out
      clear HC6
      replace H := Option.bind_eq_some_iff.mp H
      obtain ⟨t758, A120, H⟩ := H
      replace H : (if t758 = true then (if (t751 != t755) = true then (laws_FnFinishTaskReady.j0 k t743 t744 t745 t750 t751 t754 t755 true) else (laws_FnFinishTaskReady.j0 k t743 t744 t745 t750 t751 t754 t755 (!t751))) else (laws_FnFinishTaskReady.j0 k t743 t744 t745 t750 t751 t754 t755 true)) = some r := H
      have A12 := Aside0.mk A120
      clear A120
      by_cases c13 : t758 = true
      · subst c13
        have H1 : (if (t751 != t755) = true then (laws_FnFinishTaskReady.j0 k t743 t744 t745 t750 t751 t754 t755 true) else (laws_FnFinishTaskReady.j0 k t743 t744 t745 t750 t751 t754 t755 (!t751))) = some r := by rw [if_pos rfl] at H; exact H
        clear H
        have H := H1
        clear H1
        by_cases c14 : (t751 != t755) = true
        · rw [if_pos c14] at H
          have c14b0 : (t751 != t755) = true := c14
          (try (have c14b1 : decide (t751 = t755) = false := by simpa using c14))
          (try (have c14b2 : (t751 == t755) = false := by simpa using c14))
          (try (have c14b3 : ¬ (t751 = t755) := by simpa using c14))
          clear c14
          (first | rw [c14b0] | (simp only [i64_w, i32_w]; rw [c14b0]) | skip)
          have H' := Aside0.mk H
          clear H
          obtain ⟨Ao15, co15, eo15⟩ := Kd.R_slice HO753.out
          subst eo15
          obtain ⟨Ao16, co16, eo16⟩ := Kd.R_slice HO757.out
          subst eo16
          go_wp2_with (first | ((with_reducible refine gate_callee (f := 33) rfl ?_); refine goesL_ (some 38) rfl rfl Tryd.func33 (by kernel_rfl) rfl #[.slice Ao15 t750.length co15, .slice Ao16 t754.length co16] rfl (by (try simp only [List.map_toArray, List.map_cons, List.map_nil]); first | done | rfl | (simp only [List.length_drop, List.length_take]; rfl)) ?_; (with_reducible refine (laws_equalInts.calls k _ _ t750 _ _ t754 true _ ?side1 ?side2 ?side3 ?side4 A12.out).mono ?_); (case side1 => repeat (first | exact (Kd.R_reads' HO753.out).2.2 | (with_reducible refine Kd.C_alloc ?_ _) | (with_reducible refine Kd.C_drewN ?_ _) | (with_reducible refine Kd.C_drew ?_))); (case side2 => exact (Kd.R_reads' HO753.out).2.1); (case side3 => repeat (first | exact (Kd.R_reads' HO757.out).2.2 | (with_reducible refine Kd.C_alloc ?_ _) | (with_reducible refine Kd.C_drewN ?_ _) | (with_reducible refine Kd.C_drew ?_))); (case side4 => exact (Kd.R_reads' HO757.out).2.1); rintro e w' ⟨rfl, ⟨nd, rfl⟩⟩; refine ⟨_, rfl, ?_⟩))
          go_meet
          case rel => exact ⟨_, (true), (by first | rfl | (simp; done) | (simp [*]; done)), H', ⟨by first | omega | exact Nat.le_refl _⟩, ⟨by (with_reducible repeat (first | apply Kd.S_alloc | apply Kd.S_drewN | apply Kd.S_drew)); exact Kd.S_mono HO747.out (fun _ hk => ⟨hk.1.1, ⟨hk.1.2, hk.2⟩⟩)⟩, ⟨by (with_reducible repeat (first | apply Kd.Q_alloc | apply Kd.Q_drewN | apply Kd.Q_drew)); exact Kd.Q_mono HO749.out (fun _ hk => ⟨hk.1.2, hk.2⟩)⟩, ⟨by (with_reducible repeat (first | apply Kd.R_alloc | apply Kd.R_drewN | apply Kd.R_drew)); exact Kd.R_mono HO753.out (fun _ hk => ⟨hk.1.2, hk.2⟩)⟩, ⟨by (with_reducible repeat (first | apply Kd.R_alloc | apply Kd.R_drewN | apply Kd.R_drew)); exact Kd.R_mono HO757.out (fun _ hk => ⟨hk.1.2, hk.2⟩)⟩, ⟨by repeat (first | (with_reducible first | exact HB.out | apply below_alloc | apply pw_below_drewN | apply below_drew1) | exact HB.out)⟩⟩
        · rw [if_neg c14] at H
          have c14b0 : (t751 != t755) = false := by simpa using c14
          (try (have c14b1 : decide (t751 = t755) = true := by simpa using c14))
          (try (have c14b2 : (t751 == t755) = true := by simpa using c14))
          clear c14
          (first | rw [c14b0] | (simp only [i64_w, i32_w]; rw [c14b0]) | skip)
          have H' := Aside0.mk H
          clear H
          obtain ⟨Ao17, co17, eo17⟩ := Kd.R_slice HO753.out
          subst eo17
          obtain ⟨Ao18, co18, eo18⟩ := Kd.R_slice HO757.out
          subst eo18
          go_wp2_with (first | ((with_reducible refine gate_callee (f := 33) rfl ?_); refine goesL_ (some 38) rfl rfl Tryd.func33 (by kernel_rfl) rfl #[.slice Ao17 t750.length co17, .slice Ao18 t754.length co18] rfl (by (try simp only [List.map_toArray, List.map_cons, List.map_nil]); first | done | rfl | (simp only [List.length_drop, List.length_take]; rfl)) ?_; (with_reducible refine (laws_equalInts.calls k _ _ t750 _ _ t754 true _ ?side1 ?side2 ?side3 ?side4 A12.out).mono ?_); (case side1 => repeat (first | exact (Kd.R_reads' HO753.out).2.2 | (with_reducible refine Kd.C_alloc ?_ _) | (with_reducible refine Kd.C_drewN ?_ _) | (with_reducible refine Kd.C_drew ?_))); (case side2 => exact (Kd.R_reads' HO753.out).2.1); (case side3 => repeat (first | exact (Kd.R_reads' HO757.out).2.2 | (with_reducible refine Kd.C_alloc ?_ _) | (with_reducible refine Kd.C_drewN ?_ _) | (with_reducible refine Kd.C_drew ?_))); (case side4 => exact (Kd.R_reads' HO757.out).2.1); rintro e w' ⟨rfl, ⟨nd, rfl⟩⟩; refine ⟨_, rfl, ?_⟩))
          go_meet
          case rel => exact ⟨_, (!t751), (by first | rfl | (simp; done) | (simp [*]; done)), H', ⟨by first | omega | exact Nat.le_refl _⟩, ⟨by (with_reducible repeat (first | apply Kd.S_alloc | apply Kd.S_drewN | apply Kd.S_drew)); exact Kd.S_mono HO747.out (fun _ hk => ⟨hk.1.1, ⟨hk.1.2, hk.2⟩⟩)⟩, ⟨by (with_reducible repeat (first | apply Kd.Q_alloc | apply Kd.Q_drewN | apply Kd.Q_drew)); exact Kd.Q_mono HO749.out (fun _ hk => ⟨hk.1.2, hk.2⟩)⟩, ⟨by (with_reducible repeat (first | apply Kd.R_alloc | apply Kd.R_drewN | apply Kd.R_drew)); exact Kd.R_mono HO753.out (fun _ hk => ⟨hk.1.2, hk.2⟩)⟩, ⟨by (with_reducible repeat (first | apply Kd.R_alloc | apply Kd.R_drewN | apply Kd.R_drew)); exact Kd.R_mono HO757.out (fun _ hk => ⟨hk.1.2, hk.2⟩)⟩, ⟨by repeat (first | (with_reducible first | exact HB.out | apply below_alloc | apply pw_below_drewN | apply below_drew1) | exact HB.out)⟩⟩
      · replace c13 := Bool.eq_false_iff.mpr c13
        subst c13
        have H1 : (laws_FnFinishTaskReady.j0 k t743 t744 t745 t750 t751 t754 t755 true) = some r := by rw [if_neg (show ¬ (false = true) by decide)] at H; exact H
        clear H
        have H := H1
        clear H1
        have H' := Aside0.mk H
        clear H
        obtain ⟨Ao19, co19, eo19⟩ := Kd.R_slice HO753.out
        subst eo19
        obtain ⟨Ao20, co20, eo20⟩ := Kd.R_slice HO757.out
        subst eo20
        go_wp2_with (first | ((with_reducible refine gate_callee (f := 33) rfl ?_); refine goesL_ (some 38) rfl rfl Tryd.func33 (by kernel_rfl) rfl #[.slice Ao19 t750.length co19, .slice Ao20 t754.length co20] rfl (by (try simp only [List.map_toArray, List.map_cons, List.map_nil]); first | done | rfl | (simp only [List.length_drop, List.length_take]; rfl)) ?_; (with_reducible refine (laws_equalInts.calls k _ _ t750 _ _ t754 false _ ?side1 ?side2 ?side3 ?side4 A12.out).mono ?_); (case side1 => repeat (first | exact (Kd.R_reads' HO753.out).2.2 | (with_reducible refine Kd.C_alloc ?_ _) | (with_reducible refine Kd.C_drewN ?_ _) | (with_reducible refine Kd.C_drew ?_))); (case side2 => exact (Kd.R_reads' HO753.out).2.1); (case side3 => repeat (first | exact (Kd.R_reads' HO757.out).2.2 | (with_reducible refine Kd.C_alloc ?_ _) | (with_reducible refine Kd.C_drewN ?_ _) | (with_reducible refine Kd.C_drew ?_))); (case side4 => exact (Kd.R_reads' HO757.out).2.1); rintro e w' ⟨rfl, ⟨nd, rfl⟩⟩; refine ⟨_, rfl, ?_⟩))
        go_meet
        case rel => exact ⟨_, (true), (by first | rfl | (simp; done) | (simp [*]; done)), H', ⟨by first | omega | exact Nat.le_refl _⟩, ⟨by (with_reducible repeat (first | apply Kd.S_alloc | apply Kd.S_drewN | apply Kd.S_drew)); exact Kd.S_mono HO747.out (fun _ hk => ⟨hk.1.1, ⟨hk.1.2, hk.2⟩⟩)⟩, ⟨by (with_reducible repeat (first | apply Kd.Q_alloc | apply Kd.Q_drewN | apply Kd.Q_drew)); exact Kd.Q_mono HO749.out (fun _ hk => ⟨hk.1.2, hk.2⟩)⟩, ⟨by (with_reducible repeat (first | apply Kd.R_alloc | apply Kd.R_drewN | apply Kd.R_drew)); exact Kd.R_mono HO753.out (fun _ hk => ⟨hk.1.2, hk.2⟩)⟩, ⟨by (with_reducible repeat (first | apply Kd.R_alloc | apply Kd.R_drewN | apply Kd.R_drew)); exact Kd.R_mono HO757.out (fun _ hk => ⟨hk.1.2, hk.2⟩)⟩, ⟨by repeat (first | (with_reducible first | exact HB.out | apply below_alloc | apply pw_below_drewN | apply below_drew1) | exact HB.out)⟩⟩
    case rest =>
      clear HC6
      try clear c1
      try clear c2
      try clear c2b0
      try clear c2b1
      try clear p2
      try clear c3
      try clear c4
      try clear c12
      try clear c13
      try clear c14
      try clear c14b0
      try clear c14b1
      try clear c14b2
      obtain ⟨kq, x48_5, rfl, HA, HJ5, HO_3, HO_4, HO_6, HO_8, HB⟩ := hcut
      cases kq with
      | zero => exact absurd HA.out (by simp [laws_FnFinishTaskReady.j0])
      | succ kj5 =>
        have H := HA.out
        clear HA
        simp only [laws_FnFinishTaskReady.j0] at H
        by_cases c21 : x48_5 = true
        · subst c21
          have H1 : ((laws_equalInts.f kj5 t750 t754).bind fun t759 => (if t759 = true then (some (t751 == t755)) else (some false))) = some r := by rw [if_pos rfl] at H; exact H
          clear H
          have H := H1
          clear H1
          replace H := Option.bind_eq_some_iff.mp H
          obtain ⟨t759, A220, H⟩ := H
          replace H : (if t759 = true then (some (t751 == t755)) else (some false)) = some r := H
          have A22 := Aside0.mk A220
          clear A220
          by_cases c23 : t759 = true
          · subst c23
            have H1 : (some (t751 == t755)) = some r := by rw [if_pos rfl] at H; exact H
            clear H
            have H := H1
            clear H1
            obtain rfl := Option.some.inj H
            obtain ⟨Ao24, co24, eo24⟩ := Kd.R_slice HO_6.out
            subst eo24
            obtain ⟨Ao25, co25, eo25⟩ := Kd.R_slice HO_8.out
            subst eo25
            go_wp2_with (first | ((with_reducible refine gate_callee (f := 33) rfl ?_); refine goesL_ (some 51) rfl rfl Tryd.func33 (by kernel_rfl) rfl #[.slice Ao24 t750.length co24, .slice Ao25 t754.length co25] rfl (by (try simp only [List.map_toArray, List.map_cons, List.map_nil]); first | done | rfl | (simp only [List.length_drop, List.length_take]; rfl)) ?_; (with_reducible refine (laws_equalInts.calls kj5 _ _ t750 _ _ t754 true _ ?side1 ?side2 ?side3 ?side4 A22.out).mono ?_); (case side1 => repeat (first | exact (Kd.R_reads' HO_6.out).2.2 | (with_reducible refine Kd.C_alloc ?_ _) | (with_reducible refine Kd.C_drewN ?_ _) | (with_reducible refine Kd.C_drew ?_))); (case side2 => exact (Kd.R_reads' HO_6.out).2.1); (case side3 => repeat (first | exact (Kd.R_reads' HO_8.out).2.2 | (with_reducible refine Kd.C_alloc ?_ _) | (with_reducible refine Kd.C_drewN ?_ _) | (with_reducible refine Kd.C_drew ?_))); (case side4 => exact (Kd.R_reads' HO_8.out).2.1); rintro e w' ⟨rfl, ⟨nd, rfl⟩⟩; refine ⟨_, rfl, ?_⟩))
            go_ret
            exact ⟨by first | rfl | (simp [errW_none, errW_some] <;> rfl) | (simp [*, errW_none, errW_some] <;> rfl), by repeat (first | (with_reducible first | exact HB.out | apply below_alloc | apply pw_below_drewN | apply below_drew1) | exact HB.out)⟩
          · replace c23 := Bool.eq_false_iff.mpr c23
            subst c23
            have H1 : (some false) = some r := by rw [if_neg (show ¬ (false = true) by decide)] at H; exact H
            clear H
            have H := H1
            clear H1
            obtain rfl := Option.some.inj H
            obtain ⟨Ao26, co26, eo26⟩ := Kd.R_slice HO_6.out
            subst eo26
            obtain ⟨Ao27, co27, eo27⟩ := Kd.R_slice HO_8.out
            subst eo27
            go_wp2_with (first | ((with_reducible refine gate_callee (f := 33) rfl ?_); refine goesL_ (some 51) rfl rfl Tryd.func33 (by kernel_rfl) rfl #[.slice Ao26 t750.length co26, .slice Ao27 t754.length co27] rfl (by (try simp only [List.map_toArray, List.map_cons, List.map_nil]); first | done | rfl | (simp only [List.length_drop, List.length_take]; rfl)) ?_; (with_reducible refine (laws_equalInts.calls kj5 _ _ t750 _ _ t754 false _ ?side1 ?side2 ?side3 ?side4 A22.out).mono ?_); (case side1 => repeat (first | exact (Kd.R_reads' HO_6.out).2.2 | (with_reducible refine Kd.C_alloc ?_ _) | (with_reducible refine Kd.C_drewN ?_ _) | (with_reducible refine Kd.C_drew ?_))); (case side2 => exact (Kd.R_reads' HO_6.out).2.1); (case side3 => repeat (first | exact (Kd.R_reads' HO_8.out).2.2 | (with_reducible refine Kd.C_alloc ?_ _) | (with_reducible refine Kd.C_drewN ?_ _) | (with_reducible refine Kd.C_drew ?_))); (case side4 => exact (Kd.R_reads' HO_8.out).2.1); rintro e w' ⟨rfl, ⟨nd, rfl⟩⟩; refine ⟨_, rfl, ?_⟩))
            go_ret
            exact ⟨by first | rfl | (simp [errW_none, errW_some] <;> rfl) | (simp [*, errW_none, errW_some] <;> rfl), by repeat (first | (with_reducible first | exact HB.out | apply below_alloc | apply pw_below_drewN | apply below_drew1) | exact HB.out)⟩
        · replace c21 := Bool.eq_false_iff.mpr c21
          subst c21
          have H1 : ((impl_ReadyTasks.f t743 t744).bind fun t760 => ((impl_ReadyTasks.f t743 t750).bind fun t763 => (laws_FnFinishTaskReady.l0 kj5 t743 t745 t760 t763 0))) = some r := by rw [if_neg (show ¬ (false = true) by decide)] at H; exact H
          clear H
          have H := H1
          clear H1
          replace H := Option.bind_eq_some_iff.mp H
          obtain ⟨t760, A280, H⟩ := H
          replace H : ((impl_ReadyTasks.f t743 t750).bind fun t763 => (laws_FnFinishTaskReady.l0 kj5 t743 t745 t760 t763 0)) = some r := H
          have A28 := Aside0.mk A280
          clear A280
          replace H := Option.bind_eq_some_iff.mp H
          obtain ⟨t763, A290, H⟩ := H
          replace H : (laws_FnFinishTaskReady.l0 kj5 t743 t745 t760 t763 0) = some r := H
          have A29 := Aside0.mk A290
          clear A290
          have H' := Aside0.mk H
          clear H
          go_wp2_with (first | ((with_reducible refine gate_callee (f := 49) rfl ?_); refine goesL_ (some 59) rfl rfl Tryd.func49 (by kernel_rfl) rfl #[.slice Ao8 t743.length co8, .slice Ao9 t744.length co9] rfl (by (try simp only [List.map_toArray, List.map_cons, List.map_nil]); first | done | rfl | (simp only [List.length_drop, List.length_take]; rfl)) ?_; (with_reducible refine (impl_ReadyTasks.calls _ _ t743 _ _ t744 t760 _ ?side1 ?side2 ?side3 ?side4 ?side5 A28.out).mono ?_); (case side1 => repeat (first | exact (Kd.S_reads' HO_3.out).2.2 | (with_reducible refine Kd.C_alloc ?_ _) | (with_reducible refine Kd.C_drewN ?_ _) | (with_reducible refine Kd.C_drew ?_))); (case side2 => exact (Kd.S_reads' HO_3.out).2.1); (case side3 => repeat (first | exact (Kd.Q_reads' HO_4.out).2.2 | (with_reducible refine Kd.C_alloc ?_ _) | (with_reducible refine Kd.C_drewN ?_ _) | (with_reducible refine Kd.C_drew ?_))); (case side4 => exact (Kd.Q_reads' HO_4.out).2.1); (case side5 => exact Tab.of HT.out (by repeat (first | (with_reducible first | exact HB.out | apply below_alloc | apply pw_below_drewN | apply below_drew1) | exact HB.out))); rintro e w30 ⟨v761, rfl, ho0, hb⟩; refine ⟨_, rfl, ?_⟩; have n0_ := Aside0.mk (Kd.S_elder' (by (with_reducible repeat (first | apply Kd.S_alloc | apply Kd.S_drewN | apply Kd.S_drew)); exact HO_3.out) (Kd.R_base ho0) hb); have n1_ := Aside0.mk (Kd.Q_elder' (by (with_reducible repeat (first | apply Kd.Q_alloc | apply Kd.Q_drewN | apply Kd.Q_drew)); exact HO_4.out) (Kd.R_base ho0) hb); have n2_ := Aside0.mk (Kd.R_elder' (by (with_reducible repeat (first | apply Kd.R_alloc | apply Kd.R_drewN | apply Kd.R_drew)); exact HO_6.out) (Kd.R_base ho0) hb); have n3_ := Aside0.mk (Kd.R_elder' (by (with_reducible repeat (first | apply Kd.R_alloc | apply Kd.R_drewN | apply Kd.R_drew)); exact HO_8.out) (Kd.R_base ho0) hb); have n4_ := Aside0.mk (Kd.R_lower (Kd.R_new' (Kd.R_new' (Kd.R_new' ho0 (Kd.Q_lt (by (with_reducible repeat (first | apply Kd.Q_alloc | apply Kd.Q_drewN | apply Kd.Q_drew)); exact HO_4.out))) (Kd.R_lt (by (with_reducible repeat (first | apply Kd.R_alloc | apply Kd.R_drewN | apply Kd.R_drew)); exact HO_6.out))) (Kd.R_lt (by (with_reducible repeat (first | apply Kd.R_alloc | apply Kd.R_drewN | apply Kd.R_drew)); exact HO_8.out))) (below_size (by repeat (first | (with_reducible first | exact HB.out | apply below_alloc | apply pw_below_drewN | apply below_drew1) | exact HB.out)))); have n5_ := Aside0.mk (below_step (by repeat (first | (with_reducible first | exact HB.out | apply below_alloc | apply pw_below_drewN | apply below_drew1) | exact HB.out)) hb); clear HO_3; clear HO_4; clear HO_6; clear HO_8; clear HB; have HO_3 := n0_; have HO_4 := n1_; have HO_6 := n2_; have HO_8 := n3_; have HO762 := n4_; have HB := n5_; clear n0_ n1_ n2_ n3_ n4_ n5_; (try clear hb); (try clear hb2); (try clear hk); (try clear hi); (try clear ho0); obtain ⟨Ao31, co31, eo31⟩ := Kd.R_slice HO_6.out; subst eo31) | ((with_reducible refine gate_callee (f := 49) rfl ?_); refine goesL_ (some 62) rfl rfl Tryd.func49 (by kernel_rfl) rfl #[.slice Ao8 t743.length co8, .slice Ao31 t750.length co31] rfl (by (try simp only [List.map_toArray, List.map_cons, List.map_nil]); first | done | rfl | (simp only [List.length_drop, List.length_take]; rfl)) ?_; (with_reducible refine (impl_ReadyTasks.calls _ _ t743 _ _ t750 t763 _ ?side1 ?side2 ?side3 ?side4 ?side5 A29.out).mono ?_); (case side1 => repeat (first | exact (Kd.S_reads' HO_3.out).2.2 | (with_reducible refine Kd.C_alloc ?_ _) | (with_reducible refine Kd.C_drewN ?_ _) | (with_reducible refine Kd.C_drew ?_))); (case side2 => exact (Kd.S_reads' HO_3.out).2.1); (case side3 => repeat (first | exact (Kd.R_reads' HO_6.out).2.2 | (with_reducible refine Kd.C_alloc ?_ _) | (with_reducible refine Kd.C_drewN ?_ _) | (with_reducible refine Kd.C_drew ?_))); (case side4 => exact (Kd.R_reads' HO_6.out).2.1); (case side5 => exact Tab.of HT.out (by repeat (first | (with_reducible first | exact HB.out | apply below_alloc | apply pw_below_drewN | apply below_drew1) | exact HB.out))); rintro e w32 ⟨v764, rfl, ho0, hb⟩; refine ⟨_, rfl, ?_⟩; have n0_ := Aside0.mk (Kd.S_elder' (by (with_reducible repeat (first | apply Kd.S_alloc | apply Kd.S_drewN | apply Kd.S_drew)); exact HO_3.out) (Kd.R_base ho0) hb); have n1_ := Aside0.mk (Kd.Q_elder' (by (with_reducible repeat (first | apply Kd.Q_alloc | apply Kd.Q_drewN | apply Kd.Q_drew)); exact HO_4.out) (Kd.R_base ho0) hb); have n2_ := Aside0.mk (Kd.R_elder' (by (with_reducible repeat (first | apply Kd.R_alloc | apply Kd.R_drewN | apply Kd.R_drew)); exact HO_6.out) (Kd.R_base ho0) hb); have n3_ := Aside0.mk (Kd.R_elder' (by (with_reducible repeat (first | apply Kd.R_alloc | apply Kd.R_drewN | apply Kd.R_drew)); exact HO_8.out) (Kd.R_base ho0) hb); have n4_ := Aside0.mk (Kd.R_elder' (by (with_reducible repeat (first | apply Kd.R_alloc | apply Kd.R_drewN | apply Kd.R_drew)); exact HO762.out) (Kd.R_base ho0) hb); have n5_ := Aside0.mk (Kd.R_lower (Kd.R_new' (Kd.R_new' (Kd.R_new' (Kd.R_new' ho0 (Kd.Q_lt (by (with_reducible repeat (first | apply Kd.Q_alloc | apply Kd.Q_drewN | apply Kd.Q_drew)); exact HO_4.out))) (Kd.R_lt (by (with_reducible repeat (first | apply Kd.R_alloc | apply Kd.R_drewN | apply Kd.R_drew)); exact HO_6.out))) (Kd.R_lt (by (with_reducible repeat (first | apply Kd.R_alloc | apply Kd.R_drewN | apply Kd.R_drew)); exact HO_8.out))) (Kd.R_lt (by (with_reducible repeat (first | apply Kd.R_alloc | apply Kd.R_drewN | apply Kd.R_drew)); exact HO762.out))) (below_size (by repeat (first | (with_reducible first | exact HB.out | apply below_alloc | apply pw_below_drewN | apply below_drew1) | exact HB.out)))); have n6_ := Aside0.mk (below_step (by repeat (first | (with_reducible first | exact HB.out | apply below_alloc | apply pw_below_drewN | apply below_drew1) | exact HB.out)) hb); clear HO_3; clear HO_4; clear HO_6; clear HO_8; clear HO762; clear HB; have HO_3 := n0_; have HO_4 := n1_; have HO_6 := n2_; have HO_8 := n3_; have HO762 := n4_; have HO765 := n5_; have HB := n6_; clear n0_ n1_ n2_ n3_ n4_ n5_ n6_; (try clear hb); (try clear hb2); (try clear hk); (try clear hi); (try clear ho0)))
          go_loopg [12] kj5 (fun kq v12 w' => ∃ (x12_2 : Int), v12 = .int .i64 x12_2 ∧ Aside0 (laws_FnFinishTaskReady.l0 kq t743 t745 t760 t763 x12_2 = some r) ∧ Aside0 (kq ≤ kj5) ∧ Aside0 (Kd.S k37 37 w' w.heap.size (fun k_ => some k_ ≠ (v761 : Value).ownBlock ∧ some k_ ≠ (v764 : Value).ownBlock) (.slice Ao8 t743.length co8) t743) ∧ Aside0 (Kd.R (Kd.int .i64) 3 w' w.heap.size (fun k_ => some k_ ≠ (v764 : Value).ownBlock) v761 t760) ∧ Aside0 (Kd.R (Kd.int .i64) 3 w' w.heap.size (fun k_ => some k_ ≠ (v761 : Value).ownBlock) v764 t763) ∧ Aside0 (Below w.heap.size w w'))
          case atStart => exact ⟨(0), (by first | rfl | (simp; done) | (simp [*]; done)), H', ⟨Nat.le_refl _⟩, ⟨by (with_reducible repeat (first | apply Kd.S_alloc | apply Kd.S_drewN | apply Kd.S_drew)); exact Kd.S_mono HO_3.out (fun _ hk => ⟨hk.1.2, hk.2⟩)⟩, ⟨by (with_reducible repeat (first | apply Kd.R_alloc | apply Kd.R_drewN | apply Kd.R_drew)); exact Kd.R_mono HO762.out (fun _ hk => hk.2)⟩, ⟨by (with_reducible repeat (first | apply Kd.R_alloc | apply Kd.R_drewN | apply Kd.R_drew)); exact Kd.R_mono HO765.out (fun _ hk => hk.2)⟩, ⟨by repeat (first | (with_reducible first | exact HB.out | apply below_alloc | apply pw_below_drewN | apply below_drew1) | exact HB.out)⟩⟩
          case round =>
            clear H'
            try clear c1
            try clear c2
            try clear c2b0
            try clear c2b1
            try clear p2
            try clear c3
            try clear c4
            try clear c12
            try clear c13
            try clear c14
            try clear c14b0
            try clear c14b1
            try clear c14b2
            try clear c21
            try clear c23
            try clear p2
            obtain ⟨x12_2, rfl, HA, HK2, HO_3, HO_10, HO_11, HB⟩ := hrel
            cases gk with
            | zero => exact absurd HA.out (by simp [laws_FnFinishTaskReady.l0])
            | succ k2 =>
              have H := HA.out
              clear HA
              simp only [laws_FnFinishTaskReady.l0] at H
              by_cases c33 : x12_2 < (t763.length : Int)
              · rw [if_pos c33] at H
                have c33b0 : decide (x12_2 < (t763.length : Int)) = true := decide_eq_true c33
                clear c33
                by_cases c34 : 0 ≤ x12_2
                · rw [if_pos c34] at H
                  have c34b0 : decide (0 ≤ x12_2) = true := decide_eq_true c34
                  clear c34
                  replace H := Option.bind_eq_some_iff.mp H
                  obtain ⟨t768, A350, H⟩ := H
                  replace H : (if t768 = true then (laws_FnFinishTaskReady.l0 k2 t743 t745 t760 t763 (wrap64 (x12_2 + 1))) else (if 0 ≤ (rd t763 x12_2) then (if (rd t763 x12_2) < (t743.length : Int) then ((laws_isIn.f k2 ((rd_T37 t743 (rd t763 x12_2)).f1) t745).bind fun t771 => (if t771 = true then (laws_FnFinishTaskReady.l0 k2 t743 t745 t760 t763 (wrap64 (x12_2 + 1))) else (some false))) else (none)) else (none))) = some r := H
                  have A35 := Aside0.mk A350
                  clear A350
                  by_cases c36 : t768 = true
                  · subst c36
                    have H1 : (laws_FnFinishTaskReady.l0 k2 t743 t745 t760 t763 (wrap64 (x12_2 + 1))) = some r := by rw [if_pos rfl] at H; exact H
                    clear H
                    have H := H1
                    clear H1
                    have H' := Aside0.mk H
                    clear H
                    obtain ⟨Ao37, co37, eo37⟩ := Kd.R_slice HO_11.out
                    subst eo37
                    have p767 : 0 ≤ (x12_2 : Int) := of_decide_eq_true (by first | (with_reducible assumption) | assumption)
                    have q767 : x12_2 < (t763.length : Int) := of_decide_eq_true (by first | (with_reducible assumption) | assumption)
                    obtain ⟨ad767, e767, hx767_0⟩ := Kd.at_int (Kd.R_reads' HO_11.out).2.2 x12_2 p767 q767
                    cases e767
                    replace p767 := eq_true p767
                    replace q767 := eq_true q767
                    obtain ⟨Ao38, co38, eo38⟩ := Kd.R_slice HO_10.out
                    subst eo38
                    go_wp2_with (first | ((with_reducible refine gate_callee (f := 26) rfl ?_); refine goesL_ (some 74) rfl rfl Tryd.func26 (by kernel_rfl) rfl #[.slice Ao38 t760.length co38, .int .i64 (rd t763 x12_2)] rfl (by (try simp only [List.map_toArray, List.map_cons, List.map_nil]); first | done | rfl | (simp only [List.length_drop, List.length_take]; rfl)) ?_; (with_reducible refine (laws_isIn.calls k2 _ _ t760 (rd t763 x12_2) true _ ?side1 ?side2 A35.out).mono ?_); (case side1 => repeat (first | exact (Kd.R_reads' HO_10.out).2.2 | (with_reducible refine Kd.C_alloc ?_ _) | (with_reducible refine Kd.C_drewN ?_ _) | (with_reducible refine Kd.C_drew ?_))); (case side2 => exact (Kd.R_reads' HO_10.out).2.1); rintro e w' ⟨rfl, ⟨nd, rfl⟩⟩; refine ⟨_, rfl, ?_⟩))
                    go_roundg k2
                    case measure => have := HJ5.out; have := HK2.out; omega
                    case rel => exact ⟨(wrap64 (x12_2 + 1)), (by first | rfl | (simp; done) | (simp [*]; done)), H', ⟨by have := HJ5.out; have := HK2.out; omega⟩, ⟨by (with_reducible repeat (first | apply Kd.S_alloc | apply Kd.S_drewN | apply Kd.S_drew)); exact HO_3.out⟩, ⟨by (with_reducible repeat (first | apply Kd.R_alloc | apply Kd.R_drewN | apply Kd.R_drew)); exact HO_10.out⟩, ⟨by (with_reducible repeat (first | apply Kd.R_alloc | apply Kd.R_drewN | apply Kd.R_drew)); exact HO_11.out⟩, ⟨by repeat (first | (with_reducible first | exact HB.out | apply below_alloc | apply pw_below_drewN | apply below_drew1) | exact HB.out)⟩⟩
                  · replace c36 := Bool.eq_false_iff.mpr c36
                    subst c36
                    have H1 : (if 0 ≤ (rd t763 x12_2) then (if (rd t763 x12_2) < (t743.length : Int) then ((laws_isIn.f k2 ((rd_T37 t743 (rd t763 x12_2)).f1) t745).bind fun t771 => (if t771 = true then (laws_FnFinishTaskReady.l0 k2 t743 t745 t760 t763 (wrap64 (x12_2 + 1))) else (some false))) else (none)) else (none)) = some r := by rw [if_neg (show ¬ (false = true) by decide)] at H; exact H
                    clear H
                    have H := H1
                    clear H1
                    by_cases c39 : 0 ≤ (rd t763 x12_2)
                    · rw [if_pos c39] at H
                      have c39b0 : decide (0 ≤ (rd t763 x12_2)) = true := decide_eq_true c39
                      clear c39
                      by_cases c40 : (rd t763 x12_2) < (t743.length : Int)
                      · rw [if_pos c40] at H
                        have c40b0 : decide ((rd t763 x12_2) < (t743.length : Int)) = true := decide_eq_true c40
                        clear c40
                        replace H := Option.bind_eq_some_iff.mp H
                        obtain ⟨t771, A410, H⟩ := H
                        replace H : (if t771 = true then (laws_FnFinishTaskReady.l0 k2 t743 t745 t760 t763 (wrap64 (x12_2 + 1))) else (some false)) = some r := H
                        have A41 := Aside0.mk A410
                        clear A410
                        by_cases c42 : t771 = true
                        · subst c42
                          have H1 : (laws_FnFinishTaskReady.l0 k2 t743 t745 t760 t763 (wrap64 (x12_2 + 1))) = some r := by rw [if_pos rfl] at H; exact H
                          clear H
                          have H := H1
                          clear H1
                          have H' := Aside0.mk H
                          clear H
                          obtain ⟨Ao43, co43, eo43⟩ := Kd.R_slice HO_11.out
                          subst eo43
                          have p767 : 0 ≤ (x12_2 : Int) := of_decide_eq_true (by first | (with_reducible assumption) | assumption)
                          have q767 : x12_2 < (t763.length : Int) := of_decide_eq_true (by first | (with_reducible assumption) | assumption)
                          obtain ⟨ad767, e767, hx767_0⟩ := Kd.at_int (Kd.R_reads' HO_11.out).2.2 x12_2 p767 q767
                          cases e767
                          replace p767 := eq_true p767
                          replace q767 := eq_true q767
                          obtain ⟨Ao44, co44, eo44⟩ := Kd.R_slice HO_10.out
                          subst eo44
                          go_wp2_with (first | ((with_reducible refine gate_callee (f := 26) rfl ?_); refine goesL_ (some 74) rfl rfl Tryd.func26 (by kernel_rfl) rfl #[.slice Ao44 t760.length co44, .int .i64 (rd t763 x12_2)] rfl (by (try simp only [List.map_toArray, List.map_cons, List.map_nil]); first | done | rfl | (simp only [List.length_drop, List.length_take]; rfl)) ?_; (with_reducible refine (laws_isIn.calls k2 _ _ t760 (rd t763 x12_2) false _ ?side1 ?side2 A35.out).mono ?_); (case side1 => repeat (first | exact (Kd.R_reads' HO_10.out).2.2 | (with_reducible refine Kd.C_alloc ?_ _) | (with_reducible refine Kd.C_drewN ?_ _) | (with_reducible refine Kd.C_drew ?_))); (case side2 => exact (Kd.R_reads' HO_10.out).2.1); rintro e w' ⟨rfl, ⟨nd, rfl⟩⟩; refine ⟨_, rfl, ?_⟩; have p769 : 0 ≤ (x12_2 : Int) := of_decide_eq_true (by first | (with_reducible assumption) | assumption); have q769 : x12_2 < (t763.length : Int) := of_decide_eq_true (by first | (with_reducible assumption) | assumption); obtain ⟨ad769, e769, hx769_0⟩ := Kd.at_int (Kd.R_reads' HO_11.out).2.2 x12_2 p769 q769; obtain rfl : ad767 = ad769 := (by injection e769); replace p769 := eq_true p769; replace q769 := eq_true q769; have p770 : 0 ≤ ((rd t763 x12_2) : Int) := of_decide_eq_true (by first | (with_reducible assumption) | assumption); have q770 : (rd t763 x12_2) < (t743.length : Int) := of_decide_eq_true (by first | (with_reducible assumption) | assumption); obtain ⟨ad770, A770_1, c770_1, e770, hx770_0, hx770_1, hx770_2, hx770_3, hl770_1, hi770_1⟩ := at_T37 (Kd.S_reads' HO_3.out).2.2 (rd t763 x12_2) p770 q770; cases e770; obtain ⟨ce770, hce770, hMe770, hcc770⟩ := Kd.S_get HO_3.out z37 (rd t763 x12_2) p770 (by first | exact q770 | exact of_decide_eq_true (by first | (with_reducible assumption) | assumption) | (have e_ := (Kd.S_reads' HO_3.out).1; omega)); obtain ⟨ve770_1, rfl, ge770_1⟩ := k37_openM hMe770; have hv770_1 := hcc770 1 _ rfl; rw [add_field _ _ 1 (by omega)] at hv770_1; replace hv770_1 := Option.some.inj (hv770_1.symm.trans hx770_1); rw [hv770_1] at ge770_1; have HL770_1 := Aside0.mk (show Kd.Q (Kd.int .i64) 3 _ _ _ _ ((rd_T37 t743 (rd t763 x12_2)).f1) from ge770_1); clear hv770_1 ge770_1; clear hcc770 hce770; have HR770_1 := Aside0.mk hi770_1; have HC770_1 := Aside0.mk hl770_1; clear hi770_1 hl770_1; replace p770 := eq_true p770; replace q770 := eq_true q770) | (go_at_call 26; (with_reducible refine (laws_isIn.calls k2 _ _ ((rd_T37 t743 (rd t763 x12_2)).f1) t745 true _ ?side1 ?side2 A41.out).mono ?_); (case side1 => repeat (first | exact (by repeat (first | (with_reducible exact HR770_1.out) | (with_reducible refine Kd.C_alloc ?_ _) | (with_reducible refine Kd.C_drewN ?_ _) | (with_reducible refine Kd.C_drew ?_) | exact HR770_1.out)) | (with_reducible refine Kd.C_alloc ?_ _) | (with_reducible refine Kd.C_drewN ?_ _) | (with_reducible refine Kd.C_drew ?_))); (case side2 => exact HC770_1.out); rintro e w' ⟨rfl, ⟨nd, rfl⟩⟩))
                          go_roundg k2
                          case measure => have := HJ5.out; have := HK2.out; omega
                          case rel => exact ⟨(wrap64 (x12_2 + 1)), (by first | rfl | (simp; done) | (simp [*]; done)), H', ⟨by have := HJ5.out; have := HK2.out; omega⟩, ⟨by (with_reducible repeat (first | apply Kd.S_alloc | apply Kd.S_drewN | apply Kd.S_drew)); exact HO_3.out⟩, ⟨by (with_reducible repeat (first | apply Kd.R_alloc | apply Kd.R_drewN | apply Kd.R_drew)); exact HO_10.out⟩, ⟨by (with_reducible repeat (first | apply Kd.R_alloc | apply Kd.R_drewN | apply Kd.R_drew)); exact HO_11.out⟩, ⟨by repeat (first | (with_reducible first | exact HB.out | apply below_alloc | apply pw_below_drewN | apply below_drew1) | exact HB.out)⟩⟩
                        · replace c42 := Bool.eq_false_iff.mpr c42
                          subst c42
                          have H1 : (some false) = some r := by rw [if_neg (show ¬ (false = true) by decide)] at H; exact H
                          clear H
                          have H := H1
                          clear H1
                          obtain rfl := Option.some.inj H
                          obtain ⟨Ao45, co45, eo45⟩ := Kd.R_slice HO_11.out
                          subst eo45
                          have p767 : 0 ≤ (x12_2 : Int) := of_decide_eq_true (by first | (with_reducible assumption) | assumption)
                          have q767 : x12_2 < (t763.length : Int) := of_decide_eq_true (by first | (with_reducible assumption) | assumption)
                          obtain ⟨ad767, e767, hx767_0⟩ := Kd.at_int (Kd.R_reads' HO_11.out).2.2 x12_2 p767 q767
                          cases e767
                          replace p767 := eq_true p767
                          replace q767 := eq_true q767
                          obtain ⟨Ao46, co46, eo46⟩ := Kd.R_slice HO_10.out
                          subst eo46
                          go_wp2_with (first | ((with_reducible refine gate_callee (f := 26) rfl ?_); refine goesL_ (some 74) rfl rfl Tryd.func26 (by kernel_rfl) rfl #[.slice Ao46 t760.length co46, .int .i64 (rd t763 x12_2)] rfl (by (try simp only [List.map_toArray, List.map_cons, List.map_nil]); first | done | rfl | (simp only [List.length_drop, List.length_take]; rfl)) ?_; (with_reducible refine (laws_isIn.calls k2 _ _ t760 (rd t763 x12_2) false _ ?side1 ?side2 A35.out).mono ?_); (case side1 => repeat (first | exact (Kd.R_reads' HO_10.out).2.2 | (with_reducible refine Kd.C_alloc ?_ _) | (with_reducible refine Kd.C_drewN ?_ _) | (with_reducible refine Kd.C_drew ?_))); (case side2 => exact (Kd.R_reads' HO_10.out).2.1); rintro e w' ⟨rfl, ⟨nd, rfl⟩⟩; refine ⟨_, rfl, ?_⟩; have p769 : 0 ≤ (x12_2 : Int) := of_decide_eq_true (by first | (with_reducible assumption) | assumption); have q769 : x12_2 < (t763.length : Int) := of_decide_eq_true (by first | (with_reducible assumption) | assumption); obtain ⟨ad769, e769, hx769_0⟩ := Kd.at_int (Kd.R_reads' HO_11.out).2.2 x12_2 p769 q769; obtain rfl : ad767 = ad769 := (by injection e769); replace p769 := eq_true p769; replace q769 := eq_true q769; have p770 : 0 ≤ ((rd t763 x12_2) : Int) := of_decide_eq_true (by first | (with_reducible assumption) | assumption); have q770 : (rd t763 x12_2) < (t743.length : Int) := of_decide_eq_true (by first | (with_reducible assumption) | assumption); obtain ⟨ad770, A770_1, c770_1, e770, hx770_0, hx770_1, hx770_2, hx770_3, hl770_1, hi770_1⟩ := at_T37 (Kd.S_reads' HO_3.out).2.2 (rd t763 x12_2) p770 q770; cases e770; obtain ⟨ce770, hce770, hMe770, hcc770⟩ := Kd.S_get HO_3.out z37 (rd t763 x12_2) p770 (by first | exact q770 | exact of_decide_eq_true (by first | (with_reducible assumption) | assumption) | (have e_ := (Kd.S_reads' HO_3.out).1; omega)); obtain ⟨ve770_1, rfl, ge770_1⟩ := k37_openM hMe770; have hv770_1 := hcc770 1 _ rfl; rw [add_field _ _ 1 (by omega)] at hv770_1; replace hv770_1 := Option.some.inj (hv770_1.symm.trans hx770_1); rw [hv770_1] at ge770_1; have HL770_1 := Aside0.mk (show Kd.Q (Kd.int .i64) 3 _ _ _ _ ((rd_T37 t743 (rd t763 x12_2)).f1) from ge770_1); clear hv770_1 ge770_1; clear hcc770 hce770; have HR770_1 := Aside0.mk hi770_1; have HC770_1 := Aside0.mk hl770_1; clear hi770_1 hl770_1; replace p770 := eq_true p770; replace q770 := eq_true q770) | (go_at_call 26; (with_reducible refine (laws_isIn.calls k2 _ _ ((rd_T37 t743 (rd t763 x12_2)).f1) t745 false _ ?side1 ?side2 A41.out).mono ?_); (case side1 => repeat (first | exact (by repeat (first | (with_reducible exact HR770_1.out) | (with_reducible refine Kd.C_alloc ?_ _) | (with_reducible refine Kd.C_drewN ?_ _) | (with_reducible refine Kd.C_drew ?_) | exact HR770_1.out)) | (with_reducible refine Kd.C_alloc ?_ _) | (with_reducible refine Kd.C_drewN ?_ _) | (with_reducible refine Kd.C_drew ?_))); (case side2 => exact HC770_1.out); rintro e w' ⟨rfl, ⟨nd, rfl⟩⟩))
                          go_ret
                          exact ⟨by first | rfl | (simp [errW_none, errW_some] <;> rfl) | (simp [*, errW_none, errW_some] <;> rfl), by repeat (first | (with_reducible first | exact HB.out | apply below_alloc | apply pw_below_drewN | apply below_drew1) | exact HB.out)⟩
                      · rw [if_neg c40] at H
                        exact absurd H (by simp)
                    · rw [if_neg c39] at H
                      exact absurd H (by simp)
                · rw [if_neg c34] at H
                  exact absurd H (by simp)
              · rw [if_neg c33] at H
                have c33b0 : decide (x12_2 < (t763.length : Int)) = false := decide_eq_false c33
                clear c33
                replace H := Option.bind_eq_some_iff.mp H
                obtain ⟨t766, A470, H⟩ := H
                replace H : (some (!t766)) = some r := H
                have A47 := Aside0.mk A470
                clear A470
                obtain rfl := Option.some.inj H
                obtain ⟨Ao48, co48, eo48⟩ := Kd.R_slice HO_11.out
                subst eo48
                go_wp2_with (first | ((with_reducible refine gate_callee (f := 26) rfl ?_); refine goesL_ (some 91) rfl rfl Tryd.func26 (by kernel_rfl) rfl #[.slice Ao48 t763.length co48, .int .i64 t745] rfl (by (try simp only [List.map_toArray, List.map_cons, List.map_nil]); first | done | rfl | (simp only [List.length_drop, List.length_take]; rfl)) ?_; (with_reducible refine (laws_isIn.calls k2 _ _ t763 t745 t766 _ ?side1 ?side2 A47.out).mono ?_); (case side1 => repeat (first | exact (Kd.R_reads' HO_11.out).2.2 | (with_reducible refine Kd.C_alloc ?_ _) | (with_reducible refine Kd.C_drewN ?_ _) | (with_reducible refine Kd.C_drew ?_))); (case side2 => exact (Kd.R_reads' HO_11.out).2.1); rintro e w' ⟨rfl, ⟨nd, rfl⟩⟩; refine ⟨_, rfl, ?_⟩))
                go_ret
                exact ⟨by first | rfl | (simp [errW_none, errW_some] <;> rfl) | (simp [*, errW_none, errW_some] <;> rfl), by repeat (first | (with_reducible first | exact HB.out | apply below_alloc | apply pw_below_drewN | apply below_drew1) | exact HB.out)⟩
end Go.Proofs.YtekajandipdlhaaDoor.P
end
section
set_option linter.unusedVariables false
set_option linter.unusedSimpArgs false
namespace Go.Proofs.YtekajandipdlhaaDoor.Core
open Go Go.RowKit Go.Proofs.YtekajandipdlhaaDoorW.PrintWords Go.Proofs.YtekajandipdlhaaDoorW.PrintMore Go.Proofs.YtekajandipdlhaaDoor.P
theorem readyD_some {g : List Tk} {l : List Int} {G : GD} {s : Nat} (h : doneD g l = some (G, s)) : readyD g l = up (elemsN (G.ready s)) := by
  unfold readyD; rw [h]; rfl
end Go.Proofs.YtekajandipdlhaaDoor.Core
end
section
set_option linter.unusedVariables false
set_option linter.unusedSimpArgs false
namespace Go.Proofs.YtekajandipdlhaaDoor.Core
open Go Go.RowKit Go.Proofs.YtekajandipdlhaaDoorW.PrintWords Go.Proofs.YtekajandipdlhaaDoorW.PrintMore Go.Proofs.YtekajandipdlhaaDoor.P
theorem finD_yes {g : List Tk} {l : List Int} {G : GD} {s x : Nat} (h : doneD g l = some (G, s)) (hx : (G.ready s).testBit x = true) : finD g l (x : Int) = (up (elemsN (s ||| 2 ^ x)), true) ∧ doneD g (up (elemsN (s ||| 2 ^ x))) = some (G, s ||| 2 ^ x) := by
  obtain ⟨v, hG, hs, _, _, hc⟩ := done_list h
  obtain ⟨h1, h2, h3⟩ := v.mem_rd.1 hx
  obtain ⟨e1, e2, e3⟩ := v.step hs hc hx
  refine ⟨?_, doneD_mk hG e1 e2⟩
  unfold finD
  rw [h]
  simp only []
  rw [if_pos ⟨⟨by omega, by rw [v.tasks]; omega⟩, by rw [Int.toNat_natCast]; exact hx⟩, Int.toNat_natCast]
  rfl
theorem finD_cases (g : List Tk) (l : List Int) (x : Int) : finD g l x = ([], false) ∨ ∃ G s, ∃ k : Nat, doneD g l = some (G, s) ∧ x = (k : Int) ∧ (G.ready s).testBit k = true ∧ finD g l x = (up (elemsN (s ||| 2 ^ k)), true) := by
  unfold finD
  cases h : doneD g l with
  | none => exact .inl rfl
  | some GS =>
    obtain ⟨G, s⟩ := GS
    simp only []
    by_cases hx : (0 ≤ x ∧ x ≤ (G.tasks.length : Int) - 1) ∧ (G.ready s).testBit x.toNat = true
    · right
      refine ⟨G, s, x.toNat, rfl, by omega, hx.2, ?_⟩
      rw [if_pos hx]; rfl
    · left; exact if_neg hx
end Go.Proofs.YtekajandipdlhaaDoor.Core
end
section
set_option linter.unusedVariables false
set_option linter.unusedSimpArgs false
namespace Go.Proofs.YtekajandipdlhaaDoor.Core
open Go Go.RowKit Go.Proofs.YtekajandipdlhaaDoorW.PrintWords Go.Proofs.YtekajandipdlhaaDoorW.PrintMore Go.Proofs.YtekajandipdlhaaDoor.P
theorem VG.in_list {g : List Tk} {G : GD} (v : VG g G) {t : Nat} (ht : t < 2 ^ g.length) (i : Nat) : ((i : Int) ∈ up (elemsN t)) ↔ t.testBit i = true := by
  rw [mem_up, v.list_bit ht]
theorem VG.in_dec {g : List Tk} {G : GD} (v : VG g G) {t : Nat} (ht : t < 2 ^ g.length) (i : Nat) : decide ((i : Int) ∈ up (elemsN t)) = t.testBit i := by
  rw [Bool.eq_iff_iff, decide_eq_true_eq, v.in_list ht]
theorem VG.ready_lt' {g : List Tk} {G : GD} (v : VG g G) (s : Nat) : G.ready s < 2 ^ g.length := by
  have := ready_lt G s
  rwa [v.nl] at this
end Go.Proofs.YtekajandipdlhaaDoor.Core
end
section
set_option linter.unusedVariables false
set_option linter.unusedSimpArgs false
namespace Go.Proofs.YtekajandipdlhaaDoor.Core
open Go Go.RowKit Go.Proofs.YtekajandipdlhaaDoorW.PrintWords Go.Proofs.YtekajandipdlhaaDoorW.PrintMore Go.Proofs.YtekajandipdlhaaDoor.P
theorem ev_someAt {s0 : List Int} {N p : Int} (h : RS s0 N p) (hN : N + 100 < 100000) {g : List Tk} (h16 : g.length ≤ 16) : EvP (fun k => spec_someAt.f k s0 p g) (fun r => (-1 ≤ r.1 ∧ r.1 ≤ 16) ∧ RS s0 (N + 100) r.2) := by
  unfold spec_someAt.f
  refine (ev_pick h (by omega)).bind fun a ha => ?_
  refine EvP.ite (fun _ => ?_) (fun _ => ?_)
  · refine (ev_one ha.2.2 (by omega) _ (by simp)).bind fun b hb => EvP.ret ⟨?_, hb.2.mono (by omega) (by omega)⟩
    have := hb.1
    simp only [List.mem_cons, List.not_mem_nil, or_false] at this
    show -1 ≤ b.1 ∧ b.1 ≤ 16
    omega
  · refine (ev_pick ha.2.2 (by omega)).bind fun b hb => EvP.ret ⟨?_, hb.2.2.mono (by omega) (by omega)⟩
    have h1 : 1 ≤ mx 1 (g.length : Int) ∧ mx 1 (g.length : Int) ≤ 16 := by unfold mx; split <;> omega
    have := hb.2.1 h1.1
    show -1 ≤ b.1 ∧ b.1 ≤ 16
    omega
theorem ev_DrawFinishTask {l : List Int} (h : Bytes l) : EvP (fun k => spec_DrawFinishTask.f k l) (fun r => GSmall 16 10 r.1 ∧ r.2.1.length ≤ 9 ∧ -1 ≤ r.2.2 ∧ r.2.2 ≤ 16) := by
  unfold spec_DrawFinishTask.f
  refine (ev_newReader h).bind fun a ha => ?_
  refine (ev_anyGraph ha (by omega)).bind fun b hb => ?_
  refine (ev_someDone hb.2 (by omega) (hb.1.fits (by unfold big; omega) (by unfold big; omega)) hb.1.1).bind fun d hd => ?_
  refine (ev_someAt hd.2 (by omega) hb.1.1).bind fun e he => ?_
  exact EvP.ret ⟨hb.1, hd.1, he.1⟩
end Go.Proofs.YtekajandipdlhaaDoor.Core
end
