/- The law FnBestTimeLess holds of the given program: the proof's own part, with its row and its card, part 8 of 9. -/
import Derived.Test.YtimbfcedigaffaaDoorZFnBestTimeLess7
set_option linter.unusedVariables false
set_option linter.unusedSimpArgs false
section
namespace Go.Proofs.YtimbfcedigaffaaDoor.Core
open Go Go.RowKit Go.Shelf Go.Proofs.YtimbfcedigaffaaDoorW.PrintWords Go.Proofs.YtimbfcedigaffaaDoorW.PrintLast Go.Proofs.YtimbfcedigaffaaDoorW.PrintMore Go.Proofs.YtimbfcedigaffaaDoor.P
attribute [local go_sem] Oper.semAt_some wide_fn wide_depth
set_option maxHeartbeats 1000000 in
theorem allUsersFn_calls (b : Nat) (G : GD) (w : World) (hg : IsG w b G) :
  Calls Tryd.prog 39 #[.pointer (some ⟨b, 0, none⟩)] w fun e w' => ∃ A c, e = .returned (.slice A G.above.length c) ∧ (Kd.int .u16).C w A G.above.length (up G.above) ∧ w' = w := by
 obtain ⟨A, c, hc, _, hC⟩ := hg.above
 go_enter Tryd.func39, Tryd.ntmps39
 go_wp2
 go_ret
 exact ⟨_, _, rfl, hC, rfl⟩
def allUsersD (g : List Tk) (x : Int) : List Int := match graphD g with
 | none => []
 | some G => if 0 ≤ x ∧ x ≤ (g.length : Int) - 1 then elems (G.above.getD x.toNat 0) else []
set_option maxRecDepth 100000 in
set_option maxHeartbeats 2000000 in
theorem relatedAllUsers_calls (A0 : Option Addr) (c0 : Nat) (l0 : List Tk) (x : Int) (w : World) (hr0 : Kd.C k39 w A0 l0.length l0) (hc0 : l0.length ≤ c0) (hT : Tab w) :
  Calls Tryd.prog 38 #[.slice A0 l0.length c0, .int .i64 x, .func (.func 39) #[] #[]] w fun e w' => ∃ v0_ : Value, e = .returned (v0_) ∧ Kd.R (Kd.int .i64) 3 w' w.heap.size (fun _ => True) v0_ (allUsersD l0 x) ∧ Below w.heap.size w w' := by
 cases hg : graphD l0 with
 | none =>
  have hcd : allUsersD l0 x = [] := by unfold allUsersD; rw [hg]
  rw [hcd]
  have HG := m0 (graphOf_none A0 c0 l0 w hT hr0 hc0 hg)
  clear hr0 hT hg hcd
  go_enter Tryd.func38, Tryd.ntmps38
  go_wp2_with (go_at_call 55; refine HG.out.mono ?_; rintro e w' ⟨rfl, hB⟩)
  go_ret
  exact ⟨_, rfl, Kd.R_nil _ _ _ _ _, hB⟩
 | some G =>
  have hcd : allUsersD l0 x = if 0 ≤ x ∧ x ≤ (l0.length : Int) - 1 then elems (G.above.getD x.toNat 0) else [] := by unfold allUsersD; rw [hg]
  have HG := m0 (graphOf_some A0 c0 l0 G w hT hr0 hc0 hg)
  have ok := graphD_ok hg
  have hgt := graphD_tasks hg
  have h8 := ok.n8
  have hal := ok.al
  have hbb := ok.ab
  rw [hgt] at h8 hal hbb
  have HT := m0 hT
  have hw2 : wrap64 ((l0.length : Int) - 1) = (l0.length : Int) - 1 := w64 (by omega) (by omega)
  have hw1 : IntKind.i64.wrap ((l0.length : Int) - 1) = (l0.length : Int) - 1 := by rw [i64_w, hw2]
  by_cases hx : 0 ≤ x ∧ x ≤ (l0.length : Int) - 1
  ·rw [hcd, if_pos hx]
   have HW := m0 (fun W => within_is x 0 ((l0.length : Int) - 1) true W (decide_eq_true hx))
   have hv : G.above.getD x.toNat 0 < 256 := Nat.lt_of_lt_of_le (getD_lt hbb _) (pow8 h8)
   have p0 : (0 ≤ x) = True := eq_true hx.1
   have q0 : (x < (G.above.length : Int)) = True := eq_true (by omega)
   have HFN := m0 (fun W b (hg : IsG W b G) => (allUsersFn_calls b G W hg).mono (R' := fun e w' => ∃ (ad : Addr) (c : Nat), e = .returned (.slice (some ad) G.above.length c) ∧ w'.cell? (ad.add x.toNat) = some (.int .u16 ((G.above.getD x.toNat 0 : Nat) : Int)) ∧ w' = W) (fun e w' ⟨A, c, h1, h2, h3⟩ => by
    obtain ⟨ad, e0, h⟩ := Kd.at_int h2 x hx.1 (by omega)
    subst e0
    rw [rd_up (i := x.toNat) (by omega)] at h
    exact ⟨ad, c, h1, by rw [h3]; exact h, h3⟩))
   clear hr0 hT hg hcd hgt ok hal hbb h8 hx
   generalize G.above.getD x.toNat 0 = s at hv HFN ⊢
   go_enter Tryd.func38, Tryd.ntmps38
   go_wp2_with (first | (go_at_call 55; refine HG.out.mono ?_; rintro e w1 ⟨b, rfl, hB, hgr⟩) | (go_at_call 56; refine (HW.out _).mono ?_; rintro e w2 ⟨rfl, hB2⟩; replace hgr := hgr.move hB2; replace hB := below_step hB hB2) | (go_at_call 39; refine (HFN.out _ b hgr).mono ?_; rintro e w3 ⟨ad, c, rfl, hcell, rfl⟩) | (go_at_call 57; refine (list_calls s hv _ (HT.out.of hB)).mono ?_; rintro e w4 ⟨v, rfl, hR, hB4⟩))
   go_ret
   exact ⟨_, rfl, Kd.R_mono (Kd.R_lower hR hB.size) (fun _ _ => trivial), below_step hB hB4⟩
  ·rw [hcd, if_neg hx]
   have HW := m0 (fun W => within_is x 0 ((l0.length : Int) - 1) false W (decide_eq_false hx))
   clear hr0 hT hg hcd hgt ok hal hbb h8 hx
   go_enter Tryd.func38, Tryd.ntmps38
   go_wp2_with (first | (go_at_call 55; refine HG.out.mono ?_; rintro e w1 ⟨b, rfl, hB, hgr⟩) | (go_at_call 56; refine (HW.out _).mono ?_; rintro e w2 ⟨rfl, hB2⟩; replace hB := below_step hB hB2))
   go_ret
   exact ⟨_, rfl, Kd.R_nil _ _ _ _ _, hB⟩
end Go.Proofs.YtimbfcedigaffaaDoor.Core
namespace Go.Proofs.YtimbfcedigaffaaDoor.P
open Go Go.RowKit Go.Shelf Go.Proofs.YtimbfcedigaffaaDoorW.PrintWords Go.Proofs.YtimbfcedigaffaaDoorW.PrintMore Go.Proofs.YtimbfcedigaffaaDoor.Core
attribute [local go_sem] Oper.semAt_some wide_fn wide_depth
def impl_AllUsers.f (l0 : List S39) (a1 : Int) : Option (List Int) := some (allUsersD l0 a1)
set_option maxHeartbeats 1000000 in
theorem impl_AllUsers.calls (A0 : Option Addr) (c0 : Nat) (l0 : List S39) (a1 : Int) (r : List Int) (w : World) (hr0 : Kd.C k39 w A0 l0.length l0) (hc0 : l0.length ≤ c0) (hT : Tab w) (h : impl_AllUsers.f l0 a1 = some r) :
  Calls Tryd.prog 24 #[.slice A0 l0.length c0, .int .i64 a1] w fun e w' => ∃ v0_ : Value, e = .returned (v0_) ∧ Kd.R (Kd.int .i64) 3 w' w.heap.size (fun _ => True) v0_ r ∧ Below w.heap.size w w' := by
 have hr : r = allUsersD l0 a1 := (Option.some.inj h).symm
 subst hr
 clear h
 have HR := m0 (relatedAllUsers_calls A0 c0 l0 a1 w hr0 hc0 hT)
 clear hr0 hT
 go_enter Tryd.func24, Tryd.ntmps24
 go_wp2_with (go_at_call 38; refine HR.out.mono ?_; rintro e w1 ⟨v, rfl, hR, hB⟩)
 go_ret
 exact ⟨_, rfl, hR, hB⟩
end Go.Proofs.YtimbfcedigaffaaDoor.P
end
section
namespace Go.Proofs.YtimbfcedigaffaaDoor.P
open Go.Proofs.YtimbfcedigaffaaDoor.Core (Tab Tab.of)
open Go.RowKit Go.Proofs.YtimbfcedigaffaaDoorW.PrintWords Go.Proofs.YtimbfcedigaffaaDoorW.PrintLast Go.Proofs.YtimbfcedigaffaaDoorW.PrintMore
attribute [local go_sem] max2_int min2_int max_two min_two max_three min_three max_four min_four
noncomputable def laws_FnBestTimeLess.j0 : Nat → List (S39) → List Int → Int → Int → Bool → Option (Bool)
 | 0, _, _, _, _, _ => none
 | k + 1, x3, x4, x5, x6, x36 => if x36 = true then ((spec_BestTime.f k x3 x4 x5).bind fun t552 => (some (x6 == t552))) else (if 0 ≤ (wrap64 ((x3.length : Int) - 1)) then (if (wrap64 ((x3.length : Int) - 1)) ≤ (x3.length : Int) then ((impl_BestTime.f (x3.take ((wrap64 ((x3.length : Int) - 1)) : Int).toNat) x4 x5).bind fun t557 => ((impl_AllUsers.f x3 (wrap64 ((x3.length : Int) - 1))).bind fun t558 => (if (t558.length : Int) > 0 then (some true) else (if t557 ≥ 0 then (if t557 ≤ x6 then (if (wrap64 ((x3.length : Int) - 1)) < (x3.length : Int) then (some (decide (x6 ≤ (wrap64 (t557 + ((rd_T39 x3 (wrap64 ((x3.length : Int) - 1))).f0)))))) else (none)) else (some false)) else (some false))))) else (none)) else (none))
noncomputable def laws_FnBestTimeLess.f (k : Nat) (l0 : List Int) : Option (Bool) := if (l0.length : Int) > 1048576 then (some true) else ((spec_DrawBestTime.f k l0).bind fun bt543 => ((impl_BestTime.f bt543.1 bt543.2.1 bt543.2.2).bind fun t550 => ((spec_BestTime.f k bt543.1 bt543.2.1 bt543.2.2).bind fun t551 => (if t550 = t551 then (if t550 < 0 then (laws_FnBestTimeLess.j0 k bt543.1 bt543.2.1 bt543.2.2 t550 true) else (laws_FnBestTimeLess.j0 k bt543.1 bt543.2.1 bt543.2.2 t550 ((bt543.1.length : Int) == 0))) else (laws_FnBestTimeLess.j0 k bt543.1 bt543.2.1 bt543.2.2 t550 true)))))
theorem laws_FnBestTimeLess.mono_l : ∀ k, (∀ y0 y1 y2 y3 y4, LeO (laws_FnBestTimeLess.j0 k y0 y1 y2 y3 y4) (laws_FnBestTimeLess.j0 (k + 1) y0 y1 y2 y3 y4))
 | 0 => fun _ _ _ _ _ r h => by simp [laws_FnBestTimeLess.j0] at h
 | k + 1 => by
  have ih0 := laws_FnBestTimeLess.mono_l k
  ·intro y0 y1 y2 y3 y4
   unfold laws_FnBestTimeLess.j0
   repeat' first
   | (with_reducible exact ih0 _ _ _ _ _)
   | (with_reducible exact spec_BestTime.mono _ _ _ _)
   | (with_reducible exact spec_DrawBestTime.mono _ _)
   | (with_reducible exact LeO.refl _)
   | (with_reducible exact LeO.none _)
   | (with_reducible refine LeO.ite ?_ ?_)
   | (with_reducible refine LeO.bind ?_ (fun _ => ?_))
   | exact ih0 _ _ _ _ _
   | exact spec_BestTime.mono _ _ _ _
   | exact spec_DrawBestTime.mono _ _
   | exact LeO.none _
   | refine LeO.ite ?_ ?_
   | refine LeO.bind ?_ (fun _ => ?_)
theorem laws_FnBestTimeLess.mono : ∀ a0 k, LeO (laws_FnBestTimeLess.f k a0) (laws_FnBestTimeLess.f (k + 1) a0) := by
 intro a0 k
 have ih0 := laws_FnBestTimeLess.mono_l k
 unfold laws_FnBestTimeLess.f
 repeat' first
   | (with_reducible exact ih0 _ _ _ _ _)
   | (with_reducible exact spec_BestTime.mono _ _ _ _)
   | (with_reducible exact spec_DrawBestTime.mono _ _)
   | (with_reducible exact LeO.refl _)
   | (with_reducible exact LeO.none _)
   | (with_reducible refine LeO.ite ?_ ?_)
   | (with_reducible refine LeO.bind ?_ (fun _ => ?_))
   | exact ih0 _ _ _ _ _
   | exact spec_BestTime.mono _ _ _ _
   | exact spec_DrawBestTime.mono _ _
   | exact LeO.none _
   | refine LeO.ite ?_ ?_
   | refine LeO.bind ?_ (fun _ => ?_)
set_option maxHeartbeats 8000000 in
set_option maxRecDepth 100000 in
theorem laws_FnBestTimeLess.calls (k : Nat) (A0 : Option Addr) (c0 : Nat) (l0 : List Int) (r : Bool) (w : World) (hr0 : Kd.C (Kd.int .u8) w A0 l0.length l0) (hc0 : l0.length ≤ c0) (hT : Tab w) (h : laws_FnBestTimeLess.f k l0 = some r) :
  Calls Tryd.prog 7 #[.slice A0 l0.length c0] w fun e w' => e = .returned (.bool r) ∧ Below w.heap.size w w' := by
 have HT := m0 hT
 clear hT
 have HR0 := m0 hr0
 have HC0 := m0 hc0
 clear hr0 hc0
 have HB := m0 (Below.refl w.heap.size w)
 have H : (if (l0.length : Int) > 1048576 then (some true) else ((spec_DrawBestTime.f k l0).bind fun bt543 => ((impl_BestTime.f bt543.1 bt543.2.1 bt543.2.2).bind fun t550 => ((spec_BestTime.f k bt543.1 bt543.2.1 bt543.2.2).bind fun t551 => (if t550 = t551 then (if t550 < 0 then (laws_FnBestTimeLess.j0 k bt543.1 bt543.2.1 bt543.2.2 t550 true) else (laws_FnBestTimeLess.j0 k bt543.1 bt543.2.1 bt543.2.2 t550 ((bt543.1.length : Int) == 0))) else (laws_FnBestTimeLess.j0 k bt543.1 bt543.2.1 bt543.2.2 t550 true)))))) = some r := h
 clear h
 by_cases c2 : (l0.length : Int) > 1048576
 ·rw [if_pos c2] at H
  have c2b0 : decide (1048576 < (l0.length : Int)) = true := decide_eq_true c2
  have c2b1 : decide (1048576 < l0.length) = true := decide_eq_true (by omega)
  clear c2
  obtain rfl := Option.some.inj H
  go_enter Tryd.func7, Tryd.ntmps7
  go_wp2
  go_ret
  exact ⟨by first | rfl | (simp [errW_none, errW_some] <;> rfl) | (simp [*, errW_none, errW_some] <;> rfl), HB.out⟩
 ·rw [if_neg c2] at H
  have c2b0 : decide (1048576 < (l0.length : Int)) = false := decide_eq_false c2
  have c2b1 : decide (1048576 < l0.length) = false := decide_eq_false (by omega)
  clear c2
  replace H := Option.bind_eq_some_iff.mp H
  obtain ⟨⟨t543, t544, t545⟩, A30, H⟩ := H
  replace H : ((impl_BestTime.f t543 t544 t545).bind fun t550 => ((spec_BestTime.f k t543 t544 t545).bind fun t551 => (if t550 = t551 then (if t550 < 0 then (laws_FnBestTimeLess.j0 k t543 t544 t545 t550 true) else (laws_FnBestTimeLess.j0 k t543 t544 t545 t550 ((t543.length : Int) == 0))) else (laws_FnBestTimeLess.j0 k t543 t544 t545 t550 true)))) = some r := H
  have A3 := m0 A30
  clear A30
  replace H := Option.bind_eq_some_iff.mp H
  obtain ⟨t550, A40, H⟩ := H
  replace H : ((spec_BestTime.f k t543 t544 t545).bind fun t551 => (if t550 = t551 then (if t550 < 0 then (laws_FnBestTimeLess.j0 k t543 t544 t545 t550 true) else (laws_FnBestTimeLess.j0 k t543 t544 t545 t550 ((t543.length : Int) == 0))) else (laws_FnBestTimeLess.j0 k t543 t544 t545 t550 true))) = some r := H
  have A4 := m0 A40
  clear A40
  have HC5 := m0 H
  clear H
  go_enter Tryd.func7, Tryd.ntmps7
  go_upto_region 5 with (first | ((with_reducible refine gate_callee (f := 22) rfl ?_); refine goesL_ (some 14) rfl rfl Tryd.func22 (by kernel_rfl) rfl #[.slice A0 l0.length c0] rfl (by (try simp only [List.map_toArray, List.map_cons, List.map_nil]); rfl) ?_; (with_reducible refine (spec_DrawBestTime.calls k _ _ l0 t543 t544 t545 _ ?side1 ?side2 A3.out).mono ?_); (case side1 => exact HR0.out); (case side2 => exact HC0.out); rintro e w6 ⟨v546, v548, rfl, ho0, ho1, hb⟩; refine ⟨_, rfl, ?_⟩; have n0_ := m0 (Kd.S_lower ho0 (below_size HB.out)); have n1_ := m0 (Kd.Q_lower ho1 (below_size HB.out)); have n2_ := m0 (below_step HB.out hb); clear HB; have HO547 := n0_; have HO549 := n1_; have HB := n2_; clear n0_ n1_ n2_; (try clear hb); (try clear hb2); (try clear hk); (try clear hi); (try clear ho0); (try clear ho1); obtain ⟨Ao7, co7, eo7⟩ := Kd.S_slice HO547.out; subst eo7; obtain ⟨Ao8, co8, eo8, _⟩ := Kd.Q_slice HO549.out; subst eo8) | ((with_reducible refine gate_callee (f := 12) rfl ?_); refine goesL_ (some 21) rfl rfl Tryd.func12 (by kernel_rfl) rfl #[.slice Ao7 t543.length co7, .slice Ao8 t544.length co8, .int .i64 t545] rfl (by (try simp only [List.map_toArray, List.map_cons, List.map_nil]); rfl) ?_; (with_reducible refine (impl_BestTime.calls _ _ t543 _ _ t544 t545 t550 _ ?side1 ?side2 ?side3 ?side4 ?side5 A4.out).mono ?_); (case side1 => exact (Kd.S_reads' HO547.out).2.2); (case side2 => exact (Kd.S_reads' HO547.out).2.1); (case side3 => exact (Kd.Q_reads' HO549.out).2.2); (case side4 => exact (Kd.Q_reads' HO549.out).2.1); (case side5 => exact Tab.of HT.out HB.out); rintro e w9 ⟨rfl, hb⟩; refine ⟨_, rfl, ?_⟩; have n0_ := m0 (Kd.S_below HO547.out hb); have n1_ := m0 (Kd.Q_below HO549.out hb); have n2_ := m0 (below_step HB.out hb); clear HO547; clear HO549; clear HB; have HO547 := n0_; have HO549 := n1_; have HB := n2_; clear n0_ n1_ n2_; (try clear hb); (try clear hb2); (try clear hk); (try clear hi)))
  (try simp only [Act.put, sIA, sC0, sCS])
  go_cut [36] (fun v36 wc => ∃ (kq : Nat) (x36_4 : Bool), v36 = .bool x36_4 ∧ Aside0 (laws_FnBestTimeLess.j0 kq t543 t544 t545 t550 x36_4 = some r) ∧ Aside0 (kq ≤ k) ∧ Aside0 (Kd.S k39 39 wc w.heap.size (fun k_ => some k_ ≠ ((.slice Ao8 t544.length co8) : Value).ownBlock) (.slice Ao7 t543.length co7) t543) ∧ Aside0 (Kd.Q (Kd.int .i64) 3 wc w.heap.size (fun _ => True) (.slice Ao8 t544.length co8) t544) ∧ Aside0 (Below w.heap.size w wc))
  case first =>
   have H := HC5.out
   clear HC5
   replace H := Option.bind_eq_some_iff.mp H
   obtain ⟨t551, A100, H⟩ := H
   replace H : (if t550 = t551 then (if t550 < 0 then (laws_FnBestTimeLess.j0 k t543 t544 t545 t550 true) else (laws_FnBestTimeLess.j0 k t543 t544 t545 t550 ((t543.length : Int) == 0))) else (laws_FnBestTimeLess.j0 k t543 t544 t545 t550 true)) = some r := H
   have A10 := m0 A100
   clear A100
   by_cases c11 : t550 = t551
   ·rw [if_pos c11] at H
    have c11b0 : (t550 == t551) = true := beq_iff_eq.mpr c11
    have c11b1 : (t550 != t551) = false := bne_eq_false_iff_eq.mpr c11
    clear c11
    (first | rw [c11b0] | (simp only [i64_w, i32_w]; rw [c11b0]) | skip)
    by_cases c12 : t550 < 0
    ·rw [if_pos c12] at H
     have c12b0 : decide (t550 < 0) = true := decide_eq_true c12
     clear c12
     have H' := m0 H
     clear H
     go_wp2_with (first | ((with_reducible refine gate_callee (f := 9) rfl ?_); refine goesL_ (some 26) rfl rfl Tryd.func9 (by kernel_rfl) rfl #[.slice Ao7 t543.length co7, .slice Ao8 t544.length co8, .int .i64 t545] rfl (by (try simp only [List.map_toArray, List.map_cons, List.map_nil]); rfl) ?_; (with_reducible refine (spec_BestTime.calls k _ _ t543 _ _ t544 t545 t551 _ ?side1 ?side2 ?side3 ?side4 A10.out).mono ?_); (case side1 => exact (Kd.S_reads' HO547.out).2.2); (case side2 => exact (Kd.S_reads' HO547.out).2.1); (case side3 => exact (Kd.Q_reads' HO549.out).2.2); (case side4 => exact (Kd.Q_reads' HO549.out).2.1); rintro e w13 ⟨rfl, hb⟩; refine ⟨_, rfl, ?_⟩; have n0_ := m0 (Kd.S_below HO547.out hb); have n1_ := m0 (Kd.Q_below HO549.out hb); have n2_ := m0 (below_step HB.out hb); clear HO547; clear HO549; clear HB; have HO547 := n0_; have HO549 := n1_; have HB := n2_; clear n0_ n1_ n2_; (try clear hb); (try clear hb2); (try clear hk); (try clear hi)))
     go_meet
     case rel => exact ⟨_, (true), (by first | rfl | (simp; done) | (simp [*]; done)), H', ⟨by first | omega | exact Nat.le_refl _⟩, ⟨HO547.out⟩, ⟨HO549.out⟩, ⟨HB.out⟩⟩
    ·rw [if_neg c12] at H
     have c12b0 : decide (t550 < 0) = false := decide_eq_false c12
     clear c12
     have H' := m0 H
     clear H
     go_wp2_with (first | ((with_reducible refine gate_callee (f := 9) rfl ?_); refine goesL_ (some 26) rfl rfl Tryd.func9 (by kernel_rfl) rfl #[.slice Ao7 t543.length co7, .slice Ao8 t544.length co8, .int .i64 t545] rfl (by (try simp only [List.map_toArray, List.map_cons, List.map_nil]); rfl) ?_; (with_reducible refine (spec_BestTime.calls k _ _ t543 _ _ t544 t545 t551 _ ?side1 ?side2 ?side3 ?side4 A10.out).mono ?_); (case side1 => exact (Kd.S_reads' HO547.out).2.2); (case side2 => exact (Kd.S_reads' HO547.out).2.1); (case side3 => exact (Kd.Q_reads' HO549.out).2.2); (case side4 => exact (Kd.Q_reads' HO549.out).2.1); rintro e w14 ⟨rfl, hb⟩; refine ⟨_, rfl, ?_⟩; have n0_ := m0 (Kd.S_below HO547.out hb); have n1_ := m0 (Kd.Q_below HO549.out hb); have n2_ := m0 (below_step HB.out hb); clear HO547; clear HO549; clear HB; have HO547 := n0_; have HO549 := n1_; have HB := n2_; clear n0_ n1_ n2_; (try clear hb); (try clear hb2); (try clear hk); (try clear hi)))
     go_meet
     case rel => exact ⟨_, (((t543.length : Int) == 0)), (by first | rfl | (simp; done) | (simp [*]; done)), H', ⟨by first | omega | exact Nat.le_refl _⟩, ⟨HO547.out⟩, ⟨HO549.out⟩, ⟨HB.out⟩⟩
   ·rw [if_neg c11] at H
    have c11b0 : (t550 == t551) = false := beq_eq_false_iff_ne.mpr c11
    have c11b1 : (t550 != t551) = true := bne_iff_ne.mpr c11
    (first | rw [c11b0] | (simp only [i64_w, i32_w]; rw [c11b0]) | skip)
    have H' := m0 H
    clear H
    go_wp2_with (first | ((with_reducible refine gate_callee (f := 9) rfl ?_); refine goesL_ (some 26) rfl rfl Tryd.func9 (by kernel_rfl) rfl #[.slice Ao7 t543.length co7, .slice Ao8 t544.length co8, .int .i64 t545] rfl (by (try simp only [List.map_toArray, List.map_cons, List.map_nil]); rfl) ?_; (with_reducible refine (spec_BestTime.calls k _ _ t543 _ _ t544 t545 t551 _ ?side1 ?side2 ?side3 ?side4 A10.out).mono ?_); (case side1 => exact (Kd.S_reads' HO547.out).2.2); (case side2 => exact (Kd.S_reads' HO547.out).2.1); (case side3 => exact (Kd.Q_reads' HO549.out).2.2); (case side4 => exact (Kd.Q_reads' HO549.out).2.1); rintro e w15 ⟨rfl, hb⟩; refine ⟨_, rfl, ?_⟩; have n0_ := m0 (Kd.S_below HO547.out hb); have n1_ := m0 (Kd.Q_below HO549.out hb); have n2_ := m0 (below_step HB.out hb); clear HO547; clear HO549; clear HB; have HO547 := n0_; have HO549 := n1_; have HB := n2_; clear n0_ n1_ n2_; (try clear hb); (try clear hb2); (try clear hk); (try clear hi)))
    go_meet
    case rel => exact ⟨_, (true), (by first | rfl | (simp; done) | (simp [*]; done)), H', ⟨by first | omega | exact Nat.le_refl _⟩, ⟨HO547.out⟩, ⟨HO549.out⟩, ⟨HB.out⟩⟩
  case rest =>
   clear HC5
   try clear c1
   try clear c2
   try clear c2b0
   try clear c2b1
   try clear p2
   try clear c7
   try clear c9
   try clear c11
   try clear c11b0
   try clear c11b1
   try clear c12
   try clear c12b0
   obtain ⟨kq, x36_4, rfl, HA, HJ4, HO_3, HO_4, HB⟩ := hcut
   cases kq with
   | zero => exact absurd HA.out (by simp [laws_FnBestTimeLess.j0])
   | succ kj4 =>
    have H := HA.out
    clear HA
    simp only [laws_FnBestTimeLess.j0] at H
    by_cases c16 : x36_4 = true
    ·subst c16
     have H1 : ((spec_BestTime.f kj4 t543 t544 t545).bind fun t552 => (some (t550 == t552))) = some r := by rw [if_pos rfl] at H; exact H
     clear H
     have H := H1
     clear H1
     replace H := Option.bind_eq_some_iff.mp H
     obtain ⟨t552, A170, H⟩ := H
     replace H : (some (t550 == t552)) = some r := H
     have A17 := m0 A170
     clear A170
     obtain rfl := Option.some.inj H
     go_wp2_with (first | ((with_reducible refine gate_callee (f := 9) rfl ?_); refine goesL_ (some 41) rfl rfl Tryd.func9 (by kernel_rfl) rfl #[.slice Ao7 t543.length co7, .slice Ao8 t544.length co8, .int .i64 t545] rfl (by (try simp only [List.map_toArray, List.map_cons, List.map_nil]); rfl) ?_; (with_reducible refine (spec_BestTime.calls kj4 _ _ t543 _ _ t544 t545 t552 _ ?side1 ?side2 ?side3 ?side4 A17.out).mono ?_); (case side1 => exact (Kd.S_reads' HO_3.out).2.2); (case side2 => exact (Kd.S_reads' HO_3.out).2.1); (case side3 => exact (Kd.Q_reads' HO_4.out).2.2); (case side4 => exact (Kd.Q_reads' HO_4.out).2.1); rintro e w18 ⟨rfl, hb⟩; refine ⟨_, rfl, ?_⟩; have n0_ := m0 (Kd.S_below HO_3.out hb); have n1_ := m0 (Kd.Q_below HO_4.out hb); have n2_ := m0 (below_step HB.out hb); clear HO_3; clear HO_4; clear HB; have HO_3 := n0_; have HO_4 := n1_; have HB := n2_; clear n0_ n1_ n2_; (try clear hb); (try clear hb2); (try clear hk); (try clear hi)))
     go_ret
     exact ⟨by first | rfl | (simp [errW_none, errW_some] <;> rfl) | (simp [*, errW_none, errW_some] <;> rfl), HB.out⟩
    ·replace c16 := Bool.eq_false_iff.mpr c16
     subst c16
     have H1 : (if 0 ≤ (wrap64 ((t543.length : Int) - 1)) then (if (wrap64 ((t543.length : Int) - 1)) ≤ (t543.length : Int) then ((impl_BestTime.f (t543.take ((wrap64 ((t543.length : Int) - 1)) : Int).toNat) t544 t545).bind fun t557 => ((impl_AllUsers.f t543 (wrap64 ((t543.length : Int) - 1))).bind fun t558 => (if (t558.length : Int) > 0 then (some true) else (if t557 ≥ 0 then (if t557 ≤ t550 then (if (wrap64 ((t543.length : Int) - 1)) < (t543.length : Int) then (some (decide (t550 ≤ (wrap64 (t557 + ((rd_T39 t543 (wrap64 ((t543.length : Int) - 1))).f0)))))) else (none)) else (some false)) else (some false))))) else (none)) else (none)) = some r := by rw [if_neg (show ¬ (false = true) by decide)] at H; exact H
     clear H
     have H := H1
     clear H1
     obtain ⟨ji19, hji19⟩ : ∃ j_ : Int, (wrap64 ((t543.length : Int) - 1)) = j_ := ⟨_, rfl⟩
     replace H : (if 0 ≤ (ji19) then (if (ji19) ≤ (t543.length : Int) then ((impl_BestTime.f (t543.take ((ji19) : Int).toNat) t544 t545).bind fun t557 => ((impl_AllUsers.f t543 (ji19)).bind fun t558 => (if (t558.length : Int) > 0 then (some true) else (if t557 ≥ 0 then (if t557 ≤ t550 then (if (ji19) < (t543.length : Int) then (some (decide (t550 ≤ (wrap64 (t557 + ((rd_T39 t543 (ji19)).f0)))))) else (none)) else (some false)) else (some false))))) else (none)) else (none)) = some r := by first | (rw [hji19] at H; exact H) | (simp only [hji19] at H ⊢; exact H)
     have hji19w : (IntKind.i64.wrap ((t543.length : Int) - 1)) = ji19 := (i64_w _).trans hji19
     by_cases c20 : 0 ≤ (ji19)
     ·rw [if_pos c20] at H
      have c20b0 := eq_true c20
      have c20b1 : decide (0 ≤ (ji19)) = true := decide_eq_true c20
      clear c20
      by_cases c21 : (ji19) ≤ (t543.length : Int)
      ·rw [if_pos c21] at H
       have c21b0 := eq_true c21
       have c21b1 : decide ((ji19) ≤ (t543.length : Int)) = true := decide_eq_true c21
       clear c21
       obtain ⟨y553, hy553⟩ : ∃ y_ : List (S39), y_ = (t543.take ((ji19) : Int).toNat) := ⟨_, rfl⟩
       replace H : ((impl_BestTime.f y553 t544 t545).bind fun t557 => ((impl_AllUsers.f t543 (ji19)).bind fun t558 => (if (t558.length : Int) > 0 then (some true) else (if t557 ≥ 0 then (if t557 ≤ t550 then (if (ji19) < (t543.length : Int) then (some (decide (t550 ≤ (wrap64 (t557 + ((rd_T39 t543 (ji19)).f0)))))) else (none)) else (some false)) else (some false))))) = some r := by first | (rw [hy553]; with_reducible exact H) | (have H2_ := (Option.bind_some _ _).symm.trans H; rw [hy553]; with_reducible exact H2_) | (have H2_ := (Option.bind_some _ _).symm.trans H; with_reducible exact H2_) | with_reducible exact H | (rw [hy553]; exact H) | exact H
       have Ny553 := m0 hy553
       clear hy553
       replace H := Option.bind_eq_some_iff.mp H
       obtain ⟨t557, A220, H⟩ := H
       replace H : ((impl_AllUsers.f t543 (ji19)).bind fun t558 => (if (t558.length : Int) > 0 then (some true) else (if t557 ≥ 0 then (if t557 ≤ t550 then (if (ji19) < (t543.length : Int) then (some (decide (t550 ≤ (wrap64 (t557 + ((rd_T39 t543 (ji19)).f0)))))) else (none)) else (some false)) else (some false)))) = some r := H
       have A22 := m0 A220
       clear A220
       replace H := Option.bind_eq_some_iff.mp H
       obtain ⟨t558, A230, H⟩ := H
       replace H : (if (t558.length : Int) > 0 then (some true) else (if t557 ≥ 0 then (if t557 ≤ t550 then (if (ji19) < (t543.length : Int) then (some (decide (t550 ≤ (wrap64 (t557 + ((rd_T39 t543 (ji19)).f0)))))) else (none)) else (some false)) else (some false))) = some r := H
       have A23 := m0 A230
       clear A230
       by_cases c24 : (t558.length : Int) > 0
       ·rw [if_pos c24] at H
        have c24b0 : decide (0 < (t558.length : Int)) = true := decide_eq_true c24
        have c24b1 : decide (0 < t558.length) = true := decide_eq_true (by omega)
        clear c24
        obtain rfl := Option.some.inj H
        have q25 : ((ji19) : Int) ≤ ((t543.length : Int) : Int) := of_decide_eq_true (by first | (with_reducible assumption) | assumption)
        obtain ⟨i025, hi025, _, hsz25, _⟩ := info_parts info39
        have hroom25 : t543.length ≤ co7 := (Kd.S_reads' HO_3.out).2.1
        have hC25 : Kd.C k39 _ Ao7 t543.length t543 := (Kd.S_reads' HO_3.out).2.2
        have hcut25 := cut_to (P := Tryd.prog) 26 39 .i64 Tryd.underlying26 hi025 Ao7 t543.length co7 (ji19) (of_decide_eq_true (by first | (with_reducible assumption) | assumption)) q25 hroom25
        have hr25 := Kd.C_take (m := ((ji19) : Int).toNat) hC25 (by omega)
        have hy25 : y553.length = ((ji19) : Int).toNat := (by rw [Ny553.out, List.length_take]; omega)
        rw [← Ny553.out] at hr25
        rw [← hy25] at hcut25
        have HR556 := m0 hr25
        have HC556 := m0 (show y553.length ≤ co7 from by omega)
        clear hr25 hC25 hroom25 hi025 hsz25
        have KY25 := m0 hy25
        clear hy25
        have KL25 := m0 (show ((ji19) : Int).toNat ≤ t543.length from by omega)
        replace q25 := eq_true q25
        go_wp2_with (first | ((with_reducible refine gate_callee (f := 12) rfl ?_); refine goesL_ (some 51) rfl rfl Tryd.func12 (by kernel_rfl) rfl #[.slice Ao7 y553.length co7, .slice Ao8 t544.length co8, .int .i64 t545] rfl (by (try simp only [List.map_toArray, List.map_cons, List.map_nil]); rfl) ?_; (with_reducible refine (impl_BestTime.calls _ _ y553 _ _ t544 t545 t557 _ ?side1 ?side2 ?side3 ?side4 ?side5 A22.out).mono ?_); (case side1 => repeat (first | exact (by repeat (first | (with_reducible exact HR556.out) | (with_reducible refine Kd.C_alloc ?_ _) | (with_reducible refine Kd.C_drewN ?_ _) | (with_reducible refine Kd.C_drew ?_) | exact HR556.out)) | (with_reducible refine Kd.C_alloc ?_ _) | (with_reducible refine Kd.C_drewN ?_ _) | (with_reducible refine Kd.C_drew ?_))); (case side2 => exact HC556.out); (case side3 => exact (Kd.Q_reads' HO_4.out).2.2); (case side4 => exact (Kd.Q_reads' HO_4.out).2.1); (case side5 => exact Tab.of HT.out HB.out); rintro e w26 ⟨rfl, hb⟩; refine ⟨_, rfl, ?_⟩; have n0_ := m0 (Kd.S_below HO_3.out hb); have n1_ := m0 (Kd.Q_below HO_4.out hb); have n2_ := m0 (Kd.C_below (by repeat (first | (with_reducible exact HR556.out) | (with_reducible refine Kd.C_alloc ?_ _) | (with_reducible refine Kd.C_drewN ?_ _) | (with_reducible refine Kd.C_drew ?_) | exact HR556.out)) hb); have n3_ := m0 (below_step HB.out hb); clear HO_3; clear HO_4; clear HR556; clear HB; have HO_3 := n0_; have HO_4 := n1_; have HR556 := n2_; have HB := n3_; clear n0_ n1_ n2_ n3_; (try clear hb); (try clear hb2); (try clear hk); (try clear hi)) | ((with_reducible refine gate_callee (f := 24) rfl ?_); refine goesL_ (some 54) rfl rfl Tryd.func24 (by kernel_rfl) rfl #[.slice Ao7 t543.length co7, .int .i64 ji19] rfl (by (try simp only [List.map_toArray, List.map_cons, List.map_nil]); first | done | (simp only [hji19]; rfl) | rfl | (simp only [List.length_drop, List.length_take]; rfl)) ?_; (with_reducible refine (impl_AllUsers.calls _ _ t543 ji19 t558 _ ?side1 ?side2 ?side3 A23.out).mono ?_); (case side1 => exact (Kd.S_reads' HO_3.out).2.2); (case side2 => exact (Kd.S_reads' HO_3.out).2.1); (case side3 => exact Tab.of HT.out HB.out); rintro e w27 ⟨v559, rfl, ho0, hb⟩; refine ⟨_, rfl, ?_⟩; have n0_ := m0 (Kd.S_elder' HO_3.out (Kd.R_base ho0) hb); have n1_ := m0 (Kd.Q_elder' HO_4.out (Kd.R_base ho0) hb); have n2_ := m0 (Kd.R_lower (Kd.R_new' ho0 (Kd.Q_lt HO_4.out)) (below_size HB.out)); have n3_ := m0 (Kd.C_below (by repeat (first | (with_reducible exact HR556.out) | (with_reducible refine Kd.C_alloc ?_ _) | (with_reducible refine Kd.C_drewN ?_ _) | (with_reducible refine Kd.C_drew ?_) | exact HR556.out)) hb); have n4_ := m0 (below_step HB.out hb); clear HO_3; clear HO_4; clear HR556; clear HB; have HO_3 := n0_; have HO_4 := n1_; have HO560 := n2_; have HR556 := n3_; have HB := n4_; clear n0_ n1_ n2_ n3_ n4_; (try clear hb); (try clear hb2); (try clear hk); (try clear hi); (try clear ho0); obtain ⟨Ao28, co28, eo28⟩ := Kd.R_slice HO560.out; subst eo28))
        go_ret
        exact ⟨by first | rfl | (simp [errW_none, errW_some] <;> rfl) | (simp only [← hji19]; first | rfl | (simp [errW_none, errW_some] <;> rfl)) | (simp [*, errW_none, errW_some] <;> rfl), HB.out⟩
       ·rw [if_neg c24] at H
        have c24b0 : decide (0 < (t558.length : Int)) = false := decide_eq_false c24
        have c24b1 : decide (0 < t558.length) = false := decide_eq_false (by omega)
        clear c24
        by_cases c29 : t557 ≥ 0
        ·rw [if_pos c29] at H
         have c29b0 : decide (0 ≤ t557) = true := decide_eq_true c29
         clear c29
         by_cases c30 : t557 ≤ t550
         ·rw [if_pos c30] at H
          have c30b0 : decide (t557 ≤ t550) = true := decide_eq_true c30
          clear c30
          by_cases c31 : (ji19) < (t543.length : Int)
          ·rw [if_pos c31] at H
           have c31b0 : decide ((ji19) < (t543.length : Int)) = true := decide_eq_true c31
           clear c31
           obtain rfl := Option.some.inj H
           have q32 : ((ji19) : Int) ≤ ((t543.length : Int) : Int) := of_decide_eq_true (by first | (with_reducible assumption) | assumption)
           obtain ⟨i032, hi032, _, hsz32, _⟩ := info_parts info39
           have hroom32 : t543.length ≤ co7 := (Kd.S_reads' HO_3.out).2.1
           have hC32 : Kd.C k39 _ Ao7 t543.length t543 := (Kd.S_reads' HO_3.out).2.2
           have hcut32 := cut_to (P := Tryd.prog) 26 39 .i64 Tryd.underlying26 hi032 Ao7 t543.length co7 (ji19) (of_decide_eq_true (by first | (with_reducible assumption) | assumption)) q32 hroom32
           have hr32 := Kd.C_take (m := ((ji19) : Int).toNat) hC32 (by omega)
           have hy32 : y553.length = ((ji19) : Int).toNat := (by rw [Ny553.out, List.length_take]; omega)
           rw [← Ny553.out] at hr32
           rw [← hy32] at hcut32
           have HR556 := m0 hr32
           have HC556 := m0 (show y553.length ≤ co7 from by omega)
           clear hr32 hC32 hroom32 hi032 hsz32
           have KY32 := m0 hy32
           clear hy32
           have KL32 := m0 (show ((ji19) : Int).toNat ≤ t543.length from by omega)
           replace q32 := eq_true q32
           go_wp2_with (first | ((with_reducible refine gate_callee (f := 12) rfl ?_); refine goesL_ (some 51) rfl rfl Tryd.func12 (by kernel_rfl) rfl #[.slice Ao7 y553.length co7, .slice Ao8 t544.length co8, .int .i64 t545] rfl (by (try simp only [List.map_toArray, List.map_cons, List.map_nil]); rfl) ?_; (with_reducible refine (impl_BestTime.calls _ _ y553 _ _ t544 t545 t557 _ ?side1 ?side2 ?side3 ?side4 ?side5 A22.out).mono ?_); (case side1 => repeat (first | exact (by repeat (first | (with_reducible exact HR556.out) | (with_reducible refine Kd.C_alloc ?_ _) | (with_reducible refine Kd.C_drewN ?_ _) | (with_reducible refine Kd.C_drew ?_) | exact HR556.out)) | (with_reducible refine Kd.C_alloc ?_ _) | (with_reducible refine Kd.C_drewN ?_ _) | (with_reducible refine Kd.C_drew ?_))); (case side2 => exact HC556.out); (case side3 => exact (Kd.Q_reads' HO_4.out).2.2); (case side4 => exact (Kd.Q_reads' HO_4.out).2.1); (case side5 => exact Tab.of HT.out HB.out); rintro e w33 ⟨rfl, hb⟩; refine ⟨_, rfl, ?_⟩; have n0_ := m0 (Kd.S_below HO_3.out hb); have n1_ := m0 (Kd.Q_below HO_4.out hb); have n2_ := m0 (Kd.C_below (by repeat (first | (with_reducible exact HR556.out) | (with_reducible refine Kd.C_alloc ?_ _) | (with_reducible refine Kd.C_drewN ?_ _) | (with_reducible refine Kd.C_drew ?_) | exact HR556.out)) hb); have n3_ := m0 (below_step HB.out hb); clear HO_3; clear HO_4; clear HR556; clear HB; have HO_3 := n0_; have HO_4 := n1_; have HR556 := n2_; have HB := n3_; clear n0_ n1_ n2_ n3_; (try clear hb); (try clear hb2); (try clear hk); (try clear hi)) | ((with_reducible refine gate_callee (f := 24) rfl ?_); refine goesL_ (some 54) rfl rfl Tryd.func24 (by kernel_rfl) rfl #[.slice Ao7 t543.length co7, .int .i64 ji19] rfl (by (try simp only [List.map_toArray, List.map_cons, List.map_nil]); first | done | (simp only [hji19]; rfl) | rfl | (simp only [List.length_drop, List.length_take]; rfl)) ?_; (with_reducible refine (impl_AllUsers.calls _ _ t543 ji19 t558 _ ?side1 ?side2 ?side3 A23.out).mono ?_); (case side1 => exact (Kd.S_reads' HO_3.out).2.2); (case side2 => exact (Kd.S_reads' HO_3.out).2.1); (case side3 => exact Tab.of HT.out HB.out); rintro e w34 ⟨v559, rfl, ho0, hb⟩; refine ⟨_, rfl, ?_⟩; have n0_ := m0 (Kd.S_elder' HO_3.out (Kd.R_base ho0) hb); have n1_ := m0 (Kd.Q_elder' HO_4.out (Kd.R_base ho0) hb); have n2_ := m0 (Kd.R_lower (Kd.R_new' ho0 (Kd.Q_lt HO_4.out)) (below_size HB.out)); have n3_ := m0 (Kd.C_below (by repeat (first | (with_reducible exact HR556.out) | (with_reducible refine Kd.C_alloc ?_ _) | (with_reducible refine Kd.C_drewN ?_ _) | (with_reducible refine Kd.C_drew ?_) | exact HR556.out)) hb); have n4_ := m0 (below_step HB.out hb); clear HO_3; clear HO_4; clear HR556; clear HB; have HO_3 := n0_; have HO_4 := n1_; have HO560 := n2_; have HR556 := n3_; have HB := n4_; clear n0_ n1_ n2_ n3_ n4_; (try clear hb); (try clear hb2); (try clear hk); (try clear hi); (try clear ho0); obtain ⟨Ao35, co35, eo35⟩ := Kd.R_slice HO560.out; subst eo35; have p561 : 0 ≤ ((ji19) : Int) := of_decide_eq_true (by first | (with_reducible assumption) | assumption); have q561 : (ji19) < (t543.length : Int) := of_decide_eq_true (by first | (with_reducible assumption) | assumption); obtain ⟨ad561, A561_1, c561_1, e561, hx561_0, hx561_1, hx561_2, hx561_3, hl561_1, hi561_1⟩ := at_T39 (Kd.S_reads' HO_3.out).2.2 (ji19) p561 q561; cases e561; obtain ⟨ce561, hce561, hMe561, hcc561⟩ := Kd.S_get HO_3.out z39 (ji19) p561 (by first | exact q561 | exact of_decide_eq_true (by first | (with_reducible assumption) | assumption) | (have e_ := (Kd.S_reads' HO_3.out).1; omega)); obtain ⟨ve561_1, rfl, ge561_1⟩ := k39_openM hMe561; have hv561_1 := hcc561 1 _ rfl; rw [add_field _ _ 1 (by omega)] at hv561_1; replace hv561_1 := Option.some.inj (hv561_1.symm.trans hx561_1); rw [hv561_1] at ge561_1; have HL561_1 := m0 (show Kd.Q (Kd.int .i64) 3 _ _ _ _ ((rd_T39 t543 (ji19)).f1) from ge561_1); clear hv561_1 ge561_1; clear hcc561 hce561; have HR561_1 := m0 hi561_1; have HC561_1 := m0 hl561_1; clear hi561_1 hl561_1; replace p561 := eq_true p561; replace q561 := eq_true q561))
           go_ret
           exact ⟨by first | rfl | (simp [errW_none, errW_some] <;> rfl) | (simp only [← hji19]; first | rfl | (simp [errW_none, errW_some] <;> rfl)) | (simp [*, errW_none, errW_some] <;> rfl), HB.out⟩
          ·rw [if_neg c31] at H
           exact absurd H (by simp)
         ·rw [if_neg c30] at H
          have c30b0 : decide (t557 ≤ t550) = false := decide_eq_false c30
          clear c30
          obtain rfl := Option.some.inj H
          have q36 : ((ji19) : Int) ≤ ((t543.length : Int) : Int) := of_decide_eq_true (by first | (with_reducible assumption) | assumption)
          obtain ⟨i036, hi036, _, hsz36, _⟩ := info_parts info39
          have hroom36 : t543.length ≤ co7 := (Kd.S_reads' HO_3.out).2.1
          have hC36 : Kd.C k39 _ Ao7 t543.length t543 := (Kd.S_reads' HO_3.out).2.2
          have hcut36 := cut_to (P := Tryd.prog) 26 39 .i64 Tryd.underlying26 hi036 Ao7 t543.length co7 (ji19) (of_decide_eq_true (by first | (with_reducible assumption) | assumption)) q36 hroom36
          have hr36 := Kd.C_take (m := ((ji19) : Int).toNat) hC36 (by omega)
          have hy36 : y553.length = ((ji19) : Int).toNat := (by rw [Ny553.out, List.length_take]; omega)
          rw [← Ny553.out] at hr36
          rw [← hy36] at hcut36
          have HR556 := m0 hr36
          have HC556 := m0 (show y553.length ≤ co7 from by omega)
          clear hr36 hC36 hroom36 hi036 hsz36
          have KY36 := m0 hy36
          clear hy36
          have KL36 := m0 (show ((ji19) : Int).toNat ≤ t543.length from by omega)
          replace q36 := eq_true q36
          go_wp2_with (first | ((with_reducible refine gate_callee (f := 12) rfl ?_); refine goesL_ (some 51) rfl rfl Tryd.func12 (by kernel_rfl) rfl #[.slice Ao7 y553.length co7, .slice Ao8 t544.length co8, .int .i64 t545] rfl (by (try simp only [List.map_toArray, List.map_cons, List.map_nil]); rfl) ?_; (with_reducible refine (impl_BestTime.calls _ _ y553 _ _ t544 t545 t557 _ ?side1 ?side2 ?side3 ?side4 ?side5 A22.out).mono ?_); (case side1 => repeat (first | exact (by repeat (first | (with_reducible exact HR556.out) | (with_reducible refine Kd.C_alloc ?_ _) | (with_reducible refine Kd.C_drewN ?_ _) | (with_reducible refine Kd.C_drew ?_) | exact HR556.out)) | (with_reducible refine Kd.C_alloc ?_ _) | (with_reducible refine Kd.C_drewN ?_ _) | (with_reducible refine Kd.C_drew ?_))); (case side2 => exact HC556.out); (case side3 => exact (Kd.Q_reads' HO_4.out).2.2); (case side4 => exact (Kd.Q_reads' HO_4.out).2.1); (case side5 => exact Tab.of HT.out HB.out); rintro e w37 ⟨rfl, hb⟩; refine ⟨_, rfl, ?_⟩; have n0_ := m0 (Kd.S_below HO_3.out hb); have n1_ := m0 (Kd.Q_below HO_4.out hb); have n2_ := m0 (Kd.C_below (by repeat (first | (with_reducible exact HR556.out) | (with_reducible refine Kd.C_alloc ?_ _) | (with_reducible refine Kd.C_drewN ?_ _) | (with_reducible refine Kd.C_drew ?_) | exact HR556.out)) hb); have n3_ := m0 (below_step HB.out hb); clear HO_3; clear HO_4; clear HR556; clear HB; have HO_3 := n0_; have HO_4 := n1_; have HR556 := n2_; have HB := n3_; clear n0_ n1_ n2_ n3_; (try clear hb); (try clear hb2); (try clear hk); (try clear hi)) | ((with_reducible refine gate_callee (f := 24) rfl ?_); refine goesL_ (some 54) rfl rfl Tryd.func24 (by kernel_rfl) rfl #[.slice Ao7 t543.length co7, .int .i64 ji19] rfl (by (try simp only [List.map_toArray, List.map_cons, List.map_nil]); first | done | (simp only [hji19]; rfl) | rfl | (simp only [List.length_drop, List.length_take]; rfl)) ?_; (with_reducible refine (impl_AllUsers.calls _ _ t543 ji19 t558 _ ?side1 ?side2 ?side3 A23.out).mono ?_); (case side1 => exact (Kd.S_reads' HO_3.out).2.2); (case side2 => exact (Kd.S_reads' HO_3.out).2.1); (case side3 => exact Tab.of HT.out HB.out); rintro e w38 ⟨v559, rfl, ho0, hb⟩; refine ⟨_, rfl, ?_⟩; have n0_ := m0 (Kd.S_elder' HO_3.out (Kd.R_base ho0) hb); have n1_ := m0 (Kd.Q_elder' HO_4.out (Kd.R_base ho0) hb); have n2_ := m0 (Kd.R_lower (Kd.R_new' ho0 (Kd.Q_lt HO_4.out)) (below_size HB.out)); have n3_ := m0 (Kd.C_below (by repeat (first | (with_reducible exact HR556.out) | (with_reducible refine Kd.C_alloc ?_ _) | (with_reducible refine Kd.C_drewN ?_ _) | (with_reducible refine Kd.C_drew ?_) | exact HR556.out)) hb); have n4_ := m0 (below_step HB.out hb); clear HO_3; clear HO_4; clear HR556; clear HB; have HO_3 := n0_; have HO_4 := n1_; have HO560 := n2_; have HR556 := n3_; have HB := n4_; clear n0_ n1_ n2_ n3_ n4_; (try clear hb); (try clear hb2); (try clear hk); (try clear hi); (try clear ho0); obtain ⟨Ao39, co39, eo39⟩ := Kd.R_slice HO560.out; subst eo39))
          go_ret
          exact ⟨by first | rfl | (simp [errW_none, errW_some] <;> rfl) | (simp only [← hji19]; first | rfl | (simp [errW_none, errW_some] <;> rfl)) | (simp [*, errW_none, errW_some] <;> rfl), HB.out⟩
        ·rw [if_neg c29] at H
         have c29b0 : decide (0 ≤ t557) = false := decide_eq_false c29
         clear c29
         obtain rfl := Option.some.inj H
         have q40 : ((ji19) : Int) ≤ ((t543.length : Int) : Int) := of_decide_eq_true (by first | (with_reducible assumption) | assumption)
         obtain ⟨i040, hi040, _, hsz40, _⟩ := info_parts info39
         have hroom40 : t543.length ≤ co7 := (Kd.S_reads' HO_3.out).2.1
         have hC40 : Kd.C k39 _ Ao7 t543.length t543 := (Kd.S_reads' HO_3.out).2.2
         have hcut40 := cut_to (P := Tryd.prog) 26 39 .i64 Tryd.underlying26 hi040 Ao7 t543.length co7 (ji19) (of_decide_eq_true (by first | (with_reducible assumption) | assumption)) q40 hroom40
         have hr40 := Kd.C_take (m := ((ji19) : Int).toNat) hC40 (by omega)
         have hy40 : y553.length = ((ji19) : Int).toNat := (by rw [Ny553.out, List.length_take]; omega)
         rw [← Ny553.out] at hr40
         rw [← hy40] at hcut40
         have HR556 := m0 hr40
         have HC556 := m0 (show y553.length ≤ co7 from by omega)
         clear hr40 hC40 hroom40 hi040 hsz40
         have KY40 := m0 hy40
         clear hy40
         have KL40 := m0 (show ((ji19) : Int).toNat ≤ t543.length from by omega)
         replace q40 := eq_true q40
         go_wp2_with (first | ((with_reducible refine gate_callee (f := 12) rfl ?_); refine goesL_ (some 51) rfl rfl Tryd.func12 (by kernel_rfl) rfl #[.slice Ao7 y553.length co7, .slice Ao8 t544.length co8, .int .i64 t545] rfl (by (try simp only [List.map_toArray, List.map_cons, List.map_nil]); rfl) ?_; (with_reducible refine (impl_BestTime.calls _ _ y553 _ _ t544 t545 t557 _ ?side1 ?side2 ?side3 ?side4 ?side5 A22.out).mono ?_); (case side1 => repeat (first | exact (by repeat (first | (with_reducible exact HR556.out) | (with_reducible refine Kd.C_alloc ?_ _) | (with_reducible refine Kd.C_drewN ?_ _) | (with_reducible refine Kd.C_drew ?_) | exact HR556.out)) | (with_reducible refine Kd.C_alloc ?_ _) | (with_reducible refine Kd.C_drewN ?_ _) | (with_reducible refine Kd.C_drew ?_))); (case side2 => exact HC556.out); (case side3 => exact (Kd.Q_reads' HO_4.out).2.2); (case side4 => exact (Kd.Q_reads' HO_4.out).2.1); (case side5 => exact Tab.of HT.out HB.out); rintro e w41 ⟨rfl, hb⟩; refine ⟨_, rfl, ?_⟩; have n0_ := m0 (Kd.S_below HO_3.out hb); have n1_ := m0 (Kd.Q_below HO_4.out hb); have n2_ := m0 (Kd.C_below (by repeat (first | (with_reducible exact HR556.out) | (with_reducible refine Kd.C_alloc ?_ _) | (with_reducible refine Kd.C_drewN ?_ _) | (with_reducible refine Kd.C_drew ?_) | exact HR556.out)) hb); have n3_ := m0 (below_step HB.out hb); clear HO_3; clear HO_4; clear HR556; clear HB; have HO_3 := n0_; have HO_4 := n1_; have HR556 := n2_; have HB := n3_; clear n0_ n1_ n2_ n3_; (try clear hb); (try clear hb2); (try clear hk); (try clear hi)) | ((with_reducible refine gate_callee (f := 24) rfl ?_); refine goesL_ (some 54) rfl rfl Tryd.func24 (by kernel_rfl) rfl #[.slice Ao7 t543.length co7, .int .i64 ji19] rfl (by (try simp only [List.map_toArray, List.map_cons, List.map_nil]); first | done | (simp only [hji19]; rfl) | rfl | (simp only [List.length_drop, List.length_take]; rfl)) ?_; (with_reducible refine (impl_AllUsers.calls _ _ t543 ji19 t558 _ ?side1 ?side2 ?side3 A23.out).mono ?_); (case side1 => exact (Kd.S_reads' HO_3.out).2.2); (case side2 => exact (Kd.S_reads' HO_3.out).2.1); (case side3 => exact Tab.of HT.out HB.out); rintro e w42 ⟨v559, rfl, ho0, hb⟩; refine ⟨_, rfl, ?_⟩; have n0_ := m0 (Kd.S_elder' HO_3.out (Kd.R_base ho0) hb); have n1_ := m0 (Kd.Q_elder' HO_4.out (Kd.R_base ho0) hb); have n2_ := m0 (Kd.R_lower (Kd.R_new' ho0 (Kd.Q_lt HO_4.out)) (below_size HB.out)); have n3_ := m0 (Kd.C_below (by repeat (first | (with_reducible exact HR556.out) | (with_reducible refine Kd.C_alloc ?_ _) | (with_reducible refine Kd.C_drewN ?_ _) | (with_reducible refine Kd.C_drew ?_) | exact HR556.out)) hb); have n4_ := m0 (below_step HB.out hb); clear HO_3; clear HO_4; clear HR556; clear HB; have HO_3 := n0_; have HO_4 := n1_; have HO560 := n2_; have HR556 := n3_; have HB := n4_; clear n0_ n1_ n2_ n3_ n4_; (try clear hb); (try clear hb2); (try clear hk); (try clear hi); (try clear ho0); obtain ⟨Ao43, co43, eo43⟩ := Kd.R_slice HO560.out; subst eo43))
         go_ret
         exact ⟨by first | rfl | (simp [errW_none, errW_some] <;> rfl) | (simp only [← hji19]; first | rfl | (simp [errW_none, errW_some] <;> rfl)) | (simp [*, errW_none, errW_some] <;> rfl), HB.out⟩
      ·rw [if_neg c21] at H
       exact absurd H (by simp)
     ·rw [if_neg c20] at H
      exact absurd H (by simp)
end Go.Proofs.YtimbfcedigaffaaDoor.P
end
section
namespace Go.Proofs.YtimbfcedigaffaaDoor.Core
open Go Go.RowKit Go.Proofs.YtimbfcedigaffaaDoorW.PrintWords Go.Proofs.YtimbfcedigaffaaDoorW.PrintMore Go.Proofs.YtimbfcedigaffaaDoor.P
theorem bestTD_neg2 {g : List Tk} {room : List Int} {wk : Int} (h : ¬ bestTD g room wk < 0) : ∃ G, fewD g room wk = some G := by
 cases hf : fewD g room wk with
 | none =>
  have e : bestTD g room wk = -1 := by unfold bestTD bestD; rw [hf]
  rw [e] at h
  exact absurd (by decide : (-1 : Int) < 0) h
 | some G => exact ⟨G, rfl⟩
/-- A task that nobody waits for is needed by nobody. -/
theorem users_none {g : List Tk} {G : GD} (hG : graphD g = some G) {k : Nat} (hk : g.length = k + 1) (h : ¬ ((allUsersD g (k : Int)).length : Int) > 0) : ∀ i, i < g.length → (G.needs.getD i 0).testBit k = false := by
 intro i hi
 cases hb : (G.needs.getD i 0).testBit k with
 | false => rfl
 | true =>
  exfalso
  have hab := above_needs hG hi (by omega) hb
  have e : allUsersD g (k : Int) = elems (G.above.getD k 0) := by
   unfold allUsersD
   rw [hG]
   simp only []
   rw [if_pos (by omega), Int.toNat_natCast]
  rw [e] at h
  have hm : ((i : Nat) : Int) ∈ elems (G.above.getD k 0) := mem_elems.2 ⟨i, rfl, by have := (vg_of hG).n8; omega, hab⟩
  have := List.length_pos_of_mem hm
  omega
theorem FnBestTimeLess_pure (l0 : List Int) (hW : Bytes l0) : ∃ k, laws_FnBestTimeLess.f k l0 = some true := by
 refine Ev.one (f := fun k => laws_FnBestTimeLess.f k l0) (EvP.ev ?_)
 unfold laws_FnBestTimeLess.f
 refine EvP.ite (fun _ => EvP.ret rfl) (fun hlen => ?_)
 refine (ev_DrawBestTime hW).bind fun ⟨g, room, wk⟩ hg => ?_
 obtain ⟨hg, hr, hw0, hw5⟩ := hg
 dsimp only at hg hr hw0 hw5 ⊢
 have hfit := hg.fits (by unfold big; omega) (by unfold big; omega)
 have hrb : room.length < big := by unfold big; omega
 have hs := ev_BestTime' hfit (room := room) (wk := wk) hrb
 have hself : EvP (fun k => laws_FnBestTimeLess.j0 k g room wk (bestTD g room wk) true) (fun x => x = true) := by
  refine EvP.succ ?_
  simp only [laws_FnBestTimeLess.j0]
  exact EvP.pos (by first | rfl | trivial) (Ev.bindP hs (EvP.ret (beq_iff_eq.2 rfl)))
 refine Ev.bindP (Ev.const (bestTD g room wk)) (Ev.bindP hs (EvP.pos rfl (EvP.ite (fun _ => hself) (fun hneg => ?_))))
 obtain ⟨G, hfew⟩ := bestTD_neg2 hneg
 obtain ⟨h5, hp⟩ := fewD_some hfew
 obtain ⟨hG, hroom, hw1, hw4⟩ := placeD_some hp
 cases hgl : g.length with
 | zero =>
  rw [show (((0 : Nat) : Int) == 0) = true from rfl]
  exact hself
 | succ k =>
  rw [show (((k + 1 : Nat) : Int) == 0) = false from beq_eq_false_iff_ne.2 (by omega)]
  refine EvP.succ ?_
  simp only [laws_FnBestTimeLess.j0]
  have hw : wrap64 ((g.length : Int) - 1) = (k : Int) := by rw [w64 (by omega) (by omega)]; omega
  rw [hw, Int.toNat_natCast]
  refine EvP.neg Bool.false_ne_true (EvP.pos (by omega) (EvP.pos (by omega) ?_))
  refine Ev.bindP (Ev.const (bestTD (g.take k) room wk)) (Ev.bindP (Ev.const (allUsersD g (k : Int))) (EvP.ite (fun _ => EvP.ret rfl) (fun hno => ?_)))
  have hno2 := users_none hG hgl hno
  have hft : ∀ j, Fits (g.take j) := fun j => ⟨by have := hfit.1; rw [List.length_take]; omega, fun t ht => hfit.2 t (List.mem_of_mem_take ht)⟩
  obtain ⟨b1, b2, b3⟩ := best_less hfit hft hrb hfew hgl hno2
  have htok : ∀ t ∈ g, taskOk t := graphD_taskOk hG
  have htm := tm_int htok (show k < g.length by omega)
  have hup := bestTD_more hfit hrb (few_wk hfew (show (1 : Int) ≤ 1 by decide) (by decide)) hw1 hw4
  rw [bestTD_one hfit hrb (few_wk hfew (show (1 : Int) ≤ 1 by decide) (by decide))] at hup
  have hts := tsum_le (tm20_of htok) (List.range g.length)
  rw [List.length_range] at hts
  have hrd : rd_T39 g (k : Int) = g.getD k z39 := by simp [rd_T39]
  refine EvP.pos b1 (EvP.pos b2 (EvP.pos (by omega) (EvP.ret ?_)))
  rw [hrd, htm.1, w64 (by omega) (by omega)]
  exact decide_eq_true b3
end Go.Proofs.YtimbfcedigaffaaDoor.Core
end
