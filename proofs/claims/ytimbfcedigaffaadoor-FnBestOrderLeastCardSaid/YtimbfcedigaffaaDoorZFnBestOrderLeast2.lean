/- The law FnBestOrderLeast holds of the given program: the proof's own part, with its row and its card, part 2 of 5. -/
import Derived.Test.YtimbfcedigaffaaDoorZFnBestOrderLeast1
section
namespace Go.Proofs.YtimbfcedigaffaaDoor.P
open Go.RowKit Go.Proofs.YtimbfcedigaffaaDoorW.PrintWords Go.Proofs.YtimbfcedigaffaaDoorW.PrintLast Go.Proofs.YtimbfcedigaffaaDoorW.PrintMore
attribute [local go_sem] max2_int min2_int max_two min_two max_three min_three max_four min_four   -- for this text's walks alone
set_option linter.unusedVariables false
set_option linter.unusedSimpArgs false
def laws_equalInts.l0 : Nat → List Int → List Int → Int → Option (Bool)
 | 0, _, _, _ => none
 | k + 1, x0, x1, x5 => if x5 < (x0.length : Int) then (if 0 ≤ x5 then (if x5 < (x1.length : Int) then (if (rd x0 x5) = (rd x1 x5) then (laws_equalInts.l0 k x0 x1 (wrap64 (x5 + 1))) else (some false)) else (none)) else (none)) else (some true)
def laws_equalInts.f (k : Nat) (l0 : List Int) (l1 : List Int) : Option (Bool) := if (l0.length : Int) = (l1.length : Int) then (laws_equalInts.l0 k l0 l1 0) else (some false)
theorem laws_equalInts.mono_l : ∀ k, (∀ y0 y1 y2, LeO (laws_equalInts.l0 k y0 y1 y2) (laws_equalInts.l0 (k + 1) y0 y1 y2))
 | 0 => fun _ _ _ r h => by simp [laws_equalInts.l0] at h
 | k + 1 => by
  have ih0 := laws_equalInts.mono_l k
  ·intro y0 y1 y2
   unfold laws_equalInts.l0
   repeat' first
   | (with_reducible exact ih0 _ _ _)
   | (with_reducible exact LeO.refl _)
   | (with_reducible exact LeO.none _)
   | (with_reducible refine LeO.ite ?_ ?_)
   | (with_reducible refine LeO.bind ?_ (fun _ => ?_))
   | exact ih0 _ _ _
   | exact LeO.none _
   | refine LeO.ite ?_ ?_
   | refine LeO.bind ?_ (fun _ => ?_)
theorem laws_equalInts.mono : ∀ a0 a1 k, LeO (laws_equalInts.f k a0 a1) (laws_equalInts.f (k + 1) a0 a1) := by
 intro a0 a1 k
 have ih0 := laws_equalInts.mono_l k
 unfold laws_equalInts.f
 repeat' first
   | (with_reducible exact ih0 _ _ _)
   | (with_reducible exact LeO.refl _)
   | (with_reducible exact LeO.none _)
   | (with_reducible refine LeO.ite ?_ ?_)
   | (with_reducible refine LeO.bind ?_ (fun _ => ?_))
   | exact ih0 _ _ _
   | exact LeO.none _
   | refine LeO.ite ?_ ?_
   | refine LeO.bind ?_ (fun _ => ?_)
set_option maxHeartbeats 8000000 in
set_option maxRecDepth 100000 in
theorem laws_equalInts.calls (k : Nat) (A0 : Option Addr) (c0 : Nat) (l0 : List Int) (A1 : Option Addr) (c1 : Nat) (l1 : List Int) (r : Bool) (w : World) (hr0 : Kd.C (Kd.int .i64) w A0 l0.length l0) (hc0 : l0.length ≤ c0) (hr1 : Kd.C (Kd.int .i64) w A1 l1.length l1) (hc1 : l1.length ≤ c1) (h : laws_equalInts.f k l0 l1 = some r) :
  Calls Tryd.prog 21 #[.slice A0 l0.length c0, .slice A1 l1.length c1] w fun e w' => e = .returned (.bool r) ∧ Drawn0 w w' := by
 have HR0 := Aside0.mk hr0
 have HC0 := Aside0.mk hc0
 clear hr0 hc0
 have HR1 := Aside0.mk hr1
 have HC1 := Aside0.mk hc1
 clear hr1 hc1
 have H : (if (l0.length : Int) = (l1.length : Int) then (laws_equalInts.l0 k l0 l1 0) else (some false)) = some r := h
 clear h
 by_cases c3 : (l0.length : Int) = (l1.length : Int)
 ·rw [if_pos c3] at H
  have c3b0 : ((l0.length : Int) == (l1.length : Int)) = true := beq_iff_eq.mpr c3
  have c3b1 : ((l0.length : Int) != (l1.length : Int)) = false := bne_eq_false_iff_eq.mpr c3
  have c3b2 : (l0.length == l1.length) = true := by first | simpa using c3 | (simp at c3 ⊢; omega)
  clear c3
  have H' := Aside0.mk H
  clear H
  go_enter Tryd.func21, Tryd.ntmps21
  go_wp2
  repeat (go_quiet (fail); try go_wp2)
  go_loopg [5] k (fun kq v5 w' => ∃ (x5_1 : Int), v5 = .int .i64 x5_1 ∧ Aside0 (laws_equalInts.l0 kq l0 l1 x5_1 = some r) ∧ Aside0 (kq ≤ k) ∧ Drawn0 w w')
  case atStart => exact ⟨(0), (by first | rfl | (simp; done) | (simp [*]; done)), H', ⟨Nat.le_refl _⟩, by repeat (first | exact Drawn0.refl _ | apply Drawn0.step)⟩
  case round =>
   clear H'
   try clear c1
   try clear c2
   try clear p2
   try clear c3
   try clear c3b0
   try clear c3b1
   try clear c3b2
   obtain ⟨x5_1, rfl, HA, HK1, ⟨m1, rfl⟩⟩ := hrel
   cases gk with
   | zero => exact absurd HA.out (by simp [laws_equalInts.l0])
   | succ k1 =>
    have H := HA.out
    clear HA
    simp only [laws_equalInts.l0] at H
    by_cases c4 : x5_1 < (l0.length : Int)
    ·rw [if_pos c4] at H
     have c4b0 : decide (x5_1 < (l0.length : Int)) = true := decide_eq_true c4
     clear c4
     by_cases c5 : 0 ≤ x5_1
     ·rw [if_pos c5] at H
      have c5b0 : decide (0 ≤ x5_1) = true := decide_eq_true c5
      clear c5
      by_cases c6 : x5_1 < (l1.length : Int)
      ·rw [if_pos c6] at H
       have c6b0 : decide (x5_1 < (l1.length : Int)) = true := decide_eq_true c6
       clear c6
       by_cases c7 : (rd l0 x5_1) = (rd l1 x5_1)
       ·rw [if_pos c7] at H
        have c7b0 : ((rd l0 x5_1) == (rd l1 x5_1)) = true := beq_iff_eq.mpr c7
        have c7b1 : ((rd l0 x5_1) != (rd l1 x5_1)) = false := bne_eq_false_iff_eq.mpr c7
        clear c7
        have H' := Aside0.mk H
        clear H
        have p490 : 0 ≤ (x5_1 : Int) := of_decide_eq_true (by first | (with_reducible assumption) | assumption)
        have q490 : x5_1 < (l0.length : Int) := of_decide_eq_true (by first | (with_reducible assumption) | assumption)
        obtain ⟨ad490, e490, hx490_0⟩ := Kd.at_int HR0.out x5_1 p490 q490
        cases e490
        replace p490 := eq_true p490
        replace q490 := eq_true q490
        have p491 : 0 ≤ (x5_1 : Int) := of_decide_eq_true (by first | (with_reducible assumption) | assumption)
        have q491 : x5_1 < (l1.length : Int) := of_decide_eq_true (by first | (with_reducible assumption) | assumption)
        obtain ⟨ad491, e491, hx491_0⟩ := Kd.at_int HR1.out x5_1 p491 q491
        cases e491
        replace p491 := eq_true p491
        replace q491 := eq_true q491
        go_wp2
        repeat (go_quiet (fail); try go_wp2)
        go_roundg k1
        case measure => have := HK1.out; omega
        case rel => exact ⟨(wrap64 (x5_1 + 1)), (by first | rfl | (simp; done) | (simp [*]; done)), H', ⟨by have := HK1.out; omega⟩, by repeat (first | exact Drawn0.refl _ | apply Drawn0.step)⟩
       ·rw [if_neg c7] at H
        have c7b0 : ((rd l0 x5_1) == (rd l1 x5_1)) = false := beq_eq_false_iff_ne.mpr c7
        have c7b1 : ((rd l0 x5_1) != (rd l1 x5_1)) = true := bne_iff_ne.mpr c7
        obtain rfl := Option.some.inj H
        have p490 : 0 ≤ (x5_1 : Int) := of_decide_eq_true (by first | (with_reducible assumption) | assumption)
        have q490 : x5_1 < (l0.length : Int) := of_decide_eq_true (by first | (with_reducible assumption) | assumption)
        obtain ⟨ad490, e490, hx490_0⟩ := Kd.at_int HR0.out x5_1 p490 q490
        cases e490
        replace p490 := eq_true p490
        replace q490 := eq_true q490
        have p491 : 0 ≤ (x5_1 : Int) := of_decide_eq_true (by first | (with_reducible assumption) | assumption)
        have q491 : x5_1 < (l1.length : Int) := of_decide_eq_true (by first | (with_reducible assumption) | assumption)
        obtain ⟨ad491, e491, hx491_0⟩ := Kd.at_int HR1.out x5_1 p491 q491
        cases e491
        replace p491 := eq_true p491
        replace q491 := eq_true q491
        go_wp2
        repeat (go_quiet (fail); try go_wp2)
        go_ret
        exact ⟨by first | rfl | (simp; done) | (simp [*]; done), by repeat (first | exact Drawn0.refl _ | apply Drawn0.step)⟩
      ·rw [if_neg c6] at H
       exact absurd H (by simp)
     ·rw [if_neg c5] at H
      exact absurd H (by simp)
    ·rw [if_neg c4] at H
     have c4b0 : decide (x5_1 < (l0.length : Int)) = false := decide_eq_false c4
     clear c4
     obtain rfl := Option.some.inj H
     go_wp2
     repeat (go_quiet (fail); try go_wp2)
     go_ret
     exact ⟨by first | rfl | (simp; done) | (simp [*]; done), by repeat (first | exact Drawn0.refl _ | apply Drawn0.step)⟩
 ·rw [if_neg c3] at H
  have c3b0 : ((l0.length : Int) == (l1.length : Int)) = false := beq_eq_false_iff_ne.mpr c3
  have c3b1 : ((l0.length : Int) != (l1.length : Int)) = true := bne_iff_ne.mpr c3
  have c3b2 : (l0.length == l1.length) = false := by first | simpa using c3 | (simp at c3 ⊢; omega)
  obtain rfl := Option.some.inj H
  go_enter Tryd.func21, Tryd.ntmps21
  go_wp2
  repeat (go_quiet (fail); try go_wp2)
  go_ret
  exact ⟨by first | rfl | (simp; done) | (simp [*]; done), by repeat (first | exact Drawn0.refl _ | apply Drawn0.step)⟩
end Go.Proofs.YtimbfcedigaffaaDoor.P
end
section
set_option linter.unusedVariables false
set_option linter.unusedSimpArgs false
namespace Go.Proofs.YtimbfcedigaffaaDoor.Core
open Go Go.RowKit Go.Proofs.YtimbfcedigaffaaDoorW.PrintWords Go.Proofs.YtimbfcedigaffaaDoorW.PrintMore Go.Proofs.YtimbfcedigaffaaDoor.P
theorem bestOD_length (g : List Tk) (room : List Int) (wk : Int) (hg : Fits g) (hr : room.length < big) : (bestOD g room wk).length ≤ 8 := by
 obtain ⟨-, hb⟩ := ev_BestOrder' hg (room := room) (wk := wk) hr
 cases hfew : fewD g room wk with
 | none =>
  have e : bestOD g room wk = [] := by unfold bestOD bestD; rw [hfew]
  rw [e]
  exact Nat.zero_le _
 | some G =>
  obtain ⟨b, h1, h2, h3⟩ := hb G hfew
  have e2 : bestOD g room wk = b.1 := by unfold bestOD; rw [h1]
  have h5 := (fewD_some hfew).1
  rw [e2, (ord_ev hfew b.1 h2).1.2]
  omega
end Go.Proofs.YtimbfcedigaffaaDoor.Core
end
section
set_option linter.unusedVariables false
set_option linter.unusedSimpArgs false
namespace Go.Proofs.YtimbfcedigaffaaDoor.Core
open Go Go.RowKit Go.Proofs.YtimbfcedigaffaaDoorW.PrintWords Go.Proofs.YtimbfcedigaffaaDoorW.PrintMore Go.Proofs.YtimbfcedigaffaaDoor.P
/-- If all orders take the same, the first one stays. -/
theorem fold_same (f : List Int → Nat) (c : Nat) : ∀ (os : List (List Int)) (b : List Int), f b = c → (∀ o ∈ os, f o = c) → os.foldl (bstep f) (some (b, c)) = some (b, c)
 | [], _, _, _ => rfl
 | o :: os, b, hb, h => by
  have h1 := h o List.mem_cons_self
  rw [List.foldl_cons]
  have : bstep f (some (b, c)) o = some (b, c) := by
   show (if f o < c then some (o, f o) else some (b, c)) = some (b, c)
   rw [if_neg (by omega)]
  rw [this]
  exact fold_same f c os b hb (fun o ho => h o (List.mem_cons_of_mem _ ho))
theorem bestOD_one {g : List Tk} {room : List Int} {G : GD} (hfew : fewD g room 1 = some G) {o : List Int} {os : List (List Int)} (ho : ordersL G.needs (g.length + 1) [] 0 = o :: os) : bestOD g room 1 = o := by
 have hall := ordEnd_one hfew
 rw [ho] at hall
 have h0 := hall o List.mem_cons_self
 unfold bestOD bestD
 rw [hfew]
 simp only []
 rw [ho, List.foldl_cons]
 show (match os.foldl (bstep (ordEnd g G.needs room 1)) (some (o, ordEnd g G.needs room 1 o)) with | none => [] | some b => b.1) = o
 rw [h0, fold_same _ _ os o h0 (fun x hx => hall x (List.mem_cons_of_mem _ hx))]
end Go.Proofs.YtimbfcedigaffaaDoor.Core
end
section
set_option linter.unusedVariables false
set_option linter.unusedSimpArgs false
namespace Go.Proofs.YtimbfcedigaffaaDoor.Core
open Go Go.RowKit Go.Proofs.YtimbfcedigaffaaDoorW.PrintWords Go.Proofs.YtimbfcedigaffaaDoorW.PrintMore Go.Proofs.YtimbfcedigaffaaDoor.P
def sameT : Tk := ⟨3, [], 0, 1⟩
def sameOk (n : Nat) : Bool := match graphD (List.replicate n sameT) with
 | none => false
 | some G => (ordersL G.needs (n + 1) [] 0).head? == some (up (List.range n))
theorem same_ok : allTo 6 sameOk = true := by kernel_rfl
theorem same_best {n : Nat} (hn : n ≤ 5) {room : List Int} (hr : roomOk room) : bestOD (List.replicate n sameT) room 1 = up (List.range n) := by
 have h := allTo_spec same_ok n (by omega)
 unfold sameOk at h
 cases hG : graphD (List.replicate n sameT) with
 | none => rw [hG] at h; cases h
 | some G =>
  rw [hG] at h
  have h : (ordersL G.needs (n + 1) [] 0).head? = some (up (List.range n)) := by simpa using h
  have hl : (List.replicate n sameT).length = n := List.length_replicate
  have hfew : fewD (List.replicate n sameT) room 1 = some G := by
   unfold fewD placeD
   rw [if_neg (by rw [hl]; omega), hG]
   simp only []
   rw [if_pos ⟨hr, by decide, by decide⟩]
  cases ho : ordersL G.needs (n + 1) [] 0 with
  | nil => rw [ho] at h; cases h
  | cons o os =>
   rw [ho] at h
   have e : o = up (List.range n) := Option.some.inj h
   rw [bestOD_one hfew (o := o) (os := os) (by rw [hl]; exact ho), e]
end Go.Proofs.YtimbfcedigaffaaDoor.Core
end
section
set_option linter.unusedVariables false
set_option linter.unusedSimpArgs false
namespace Go.Proofs.YtimbfcedigaffaaDoor.P
open Go Go.RowKit Go.Shelf Go.Proofs.YtimbfcedigaffaaDoorW.PrintWords Go.Proofs.YtimbfcedigaffaaDoorW.PrintLast Go.Proofs.YtimbfcedigaffaaDoorW.PrintMore Go.Proofs.YtimbfcedigaffaaDoor.Core
attribute [local go_sem] Oper.semAt_some wide_fn wide_depth
def impl_BestOrder.f (l0 : List S39) (l1 : List Int) (a2 : Int) : Option (List Int) := some (bestOD l0 l1 a2)
set_option maxRecDepth 100000 in
set_option maxHeartbeats 2000000 in
theorem impl_BestOrder.calls (A0 : Option Addr) (c0 : Nat) (l0 : List S39) (A1 : Option Addr) (c1 : Nat) (l1 : List Int) (a2 : Int) (r : List Int) (w : World) (hr0 : Kd.C k39 w A0 l0.length l0) (hc0 : l0.length ≤ c0) (hr1 : Kd.C (Kd.int .i64) w A1 l1.length l1) (hc1 : l1.length ≤ c1) (hT : Tab w) (h : impl_BestOrder.f l0 l1 a2 = some r) :
  Calls Tryd.prog 16 #[.slice A0 l0.length c0, .slice A1 l1.length c1, .int .i64 a2] w fun e w' => ∃ v0_ : Value, e = .returned v0_ ∧ Kd.R (Kd.int .i64) 3 w' w.heap.size (fun _ => True) v0_ r ∧ Below w.heap.size w w' := by
 have hr : bestOD l0 l1 a2 = r := Option.some.inj h
 clear h
 cases hb : bestD l0 l1 a2 with
 | none =>
  obtain rfl : [] = r := by unfold bestOD at hr; rw [hb] at hr; exact hr
  have hfew : fewD l0 l1 a2 = none := best_none hb
  have HP := Aside0.mk (bestIn_none A0 c0 l0 A1 c1 l1 a2 w hT hr0 hc0 hr1 hc1 hfew)
  clear hr hb hfew hr0 hr1 hT
  go_enter Tryd.func16, Tryd.ntmps16
  go_wp2_with (go_at_call 30; refine HP.out.mono ?_; rintro e w1 ⟨rfl, hB⟩; have HB := Aside0.mk hB; clear hB)
  go_ret
  exact ⟨_, rfl, Kd.R_nil _ _ _ _ _, HB.out⟩
 | some b =>
  obtain rfl : b.1 = r := by unfold bestOD at hr; rw [hb] at hr; exact hr
  have HP := Aside0.mk (bestIn_some A0 c0 l0 A1 c1 l1 a2 b w hT hr0 hc0 hr1 hc1 hb)
  clear hr hb hr0 hr1 hT
  go_enter Tryd.func16, Tryd.ntmps16
  go_wp2_with (go_at_call 30; refine HP.out.mono ?_; rintro e w1 ⟨v, rfl, hR, hB⟩; have HB := Aside0.mk hB; have HR := Aside0.mk hR; clear hB hR)
  go_ret
  exact ⟨_, rfl, HR.out, HB.out⟩
end Go.Proofs.YtimbfcedigaffaaDoor.P
end
section
namespace Go.Proofs.YtimbfcedigaffaaDoor.P
open Go.Proofs.YtimbfcedigaffaaDoor.Core (Tab Tab.of)
open Go.RowKit Go.Proofs.YtimbfcedigaffaaDoorW.PrintWords Go.Proofs.YtimbfcedigaffaaDoorW.PrintLast Go.Proofs.YtimbfcedigaffaaDoorW.PrintMore
attribute [local go_sem] max2_int min2_int max_two min_two max_three min_three max_four min_four   -- for this text's walks alone
set_option linter.unusedVariables false
set_option linter.unusedSimpArgs false
mutual
noncomputable def laws_FnBestOrderLeast.j0 : Nat → List (S39) → List Int → Int → List Int → Bool → Option (Bool)
 | 0, _, _, _, _, _ => none
 | k + 1, x3, x4, x5, x6, x35 => if x35 = true then ((spec_BestOrder.f k x3 x4 x5).bind fun t506 => ((laws_equalInts.f k x6 t506).bind fun t509 => (some t509))) else (laws_FnBestOrderLeast.l0 k x3 x4 (([] : List (S39))) 0)
noncomputable def laws_FnBestOrderLeast.l0 : Nat → List (S39) → List Int → List (S39) → Int → Option (Bool)
 | 0, _, _, _, _ => none
 | k + 1, x3, x4, x7, x8 => if x8 < (x3.length : Int) then (if x7.length < 2932031007402 then (laws_FnBestOrderLeast.l0 k x3 x4 (x7 ++ [(⟨3, ([] : List Int), 0, 1⟩ : S39)]) (wrap64 (x8 + 1))) else (none)) else ((impl_BestOrder.f x7 x4 1).bind fun t516 => (laws_FnBestOrderLeast.l1 k x3 t516 0))
noncomputable def laws_FnBestOrderLeast.l1 : Nat → List (S39) → List Int → Int → Option (Bool)
 | 0, _, _, _ => none
 | k + 1, x3, x9, x10 => if x10 < (x9.length : Int) then (if 0 ≤ x10 then (if (rd x9 x10) = x10 then (laws_FnBestOrderLeast.l1 k x3 x9 (wrap64 (x10 + 1))) else (some false)) else (none)) else (some ((x9.length : Int) == (x3.length : Int)))
end
noncomputable def laws_FnBestOrderLeast.f (k : Nat) (l0 : List Int) : Option (Bool) := if (l0.length : Int) > 1048576 then (some true) else ((spec_DrawBestOrder.f k l0).bind fun bt492 => ((impl_BestOrder.f bt492.1 bt492.2.1 bt492.2.2).bind fun t499 => ((spec_BestOrder.f k bt492.1 bt492.2.1 bt492.2.2).bind fun t502 => ((laws_equalInts.f k t499 t502).bind fun t505 => (if t505 = true then (laws_FnBestOrderLeast.j0 k bt492.1 bt492.2.1 bt492.2.2 t499 ((t499.length : Int) == 0)) else (laws_FnBestOrderLeast.j0 k bt492.1 bt492.2.1 bt492.2.2 t499 true))))))
theorem laws_FnBestOrderLeast.mono_l : ∀ k, (∀ y0 y1 y2 y3 y4, LeO (laws_FnBestOrderLeast.j0 k y0 y1 y2 y3 y4) (laws_FnBestOrderLeast.j0 (k + 1) y0 y1 y2 y3 y4)) ∧ (∀ y0 y1 y2 y3, LeO (laws_FnBestOrderLeast.l0 k y0 y1 y2 y3) (laws_FnBestOrderLeast.l0 (k + 1) y0 y1 y2 y3)) ∧ (∀ y0 y1 y2, LeO (laws_FnBestOrderLeast.l1 k y0 y1 y2) (laws_FnBestOrderLeast.l1 (k + 1) y0 y1 y2))
 | 0 => ⟨fun _ _ _ _ _ r h => by simp [laws_FnBestOrderLeast.j0] at h, fun _ _ _ _ r h => by simp [laws_FnBestOrderLeast.l0] at h, fun _ _ _ r h => by simp [laws_FnBestOrderLeast.l1] at h⟩
 | k + 1 => by
  obtain ⟨ih0, ih1, ih2⟩ := laws_FnBestOrderLeast.mono_l k
  refine ⟨?_, ?_, ?_⟩
  ·intro y0 y1 y2 y3 y4
   unfold laws_FnBestOrderLeast.j0
   repeat' first
   | (with_reducible exact ih0 _ _ _ _ _)
   | (with_reducible exact ih1 _ _ _ _)
   | (with_reducible exact ih2 _ _ _)
   | (with_reducible exact laws_equalInts.mono _ _ _)
   | (with_reducible exact spec_BestOrder.mono _ _ _ _)
   | (with_reducible exact spec_DrawBestOrder.mono _ _)
   | (with_reducible exact LeO.refl _)
   | (with_reducible exact LeO.none _)
   | (with_reducible refine LeO.ite ?_ ?_)
   | (with_reducible refine LeO.bind ?_ (fun _ => ?_))
   | exact ih0 _ _ _ _ _
   | exact ih1 _ _ _ _
   | exact ih2 _ _ _
   | exact laws_equalInts.mono _ _ _
   | exact spec_BestOrder.mono _ _ _ _
   | exact spec_DrawBestOrder.mono _ _
   | exact LeO.none _
   | refine LeO.ite ?_ ?_
   | refine LeO.bind ?_ (fun _ => ?_)
  ·intro y0 y1 y2 y3
   unfold laws_FnBestOrderLeast.l0
   repeat' first
   | (with_reducible exact ih0 _ _ _ _ _)
   | (with_reducible exact ih1 _ _ _ _)
   | (with_reducible exact ih2 _ _ _)
   | (with_reducible exact laws_equalInts.mono _ _ _)
   | (with_reducible exact spec_BestOrder.mono _ _ _ _)
   | (with_reducible exact spec_DrawBestOrder.mono _ _)
   | (with_reducible exact LeO.refl _)
   | (with_reducible exact LeO.none _)
   | (with_reducible refine LeO.ite ?_ ?_)
   | (with_reducible refine LeO.bind ?_ (fun _ => ?_))
   | exact ih0 _ _ _ _ _
   | exact ih1 _ _ _ _
   | exact ih2 _ _ _
   | exact laws_equalInts.mono _ _ _
   | exact spec_BestOrder.mono _ _ _ _
   | exact spec_DrawBestOrder.mono _ _
   | exact LeO.none _
   | refine LeO.ite ?_ ?_
   | refine LeO.bind ?_ (fun _ => ?_)
  ·intro y0 y1 y2
   unfold laws_FnBestOrderLeast.l1
   repeat' first
   | (with_reducible exact ih0 _ _ _ _ _)
   | (with_reducible exact ih1 _ _ _ _)
   | (with_reducible exact ih2 _ _ _)
   | (with_reducible exact laws_equalInts.mono _ _ _)
   | (with_reducible exact spec_BestOrder.mono _ _ _ _)
   | (with_reducible exact spec_DrawBestOrder.mono _ _)
   | (with_reducible exact LeO.refl _)
   | (with_reducible exact LeO.none _)
   | (with_reducible refine LeO.ite ?_ ?_)
   | (with_reducible refine LeO.bind ?_ (fun _ => ?_))
   | exact ih0 _ _ _ _ _
   | exact ih1 _ _ _ _
   | exact ih2 _ _ _
   | exact laws_equalInts.mono _ _ _
   | exact spec_BestOrder.mono _ _ _ _
   | exact spec_DrawBestOrder.mono _ _
   | exact LeO.none _
   | refine LeO.ite ?_ ?_
   | refine LeO.bind ?_ (fun _ => ?_)
theorem laws_FnBestOrderLeast.mono : ∀ a0 k, LeO (laws_FnBestOrderLeast.f k a0) (laws_FnBestOrderLeast.f (k + 1) a0) := by
 intro a0 k
 obtain ⟨ih0, ih1, ih2⟩ := laws_FnBestOrderLeast.mono_l k
 unfold laws_FnBestOrderLeast.f
 repeat' first
   | (with_reducible exact ih0 _ _ _ _ _)
   | (with_reducible exact ih1 _ _ _ _)
   | (with_reducible exact ih2 _ _ _)
   | (with_reducible exact laws_equalInts.mono _ _ _)
   | (with_reducible exact spec_BestOrder.mono _ _ _ _)
   | (with_reducible exact spec_DrawBestOrder.mono _ _)
   | (with_reducible exact LeO.refl _)
   | (with_reducible exact LeO.none _)
   | (with_reducible refine LeO.ite ?_ ?_)
   | (with_reducible refine LeO.bind ?_ (fun _ => ?_))
   | exact ih0 _ _ _ _ _
   | exact ih1 _ _ _ _
   | exact ih2 _ _ _
   | exact laws_equalInts.mono _ _ _
   | exact spec_BestOrder.mono _ _ _ _
   | exact spec_DrawBestOrder.mono _ _
   | exact LeO.none _
   | refine LeO.ite ?_ ?_
   | refine LeO.bind ?_ (fun _ => ?_)
set_option maxHeartbeats 8000000 in
set_option maxRecDepth 100000 in
theorem laws_FnBestOrderLeast.calls (k : Nat) (A0 : Option Addr) (c0 : Nat) (l0 : List Int) (r : Bool) (w : World) (hr0 : Kd.C (Kd.int .u8) w A0 l0.length l0) (hc0 : l0.length ≤ c0) (hT : Tab w) (h : laws_FnBestOrderLeast.f k l0 = some r) :
  Calls Tryd.prog 5 #[.slice A0 l0.length c0] w fun e w' => e = .returned (.bool r) ∧ Below w.heap.size w w' := by
 have hu39 := Tryd.underlying39
 have HT := Aside0.mk hT
 clear hT
 have HR0 := Aside0.mk hr0
 have HC0 := Aside0.mk hc0
 clear hr0 hc0
 have HB := Aside0.mk (Below.refl w.heap.size w)
 have H : (if (l0.length : Int) > 1048576 then (some true) else ((spec_DrawBestOrder.f k l0).bind fun bt492 => ((impl_BestOrder.f bt492.1 bt492.2.1 bt492.2.2).bind fun t499 => ((spec_BestOrder.f k bt492.1 bt492.2.1 bt492.2.2).bind fun t502 => ((laws_equalInts.f k t499 t502).bind fun t505 => (if t505 = true then (laws_FnBestOrderLeast.j0 k bt492.1 bt492.2.1 bt492.2.2 t499 ((t499.length : Int) == 0)) else (laws_FnBestOrderLeast.j0 k bt492.1 bt492.2.1 bt492.2.2 t499 true))))))) = some r := h
 clear h
 by_cases c2 : (l0.length : Int) > 1048576
 ·rw [if_pos c2] at H
  have c2b0 : decide (1048576 < (l0.length : Int)) = true := decide_eq_true c2
  have c2b1 : decide (1048576 < l0.length) = true := decide_eq_true (by omega)
  clear c2
  obtain rfl := Option.some.inj H
  go_enter Tryd.func5, Tryd.ntmps5
  go_wp2
  go_ret
  exact ⟨by first | rfl | (simp [errW_none, errW_some] <;> rfl) | (simp [*, errW_none, errW_some] <;> rfl), HB.out⟩
 ·rw [if_neg c2] at H
  have c2b0 : decide (1048576 < (l0.length : Int)) = false := decide_eq_false c2
  have c2b1 : decide (1048576 < l0.length) = false := decide_eq_false (by omega)
  clear c2
  replace H := Option.bind_eq_some_iff.mp H
  obtain ⟨⟨t492, t493, t494⟩, A30, H⟩ := H
  replace H : ((impl_BestOrder.f t492 t493 t494).bind fun t499 => ((spec_BestOrder.f k t492 t493 t494).bind fun t502 => ((laws_equalInts.f k t499 t502).bind fun t505 => (if t505 = true then (laws_FnBestOrderLeast.j0 k t492 t493 t494 t499 ((t499.length : Int) == 0)) else (laws_FnBestOrderLeast.j0 k t492 t493 t494 t499 true))))) = some r := H
  have A3 := Aside0.mk A30
  clear A30
  replace H := Option.bind_eq_some_iff.mp H
  obtain ⟨t499, A40, H⟩ := H
  replace H : ((spec_BestOrder.f k t492 t493 t494).bind fun t502 => ((laws_equalInts.f k t499 t502).bind fun t505 => (if t505 = true then (laws_FnBestOrderLeast.j0 k t492 t493 t494 t499 ((t499.length : Int) == 0)) else (laws_FnBestOrderLeast.j0 k t492 t493 t494 t499 true)))) = some r := H
  have A4 := Aside0.mk A40
  clear A40
  have HC5 := Aside0.mk H
  clear H
  go_enter Tryd.func5, Tryd.ntmps5
  go_upto_region 5 with (first | ((with_reducible refine gate_callee (f := 20) rfl ?_); refine goesL_ (some 16) rfl rfl Tryd.func20 (by kernel_rfl) rfl #[.slice A0 l0.length c0] rfl (by (try simp only [List.map_toArray, List.map_cons, List.map_nil]); first | done | rfl | (simp only [List.length_drop, List.length_take]; rfl)) ?_; (with_reducible refine (spec_DrawBestOrder.calls k _ _ l0 t492 t493 t494 _ ?side1 ?side2 A3.out).mono ?_); (case side1 => exact HR0.out); (case side2 => exact HC0.out); rintro e w6 ⟨v495, v497, rfl, ho0, ho1, hb⟩; refine ⟨_, rfl, ?_⟩; have n0_ := Aside0.mk (Kd.S_lower ho0 (below_size HB.out)); have n1_ := Aside0.mk (Kd.Q_lower ho1 (below_size HB.out)); have n2_ := Aside0.mk (below_step HB.out hb); clear HB; have HO496 := n0_; have HO498 := n1_; have HB := n2_; clear n0_ n1_ n2_; (try clear hb); (try clear hb2); (try clear hk); (try clear hi); (try clear ho0); (try clear ho1); obtain ⟨Ao7, co7, eo7⟩ := Kd.S_slice HO496.out; subst eo7; obtain ⟨Ao8, co8, eo8, _⟩ := Kd.Q_slice HO498.out; subst eo8) | ((with_reducible refine gate_callee (f := 16) rfl ?_); refine goesL_ (some 23) rfl rfl Tryd.func16 (by kernel_rfl) rfl #[.slice Ao7 t492.length co7, .slice Ao8 t493.length co8, .int .i64 t494] rfl (by (try simp only [List.map_toArray, List.map_cons, List.map_nil]); first | done | rfl | (simp only [List.length_drop, List.length_take]; rfl)) ?_; (with_reducible refine (impl_BestOrder.calls _ _ t492 _ _ t493 t494 t499 _ ?side1 ?side2 ?side3 ?side4 ?side5 A4.out).mono ?_); (case side1 => exact (Kd.S_reads' HO496.out).2.2); (case side2 => exact (Kd.S_reads' HO496.out).2.1); (case side3 => exact (Kd.Q_reads' HO498.out).2.2); (case side4 => exact (Kd.Q_reads' HO498.out).2.1); (case side5 => exact Tab.of HT.out HB.out); rintro e w9 ⟨v500, rfl, ho0, hb⟩; refine ⟨_, rfl, ?_⟩; have n0_ := Aside0.mk (Kd.S_elder' HO496.out (Kd.R_base ho0) hb); have n1_ := Aside0.mk (Kd.Q_elder' HO498.out (Kd.R_base ho0) hb); have n2_ := Aside0.mk (Kd.R_lower (Kd.R_new' ho0 (Kd.Q_lt HO498.out)) (below_size HB.out)); have n3_ := Aside0.mk (below_step HB.out hb); clear HO496; clear HO498; clear HB; have HO496 := n0_; have HO498 := n1_; have HO501 := n2_; have HB := n3_; clear n0_ n1_ n2_ n3_; (try clear hb); (try clear hb2); (try clear hk); (try clear hi); (try clear ho0)))
  (try simp only [Act.put, List.setIfInBounds_toArray, List.set_cons_zero, List.set_cons_succ])
  go_cut [35] (fun v35 wc => ∃ (kq : Nat) (x35_4 : Bool), v35 = .bool x35_4 ∧ Aside0 (laws_FnBestOrderLeast.j0 kq t492 t493 t494 t499 x35_4 = some r) ∧ Aside0 (kq ≤ k) ∧ Aside0 (Kd.S k39 39 wc w.heap.size (fun k_ => some k_ ≠ ((.slice Ao8 t493.length co8) : Value).ownBlock ∧ some k_ ≠ (v500 : Value).ownBlock) (.slice Ao7 t492.length co7) t492) ∧ Aside0 (Kd.Q (Kd.int .i64) 3 wc w.heap.size (fun k_ => some k_ ≠ (v500 : Value).ownBlock) (.slice Ao8 t493.length co8) t493) ∧ Aside0 (Kd.R (Kd.int .i64) 3 wc w.heap.size (fun k_ => some k_ ≠ ((.slice Ao8 t493.length co8) : Value).ownBlock) v500 t499) ∧ Aside0 (Below w.heap.size w wc))
  case first =>
   have H := HC5.out
   clear HC5
   replace H := Option.bind_eq_some_iff.mp H
   obtain ⟨t502, A100, H⟩ := H
   replace H : ((laws_equalInts.f k t499 t502).bind fun t505 => (if t505 = true then (laws_FnBestOrderLeast.j0 k t492 t493 t494 t499 ((t499.length : Int) == 0)) else (laws_FnBestOrderLeast.j0 k t492 t493 t494 t499 true))) = some r := H
   have A10 := Aside0.mk A100
   clear A100
   replace H := Option.bind_eq_some_iff.mp H
   obtain ⟨t505, A110, H⟩ := H
   replace H : (if t505 = true then (laws_FnBestOrderLeast.j0 k t492 t493 t494 t499 ((t499.length : Int) == 0)) else (laws_FnBestOrderLeast.j0 k t492 t493 t494 t499 true)) = some r := H
   have A11 := Aside0.mk A110
   clear A110
   by_cases c12 : t505 = true
   ·subst c12
    have H1 : (laws_FnBestOrderLeast.j0 k t492 t493 t494 t499 ((t499.length : Int) == 0)) = some r := by rw [if_pos rfl] at H; exact H
    clear H
    have H := H1
    clear H1
    have H' := Aside0.mk H
    clear H
    go_wp2_with (first | ((with_reducible refine gate_callee (f := 15) rfl ?_); refine goesL_ (some 28) rfl rfl Tryd.func15 (by kernel_rfl) rfl #[.slice Ao7 t492.length co7, .slice Ao8 t493.length co8, .int .i64 t494] rfl (by (try simp only [List.map_toArray, List.map_cons, List.map_nil]); first | done | rfl | (simp only [List.length_drop, List.length_take]; rfl)) ?_; (with_reducible refine (spec_BestOrder.calls k _ _ t492 _ _ t493 t494 t502 _ ?side1 ?side2 ?side3 ?side4 A10.out).mono ?_); (case side1 => exact (Kd.S_reads' HO496.out).2.2); (case side2 => exact (Kd.S_reads' HO496.out).2.1); (case side3 => exact (Kd.Q_reads' HO498.out).2.2); (case side4 => exact (Kd.Q_reads' HO498.out).2.1); rintro e w13 ⟨v503, rfl, ho0, hb⟩; refine ⟨_, rfl, ?_⟩; have n0_ := Aside0.mk (Kd.S_elder' HO496.out (Kd.R_base ho0) hb); have n1_ := Aside0.mk (Kd.Q_elder' HO498.out (Kd.R_base ho0) hb); have n2_ := Aside0.mk (Kd.R_elder' HO501.out (Kd.R_base ho0) hb); have n3_ := Aside0.mk (Kd.R_lower (Kd.R_new' (Kd.R_new' ho0 (Kd.Q_lt HO498.out)) (Kd.R_lt HO501.out)) (below_size HB.out)); have n4_ := Aside0.mk (below_step HB.out hb); clear HO496; clear HO498; clear HO501; clear HB; have HO496 := n0_; have HO498 := n1_; have HO501 := n2_; have HO504 := n3_; have HB := n4_; clear n0_ n1_ n2_ n3_ n4_; (try clear hb); (try clear hb2); (try clear hk); (try clear hi); (try clear ho0); obtain ⟨Ao14, co14, eo14⟩ := Kd.R_slice HO501.out; subst eo14; obtain ⟨Ao15, co15, eo15⟩ := Kd.R_slice HO504.out; subst eo15) | ((with_reducible refine gate_callee (f := 21) rfl ?_); refine goesL_ (some 29) rfl rfl Tryd.func21 (by kernel_rfl) rfl #[.slice Ao14 t499.length co14, .slice Ao15 t502.length co15] rfl (by (try simp only [List.map_toArray, List.map_cons, List.map_nil]); first | done | rfl | (simp only [List.length_drop, List.length_take]; rfl)) ?_; (with_reducible refine (laws_equalInts.calls k _ _ t499 _ _ t502 true _ ?side1 ?side2 ?side3 ?side4 A11.out).mono ?_); (case side1 => exact (Kd.R_reads' HO501.out).2.2); (case side2 => exact (Kd.R_reads' HO501.out).2.1); (case side3 => exact (Kd.R_reads' HO504.out).2.2); (case side4 => exact (Kd.R_reads' HO504.out).2.1); rintro e w' ⟨rfl, ⟨nd, rfl⟩⟩; refine ⟨_, rfl, ?_⟩))
    go_meet
    case rel => exact ⟨_, (((t499.length : Int) == 0)), (by first | rfl | (simp; done) | (simp [*]; done)), H', ⟨by first | omega | exact Nat.le_refl _⟩, ⟨by (with_reducible repeat (first | apply Kd.S_alloc | apply Kd.S_drewN | apply Kd.S_drew)); exact Kd.S_mono HO496.out (fun _ hk => ⟨hk.1.1, hk.1.2⟩)⟩, ⟨by (with_reducible repeat (first | apply Kd.Q_alloc | apply Kd.Q_drewN | apply Kd.Q_drew)); exact Kd.Q_mono HO498.out (fun _ hk => hk.1.2)⟩, ⟨by (with_reducible repeat (first | apply Kd.R_alloc | apply Kd.R_drewN | apply Kd.R_drew)); exact Kd.R_mono HO501.out (fun _ hk => hk.1.2)⟩, ⟨by repeat (first | (with_reducible first | exact HB.out | apply below_alloc | apply pw_below_drewN | apply below_drew1) | exact HB.out)⟩⟩
   ·replace c12 := Bool.eq_false_iff.mpr c12
    subst c12
    have H1 : (laws_FnBestOrderLeast.j0 k t492 t493 t494 t499 true) = some r := by rw [if_neg (show ¬ (false = true) by decide)] at H; exact H
    clear H
    have H := H1
    clear H1
    have H' := Aside0.mk H
    clear H
    go_wp2_with (first | ((with_reducible refine gate_callee (f := 15) rfl ?_); refine goesL_ (some 28) rfl rfl Tryd.func15 (by kernel_rfl) rfl #[.slice Ao7 t492.length co7, .slice Ao8 t493.length co8, .int .i64 t494] rfl (by (try simp only [List.map_toArray, List.map_cons, List.map_nil]); first | done | rfl | (simp only [List.length_drop, List.length_take]; rfl)) ?_; (with_reducible refine (spec_BestOrder.calls k _ _ t492 _ _ t493 t494 t502 _ ?side1 ?side2 ?side3 ?side4 A10.out).mono ?_); (case side1 => exact (Kd.S_reads' HO496.out).2.2); (case side2 => exact (Kd.S_reads' HO496.out).2.1); (case side3 => exact (Kd.Q_reads' HO498.out).2.2); (case side4 => exact (Kd.Q_reads' HO498.out).2.1); rintro e w16 ⟨v503, rfl, ho0, hb⟩; refine ⟨_, rfl, ?_⟩; have n0_ := Aside0.mk (Kd.S_elder' HO496.out (Kd.R_base ho0) hb); have n1_ := Aside0.mk (Kd.Q_elder' HO498.out (Kd.R_base ho0) hb); have n2_ := Aside0.mk (Kd.R_elder' HO501.out (Kd.R_base ho0) hb); have n3_ := Aside0.mk (Kd.R_lower (Kd.R_new' (Kd.R_new' ho0 (Kd.Q_lt HO498.out)) (Kd.R_lt HO501.out)) (below_size HB.out)); have n4_ := Aside0.mk (below_step HB.out hb); clear HO496; clear HO498; clear HO501; clear HB; have HO496 := n0_; have HO498 := n1_; have HO501 := n2_; have HO504 := n3_; have HB := n4_; clear n0_ n1_ n2_ n3_ n4_; (try clear hb); (try clear hb2); (try clear hk); (try clear hi); (try clear ho0); obtain ⟨Ao17, co17, eo17⟩ := Kd.R_slice HO501.out; subst eo17; obtain ⟨Ao18, co18, eo18⟩ := Kd.R_slice HO504.out; subst eo18) | ((with_reducible refine gate_callee (f := 21) rfl ?_); refine goesL_ (some 29) rfl rfl Tryd.func21 (by kernel_rfl) rfl #[.slice Ao17 t499.length co17, .slice Ao18 t502.length co18] rfl (by (try simp only [List.map_toArray, List.map_cons, List.map_nil]); first | done | rfl | (simp only [List.length_drop, List.length_take]; rfl)) ?_; (with_reducible refine (laws_equalInts.calls k _ _ t499 _ _ t502 false _ ?side1 ?side2 ?side3 ?side4 A11.out).mono ?_); (case side1 => exact (Kd.R_reads' HO501.out).2.2); (case side2 => exact (Kd.R_reads' HO501.out).2.1); (case side3 => exact (Kd.R_reads' HO504.out).2.2); (case side4 => exact (Kd.R_reads' HO504.out).2.1); rintro e w' ⟨rfl, ⟨nd, rfl⟩⟩; refine ⟨_, rfl, ?_⟩))
    go_meet
    case rel => exact ⟨_, (true), (by first | rfl | (simp; done) | (simp [*]; done)), H', ⟨by first | omega | exact Nat.le_refl _⟩, ⟨by (with_reducible repeat (first | apply Kd.S_alloc | apply Kd.S_drewN | apply Kd.S_drew)); exact Kd.S_mono HO496.out (fun _ hk => ⟨hk.1.1, hk.1.2⟩)⟩, ⟨by (with_reducible repeat (first | apply Kd.Q_alloc | apply Kd.Q_drewN | apply Kd.Q_drew)); exact Kd.Q_mono HO498.out (fun _ hk => hk.1.2)⟩, ⟨by (with_reducible repeat (first | apply Kd.R_alloc | apply Kd.R_drewN | apply Kd.R_drew)); exact Kd.R_mono HO501.out (fun _ hk => hk.1.2)⟩, ⟨by repeat (first | (with_reducible first | exact HB.out | apply below_alloc | apply pw_below_drewN | apply below_drew1) | exact HB.out)⟩⟩
  case rest =>
   clear HC5
   try clear c1
   try clear c2
   try clear c2b0
   try clear c2b1
   try clear p2
   try clear c5
   try clear c12
   try clear c15
   try clear c16
   obtain ⟨kq, x35_4, rfl, HA, HJ4, HO_3, HO_4, HO_6, HB⟩ := hcut
   cases kq with
   | zero => exact absurd HA.out (by simp [laws_FnBestOrderLeast.j0])
   | succ kj4 =>
    have H := HA.out
    clear HA
    simp only [laws_FnBestOrderLeast.j0] at H
    by_cases c19 : x35_4 = true
    ·subst c19
     have H1 : ((spec_BestOrder.f kj4 t492 t493 t494).bind fun t506 => ((laws_equalInts.f kj4 t499 t506).bind fun t509 => (some t509))) = some r := by rw [if_pos rfl] at H; exact H
     clear H
     have H := H1
     clear H1
     replace H := Option.bind_eq_some_iff.mp H
     obtain ⟨t506, A200, H⟩ := H
     replace H : ((laws_equalInts.f kj4 t499 t506).bind fun t509 => (some t509)) = some r := H
     have A20 := Aside0.mk A200
     clear A200
     replace H := Option.bind_eq_some_iff.mp H
     obtain ⟨t509, A210, H⟩ := H
     replace H : (some t509) = some r := H
     have A21 := Aside0.mk A210
     clear A210
     obtain rfl := Option.some.inj H
     go_wp2_with (first | ((with_reducible refine gate_callee (f := 15) rfl ?_); refine goesL_ (some 40) rfl rfl Tryd.func15 (by kernel_rfl) rfl #[.slice Ao7 t492.length co7, .slice Ao8 t493.length co8, .int .i64 t494] rfl (by (try simp only [List.map_toArray, List.map_cons, List.map_nil]); first | done | rfl | (simp only [List.length_drop, List.length_take]; rfl)) ?_; (with_reducible refine (spec_BestOrder.calls kj4 _ _ t492 _ _ t493 t494 t506 _ ?side1 ?side2 ?side3 ?side4 A20.out).mono ?_); (case side1 => exact (Kd.S_reads' HO_3.out).2.2); (case side2 => exact (Kd.S_reads' HO_3.out).2.1); (case side3 => exact (Kd.Q_reads' HO_4.out).2.2); (case side4 => exact (Kd.Q_reads' HO_4.out).2.1); rintro e w22 ⟨v507, rfl, ho0, hb⟩; refine ⟨_, rfl, ?_⟩; have n0_ := Aside0.mk (Kd.S_elder' HO_3.out (Kd.R_base ho0) hb); have n1_ := Aside0.mk (Kd.Q_elder' HO_4.out (Kd.R_base ho0) hb); have n2_ := Aside0.mk (Kd.R_elder' HO_6.out (Kd.R_base ho0) hb); have n3_ := Aside0.mk (Kd.R_lower (Kd.R_new' (Kd.R_new' ho0 (Kd.Q_lt HO_4.out)) (Kd.R_lt HO_6.out)) (below_size HB.out)); have n4_ := Aside0.mk (below_step HB.out hb); clear HO_3; clear HO_4; clear HO_6; clear HB; have HO_3 := n0_; have HO_4 := n1_; have HO_6 := n2_; have HO508 := n3_; have HB := n4_; clear n0_ n1_ n2_ n3_ n4_; (try clear hb); (try clear hb2); (try clear hk); (try clear hi); (try clear ho0); obtain ⟨Ao23, co23, eo23⟩ := Kd.R_slice HO_6.out; subst eo23; obtain ⟨Ao24, co24, eo24⟩ := Kd.R_slice HO508.out; subst eo24) | ((with_reducible refine gate_callee (f := 21) rfl ?_); refine goesL_ (some 41) rfl rfl Tryd.func21 (by kernel_rfl) rfl #[.slice Ao23 t499.length co23, .slice Ao24 t506.length co24] rfl (by (try simp only [List.map_toArray, List.map_cons, List.map_nil]); first | done | rfl | (simp only [List.length_drop, List.length_take]; rfl)) ?_; (with_reducible refine (laws_equalInts.calls kj4 _ _ t499 _ _ t506 t509 _ ?side1 ?side2 ?side3 ?side4 A21.out).mono ?_); (case side1 => exact (Kd.R_reads' HO_6.out).2.2); (case side2 => exact (Kd.R_reads' HO_6.out).2.1); (case side3 => exact (Kd.R_reads' HO508.out).2.2); (case side4 => exact (Kd.R_reads' HO508.out).2.1); rintro e w' ⟨rfl, ⟨nd, rfl⟩⟩; refine ⟨_, rfl, ?_⟩))
     go_ret
     exact ⟨by first | rfl | (simp [errW_none, errW_some] <;> rfl) | (simp [*, errW_none, errW_some] <;> rfl), by repeat (first | (with_reducible first | exact HB.out | apply below_alloc | apply pw_below_drewN | apply below_drew1) | exact HB.out)⟩
    ·replace c19 := Bool.eq_false_iff.mpr c19
     subst c19
     have H1 : (laws_FnBestOrderLeast.l0 kj4 t492 t493 (([] : List (S39))) 0) = some r := by rw [if_neg (show ¬ (false = true) by decide)] at H; exact H
     clear H
     have H := H1
     clear H1
     obtain ⟨y510, hy510⟩ : ∃ y_ : List (S39), y_ = (([] : List (S39))) := ⟨_, rfl⟩
     replace H : (laws_FnBestOrderLeast.l0 kj4 t492 t493 y510 0) = some r := by first | (rw [hy510]; with_reducible exact H) | (have H2_ := (Option.bind_some _ _).symm.trans H; rw [hy510]; with_reducible exact H2_) | (have H2_ := (Option.bind_some _ _).symm.trans H; with_reducible exact H2_) | with_reducible exact H | (rw [hy510]; exact H) | exact H
     have Ny510 := Aside0.mk hy510
     clear hy510
     have H' := Aside0.mk H
     clear H
     go_wp2_with (first | ((with_reducible refine gate_dst (N := 42) rfl ?_); (try (refine gate_guard (by rfl) ?_; dsimp only)); refine Kd.S_lit k39 _ 39 ?hg (N := 42) ?hd (xs := ([] : List (S39))) (inner := []) (ok := fun _ => True) (okp := fun _ => True) ?hr ?hp (fun _ hk => hk) trivial (Below.refl _ _) (Nat.le_refl _) (by simp) ?_; (case hd => rfl); (case hg => rfl); (case hr => first | (go_simp; done) | (go_simp; rfl)); (case hp => exact (Reps.none _ _)); intro v511 w25 ho26 hb hg_ hnew_; clear hg_ hnew_; (first | rw [← Ny510.out] at ho26 | (simp only [Int.reduceToNat] at ho26; rw [← Ny510.out] at ho26)); have n0_ := Aside0.mk (Kd.S_elder' HO_3.out (Kd.S_base ho26) hb); have n1_ := Aside0.mk (Kd.Q_below HO_4.out hb); have n2_ := Aside0.mk (Kd.R_below HO_6.out hb); have n3_ := Aside0.mk (Kd.S_lower (Kd.S_new' (Kd.S_new' (Kd.S_new' ho26 (Kd.S_lt HO_3.out)) (Kd.Q_lt HO_4.out)) (Kd.R_lt HO_6.out)) (below_size HB.out)); have n4_ := Aside0.mk (below_step HB.out hb); clear HO_3; clear HO_4; clear HO_6; clear HB; have HO_3 := n0_; have HO_4 := n1_; have HO_6 := n2_; have HO512 := n3_; have HB := n4_; clear n0_ n1_ n2_ n3_ n4_; clear hb ho26))
     go_loopg [7, 8] kj4 (fun kq v7 v8 w' => ∃ (x7_2 : List (S39)) (x8_2 : Int), v8 = .int .i64 x8_2 ∧ Aside0 (laws_FnBestOrderLeast.l0 kq t492 t493 x7_2 x8_2 = some r) ∧ Aside0 (kq ≤ kj4) ∧ Aside0 (Kd.S k39 39 w' w.heap.size (fun k_ => some k_ ≠ ((.slice Ao8 t493.length co8) : Value).ownBlock ∧ some k_ ≠ (v7 : Value).ownBlock) (.slice Ao7 t492.length co7) t492) ∧ Aside0 (Kd.Q (Kd.int .i64) 3 w' w.heap.size (fun _ => True) (.slice Ao8 t493.length co8) t493) ∧ Aside0 (Kd.S k39 39 w' w.heap.size (fun k_ => some k_ ≠ ((.slice Ao7 t492.length co7) : Value).ownBlock ∧ some k_ ≠ ((.slice Ao8 t493.length co8) : Value).ownBlock) v7 x7_2) ∧ Aside0 (Below w.heap.size w w'))
     case atStart => exact ⟨(y510), (0), (by first | rfl | (simp; done) | (simp [*]; done)), H', ⟨Nat.le_refl _⟩, ⟨by (with_reducible repeat (first | apply Kd.S_alloc | apply Kd.S_drewN | apply Kd.S_drew)); exact Kd.S_mono HO_3.out (fun _ hk => ⟨hk.1.1, hk.2⟩)⟩, ⟨by (with_reducible repeat (first | apply Kd.Q_alloc | apply Kd.Q_drewN | apply Kd.Q_drew)); exact Kd.Q_mono HO_4.out (fun _ hk => trivial)⟩, ⟨by (with_reducible repeat (first | apply Kd.S_alloc | apply Kd.S_drewN | apply Kd.S_drew)); exact Kd.S_mono HO512.out (fun _ hk => ⟨hk.1.1.2, hk.1.2⟩)⟩, ⟨HB.out⟩⟩
     case round =>
      clear H'
      try clear c1
      try clear c2
      try clear c2b0
      try clear c2b1
      try clear p2
      try clear c5
      try clear c12
      try clear c15
      try clear c16
      try clear c19
      try clear c20
      try clear c21
      try clear p2
      obtain ⟨x7_2, x8_2, rfl, HA, HK2, HO_3, HO_4, HO_7, HB⟩ := hrel
      cases gk with
      | zero => exact absurd HA.out (by simp [laws_FnBestOrderLeast.l0])
      | succ k2 =>
       have H := HA.out
       clear HA
       simp only [laws_FnBestOrderLeast.l0] at H
       by_cases c27 : x8_2 < (t492.length : Int)
       ·rw [if_pos c27] at H
        have c27b0 : decide (x8_2 < (t492.length : Int)) = true := decide_eq_true c27
        clear c27
        by_cases c28 : x7_2.length < 2932031007402
        ·rw [if_pos c28] at H
         have LMc28 := Aside0.mk c28
         clear c28
         obtain ⟨y513, hy513⟩ : ∃ y_ : List (S39), y_ = (x7_2 ++ [(⟨3, ([] : List Int), 0, 1⟩ : S39)]) := ⟨_, rfl⟩
         replace H : (laws_FnBestOrderLeast.l0 k2 t492 t493 y513 (wrap64 (x8_2 + 1))) = some r := by first | (rw [hy513]; with_reducible exact H) | (have H2_ := (Option.bind_some _ _).symm.trans H; rw [hy513]; with_reducible exact H2_) | (have H2_ := (Option.bind_some _ _).symm.trans H; with_reducible exact H2_) | with_reducible exact H | (rw [hy513]; exact H) | exact H
         have Ny513 := Aside0.mk hy513
         clear hy513
         have H' := Aside0.mk H
         clear H
         go_wp2_with (first | ((with_reducible refine gate_builtin (b := .append) (xs := #[.tmp 49, .tmp 51]) rfl ?_); (try (refine gate_guard (by rfl) ?_; dsimp only)); at_builtin; refine Kd.S_append k39 (w0 := w) w.heap.size rfl (.tmp 49) (.tmp 51) 26 39 (.agg #[(.int .i64 0), (.slice none 0 0), (.int .i64 0), (.int .i64 0)]) 48 rfl Tryd.underlying26 info39 rfl (by decide) (by omega) u7 x7_2 (⟨3, ([] : List Int), 0, 1⟩ : S39) [.int .i64 3, .slice none 0 0, .int .i64 0, .int .i64 1] (fun k_ => some k_ ≠ (.slice Ao7 t492.length co7 : Value).ownBlock ∧ some k_ ≠ (.slice Ao8 t493.length co8 : Value).ownBlock) (fun _ => False) rfl rfl ?aP (fun k_ hk_ => hk_.elim) ?aF ?aO ?aB ?aS ?aL ?_; (case aP => exact k39_mkM _ _ _ (⟨3, ([] : List Int), 0, 1⟩ : S39) (Kd.R_nil _ _ _ _ _)); (case aB => exact HB.out); (case aF => exact (fun k_ hk => ⟨Kd.fresh' (Kd.S_lt HO_3.out) k_ hk, Kd.fresh' (Kd.Q_lt HO_4.out) k_ hk⟩)); (case aO => exact (Kd.S_mono HO_7.out (fun k_ hk => ⟨⟨hk.1, hk.2⟩, fun e_ => e_⟩))); (case aS => exact (below_size HB.out)); (case aL => have := LMc28.out; omega); intro v514 w29 ho hb hg hat; rw [← Ny513.out] at ho; have n0_ := Aside0.mk (Kd.S_after (ok := (fun k_ => some k_ ≠ (.slice Ao8 t493.length co8 : Value).ownBlock)) HO_3.out hg hat); have n1_ := Aside0.mk (Kd.Q_over' HO_4.out (Kd.S_typed HO_7.out) (by decide) hg); have n2_ := Aside0.mk (hb); have n3_ := Aside0.mk (ho); clear HO_3; clear HO_4; clear HB; clear HO_7; have HO_3 := n0_; have HO_4 := n1_; have HB := n2_; have HO515 := n3_; clear n0_ n1_ n2_ n3_; clear ho hb hg hat))
         go_roundg k2
         case measure => have := HJ4.out; have := HK2.out; omega
         case rel => exact ⟨(y513), (wrap64 (x8_2 + 1)), (by first | rfl | (simp; done) | (simp [*]; done)), H', ⟨by have := HJ4.out; have := HK2.out; omega⟩, ⟨HO_3.out⟩, ⟨HO_4.out⟩, ⟨HO515.out⟩, ⟨HB.out⟩⟩
        ·rw [if_neg c28] at H
         exact absurd H (by simp)
       ·rw [if_neg c27] at H
        have c27b0 : decide (x8_2 < (t492.length : Int)) = false := decide_eq_false c27
        clear c27
        replace H := Option.bind_eq_some_iff.mp H
        obtain ⟨t516, A300, H⟩ := H
        replace H : (laws_FnBestOrderLeast.l1 k2 t492 t516 0) = some r := H
        have A30 := Aside0.mk A300
        clear A300
        have H' := Aside0.mk H
        clear H
        obtain ⟨Ao31, co31, eo31⟩ := Kd.S_slice HO_7.out
        subst eo31
        go_wp2_with (first | ((with_reducible refine gate_callee (f := 16) rfl ?_); refine goesL_ (some 55) rfl rfl Tryd.func16 (by kernel_rfl) rfl #[.slice Ao31 x7_2.length co31, .slice Ao8 t493.length co8, .int .i64 1] rfl (by (try simp only [List.map_toArray, List.map_cons, List.map_nil]); first | done | rfl | (simp only [List.length_drop, List.length_take]; rfl)) ?_; (with_reducible refine (impl_BestOrder.calls _ _ x7_2 _ _ t493 1 t516 _ ?side1 ?side2 ?side3 ?side4 ?side5 A30.out).mono ?_); (case side1 => exact (Kd.S_reads' HO_7.out).2.2); (case side2 => exact (Kd.S_reads' HO_7.out).2.1); (case side3 => exact (Kd.Q_reads' HO_4.out).2.2); (case side4 => exact (Kd.Q_reads' HO_4.out).2.1); (case side5 => exact Tab.of HT.out HB.out); rintro e w32 ⟨v517, rfl, ho0, hb⟩; refine ⟨_, rfl, ?_⟩; have n0_ := Aside0.mk (Kd.S_elder' HO_3.out (Kd.R_base ho0) hb); have n1_ := Aside0.mk (Kd.Q_elder' HO_4.out (Kd.R_base ho0) hb); have n2_ := Aside0.mk (Kd.S_elder' HO_7.out (Kd.R_base ho0) hb); have n3_ := Aside0.mk (Kd.R_lower (Kd.R_new' ho0 (Kd.Q_lt HO_4.out)) (below_size HB.out)); have n4_ := Aside0.mk (below_step HB.out hb); clear HO_3; clear HO_4; clear HO_7; clear HB; have HO_3 := n0_; have HO_4 := n1_; have HO_7 := n2_; have HO518 := n3_; have HB := n4_; clear n0_ n1_ n2_ n3_ n4_; (try clear hb); (try clear hb2); (try clear hk); (try clear hi); (try clear ho0)))
        go_loopg [10] k2 (fun kq v10 w' => ∃ (x10_3 : Int), v10 = .int .i64 x10_3 ∧ Aside0 (laws_FnBestOrderLeast.l1 kq t492 t516 x10_3 = some r) ∧ Aside0 (kq ≤ k2) ∧ Aside0 (Kd.S k39 39 w' w.heap.size (fun k_ => some k_ ≠ (v517 : Value).ownBlock) (.slice Ao7 t492.length co7) t492) ∧ Aside0 (Kd.R (Kd.int .i64) 3 w' w.heap.size (fun _ => True) v517 t516) ∧ Aside0 (Below w.heap.size w w'))
        case atStart => exact ⟨(0), (by first | rfl | (simp; done) | (simp [*]; done)), H', ⟨Nat.le_refl _⟩, ⟨by (with_reducible repeat (first | apply Kd.S_alloc | apply Kd.S_drewN | apply Kd.S_drew)); exact Kd.S_mono HO_3.out (fun _ hk => hk.2)⟩, ⟨by (with_reducible repeat (first | apply Kd.R_alloc | apply Kd.R_drewN | apply Kd.R_drew)); exact Kd.R_mono HO518.out (fun _ hk => trivial)⟩, ⟨HB.out⟩⟩
        case round =>
         clear H'
         try clear c1
         try clear c2
         try clear c2b0
         try clear c2b1
         try clear p2
         try clear c5
         try clear p6
         try clear c12
         try clear c15
         try clear c16
         try clear c19
         try clear c20
         try clear c21
         try clear c27
         try clear c27b0
         try clear c28
         try clear p2
         obtain ⟨x10_3, rfl, HA, HK3, HO_3, HO_9, HB⟩ := hrel
         cases gk with
         | zero => exact absurd HA.out (by simp [laws_FnBestOrderLeast.l1])
         | succ k3 =>
          have H := HA.out
          clear HA
          simp only [laws_FnBestOrderLeast.l1] at H
          by_cases c33 : x10_3 < (t516.length : Int)
          ·rw [if_pos c33] at H
           have c33b0 : decide (x10_3 < (t516.length : Int)) = true := decide_eq_true c33
           clear c33
           by_cases c34 : 0 ≤ x10_3
           ·rw [if_pos c34] at H
            have c34b0 : decide (0 ≤ x10_3) = true := decide_eq_true c34
            clear c34
            by_cases c35 : (rd t516 x10_3) = x10_3
            ·rw [if_pos c35] at H
             have c35b0 : ((rd t516 x10_3) == x10_3) = true := beq_iff_eq.mpr c35
             have c35b1 : ((rd t516 x10_3) != x10_3) = false := bne_eq_false_iff_eq.mpr c35
             clear c35
             have H' := Aside0.mk H
             clear H
             obtain ⟨Ao36, co36, eo36⟩ := Kd.R_slice HO_9.out
             subst eo36
             have p519 : 0 ≤ (x10_3 : Int) := of_decide_eq_true (by first | (with_reducible assumption) | assumption)
             have q519 : x10_3 < (t516.length : Int) := of_decide_eq_true (by first | (with_reducible assumption) | assumption)
             obtain ⟨ad519, e519, hx519_0⟩ := Kd.at_int (Kd.R_reads' HO_9.out).2.2 x10_3 p519 q519
             cases e519
             replace p519 := eq_true p519
             replace q519 := eq_true q519
             go_wp2
             go_roundg k3
             case measure => have := HJ4.out; have := HK2.out; have := HK3.out; omega
             case rel => exact ⟨(wrap64 (x10_3 + 1)), (by first | rfl | (simp; done) | (simp [*]; done)), H', ⟨by have := HJ4.out; have := HK2.out; have := HK3.out; omega⟩, ⟨HO_3.out⟩, ⟨HO_9.out⟩, ⟨HB.out⟩⟩
            ·rw [if_neg c35] at H
             have c35b0 : ((rd t516 x10_3) == x10_3) = false := beq_eq_false_iff_ne.mpr c35
             have c35b1 : ((rd t516 x10_3) != x10_3) = true := bne_iff_ne.mpr c35
             obtain rfl := Option.some.inj H
             obtain ⟨Ao37, co37, eo37⟩ := Kd.R_slice HO_9.out
             subst eo37
             have p519 : 0 ≤ (x10_3 : Int) := of_decide_eq_true (by first | (with_reducible assumption) | assumption)
             have q519 : x10_3 < (t516.length : Int) := of_decide_eq_true (by first | (with_reducible assumption) | assumption)
             obtain ⟨ad519, e519, hx519_0⟩ := Kd.at_int (Kd.R_reads' HO_9.out).2.2 x10_3 p519 q519
             cases e519
             replace p519 := eq_true p519
             replace q519 := eq_true q519
             go_wp2
             go_ret
             exact ⟨by first | rfl | (simp [errW_none, errW_some] <;> rfl) | (simp [*, errW_none, errW_some] <;> rfl), HB.out⟩
           ·rw [if_neg c34] at H
            exact absurd H (by simp)
          ·rw [if_neg c33] at H
           have c33b0 : decide (x10_3 < (t516.length : Int)) = false := decide_eq_false c33
           clear c33
           obtain rfl := Option.some.inj H
           obtain ⟨Ao38, co38, eo38⟩ := Kd.R_slice HO_9.out
           subst eo38
           go_wp2
           go_ret
           exact ⟨by first | rfl | (simp [errW_none, errW_some] <;> rfl) | (simp [*, errW_none, errW_some] <;> rfl), HB.out⟩
end Go.Proofs.YtimbfcedigaffaaDoor.P
end
