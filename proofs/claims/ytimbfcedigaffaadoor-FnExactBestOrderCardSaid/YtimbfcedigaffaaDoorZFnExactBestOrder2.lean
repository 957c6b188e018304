/- The law FnExactBestOrder holds of the given program: the proof's own part, with its row and its card, part 2 of 5. -/
import Derived.Test.YtimbfcedigaffaaDoorZFnExactBestOrder1
section
namespace Go.Proofs.YtimbfcedigaffaaDoor.P
open Go.RowKit Go.Proofs.YtimbfcedigaffaaDoorW.PrintWords Go.Proofs.YtimbfcedigaffaaDoorW.PrintLast Go.Proofs.YtimbfcedigaffaaDoorW.PrintMore
attribute [local go_sem] max2_int min2_int max_two min_two max_three min_three max_four min_four   -- for this text's walks alone
set_option linter.unusedVariables false
set_option linter.unusedSimpArgs false
def laws_heldIntS.l0 : Nat → List Int → Int → Int → Option (Int)
 | 0, _, _, _ => none
 | k + 1, x0, x1, x5 => if x5 < (x0.length : Int) then (if 0 ≤ x5 then (if (rd x0 x5) = x1 then (laws_heldIntS.l0 k x0 (wrap64 (x1 + 1)) (wrap64 (x5 + 1))) else (some (-1))) else (none)) else (some x1)
def laws_heldIntS.f (k : Nat) (l0 : List Int) (a1 : Int) : Option (Int) := laws_heldIntS.l0 k l0 a1 0
set_option maxHeartbeats 8000000 in
set_option maxRecDepth 100000 in
theorem laws_heldIntS.calls (k : Nat) (A0 : Option Addr) (c0 : Nat) (l0 : List Int) (a1 : Int) (r : Int) (w : World) (hr0 : Kd.C (Kd.int .i64) w A0 l0.length l0) (hc0 : l0.length ≤ c0) (h : laws_heldIntS.f k l0 a1 = some r) :
  Calls Tryd.prog 19 #[.slice A0 l0.length c0, .int .i64 a1] w fun e w' => e = .returned (.int .i64 r) ∧ Drawn0 w w' := by
 have HR0 := Aside0.mk hr0
 have HC0 := Aside0.mk hc0
 clear hr0 hc0
 have H : (laws_heldIntS.l0 k l0 a1 0) = some r := h
 clear h
 have H' := Aside0.mk H
 clear H
 go_enter Tryd.func19, Tryd.ntmps19
 go_wp2
 go_loopg [1, 5] k (fun kq v1 v5 w' => ∃ (x1_1 : Int) (x5_1 : Int), v1 = .int .i64 x1_1 ∧ v5 = .int .i64 x5_1 ∧ Aside0 (laws_heldIntS.l0 kq l0 x1_1 x5_1 = some r) ∧ Aside0 (kq ≤ k) ∧ Drawn0 w w')
 case atStart => exact ⟨(a1), (0), (by first | rfl | (simp; done) | (simp [*]; done)), (by first | rfl | (simp; done) | (simp [*]; done)), H', ⟨Nat.le_refl _⟩, by repeat (first | exact Drawn0.refl _ | apply Drawn0.step)⟩
 case round =>
  clear H'
  try clear c1
  try clear p2
  obtain ⟨x1_1, x5_1, rfl, rfl, HA, HK1, ⟨m1, rfl⟩⟩ := hrel
  cases gk with
  | zero => exact absurd HA.out (by simp [laws_heldIntS.l0])
  | succ k1 =>
   have H := HA.out
   clear HA
   simp only [laws_heldIntS.l0] at H
   by_cases c3 : x5_1 < (l0.length : Int)
   ·rw [if_pos c3] at H
    have c3b0 : decide (x5_1 < (l0.length : Int)) = true := decide_eq_true c3
    clear c3
    by_cases c4 : 0 ≤ x5_1
    ·rw [if_pos c4] at H
     have c4b0 : decide (0 ≤ x5_1) = true := decide_eq_true c4
     clear c4
     by_cases c5 : (rd l0 x5_1) = x1_1
     ·rw [if_pos c5] at H
      have c5b0 : ((rd l0 x5_1) == x1_1) = true := beq_iff_eq.mpr c5
      have c5b1 : ((rd l0 x5_1) != x1_1) = false := bne_eq_false_iff_eq.mpr c5
      clear c5
      have H' := Aside0.mk H
      clear H
      have p315 : 0 ≤ (x5_1 : Int) := of_decide_eq_true (by first | (with_reducible assumption) | assumption)
      have q315 : x5_1 < (l0.length : Int) := of_decide_eq_true (by first | (with_reducible assumption) | assumption)
      obtain ⟨ad315, e315, hx315_0⟩ := Kd.at_int HR0.out x5_1 p315 q315
      cases e315
      replace p315 := eq_true p315
      replace q315 := eq_true q315
      go_wp2
      go_roundg k1
      case measure => have := HK1.out; omega
      case rel => exact ⟨(wrap64 (x1_1 + 1)), (wrap64 (x5_1 + 1)), (by first | rfl | (simp; done) | (simp [*]; done)), (by first | rfl | (simp; done) | (simp [*]; done)), H', ⟨by have := HK1.out; omega⟩, by repeat (first | exact Drawn0.refl _ | apply Drawn0.step)⟩
     ·rw [if_neg c5] at H
      have c5b0 : ((rd l0 x5_1) == x1_1) = false := beq_eq_false_iff_ne.mpr c5
      have c5b1 : ((rd l0 x5_1) != x1_1) = true := bne_iff_ne.mpr c5
      obtain rfl := Option.some.inj H
      have p315 : 0 ≤ (x5_1 : Int) := of_decide_eq_true (by first | (with_reducible assumption) | assumption)
      have q315 : x5_1 < (l0.length : Int) := of_decide_eq_true (by first | (with_reducible assumption) | assumption)
      obtain ⟨ad315, e315, hx315_0⟩ := Kd.at_int HR0.out x5_1 p315 q315
      cases e315
      replace p315 := eq_true p315
      replace q315 := eq_true q315
      go_wp2
      go_ret
      exact ⟨by first | rfl | (simp; done) | (simp [*]; done), by repeat (first | exact Drawn0.refl _ | apply Drawn0.step)⟩
    ·rw [if_neg c4] at H
     exact absurd H (by simp)
   ·rw [if_neg c3] at H
    have c3b0 : decide (x5_1 < (l0.length : Int)) = false := decide_eq_false c3
    clear c3
    obtain rfl := Option.some.inj H
    go_wp2
    go_ret
    exact ⟨by first | rfl | (simp; done) | (simp [*]; done), by repeat (first | exact Drawn0.refl _ | apply Drawn0.step)⟩
end Go.Proofs.YtimbfcedigaffaaDoor.P
end
section
namespace Go.Proofs.YtimbfcedigaffaaDoor.P
open Go.RowKit Go.Proofs.YtimbfcedigaffaaDoorW.PrintWords Go.Proofs.YtimbfcedigaffaaDoorW.PrintLast Go.Proofs.YtimbfcedigaffaaDoorW.PrintMore
attribute [local go_sem] max2_int min2_int max_two min_two max_three min_three max_four min_four   -- for this text's walks alone
set_option linter.unusedVariables false
set_option linter.unusedSimpArgs false
def laws_markIntS.l0 : Nat → List Int → Int → Int → Option (Int × List Int)
 | 0, _, _, _ => none
 | k + 1, x0, x1, x5 => if x5 < (x0.length : Int) then (if 0 ≤ x5 then (laws_markIntS.l0 k (x0.set (x5 : Int).toNat x1) (wrap64 (x1 + 1)) (wrap64 (x5 + 1))) else (none)) else (some (x1, x0))
def laws_markIntS.f (k : Nat) (l0 : List Int) (a1 : Int) : Option (Int × List Int) := laws_markIntS.l0 k l0 a1 0
theorem laws_markIntS.mono_l : ∀ k, (∀ y0 y1 y2, LeO (laws_markIntS.l0 k y0 y1 y2) (laws_markIntS.l0 (k + 1) y0 y1 y2))
 | 0 => fun _ _ _ r h => by simp [laws_markIntS.l0] at h
 | k + 1 => by
  have ih0 := laws_markIntS.mono_l k
  ·intro y0 y1 y2
   unfold laws_markIntS.l0
   repeat' first
   | (with_reducible exact ih0 _ _ _)
   | (with_reducible exact LeO.refl _)
   | (with_reducible exact LeO.none _)
   | (with_reducible refine LeO.ite ?_ ?_)
   | (with_reducible refine LeO.bind ?_ (fun _ => ?_))
   | exact ih0 _ _ _
   | exact LeO.none _
   | refine LeO.ite ?_ ?_
   | refine LeO.bind ?_ (fun _ => ?_)
theorem laws_markIntS.mono : ∀ a0 a1 k, LeO (laws_markIntS.f k a0 a1) (laws_markIntS.f (k + 1) a0 a1) := by
 intro a0 a1 k
 have ih0 := laws_markIntS.mono_l k
 unfold laws_markIntS.f
 repeat' first
   | (with_reducible exact ih0 _ _ _)
   | (with_reducible exact LeO.refl _)
   | (with_reducible exact LeO.none _)
   | (with_reducible refine LeO.ite ?_ ?_)
   | (with_reducible refine LeO.bind ?_ (fun _ => ?_))
   | exact ih0 _ _ _
   | exact LeO.none _
   | refine LeO.ite ?_ ?_
   | refine LeO.bind ?_ (fun _ => ?_)
set_option maxHeartbeats 8000000 in
set_option maxRecDepth 100000 in
theorem laws_markIntS.calls (k : Nat) {e_ : TypeId} (P0_ : Nat → Prop) (u9000_ : Value) (l0 : List Int) (a1 : Int) (r1 : Int) (r2 : List Int) (w0 w : World) (hB : Below w0.heap.size w0 w) (ho0 : Kd.R (Kd.int .i64) e_ w w0.heap.size P0_ u9000_ l0) (h : laws_markIntS.f k l0 a1 = some (r1, r2)) :
  Calls Tryd.prog 18 #[u9000_, .int .i64 a1] w fun e w' => e = .returned (.int .i64 r1) ∧ Kd.R (Kd.int .i64) e_ w' w0.heap.size (fun k_ => (P0_ k_ ∨ w.heap.size ≤ k_)) u9000_ r2 ∧ Below w0.heap.size w0 w' ∧ Kept w w' (fun k_ => P0_ k_) := by
 have HO0 := Aside0.mk (show Kd.R (Kd.int .i64) e_ w w0.heap.size (fun k_ => (P0_ k_ ∨ w.heap.size ≤ k_)) u9000_ l0 from Kd.R_mono ho0 (fun k_ hk => (.inl hk)))
 have HK := Aside0.mk (Kept.refl w (fun k_ => P0_ k_))
 have HW0 := Aside0.mk hB.size
 have HB := Aside0.mk hB
 clear hB
 have H : (laws_markIntS.l0 k l0 a1 0) = some (r1, r2) := h
 clear h
 have H' := Aside0.mk H
 clear H
 go_enter Tryd.func18, Tryd.ntmps18
 go_wp2
 go_loopg [1, 5] k (fun kq v1 v5 w' => ∃ (x0_1 : List Int) (x1_1 : Int) (x5_1 : Int), v1 = .int .i64 x1_1 ∧ v5 = .int .i64 x5_1 ∧ Aside0 (laws_markIntS.l0 kq x0_1 x1_1 x5_1 = some (r1, r2)) ∧ Aside0 (kq ≤ k) ∧ Aside0 (Kd.R (Kd.int .i64) e_ w' w0.heap.size (fun k_ => (P0_ k_ ∨ w.heap.size ≤ k_)) u9000_ x0_1) ∧ Aside0 (Kept w w' (fun k_ => P0_ k_)) ∧ Aside0 (Below w0.heap.size w0 w'))
 case atStart => exact ⟨(l0), (a1), (0), (by first | rfl | (simp; done) | (simp [*]; done)), (by first | rfl | (simp; done) | (simp [*]; done)), H', ⟨Nat.le_refl _⟩, ⟨by (with_reducible repeat (first | apply Kd.R_alloc | apply Kd.R_drewN | apply Kd.R_drew)); exact HO0.out⟩, ⟨by repeat (first | (with_reducible first | exact HK.out | apply Kept.alloc | apply Kept.drewN | apply Kept.drew) | exact HK.out)⟩, ⟨by repeat (first | (with_reducible first | exact HB.out | apply below_alloc | apply pw_below_drewN | apply below_drew1) | exact HB.out)⟩⟩
 case round =>
  clear H'
  try clear c1
  try clear p2
  obtain ⟨x0_1, x1_1, x5_1, rfl, rfl, HA, HK1, HO_0, HK, HB⟩ := hrel
  cases gk with
  | zero => exact absurd HA.out (by simp [laws_markIntS.l0])
  | succ k1 =>
   have H := HA.out
   clear HA
   simp only [laws_markIntS.l0] at H
   by_cases c3 : x5_1 < (x0_1.length : Int)
   ·rw [if_pos c3] at H
    have c3b0 : decide (x5_1 < (x0_1.length : Int)) = true := decide_eq_true c3
    clear c3
    by_cases c4 : 0 ≤ x5_1
    ·rw [if_pos c4] at H
     have c4b0 : decide (0 ≤ x5_1) = true := decide_eq_true c4
     clear c4
     obtain ⟨y314, hy314⟩ : ∃ y_ : List Int, y_ = (x0_1.set (x5_1 : Int).toNat x1_1) := ⟨_, rfl⟩
     replace H : (laws_markIntS.l0 k1 y314 (wrap64 (x1_1 + 1)) (wrap64 (x5_1 + 1))) = some (r1, r2) := by first | (rw [hy314]; with_reducible exact H) | (have H2_ := (Option.bind_some _ _).symm.trans H; rw [hy314]; with_reducible exact H2_) | (have H2_ := (Option.bind_some _ _).symm.trans H; with_reducible exact H2_) | with_reducible exact H | (rw [hy314]; exact H) | exact H
     have Ny314 := Aside0.mk hy314
     clear hy314
     have H' := Aside0.mk H
     clear H
     obtain ⟨Ao6, co6, eo6⟩ := Kd.R_slice HO_0.out
     subst eo6
     have p5 : 0 ≤ (x5_1 : Int) := of_decide_eq_true (by first | (with_reducible assumption) | assumption)
     have q5 : (x5_1 : Int) < ((x0_1.length : Int) : Int) := of_decide_eq_true (by first | (with_reducible assumption) | assumption)
     obtain ⟨go5, co5, eo5, gb5, gl5, cl5, HG5⟩ := Kd.R_form HO_0.out (by omega)
     (first | cases eo5 | (injection eo5 with ea_ en_ ec_; (first | subst ea_ | (injection ea_ with ea_; subst ea_)); subst ec_; clear en_))
     have GB5 := Aside0.mk gb5
     have GG5 := Aside0.mk HG5
     clear gb5 gl5 HG5
     have HMgo5 := Aside0.mk (show (P0_ go5 ∨ w.heap.size ≤ go5) from (HO_0.out.1 _ rfl))
     obtain ⟨hx5_0, hf5_0⟩ := Kd.R_celln 0 HO_0.out (x5_1 : Int) p5 q5
     replace p5 := eq_true p5
     replace q5 := eq_true q5
     have HP7 := Kd.R_putg HO_0.out (x5_1 : Int) x1_1
     go_wp2_with (first | ((with_reducible refine gate_store (t := 3) (p := 15) rfl ?_); refine store_event (t := 3) (p := 15) (v := ?vo_w8) (w1 := (wr.setCell ⟨go5, (x5_1 : Int).toNat, none⟩ (.int .i64 x1_1))) ?hg ?ho ?hn ?hr ?_; (case ho => rfl); (case hg => rfl); (case hn => rfl); (case hr => (first | (go_simp; done) | (go_simp; rfl))); intro w8 hw; have hg : wr.grownBy w8 (some go5) := (by rw [hw]; exact HP7.2); have hp_ : Kd.R (Kd.int .i64) e_ w8 w0.heap.size (fun k_ => (P0_ k_ ∨ w.heap.size ≤ k_)) (.slice (some ⟨go5, 0, none⟩) x0_1.length co6) y314 := (by rw [hw, Ny314.out]; exact HP7.1); clear HP7; have n0_ := Aside0.mk (hp_); have n1_ := Aside0.mk ((by rw [hw]; exact below_set (HB.out) GB5.out : Below w0.heap.size w0 w8)); have n2_ := Aside0.mk (Kept.of_grown (S := (fun k_ => P0_ k_)) hg (by repeat (first | (with_reducible first | exact HK.out | apply Kept.alloc | apply Kept.drewN | apply Kept.drew) | exact HK.out)) (fun k_ e_ => (HO_0.out.1 k_ e_))); clear HO_0; clear HB; clear HK; have HO_0 := n0_; have HB := n1_; have HK := n2_; clear n0_ n1_ n2_; clear hg hw hp_))
     go_roundg k1
     case measure => have := HK1.out; omega
     case rel => exact ⟨(y314), (wrap64 (x1_1 + 1)), (wrap64 (x5_1 + 1)), (by first | rfl | (simp; done) | (simp [*]; done)), (by first | rfl | (simp; done) | (simp [*]; done)), H', ⟨by have := HK1.out; omega⟩, ⟨by (with_reducible repeat (first | apply Kd.R_alloc | apply Kd.R_drewN | apply Kd.R_drew)); exact HO_0.out⟩, ⟨by repeat (first | (with_reducible first | exact HK.out | apply Kept.alloc | apply Kept.drewN | apply Kept.drew) | exact HK.out)⟩, ⟨by repeat (first | (with_reducible first | exact HB.out | apply below_alloc | apply pw_below_drewN | apply below_drew1) | exact HB.out)⟩⟩
    ·rw [if_neg c4] at H
     exact absurd H (by simp)
   ·rw [if_neg c3] at H
    have c3b0 : decide (x5_1 < (x0_1.length : Int)) = false := decide_eq_false c3
    clear c3
    simp only [Option.some.injEq, Prod.mk.injEq] at H
    obtain ⟨rfl, rfl⟩ := H
    obtain ⟨Ao9, co9, eo9⟩ := Kd.R_slice HO_0.out
    subst eo9
    go_wp2
    go_ret
    exact ⟨by first | rfl | (simp [errW_none, errW_some] <;> rfl) | (simp [*, errW_none, errW_some] <;> rfl), by (with_reducible repeat (first | apply Kd.R_alloc | apply Kd.R_drewN | apply Kd.R_drew)); exact HO_0.out, by repeat (first | (with_reducible first | exact HB.out | apply below_alloc | apply pw_below_drewN | apply below_drew1) | exact HB.out), by repeat (first | (with_reducible first | exact HK.out | apply Kept.alloc | apply Kept.drewN | apply Kept.drew) | exact HK.out)⟩
end Go.Proofs.YtimbfcedigaffaaDoor.P
end
section
set_option linter.unusedVariables false
set_option linter.unusedSimpArgs false
namespace Go.Proofs.YtimbfcedigaffaaDoor.Core
open Go Go.RowKit Go.Proofs.YtimbfcedigaffaaDoorW.PrintWords Go.Proofs.YtimbfcedigaffaaDoorW.PrintLast Go.Proofs.YtimbfcedigaffaaDoorW.PrintMore Go.Proofs.YtimbfcedigaffaaDoor.P
/-- A row of whatever whole numbers, from block B on. -/
def IRow (w : World) (B : Nat) (v : Value) (n : Nat) : Prop := ∃ A c, v = .slice A n c ∧ n ≤ maxLen ∧ (n = 0 ∨ ∃ g off cur e, A = some ⟨g, off, none⟩ ∧ B ≤ g ∧ w.heap[g]? = some (.cells cur e (0, 0)) ∧ off + n ≤ cur.size)
theorem IRow.mv {w w' : World} {B n : Nat} {v : Value} (h : IRow w B v n) (hs : Shape w w') : IRow w' B v n := by
 obtain ⟨A, c, hv, hn, h⟩ := h
 refine ⟨A, c, hv, hn, h.imp_right ?_⟩
 rintro ⟨g, off, cur, e, hA, hB, hg, hl⟩
 obtain ⟨cur', h1, h2⟩ := hs g cur e hg
 exact ⟨g, off, cur', e, hA, hB, h1, by omega⟩
/-- One more at each of n cells. -/
def upI : Nat → Int → Int
 | 0, a => a
 | n + 1, a => wrap64 (upI n a + 1)
set_option maxRecDepth 100000 in
set_option maxHeartbeats 4000000 in
theorem markIntS_row (B : Nat) (v : Value) (n : Nat) (a : Int) (w : World) (h : IRow w B v n) :
  Calls Tryd.prog 18 #[v, .int .i64 a] w fun e w' => e = .returned (.int .i64 (upI n a)) ∧ Marks' B (fun k => some k = v.ownBlock) w w' := by
 obtain ⟨A, c, rfl, hn, hrow⟩ := h
 have HW := Aside0.mk hrow
 have HN := Aside0.mk hn
 clear hrow hn
 go_enter Tryd.func18, Tryd.ntmps18
 go_wp2
 go_loopg [1, 5] n (fun kq v1 v5 w' => ∃ (i : Nat) (x y : Int), v1 = .int .i64 y ∧ v5 = .int .i64 x ∧ Aside0 (kq + i = n ∧ x = (i : Int) ∧ y = upI i a) ∧ Aside0 (Marks' B (fun k => some k = (Value.slice A n c).ownBlock) w w'))
 case atStart => exact ⟨0, 0, a, rfl, rfl, ⟨rfl, rfl, rfl⟩, ⟨Marks'.refl _ _ _⟩⟩
 case round =>
  obtain ⟨i, x, y, rfl, rfl, HI, HM⟩ := hrel
  have hn := HN.out
  have h1 := HI.out.1
  have h2 := HI.out.2.1
  have h3 := HI.out.2.2
  by_cases hlt : i < n
  ·have hd : decide (x < (n : Int)) = true := decide_eq_true (by omega)
   obtain ⟨g, off, cur0, e, hA, hB, hg0, hl0⟩ : ∃ g off cur e, A = some ⟨g, off, none⟩ ∧ B ≤ g ∧ w.heap[g]? = some (.cells cur e (0, 0)) ∧ off + n ≤ cur.size := HW.out.resolve_left (by omega)
   subst hA
   obtain ⟨cur, hg, hl⟩ := HM.out.shape g cur0 e hg0
   have p0 : 0 ≤ x := by omega
   have q0 : x < (n : Int) := by omega
   obtain ⟨u, hx⟩ : ∃ u, wr.cell? ⟨g, off + x.toNat, none⟩ = some u := by
    rw [cell_of_row wr g _ cur e (0, 0) hg]
    exact ⟨_, Array.getElem?_eq_getElem (by omega)⟩
   have hf : wr.frozen? ⟨g, off + x.toNat, none⟩ = false := blk_frozen hg _
   have HM2 := Aside0.mk (HM.out.set (g := g) hB rfl (off + x.toNat) (.int .i64 y))
   have HI2 := Aside0.mk (show (n - (i + 1)) + (i + 1) = n ∧ wrap64 (x + 1) = ((i + 1 : Nat) : Int) ∧ wrap64 (y + 1) = upI (i + 1) a from ⟨by omega, by unfold maxLen at hn; unfold wrap64; omega, by rw [h3]; rfl⟩)
   replace p0 := eq_true p0
   replace q0 := eq_true q0
   have hk : gk = (n - (i + 1)) + 1 := by omega
   clear h1 h2 h3 hn hg hg0 hl hl0 HI HM
   subst hk
   clear hd
   go_wp2
   go_roundg (n - (i + 1))
   case measure => omega
   case rel => exact ⟨i + 1, _, _, rfl, rfl, HI2, HM2⟩
  ·have hd : decide (x < (n : Int)) = false := decide_eq_false (by omega)
   have hi : i = n := by omega
   subst hi
   rw [h3]
   clear h1 h2 h3 hlt hn
   go_wp2
   go_ret
   exact ⟨rfl, HM.out⟩
/-- What the marks of tasks come to. -/
def mkT (l : List S39) (a : Int) : Nat → Int
 | 0 => a
 | i + 1 => wrap64 (wrap64 (upI (l.getD i z39).f1.length (wrap64 (mkT l a i + 1)) + 1) + 1)
theorem task_size {w : World} {B : Nat} {S : Nat → Prop} {g n cap : Nat} {l : List S39} (h : Kd.R k39 39 w B S (.slice (some ⟨g, 0, none⟩) n cap) l) {i : Nat} (hi : i < n) {cur : Array Value} {e : TypeId} (hg : w.heap[g]? = some (.cells cur e (0, 0))) : i * 4 + 3 < cur.size := by
 obtain ⟨c, hcl, hM, hcc, _⟩ := Kd.R_elem h z39 (i : Int) (by omega) (by omega)
 have h3 : (3 : Nat) < c.length := by rw [hcl]; decide
 have := hcc 3 _ (List.getElem?_eq_getElem h3)
 rw [cell_of_row w g _ cur e (0, 0) hg] at this
 obtain ⟨hl, _⟩ := Array.getElem?_eq_some_iff.1 this
 exact hl
/-- A cell of a block that is there. -/
theorem cell_here {w : World} {g o : Nat} {cur : Array Value} {e : TypeId} (hg : w.heap[g]? = some (.cells cur e (0, 0))) (h : o < cur.size) : (∃ u, w.cell? ⟨g, o, none⟩ = some u) ∧ w.frozen? ⟨g, o, none⟩ = false :=
 ⟨by rw [cell_of_row w g _ cur e (0, 0) hg]; exact ⟨_, Array.getElem?_eq_getElem h⟩, blk_frozen hg _⟩
theorem head_set {w wr : World} {g o : Nat} {u : Value} {cur : Array Value} {e : TypeId} (hg : wr.heap[g]? = some (.cells cur e (0, 0))) (h : ∀ j : Nat, wr.cell? ⟨g, j * 4 + 1, none⟩ = w.cell? ⟨g, j * 4 + 1, none⟩) (ho : o % 4 ≠ 1) : ∀ j : Nat, (wr.setCell ⟨g, o, none⟩ u).cell? ⟨g, j * 4 + 1, none⟩ = w.cell? ⟨g, j * 4 + 1, none⟩ := by
 intro j
 rw [← h j]
 rw [cell_of_row wr g _ cur e (0, 0) hg, cell_of_row _ g _ _ e (0, 0) (blk_set hg o u), Array.getElem?_setIfInBounds_ne (by omega)]
theorem head_kept {w w1 w2 : World} {S : Nat → Prop} {g : Nat} {cur : Array Value} {e : TypeId} (hs : Shape w w1) (hg : w.heap[g]? = some (.cells cur e (0, 0))) (hk : Kept w1 w2 S) (hn : ¬ S g) (o : Nat) : w2.cell? ⟨g, o, none⟩ = w1.cell? ⟨g, o, none⟩ := by
 obtain ⟨cur1, h1, _⟩ := hs g cur e hg
 exact World.cell?_of_block (w := w1) (hk.2 g (blk_lt h1) hn)
/-- A task's needs: the cell, and what it leads to. -/
theorem task_needs {w : World} {B : Nat} {S : Nat → Prop} {g n cap : Nat} {l : List S39} (h : Kd.R k39 39 w B S (.slice (some ⟨g, 0, none⟩) n cap) l) {i : Nat} (hi : i < n) :
  ∃ v1, w.cell? ⟨g, i * 4 + 1, none⟩ = some v1 ∧ IRow w B v1 (l.getD i z39).f1.length ∧ ∀ k, v1.ownBlock = some k → S k ∧ k ≠ g := by
 obtain ⟨c, hcl, hM, hcc, _⟩ := Kd.R_elem h z39 (i : Int) (by omega) (by omega)
 obtain ⟨v1, hc, hQ⟩ := k39_openM hM
 simp only [Int.toNat_natCast] at hcc hQ
 refine ⟨v1, hcc 1 v1 (by rw [hc]; rfl), ?_, fun k hk => ⟨(hQ.1 k hk).1, ?_⟩⟩
 ·obtain ⟨h0, inner, hq, hr⟩ := hQ
  have hmax := q_max hq
  rcases hq.2 with ⟨h1, A, hv, hA⟩ | ⟨g1, off, cap1, cur, hv, hb, hg, hnc, hcm, hcs, _⟩
  ·exact ⟨A, 0, by rw [hv, h1], hmax, .inl h1⟩
  ·refine ⟨_, cap1, hv, hmax, .inr ⟨g1, off, cur, _, by rw [show off * (Kd.int .i64).sz = off from Nat.mul_one off], hb, hg, ?_⟩⟩
   rw [show (off + cap1) * (Kd.int .i64).sz = off + cap1 from Nat.mul_one _] at hcs
   rw [hcs]
   exact Nat.add_le_add_left hnc off
 ·intro e
  exact (hQ.1 k hk).2 e
set_option maxRecDepth 100000 in
set_option maxHeartbeats 4000000 in
theorem markTaskS_row (B : Nat) (S : Nat → Prop) (v : Value) (l : List S39) (a : Int) (w : World) (h : Kd.R k39 39 w B S v l) :
  Calls Tryd.prog 17 #[v, .int .i64 a] w fun e w' => e = .returned (.int .i64 (mkT l a l.length)) ∧ Marks' B S w w' := by
 obtain ⟨A, c, rfl, hlc, hC⟩ := Kd.R_reads h
 have hn : l.length ≤ maxLen := hC.2.1
 have HN := Aside0.mk hn
 have HR := Aside0.mk h
 have HS := Aside0.mk h.1
 clear hn h hC hlc
 obtain ⟨n, HNL⟩ : ∃ n, Aside0 (n = l.length) := ⟨_, ⟨rfl⟩⟩
 rw [← HNL.out] at HN HR HS ⊢
 go_enter Tryd.func17, Tryd.ntmps17
 go_wp2
 go_loopg [1, 5] n (fun kq v1 v5 w' => ∃ (i : Nat) (x y : Int), v1 = .int .i64 y ∧ v5 = .int .i64 x ∧ Aside0 (kq + i = n ∧ x = (i : Int) ∧ y = mkT l a i) ∧ Aside0 (Marks' B S w w' ∧ ∀ g, A = some ⟨g, 0, none⟩ → ∀ j : Nat, w'.cell? ⟨g, j * 4 + 1, none⟩ = w.cell? ⟨g, j * 4 + 1, none⟩))
 case atStart => exact ⟨0, 0, a, rfl, rfl, ⟨rfl, rfl, rfl⟩, ⟨Marks'.refl _ _ _, fun _ _ _ => rfl⟩⟩
 case round =>
  obtain ⟨i, x, y, rfl, rfl, HI, HM⟩ := hrel
  have hn := HN.out
  have h1 := HI.out.1
  have h2 := HI.out.2.1
  have h3 := HI.out.2.2
  by_cases hlt : i < n
  ·have hd : decide (x < (n : Int)) = true := decide_eq_true (by omega)
   obtain ⟨g, cap, hv, hB, hgl, cur0, hg0⟩ := Kd.R_form HR.out (by have := HNL.out; omega)
   injection hv with hA hln hc
   subst hA
   clear hln
   have p0 : 0 ≤ x := by omega
   have q0 : x < (n : Int) := by omega
   replace p0 := eq_true p0
   replace q0 := eq_true q0
   have hk : gk = (n - (i + 1)) + 1 := by omega
   obtain ⟨X, hX⟩ : ∃ X, X = x.toNat := ⟨_, rfl⟩
   have hXi : X = i := by omega
   have hsz := task_size HR.out hlt hg0
   obtain ⟨v1, hv1, hrow, hown⟩ := task_needs HR.out hlt
   obtain ⟨m, hm⟩ : ∃ m, m = (l.getD i z39).f1.length := ⟨_, rfl⟩
   rw [← hm] at hrow
   have Hv1 := Aside0.mk hv1
   have Hrow := Aside0.mk hrow
   have Hown := Aside0.mk hown
   have HSg := Aside0.mk (HS.out g rfl)
   have HB := Aside0.mk hB
   have HG := Aside0.mk hg0
   have HSZ := Aside0.mk hsz
   obtain ⟨cur1, hg1, hl1⟩ := HM.out.1.shape g cur0 _ hg0
   obtain ⟨⟨ua, hx0⟩, hf0⟩ := cell_here (o := x.toNat * 4) hg1 (by omega)
   have M1 := Aside0.mk (HM.out.1.set (g := g) hB (HS.out g rfl) (x.toNat * 4) (.int .i64 y))
   have H1 := Aside0.mk (head_set hg1 (o := x.toNat * 4) (u := .int .i64 y) (HM.out.2 g rfl) (by omega))
   have HX := Aside0.mk (show x.toNat = i by omega)
   have HI2 := Aside0.mk (show (n - (i + 1)) + (i + 1) = n ∧ wrap64 (x + 1) = ((i + 1 : Nat) : Int) ∧ wrap64 (wrap64 (upI m (wrap64 (y + 1)) + 1) + 1) = mkT l a (i + 1) from ⟨by omega, by unfold maxLen at hn; unfold wrap64; omega, by rw [hm, h3]; rfl⟩)
   clear h1 h2 h3 hn hXi hX hv1 hrow hown hB hg0 hsz hg1 hl1 HI HM hc hgl hlt hm
   subst hk
   clear hd
   go_wp2_with (first | ((with_reducible refine gate_store (t := 3) (p := 16) rfl ?_); refine store_event (t := 3) (p := 16) (v := ?vo_w8) (w1 := (wr.setCell ⟨g, x.toNat * 4, none⟩ (.int .i64 y))) ?hg ?ho ?hn ?hr ?_; (case ho => rfl); (case hg => rfl); (case hn => rfl); (case hr => (first | (go_simp; done) | (go_simp; rfl))); intro w1 hw; rw [← hw] at M1 H1; clear hw hx0 hf0; have hv1 : w1.cell? ⟨g, x.toNat * 4 + 1, none⟩ = some v1 := (by rw [H1.out (x.toNat), HX.out]; exact Hv1.out); have HC := Aside0.mk (markIntS_row B v1 m (wrap64 (y + 1)) w1 (Hrow.out.mv M1.out.shape))) | (go_at_call 18; refine HC.out.mono ?_; rintro e w2 ⟨rfl, hm⟩; have M2 := Aside0.mk (M1.out.trans hm (fun k hk => (Hown.out k hk.symm).1)); have H2 := Aside0.mk (show ∀ j : Nat, w2.cell? ⟨g, j * 4 + 1, none⟩ = w.cell? ⟨g, j * 4 + 1, none⟩ from fun j => (head_kept M1.out.shape HG.out hm.kept (fun he => (Hown.out g he.symm).2 rfl) _).trans (H1.out j)); clear hm HC M1 H1 hv1; obtain ⟨cur2, hg2, hl2⟩ := M2.out.shape g cur0 _ HG.out; obtain ⟨⟨u2, hx2⟩, hf2⟩ := cell_here (o := x.toNat * 4 + 2) hg2 (by have h5 := HX.out; have h6 := HSZ.out; omega); have M3 := Aside0.mk (M2.out.set (g := g) HB.out HSg.out (x.toNat * 4 + 2) (.int .i64 (upI m (wrap64 (y + 1))))); have H3 := Aside0.mk (head_set hg2 (o := x.toNat * 4 + 2) (u := .int .i64 (upI m (wrap64 (y + 1)))) H2.out (by omega)); clear M2 H2 hg2 hl2; obtain ⟨cur3, hg3, hl3⟩ := M3.out.shape g cur0 _ HG.out; obtain ⟨⟨u3, hx3⟩, hf3⟩ := cell_here (o := x.toNat * 4 + 3) hg3 (by have h5 := HX.out; have h6 := HSZ.out; omega); have M4 := Aside0.mk (M3.out.set (g := g) HB.out HSg.out (x.toNat * 4 + 3) (.int .i64 (wrap64 (upI m (wrap64 (y + 1)) + 1)))); have H4 := Aside0.mk (head_set hg3 (o := x.toNat * 4 + 3) (u := .int .i64 (wrap64 (upI m (wrap64 (y + 1)) + 1))) H3.out (by omega)); clear M3 H3 hg3 hl3))
   go_roundg (n - (i + 1))
   case measure => omega
   case rel => exact ⟨i + 1, _, _, rfl, rfl, HI2, ⟨M4.out, fun g' hg' => by cases hg'; exact H4.out⟩⟩
  ·have hd : decide (x < (n : Int)) = false := decide_eq_false (by omega)
   have hi : i = n := by omega
   subst hi
   rw [h3]
   clear h1 h2 h3 hlt hn
   go_wp2
   go_ret
   exact ⟨by rw [HNL.out]; rfl, HM.out.1⟩
theorem irow_of_R {w : World} {B : Nat} {ok : Nat → Prop} {e : TypeId} {v : Value} {xs : List Int} (h : Kd.R (Kd.int .i64) e w B ok v xs) : IRow w B v xs.length := by
 obtain ⟨h0, inner, hq, hr⟩ := Kd.Q_of_R h
 have hmax := q_max hq
 rcases hq.2 with ⟨h1, A, hv, hA⟩ | ⟨g1, off, cap1, cur, hv, hb, hg, hnc, hcm, hcs, _⟩
 ·exact ⟨A, 0, by rw [hv, h1], hmax, .inl h1⟩
 ·refine ⟨_, cap1, hv, hmax, .inr ⟨g1, off, cur, _, by rw [show off * (Kd.int .i64).sz = off from Nat.mul_one off], hb, hg, ?_⟩⟩
  rw [show (off + cap1) * (Kd.int .i64).sz = off + cap1 from Nat.mul_one _] at hcs
  rw [hcs]
  exact Nat.add_le_add_left hnc off
theorem markIntS_in (lo hi : Nat) (v : Value) (xs : List Int) (a : Int) (w : World) {e : TypeId} (h : Kd.R (Kd.int .i64) e w lo (fun k => k < hi) v xs) :
  Calls Tryd.prog 18 #[v, .int .i64 a] w fun e w' => e = .returned (.int .i64 (upI xs.length a)) ∧ Marks' lo (fun k => lo ≤ k ∧ k < hi) w w' :=
 (markIntS_row lo v xs.length a w (irow_of_R h)).mono fun e w' hh => ⟨hh.1, hh.2.mono fun k hk => ⟨((Kd.R_bound h).1 k hk.symm).2.1, h.1 k hk.symm⟩⟩
theorem markTaskS_in (lo hi : Nat) (v : Value) (l : List S39) (a : Int) (w : World) (h : Kd.R k39 39 w lo (fun k => k < hi) v l) :
  Calls Tryd.prog 17 #[v, .int .i64 a] w fun e w' => e = .returned (.int .i64 (mkT l a l.length)) ∧ Marks' lo (fun k => lo ≤ k ∧ k < hi) w w' :=
 markTaskS_row lo _ v l a w (Kd.R_mono (Kd.R_bound h) (fun k hk => ⟨hk.2.1, hk.1⟩))
end Go.Proofs.YtimbfcedigaffaaDoor.Core
end
section
set_option linter.unusedVariables false
namespace Go.Proofs.YtimbfcedigaffaaDoor.Core
open Go Go.RowKit Go.Proofs.YtimbfcedigaffaaDoorW.PrintWords Go.Proofs.YtimbfcedigaffaaDoorW.PrintLast Go.Proofs.YtimbfcedigaffaaDoorW.PrintMore Go.Proofs.YtimbfcedigaffaaDoor.P
theorem heldIntS_n {k : Nat} {A : Option Addr} {c n : Nat} {l : List Int} {a r : Int} {w : World} (hn : n = l.length ∧ n ≤ c ∧ (Kd.int .i64).C w A l.length l) (h : laws_heldIntS.f k l a = some r) :
  Calls Tryd.prog 19 #[.slice A n c, .int .i64 a] w fun e w' => e = .returned (.int .i64 r) ∧ Drawn0 w w' := by
 obtain ⟨rfl, hc, hC⟩ := hn
 exact laws_heldIntS.calls k A c l a r w hC hc h
end Go.Proofs.YtimbfcedigaffaaDoor.Core
end
section
set_option linter.unusedVariables false
set_option linter.unusedSimpArgs false
namespace Go.Proofs.YtimbfcedigaffaaDoor.Core
open Go Go.RowKit Go.Proofs.YtimbfcedigaffaaDoorW.PrintWords Go.Proofs.YtimbfcedigaffaaDoorW.PrintMore Go.Proofs.YtimbfcedigaffaaDoor.P
theorem fold_mem (f : List Int → Nat) : ∀ (os : List (List Int)) (b c : List Int × Nat), os.foldl (bstep f) (some b) = some c → c.1 = b.1 ∨ c.1 ∈ os
 | [], b, c, h => .inl (by rw [show b = c from Option.some.inj h])
 | o :: os, b, c, h => by
  rw [List.foldl_cons] at h
  have hb : bstep f (some b) o = if f o < b.2 then some (o, f o) else some b := rfl
  rw [hb] at h
  by_cases hlt : f o < b.2
  ·rw [if_pos hlt] at h
   rcases fold_mem f os _ c h with h1 | h1
   ·exact .inr (by rw [h1]; exact List.mem_cons_self)
   ·exact .inr (List.mem_cons_of_mem _ h1)
  ·rw [if_neg hlt] at h
   rcases fold_mem f os b c h with h1 | h1
   ·exact .inl h1
   ·exact .inr (List.mem_cons_of_mem _ h1)
theorem bestOD_len (g : List Tk) (room : List Int) (wk : Int) : (bestOD g room wk).length ≤ 8 := by
 unfold bestOD bestD
 cases hfew : fewD g room wk with
 | none => exact Nat.zero_le _
 | some G =>
  obtain ⟨h5, hp⟩ := fewD_some hfew
  have hnl := (vg_of (placeD_some hp).1).nl
  simp only []
  have hall : ∀ o ∈ ordersL G.needs (g.length + 1) [] 0, o.length ≤ 8 := fun o ho => by
   obtain ⟨r, -, -, h2⟩ := ordersL_ok (g.length + 1) [] 0 o ho
   omega
  generalize ordersL G.needs (g.length + 1) [] 0 = OS at hall
  cases OS with
  | nil => exact Nat.zero_le _
  | cons o os =>
   obtain ⟨c, hc⟩ := bstep_some (ordEnd g G.needs room wk) (o, ordEnd g G.needs room wk o) os
   have e : (o :: os).foldl (bstep (ordEnd g G.needs room wk)) none = some c := hc
   rw [e]
   show c.1.length ≤ 8
   rcases fold_mem _ os _ c hc with h1 | h1
   ·rw [h1]; exact hall o List.mem_cons_self
   ·exact hall _ (List.mem_cons_of_mem _ h1)
theorem ev_BestOrder {g : List Tk} (hg : Fits g) {room : List Int} {wk : Int} (hr : room.length < big) (_ : (Lit.int .i64 wk).wf = true) : Ev (fun k => spec_BestOrder.f k g room wk) (bestOD g room wk) := (ev_BestOrder' hg hr).1
end Go.Proofs.YtimbfcedigaffaaDoor.Core
end
section
set_option linter.unusedVariables false
set_option linter.unusedSimpArgs false
namespace Go.Proofs.YtimbfcedigaffaaDoor.P
open Go Go.RowKit Go.Shelf Go.Proofs.YtimbfcedigaffaaDoorW.PrintWords Go.Proofs.YtimbfcedigaffaaDoorW.PrintLast Go.Proofs.YtimbfcedigaffaaDoorW.PrintMore Go.Proofs.YtimbfcedigaffaaDoor.Core
attribute [local go_sem] Oper.semAt_some wide_fn wide_depth
def impl_BestOrder.f (l0 : List S39) (l1 : List Int) (a2 : Int) : Option (List Int) := some (bestOD l0 l1 a2)
set_option maxRecDepth 100000 in
set_option maxHeartbeats 2000000 in
theorem impl_BestOrder.calls (A0 : Option Addr) (c0 : Nat) (l0 : List S39) (A1 : Option Addr) (c1 : Nat) (l1 : List Int) (a2 : Int) (r : List Int) (w : World) (hr0 : Kd.C k39 w A0 l0.length l0) (hc0 : l0.length ≤ c0) (hr1 : Kd.C (Kd.int .i64) w A1 l1.length l1) (hc1 : l1.length ≤ c1) (hT : Tab w) (h : impl_BestOrder.f l0 l1 a2 = some r) :
  Calls Tryd.prog 16 #[.slice A0 l0.length c0, .slice A1 l1.length c1, .int .i64 a2] w fun e w' => ∃ v0_ : Value, e = .returned v0_ ∧ Kd.R (Kd.int .i64) 3 w' w.heap.size (fun _ => True) v0_ r ∧ Below w.heap.size w w' := by
 have hr : bestOD l0 l1 a2 = r := Option.some.inj h
 clear h
 cases hb : bestD l0 l1 a2 with
 | none =>
  obtain rfl : [] = r := by unfold bestOD at hr; rw [hb] at hr; exact hr
  have hfew : fewD l0 l1 a2 = none := best_none hb
  have HP := Aside0.mk (bestIn_none A0 c0 l0 A1 c1 l1 a2 w hT hr0 hc0 hr1 hc1 hfew)
  clear hr hb hfew hr0 hr1 hT
  go_enter Tryd.func16, Tryd.ntmps16
  go_wp2_with (go_at_call 30; refine HP.out.mono ?_; rintro e w1 ⟨rfl, hB⟩; have HB := Aside0.mk hB; clear hB)
  go_ret
  exact ⟨_, rfl, Kd.R_nil _ _ _ _ _, HB.out⟩
 | some b =>
  obtain rfl : b.1 = r := by unfold bestOD at hr; rw [hb] at hr; exact hr
  have HP := Aside0.mk (bestIn_some A0 c0 l0 A1 c1 l1 a2 b w hT hr0 hc0 hr1 hc1 hb)
  clear hr hb hr0 hr1 hT
  go_enter Tryd.func16, Tryd.ntmps16
  go_wp2_with (go_at_call 30; refine HP.out.mono ?_; rintro e w1 ⟨v, rfl, hR, hB⟩; have HB := Aside0.mk hB; have HR := Aside0.mk hR; clear hB hR)
  go_ret
  exact ⟨_, rfl, HR.out, HB.out⟩
end Go.Proofs.YtimbfcedigaffaaDoor.P
end
section
set_option linter.unusedVariables false
set_option linter.unusedSimpArgs false
namespace Go.Proofs.YtimbfcedigaffaaDoor.P
open Go Go.RowKit Go.Shelf Go.Proofs.YtimbfcedigaffaaDoorW.PrintWords Go.Proofs.YtimbfcedigaffaaDoorW.PrintLast Go.Proofs.YtimbfcedigaffaaDoorW.PrintMore Go.Proofs.YtimbfcedigaffaaDoor.Core
/-- What the walk takes: the functions' results. -/
structure laws_FnExactBestOrder.Facts (k : Nat) (l0 : List S44) (l1 : List Int) (a2 : Int) : Prop where
 out : ∃ (y0 : List S39) (y1 : List Int) (R R' : List Int) (M : Int), laws_toTaskS.f k l0 = some y0 ∧ laws_toIntS.f k l1 = some y1 ∧ spec_BestOrder.f k y0 y1 a2 = some R ∧ impl_BestOrder.f y0 y1 a2 = some R ∧ laws_eqIntS.f k R R = some true ∧ laws_eqTaskS.f k y0 y0 = some true ∧ laws_eqIntS.f k y1 y1 = some true ∧ laws_markIntS.f k R 1 = some (M, R') ∧ laws_heldIntS.f k R' 1 = some M ∧ 0 ≤ M ∧ 0 ≤ upI y1.length (mkT y0 (1) y0.length)
open Classical in
noncomputable def laws_FnExactBestOrder.f (k : Nat) (l0 : List S44) (l1 : List Int) (a2 : Int) : Option Bool := if (l1.length : Int) > 1048576 then some true else ((laws_szTaskS.f k l0 1048576).bind fun left => if left < 0 then some true else (if laws_FnExactBestOrder.Facts k l0 l1 a2 then some true else none))
set_option maxRecDepth 100000 in
set_option maxHeartbeats 16000000 in
theorem laws_FnExactBestOrder.calls (k : Nat) (A0 : Option Addr) (c0 : Nat) (l0 : List S44) (A1 : Option Addr) (c1 : Nat) (l1 : List Int) (a2 : Int) (r : Bool) (w : World) (hr0 : Kd.C k44 w A0 l0.length l0) (hc0 : l0.length ≤ c0) (hr1 : Kd.C (Kd.int .i64) w A1 l1.length l1) (hc1 : l1.length ≤ c1) (hT : Tab w) (h : laws_FnExactBestOrder.f k l0 l1 a2 = some r) :
  Calls Tryd.prog 4 #[.slice A0 l0.length c0, .slice A1 l1.length c1, .int .i64 a2] w fun e w' => e = .returned (.bool r) ∧ Below w.heap.size w w' := by
 have HR0 := Aside0.mk hr0
 have HC0 := Aside0.mk hc0
 have HR1 := Aside0.mk hr1
 have HC1 := Aside0.mk hc1
 have HT := Aside0.mk hT
 have HB := Aside0.mk (Below.refl w.heap.size w)
 clear hT hr0 hc0 hr1 hc1
 unfold laws_FnExactBestOrder.f at h
 by_cases b1 : (l1.length : Int) > 1048576
 ·rw [if_pos b1] at h
  obtain rfl := Option.some.inj h
  have d1 : decide (1048576 < (l1.length : Int)) = true := decide_eq_true b1
  have d2 : decide (1048576 < l1.length) = true := decide_eq_true (by omega)
  clear h b1
  go_enter Tryd.func4, Tryd.ntmps4
  go_wp2
  go_ret
  exact ⟨rfl, HB.out⟩
 rw [if_neg b1] at h
 have d1_1 : decide (1048576 < (l1.length : Int)) = false := decide_eq_false b1
 have d1_2 : decide (1048576 < l1.length) = false := decide_eq_false (by omega)
 clear b1
 obtain ⟨left, hl, h⟩ := Option.bind_eq_some_iff.mp h
 have FZ := Aside0.mk hl
 clear hl
 by_cases bl : left < 0
 ·rw [if_pos bl] at h
  obtain rfl := Option.some.inj h
  have d1 : decide (left < 0) = true := decide_eq_true bl
  clear h bl
  go_enter Tryd.func4, Tryd.ntmps4
  have g1 := Aside0.mk trivial
  go_wp2_with (go_at_call 8; clear g1; refine (laws_szTaskS.calls (hr0 := HR0.out) (hc0 := HC0.out) (h := FZ.out)).mono ?_; rintro e w1 ⟨rfl, hb⟩; replace HB := Aside0.mk hb; clear hb)
  go_ret
  exact ⟨rfl, HB.out⟩
 rw [if_neg bl] at h
 have dl : decide (left < 0) = false := decide_eq_false bl
 clear bl
 have hF := Core.of_if_some h
 obtain rfl := hF.2
 have hF := hF.1
 clear h
 obtain ⟨y0, y1, R, R', M, f0, f1, fs, fi, er, e0, e1, fm, fh, hM, fk⟩ := hF.out
 have F0 := Aside0.mk f0
 have F1 := Aside0.mk f1
 have FS := Aside0.mk fs
 have FI := Aside0.mk fi
 have ER := Aside0.mk er
 have E0 := Aside0.mk e0
 have E1 := Aside0.mk e1
 have FM := Aside0.mk fm
 have FH := Aside0.mk fh
 have FK := Aside0.mk fk
 have dM : decide (M < 0) = false := decide_eq_false (Int.not_lt.2 hM)
 clear hF f0 f1 fs fi er e0 e1 fm fh hM fk
 go_enter Tryd.func4, Tryd.ntmps4
 have g2 := Aside0.mk trivial
 go_wp2_with (go_at_call 8; clear g2; refine (laws_szTaskS.calls (hr0 := HR0.out) (hc0 := HC0.out) (h := FZ.out)).mono ?_; rintro e w1 ⟨rfl, hb⟩; have z1 := Aside0.mk (hb).size; replace HB := Aside0.mk (below_step HB.out hb); clear hb)
 have g3 := Aside0.mk trivial
 go_wp2_with (go_at_call 10; clear g3; refine (laws_toTaskS.calls (hr0 := Kd.C_below HR0.out HB.out) (hc0 := HC0.out) (h := F0.out)).mono ?_; rintro e w2 ⟨v_w0_aG, rfl, ho, hb⟩; have z2 := Aside0.mk (hb).size; replace HB := Aside0.mk (below_step HB.out hb); have H_w0_aG := Aside0.mk (Kd.R_mono (Kd.R_bound (Kd.S_R ho)) (fun k_ hk_ => hk_.2.2.1) : Kd.R k39 39 w2 w1.heap.size (fun k_ => k_ < w2.heap.size) v_w0_aG _); obtain ⟨A_w0_aG, c_w0_aG, e_w0_aG⟩ := Kd.R_slice H_w0_aG.out; subst e_w0_aG; clear ho hb)
 have g4 := Aside0.mk trivial
 go_wp2_with (go_at_call 11; clear g4; refine (laws_toIntS.calls (hr0 := Kd.C_below HR1.out HB.out) (hc0 := HC1.out) (h := F1.out)).mono ?_; rintro e w3 ⟨v_w0_aRoom, rfl, ho, hb⟩; have z3 := Aside0.mk (hb).size; replace HB := Aside0.mk (below_step HB.out hb); replace H_w0_aG := Aside0.mk (Kd.R_below H_w0_aG.out hb); have H_w0_aRoom := Aside0.mk (Kd.R_mono (Kd.R_bound ho) (fun k_ hk_ => hk_.2.2.1) : Kd.R (Kd.int .i64) 3 w3 w2.heap.size (fun k_ => k_ < w3.heap.size) v_w0_aRoom _); obtain ⟨A_w0_aRoom, c_w0_aRoom, e_w0_aRoom⟩ := Kd.R_slice H_w0_aRoom.out; subst e_w0_aRoom; clear ho hb)
 have g5 := Aside0.mk trivial
 go_wp2_with (go_at_call 15; clear g5; refine (spec_BestOrder.calls (hr0 := (Kd.R_reads' H_w0_aG.out).2.2) (hc0 := (Kd.R_reads' H_w0_aG.out).2.1) (hr1 := (Kd.R_reads' H_w0_aRoom.out).2.2) (hc1 := (Kd.R_reads' H_w0_aRoom.out).2.1) (h := FS.out)).mono ?_; rintro e w4 ⟨v_w0, rfl, ho, hb⟩; have z4 := Aside0.mk (hb).size; replace HB := Aside0.mk (below_step HB.out hb); replace H_w0_aG := Aside0.mk (Kd.R_below H_w0_aG.out hb); replace H_w0_aRoom := Aside0.mk (Kd.R_below H_w0_aRoom.out hb); have H_w0 := Aside0.mk (Kd.R_mono (Kd.R_bound ho) (fun k_ hk_ => hk_.2.2.1) : Kd.R (Kd.int .i64) 3 w4 w3.heap.size (fun k_ => k_ < w4.heap.size) v_w0 _); obtain ⟨A_w0, c_w0, e_w0⟩ := Kd.R_slice H_w0.out; subst e_w0; clear ho hb)
 clear H_w0_aG
 clear H_w0_aRoom
 have g6 := Aside0.mk trivial
 go_wp2_with (go_at_call 10; clear g6; refine (laws_toTaskS.calls (hr0 := Kd.C_below HR0.out HB.out) (hc0 := HC0.out) (h := F0.out)).mono ?_; rintro e w5 ⟨v_x0, rfl, ho, hb⟩; have z5 := Aside0.mk (hb).size; replace HB := Aside0.mk (below_step HB.out hb); replace H_w0 := Aside0.mk (Kd.R_below H_w0.out hb); have H_x0 := Aside0.mk (Kd.R_mono (Kd.R_bound (Kd.S_R ho)) (fun k_ hk_ => hk_.2.2.1) : Kd.R k39 39 w5 w4.heap.size (fun k_ => k_ < w5.heap.size) v_x0 _); obtain ⟨A_x0, c_x0, e_x0⟩ := Kd.R_slice H_x0.out; subst e_x0; clear ho hb)
 have g7 := Aside0.mk trivial
 go_wp2_with (go_at_call 11; clear g7; refine (laws_toIntS.calls (hr0 := Kd.C_below HR1.out HB.out) (hc0 := HC1.out) (h := F1.out)).mono ?_; rintro e w6 ⟨v_x1, rfl, ho, hb⟩; have z6 := Aside0.mk (hb).size; replace HB := Aside0.mk (below_step HB.out hb); replace H_w0 := Aside0.mk (Kd.R_below H_w0.out hb); replace H_x0 := Aside0.mk (Kd.R_below H_x0.out hb); have H_x1 := Aside0.mk (Kd.R_mono (Kd.R_bound ho) (fun k_ hk_ => hk_.2.2.1) : Kd.R (Kd.int .i64) 3 w6 w5.heap.size (fun k_ => k_ < w6.heap.size) v_x1 _); obtain ⟨A_x1, c_x1, e_x1⟩ := Kd.R_slice H_x1.out; subst e_x1; clear ho hb)
 have g8 := Aside0.mk trivial
 go_wp2_with (go_at_call 16; clear g8; refine (impl_BestOrder.calls (hr0 := (Kd.R_reads' H_x0.out).2.2) (hc0 := (Kd.R_reads' H_x0.out).2.1) (hr1 := (Kd.R_reads' H_x1.out).2.2) (hc1 := (Kd.R_reads' H_x1.out).2.1) (hT := Tab.of HT.out HB.out) (h := FI.out)).mono ?_; rintro e w7 ⟨v_g0, rfl, ho, hb⟩; have z7 := Aside0.mk (hb).size; replace HB := Aside0.mk (below_step HB.out hb); replace H_w0 := Aside0.mk (Kd.R_below H_w0.out hb); replace H_x0 := Aside0.mk (Kd.R_below H_x0.out hb); replace H_x1 := Aside0.mk (Kd.R_below H_x1.out hb); have H_g0 := Aside0.mk (Kd.R_mono (Kd.R_bound ho) (fun k_ hk_ => hk_.2.2.1) : Kd.R (Kd.int .i64) 3 w7 w6.heap.size (fun k_ => k_ < w7.heap.size) v_g0 _); obtain ⟨A_g0, c_g0, e_g0⟩ := Kd.R_slice H_g0.out; subst e_g0; clear ho hb)
 have g9 := Aside0.mk trivial
 go_wp2_with (go_at_call 14; clear g9; refine (laws_eqIntS.calls (hr0 := (Kd.R_reads' H_g0.out).2.2) (hc0 := (Kd.R_reads' H_g0.out).2.1) (hr1 := (Kd.R_reads' H_w0.out).2.2) (hc1 := (Kd.R_reads' H_w0.out).2.1) (h := ER.out)).mono ?_; rintro e w8 ⟨rfl, hd⟩; have hb := drawn0_below hd; have z8 := Aside0.mk (hb).size; replace HB := Aside0.mk (below_step HB.out hb); replace H_w0 := Aside0.mk (Kd.R_below H_w0.out hb); replace H_x0 := Aside0.mk (Kd.R_below H_x0.out hb); replace H_x1 := Aside0.mk (Kd.R_below H_x1.out hb); replace H_g0 := Aside0.mk (Kd.R_below H_g0.out hb); clear hd hb)
 have g10 := Aside0.mk trivial
 go_wp2_with (go_at_call 10; clear g10; refine (laws_toTaskS.calls (hr0 := Kd.C_below HR0.out HB.out) (hc0 := HC0.out) (h := F0.out)).mono ?_; rintro e w9 ⟨v_t_aG, rfl, ho, hb⟩; have z9 := Aside0.mk (hb).size; replace HB := Aside0.mk (below_step HB.out hb); replace H_w0 := Aside0.mk (Kd.R_below H_w0.out hb); replace H_x0 := Aside0.mk (Kd.R_below H_x0.out hb); replace H_x1 := Aside0.mk (Kd.R_below H_x1.out hb); replace H_g0 := Aside0.mk (Kd.R_below H_g0.out hb); have H_t_aG := Aside0.mk (Kd.R_mono (Kd.R_bound (Kd.S_R ho)) (fun k_ hk_ => hk_.2.2.1) : Kd.R k39 39 w9 w8.heap.size (fun k_ => k_ < w9.heap.size) v_t_aG _); obtain ⟨A_t_aG, c_t_aG, e_t_aG⟩ := Kd.R_slice H_t_aG.out; subst e_t_aG; clear ho hb)
 have g11 := Aside0.mk trivial
 go_wp2_with (go_at_call 13; clear g11; refine (laws_eqTaskS.calls (hr0 := (Kd.R_reads' H_x0.out).2.2) (hc0 := (Kd.R_reads' H_x0.out).2.1) (hr1 := (Kd.R_reads' H_t_aG.out).2.2) (hc1 := (Kd.R_reads' H_t_aG.out).2.1) (h := E0.out)).mono ?_; rintro e w10 ⟨rfl, hd⟩; have hb := hd; have z10 := Aside0.mk (hb).size; replace HB := Aside0.mk (below_step HB.out hb); replace H_w0 := Aside0.mk (Kd.R_below H_w0.out hb); replace H_x0 := Aside0.mk (Kd.R_below H_x0.out hb); replace H_x1 := Aside0.mk (Kd.R_below H_x1.out hb); replace H_g0 := Aside0.mk (Kd.R_below H_g0.out hb); replace H_t_aG := Aside0.mk (Kd.R_below H_t_aG.out hb); clear hd hb)
 clear H_t_aG
 have g12 := Aside0.mk trivial
 go_wp2_with (go_at_call 11; clear g12; refine (laws_toIntS.calls (hr0 := Kd.C_below HR1.out HB.out) (hc0 := HC1.out) (h := F1.out)).mono ?_; rintro e w11 ⟨v_t_aRoom, rfl, ho, hb⟩; have z11 := Aside0.mk (hb).size; replace HB := Aside0.mk (below_step HB.out hb); replace H_w0 := Aside0.mk (Kd.R_below H_w0.out hb); replace H_x0 := Aside0.mk (Kd.R_below H_x0.out hb); replace H_x1 := Aside0.mk (Kd.R_below H_x1.out hb); replace H_g0 := Aside0.mk (Kd.R_below H_g0.out hb); have H_t_aRoom := Aside0.mk (Kd.R_mono (Kd.R_bound ho) (fun k_ hk_ => hk_.2.2.1) : Kd.R (Kd.int .i64) 3 w11 w10.heap.size (fun k_ => k_ < w11.heap.size) v_t_aRoom _); obtain ⟨A_t_aRoom, c_t_aRoom, e_t_aRoom⟩ := Kd.R_slice H_t_aRoom.out; subst e_t_aRoom; clear ho hb)
 have g13 := Aside0.mk trivial
 go_wp2_with (go_at_call 14; clear g13; refine (laws_eqIntS.calls (hr0 := (Kd.R_reads' H_x1.out).2.2) (hc0 := (Kd.R_reads' H_x1.out).2.1) (hr1 := (Kd.R_reads' H_t_aRoom.out).2.2) (hc1 := (Kd.R_reads' H_t_aRoom.out).2.1) (h := E1.out)).mono ?_; rintro e w12 ⟨rfl, hd⟩; have hb := drawn0_below hd; have z12 := Aside0.mk (hb).size; replace HB := Aside0.mk (below_step HB.out hb); replace H_w0 := Aside0.mk (Kd.R_below H_w0.out hb); replace H_x0 := Aside0.mk (Kd.R_below H_x0.out hb); replace H_x1 := Aside0.mk (Kd.R_below H_x1.out hb); replace H_g0 := Aside0.mk (Kd.R_below H_g0.out hb); replace H_t_aRoom := Aside0.mk (Kd.R_below H_t_aRoom.out hb); clear hd hb)
 clear H_t_aRoom
 obtain ⟨K13, hK13⟩ : ∃ x_, x_ = mkT y0 (1) y0.length := ⟨_, rfl⟩
 have HK13 := Aside0.mk hK13
 clear hK13
 have g14 := Aside0.mk trivial
 go_wp2_with (go_at_call 17; clear g14; refine (markTaskS_in w4.heap.size w5.heap.size _ y0 (1) _ H_x0.out).mono ?_; rintro e w13 ⟨he, hm⟩; rw [← HK13.out] at he; subst he; have z13 := Aside0.mk (hm).below.size; have hlo : w.heap.size ≤ w4.heap.size := (by have q1 := z1.out; have q2 := z2.out; have q3 := z3.out; have q4 := z4.out; have q5 := z5.out; have q6 := z6.out; have q7 := z7.out; have q8 := z8.out; have q9 := z9.out; have q10 := z10.out; have q11 := z11.out; have q12 := z12.out; omega); replace HB := Aside0.mk (HB.out.trans ((hm).below.mono hlo)); clear hlo; replace H_w0 := Aside0.mk (Kd.R_kept (Kd.R_bound H_w0.out) (hm).kept (fun k_ hk_ hs_ => by have q1 := z1.out; have q2 := z2.out; have q3 := z3.out; have q4 := z4.out; have q5 := z5.out; have q6 := z6.out; have q7 := z7.out; have q8 := z8.out; have q9 := z9.out; have q10 := z10.out; have q11 := z11.out; have q12 := z12.out; have e1_ := hk_.1; have e2_ := hk_.2.1; have e3_ := hs_.1; have e4_ := hs_.2; omega)); replace H_w0 := Aside0.mk (Kd.R_mono H_w0.out (fun k_ hk_ => hk_.1)); replace H_x1 := Aside0.mk (Kd.R_kept (Kd.R_bound H_x1.out) (hm).kept (fun k_ hk_ hs_ => by have q1 := z1.out; have q2 := z2.out; have q3 := z3.out; have q4 := z4.out; have q5 := z5.out; have q6 := z6.out; have q7 := z7.out; have q8 := z8.out; have q9 := z9.out; have q10 := z10.out; have q11 := z11.out; have q12 := z12.out; have e1_ := hk_.1; have e2_ := hk_.2.1; have e3_ := hs_.1; have e4_ := hs_.2; omega)); replace H_x1 := Aside0.mk (Kd.R_mono H_x1.out (fun k_ hk_ => hk_.1)); replace H_g0 := Aside0.mk (Kd.R_kept (Kd.R_bound H_g0.out) (hm).kept (fun k_ hk_ hs_ => by have q1 := z1.out; have q2 := z2.out; have q3 := z3.out; have q4 := z4.out; have q5 := z5.out; have q6 := z6.out; have q7 := z7.out; have q8 := z8.out; have q9 := z9.out; have q10 := z10.out; have q11 := z11.out; have q12 := z12.out; have e1_ := hk_.1; have e2_ := hk_.2.1; have e3_ := hs_.1; have e4_ := hs_.2; omega)); replace H_g0 := Aside0.mk (Kd.R_mono H_g0.out (fun k_ hk_ => hk_.1)); clear hm H_x0)
 obtain ⟨K14, hK14⟩ : ∃ x_, x_ = upI y1.length (K13) := ⟨_, rfl⟩
 have dK : decide (K14 < 0) = false := decide_eq_false (by have h1 := FK.out; rw [← HK13.out, ← hK14] at h1; omega)
 have HK14 := Aside0.mk hK14
 clear hK14
 have g15 := Aside0.mk trivial
 go_wp2_with (go_at_call 18; clear g15; refine (markIntS_in w5.heap.size w6.heap.size _ y1 (K13) _ H_x1.out).mono ?_; rintro e w14 ⟨he, hm⟩; rw [← HK14.out] at he; subst he; have z14 := Aside0.mk (hm).below.size; have hlo : w.heap.size ≤ w5.heap.size := (by have q1 := z1.out; have q2 := z2.out; have q3 := z3.out; have q4 := z4.out; have q5 := z5.out; have q6 := z6.out; have q7 := z7.out; have q8 := z8.out; have q9 := z9.out; have q10 := z10.out; have q11 := z11.out; have q12 := z12.out; have q13 := z13.out; omega); replace HB := Aside0.mk (HB.out.trans ((hm).below.mono hlo)); clear hlo; replace H_w0 := Aside0.mk (Kd.R_kept (Kd.R_bound H_w0.out) (hm).kept (fun k_ hk_ hs_ => by have q1 := z1.out; have q2 := z2.out; have q3 := z3.out; have q4 := z4.out; have q5 := z5.out; have q6 := z6.out; have q7 := z7.out; have q8 := z8.out; have q9 := z9.out; have q10 := z10.out; have q11 := z11.out; have q12 := z12.out; have q13 := z13.out; have e1_ := hk_.1; have e2_ := hk_.2.1; have e3_ := hs_.1; have e4_ := hs_.2; omega)); replace H_w0 := Aside0.mk (Kd.R_mono H_w0.out (fun k_ hk_ => hk_.1)); replace H_g0 := Aside0.mk (Kd.R_kept (Kd.R_bound H_g0.out) (hm).kept (fun k_ hk_ hs_ => by have q1 := z1.out; have q2 := z2.out; have q3 := z3.out; have q4 := z4.out; have q5 := z5.out; have q6 := z6.out; have q7 := z7.out; have q8 := z8.out; have q9 := z9.out; have q10 := z10.out; have q11 := z11.out; have q12 := z12.out; have q13 := z13.out; have e1_ := hk_.1; have e2_ := hk_.2.1; have e3_ := hs_.1; have e4_ := hs_.2; omega)); replace H_g0 := Aside0.mk (Kd.R_mono H_g0.out (fun k_ hk_ => hk_.1)); clear hm H_x1)
 have g16 := Aside0.mk trivial
 go_wp2_with (go_at_call 14; clear g16; refine (laws_eqIntS.calls (hr0 := (Kd.R_reads' H_g0.out).2.2) (hc0 := (Kd.R_reads' H_g0.out).2.1) (hr1 := (Kd.R_reads' H_w0.out).2.2) (hc1 := (Kd.R_reads' H_w0.out).2.1) (h := ER.out)).mono ?_; rintro e w15 ⟨rfl, hd⟩; have hb := drawn0_below hd; have z15 := Aside0.mk (hb).size; replace HB := Aside0.mk (below_step HB.out hb); replace H_w0 := Aside0.mk (Kd.R_below H_w0.out hb); replace H_g0 := Aside0.mk (Kd.R_below H_g0.out hb); clear hd hb)
 have HL := Aside0.mk (show w.heap.size ≤ w6.heap.size from (by have q1 := z1.out; have q2 := z2.out; have q3 := z3.out; have q4 := z4.out; have q5 := z5.out; have q6 := z6.out; have q7 := z7.out; have q8 := z8.out; have q9 := z9.out; have q10 := z10.out; have q11 := z11.out; have q12 := z12.out; have q13 := z13.out; have q14 := z14.out; have q15 := z15.out; omega))
 have g17 := Aside0.mk trivial
 go_wp2_with (go_at_call 18; clear g17; refine (laws_markIntS.calls (w0 := w) (P0_ := fun k_ => w6.heap.size ≤ k_ ∧ k_ < w7.heap.size) (hB := HB.out) (ho0 := Kd.R_lower (Kd.R_mono (Kd.R_bound H_g0.out) (fun k_ hk_ => ⟨hk_.2.1, hk_.1⟩)) HL.out) (h := FM.out)).mono ?_; rintro e w16 ⟨rfl, ho, hb, hkp⟩; have z16 := Aside0.mk hkp.1; replace HB := Aside0.mk hb; replace H_w0 := Aside0.mk (Kd.R_kept (Kd.R_bound H_w0.out) hkp (fun k_ hk_ hs_ => by have q1 := z1.out; have q2 := z2.out; have q3 := z3.out; have q4 := z4.out; have q5 := z5.out; have q6 := z6.out; have q7 := z7.out; have q8 := z8.out; have q9 := z9.out; have q10 := z10.out; have q11 := z11.out; have q12 := z12.out; have q13 := z13.out; have q14 := z14.out; have q15 := z15.out; have e1_ := hk_.1; have e2_ := hk_.2.1; have e3_ := hs_.1; have e4_ := hs_.2; omega)); replace H_w0 := Aside0.mk (Kd.R_mono H_w0.out (fun k_ hk_ => hk_.1)); replace H_g0 := Aside0.mk ho; clear ho hb hkp)
 have g18 := Aside0.mk trivial
 go_wp2_with (go_at_call 19; clear g18; refine (heldIntS_n (Kd.R_reads' H_g0.out) FH.out).mono ?_; rintro e w17 ⟨rfl, hd⟩; have hb := drawn0_below hd; have z17 := Aside0.mk (hb).size; replace HB := Aside0.mk (below_step HB.out hb); replace H_w0 := Aside0.mk (Kd.R_below H_w0.out hb); replace H_g0 := Aside0.mk (Kd.R_below H_g0.out hb); clear hd hb)
 have g19 := Aside0.mk trivial
 go_wp2_with (go_at_call 10; clear g19; refine (laws_toTaskS.calls (hr0 := Kd.C_below HR0.out HB.out) (hc0 := HC0.out) (h := F0.out)).mono ?_; rintro e w18 ⟨v_h0_aG, rfl, ho, hb⟩; have z18 := Aside0.mk (hb).size; replace HB := Aside0.mk (below_step HB.out hb); replace H_w0 := Aside0.mk (Kd.R_below H_w0.out hb); replace H_g0 := Aside0.mk (Kd.R_below H_g0.out hb); have H_h0_aG := Aside0.mk (Kd.R_mono (Kd.R_bound (Kd.S_R ho)) (fun k_ hk_ => hk_.2.2.1) : Kd.R k39 39 w18 w17.heap.size (fun k_ => k_ < w18.heap.size) v_h0_aG _); obtain ⟨A_h0_aG, c_h0_aG, e_h0_aG⟩ := Kd.R_slice H_h0_aG.out; subst e_h0_aG; clear ho hb)
 have g20 := Aside0.mk trivial
 go_wp2_with (go_at_call 11; clear g20; refine (laws_toIntS.calls (hr0 := Kd.C_below HR1.out HB.out) (hc0 := HC1.out) (h := F1.out)).mono ?_; rintro e w19 ⟨v_h0_aRoom, rfl, ho, hb⟩; have z19 := Aside0.mk (hb).size; replace HB := Aside0.mk (below_step HB.out hb); replace H_w0 := Aside0.mk (Kd.R_below H_w0.out hb); replace H_g0 := Aside0.mk (Kd.R_below H_g0.out hb); replace H_h0_aG := Aside0.mk (Kd.R_below H_h0_aG.out hb); have H_h0_aRoom := Aside0.mk (Kd.R_mono (Kd.R_bound ho) (fun k_ hk_ => hk_.2.2.1) : Kd.R (Kd.int .i64) 3 w19 w18.heap.size (fun k_ => k_ < w19.heap.size) v_h0_aRoom _); obtain ⟨A_h0_aRoom, c_h0_aRoom, e_h0_aRoom⟩ := Kd.R_slice H_h0_aRoom.out; subst e_h0_aRoom; clear ho hb)
 have g21 := Aside0.mk trivial
 go_wp2_with (go_at_call 16; clear g21; refine (impl_BestOrder.calls (hr0 := (Kd.R_reads' H_h0_aG.out).2.2) (hc0 := (Kd.R_reads' H_h0_aG.out).2.1) (hr1 := (Kd.R_reads' H_h0_aRoom.out).2.2) (hc1 := (Kd.R_reads' H_h0_aRoom.out).2.1) (hT := Tab.of HT.out HB.out) (h := FI.out)).mono ?_; rintro e w20 ⟨v_h0, rfl, ho, hb⟩; have z20 := Aside0.mk (hb).size; replace HB := Aside0.mk (below_step HB.out hb); replace H_w0 := Aside0.mk (Kd.R_below H_w0.out hb); replace H_g0 := Aside0.mk (Kd.R_below H_g0.out hb); replace H_h0_aG := Aside0.mk (Kd.R_below H_h0_aG.out hb); replace H_h0_aRoom := Aside0.mk (Kd.R_below H_h0_aRoom.out hb); have H_h0 := Aside0.mk (Kd.R_mono (Kd.R_bound ho) (fun k_ hk_ => hk_.2.2.1) : Kd.R (Kd.int .i64) 3 w20 w19.heap.size (fun k_ => k_ < w20.heap.size) v_h0 _); obtain ⟨A_h0, c_h0, e_h0⟩ := Kd.R_slice H_h0.out; subst e_h0; clear ho hb)
 clear H_h0_aG
 clear H_h0_aRoom
 have g22 := Aside0.mk trivial
 go_wp2_with (go_at_call 14; clear g22; refine (laws_eqIntS.calls (hr0 := (Kd.R_reads' H_h0.out).2.2) (hc0 := (Kd.R_reads' H_h0.out).2.1) (hr1 := (Kd.R_reads' H_w0.out).2.2) (hc1 := (Kd.R_reads' H_w0.out).2.1) (h := ER.out)).mono ?_; rintro e w21 ⟨rfl, hd⟩; have hb := drawn0_below hd; have z21 := Aside0.mk (hb).size; replace HB := Aside0.mk (below_step HB.out hb); replace H_w0 := Aside0.mk (Kd.R_below H_w0.out hb); replace H_g0 := Aside0.mk (Kd.R_below H_g0.out hb); replace H_h0 := Aside0.mk (Kd.R_below H_h0.out hb); clear hd hb)
 have g23 := Aside0.mk trivial
 go_wp2_with (go_at_call 19; clear g23; refine (heldIntS_n (Kd.R_reads' H_g0.out) FH.out).mono ?_; rintro e w22 ⟨rfl, hd⟩; have hb := drawn0_below hd; have z22 := Aside0.mk (hb).size; replace HB := Aside0.mk (below_step HB.out hb); replace H_w0 := Aside0.mk (Kd.R_below H_w0.out hb); replace H_g0 := Aside0.mk (Kd.R_below H_g0.out hb); replace H_h0 := Aside0.mk (Kd.R_below H_h0.out hb); clear hd hb)
 go_ret
 exact ⟨rfl, HB.out⟩
end Go.Proofs.YtimbfcedigaffaaDoor.P
end
