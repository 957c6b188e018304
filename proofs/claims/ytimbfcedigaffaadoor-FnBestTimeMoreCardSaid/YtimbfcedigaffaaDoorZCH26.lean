/- What the proofs of several laws use: words and contracts, part 6 of 7. -/
import Derived.Test.YtimbfcedigaffaaDoorZCH25
namespace Go.Proofs.YtimbfcedigaffaaDoor.P
abbrev T6qc : Bool := true
abbrev F6qc : Bool := false
end Go.Proofs.YtimbfcedigaffaaDoor.P
section
set_option linter.unusedVariables false
set_option linter.unusedSimpArgs false
namespace Go.Proofs.YtimbfcedigaffaaDoor.Core
open Go Go.RowKit Go.Shelf Go.Proofs.YtimbfcedigaffaaDoorW.PrintWords Go.Proofs.YtimbfcedigaffaaDoorW.PrintLast Go.Proofs.YtimbfcedigaffaaDoorW.PrintMore Go.Proofs.YtimbfcedigaffaaDoor.P
/-- What does not change: the world ahead of the search, the search's block, the graph's, the room's row, the workers, the beginnings' block, the number of tasks. -/
structure FK where
 w0 : World
 q : Nat
 b : Nat
 A1 : Option Addr
 n1 : Nat
 c1 : Nat
 wk : Int
 p : Nat
 n : Nat
 hq : w0.heap.size ≤ q
 hp : w0.heap.size ≤ p
 hqp : q ≠ p
/-- The search's cells, the beginnings M, the list, the best so far; P: where the list's row may lie. -/
structure FX (K : FK) (P : Nat → Prop) (W : World) (lst M : List Nat) (s : Option (List Int × Nat)) (lA : Option Addr) (lc : Nat) (bv : Value) (se : Int) : Prop where
 sb : SB W K.q K.b K.A1 K.n1 K.c1 K.wk K.p K.n (.slice lA lst.length lc) bv se s.isSome
 row : W.heap[K.p]? = some (.cells (icells M) 3 (0, 0))
 lst : (Kd.int .i64).R 3 W K.w0.heap.size (fun k => P k ∧ k ≠ K.q ∧ k ≠ K.p ∧ some k ≠ bv.ownBlock) (.slice lA lst.length lc) (up lst)
 best : ∀ o, s = some o → se = (o.2 : Int) ∧ (Kd.int .i64).R 3 W K.w0.heap.size (fun k => k ≠ K.q ∧ k ≠ K.p) bv o.1
 bown : ∀ k, bv.ownBlock = some k → k < W.heap.size
 len : M.length = K.n
 le : leB 100 M
 below : Below K.w0.heap.size K.w0 W
/-- A row of numbers, told of other blocks. -/
theorem R_ok {e : Nat} {w : World} {base : Nat} {ok ok' : Nat → Prop} {v : Value} {xs : List Int} (h : (Kd.int .i64).R e w base ok v xs) (hk : ∀ k, v.ownBlock = some k → ok' k) : (Kd.int .i64).R e w base ok' v xs := Kd.R_of_own (Kd.own_of_R h) hk
section
variable {K : FK} {P : Nat → Prop} {W W' : World} {lst M : List Nat} {s : Option (List Int × Nat)} {lA : Option Addr} {lc : Nat} {bv : Value} {se : Int}
theorem FX.size (h : FX K P W lst M s lA lc bv se) : K.w0.heap.size ≤ W.heap.size := h.below.size
theorem FX.qlt (h : FX K P W lst M s lA lc bv se) : K.q < W.heap.size := cells_lt h.sb.row
theorem FX.plt (h : FX K P W lst M s lA lc bv se) : K.p < W.heap.size := cells_lt h.row
theorem FX.move (h : FX K P W lst M s lA lc bv se) (hb : Below W.heap.size W W') : FX K P W' lst M s lA lc bv se :=
 ⟨h.sb.move hb, (hb.block _ (cells_lt h.row)).trans h.row, Kd.R_below h.lst hb, fun o ho => ⟨(h.best o ho).1, Kd.R_below (h.best o ho).2 hb⟩, fun k hk => Nat.lt_of_lt_of_le (h.bown k hk) hb.size, h.len, h.le, below_step h.below hb⟩
theorem FX.alloc (h : FX K P W lst M s lA lc bv se) (o : Obj) : FX K P (W.alloc o) lst M s lA lc bv se := h.move ((Below.refl W.heap.size W).alloc (Nat.le_refl _) o)
theorem FX.tame {B : Nat} (h : FX K P W lst M s lA lc bv se) (hB : K.w0.heap.size ≤ B) (ht : Tame B W W') : FX K P W' lst M s lA lc bv se :=
 ⟨⟨ht.cells h.sb.row⟩, ht.cells h.row, ht.R h.lst, fun o ho => ⟨(h.best o ho).1, ht.R (h.best o ho).2⟩, fun k hk => Nat.lt_of_lt_of_le (h.bown k hk) ht.size, h.len, h.le, ht.below h.below (Nat.le_refl _) hB⟩
/-- The list's row may lie elsewhere. -/
theorem FX.with (h : FX K P W lst M s lA lc bv se) {P' : Nat → Prop} (hp : ∀ k, k < W.heap.size → P k → P' k) : FX K P' W lst M s lA lc bv se :=
 ⟨h.sb, h.row, Kd.R_mono (Kd.R_bound h.lst) (fun k hk => ⟨hp k hk.2.2.1 hk.1.1, hk.1.2⟩), h.best, h.bown, h.len, h.le, h.below⟩
/-- A task's beginning is stored. -/
theorem FX.start (h : FX K P W lst M s lA lc bv se) (i x : Nat) (hx : x ≤ 100) : FX K P (W.setCell ⟨K.p, i, none⟩ (.int .i64 (x : Int))) lst (M.set i x) s lA lc bv se :=
 ⟨⟨(sother _ K.hqp).trans h.sb.row⟩, iset h.row i x, Kd.R_far h.lst (fun k hk => hk.2.2.1) _, fun o ho => ⟨(h.best o ho).1, Kd.R_far (h.best o ho).2 (fun k hk => hk.2) _⟩, fun k hk => by rw [show (W.setCell ⟨K.p, i, none⟩ (.int .i64 (x : Int))).heap.size = W.heap.size by simp [World.setCell]]; exact h.bown k hk, by rw [List.length_set]; exact h.len, leB_set h.le hx, h.below.setCell (p := ⟨K.p, i, none⟩) K.hp _⟩
/-- The list has got one more. -/
theorem FX.appended (h : FX K P W lst M s lA lc bv se) {W1 : World} {lA1 : Option Addr} {lc1 i : Nat}
  (hR : (Kd.int .i64).R 3 W1 K.w0.heap.size (fun k => P k ∧ k ≠ K.q ∧ k ≠ K.p ∧ some k ≠ bv.ownBlock) (.slice lA1 (lst.length + 1) lc1) (up lst ++ [(i : Int)])) (hg : W.grownBy W1 (Value.slice lA lst.length lc).ownBlock) (hb : Below K.w0.heap.size K.w0 W1) :
  FX K P (W1.setCell ⟨K.q, 4, none⟩ (.slice lA1 (lst.length + 1) lc1)) (lst ++ [i]) M s lA1 lc1 bv se := by
 have hne : ∀ k, (∀ j, (Value.slice lA lst.length lc).ownBlock = some j → j ≠ k) → k < W.heap.size → W1.heap[k]? = W.heap[k]? := fun k hk hl => hg.block k hl (fun e => hk k e.symm rfl)
 have hq := hne K.q (fun j hj => (h.lst.1 j hj).2.1) h.qlt
 have hp := hne K.p (fun j hj => (h.lst.1 j hj).2.2.1) h.plt
 have hsz : (W1.setCell ⟨K.q, 4, none⟩ (.slice lA1 (lst.length + 1) lc1)).heap.size = W1.heap.size := by simp [World.setCell]
 have hlen : (lst ++ [i]).length = lst.length + 1 := by simp
 refine ⟨⟨?_⟩, ?_, ?_, ?_, ?_, h.len, h.le, hb.setCell (p := ⟨K.q, 4, none⟩) K.hq _⟩
 ·rw [blk_set (hq.trans h.sb.row) 4 _, hlen]
  simp
 ·exact (sother _ (Ne.symm K.hqp)).trans (hp.trans h.row)
 ·rw [hlen, show up (lst ++ [i]) = up lst ++ [(i : Int)] by simp [up]]
  exact Kd.R_far hR (fun k hk => hk.2.1) _
 ·intro o ho
  have h2 := (h.best o ho).2
  refine ⟨(h.best o ho).1, Kd.R_far ?_ (fun k hk => hk.1) _⟩
  have h3 := R_ok h2 (ok' := fun k => (k ≠ K.q ∧ k ≠ K.p) ∧ some k ≠ (Value.slice lA lst.length lc).ownBlock) (fun k hk => ⟨h2.1 k hk, fun e => (h.lst.1 k e.symm).2.2.2 hk.symm⟩)
  exact Kd.R_mono (Kd.R_step h3 (fun k hk hl => hg.block k hl hk.2)) (fun k hk => hk.1)
 ·intro k hk
  rw [hsz]
  exact Nat.lt_of_lt_of_le (h.bown k hk) hg.size
/-- The list is cut back. -/
theorem FX.cut {i : Nat} (h : FX K P W (lst ++ [i]) M s lA lc bv se) : FX K P (W.setCell ⟨K.q, 4, none⟩ (.slice lA lst.length lc)) lst M s lA lc bv se := by
 have hsz : (W.setCell ⟨K.q, 4, none⟩ (.slice lA lst.length lc)).heap.size = W.heap.size := by simp [World.setCell]
 have hlen : (lst ++ [i]).length = lst.length + 1 := by simp
 refine ⟨⟨?_⟩, ?_, ?_, ?_, ?_, h.len, h.le, h.below.setCell (p := ⟨K.q, 4, none⟩) K.hq _⟩
 ·rw [blk_set h.sb.row 4 _]
  simp
 ·exact (sother _ (Ne.symm K.hqp)).trans h.row
 ·have h1 := h.lst
  rw [hlen, show up (lst ++ [i]) = up lst ++ [(i : Int)] by simp [up]] at h1
  have h0 := Kd.own_of_R h1
  rw [show (up lst ++ [(i : Int)]).length = lst.length + 1 by simp [up]] at h0
  have h2 := own_take (m := lst.length) h0 (by omega)
  have h3 : W.ownsRow K.w0.heap.size 3 1 (.slice lA lst.length lc) (up lst).length (encs (Value.int .i64) (up lst)) := by
   rw [up_length]
   have e1 : (encs (Value.int .i64) (up lst ++ [(i : Int)])).take (lst.length * 1) = encs (Value.int .i64) (up lst) := by
    rw [Nat.mul_one, encs, List.map_append, List.take_append_of_le_length (by simp [up]), List.take_of_length_le (by simp [up])]
    rfl
   rw [← e1]
   exact h2
  refine Kd.R_far (Kd.R_of_own h3 (fun k hk => h1.1 k ?_)) (fun k hk => hk.2.1) _
  rw [← hk]
  cases lA <;> rfl
 ·intro o ho
  exact ⟨(h.best o ho).1, Kd.R_far (h.best o ho).2 (fun k hk => hk.1) _⟩
 ·intro k hk
  rw [hsz]
  exact h.bown k hk
/-- A better order is stored. -/
theorem FX.found (h : FX K P W lst M s lA lc bv se) {W1 : World} {v : Value} {e : Nat} (hb : Below W.heap.size W W1) (hR : (Kd.int .i64).R 3 W1 W.heap.size (fun _ => True) v (up lst)) :
  FX K P (((W1.setCell ⟨K.q, 5, none⟩ v).setCell ⟨K.q, 6, none⟩ (.int .i64 (e : Int))).setCell ⟨K.q, 7, none⟩ (.bool true)) lst M (some (up lst, e)) lA lc v (e : Int) := by
 have h1 := h.move hb
 have hsz : (((W1.setCell ⟨K.q, 5, none⟩ v).setCell ⟨K.q, 6, none⟩ (.int .i64 (e : Int))).setCell ⟨K.q, 7, none⟩ (.bool true)).heap.size = W1.heap.size := by simp [World.setCell]
 refine ⟨⟨?_⟩, ?_, ?_, ?_, ?_, h.len, h.le, ((h1.below.setCell (p := ⟨K.q, 5, none⟩) K.hq _).setCell (p := ⟨K.q, 6, none⟩) K.hq _).setCell (p := ⟨K.q, 7, none⟩) K.hq _⟩
 ·rw [blk_set (blk_set (blk_set h1.sb.row 5 v) 6 _) 7 _]
  simp
 ·exact (sother _ (Ne.symm K.hqp)).trans ((sother _ (Ne.symm K.hqp)).trans ((sother _ (Ne.symm K.hqp)).trans h1.row))
 ·refine Kd.R_far (Kd.R_far (Kd.R_far (R_ok h1.lst (fun k hk => ?_)) (fun k hk => hk.2.1) _) (fun k hk => hk.2.1) _) (fun k hk => hk.2.1) _
  obtain ⟨a, b, c, _⟩ := h1.lst.1 k hk
  refine ⟨a, b, c, fun e2 => ?_⟩
  have e3 := Kd.R_base hR k e2.symm
  have e4 := Kd.R_lt h.lst k hk
  omega
 ·intro o ho
  cases ho
  refine ⟨rfl, ?_⟩
  have h4 := R_ok (Kd.R_lower hR h.below.size) (ok' := fun k => k ≠ K.q ∧ k ≠ K.p) (fun k hk => ⟨fun e2 => ?_, fun e2 => ?_⟩)
  ·exact Kd.R_far (Kd.R_far (Kd.R_far h4 (fun k hk => hk.1) _) (fun k hk => hk.1) _) (fun k hk => hk.1) _
  ·have e3 := Kd.R_base hR k hk
   have e4 := h.qlt
   omega
  ·have e3 := Kd.R_base hR k hk
   have e4 := h.plt
   omega
 ·intro k hk
  rw [hsz]
  exact Kd.R_lt hR k hk
end
/-- What a call of from leaves. -/
structure FromRes (K : FK) (P : Nat → Prop) (w w' : World) (lst L : List Nat) (d : Nat) (s : Option (List Int × Nat)) : Prop where
 ex : ∃ M lA lc bv se, FX K P w' lst M s lA lc bv se ∧ AgreeOn d L M
 others : KeepsOthers w w'
 keep : ∀ k, k < w.heap.size → k ≠ K.q → k ≠ K.p → ¬ P k → w'.heap[k]? = w.heap[k]?
end Go.Proofs.YtimbfcedigaffaaDoor.Core
end
section
set_option linter.unusedVariables false
set_option linter.unusedSimpArgs false
namespace Go.Proofs.YtimbfcedigaffaaDoor.Core
open Go Go.RowKit Go.Shelf Go.Proofs.YtimbfcedigaffaaDoorW.PrintWords Go.Proofs.YtimbfcedigaffaaDoorW.PrintLast Go.Proofs.YtimbfcedigaffaaDoorW.PrintMore Go.Proofs.YtimbfcedigaffaaDoor.P
/-- Where the list's row may lie: apart from three blocks of the call's own. -/
def PF (P : Nat → Prop) (r : Nat) (k : Nat) : Prop := P k ∧ k ≠ r ∧ k ≠ r + 1 ∧ k ≠ r + 1 + 1
structure FJ (K : FK) (P : Nat → Prop) (w : World) (L : List Nat) (d e : Nat) (W : World) (lst M : List Nat) (s : Option (List Int × Nat)) (lA : Option Addr) (lc : Nat) (bv : Value) (se : Int) : Prop where
 fx : FX K (PF P w.heap.size) W lst M s lA lc bv se
 agree : AgreeOn d L M
 x : Boxed W w.heap.size 71 (.pointer (some ⟨K.q, 0, none⟩))
 pl : Boxed W (w.heap.size + 1) 77 (.int .u16 (d : Int))
 en : Boxed W (w.heap.size + 1 + 1) 3 (.int .i64 (e : Int))
 keep : ∀ k, k < w.heap.size → k ≠ K.q → k ≠ K.p → ¬ P k → W.heap[k]? = w.heap[k]?
 others : KeepsOthers w W
 base : K.w0.heap.size ≤ w.heap.size
 ql : K.q < w.heap.size
 pll : K.p < w.heap.size
section
variable {K : FK} {P : Nat → Prop} {w W W' : World} {L : List Nat} {d e : Nat} {lst M : List Nat} {s : Option (List Int × Nat)} {lA : Option Addr} {lc : Nat} {bv : Value} {se : Int}
theorem FJ.size (h : FJ K P w L d e W lst M s lA lc bv se) : w.heap.size ≤ W.heap.size := h.others.size
theorem FJ.move (h : FJ K P w L d e W lst M s lA lc bv se) (hb : Below W.heap.size W W') : FJ K P w L d e W' lst M s lA lc bv se :=
 ⟨h.fx.move hb, h.agree, (hb.block _ h.x.lt).trans h.x, (hb.block _ h.pl.lt).trans h.pl, (hb.block _ h.en.lt).trans h.en, fun k h1 h2 h3 h4 => (hb.block k (Nat.lt_of_lt_of_le h1 h.size)).trans (h.keep k h1 h2 h3 h4), h.others.trans (keepsOthers_below hb), h.base, h.ql, h.pll⟩
theorem FJ.alloc (h : FJ K P w L d e W lst M s lA lc bv se) (o : Obj) : FJ K P w L d e (W.alloc o) lst M s lA lc bv se := h.move ((Below.refl W.heap.size W).alloc (Nat.le_refl _) o)
theorem FJ.tame {B : Nat} (h : FJ K P w L d e W lst M s lA lc bv se) (hB : w.heap.size ≤ B) (ht : Tame B W W') : FJ K P w L d e W' lst M s lA lc bv se :=
 ⟨h.fx.tame (Nat.le_trans h.base hB) ht, h.agree, ht.boxed h.x, ht.boxed h.pl, ht.boxed h.en, fun k h1 h2 h3 h4 => (ht.block k (Nat.lt_of_lt_of_le h1 h.size) (.inl (by omega))).trans (h.keep k h1 h2 h3 h4),
 ⟨Nat.le_trans h.size ht.size, fun k o hk ho => by
   have hlt := (Array.getElem?_eq_some_iff.1 hk).1
   exact (ht.block k (Nat.lt_of_lt_of_le hlt h.size) (.inl (by omega))).trans (h.others.same k o hk ho)⟩, h.base, h.ql, h.pll⟩
theorem AgreeOn.keepset {d i x : Nat} {L M : List Nat} (h : AgreeOn d L M) (hi : d.testBit i = false) : AgreeOn d L (M.set i x) := by
 intro k hk
 have hne : i ≠ k := by
  intro e1
  subst e1
  rw [hi] at hk
  cases hk
 rw [List.getD_eq_getElem?_getD (l := M.set i x), List.getElem?_set_ne hne, ← List.getD_eq_getElem?_getD]
 exact h k hk
/-- One task more, in both. -/
theorem AgreeOn.more {d i v : Nat} {L M : List Nat} (h : AgreeOn d L (M.set i v)) (hl : i < L.length) (hm : i < M.length) : AgreeOn (d ||| 2 ^ i) (L.set i v) (M.set i v) := by
 intro k hk
 by_cases e1 : i = k
 ·subst e1
  rw [List.getD_eq_getElem?_getD, List.getElem?_set_self hl, List.getD_eq_getElem?_getD, List.getElem?_set_self hm]
 ·rw [or_bit, decide_eq_false e1, Bool.or_false] at hk
  rw [List.getD_eq_getElem?_getD, List.getElem?_set_ne e1, ← List.getD_eq_getElem?_getD]
  exact h k hk
theorem over_more {g : List Tk} {d i v B C : Nat} {L : List Nat} (h : overBy g L d B) (hl : i < L.length) (hv : v + tmN g i ≤ C) (hB : B ≤ C) : overBy g (L.set i v) (d ||| 2 ^ i) C := by
 intro k hk
 unfold endN
 by_cases e1 : i = k
 ·subst e1
  rw [List.getD_eq_getElem?_getD, List.getElem?_set_self hl, Option.getD_some]
  exact hv
 ·rw [or_bit, decide_eq_false e1, Bool.or_false] at hk
  have := h k hk
  unfold endN at this
  rw [List.getD_eq_getElem?_getD, List.getElem?_set_ne e1, ← List.getD_eq_getElem?_getD]
  omega
theorem FJ.start (h : FJ K P w L d e W lst M s lA lc bv se) (i x : Nat) (hx : x ≤ 100) (hi : d.testBit i = false) : FJ K P w L d e (W.setCell ⟨K.p, i, none⟩ (.int .i64 (x : Int))) lst (M.set i x) s lA lc bv se := by
 have hp := h.pll
 exact ⟨h.fx.start i x hx, h.agree.keepset hi, (sother _ (by omega)).trans h.x, (sother _ (by omega)).trans h.pl, (sother _ (by omega)).trans h.en, fun k h1 h2 h3 h4 => (sother _ h3).trans (h.keep k h1 h2 h3 h4), h.others.trans (KeepsOthers.setCell _ _ _), h.base, h.ql, h.pll⟩
theorem FJ.appended (h : FJ K P w L d e W lst M s lA lc bv se) {W1 : World} {lA1 : Option Addr} {lc1 i : Nat}
  (hR : (Kd.int .i64).R 3 W1 K.w0.heap.size (fun k => PF P w.heap.size k ∧ k ≠ K.q ∧ k ≠ K.p ∧ some k ≠ bv.ownBlock) (.slice lA1 (lst.length + 1) lc1) (up lst ++ [(i : Int)])) (hg : W.grownBy W1 (Value.slice lA lst.length lc).ownBlock) (hb : Below K.w0.heap.size K.w0 W1) :
  FJ K P w L d e (W1.setCell ⟨K.q, 4, none⟩ (.slice lA1 (lst.length + 1) lc1)) (lst ++ [i]) M s lA1 lc1 bv se := by
 have hq := h.ql
 have hne : ∀ k, ¬ PF P w.heap.size k → k < W.heap.size → W1.heap[k]? = W.heap[k]? := fun k hk hl => hg.block k hl (fun e1 => hk (h.fx.lst.1 k e1.symm).1)
 refine ⟨h.fx.appended hR hg hb, h.agree, (sother _ (by omega)).trans ((hne _ (fun hk => hk.2.1 rfl) h.x.lt).trans h.x), (sother _ (by omega)).trans ((hne _ (fun hk => hk.2.2.1 rfl) h.pl.lt).trans h.pl), (sother _ (by omega)).trans ((hne _ (fun hk => hk.2.2.2 rfl) h.en.lt).trans h.en), fun k h1 h2 h3 h4 => (sother _ h2).trans ((hne k (fun hk => h4 hk.1) (Nat.lt_of_lt_of_le h1 h.size)).trans (h.keep k h1 h2 h3 h4)), (h.others.trans (KeepsOthers.of_grownBy hg ?_)).trans (KeepsOthers.setCell _ _ _), h.base, h.ql, h.pll⟩
 intro j o ej hj
 obtain ⟨cs, t, hc⟩ := Kd.R_ownTyped h.fx.lst j ej
 rw [hc] at hj
 cases hj
 rfl
theorem FJ.call (h : FJ K P w L d e W lst M s lA lc bv se) {s' : Option (List Int × Nat)} {i v : Nat} (hi : d.testBit i = false) (hr : FromRes K (PF P w.heap.size) W W' lst (L.set i v) (d ||| 2 ^ i) s') :
  ∃ M' lA' lc' bv' se', FJ K P w L d e W' lst M' s' lA' lc' bv' se' := by
 obtain ⟨⟨M', lA', lc', bv', se', hx, ha⟩, ho, hk⟩ := hr
 have hq := h.ql
 have hp := h.pll
 refine ⟨M', lA', lc', bv', se', hx, fun k hdk => ?_, (hk _ h.x.lt (by omega) (by omega) (fun hk => hk.2.1 rfl)).trans h.x, (hk _ h.pl.lt (by omega) (by omega) (fun hk => hk.2.2.1 rfl)).trans h.pl, (hk _ h.en.lt (by omega) (by omega) (fun hk => hk.2.2.2 rfl)).trans h.en, fun k h1 h2 h3 h4 => (hk k (Nat.lt_of_lt_of_le h1 h.size) h2 h3 (fun h5 => h4 h5.1)).trans (h.keep k h1 h2 h3 h4), h.others.trans ho, h.base, h.ql, h.pll⟩
 have hne : i ≠ k := by
  intro e1
  subst e1
  rw [hi] at hdk
  cases hdk
 have h1 := ha k (by rw [or_bit, hdk]; rfl)
 rw [List.getD_eq_getElem?_getD, List.getElem?_set_ne hne, ← List.getD_eq_getElem?_getD] at h1
 exact h1
theorem FJ.cut {i : Nat} (h : FJ K P w L d e W (lst ++ [i]) M s lA lc bv se) : FJ K P w L d e (W.setCell ⟨K.q, 4, none⟩ (.slice lA lst.length lc)) lst M s lA lc bv se := by
 have hq := h.ql
 exact ⟨h.fx.cut, h.agree, (sother _ (by omega)).trans h.x, (sother _ (by omega)).trans h.pl, (sother _ (by omega)).trans h.en, fun k h1 h2 h3 h4 => (sother _ h2).trans (h.keep k h1 h2 h3 h4), h.others.trans (KeepsOthers.setCell _ _ _), h.base, h.ql, h.pll⟩
theorem FJ.res (h : FJ K P w L d e W lst M s lA lc bv se) : FromRes K P w W lst L d s :=
 ⟨⟨M, lA, lc, bv, se, h.fx.with (fun k _ hk => hk.1), h.agree⟩, h.others, h.keep⟩
theorem FJ.found (h : FJ K P w L d e W lst M s lA lc bv se) {W1 : World} {v : Value} (hb : Below W.heap.size W W1) (hR : (Kd.int .i64).R 3 W1 W.heap.size (fun _ => True) v (up lst)) :
  FJ K P w L d e (((W1.setCell ⟨K.q, 5, none⟩ v).setCell ⟨K.q, 6, none⟩ (.int .i64 (e : Int))).setCell ⟨K.q, 7, none⟩ (.bool true)) lst M (some (up lst, e)) lA lc v (e : Int) := by
 have hq := h.ql
 have h1 := h.move hb
 exact ⟨h.fx.found hb hR, h.agree, (sother _ (by omega)).trans ((sother _ (by omega)).trans ((sother _ (by omega)).trans h1.x)), (sother _ (by omega)).trans ((sother _ (by omega)).trans ((sother _ (by omega)).trans h1.pl)), (sother _ (by omega)).trans ((sother _ (by omega)).trans ((sother _ (by omega)).trans h1.en)), fun k h1' h2 h3 h4 => (sother _ h2).trans ((sother _ h2).trans ((sother _ h2).trans (h1.keep k h1' h2 h3 h4))), ((h1.others.trans (KeepsOthers.setCell _ _ _)).trans (KeepsOthers.setCell _ _ _)).trans (KeepsOthers.setCell _ _ _), h.base, h.ql, h.pll⟩
/-- At the beginning: three blocks more. -/
theorem FJ.new (h : FX K P w lst M s lA lc bv se) (ha : AgreeOn d L M) :
  FJ K P w L d e (((w.alloc (.cells #[.pointer (some ⟨K.q, 0, none⟩)] 71)).alloc (.cells #[.int .u16 (d : Int)] 77)).alloc (.cells #[.int .i64 (e : Int)] 3)) lst M s lA lc bv se := by
 have s1 : (w.alloc (.cells #[.pointer (some ⟨K.q, 0, none⟩)] 71)).heap.size = w.heap.size + 1 := by simp
 have s2 : ((w.alloc (.cells #[.pointer (some ⟨K.q, 0, none⟩)] 71)).alloc (.cells #[.int .u16 (d : Int)] 77)).heap.size = w.heap.size + 1 + 1 := by simp
 have b1 := Boxed.new (w.alloc (.cells #[.pointer (some ⟨K.q, 0, none⟩)] 71)) 77 (.int .u16 (d : Int))
 rw [s1] at b1
 have b2 := Boxed.new ((w.alloc (.cells #[.pointer (some ⟨K.q, 0, none⟩)] 71)).alloc (.cells #[.int .u16 (d : Int)] 77)) 3 (.int .i64 (e : Int))
 rw [s2] at b2
 have hB : Below w.heap.size w (((w.alloc (.cells #[.pointer (some ⟨K.q, 0, none⟩)] 71)).alloc (.cells #[.int .u16 (d : Int)] 77)).alloc (.cells #[.int .i64 (e : Int)] 3)) := (((Below.refl w.heap.size w).alloc (Nat.le_refl _) _).alloc (by simp) _).alloc (by simp; omega) _
 have hF : FX K (PF P w.heap.size) w lst M s lA lc bv se := h.with (fun k hk hp => ⟨hp, by omega, by omega, by omega⟩)
 exact ⟨hF.move hB, ha, ((Boxed.new w _ _).alloc _).alloc _, b1.alloc _, b2, fun k h1 _ _ _ => hB.block k h1, keepsOthers_below hB, h.below.size, h.qlt, h.plt⟩
end
end Go.Proofs.YtimbfcedigaffaaDoor.Core
end
section
set_option linter.unusedVariables false
set_option linter.unusedSimpArgs false
namespace Go.Proofs.YtimbfcedigaffaaDoor.Core
open Go Go.RowKit Go.Shelf Go.Proofs.YtimbfcedigaffaaDoorW.PrintWords Go.Proofs.YtimbfcedigaffaaDoorW.PrintLast Go.Proofs.YtimbfcedigaffaaDoorW.PrintMore Go.Proofs.YtimbfcedigaffaaDoor.P
attribute [local go_sem] Oper.semAt_some wide_fn wide_depth
set_option maxRecDepth 100000 in
set_option maxHeartbeats 4000000 in
theorem ready_calls (b : Nat) (G : GD) (d : Nat) (w : World) (hg : IsG w b G) (ok : GOk G) (hd : d < 256) :
  Calls Tryd.prog 65 #[.pointer (some ⟨b, 0, none⟩), .int .u16 (d : Int)] w fun e w' => e = .returned (.int .u16 ((G.ready d : Nat) : Int)) ∧ w = w' := by
 obtain ⟨A, c, hc, _, hC⟩ := hg.needs
 have hC := Aside0.mk hC
 go_enter Tryd.func65, Tryd.ntmps65
 go_wp2
 go_loopg [5, 13] G.needs.length (fun kq v5 v13 w' => ∃ (i : Nat) (x : Int) (o : Int), v5 = .int .u16 o ∧ v13 = .int .i64 x ∧ Aside0 (i + kq = G.needs.length ∧ x = (i : Int) ∧ o = ((readyTo G.needs d i : Nat) : Int)) ∧ w = w')
 case atStart => exact ⟨0, 0, 0, rfl, rfl, ⟨by omega, rfl, rfl⟩, rfl⟩
 case round =>
  obtain ⟨i, x, o, rfl, rfl, hh, rfl⟩ := hrel
  by_cases hlt : i < G.needs.length
  ·have p0 : 0 ≤ x := by have := hh.out.2.1; omega
   have q0 : x < (G.needs.length : Int) := by have := hh.out.2.1; omega
   have hlt0 : decide (x < (G.needs.length : Int)) = true := decide_eq_true q0
   obtain ⟨ad, e0, hx0⟩ := Kd.at_int hC.out x p0 q0
   subst e0
   rw [rd_up (i := i) hh.out.2.1] at hx0
   have h8 : G.needs.length ≤ 8 := by have := ok.n8; have := ok.nl; omega
   have hNi : G.needs.getD i 0 < 256 := Nat.lt_of_lt_of_le (getD_lt ok.nb i) (pow8 ok.n8)
   have hA := andNot_eq hNi hd
   have hW := readyTo_lt G.needs d i
   have hstep : readyTo G.needs d (i + 1) = if d.testBit i = false ∧ sub (G.needs.getD i 0) d = 0 then readyTo G.needs d i ||| 2 ^ i else readyTo G.needs d i := rfl
   have hB := has_calls d i hd (by omega) w
   have hWc := with_calls (readyTo G.needs d i) i (Nat.lt_of_lt_of_le hW (Nat.le_trans (Nat.pow_le_pow_right (by omega) (show i ≤ 8 by omega)) (by decide))) (by omega) w
   rw [← hh.out.2.2, ← hh.out.2.1] at hWc
   rw [← hh.out.2.1] at hB
   generalize G.needs.getD i 0 = s at hx0 hA hstep
   generalize hbb : d.testBit i = bb at hB hstep
   generalize hz : sub s d = z0 at hA hstep
   generalize hz2 : ((z0 : Nat) : Int) = z at hA
   generalize hr1 : readyTo G.needs d i ||| 2 ^ i = r1 at hWc hstep
   replace p0 := eq_true p0
   replace q0 := eq_true q0
   have HS := Aside0.mk hstep
   have HZ := Aside0.mk hz2
   have HL := Aside0.mk hlt
   clear hstep hbb hz hz2 hr1 hlt hW
   have hz01 : z = 0 ∨ z ≠ 0 := by omega
   cases bb with
   | true =>
    go_wp2_with (go_at_call 76; refine hB.mono ?_; rintro e w' ⟨rfl, rfl⟩)
    go_roundg (G.needs.length - (i + 1))
    case measure => have := hh.out.1; have := HL.out; omega
    case rel =>
     have h1 := hh.out; have := HL.out
     refine ⟨i + 1, _, _, rfl, rfl, ⟨by omega, by rw [h1.2.1]; unfold wrap64; omega, by rw [HS.out, h1.2.2]; simp⟩, rfl⟩
   | false =>
    rcases hz01 with rfl | hz0
    ·go_wp2_with (first | (go_at_call 76; refine hB.mono ?_; rintro e w' ⟨rfl, rfl⟩) | (go_at_call 68; refine hWc.mono ?_; rintro e w' ⟨rfl, rfl⟩))
     go_roundg (G.needs.length - (i + 1))
     case measure => have := hh.out.1; have := HL.out; omega
     case rel =>
      have h1 := hh.out; have := HL.out
      have hz3 : z0 = 0 := by have := HZ.out; omega
      refine ⟨i + 1, _, _, rfl, rfl, ⟨by omega, by rw [h1.2.1]; unfold wrap64; omega, by rw [HS.out, hz3]; simp⟩, rfl⟩
    ·have hz4 : (z == 0) = false := beq_eq_false_iff_ne.2 hz0
     go_wp2_with (first | (go_at_call 76; refine hB.mono ?_; rintro e w' ⟨rfl, rfl⟩) | (go_at_call 68; refine hWc.mono ?_; rintro e w' ⟨rfl, rfl⟩))
     go_roundg (G.needs.length - (i + 1))
     case measure => have := hh.out.1; have := HL.out; omega
     case rel =>
      have h1 := hh.out; have := HL.out
      have hz3 : z0 ≠ 0 := by have := HZ.out; omega
      refine ⟨i + 1, _, _, rfl, rfl, ⟨by omega, by rw [h1.2.1]; unfold wrap64; omega, by rw [HS.out, h1.2.2]; simp [hz3]⟩, rfl⟩
  ·have hlt0 : decide (x < (G.needs.length : Int)) = false := by have := hh.out; simp; omega
   have hi : i = G.needs.length := by have := hh.out; omega
   have ho := hh.out.2.2
   go_wp2
   go_ret
   refine ⟨?_, rfl⟩
   rw [ho, hi]
   rfl
end Go.Proofs.YtimbfcedigaffaaDoor.Core
end
section
set_option linter.unusedVariables false
set_option linter.unusedSimpArgs false
namespace Go.Proofs.YtimbfcedigaffaaDoor.Core
open Go Go.RowKit Go.Shelf Go.Proofs.YtimbfcedigaffaaDoorW.PrintWords Go.Proofs.YtimbfcedigaffaaDoorW.PrintLast Go.Proofs.YtimbfcedigaffaaDoorW.PrintMore Go.Proofs.YtimbfcedigaffaaDoor.P
attribute [local go_sem] Oper.semAt_some wide_fn wide_depth max2_int max_two
/-- What is known of the search all the time. -/
structure FG (K : FK) (G : GD) (room : List Int) : Prop where
 tab : Tab K.w0
 g : IsG K.w0 K.b G
 ok : GOk G
 task : ∀ t ∈ G.tasks, taskOk t
 pool : ∀ t ∈ G.tasks, 0 ≤ t.f2 ∧ t.f2 ≤ 2
 fine : Fine G.tasks room K.wk
 n : K.n = G.tasks.length
 n5 : G.tasks.length ≤ 5
 r3 : room.length = 3
 rc : Kd.C (Kd.int .i64) K.w0 K.A1 room.length room
 n1 : K.n1 = room.length
 c1 : room.length ≤ K.c1
set_option maxRecDepth 100000 in
set_option maxHeartbeats 8000000 in
theorem from_calls (K : FK) (G : GD) (room : List Int) (F : FG K G room) : ∀ k, ∀ (P : Nat → Prop) (lst L M : List Nat) (d e : Nat) (s : Option (List Int × Nat)) (lA : Option Addr) (lc : Nat) (bv : Value) (se : Int) (w : World), K.n < lst.length + k → lst.length ≤ K.n → FX K P w lst M s lA lc bv se → (∀ j, w.heap.size ≤ j → P j) → AgreeOn d L M → L.length = K.n → d < 2 ^ K.n → overBy G.tasks L d (20 * lst.length) → e ≤ 20 * lst.length →
  Calls Tryd.prog 47 #[.pointer (some ⟨K.q, 0, none⟩), .int .u16 (d : Int), .int .i64 (e : Int)] w fun r w' => r = .returned (.tuple #[]) ∧ FromRes K P w w' lst L d (fromF G.tasks G.needs room K.wk k lst L d e s) := by
 intro k
 induction k with
 | zero => exact fun _ _ _ _ _ _ _ _ _ _ _ _ h1 h2 _ _ _ _ _ _ _ => absurd h1 (by omega)
 | succ k ih0 =>
  intro P lst L M d e s lA lc bv se w hk1 hln hX hP hA hLl hd2 hov he
  have ih := Lib.hid ih0
  clear ih0
  by_cases hcut : cutB s e = true
  ·-- a branch that is cut
   have hres : fromF G.tasks G.needs room K.wk (k + 1) lst L d e s = s := by unfold fromF; rw [if_pos hcut]
   rw [hres]
   cases s with
   | none => cases hcut
   | some o =>
    have hle : o.2 ≤ e := of_decide_eq_true hcut
    refine (from_cut K.q K.b K.A1 K.n1 K.c1 K.wk K.p K.n _ bv se d e w hX.sb (by rw [(hX.best o rfl).1]; omega)).mono ?_
    rintro r w' ⟨hr, hB⟩
    exact ⟨hr, ⟨⟨M, lA, lc, bv, se, hX.move hB, hA⟩, keepsOthers_below hB, fun k h _ _ _ => hB.block k h⟩⟩
  have h8 : G.tasks.length ≤ 8 := F.ok.n8
  have h256 := pow8 h8
  have hd256 : d < 256 := Nat.lt_of_lt_of_le (by rw [← F.n]; exact hd2) h256
  obtain ⟨RES, hRES⟩ : ∃ R, R = fromF G.tasks G.needs room K.wk (k + 1) lst L d e s := ⟨_, rfl⟩
  rw [← hRES]
  unfold fromF at hRES
  rw [if_neg hcut] at hRES
  obtain ⟨W3, hW3⟩ : ∃ W3, W3 = ((w.alloc (.cells #[.pointer (some ⟨K.q, 0, none⟩)] 71)).alloc (.cells #[.int .u16 (d : Int)] 77)).alloc (.cells #[.int .i64 (e : Int)] 3) := ⟨_, rfl⟩
  have J3 : FJ K P w L d e W3 lst M s lA lc bv se := by rw [hW3]; exact FJ.new hX hA
  have HJ := Aside0.mk J3
  have HW := Aside0.mk hW3
  have HRES := Aside0.mk hRES
  have HBEST := Aside0.mk hX.best
  have HF := Aside0.mk F
  have HP := Aside0.mk hP
  have HOV := Aside0.mk (show overBy G.tasks L d (20 * lst.length) ∧ L.length = K.n ∧ d < 2 ^ K.n ∧ e ≤ 20 * lst.length ∧ K.n < lst.length + (k + 1) ∧ lst.length ≤ K.n ∧ d < 256 from ⟨hov, hLl, hd2, he, hk1, hln, hd256⟩)
  have HIH := Aside0.mk ih.out
  have HQX := Aside0.mk (show w.heap.size ≠ K.q ∧ w.heap.size + 1 + 1 ≠ K.q from ⟨by have := J3.ql; omega, by have := J3.ql; omega⟩)
  have hge : s.isSome = true → decide ((e : Int) ≥ se) = false := by
   intro hs
   obtain ⟨o, rfl⟩ := Option.isSome_iff_exists.1 hs
   rw [(hX.best o rfl).1]
   refine decide_eq_false (fun h => hcut (decide_eq_true ?_))
   omega
  have HGE := Aside0.mk hge
  clear J3 hW3 hRES hX F hP hA hov hLl hd2 he hk1 hln ih hd256 hge hcut
  refine calls_marks Tryd.func47 rfl ?_
  simp only [Tryd.ntmps47, List.size_toArray, List.length_cons, List.length_nil, Nat.reduceAdd, Nat.reduceSub, Array.replicate_succ, Array.replicate_zero, List.push_toArray, List.append_toArray, List.nil_append, List.cons_append]
  go_wp2
  rw [← HW.out]
  refine wp_region_still_tail 11 rfl (by kernel_rfl) ?_
  change wpStill _ _ W3.drew (fun a' => wpList _ _ _ _ a' W3.drew) _ _
  have hdr : Below W3.heap.size W3 W3.drew := below_drew (Below.refl _ _)
  revert hdr
  generalize W3.drew = Wd
  intro hdr
  have HJ2 := Aside0.mk (HJ.out.move hdr)
  clear hdr HJ HW
  simp only [List.take_succ_cons, List.take_zero, List.drop_succ_cons, List.drop_zero]
  rename_i Q0 K1 a1 K0 a0
  have key : ∀ v7 v8 v9 v10 v11 v12 v13 v14 v15 v16 v17 v18 : Value, K1 { tmps := #[.pointer (some ⟨K.q, 0, none⟩), .int .u16 (d : Int), .int .i64 (e : Int), .pointer (some ⟨w.heap.size, 0, none⟩), .pointer (some ⟨w.heap.size + 1, 0, none⟩), .pointer (some ⟨w.heap.size + 1 + 1, 0, none⟩), undef, v7, v8, v9, v10, v11, v12, v13, v14, v15, v16, v17, v18, undef, undef, undef, undef, undef, undef, undef, undef, undef, undef, undef, undef, undef, undef, undef, undef, undef, undef, undef, undef, undef, undef, undef, undef, undef, undef, undef, undef, undef, undef, undef, undef, undef, undef, undef, undef, undef, undef, undef, undef, undef, undef, undef, undef, undef, undef, undef, undef, undef, undef, undef, undef, undef, undef, undef, undef, undef, undef, undef, undef, undef, undef, undef, undef, undef, undef, undef, undef, undef, undef, undef, undef, undef, undef, undef, undef, undef, undef, undef, undef, undef, undef, undef, undef, undef, undef, undef, undef, undef, undef, undef, undef, undef, undef, undef, undef, undef, undef, undef, undef, undef, undef, undef, undef, undef, undef, undef, undef, undef], defers := [] } Wd := by
   intro v7 v8 v9 v10 v11 v12 v13 v14 v15 v16 v17 v18
   refine a1 _ _ ?_
   go_wp2
   refine wp_region_still_tail 10 rfl (by kernel_rfl) ?_
   change wpStill _ _ Wd.drew (fun a' => wpList _ _ _ _ a' Wd.drew) _ _
   have hdr : Below Wd.heap.size Wd Wd.drew := below_drew (Below.refl _ _)
   revert hdr
   generalize Wd.drew = We
   intro hdr
   have HJ3 := Aside0.mk (HJ2.out.move hdr)
   clear hdr
   have hcx := HJ3.out.x.cell
   have hc4 : We.cell? ⟨K.q, 4, none⟩ = some (.slice lA lst.length lc) := by simp [World.cell?, HJ3.out.fx.sb.row]
   have hc0 : We.cell? ⟨K.q, 0, none⟩ = some (.pointer (some ⟨K.b, 0, none⟩)) := by simp [World.cell?, HJ3.out.fx.sb.row]
   have hsz : Calls Tryd.prog 46 #[.pointer (some ⟨K.b, 0, none⟩)] We (fun e w'' => e = .returned (.int .i64 (G.tasks.length : Int)) ∧ w'' = We) := (size_calls K.b G We (HF.out.g.move HJ3.out.fx.below)).mono (fun _ _ h => ⟨h.1, h.2.symm⟩)
   have HSZ := Aside0.mk hsz
   clear hsz
   simp only [List.take_succ_cons, List.take_zero, List.drop_succ_cons, List.drop_zero]
   iterate 9 still_step
   still_call HSZ.out
   refine wpStill_nil ?_
   have hnn : G.needs.length = K.n := by have := HF.out.ok.nl; have := HF.out.n; omega
   have hnt : G.tasks.length = K.n := HF.out.n.symm
   by_cases hfull : lst.length = K.n
   ·have heq : ((lst.length : Int) == (G.tasks.length : Int)) = true := beq_iff_eq.2 (by rw [hfull, hnt])
    have hrs := HRES.out
    rw [hnn, if_pos hfull] at hrs
    replace HRES := Aside0.mk hrs
    have HJ4 := Aside0.mk (HJ3.out.move (below_drew (Below.refl _ _)))
    have hcl := clone_calls lA lc (up lst) We.drew (Kd.R_reads' (by simpa [up_length] using HJ4.out.fx.lst)).2.2 (by rw [up_length]; have := HF.out.n5; omega)
    rw [up_length] at hcl
    have HCL := Aside0.mk hcl
    have hc4 : We.drew.cell? ⟨K.q, 4, none⟩ = some (.slice lA lst.length lc) := by simp [World.cell?, HJ4.out.fx.sb.row]
    clear hrs hcl hnn hnt hfull
    go_wp2
    clear heq hcx hc0
    refine wp_normal ?_
    refine start_ (n := 18) (S := fun w' => w'.cell? ⟨w.heap.size, 0, none⟩ = some (.pointer (some ⟨K.q, 0, none⟩)) ∧ w'.cell? ⟨w.heap.size + 1 + 1, 0, none⟩ = some (.int .i64 (e : Int)) ∧ w'.cell? ⟨K.q, 4, none⟩ = some (.slice lA lst.length lc)) (ds := []) #[F6qc,F6qc,F6qc,F6qc,F6qc,F6qc,F6qc,F6qc,F6qc,F6qc,F6qc,F6qc,F6qc,F6qc,F6qc,F6qc,F6qc,F6qc] rfl (by kernel_rfl) rfl ⟨HJ4.out.x.cell, HJ4.out.en.cell, hc4⟩ (fun hHeld => ?_)
    clear hc4
    revert hHeld HJ4 HCL
    generalize We.drew = Wf
    intro HJ4 HCL hHeld
    refine take_ (i := 0) (N := some 30) (v := ?_) (a' := ?_) #[T6qc,F6qc,F6qc,F6qc,F6qc,F6qc,F6qc,F6qc,F6qc,F6qc,F6qc,F6qc,F6qc,F6qc,F6qc,F6qc,F6qc,F6qc] rfl rfl (by kernel_rfl) (fun _ _ _ h => h) (Or.inl ⟨by rfl, ?_⟩) hHeld ?_ ?_
    rotate_left
    ·rintro w' ⟨s0, s1, s2⟩
     go_simp
     with_reducible rfl
    rotate_left
    ·simp only [Act.put, List.setIfInBounds_toArray, List.set_cons_zero, List.set_cons_succ, i64_w, i32_w]
     rfl
    refine take_ (i := 1) (N := some 31) (v := ?_) (a' := ?_) #[T6qc,T6qc,F6qc,F6qc,F6qc,F6qc,F6qc,F6qc,F6qc,F6qc,F6qc,F6qc,F6qc,F6qc,F6qc,F6qc,F6qc,F6qc] rfl rfl (by kernel_rfl) (fun _ _ _ h => h) (Or.inl ⟨by rfl, ?_⟩) hHeld ?_ ?_
    rotate_left
    ·rintro w' ⟨s0, s1, s2⟩
     go_simp
     with_reducible rfl
    rotate_left
    ·simp only [Act.put, List.setIfInBounds_toArray, List.set_cons_zero, List.set_cons_succ, i64_w, i32_w]
     rfl
    refine take_ (i := 2) (N := some 32) (v := ?_) (a' := ?_) #[T6qc,T6qc,T6qc,F6qc,F6qc,F6qc,F6qc,F6qc,F6qc,F6qc,F6qc,F6qc,F6qc,F6qc,F6qc,F6qc,F6qc,F6qc] rfl rfl (by kernel_rfl) (fun _ _ _ h => h) (Or.inl ⟨by rfl, ?_⟩) hHeld ?_ ?_
    rotate_left
    ·rintro w' ⟨s0, s1, s2⟩
     go_simp
     with_reducible rfl
    rotate_left
    ·simp only [Act.put, List.setIfInBounds_toArray, List.set_cons_zero, List.set_cons_succ, i64_w, i32_w]
     rfl
    refine take_ (i := 3) (N := some 33) (v := ?_) (a' := ?_) #[T6qc,T6qc,T6qc,T6qc,F6qc,F6qc,F6qc,F6qc,F6qc,F6qc,F6qc,F6qc,F6qc,F6qc,F6qc,F6qc,F6qc,F6qc] rfl rfl (by kernel_rfl) (fun _ _ _ h => h) (Or.inl ⟨by rfl, ?_⟩) hHeld ?_ ?_
    rotate_left
    ·rintro w' ⟨s0, s1, s2⟩
     go_simp
     with_reducible rfl
    rotate_left
    ·simp only [Act.put, List.setIfInBounds_toArray, List.set_cons_zero, List.set_cons_succ, i64_w, i32_w]
     rfl
    refine pure_ (i := 4) (N := some 34) (v := ?_) (a' := ?_) #[T6qc,T6qc,T6qc,T6qc,T6qc,F6qc,F6qc,F6qc,F6qc,F6qc,F6qc,F6qc,F6qc,F6qc,F6qc,F6qc,F6qc,F6qc] rfl rfl (by kernel_rfl) (fun _ _ _ h => h) (Or.inl ⟨by rfl, ?_⟩) ?_ ?_
    rotate_left
    ·intro w'
     go_simp
     with_reducible rfl
    rotate_left
    ·simp only [Act.put, List.setIfInBounds_toArray, List.set_cons_zero, List.set_cons_succ, i64_w, i32_w]
     rfl
    refine pure_ (i := 5) (N := some 35) (v := ?_) (a' := ?_) #[T6qc,T6qc,T6qc,T6qc,T6qc,T6qc,F6qc,F6qc,F6qc,F6qc,F6qc,F6qc,F6qc,F6qc,F6qc,F6qc,F6qc,F6qc] rfl rfl (by kernel_rfl) (fun _ _ _ h => h) (Or.inl ⟨by rfl, ?_⟩) ?_ ?_
    rotate_left
    ·intro w'
     go_simp
     with_reducible rfl
    rotate_left
    ·simp only [Act.put, List.setIfInBounds_toArray, List.set_cons_zero, List.set_cons_succ, i64_w, i32_w]
     rfl
    refine take_ (i := 6) (N := some 36) (v := ?_) (a' := ?_) #[T6qc,T6qc,T6qc,T6qc,T6qc,T6qc,T6qc,F6qc,F6qc,F6qc,F6qc,F6qc,F6qc,F6qc,F6qc,F6qc,F6qc,F6qc] rfl rfl (by kernel_rfl) (fun _ _ _ h => h) (Or.inl ⟨by rfl, ?_⟩) hHeld ?_ ?_
    rotate_left
    ·rintro w' ⟨s0, s1, s2⟩
     go_simp
     with_reducible rfl
    rotate_left
    ·simp only [Act.put, List.setIfInBounds_toArray, List.set_cons_zero, List.set_cons_succ, i64_w, i32_w]
     rfl
    refine take_ (i := 8) (N := some 38) (v := ?_) (a' := ?_) #[T6qc,T6qc,T6qc,T6qc,T6qc,T6qc,T6qc,F6qc,T6qc,F6qc,F6qc,F6qc,F6qc,F6qc,F6qc,F6qc,F6qc,F6qc] rfl rfl (by kernel_rfl) (fun _ _ _ h => h) (Or.inl ⟨by rfl, ?_⟩) hHeld ?_ ?_
    rotate_left
    ·rintro w' ⟨s0, s1, s2⟩
     go_simp
     with_reducible rfl
    rotate_left
    ·simp only [Act.put, List.setIfInBounds_toArray, List.set_cons_zero, List.set_cons_succ, i64_w, i32_w]
     rfl
    refine one_ (i := 7) (N := some 37) #[T6qc,T6qc,T6qc,T6qc,T6qc,T6qc,T6qc,T6qc,T6qc,F6qc,F6qc,F6qc,F6qc,F6qc,F6qc,F6qc,F6qc,F6qc] rfl rfl (by kernel_rfl) (by decide) (fun K_ hK => ?_)
    refine goes_ Tryd.func64 (by kernel_rfl) rfl #[.slice lA lst.length lc] (by rfl) rfl rfl (by (try simp only [List.map_toArray, List.map_cons, List.map_nil]); rfl) ?_
    refine (HCL.out).mono ?_
    rintro e_ w5 ⟨vc, rfl, hRv, hb5⟩
    obtain ⟨Ac, cc, ec⟩ := Kd.R_slice hRv
    subst ec
    refine ⟨_, rfl, ?_⟩
    have hHeld5 : w5.cell? ⟨w.heap.size, 0, none⟩ = some (.pointer (some ⟨K.q, 0, none⟩)) ∧ w5.cell? ⟨w.heap.size + 1 + 1, 0, none⟩ = some (.int .i64 (e : Int)) ∧ w5.cell? ⟨K.q, 4, none⟩ = some (.slice lA lst.length lc) := ⟨(hb5.cell (World.block_lt_of_cell? _ _ hHeld.1)).trans hHeld.1, (hb5.cell (World.block_lt_of_cell? _ _ hHeld.2.1)).trans hHeld.2.1, (hb5.cell (World.block_lt_of_cell? _ _ hHeld.2.2)).trans hHeld.2.2⟩
    refine hK.out _ _ hHeld5 (fun hHeld => ?_)
    clear hK K_ hHeld5
    refine norm_ (a' := ?_) ?_ ?_
    rotate_left
    ·show Act.put _ (some 37) _ = _
     simp only [Act.put, List.setIfInBounds_toArray, List.set_cons_zero, List.set_cons_succ, i64_w, i32_w]
     rfl
    have hj5 := HJ4.out.fx.move hb5
    have q5 := hj5.sb.row
    have HFD := Aside0.mk (HJ4.out.found hb5 hRv)
    have hqx := HQX.out
    refine pure_ (i := 9) (N := some 39) (v := ?_) (a' := ?_) #[T6qc,T6qc,T6qc,T6qc,T6qc,T6qc,T6qc,T6qc,T6qc,T6qc,F6qc,F6qc,F6qc,F6qc,F6qc,F6qc,F6qc,F6qc] rfl rfl (by kernel_rfl) (fun _ _ _ h => h) (Or.inl ⟨by rfl, ?_⟩) ?_ ?_
    rotate_left
    ·intro w'
     go_simp
     with_reducible rfl
    rotate_left
    ·simp only [Act.put, List.setIfInBounds_toArray, List.set_cons_zero, List.set_cons_succ, i64_w, i32_w]
     rfl
    refine pure_ (i := 10) (N := some 40) (v := ?_) (a' := ?_) #[T6qc,T6qc,T6qc,T6qc,T6qc,T6qc,T6qc,T6qc,T6qc,T6qc,T6qc,F6qc,F6qc,F6qc,F6qc,F6qc,F6qc,F6qc] rfl rfl (by kernel_rfl) (fun _ _ _ h => h) (Or.inl ⟨by rfl, ?_⟩) ?_ ?_
    rotate_left
    ·intro w'
     go_simp
     with_reducible rfl
    rotate_left
    ·simp only [Act.put, List.setIfInBounds_toArray, List.set_cons_zero, List.set_cons_succ, i64_w, i32_w]
     rfl
    refine one_ (i := 11) (N := none) #[T6qc,T6qc,T6qc,T6qc,T6qc,T6qc,T6qc,T6qc,T6qc,T6qc,T6qc,T6qc,F6qc,F6qc,F6qc,F6qc,F6qc,F6qc] rfl rfl (by kernel_rfl) (by decide) (fun K_ hK => ?_)
    refine skip_ (w1 := ?_) (by rfl) rfl ?_ ?_
    rotate_left
    ·have hcq : (w5).cell? ⟨K.q, 5, none⟩ = some bv := by simp [World.cell?, q5]
     have hfq : (w5).frozen? ⟨K.q, 5, none⟩ = false := by simp [World.frozen?, q5]
     go_simp
     rfl
    refine hK.out _ _ ?hs11 (fun hHeld => ?_)
    case hs11 =>
     exact ⟨(World.cell?_of_block (a := ⟨w.heap.size, 0, none⟩) (sother _ hqx.1)).trans hHeld.1, (World.cell?_of_block (a := ⟨w.heap.size + 1 + 1, 0, none⟩) (sother _ hqx.2)).trans hHeld.2.1, by rw [World.cell?, blk_set q5 5 _]; simp⟩
    clear hK K_
    have q6 := blk_set q5 5 (.slice Ac (up lst).length cc)
    simp only [List.setIfInBounds_toArray, List.set_cons_zero, List.set_cons_succ] at q6
    obtain ⟨w6, hw6⟩ : ∃ W_, W_ = (w5).setCell ⟨K.q, 5, none⟩ (.slice Ac (up lst).length cc) := ⟨_, rfl⟩
    rw [← hw6] at hHeld q6 ⊢
    have Hw6 := Aside0.mk hw6
    clear hw6
    refine pure_ (i := 12) (N := some 41) (v := ?_) (a' := ?_) #[T6qc,T6qc,T6qc,T6qc,T6qc,T6qc,T6qc,T6qc,T6qc,T6qc,T6qc,T6qc,T6qc,F6qc,F6qc,F6qc,F6qc,F6qc] rfl rfl (by kernel_rfl) (fun _ _ _ h => h) (Or.inl ⟨by rfl, ?_⟩) ?_ ?_
    rotate_left
    ·intro w'
     go_simp
     with_reducible rfl
    rotate_left
    ·simp only [Act.put, List.setIfInBounds_toArray, List.set_cons_zero, List.set_cons_succ, i64_w, i32_w]
     rfl
    refine pure_ (i := 13) (N := some 42) (v := ?_) (a' := ?_) #[T6qc,T6qc,T6qc,T6qc,T6qc,T6qc,T6qc,T6qc,T6qc,T6qc,T6qc,T6qc,T6qc,T6qc,F6qc,F6qc,F6qc,F6qc] rfl rfl (by kernel_rfl) (fun _ _ _ h => h) (Or.inl ⟨by rfl, ?_⟩) ?_ ?_
    rotate_left
    ·intro w'
     go_simp
     with_reducible rfl
    rotate_left
    ·simp only [Act.put, List.setIfInBounds_toArray, List.set_cons_zero, List.set_cons_succ, i64_w, i32_w]
     rfl
    refine one_ (i := 14) (N := none) #[T6qc,T6qc,T6qc,T6qc,T6qc,T6qc,T6qc,T6qc,T6qc,T6qc,T6qc,T6qc,T6qc,T6qc,T6qc,F6qc,F6qc,F6qc] rfl rfl (by kernel_rfl) (by decide) (fun K_ hK => ?_)
    refine skip_ (w1 := ?_) (by rfl) rfl ?_ ?_
    rotate_left
    ·have hcq : (w6).cell? ⟨K.q, 6, none⟩ = some (.int .i64 se) := by simp [World.cell?, q6]
     have hfq : (w6).frozen? ⟨K.q, 6, none⟩ = false := by simp [World.frozen?, q6]
     go_simp
     rfl
    refine hK.out _ _ ?hs14 (fun hHeld => ?_)
    case hs14 =>
     exact ⟨(World.cell?_of_block (a := ⟨w.heap.size, 0, none⟩) (sother _ hqx.1)).trans hHeld.1, (World.cell?_of_block (a := ⟨w.heap.size + 1 + 1, 0, none⟩) (sother _ hqx.2)).trans hHeld.2.1, by rw [World.cell?, blk_set q6 6 _]; simp⟩
    clear hK K_
    have q7 := blk_set q6 6 (.int .i64 (e : Int))
    simp only [List.setIfInBounds_toArray, List.set_cons_zero, List.set_cons_succ] at q7
    obtain ⟨w7, hw7⟩ : ∃ W_, W_ = (w6).setCell ⟨K.q, 6, none⟩ (.int .i64 (e : Int)) := ⟨_, rfl⟩
    rw [← hw7] at hHeld q7 ⊢
    have Hw7 := Aside0.mk hw7
    clear hw7
    refine pure_ (i := 15) (N := some 43) (v := ?_) (a' := ?_) #[T6qc,T6qc,T6qc,T6qc,T6qc,T6qc,T6qc,T6qc,T6qc,T6qc,T6qc,T6qc,T6qc,T6qc,T6qc,T6qc,F6qc,F6qc] rfl rfl (by kernel_rfl) (fun _ _ _ h => h) (Or.inl ⟨by rfl, ?_⟩) ?_ ?_
    rotate_left
    ·intro w'
     go_simp
     with_reducible rfl
    rotate_left
    ·simp only [Act.put, List.setIfInBounds_toArray, List.set_cons_zero, List.set_cons_succ, i64_w, i32_w]
     rfl
    refine pure_ (i := 16) (N := some 44) (v := ?_) (a' := ?_) #[T6qc,T6qc,T6qc,T6qc,T6qc,T6qc,T6qc,T6qc,T6qc,T6qc,T6qc,T6qc,T6qc,T6qc,T6qc,T6qc,T6qc,F6qc] rfl rfl (by kernel_rfl) (fun _ _ _ h => h) (Or.inl ⟨by rfl, ?_⟩) ?_ ?_
    rotate_left
    ·intro w'
     go_simp
     with_reducible rfl
    rotate_left
    ·simp only [Act.put, List.setIfInBounds_toArray, List.set_cons_zero, List.set_cons_succ, i64_w, i32_w]
     rfl
    refine one_ (i := 17) (N := none) #[T6qc,T6qc,T6qc,T6qc,T6qc,T6qc,T6qc,T6qc,T6qc,T6qc,T6qc,T6qc,T6qc,T6qc,T6qc,T6qc,T6qc,T6qc] rfl rfl (by kernel_rfl) (by decide) (fun K_ hK => ?_)
    refine skip_ (w1 := ?_) (by rfl) rfl ?_ ?_
    rotate_left
    ·have hcq : (w7).cell? ⟨K.q, 7, none⟩ = some (.bool s.isSome) := by simp [World.cell?, q7]
     have hfq : (w7).frozen? ⟨K.q, 7, none⟩ = false := by simp [World.frozen?, q7]
     go_simp
     rfl
    refine hK.out _ _ ?hs17 (fun hHeld => ?_)
    case hs17 =>
     exact ⟨(World.cell?_of_block (a := ⟨w.heap.size, 0, none⟩) (sother _ hqx.1)).trans hHeld.1, (World.cell?_of_block (a := ⟨w.heap.size + 1 + 1, 0, none⟩) (sother _ hqx.2)).trans hHeld.2.1, by rw [World.cell?, blk_set q7 7 _]; simp⟩
    clear hK K_
    have q8 := blk_set q7 7 (.bool true)
    simp only [List.setIfInBounds_toArray, List.set_cons_zero, List.set_cons_succ] at q8
    obtain ⟨w8, hw8⟩ : ∃ W_, W_ = (w7).setCell ⟨K.q, 7, none⟩ (.bool true) := ⟨_, rfl⟩
    rw [← hw8] at hHeld q8 ⊢
    have Hw8 := Aside0.mk hw8
    clear hw8
    refine done_ (by kernel_rfl) ?_
    have hfd := HFD.out
    rw [← Hw6.out, ← Hw7.out, ← Hw8.out] at hfd
    have HFD2 := Aside0.mk hfd
    clear hfd q5 q6 q7 q8 hj5 hqx Hw6 Hw7 Hw8 HFD
    go_wp2
    refine leave_ret (Marks.nil w.heap.size w.heap.size w8) (fun W => results_list (rs := []) rfl (by simp) .nil) ?_
    intro W' ht
    refine ⟨rfl, ?_⟩
    rw [HRES.out]
    exact (HFD2.out.tame (Nat.le_refl _) ht).res
   ·have heq : ((lst.length : Int) == (G.tasks.length : Int)) = false := beq_eq_false_iff_ne.2 (by rw [hnt]; omega)
    have hrs := HRES.out
    rw [if_neg (by rw [hnn]; exact hfull), ← elemsN_ready (by rw [hnn, ← hnt]; exact h8)] at hrs
    obtain ⟨stp, hstp⟩ : ∃ f : Option (List Int × Nat) → Nat → Option (List Int × Nat), f = (fun s i => fromF G.tasks G.needs room K.wk k (lst ++ [i]) (L.set i (earlD G.tasks L (G.needs.getD i 0) d i room K.wk)) (d ||| 2 ^ i) (max e (earlD G.tasks L (G.needs.getD i 0) d i room K.wk + tmN G.tasks i)) s) := ⟨_, rfl⟩
    rw [← hstp] at hrs
    replace HRES := Aside0.mk hrs
    have HSTP := Aside0.mk hstp
    have HNN := Aside0.mk (show G.needs.length = K.n ∧ G.tasks.length = K.n ∧ lst.length < K.n from ⟨hnn, hnt, by have := HOV.out; omega⟩)
    clear hrs hstp hnn hnt hfull hc4
    go_wp2
    clear heq hcx hc0
    refine wp_region_still_tail 6 rfl (by kernel_rfl) ?_
    change wpStill _ _ We.drew (fun a' => wpList _ _ _ _ a' We.drew) _ _
    have hdr : Below We.heap.size We We.drew := below_drew (Below.refl _ _)
    revert hdr
    generalize We.drew = Wf
    intro hdr
    have HJ4 := Aside0.mk (HJ3.out.move hdr)
    clear hdr
    have hcx := HJ4.out.x.cell
    have hcp := HJ4.out.pl.cell
    have hc0 : Wf.cell? ⟨K.q, 0, none⟩ = some (.pointer (some ⟨K.b, 0, none⟩)) := by simp [World.cell?, HJ4.out.fx.sb.row]
    have hrc := (ready_calls K.b G d Wf (HF.out.g.move HJ4.out.fx.below) HF.out.ok HOV.out.2.2.2.2.2.2).mono (R' := fun e w' => e = .returned (.int .u16 ((G.ready d : Nat) : Int)) ∧ w' = Wf) (fun _ _ h => ⟨h.1, h.2.symm⟩)
    have hrl : G.ready d < 256 := Nat.lt_of_lt_of_le (ready_lt G d) (by rw [HNN.out.1, ← HNN.out.2.1]; exact h256)
    generalize hr_ : G.ready d = rd at hrc hrl HRES
    have HRC := Aside0.mk hrc
    have HR := Aside0.mk hr_
    clear hrc hr_
    simp only [List.take_succ_cons, List.take_zero, List.drop_succ_cons, List.drop_zero]
    iterate 5 still_step
    still_call HRC.out
    refine wpStill_nil ?_
    clear hcx hcp hc0
    go_wp2_with (go_at_call 66; refine (all_calls rd _).mono ?_; rintro e_ w' ⟨rfl, rfl⟩)
    have hst := Boxed.new Wf 77 (.int .u16 (rd : Int))
    have J5 := HJ4.out.alloc (.cells #[.int .u16 (rd : Int)] 77)
    have hs5 : (Wf.alloc (.cells #[.int .u16 (rd : Int)] 77)).heap.size = Wf.heap.size + 1 := by simp
    revert hst J5 hs5
    generalize Wf.alloc (.cells #[.int .u16 (rd : Int)] 77) = w4
    intro hst J5 hs5
    have hle : w.heap.size ≤ w4.heap.size := J5.size
    refine wp_rangeSet Tab.tame (w := w4) (w0 := w4) (p := 52) (d := 6) rfl (enters_of Tryd.func77 (by kernel_rfl) rfl)
     (all_seq Wf.heap.size rd hrl w4 (HF.out.tab.of J5.fx.below) hst.cell) (Below.refl _ _) (by simp)
     (fun ys W' => ∃ zs M' lA' lc' bv' se', ys = up zs ∧ FJ K P w L d e W' lst M' (zs.foldl stp s) lA' lc' bv' se' ∧ w4.heap.size ≤ W'.heap.size) (fun _ _ _ => False)
     (ownFrom_tame (fun ys W' W'' ht ⟨zs, M', lA', lc', bv', se', a, j, f⟩ => ⟨zs, M', lA', lc', bv', se', a, j.tame hle ht, Nat.le_trans f ht.size⟩)) (fun _ => ownFrom_tame (fun _ _ _ _ h => h))
     ⟨[], M, lA, lc, bv, se, rfl, J5, Nat.le_refl _⟩ (fun ys W' ⟨_, _, _, _, _, _, _, j, _⟩ => HF.out.tab.of j.fx.below) ?body ?done (fun _ _ _ _ _ h _ => h.elim)
    case done =>
     rintro D W2 hD ⟨zs, M', lA', lc', bv', se', hzs, J6, hsz⟩ hk
     obtain rfl : elemsN rd = zs := up_inj hzs
     have hm := (Marks.nil w.heap.size w4.heap.size W2).cons hD hle hk
     clear hzs hk
     go_wp2
     refine leave_ret hm (fun W => results_list (rs := []) rfl (by simp) .nil) ?_
     intro W' ht
     refine ⟨rfl, ?_⟩
     rw [HRES.out]
     exact (J6.tame (Nat.le_refl _) ht).res
    case body =>
     rintro l pre1 x W1 hx ⟨zs, M1, lA1, lc1, bv1, se1, rfl, J1, hsz⟩ hlt1
     gi_wp2
     obtain ⟨i, hxi, hi8, hib⟩ := mem_elems.1 hx
     have hmr := (mem_ready (G := G) (d := d) (i := i) (by have := HNN.out.1; have := HF.out.n5; have := HNN.out.2.1; omega)).1 (mem_elemsN.2 ⟨hi8, by rw [HR.out]; exact hib⟩)
     obtain ⟨hin, hdi, hz⟩ := hmr
     have hnd8 : G.needs.getD i 0 < 256 := Nat.lt_of_lt_of_le (getD_lt HF.out.ok.nb i) h256
     have hsubs := sub_none hnd8 HOV.out.2.2.2.2.2.2 hz
     have hinG : i < G.tasks.length := by have := HNN.out.1; have := HNN.out.2.1; omega
     have hovM : overBy G.tasks M1 d (20 * lst.length) := fun k_ hk_ => by rw [← endN_congr J1.agree hk_]; exact HOV.out.1 k_ hk_
     have hB : 20 * lst.length ≤ 100 := by have := HF.out.n5; have := HNN.out.2.1; have := HNN.out.2.2; omega
     obtain ⟨hv1, -, -, hfr⟩ := earlD_le HF.out.fine hinG hovM (by omega) hsubs
     have hcg := earlD_congr (g := G.tasks) (i := i) (room := room) (wk := K.wk) J1.agree hsubs
     have hst1 : (zs ++ [i]).foldl stp s = stp (zs.foldl stp s) i := by rw [List.foldl_append]; rfl
     have hst2 : stp (zs.foldl stp s) i = fromF G.tasks G.needs room K.wk k (lst ++ [i]) (L.set i (earlD G.tasks L (G.needs.getD i 0) d i room K.wk)) (d ||| 2 ^ i) (max e (earlD G.tasks L (G.needs.getD i 0) d i room K.wk + tmN G.tasks i)) (zs.foldl stp s) := by rw [HSTP.out]
     have hecall := fun (W : World) (hB_ : Below K.w0.heap.size K.w0 W) (hrw : W.heap[K.p]? = some (.cells (icells M1) 3 (0, 0))) => earliest_calls K.b G d i M1 (some ⟨K.p, 0, none⟩) K.n K.A1 K.c1 room K.wk (20 * lst.length - needEnd G.tasks M1 (G.needs.getD i 0)) W (HF.out.tab.of hB_) (HF.out.g.move hB_) HF.out.ok HF.out.task HF.out.pool hinG (J1.fx.len.trans HF.out.n) (leB_mono J1.fx.le (by omega)) (Kd.R_reads' (icells_R (base := 0) (Nat.zero_le _) hrw J1.fx.len (by have := HF.out.n5; have := HNN.out.2.1; omega))).2.2 HF.out.r3 (Kd.C_below HF.out.rc hB_) HF.out.c1 (by have := HOV.out.2.2.1; rw [HNN.out.2.1]; exact this) (by omega) hfr
     rw [J1.fx.len, ← HF.out.n1] at hecall
     rw [hcg] at hst2
     generalize earlD G.tasks M1 (G.needs.getD i 0) d i room K.wk = v at hecall hst2 hv1
     have htm := tm_int HF.out.task hinG
     have hwith := fun W => with_calls d i HOV.out.2.2.2.2.2.2 hi8 W
     have hor : d ||| 2 ^ i < 2 ^ K.n := Nat.or_lt_two_pow HOV.out.2.2.1 (Nat.pow_lt_pow_right (by omega) (by have := HNN.out.2.1; omega))
     have hit : ((i : Nat) : Int).toNat = i := Int.toNat_natCast i
     have p1 : (0 ≤ ((i : Nat) : Int)) = True := eq_true (by omega)
     have q1 : (((i : Nat) : Int) < (K.n : Int)) = True := eq_true (by have := HNN.out.2.1; omega)
     have q2 : (((i : Nat) : Int) < (G.tasks.length : Int)) = True := eq_true (by omega)
     have hiK : (i : Int) = x := hxi.symm
     have HII := Aside0.mk (show i < G.tasks.length ∧ d.testBit i = false ∧ v ≤ 20 * lst.length ∧ 20 * lst.length ≤ 100 from ⟨hinG, hdi, hv1, hB⟩)
     rw [hiK] at hit p1 q1 q2 hecall hwith
     have HIT := Aside0.mk hit
     have HIK := Aside0.mk hiK
     have HST1 := Aside0.mk hst1
     have HST2 := Aside0.mk hst2
     have HEC := Aside0.mk hecall
     have HWI := Aside0.mk hwith
     have HTM := Aside0.mk htm
     have HOR := Aside0.mk hor
     have HJ6 := Aside0.mk J1
     clear hx hxi hi8 hib hin hdi hz hnd8 hsubs hinG hovM hB hv1 hfr hcg hst1 hst2 hecall htm hwith hor hit hiK J1 hlt1
     have hko := KeepsOthers.drew W1
     have hdr : Below W1.heap.size W1 W1.drew := below_drew (Below.refl _ _)
     have HJ7 := Aside0.mk (HJ6.out.move hdr)
     have HKO := Aside0.mk hko
     have HSZ6 := Aside0.mk (Nat.le_trans hsz hdr.size)
     have HEC2 := Aside0.mk (HEC.out _ HJ7.out.fx.below HJ7.out.fx.row)
     clear hdr hko hsz HJ6 HEC
     have hcx := HJ7.out.x.cell
     have hcp := HJ7.out.pl.cell
     have hc0 : W1.drew.cell? ⟨K.q, 0, none⟩ = some (.pointer (some ⟨K.b, 0, none⟩)) := by simp [World.cell?, HJ7.out.fx.sb.row]
     have hc1 : W1.drew.cell? ⟨K.q, 1, none⟩ = some (.slice K.A1 K.n1 K.c1) := by simp [World.cell?, HJ7.out.fx.sb.row]
     have hc2 : W1.drew.cell? ⟨K.q, 2, none⟩ = some (.int .i64 K.wk) := by simp [World.cell?, HJ7.out.fx.sb.row]
     have hc3 : W1.drew.cell? ⟨K.q, 3, none⟩ = some (.slice (some ⟨K.p, 0, none⟩) K.n K.n) := by simp [World.cell?, HJ7.out.fx.sb.row]
     refine start_in (n := 26) (S := fun w' => w'.cell? ⟨w.heap.size, 0, none⟩ = some (.pointer (some ⟨K.q, 0, none⟩)) ∧ w'.cell? ⟨w.heap.size + 1, 0, none⟩ = some (.int .u16 (d : Int)) ∧ w'.cell? ⟨K.q, 0, none⟩ = some (.pointer (some ⟨K.b, 0, none⟩)) ∧ w'.cell? ⟨K.q, 1, none⟩ = some (.slice K.A1 K.n1 K.c1) ∧ w'.cell? ⟨K.q, 2, none⟩ = some (.int .i64 K.wk) ∧ w'.cell? ⟨K.q, 3, none⟩ = some (.slice (some ⟨K.p, 0, none⟩) K.n K.n)) (ds := [25]) #[F6qc,F6qc,F6qc,F6qc,F6qc,F6qc,F6qc,F6qc,F6qc,F6qc,F6qc,F6qc,F6qc,F6qc,F6qc,F6qc,F6qc,F6qc,F6qc,F6qc,F6qc,F6qc,F6qc,F6qc,F6qc,F6qc] rfl (by kernel_rfl) (fun ⟨_, _, h⟩ => h) (by kernel_rfl) rfl ⟨hcx, hcp, hc0, hc1, hc2, hc3⟩ (fun hHeld => ?_)
     revert hHeld HJ7 HKO HSZ6 HEC2
     clear hcx hcp hc0 hc1 hc2 hc3
     generalize W1.drew = Wg
     intro HJ7 HKO HSZ6 HEC2 hHeld
     refine take_ (i := 0) (N := some 53) (v := ?_) (a' := ?_) #[T6qc,F6qc,F6qc,F6qc,F6qc,F6qc,F6qc,F6qc,F6qc,F6qc,F6qc,F6qc,F6qc,F6qc,F6qc,F6qc,F6qc,F6qc,F6qc,F6qc,F6qc,F6qc,F6qc,F6qc,F6qc,F6qc] rfl rfl (by kernel_rfl) (fun _ _ _ h => h) (Or.inl ⟨by rfl, ?_⟩) hHeld ?_ ?_
     rotate_left
     ·rintro w' ⟨s0, s1, s2, s3, s4, s5⟩
      go_simp
      with_reducible rfl
     rotate_left
     ·simp only [Act.put, List.setIfInBounds_toArray, List.set_cons_zero, List.set_cons_succ, i64_w, i32_w]
      rfl
     refine pure_ (i := 1) (N := some 54) (v := ?_) (a' := ?_) #[T6qc,T6qc,F6qc,F6qc,F6qc,F6qc,F6qc,F6qc,F6qc,F6qc,F6qc,F6qc,F6qc,F6qc,F6qc,F6qc,F6qc,F6qc,F6qc,F6qc,F6qc,F6qc,F6qc,F6qc,F6qc,F6qc] rfl rfl (by kernel_rfl) (fun _ _ _ h => h) (Or.inl ⟨by rfl, ?_⟩) ?_ ?_
     rotate_left
     ·intro w'
      go_simp
      with_reducible rfl
     rotate_left
     ·simp only [Act.put, List.setIfInBounds_toArray, List.set_cons_zero, List.set_cons_succ, i64_w, i32_w]
      rfl
     refine pure_ (i := 2) (N := some 55) (v := ?_) (a' := ?_) #[T6qc,T6qc,T6qc,F6qc,F6qc,F6qc,F6qc,F6qc,F6qc,F6qc,F6qc,F6qc,F6qc,F6qc,F6qc,F6qc,F6qc,F6qc,F6qc,F6qc,F6qc,F6qc,F6qc,F6qc,F6qc,F6qc] rfl rfl (by kernel_rfl) (fun _ _ _ h => h) (Or.inl ⟨by rfl, ?_⟩) ?_ ?_
     rotate_left
     ·intro w'
      go_simp
      with_reducible rfl
     rotate_left
     ·simp only [Act.put, List.setIfInBounds_toArray, List.set_cons_zero, List.set_cons_succ, i64_w, i32_w]
      rfl
     refine take_ (i := 3) (N := some 56) (v := ?_) (a' := ?_) #[T6qc,T6qc,T6qc,T6qc,F6qc,F6qc,F6qc,F6qc,F6qc,F6qc,F6qc,F6qc,F6qc,F6qc,F6qc,F6qc,F6qc,F6qc,F6qc,F6qc,F6qc,F6qc,F6qc,F6qc,F6qc,F6qc] rfl rfl (by kernel_rfl) (fun _ _ _ h => h) (Or.inl ⟨by rfl, ?_⟩) hHeld ?_ ?_
     rotate_left
     ·rintro w' ⟨s0, s1, s2, s3, s4, s5⟩
      go_simp
      with_reducible rfl
     rotate_left
     ·simp only [Act.put, List.setIfInBounds_toArray, List.set_cons_zero, List.set_cons_succ, i64_w, i32_w]
      rfl
     refine pure_ (i := 4) (N := some 57) (v := ?_) (a' := ?_) #[T6qc,T6qc,T6qc,T6qc,T6qc,F6qc,F6qc,F6qc,F6qc,F6qc,F6qc,F6qc,F6qc,F6qc,F6qc,F6qc,F6qc,F6qc,F6qc,F6qc,F6qc,F6qc,F6qc,F6qc,F6qc,F6qc] rfl rfl (by kernel_rfl) (fun _ _ _ h => h) (Or.inl ⟨by rfl, ?_⟩) ?_ ?_
     rotate_left
     ·intro w'
      go_simp
      with_reducible rfl
     rotate_left
     ·simp only [Act.put, List.setIfInBounds_toArray, List.set_cons_zero, List.set_cons_succ, i64_w, i32_w]
      rfl
     refine take_ (i := 5) (N := some 58) (v := ?_) (a' := ?_) #[T6qc,T6qc,T6qc,T6qc,T6qc,T6qc,F6qc,F6qc,F6qc,F6qc,F6qc,F6qc,F6qc,F6qc,F6qc,F6qc,F6qc,F6qc,F6qc,F6qc,F6qc,F6qc,F6qc,F6qc,F6qc,F6qc] rfl rfl (by kernel_rfl) (fun _ _ _ h => h) (Or.inl ⟨by rfl, ?_⟩) hHeld ?_ ?_
     rotate_left
     ·rintro w' ⟨s0, s1, s2, s3, s4, s5⟩
      go_simp
      with_reducible rfl
     rotate_left
     ·simp only [Act.put, List.setIfInBounds_toArray, List.set_cons_zero, List.set_cons_succ, i64_w, i32_w]
      rfl
     refine pure_ (i := 6) (N := some 59) (v := ?_) (a' := ?_) #[T6qc,T6qc,T6qc,T6qc,T6qc,T6qc,T6qc,F6qc,F6qc,F6qc,F6qc,F6qc,F6qc,F6qc,F6qc,F6qc,F6qc,F6qc,F6qc,F6qc,F6qc,F6qc,F6qc,F6qc,F6qc,F6qc] rfl rfl (by kernel_rfl) (fun _ _ _ h => h) (Or.inl ⟨by rfl, ?_⟩) ?_ ?_
     rotate_left
     ·intro w'
      go_simp
      with_reducible rfl
     rotate_left
     ·simp only [Act.put, List.setIfInBounds_toArray, List.set_cons_zero, List.set_cons_succ, i64_w, i32_w]
      rfl
     refine pure_ (i := 7) (N := some 60) (v := ?_) (a' := ?_) #[T6qc,T6qc,T6qc,T6qc,T6qc,T6qc,T6qc,T6qc,F6qc,F6qc,F6qc,F6qc,F6qc,F6qc,F6qc,F6qc,F6qc,F6qc,F6qc,F6qc,F6qc,F6qc,F6qc,F6qc,F6qc,F6qc] rfl rfl (by kernel_rfl) (fun _ _ _ h => h) (Or.inl ⟨by rfl, ?_⟩) ?_ ?_
     rotate_left
     ·intro w'
      go_simp
      with_reducible rfl
     rotate_left
     ·simp only [Act.put, List.setIfInBounds_toArray, List.set_cons_zero, List.set_cons_succ, i64_w, i32_w]
      rfl
     refine take_ (i := 8) (N := some 61) (v := ?_) (a' := ?_) #[T6qc,T6qc,T6qc,T6qc,T6qc,T6qc,T6qc,T6qc,T6qc,F6qc,F6qc,F6qc,F6qc,F6qc,F6qc,F6qc,F6qc,F6qc,F6qc,F6qc,F6qc,F6qc,F6qc,F6qc,F6qc,F6qc] rfl rfl (by kernel_rfl) (fun _ _ _ h => h) (Or.inl ⟨by rfl, ?_⟩) hHeld ?_ ?_
     rotate_left
     ·rintro w' ⟨s0, s1, s2, s3, s4, s5⟩
      go_simp
      with_reducible rfl
     rotate_left
     ·simp only [Act.put, List.setIfInBounds_toArray, List.set_cons_zero, List.set_cons_succ, i64_w, i32_w]
      rfl
     refine take_ (i := 9) (N := some 62) (v := ?_) (a' := ?_) #[T6qc,T6qc,T6qc,T6qc,T6qc,T6qc,T6qc,T6qc,T6qc,T6qc,F6qc,F6qc,F6qc,F6qc,F6qc,F6qc,F6qc,F6qc,F6qc,F6qc,F6qc,F6qc,F6qc,F6qc,F6qc,F6qc] rfl rfl (by kernel_rfl) (fun _ _ _ h => h) (Or.inl ⟨by rfl, ?_⟩) hHeld ?_ ?_
     rotate_left
     ·rintro w' ⟨s0, s1, s2, s3, s4, s5⟩
      go_simp
      with_reducible rfl
     rotate_left
     ·simp only [Act.put, List.setIfInBounds_toArray, List.set_cons_zero, List.set_cons_succ, i64_w, i32_w]
      rfl
     refine pure_ (i := 10) (N := some 63) (v := ?_) (a' := ?_) #[T6qc,T6qc,T6qc,T6qc,T6qc,T6qc,T6qc,T6qc,T6qc,T6qc,T6qc,F6qc,F6qc,F6qc,F6qc,F6qc,F6qc,F6qc,F6qc,F6qc,F6qc,F6qc,F6qc,F6qc,F6qc,F6qc] rfl rfl (by kernel_rfl) (fun _ _ _ h => h) (Or.inl ⟨by rfl, ?_⟩) ?_ ?_
     rotate_left
     ·intro w'
      go_simp
      with_reducible rfl
     rotate_left
     ·simp only [Act.put, List.setIfInBounds_toArray, List.set_cons_zero, List.set_cons_succ, i64_w, i32_w]
      rfl
     refine pure_ (i := 11) (N := some 64) (v := ?_) (a' := ?_) #[T6qc,T6qc,T6qc,T6qc,T6qc,T6qc,T6qc,T6qc,T6qc,T6qc,T6qc,T6qc,F6qc,F6qc,F6qc,F6qc,F6qc,F6qc,F6qc,F6qc,F6qc,F6qc,F6qc,F6qc,F6qc,F6qc] rfl rfl (by kernel_rfl) (fun _ _ _ h => h) (Or.inl ⟨by rfl, ?_⟩) ?_ ?_
     rotate_left
     ·intro w'
      go_simp
      with_reducible rfl
     rotate_left
     ·simp only [Act.put, List.setIfInBounds_toArray, List.set_cons_zero, List.set_cons_succ, i64_w, i32_w]
      rfl
     refine take_ (i := 12) (N := some 65) (v := ?_) (a' := ?_) #[T6qc,T6qc,T6qc,T6qc,T6qc,T6qc,T6qc,T6qc,T6qc,T6qc,T6qc,T6qc,T6qc,F6qc,F6qc,F6qc,F6qc,F6qc,F6qc,F6qc,F6qc,F6qc,F6qc,F6qc,F6qc,F6qc] rfl rfl (by kernel_rfl) (fun _ _ _ h => h) (Or.inl ⟨by rfl, ?_⟩) hHeld ?_ ?_
     rotate_left
     ·rintro w' ⟨s0, s1, s2, s3, s4, s5⟩
      go_simp
      with_reducible rfl
     rotate_left
     ·simp only [Act.put, List.setIfInBounds_toArray, List.set_cons_zero, List.set_cons_succ, i64_w, i32_w]
      rfl
     refine take_ (i := 13) (N := some 66) (v := ?_) (a' := ?_) #[T6qc,T6qc,T6qc,T6qc,T6qc,T6qc,T6qc,T6qc,T6qc,T6qc,T6qc,T6qc,T6qc,T6qc,F6qc,F6qc,F6qc,F6qc,F6qc,F6qc,F6qc,F6qc,F6qc,F6qc,F6qc,F6qc] rfl rfl (by kernel_rfl) (fun _ _ _ h => h) (Or.inl ⟨by rfl, ?_⟩) hHeld ?_ ?_
     rotate_left
     ·rintro w' ⟨s0, s1, s2, s3, s4, s5⟩
      go_simp
      with_reducible rfl
     rotate_left
     ·simp only [Act.put, List.setIfInBounds_toArray, List.set_cons_zero, List.set_cons_succ, i64_w, i32_w]
      rfl
     refine pure_ (i := 14) (N := some 67) (v := ?_) (a' := ?_) #[T6qc,T6qc,T6qc,T6qc,T6qc,T6qc,T6qc,T6qc,T6qc,T6qc,T6qc,T6qc,T6qc,T6qc,T6qc,F6qc,F6qc,F6qc,F6qc,F6qc,F6qc,F6qc,F6qc,F6qc,F6qc,F6qc] rfl rfl (by kernel_rfl) (fun _ _ _ h => h) (Or.inl ⟨by rfl, ?_⟩) ?_ ?_
     rotate_left
     ·intro w'
      go_simp
      with_reducible rfl
     rotate_left
     ·simp only [Act.put, List.setIfInBounds_toArray, List.set_cons_zero, List.set_cons_succ, i64_w, i32_w]
      rfl
     refine take_ (i := 15) (N := some 68) (v := ?_) (a' := ?_) #[T6qc,T6qc,T6qc,T6qc,T6qc,T6qc,T6qc,T6qc,T6qc,T6qc,T6qc,T6qc,T6qc,T6qc,T6qc,T6qc,F6qc,F6qc,F6qc,F6qc,F6qc,F6qc,F6qc,F6qc,F6qc,F6qc] rfl rfl (by kernel_rfl) (fun _ _ _ h => h) (Or.inl ⟨by rfl, ?_⟩) hHeld ?_ ?_
     rotate_left
     ·rintro w' ⟨s0, s1, s2, s3, s4, s5⟩
      go_simp
      with_reducible rfl
     rotate_left
     ·simp only [Act.put, List.setIfInBounds_toArray, List.set_cons_zero, List.set_cons_succ, i64_w, i32_w]
      rfl
     refine pure_ (i := 16) (N := some 69) (v := ?_) (a' := ?_) #[T6qc,T6qc,T6qc,T6qc,T6qc,T6qc,T6qc,T6qc,T6qc,T6qc,T6qc,T6qc,T6qc,T6qc,T6qc,T6qc,T6qc,F6qc,F6qc,F6qc,F6qc,F6qc,F6qc,F6qc,F6qc,F6qc] rfl rfl (by kernel_rfl) (fun _ _ _ h => h) (Or.inl ⟨by rfl, ?_⟩) ?_ ?_
     rotate_left
     ·intro w'
      go_simp
      with_reducible rfl
     rotate_left
     ·simp only [Act.put, List.setIfInBounds_toArray, List.set_cons_zero, List.set_cons_succ, i64_w, i32_w]
      rfl
     refine pure_ (i := 17) (N := some 70) (v := ?_) (a' := ?_) #[T6qc,T6qc,T6qc,T6qc,T6qc,T6qc,T6qc,T6qc,T6qc,T6qc,T6qc,T6qc,T6qc,T6qc,T6qc,T6qc,T6qc,T6qc,F6qc,F6qc,F6qc,F6qc,F6qc,F6qc,F6qc,F6qc] rfl rfl (by kernel_rfl) (fun _ _ _ h => h) (Or.inl ⟨by rfl, ?_⟩) ?_ ?_
     rotate_left
     ·intro w'
      go_simp
      with_reducible rfl
     rotate_left
     ·simp only [Act.put, List.setIfInBounds_toArray, List.set_cons_zero, List.set_cons_succ, i64_w, i32_w]
      rfl
     refine take_ (i := 18) (N := some 71) (v := ?_) (a' := ?_) #[T6qc,T6qc,T6qc,T6qc,T6qc,T6qc,T6qc,T6qc,T6qc,T6qc,T6qc,T6qc,T6qc,T6qc,T6qc,T6qc,T6qc,T6qc,T6qc,F6qc,F6qc,F6qc,F6qc,F6qc,F6qc,F6qc] rfl rfl (by kernel_rfl) (fun _ _ _ h => h) (Or.inl ⟨by rfl, ?_⟩) hHeld ?_ ?_
     rotate_left
     ·rintro w' ⟨s0, s1, s2, s3, s4, s5⟩
      go_simp
      with_reducible rfl
     rotate_left
     ·simp only [Act.put, List.setIfInBounds_toArray, List.set_cons_zero, List.set_cons_succ, i64_w, i32_w]
      rfl
     refine take_ (i := 19) (N := some 72) (v := ?_) (a' := ?_) #[T6qc,T6qc,T6qc,T6qc,T6qc,T6qc,T6qc,T6qc,T6qc,T6qc,T6qc,T6qc,T6qc,T6qc,T6qc,T6qc,T6qc,T6qc,T6qc,T6qc,F6qc,F6qc,F6qc,F6qc,F6qc,F6qc] rfl rfl (by kernel_rfl) (fun _ _ _ h => h) (Or.inl ⟨by rfl, ?_⟩) hHeld ?_ ?_
     rotate_left
     ·rintro w' ⟨s0, s1, s2, s3, s4, s5⟩
      go_simp
      with_reducible rfl
     rotate_left
     ·simp only [Act.put, List.setIfInBounds_toArray, List.set_cons_zero, List.set_cons_succ, i64_w, i32_w]
      rfl
     refine pure_ (i := 20) (N := some 73) (v := ?_) (a' := ?_) #[T6qc,T6qc,T6qc,T6qc,T6qc,T6qc,T6qc,T6qc,T6qc,T6qc,T6qc,T6qc,T6qc,T6qc,T6qc,T6qc,T6qc,T6qc,T6qc,T6qc,T6qc,F6qc,F6qc,F6qc,F6qc,F6qc] rfl rfl (by kernel_rfl) (fun _ _ _ h => h) (Or.inl ⟨by rfl, ?_⟩) ?_ ?_
     rotate_left
     ·intro w'
      go_simp
      with_reducible rfl
     rotate_left
     ·simp only [Act.put, List.setIfInBounds_toArray, List.set_cons_zero, List.set_cons_succ, i64_w, i32_w]
      rfl
     refine pure_ (i := 21) (N := some 74) (v := ?_) (a' := ?_) #[T6qc,T6qc,T6qc,T6qc,T6qc,T6qc,T6qc,T6qc,T6qc,T6qc,T6qc,T6qc,T6qc,T6qc,T6qc,T6qc,T6qc,T6qc,T6qc,T6qc,T6qc,T6qc,F6qc,F6qc,F6qc,F6qc] rfl rfl (by kernel_rfl) (fun _ _ _ h => h) (Or.inl ⟨by rfl, ?_⟩) ?_ ?_
     rotate_left
     ·intro w'
      go_simp
      with_reducible rfl
     rotate_left
     ·simp only [Act.put, List.setIfInBounds_toArray, List.set_cons_zero, List.set_cons_succ, i64_w, i32_w]
      rfl
     refine take_ (i := 22) (N := some 75) (v := ?_) (a' := ?_) #[T6qc,T6qc,T6qc,T6qc,T6qc,T6qc,T6qc,T6qc,T6qc,T6qc,T6qc,T6qc,T6qc,T6qc,T6qc,T6qc,T6qc,T6qc,T6qc,T6qc,T6qc,T6qc,T6qc,F6qc,F6qc,F6qc] rfl rfl (by kernel_rfl) (fun _ _ _ h => h) (Or.inl ⟨by rfl, ?_⟩) hHeld ?_ ?_
     rotate_left
     ·rintro w' ⟨s0, s1, s2, s3, s4, s5⟩
      go_simp
      with_reducible rfl
     rotate_left
     ·simp only [Act.put, List.setIfInBounds_toArray, List.set_cons_zero, List.set_cons_succ, i64_w, i32_w]
      rfl
     refine one_ (i := 23) (N := some 76) #[T6qc,T6qc,T6qc,T6qc,T6qc,T6qc,T6qc,T6qc,T6qc,T6qc,T6qc,T6qc,T6qc,T6qc,T6qc,T6qc,T6qc,T6qc,T6qc,T6qc,T6qc,T6qc,T6qc,T6qc,F6qc,F6qc] rfl rfl (by kernel_rfl) (by decide) (fun K_ hK => ?_)
     refine goes_ Tryd.func67 (by kernel_rfl) rfl #[.pointer (some ⟨K.b, 0, none⟩), .slice (some ⟨K.p, 0, none⟩) K.n K.n, .int .u16 (d : Int), .int .i64 x, .slice K.A1 K.n1 K.c1, .int .i64 K.wk] (by rfl) rfl rfl (by (try simp only [List.map_toArray, List.map_cons, List.map_nil]); rfl) ?_
     refine HEC2.out.mono ?_
     rintro e_ w5 ⟨rfl, hb5⟩
     refine ⟨_, rfl, ?_⟩
     have hHeld5 := (show (fun w' => w'.cell? ⟨w.heap.size, 0, none⟩ = some (.pointer (some ⟨K.q, 0, none⟩)) ∧ w'.cell? ⟨w.heap.size + 1, 0, none⟩ = some (.int .u16 (d : Int)) ∧ w'.cell? ⟨K.q, 0, none⟩ = some (.pointer (some ⟨K.b, 0, none⟩)) ∧ w'.cell? ⟨K.q, 1, none⟩ = some (.slice K.A1 K.n1 K.c1) ∧ w'.cell? ⟨K.q, 2, none⟩ = some (.int .i64 K.wk) ∧ w'.cell? ⟨K.q, 3, none⟩ = some (.slice (some ⟨K.p, 0, none⟩) K.n K.n)) w5 from ⟨(hb5.cell (World.block_lt_of_cell? _ _ hHeld.1)).trans hHeld.1, (hb5.cell (World.block_lt_of_cell? _ _ hHeld.2.1)).trans hHeld.2.1, (hb5.cell (World.block_lt_of_cell? _ _ hHeld.2.2.1)).trans hHeld.2.2.1, (hb5.cell (World.block_lt_of_cell? _ _ hHeld.2.2.2.1)).trans hHeld.2.2.2.1, (hb5.cell (World.block_lt_of_cell? _ _ hHeld.2.2.2.2.1)).trans hHeld.2.2.2.2.1, (hb5.cell (World.block_lt_of_cell? _ _ hHeld.2.2.2.2.2)).trans hHeld.2.2.2.2.2⟩)
     refine hK.out _ _ hHeld5 (fun _ => ?_)
     clear hK K_ hHeld5 hHeld
     refine norm_ (a' := ?_) ?_ ?_
     rotate_left
     ·show Act.put _ (some 76) _ = _
      simp only [Act.put, List.setIfInBounds_toArray, List.set_cons_zero, List.set_cons_succ, i64_w, i32_w]
      rfl
     have HJ8 := Aside0.mk (HJ7.out.move hb5)
     have HKO8 := Aside0.mk (HKO.out.trans (keepsOthers_below hb5))
     have HSZ8 := Aside0.mk (Nat.le_trans HSZ6.out hb5.size)
     clear hb5 HJ7 HKO HSZ6 HEC2
     have hci := icell HJ8.out.fx.row i (by have h1 := HJ8.out.fx.len; have h2 := HII.out.1; have h3 := HNN.out.2.1; omega)
     have hfi := ifrozen HJ8.out.fx.row i
     rw [← HIT.out] at hci hfi
     refine pure_ (i := 24) (N := some 77) (v := ?_) (a' := ?_) #[T6qc,T6qc,T6qc,T6qc,T6qc,T6qc,T6qc,T6qc,T6qc,T6qc,T6qc,T6qc,T6qc,T6qc,T6qc,T6qc,T6qc,T6qc,T6qc,T6qc,T6qc,T6qc,T6qc,T6qc,T6qc,F6qc] rfl rfl (by kernel_rfl) (fun _ _ _ h => h) (Or.inl ⟨by rfl, ?_⟩) ?_ ?_
     rotate_left
     ·intro w'
      go_simp
      with_reducible rfl
     rotate_left
     ·simp only [Act.put, List.setIfInBounds_toArray, List.set_cons_zero, List.set_cons_succ, i64_w, i32_w]
      rfl
     refine last_ (i := 25) (N := none) #[T6qc,T6qc,T6qc,T6qc,T6qc,T6qc,T6qc,T6qc,T6qc,T6qc,T6qc,T6qc,T6qc,T6qc,T6qc,T6qc,T6qc,T6qc,T6qc,T6qc,T6qc,T6qc,T6qc,T6qc,T6qc,T6qc] rfl rfl (by kernel_rfl) (by decide) (fun K_ hK => ?_)
     refine skip_ (w1 := ?_) (by rfl) rfl ?_ ?_
     rotate_left
     ·go_simp
      rfl
     refine hK.out _ _ ?_
     clear hK K_
     refine done_ (by kernel_rfl) ?_
     have J9 : FJ K P w L d e (w5.setCell ⟨K.p, x.toNat, none⟩ (.int .i64 (v : Int))) lst (M1.set i v) (zs.foldl stp s) lA1 lc1 bv1 se1 := by
      rw [HIT.out]
      exact HJ8.out.start i v (by have := HII.out.2.2.1; have := HII.out.2.2.2; omega) HII.out.2.1
     have ko9 := HKO8.out.trans (KeepsOthers.setCell w5 ⟨K.p, x.toNat, none⟩ (.int .i64 (v : Int)))
     have sz9 := Nat.le_trans HSZ8.out (KeepsOthers.setCell w5 ⟨K.p, x.toNat, none⟩ (.int .i64 (v : Int))).size
     have ml1 := HJ8.out.fx.len
     clear hci hfi HJ8 HKO8 HSZ8
     revert J9 ko9 sz9
     generalize w5.setCell ⟨K.p, x.toNat, none⟩ (.int .i64 (v : Int)) = w6
     intro J9 ko9 sz9
     have HML := Aside0.mk ml1
     clear ml1
     gi_wp2
     have hko := ko9.trans (KeepsOthers.drew w6)
     have hdr : Below w6.heap.size w6 w6.drew := below_drew (Below.refl _ _)
     have HJ10 := Aside0.mk (J9.move hdr)
     have HKO10 := Aside0.mk hko
     have HSZ10 := Aside0.mk (Nat.le_trans sz9 hdr.size)
     clear hdr hko sz9 ko9 J9
     have hcx := HJ10.out.x.cell
     have hc4 : w6.drew.cell? ⟨K.q, 4, none⟩ = some (.slice lA1 lst.length lc1) := by simp [World.cell?, HJ10.out.fx.sb.row]
     refine start_in (n := 11) (S := fun w' => w'.cell? ⟨w.heap.size, 0, none⟩ = some (.pointer (some ⟨K.q, 0, none⟩)) ∧ w'.cell? ⟨K.q, 4, none⟩ = some (.slice lA1 lst.length lc1)) (ds := [10]) #[F6qc,F6qc,F6qc,F6qc,F6qc,F6qc,F6qc,F6qc,F6qc,F6qc,F6qc] rfl (by kernel_rfl) (fun ⟨_, _, h⟩ => h) (by kernel_rfl) rfl ⟨hcx, hc4⟩ (fun hHeld => ?_)
     revert hHeld HJ10 HKO10 HSZ10
     clear hcx hc4
     generalize w6.drew = Wh
     intro HJ10 HKO10 HSZ10 hHeld
     refine take_ (i := 0) (N := some 78) (v := ?_) (a' := ?_) #[T6qc,F6qc,F6qc,F6qc,F6qc,F6qc,F6qc,F6qc,F6qc,F6qc,F6qc] rfl rfl (by kernel_rfl) (fun _ _ _ h => h) (Or.inl ⟨by rfl, ?_⟩) hHeld ?_ ?_
     rotate_left
     ·rintro w' ⟨s0, s1⟩
      go_simp
      with_reducible rfl
     rotate_left
     ·simp only [Act.put, List.setIfInBounds_toArray, List.set_cons_zero, List.set_cons_succ, i64_w, i32_w]
      rfl
     refine take_ (i := 1) (N := some 79) (v := ?_) (a' := ?_) #[T6qc,T6qc,F6qc,F6qc,F6qc,F6qc,F6qc,F6qc,F6qc,F6qc,F6qc] rfl rfl (by kernel_rfl) (fun _ _ _ h => h) (Or.inl ⟨by rfl, ?_⟩) hHeld ?_ ?_
     rotate_left
     ·rintro w' ⟨s0, s1⟩
      go_simp
      with_reducible rfl
     rotate_left
     ·simp only [Act.put, List.setIfInBounds_toArray, List.set_cons_zero, List.set_cons_succ, i64_w, i32_w]
      rfl
     refine pure_ (i := 2) (N := some 80) (v := ?_) (a' := ?_) #[T6qc,T6qc,T6qc,F6qc,F6qc,F6qc,F6qc,F6qc,F6qc,F6qc,F6qc] rfl rfl (by kernel_rfl) (fun _ _ _ h => h) (Or.inl ⟨by rfl, ?_⟩) ?_ ?_
     rotate_left
     ·intro w'
      go_simp
      with_reducible rfl
     rotate_left
     ·simp only [Act.put, List.setIfInBounds_toArray, List.set_cons_zero, List.set_cons_succ, i64_w, i32_w]
      rfl
     refine pure_ (i := 3) (N := some 81) (v := ?_) (a' := ?_) #[T6qc,T6qc,T6qc,T6qc,F6qc,F6qc,F6qc,F6qc,F6qc,F6qc,F6qc] rfl rfl (by kernel_rfl) (fun _ _ _ h => h) (Or.inl ⟨by rfl, ?_⟩) ?_ ?_
     rotate_left
     ·intro w'
      go_simp
      with_reducible rfl
     rotate_left
     ·simp only [Act.put, List.setIfInBounds_toArray, List.set_cons_zero, List.set_cons_succ, i64_w, i32_w]
      rfl
     refine take_ (i := 4) (N := some 82) (v := ?_) (a' := ?_) #[T6qc,T6qc,T6qc,T6qc,T6qc,F6qc,F6qc,F6qc,F6qc,F6qc,F6qc] rfl rfl (by kernel_rfl) (fun _ _ _ h => h) (Or.inl ⟨by rfl, ?_⟩) hHeld ?_ ?_
     rotate_left
     ·rintro w' ⟨s0, s1⟩
      go_simp
      with_reducible rfl
     rotate_left
     ·simp only [Act.put, List.setIfInBounds_toArray, List.set_cons_zero, List.set_cons_succ, i64_w, i32_w]
      rfl
     refine pure_ (i := 5) (N := some 83) (v := ?_) (a' := ?_) #[T6qc,T6qc,T6qc,T6qc,T6qc,T6qc,F6qc,F6qc,F6qc,F6qc,F6qc] rfl rfl (by kernel_rfl) (fun _ _ _ h => h) (Or.inl ⟨by rfl, ?_⟩) ?_ ?_
     rotate_left
     ·intro w'
      go_simp
      with_reducible rfl
     rotate_left
     ·simp only [Act.put, List.setIfInBounds_toArray, List.set_cons_zero, List.set_cons_succ, i64_w, i32_w]
      rfl
     refine one_ (i := 6) (N := some 84) #[T6qc,T6qc,T6qc,T6qc,T6qc,T6qc,T6qc,F6qc,F6qc,F6qc,F6qc] rfl rfl (by kernel_rfl) (by decide) (fun K_ hK => ?_)
     refine value_ (v := .slice (some ⟨Wh.heap.size, 0, none⟩) 1 1) (w1 := Wh.alloc (.cells #[.int .i64 x] 3)) (by rfl) rfl ?_ ?_
     ·go_simp
     refine hK.out _ _ ⟨(((Below.refl Wh.heap.size Wh).alloc (Nat.le_refl _) _).cell (World.block_lt_of_cell? _ _ hHeld.1)).trans hHeld.1, (((Below.refl Wh.heap.size Wh).alloc (Nat.le_refl _) _).cell (World.block_lt_of_cell? _ _ hHeld.2)).trans hHeld.2⟩ (fun _ => ?_)
     clear hK K_
     refine norm_ (a' := ?_) ?_ ?_
     rotate_left
     ·show Act.put _ (some 84) _ = _
      simp only [Act.put, List.setIfInBounds_toArray, List.set_cons_zero, List.set_cons_succ, i64_w, i32_w]
      rfl
     refine one_ (i := 7) (N := some 85) #[T6qc,T6qc,T6qc,T6qc,T6qc,T6qc,T6qc,T6qc,F6qc,F6qc,F6qc] rfl rfl (by kernel_rfl) (by decide) (fun K_ hK => ?_)
     refine Kd.R_append_step (Kd.int .i64) (w0 := K.w0) K.w0.heap.size (by rfl) (.tmp 82) (.tmp 84) 23 3 (.int .i64 0) 8 rfl Tryd.underlying23 infoIntC rfl (by decide) (by omega) (.slice lA1 lst.length lc1) (up lst) x [.int .i64 x] (fun k_ => PF P w.heap.size k_ ∧ k_ ≠ K.q ∧ k_ ≠ K.p ∧ some k_ ≠ bv1.ownBlock) (fun _ => False) rfl rfl ?aP (fun _ hk => hk.elim) ?aF ?aO ?aB ?aS ?aL ?_
     case aP => exact rfl
     case aF => exact fun k_ hk_ => ⟨⟨HP.out k_ (Nat.le_trans HJ10.out.size hk_), by have := HJ10.out.x.lt; omega, by have := HJ10.out.pl.lt; omega, by have := HJ10.out.en.lt; omega⟩, by have := HJ10.out.fx.qlt; omega, by have := HJ10.out.fx.plt; omega, fun e2 => by have := HJ10.out.fx.bown k_ e2.symm; omega⟩
     case aO => exact HJ10.out.fx.lst
     case aB => exact HJ10.out.fx.below
     case aS => exact HJ10.out.fx.size
     case aL => rw [up_length]; have := HII.out.2.2.2; omega
     intro v1_ w7 ho hb hg hat
     obtain ⟨A9, c9, e9⟩ := Kd.R_slice ho
     rw [show (up lst ++ [x]).length = lst.length + 1 by simp [up]] at e9
     subst e9
     rw [← HIK.out] at ho
     have HJ11 := Aside0.mk (HJ10.out.appended ho hg hb)
     have HKO11 := Aside0.mk (HKO10.out.trans (KeepsOthers.of_grownBy hg (fun j o ej hj => by obtain ⟨cs, tt, hc⟩ := Kd.R_ownTyped HJ10.out.fx.lst j ej; rw [hc] at hj; cases hj; rfl)))
     have HSZ11 := Aside0.mk (Nat.le_trans HSZ10.out hg.size)
     have hq7 := (hg.block K.q HJ10.out.fx.qlt (fun e1 => (HJ10.out.fx.lst.1 K.q e1.symm).2.1 rfl)).trans HJ10.out.fx.sb.row
     have hx7 := (hg.block w.heap.size HJ10.out.x.lt (fun e1 => (HJ10.out.fx.lst.1 w.heap.size e1.symm).1.2.1 rfl)).trans HJ10.out.x
     have hc4 : w7.cell? ⟨K.q, 4, none⟩ = some (.slice lA1 lst.length lc1) := by simp [World.cell?, hq7]
     have hf4 : w7.frozen? ⟨K.q, 4, none⟩ = false := by simp [World.frozen?, hq7]
     refine hK.out _ _ ⟨Boxed.cell hx7, hc4⟩ (fun _ => ?_)
     clear hK K_ ho hb hg hat hq7 hx7 HJ10 HKO10 HSZ10 hHeld
     refine norm_ (a' := ?_) ?_ ?_
     rotate_left
     ·show Act.put _ (some 85) _ = _
      simp only [Act.put, List.setIfInBounds_toArray, List.set_cons_zero, List.set_cons_succ, i64_w, i32_w]
      rfl
     refine pure_ (i := 8) (N := some 86) (v := ?_) (a' := ?_) #[T6qc,T6qc,T6qc,T6qc,T6qc,T6qc,T6qc,T6qc,T6qc,F6qc,F6qc] rfl rfl (by kernel_rfl) (fun _ _ _ h => h) (Or.inl ⟨by rfl, ?_⟩) ?_ ?_
     rotate_left
     ·intro w'
      go_simp
      with_reducible rfl
     rotate_left
     ·simp only [Act.put, List.setIfInBounds_toArray, List.set_cons_zero, List.set_cons_succ, i64_w, i32_w]
      rfl
     refine pure_ (i := 9) (N := some 87) (v := ?_) (a' := ?_) #[T6qc,T6qc,T6qc,T6qc,T6qc,T6qc,T6qc,T6qc,T6qc,T6qc,F6qc] rfl rfl (by kernel_rfl) (fun _ _ _ h => h) (Or.inl ⟨by rfl, ?_⟩) ?_ ?_
     rotate_left
     ·intro w'
      go_simp
      with_reducible rfl
     rotate_left
     ·simp only [Act.put, List.setIfInBounds_toArray, List.set_cons_zero, List.set_cons_succ, i64_w, i32_w]
      rfl
     refine last_ (i := 10) (N := none) #[T6qc,T6qc,T6qc,T6qc,T6qc,T6qc,T6qc,T6qc,T6qc,T6qc,T6qc] rfl rfl (by kernel_rfl) (by decide) (fun K_ hK => ?_)
     refine skip_ (w1 := ?_) (by rfl) rfl ?_ ?_
     rotate_left
     ·go_simp
      rfl
     refine hK.out _ _ ?_
     clear hK K_
     refine done_ (by kernel_rfl) ?_
     have J12 := HJ11.out
     have ko12 := HKO11.out.trans (KeepsOthers.setCell w7 ⟨K.q, 4, none⟩ (.slice A9 (lst.length + 1) c9))
     have sz12 := Nat.le_trans HSZ11.out (KeepsOthers.setCell w7 ⟨K.q, 4, none⟩ (.slice A9 (lst.length + 1) c9)).size
     clear hc4 hf4 HJ11 HKO11 HSZ11
     revert J12 ko12 sz12
     generalize w7.setCell ⟨K.q, 4, none⟩ (.slice A9 (lst.length + 1) c9) = w8
     intro J12 ko12 sz12
     gi_wp2
     have hor256 : d ||| 2 ^ i < 2 ^ K.n := HOR.out
     have hml : (M1.set i v).getD i 0 = v := by rw [List.getD_eq_getElem?_getD, List.getElem?_set_self (by have h1 := HML.out; have h2 := HII.out.1; have h3 := HNN.out.2.1; omega), Option.getD_some]
     have hmx : (if (e : Int) < IntKind.i64.wrap ((v : Int) + ((tmN G.tasks i : Nat) : Int)) then IntKind.i64.wrap ((v : Int) + ((tmN G.tasks i : Nat) : Int)) else (e : Int)) = ((max e (v + tmN G.tasks i) : Nat) : Int) := by
      rw [(wadd (a := v) (b := tmN G.tasks i) (by have := HII.out.2.2.1; have := HII.out.2.2.2; omega) (by have := HTM.out.2.2; omega)).2]
      exact wmax _ _
     have hmax_ := max2_int
     refine wpIn_still_tail 25 rfl (by kernel_rfl) (by kernel_rfl) (fun ⟨_, _, h⟩ => h) ?_
     change wpStill _ _ w8.drew (fun a' => wpList _ _ _ _ a' w8.drew) _ _
     have hdr : Below w8.heap.size w8 w8.drew := below_drew (Below.refl _ _)
     have hko := ko12.trans (KeepsOthers.drew w8)
     revert hdr hko
     generalize w8.drew = Wi
     intro hdr hko
     have HJ13 := Aside0.mk (J12.move hdr)
     have HKO13 := Aside0.mk hko
     have HSZ13 := Aside0.mk (Nat.le_trans sz12 hdr.size)
     clear hdr hko sz12 ko12 J12 hmax_
     have hcx := HJ13.out.x.cell
     have hcp := HJ13.out.pl.cell
     have hce := HJ13.out.en.cell
     have hc0 : Wi.cell? ⟨K.q, 0, none⟩ = some (.pointer (some ⟨K.b, 0, none⟩)) := by simp [World.cell?, HJ13.out.fx.sb.row]
     have hc3 : Wi.cell? ⟨K.q, 3, none⟩ = some (.slice (some ⟨K.p, 0, none⟩) K.n K.n) := by simp [World.cell?, HJ13.out.fx.sb.row]
     have hci := icell HJ13.out.fx.row i (by rw [List.length_set]; have h1 := HML.out; have h2 := HII.out.1; have h3 := HNN.out.2.1; omega)
     rw [hml, ← HIT.out] at hci
     obtain ⟨At_, ct_, hct0, hctl, hctC⟩ := (HF.out.g.move HJ13.out.fx.below).tasks
     obtain ⟨ad, At, ct, e0, h0, h1, h2, h3_, h4, h5⟩ := at_T39 hctC x (of_eq_true p1) (of_eq_true q2)
     subst e0
     have hrd : rd_T39 G.tasks x = G.tasks.getD i z39 := by rw [← HIK.out]; simp [rd_T39]
     rw [hrd, HTM.out.1] at h0
     have hrec := HIH.out (PF P w.heap.size) (lst ++ [i]) (L.set i v) (M1.set i v) (d ||| 2 ^ i) (max e (v + tmN G.tasks i)) (zs.foldl stp s) A9 c9 bv1 se1 Wi (by have := HOV.out.2.2.2.2.1; rw [List.length_append, List.length_singleton]; omega) (by have := HNN.out.2.2; rw [List.length_append, List.length_singleton]; omega) HJ13.out.fx (fun k_ hk_ => ⟨HP.out k_ (Nat.le_trans HJ13.out.size hk_), by have := HJ13.out.x.lt; omega, by have := HJ13.out.pl.lt; omega, by have := HJ13.out.en.lt; omega⟩) (HJ13.out.agree.more (by have h1 := HOV.out.2.1; have h2 := HII.out.1; have h3 := HNN.out.2.1; omega) (by have h1 := HML.out; have h2 := HII.out.1; have h3 := HNN.out.2.1; omega)) (by rw [List.length_set]; exact HOV.out.2.1) hor256 (over_more HOV.out.1 (by have h1 := HOV.out.2.1; have h2 := HII.out.1; have h3 := HNN.out.2.1; omega) (by have h1 := HII.out.2.2.1; have h2 := HTM.out.2.2; rw [List.length_append, List.length_singleton]; omega) (by rw [List.length_append, List.length_singleton]; omega)) (by have h1 := HII.out.2.2.1; have h2 := HTM.out.2.2; have h3 := HOV.out.2.2.2.1; rw [List.length_append, List.length_singleton]; omega)
     rw [← HST2.out, ← HST1.out] at hrec
     have HREC := Aside0.mk hrec
     have HMX := Aside0.mk hmx
     have HWW := Aside0.mk ((HWI.out Wi).mono (R' := fun e_ w_ => e_ = .returned (.int .u16 ((d ||| 2 ^ i : Nat) : Int)) ∧ w_ = Wi) (fun _ _ h => ⟨h.1, h.2.symm⟩))
     generalize ((v : Nat) : Int) = vI at hci HMX
     generalize ((tmN G.tasks i : Nat) : Int) = tI at h0 HMX
     clear hrec hmx hml hor256 hrd h1 h2 h3_ h4 h5 hctC hctl
     simp only [List.take_succ_cons, List.take_zero, List.drop_succ_cons, List.drop_zero]
     iterate 3 still_step
     still_call HWW.out
     iterate 21 still_step
     rw [HMX.out]
     refine wpStill_nil ?_
     clear hcx hcp hce hc0 hc3 hci hct0 h0
     go_wp2_with (go_at_call 47; refine HREC.out.mono ?_; rintro e_ w9 ⟨rfl, hres⟩; have hJ14 := HJ13.out.call HII.out.2.1 hres; have HKO14 := Aside0.mk (HKO13.out.trans hres.others); have HSZ14 := Aside0.mk (Nat.le_trans HSZ13.out hres.others.size); clear hres HKO13 HSZ13 HJ13 HREC)
     obtain ⟨M2, lA2, lc2, bv2, se2, J14⟩ := hJ14
     -- region 9
     try gi_wp2
     refine wpIn_still_tail 14 rfl (by kernel_rfl) (by kernel_rfl) (fun ⟨_, _, h⟩ => h) ?_
     change wpStill _ _ w9.drew (fun a' => wpList _ _ _ _ a' w9.drew) _ _
     have hdr : Below w9.heap.size w9 w9.drew := below_drew (Below.refl _ _)
     have hko := HKO14.out.trans (KeepsOthers.drew w9)
     revert hdr hko
     generalize w9.drew = Wj
     intro hdr hko
     have HJ15 := Aside0.mk (J14.move hdr)
     have HKO15 := Aside0.mk hko
     have HSZ15 := Aside0.mk (Nat.le_trans HSZ14.out hdr.size)
     clear hdr hko HKO14 HSZ14 J14
     have hcx := HJ15.out.x.cell
     have hc4 : Wj.cell? ⟨K.q, 4, none⟩ = some (.slice lA2 (lst.length + 1) lc2) := by
      have := HJ15.out.fx.sb.row
      rw [List.length_append, List.length_singleton] at this
      simp [World.cell?, this]
     have hf4 : Wj.frozen? ⟨K.q, 4, none⟩ = false := by simp [World.frozen?, HJ15.out.fx.sb.row]
     have hw_ : IntKind.i64.wrap (lst.length : Int) = (lst.length : Int) := by
      have := HII.out.2.2.2
      rw [i64_w, w64 (by omega) (by omega)]
     have hcap : lst.length + 1 ≤ lc2 := by
      have h1 := (Kd.R_reads' HJ15.out.fx.lst).2.1
      rw [List.length_append, List.length_singleton] at h1
      exact h1
     have hcp1 : ((lst.length : Int) ≤ (lc2 : Int)) = True := eq_true (by omega)
     have hcp2 : (lst.length ≤ lc2) = True := eq_true (by omega)
     clear hcap
     simp only [List.take_succ_cons, List.take_zero, List.drop_succ_cons, List.drop_zero]
     iterate 11 still_step
     iterate 3 still_step
     refine wpStill_nil ?_
     clear hcx hw_ hcp1 hcp2
     go_wp2
     refine ⟨(HKO15.out.trans (KeepsOthers.setCell _ _ _)).from _, zs ++ [i], M2, lA2, lc2, bv2, se2, ?_, HJ15.out.cut, Nat.le_trans HSZ15.out (KeepsOthers.setCell _ _ _).size⟩
     rw [← HIK.out]
     simp [up]
  clear a1
  have hcx := HJ2.out.x.cell
  have hce := HJ2.out.en.cell
  obtain ⟨fnd, hfnd⟩ : ∃ f : Bool, f = s.isSome := ⟨_, rfl⟩
  have hc7 := HJ2.out.fx.sb.c7
  rw [← hfnd] at hc7
  have hc6 := HJ2.out.fx.sb.c6
  have hge : fnd = true → decide ((e : Int) ≥ se) = false := fun h => HGE.out (by rw [← hfnd]; exact h)
  have HG2 := Aside0.mk hge
  clear hfnd hge
  by_cases hfd : fnd = false
  ·have hgf : (some fnd == some true) = false := by rw [hfd]; rfl
   have HFN := Aside0.mk hfd
   clear hfd hce hc6
   iterate 5 still_step
   repeat (refine wpStill_skip hgf ?_; simp only [Act.put, List.setIfInBounds_toArray, List.set_cons_zero, List.set_cons_succ])
   refine wpStill_nil ?_
   obtain rfl := HFN.out
   clear hgf hc7 hcx
   go_wp2
   exact key _ _ _ _ _ _ _ _ _ _ _ _
  ·have hfd1 : fnd = true := by
    cases fnd
    ·exact absurd rfl hfd
    ·rfl
   have hge := HG2.out hfd1
   have hgf : (some fnd == some true) = true := by rw [hfd1]; rfl
   have HFN := Aside0.mk hfd1
   clear hfd hfd1
   iterate 5 still_step
   repeat (refine wpStill_want hgf (fun K_ hK => ?_); go_simp; refine hK _ ?_; clear hK K_)
   refine wpStill_nil ?_
   obtain rfl := HFN.out
   clear hgf hc7 hcx
   go_wp2
   exact key _ _ _ _ _ _ _ _ _ _ _ _
end Go.Proofs.YtimbfcedigaffaaDoor.Core
end
section
set_option linter.unusedVariables false
set_option linter.unusedSimpArgs false
namespace Go.Proofs.YtimbfcedigaffaaDoor.Core
open Go Go.RowKit Go.Shelf Go.Proofs.YtimbfcedigaffaaDoorW.PrintWords Go.Proofs.YtimbfcedigaffaaDoorW.PrintLast Go.Proofs.YtimbfcedigaffaaDoorW.PrintMore Go.Proofs.YtimbfcedigaffaaDoor.P
attribute [local go_sem] Oper.semAt_some wide_fn wide_depth
set_option maxRecDepth 100000 in
set_option maxHeartbeats 2000000 in
theorem bestIn_none (A0 : Option Addr) (c0 : Nat) (l0 : List Tk) (A1 : Option Addr) (c1 : Nat) (l1 : List Int) (wk : Int) (w : World) (hT : Tab w) (hr0 : k39.C w A0 l0.length l0) (hc0 : l0.length ≤ c0) (hr1 : (Kd.int .i64).C w A1 l1.length l1) (hc1 : l1.length ≤ c1) (h : fewD l0 l1 wk = none) :
  Calls Tryd.prog 30 #[.slice A0 l0.length c0, .slice A1 l1.length c1, .int .i64 wk] w fun e w' => e = .returned (.tuple #[.slice none 0 0, .int .i64 0, .bool false]) ∧ Below w.heap.size w w' := by
 have HP := Aside0.mk (fewIn_none A0 c0 l0 A1 c1 l1 wk w hT hr0 hc0 hr1 hc1 h)
 clear hr0 hr1 hT h
 go_enter Tryd.func30, Tryd.ntmps30
 go_wp2_with (go_at_call 45; refine HP.out.mono ?_; rintro e w1 ⟨rfl, hB⟩; have HB := Aside0.mk hB; clear hB)
 refine bodyPost_ret (results_list (rs := [.tmp 6, .tmp 7, .tmp 8]) rfl (by simp) (.tmp (.tmp (.tmp .nil)))) rfl ?_
 exact ⟨rfl, HB.out⟩
theorem bestD_some {g : List Tk} {room : List Int} {wk : Int} {b : List Int × Nat} (h : bestD g room wk = some b) : ∃ G, fewD g room wk = some G := by
 unfold bestD at h
 cases hf : fewD g room wk with
 | none => rw [hf] at h; cases h
 | some G => exact ⟨G, rfl⟩
theorem leB_zero (b n : Nat) : leB b (List.replicate n 0) := fun k => by rw [List.getD_eq_getElem?_getD, List.getElem?_replicate]; split <;> simp
/-- The search, begun. -/
theorem from_start (b_ : Nat) (G : GD) (A1 : Option Addr) (c1 : Nat) (l1 : List Int) (wk : Int) (b : List Int × Nat) (w1 : World) (hT : Tab w1) (hg : IsG w1 b_ G) (ok : GOk G) (htok : ∀ t ∈ G.tasks, taskOk t) (hpool : ∀ t ∈ G.tasks, 0 ≤ t.f2 ∧ t.f2 ≤ 2) (hf : Fine G.tasks l1 wk) (h5 : G.tasks.length ≤ 5) (h3 : l1.length = 3) (hC : Kd.C (Kd.int .i64) w1 A1 l1.length l1) (hc1 : l1.length ≤ c1) (hfb : fromF G.tasks G.needs l1 wk (G.tasks.length + 1) [] (List.replicate G.tasks.length 0) 0 0 none = some b) :
  Calls Tryd.prog 47 #[.pointer (some ⟨w1.heap.size + 1, 0, none⟩), .int .u16 0, .int .i64 0] ((w1.alloc (.cells (icells (List.replicate G.tasks.length 0)) 3)).alloc (.cells #[.pointer (some ⟨b_, 0, none⟩), .slice A1 l1.length c1, .int .i64 wk, .slice (some ⟨w1.heap.size, 0, none⟩) G.tasks.length G.tasks.length, .slice none 0 0, .slice none 0 0, .int .i64 0, .bool false] 74)) fun r w' => r = .returned (.tuple #[]) ∧ ∃ A c, w'.cell? ⟨w1.heap.size + 1, 5, none⟩ = some (.slice A b.1.length c) ∧ w'.cell? ⟨w1.heap.size + 1, 6, none⟩ = some (.int .i64 (b.2 : Int)) ∧ (Kd.int .i64).R 3 w' w1.heap.size (fun _ => True) (.slice A b.1.length c) b.1 ∧ Below w1.heap.size w1 w' := by
 have o1 : (w1.alloc (.cells (icells (List.replicate G.tasks.length 0)) 3)).heap.size = w1.heap.size + 1 := by simp
 have r1 := cells_new w1 (.cells (icells (List.replicate G.tasks.length 0)) 3)
 have B1 := (Below.refl w1.heap.size w1).alloc (Nat.le_refl _) (.cells (icells (List.replicate G.tasks.length 0)) 3)
 revert o1 r1 B1
 generalize w1.alloc (.cells (icells (List.replicate G.tasks.length 0)) 3) = w2
 intro o1 r1 B1
 have r2 := cells_new w2 (.cells #[.pointer (some ⟨b_, 0, none⟩), .slice A1 l1.length c1, .int .i64 wk, .slice (some ⟨w1.heap.size, 0, none⟩) G.tasks.length G.tasks.length, .slice none 0 0, .slice none 0 0, .int .i64 0, .bool false] 74)
 rw [o1] at r2
 have r1' := cells_alloc r1 (.cells #[.pointer (some ⟨b_, 0, none⟩), .slice A1 l1.length c1, .int .i64 wk, .slice (some ⟨w1.heap.size, 0, none⟩) G.tasks.length G.tasks.length, .slice none 0 0, .slice none 0 0, .int .i64 0, .bool false] 74)
 have B2 := B1.alloc (by omega) (.cells #[.pointer (some ⟨b_, 0, none⟩), .slice A1 l1.length c1, .int .i64 wk, .slice (some ⟨w1.heap.size, 0, none⟩) G.tasks.length G.tasks.length, .slice none 0 0, .slice none 0 0, .int .i64 0, .bool false] 74)
 clear r1 B1 o1
 revert r2 r1' B2
 generalize w2.alloc (.cells #[.pointer (some ⟨b_, 0, none⟩), .slice A1 l1.length c1, .int .i64 wk, .slice (some ⟨w1.heap.size, 0, none⟩) G.tasks.length G.tasks.length, .slice none 0 0, .slice none 0 0, .int .i64 0, .bool false] 74) = w3
 intro r2 r1 B2
 let K : FK := { w0 := w1, q := w1.heap.size + 1, b := b_, A1 := A1, n1 := l1.length, c1 := c1, wk := wk, p := w1.heap.size, n := G.tasks.length, hq := Nat.le_succ _, hp := Nat.le_refl _, hqp := Nat.succ_ne_self _ }
 have FGK : FG K G l1 := ⟨hT, hg, ok, htok, hpool, hf, rfl, h5, h3, hC, rfl, hc1⟩
 have hX : FX K (fun _ => True) w3 [] (List.replicate G.tasks.length 0) none none 0 (.slice none 0 0) 0 :=
  ⟨⟨r2⟩, r1, Kd.R_nil _ _ _ _ _, (fun o ho => by cases ho), (fun k hk => by simp [Value.ownBlock] at hk), (by simp [K]), leB_zero _ _, B2⟩
 have hc := from_calls K G l1 FGK (G.tasks.length + 1) (fun _ => True) [] (List.replicate G.tasks.length 0) (List.replicate G.tasks.length 0) 0 0 none none 0 (.slice none 0 0) 0 w3 (by show G.tasks.length < 0 + _; omega) (Nat.zero_le _) hX (fun _ _ => trivial) (fun _ _ => rfl) (by simp [K]) (Nat.two_pow_pos _) (fun k hk => by rw [Nat.zero_testBit] at hk; cases hk) (Nat.zero_le _)
 rw [show K.wk = wk from rfl, hfb] at hc
 refine hc.mono ?_
 rintro r w' ⟨hr, ⟨⟨M, lA, lc, bv, se, hx, _⟩, _, _⟩⟩
 obtain ⟨he, hR⟩ := hx.best b rfl
 obtain ⟨A, c, e1⟩ := Kd.R_slice hR
 subst e1
 have hrow := hx.sb.row
 refine ⟨hr, A, c, ?_, ?_, Kd.R_mono hR (fun _ _ => trivial), hx.below⟩
 ·have : w'.heap[w1.heap.size + 1]? = _ := hrow
  simp [World.cell?, this]
 ·have : w'.heap[w1.heap.size + 1]? = _ := hrow
  simp [World.cell?, this, he]
set_option maxRecDepth 100000 in
set_option maxHeartbeats 4000000 in
theorem bestIn_some (A0 : Option Addr) (c0 : Nat) (l0 : List Tk) (A1 : Option Addr) (c1 : Nat) (l1 : List Int) (wk : Int) (b : List Int × Nat) (w : World) (hT : Tab w) (hr0 : k39.C w A0 l0.length l0) (hc0 : l0.length ≤ c0) (hr1 : (Kd.int .i64).C w A1 l1.length l1) (hc1 : l1.length ≤ c1) (h : bestD l0 l1 wk = some b) :
  Calls Tryd.prog 30 #[.slice A0 l0.length c0, .slice A1 l1.length c1, .int .i64 wk] w fun e w' => ∃ v, e = .returned (.tuple #[v, .int .i64 (b.2 : Int), .bool true]) ∧ Kd.R (Kd.int .i64) 3 w' w.heap.size (fun _ => True) v b.1 ∧ Below w.heap.size w w' := by
 obtain ⟨G, hg⟩ := bestD_some h
 obtain ⟨h5, hp⟩ := fewD_some hg
 obtain ⟨hG, hroom, hw1, hw4⟩ := placeD_some hp
 have ok := graphD_ok hG
 have htk := graphD_tasks hG
 have htok := graphD_taskOk hG
 have hpool := graphD_pool hG
 have hfine := fine_of hG hroom hw1
 have h8 := ok.n8
 have hfb := fromF_best hg
 rw [h] at hfb
 have HG := Aside0.mk (fewIn_some A0 c0 l0 A1 c1 l1 wk G w hT hr0 hc0 hr1 hc1 hg)
 have HR1 := Aside0.mk hr1
 have HC1 := Aside0.mk hc1
 have HT := Aside0.mk hT
 have OK := Aside0.mk ok
 have HROOM := Aside0.mk hroom.1
 have HF := Aside0.mk hfine
 have HPO := Aside0.mk hpool
 subst htk
 have HTK := Aside0.mk htok
 have H5 := Aside0.mk h5
 have HFB := Aside0.mk hfb
 have hmk := run_make_ints G.tasks.length h8
 clear hr0 hr1 hT hp hG hroom ok htok hpool hfine hg hc0 hc1 h5 hfb h hw1 hw4
 go_enter Tryd.func30, Tryd.ntmps30
 go_wp2_with (first | (go_at_call 45; refine HG.out.mono ?_; rintro e w1 ⟨b_, rfl, hB, hgr⟩; have HB := Aside0.mk hB; have HI := Aside0.mk hgr; clear hB hgr) | (go_at_call 46; refine (size_calls b_ G _ HI.out).mono ?_; rintro e w2 ⟨rfl, rfl⟩) | (go_at_call 47; clear hmk; refine (from_start b_ G A1 c1 l1 wk b w1 (HT.out.of HB.out) HI.out OK.out HTK.out HPO.out HF.out H5.out HROOM.out (Kd.C_below HR1.out HB.out) HC1.out HFB.out).mono ?_; rintro e w3 ⟨rfl, A9, c9, hc5, hc6, hR9, hB9⟩; have HR9 := Aside0.mk hR9; have HB9 := Aside0.mk (below_step HB.out hB9); clear hR9 hB9))
 refine wp_region_still_lit rfl (by kernel_rfl) ?_
 change wpStill _ _ w3.drew (fun a' => Exit.then _ _ .normal a' w3.drew) _ _
 have hdr : Below w3.heap.size w3 w3.drew := below_drew (Below.refl _ _)
 revert hdr
 generalize w3.drew = w4
 intro hdr
 replace hc5 := pw_cell_below hdr hc5
 replace hc6 := pw_cell_below hdr hc6
 repeat still_step
 refine wpStill_nil ?_
 go_wp2
 refine bodyPost_ret (results_list (rs := [.tmp 6, .tmp 7, .tmp 8]) rfl (by simp) (.tmp (.tmp (.tmp .nil)))) rfl ?_
 exact ⟨_, rfl, Kd.R_below (Kd.R_lower HR9.out HB.out.size) hdr, below_step HB9.out hdr⟩
end Go.Proofs.YtimbfcedigaffaaDoor.Core
end
