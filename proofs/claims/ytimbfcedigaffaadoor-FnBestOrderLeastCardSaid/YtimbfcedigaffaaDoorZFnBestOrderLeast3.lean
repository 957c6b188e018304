/- The law FnBestOrderLeast holds of the given program: the proof's own part, with its row and its card, part 3 of 5. -/
import Derived.Test.YtimbfcedigaffaaDoorZFnBestOrderLeast2
section
set_option linter.unusedVariables false
set_option linter.unusedSimpArgs false
namespace Go.Proofs.YtimbfcedigaffaaDoor.Core
open Go Go.RowKit Go.Proofs.YtimbfcedigaffaaDoorW.PrintWords Go.Proofs.YtimbfcedigaffaaDoorW.PrintMore Go.Proofs.YtimbfcedigaffaaDoor.P
theorem rd_nat (L : List Int) (i : Nat) : rd L (i : Int) = L.getD i 0 := by simp [rd]
theorem drop_one {α : Type} {a : List α} {i : Nat} (h : i < a.length) : a.drop i = a[i] :: a.drop (i + 1) := List.drop_eq_getElem_cons h
theorem ev_equalInts {a b : List Int} (ha : a.length < 4611686018427387904) : Ev (fun k => laws_equalInts.f k a b) (decide (a = b)) := by
 have key : ∀ (d i : Nat), i + d = a.length → a.length = b.length → Ev (fun k => laws_equalInts.l0 k a b (i : Int)) (decide (a.drop i = b.drop i)) := by
  intro d
  induction d with
  | zero =>
   intro i h hl
   refine Ev.succ ?_
   simp only [laws_equalInts.l0]
   refine Ev.neg (by omega) ((Ev.const _).conv ?_)
   rw [List.drop_of_length_le (by omega), List.drop_of_length_le (by omega)]
   simp
  | succ d ih =>
   intro i h hl
   refine Ev.succ ?_
   simp only [laws_equalInts.l0, rd_nat]
   rw [w64 (n := (i : Int) + 1) (by omega) (by omega)]
   have ea : a.getD i 0 = a[i]'(by omega) := by rw [List.getD_eq_getElem?_getD, List.getElem?_eq_getElem (by omega), Option.getD_some]
   have eb : b.getD i 0 = b[i]'(by omega) := by rw [List.getD_eq_getElem?_getD, List.getElem?_eq_getElem (by omega), Option.getD_some]
   refine Ev.pos (by omega) (Ev.pos (by omega) (Ev.pos (by omega) ?_))
   rw [drop_one (a := a) (by omega), drop_one (a := b) (by omega), ea, eb]
   by_cases he : a[i]'(by omega) = b[i]'(by omega)
   ·refine Ev.pos he ((ih (i + 1) (by omega) hl).conv ?_)
    rw [decide_eq_decide, he]
    exact ⟨fun e => by rw [e], fun e => (List.cons.inj e).2⟩
   ·refine Ev.neg he ((Ev.const _).conv ?_)
    rw [eq_comm, decide_eq_false_iff_not]
    intro h
    injection h with h
    exact he h
 unfold laws_equalInts.f
 by_cases hl : a.length = b.length
 ·exact Ev.pos (by omega) (key a.length 0 (by omega) hl)
 ·refine Ev.neg (by omega) ((Ev.const _).conv ?_)
  rw [eq_comm, decide_eq_false_iff_not]
  exact fun e => hl (by rw [e])
end Go.Proofs.YtimbfcedigaffaaDoor.Core
end
