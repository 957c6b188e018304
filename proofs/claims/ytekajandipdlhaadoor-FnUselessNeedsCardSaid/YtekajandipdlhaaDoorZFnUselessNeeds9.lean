/- The law FnUselessNeeds holds of the given program: the proof's own part, with its row and its card, part 9 of 12. -/
import Derived.Test.YtekajandipdlhaaDoorZFnUselessNeeds8
section
set_option linter.unusedVariables false
set_option linter.unusedSimpArgs false
namespace Go.Proofs.YtekajandipdlhaaDoor.Core
open Go Go.RowKit Go.Proofs.YtekajandipdlhaaDoorW.PrintWords Go.Proofs.YtekajandipdlhaaDoorW.PrintMore Go.Proofs.YtekajandipdlhaaDoor.P
theorem ev_equalLists {a : List (List Int)} (ha : a.length < 4611686018427387904) (hr : ∀ x ∈ a, x.length < 4611686018427387904) : Ev (fun k => laws_equalLists.f k a a) true := by
  have key : ∀ (d i : Nat), i + d = a.length → Ev (fun k => laws_equalLists.l0 k a a (i : Int)) true := by
    intro d
    induction d with
    | zero =>
      intro i h
      refine Ev.succ ((Ev.const _).of fun k => ?_)
      rw [laws_equalLists.l0, if_neg (by omega)]
    | succ d ih =>
      intro i h
      have hx : (rd_L1 a (i : Int)).length < 4611686018427387904 := by
        unfold rd_L1
        rw [Int.toNat_natCast, List.getD_eq_getElem?_getD, List.getElem?_eq_getElem (by omega), Option.getD_some]
        exact hr _ (List.getElem_mem _)
      have he := (ev_equalInts (a := rd_L1 a (i : Int)) (b := rd_L1 a (i : Int)) hx).conv (decide_eq_true rfl)
      have ih' := ih (i + 1) (by omega)
      refine Ev.succ ?_
      simp only [laws_equalLists.l0]
      rw [w64 (n := (i : Int) + 1) (by omega) (by omega)]
      refine Ev.pos (by omega) (Ev.pos (by omega) (Ev.pos (by omega) (Ev.bind he (Ev.pos rfl ?_))))
      simpa using ih'
  unfold laws_equalLists.f
  exact Ev.pos rfl (key a.length 0 (by omega))
end Go.Proofs.YtekajandipdlhaaDoor.Core
end
