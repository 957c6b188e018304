/- The law FnAdmitTasksAll holds of the given program: the proof's own part, with its row and its card, part 2 of 4. -/
import Derived.Test.YtpibdjkajgfgjaaDoorZFnAdmitTasksAll1
section
set_option linter.unusedVariables false
set_option linter.unusedSimpArgs false
namespace Go.Proofs.YtpibdjkajgfgjaaDoor.Core
open Go Go.RowKit Go.Proofs.YtpibdjkajgfgjaaDoorW.PrintWords Go.Proofs.YtpibdjkajgfgjaaDoorW.PrintMore Go.Proofs.YtpibdjkajgfgjaaDoor.P
theorem ev_lawsIsIn_from (L : List Int) (x : Int) (hL : L.length < big) : ∀ (r pre : List Int), L = pre ++ r → Ev (fun k => laws_isIn.l0 k L x (pre.length : Int)) (decide (x ∈ r))
 | [], pre, hp => by
  rw [List.append_nil] at hp
  refine Ev.succ ?_
  simp only [laws_isIn.l0]
  exact Ev.neg (by rw [hp]; omega) ((Ev.const _).conv (by simp))
 | y :: r, pre, hp => by
  have hlen : L.length = pre.length + (r.length + 1) := by rw [hp]; simp
  have hrd : rd L (pre.length : Int) = y := by rw [hp]; exact rd_mid rfl
  have hw : wrap64 ((pre.length : Int) + 1) = ((pre ++ [y]).length : Int) := by rw [w64s (by omega)]; simp
  refine Ev.succ ?_
  simp only [laws_isIn.l0, hrd, hw]
  refine Ev.pos (by omega) (Ev.pos (by omega) ?_)
  by_cases hy : y = x
  ·exact Ev.pos hy ((Ev.const _).conv (by simp [hy]))
  ·have ih := ev_lawsIsIn_from L x hL r (pre ++ [y]) (by rw [hp]; simp)
   exact Ev.neg hy (ih.conv (by
    have : x ≠ y := fun h => hy h.symm
    simp [this]))
theorem ev_lawsIsIn {L : List Int} (hL : L.length < big) (x : Int) : Ev (fun k => laws_isIn.f k L x) (decide (x ∈ L)) := ev_lawsIsIn_from L x hL L [] rfl
end Go.Proofs.YtpibdjkajgfgjaaDoor.Core
end
