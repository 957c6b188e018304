/- The law FnLatestStartsSlack holds of the given program: the proof's own part, with its row and its card, part 7 of 10. -/
import Derived.Test.YtekajandipdlhaaDoorZFnLatestStartsSlack6
section
set_option linter.unusedVariables false
set_option linter.unusedSimpArgs false
namespace Go.Proofs.YtekajandipdlhaaDoor.Core
open Go Go.RowKit Go.Proofs.YtekajandipdlhaaDoorW.PrintWords Go.Proofs.YtekajandipdlhaaDoorW.PrintMore Go.Proofs.YtekajandipdlhaaDoor.P
theorem ev_latest {g : List Tk} (hg : Fits g) {G : GD} (hG : graphD g = some G) {dl : Int} (hd : 0 ≤ dl ∧ dl ≤ 200) : Ev (fun k => spec_latest.f k g dl) ((up (tailsN G)).map (dl - ·)) := by
  have v := vg_of hG
  have h8 := v.n8
  have hT := tails_ok v
  have htm := tm20_of (fun t ht => (v.fine.1 t ht).1)
  have hle := tailsN_le (graphD_ok hG) (by rw [v.tasks]; exact htm)
  have hl : (up (tailsN G)).length = g.length := by rw [up_length, hT.1]
  unfold spec_latest.f
  refine Ev.bind (ev_tails hg hG) ?_
  have key : ∀ (m i : Nat), i + m = g.length → Ev (fun k => spec_latest.l0 k g dl (((up (tailsN G)).take i).map (dl - ·)) (up (tailsN G)) (i : Int)) ((up (tailsN G)).map (dl - ·)) := by
    intro m
    induction m with
    | zero =>
      intro i hi
      refine Ev.succ ?_
      simp only [spec_latest.l0]
      refine Ev.neg (by omega) ((Ev.const _).conv ?_)
      rw [List.take_of_length_le (by omega)]
    | succ m ih =>
      intro i hi
      have hw : wrap64 ((i : Int) + 1) = ((i + 1 : Nat) : Int) := w64s (by unfold big; omega)
      have hr : rd (up (tailsN G)) (i : Int) = (((tailsN G).getD i 0 : Nat) : Int) := rd_up rfl
      have hb := hle i
      have hw2 : wrap64 (dl - (((tailsN G).getD i 0 : Nat) : Int)) = dl - (((tailsN G).getD i 0 : Nat) : Int) := w64 (by omega) (by omega)
      have h := ih (i + 1) (by omega)
      have et : ((up (tailsN G)).take (i + 1)).map (dl - ·) = ((up (tailsN G)).take i).map (dl - ·) ++ [dl - (((tailsN G).getD i 0 : Nat) : Int)] := by
        have hi2 : i < (tailsN G).length := by rw [hT.1]; omega
        rw [List.take_add_one, List.map_append]
        congr 1
        simp [up, hi2]
      rw [et] at h
      refine Ev.succ ?_
      simp only [spec_latest.l0, hr, hw, hw2]
      exact Ev.pos (by omega) (Ev.pos (by omega) (Ev.pos (by omega) (Ev.pos (by rw [List.length_map, List.length_take]; omega) h)))
  exact key g.length 0 (by omega)
theorem ev_LatestStarts {g : List Tk} (hg : Fits g) (dl : Int) : Ev (fun k => spec_LatestStarts.f k g dl) (latestD g dl) := by
  unfold spec_LatestStarts.f latestD
  refine Ev.bind (ev_validGraph hg) ?_
  cases hG : graphD g with
  | none => exact Ev.neg (by simp) (Ev.const _)
  | some G =>
    refine Ev.pos (by first | rfl | trivial) ?_
    rw [inRange_eq]
    refine Ev.sb ?_
    simp only []
    by_cases hd : 0 ≤ dl ∧ dl ≤ 200
    · rw [if_pos hd]
      exact Ev.pos (by rw [decide_eq_true hd]) (Ev.bind (ev_latest hg hG hd) (Ev.const _))
    · rw [if_neg hd]
      exact Ev.neg (by rw [decide_eq_false hd]; simp) (Ev.const _)
end Go.Proofs.YtekajandipdlhaaDoor.Core
end
