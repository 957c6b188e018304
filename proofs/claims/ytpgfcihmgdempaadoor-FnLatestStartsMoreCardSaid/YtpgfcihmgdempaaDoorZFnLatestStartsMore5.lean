/- The law FnLatestStartsMore holds of the given program: the proof's own part, with its row and its card, part 5 of 7. -/
import Derived.Test.YtpgfcihmgdempaaDoorZFnLatestStartsMore4
section
set_option linter.unusedVariables false
set_option linter.unusedSimpArgs false
namespace Go.Proofs.YtpgfcihmgdempaaDoor.Core
open Go Go.RowKit Go.Proofs.YtpgfcihmgdempaaDoorW.PrintWords Go.Proofs.YtpgfcihmgdempaaDoorW.PrintMore Go.Proofs.YtpgfcihmgdempaaDoor.P
theorem latestD_cases (g : List Tk) (dl : Int) : latestD g dl = [] ∨ ∃ G, graphD g = some G ∧ (0 ≤ dl ∧ dl ≤ 200) ∧ latestD g dl = (up (tailsN G)).map (dl - ·) := by
  unfold latestD
  cases hG : graphD g with
  | none => exact .inl rfl
  | some G =>
    by_cases hd : 0 ≤ dl ∧ dl ≤ 200
    · right; exact ⟨G, rfl, hd, if_pos hd⟩
    · left; exact if_neg hd
theorem latestD_length (g : List Tk) (dl : Int) : (latestD g dl).length ≤ 8 := by
  rcases latestD_cases g dl with h | ⟨G, hG, _, h⟩
  · rw [h]; simp
  · have v := vg_of hG
    rw [h, List.length_map, up_length, (tails_ok v).1]
    exact v.n8
theorem rd_late {G : GD} (dl : Int) {i : Nat} (hi : i < (tailsN G).length) : rd ((up (tailsN G)).map (dl - ·)) (i : Int) = dl - (((tailsN G).getD i 0 : Nat) : Int) := by
  simp [rd, up, hi]
end Go.Proofs.YtpgfcihmgdempaaDoor.Core
end
