/- The law FnLatestStartsMore holds of the given program: the proof's own part, with its row and its card, part 6 of 7. -/
import Derived.Test.YtpgfcihmgdempaaDoorZFnLatestStartsMore5
section
set_option linter.unusedVariables false
set_option linter.unusedSimpArgs false
namespace Go.Proofs.YtpgfcihmgdempaaDoor.Core
open Go Go.RowKit Go.Proofs.YtpgfcihmgdempaaDoorW.PrintWords Go.Proofs.YtpgfcihmgdempaaDoorW.PrintMore Go.Proofs.YtpgfcihmgdempaaDoor.P
theorem FnLatestStartsMore_pure (l0 : List Int) (hW : Bytes l0) : ∃ k, laws_FnLatestStartsMore.f k l0 = some true := by
  refine Ev.one (f := fun k => laws_FnLatestStartsMore.f k l0) (EvP.ev ?_)
  unfold laws_FnLatestStartsMore.f
  refine EvP.ite (fun _ => EvP.ret rfl) (fun hlen => ?_)
  refine (ev_DrawLatestStarts hW).bind fun ⟨g, dl⟩ hg => ?_
  obtain ⟨hg, hd1, hd2⟩ := hg
  dsimp only at hg hd1 hd2 ⊢
  have hf := hg.fits (by unfold big; omega) (by unfold big; omega)
  have hs := ev_LatestStarts hf dl
  have hll := latestD_length g dl
  have he := ev_equalInts (a := latestD g dl) (b := latestD g dl) (by omega)
  rw [decide_eq_true rfl] at he
  refine Ev.bindP (Ev.const (latestD g dl)) (Ev.bindP hs (Ev.bindP he (EvP.pos (by first | rfl | trivial) ?_)))
  have hyes : EvP (fun k => laws_FnLatestStartsMore.j0 k g dl (latestD g dl) true) (fun x => x = true) := by
    refine EvP.succ ?_
    simp only [laws_FnLatestStartsMore.j0]
    exact EvP.pos (by trivial) (Ev.bindP hs (Ev.bindP he (EvP.ret rfl)))
  refine EvP.ite (fun _ => hyes) (fun h0 => ?_)
  by_cases hdl : dl = 200
  · rw [show (dl == 200) = true by rw [hdl]; rfl]
    exact hyes
  rw [show (dl == 200) = false from beq_eq_false_iff_ne.2 hdl]
  refine EvP.succ ?_
  simp only [laws_FnLatestStartsMore.j0]
  refine EvP.neg (by simp) ?_
  rcases latestD_cases g dl with h | ⟨G, hG, hd, h⟩
  · rw [h] at h0; simp at h0
  have v := vg_of hG
  have h8 := v.n8
  have hT := tails_ok v
  have htk : ∀ t ∈ g, taskOk t := fun t ht => (v.fine.1 t ht).1
  have hle := tailsN_le (graphD_ok hG) (by rw [v.tasks]; exact tm20_of htk)
  have h2 : latestD g (dl + 1) = (up (tailsN G)).map (dl + 1 - ·) := by unfold latestD; rw [hG]; exact if_pos (by omega)
  rw [w64 (by omega) (by omega), h]
  refine Ev.bindP (Ev.const (latestD g (dl + 1))) ?_
  rw [h2]
  have outer : ∀ (m i : Nat), i + m = g.length → EvP (fun k => laws_FnLatestStartsMore.l0 k ((up (tailsN G)).map (dl - ·)) ((up (tailsN G)).map (dl + 1 - ·)) (i : Int)) (fun x => x = true) := by
    intro m
    induction m with
    | zero =>
      intro i hi
      refine EvP.succ ?_
      simp only [laws_FnLatestStartsMore.l0, List.length_map, up_length, hT.1]
      exact EvP.neg (by omega) (EvP.ret (by simp))
    | succ m ih =>
      intro i hi
      have hig : i < g.length := by omega
      have b2 := hle i
      have hw : wrap64 ((i : Int) + 1) = ((i + 1 : Nat) : Int) := w64s (by unfold big; omega)
      refine EvP.succ ?_
      simp only [laws_FnLatestStartsMore.l0, List.length_map, up_length, hT.1, hw, rd_late dl (show i < (tailsN G).length by rw [hT.1]; exact hig), rd_late (dl + 1) (show i < (tailsN G).length by rw [hT.1]; exact hig)]
      refine EvP.pos (by omega) (EvP.neg (by omega) (EvP.pos (by omega) (EvP.pos (by omega) (EvP.pos ?_ (ih (i + 1) (by omega))))))
      rw [w64 (by omega) (by omega)]
      omega
  exact outer g.length 0 (by omega)
end Go.Proofs.YtpgfcihmgdempaaDoor.Core
end
