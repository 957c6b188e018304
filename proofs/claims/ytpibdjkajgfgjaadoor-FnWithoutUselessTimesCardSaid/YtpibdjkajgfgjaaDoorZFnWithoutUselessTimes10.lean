/- The law FnWithoutUselessTimes holds of the given program: the proof's own part, with its row and its card, part 10 of 11. -/
import Derived.Test.YtpibdjkajgfgjaaDoorZFnWithoutUselessTimes9
section
set_option linter.unusedVariables false
set_option linter.unusedSimpArgs false
namespace Go.Proofs.YtpibdjkajgfgjaaDoor.Core
open Go Go.RowKit Go.Proofs.YtpibdjkajgfgjaaDoorW.PrintWords Go.Proofs.YtpibdjkajgfgjaaDoorW.PrintMore Go.Proofs.YtpibdjkajgfgjaaDoor.P
theorem FnWithoutUselessTimes_pure (l0 : List Int) (hW : Bytes l0) : ∃ k, laws_FnWithoutUselessTimes.f k l0 = some true := by
 refine Ev.one (f := fun k => laws_FnWithoutUselessTimes.f k l0) (EvP.ev ?_)
 unfold laws_FnWithoutUselessTimes.f
 refine EvP.ite (fun _ => EvP.ret rfl) (fun hlen => ?_)
 have hd : EvP (fun (k : Nat) => spec_DrawWithoutUseless.f l0) (fun r => GSmall 16 10 r) := by
  unfold spec_DrawWithoutUseless.f
  exact (ev_newReader hW).bind fun a ha => (ev_anyGraph ha (by omega)).bind fun c hc => EvP.ret hc.1
 refine hd.bind fun g hg => ?_
 have hf := hg.fits (by unfold big; omega) (by unfold big; omega)
 have hs := ev_WithoutUseless hf
 have he := ev_equalTasks (withoutD_fits g)
 have hyes : EvP (fun k => laws_FnWithoutUselessTimes.j0 k g (withoutD g) true) (fun x => x = true) := by
  refine EvP.succ ?_
  simp only [laws_FnWithoutUselessTimes.j0]
  exact EvP.pos (by first | rfl | trivial) (Ev.bindP hs (Ev.bindP he (EvP.ret rfl)))
 refine Ev.bindP (Ev.const (withoutD g)) (Ev.bindP hs (Ev.bindP he (EvP.pos rfl ?_)))
 by_cases h0 : (withoutD g).length = 0
 ·rw [h0]; exact hyes
 rw [show (((withoutD g).length : Int) == 0) = false from by rw [beq_eq_false_iff_ne]; omega]
 obtain ⟨G, hG⟩ := withoutD_none h0
 have v := vg_of hG
 have h8 := v.n8
 have htk : ∀ t ∈ g, taskOk t := fun t ht => (v.fine.1 t ht).1
 obtain ⟨hl, G2, hG2, hb⟩ := without_graph hG
 have htm : ∀ m, m < g.length → 1 ≤ tmN g m := fun m hm => (tm_int htk hm).2.1
 have e1 : headTD (withoutD g) = headTD g := by unfold headTD; rw [hG, hG2]; simp only []; rw [without_heads hG hG2 htm]
 have e2 : tailTD (withoutD g) = tailTD g := by unfold tailTD; rw [hG, hG2]; simp only []; rw [without_tails hG hG2 htm]
 have e3 : stageOfD (withoutD g) = stageOfD g := by unfold stageOfD; rw [hG, hG2]; simp only []; rw [without_stages hG hG2]
 have l1 : (headTD g).length ≤ 8 := by unfold headTD; rw [hG]; simp only []; rw [up_length, headsN_length, v.tasks]; exact h8
 have l2 : (tailTD g).length ≤ 8 := by unfold tailTD; rw [hG]; simp only []; rw [up_length, tailsN_length, v.tasks]; exact h8
 have l3 : (stageOfD g).length ≤ 8 := by
  unfold stageOfD
  rw [hG]
  simp only []
  rw [up_length, (stages_ok v).1]
  exact h8
 have q1 := ev_equalInts (a := headTD g) (b := headTD g) (by omega)
 have q2 := ev_equalInts (a := tailTD g) (b := tailTD g) (by omega)
 have q3 := ev_equalInts (a := stageOfD g) (b := stageOfD g) (by omega)
 rw [decide_eq_true rfl] at q1 q2 q3
 refine EvP.succ ?_
 simp only [laws_FnWithoutUselessTimes.j0]
 refine EvP.neg (by simp) (Ev.bindP (Ev.const (headTD (withoutD g))) (Ev.bindP (Ev.const (headTD g)) ?_))
 rw [e1]
 refine Ev.bindP q1 (EvP.pos rfl (Ev.bindP (Ev.const (tailTD (withoutD g))) (Ev.bindP (Ev.const (tailTD g)) ?_)))
 rw [e2]
 refine Ev.bindP q2 (EvP.pos rfl (Ev.bindP (Ev.const (stageOfD (withoutD g))) (Ev.bindP (Ev.const (stageOfD g)) ?_)))
 rw [e3]
 exact Ev.bindP q3 (EvP.ret rfl)
end Go.Proofs.YtpibdjkajgfgjaaDoor.Core
end
