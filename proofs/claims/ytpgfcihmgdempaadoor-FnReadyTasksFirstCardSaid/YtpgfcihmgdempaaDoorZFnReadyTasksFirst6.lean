/- The law FnReadyTasksFirst holds of the given program: the proof's own part, with its row and its card, part 6 of 7. -/
import Derived.Test.YtpgfcihmgdempaaDoorZFnReadyTasksFirst5
section
set_option linter.unusedVariables false
set_option linter.unusedSimpArgs false
namespace Go.Proofs.YtpgfcihmgdempaaDoor.Core
open Go Go.RowKit Go.Proofs.YtpgfcihmgdempaaDoorW.PrintWords Go.Proofs.YtpgfcihmgdempaaDoorW.PrintMore Go.Proofs.YtpgfcihmgdempaaDoor.P
theorem FnReadyTasksFirst_pure (l0 : List Int) (hW : Bytes l0) : ∃ k, laws_FnReadyTasksFirst.f k l0 = some true := by
  refine Ev.one (f := fun k => laws_FnReadyTasksFirst.f k l0) (EvP.ev ?_)
  unfold laws_FnReadyTasksFirst.f
  refine EvP.ite (fun _ => EvP.ret rfl) (fun hlen => ?_)
  refine (ev_DrawReadyTasks hW).bind fun ⟨g, l⟩ hg => ?_
  obtain ⟨hg, hl⟩ := hg
  dsimp only at hg hl ⊢
  have hf := hg.fits (by unfold big; omega) (by unfold big; omega)
  have hs := ev_ReadyTasks hf (l := l) (by unfold big; omega)
  have hl8 := readyD_length g l
  have he := ev_equalInts (a := readyD g l) (b := readyD g l) (by omega)
  rw [decide_eq_true rfl] at he
  refine Ev.bindP (Ev.const (readyD g l)) (Ev.bindP hs (Ev.bindP he (EvP.pos rfl (Ev.bindP (Ev.const (graphD g).isSome) ?_))))
  refine EvP.succ ?_
  simp only [laws_FnReadyTasksFirst.j0]
  cases hG : graphD g with
  | none => exact EvP.pos (by first | rfl | trivial) (Ev.bindP hs (Ev.bindP he (EvP.ret rfl)))
  | some G =>
    have v := vg_of hG
    have h8 := v.n8
    have hz : 0 < 2 ^ g.length := Nat.two_pow_pos _
    have d0 : doneD g [] = some (G, 0) := doneD_mk hG hz ((v.closed_iff hz).2 (fun i hi => by simp at hi))
    refine EvP.neg (by simp) (Ev.bindP (Ev.const (readyD g [])) ?_)
    rw [readyD_some d0]
    have key : ∀ (m i : Nat), i + m = g.length → EvP (fun k => laws_FnReadyTasksFirst.l0 k g (up (elemsN (G.ready 0))) (i : Int)) (fun x => x = true) := by
      intro m
      induction m with
      | zero =>
        intro i hi
        refine EvP.succ ?_
        simp only [laws_FnReadyTasksFirst.l0]
        exact EvP.neg (by omega) (EvP.ret rfl)
      | succ m ih =>
        intro i hi
        have hig : i < g.length := by omega
        have hw : wrap64 ((i : Int) + 1) = ((i + 1 : Nat) : Int) := w64s (by unfold big; omega)
        have hin := ev_lawsIsIn (L := up (elemsN (G.ready 0))) (by rw [up_length]; have := elemsN_length (G.ready 0); unfold big; omega) (i : Int)
        have hiff : (i ∈ elemsN (G.ready 0)) ↔ (g.getD i z30).f1.length = 0 := by
          rw [v.mem_ready, v.list hig, up_length]
          constructor
          · rintro ⟨_, _, h3⟩
            have h4 := (v.sub_iff' hz).1 h3
            rw [List.length_eq_zero_iff]
            refine List.eq_nil_iff_forall_not_mem.2 fun x hx => ?_
            have := h4 x (mem_elemsN.1 hx).2
            simp at this
          · intro h
            refine ⟨hig, by simp, (v.sub_iff' hz).2 fun j hj => ?_⟩
            rw [List.length_eq_zero_iff] at h
            have hm : j ∈ elemsN (G.needs.getD i 0) := mem_elemsN.2 ⟨by have := v.need_lt hj; omega, hj⟩
            rw [h] at hm
            cases hm
        refine EvP.succ ?_
        simp only [laws_FnReadyTasksFirst.l0, hw, rdT_nat]
        refine EvP.pos (by omega) (Ev.bindP hin (EvP.pos (by omega) (EvP.neg ?_ (ih (i + 1) (by omega)))))
        have e : decide ((i : Int) ∈ up (elemsN (G.ready 0))) = (((g.getD i z30).f1.length : Int) == 0) := by
          rw [Bool.eq_iff_iff, decide_eq_true_eq, beq_iff_eq, mem_up, hiff]
          omega
        rw [e]
        simp
    exact key g.length 0 (by omega)
end Go.Proofs.YtpgfcihmgdempaaDoor.Core
end
