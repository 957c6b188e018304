/- The law FnReadyTasksAll holds of the given program: the proof's own part, with its row and its card, part 6 of 7. -/
import Derived.Test.YtpgfcihmgdempaaDoorZFnReadyTasksAll5
section
set_option linter.unusedVariables false
set_option linter.unusedSimpArgs false
namespace Go.Proofs.YtpgfcihmgdempaaDoor.Core
open Go Go.RowKit Go.Proofs.YtpgfcihmgdempaaDoorW.PrintWords Go.Proofs.YtpgfcihmgdempaaDoorW.PrintMore Go.Proofs.YtpgfcihmgdempaaDoor.P
theorem FnReadyTasksAll_pure (l0 : List Int) (hW : Bytes l0) : ∃ k, laws_FnReadyTasksAll.f k l0 = some true := by
  refine Ev.one (f := fun k => laws_FnReadyTasksAll.f k l0) (EvP.ev ?_)
  unfold laws_FnReadyTasksAll.f
  refine EvP.ite (fun _ => EvP.ret rfl) (fun hlen => ?_)
  refine (ev_DrawReadyTasks hW).bind fun ⟨g, l⟩ hg => ?_
  obtain ⟨hg, hl⟩ := hg
  dsimp only at hg hl ⊢
  have hf := hg.fits (by unfold big; omega) (by unfold big; omega)
  have hs := ev_ReadyTasks hf (l := l) (by unfold big; omega)
  have hl8 := readyD_length g l
  have he := ev_equalInts (a := readyD g l) (b := readyD g l) (by omega)
  rw [decide_eq_true rfl] at he
  refine Ev.bindP (Ev.const (readyD g l)) (Ev.bindP hs (Ev.bindP he (EvP.pos rfl (Ev.bindP (Ev.const (doneD g l).isSome) ?_))))
  refine EvP.succ ?_
  simp only [laws_FnReadyTasksAll.j0]
  cases h : doneD g l with
  | none => exact EvP.pos (by first | rfl | trivial) (Ev.bindP hs (Ev.bindP he (EvP.ret rfl)))
  | some GS =>
    obtain ⟨G, s⟩ := GS
    obtain ⟨v, hG, hsl, rfl, _, hc⟩ := done_list h
    have h8 := v.n8
    refine EvP.neg (by simp) ?_
    have hend : ∀ t, t < 2 ^ g.length → zb g.length t = 0 → (((up (elemsN t)).length : Int) == (g.length : Int)) = true := by
      intro t ht hz
      have := elems_zb h8 ht
      rw [up_length, beq_iff_eq]
      omega
    have key : ∀ (m i t : Nat), i + m = g.length → t < 2 ^ g.length → closedD G.needs t = true → zb g.length t ≤ m → EvP (fun k => laws_FnReadyTasksAll.l0 k g (up (elemsN t)) (i : Int)) (fun x => x = true) := by
      intro m
      induction m with
      | zero =>
        intro i t hi ht hct hz
        refine EvP.succ ?_
        simp only [laws_FnReadyTasksAll.l0]
        exact EvP.neg (by omega) (EvP.ret (hend t ht (by omega)))
      | succ m ih =>
        intro i t hi ht hct hz
        have hw : wrap64 ((i : Int) + 1) = ((i + 1 : Nat) : Int) := w64s (by unfold big; omega)
        have hdt := doneD_mk hG ht hct
        refine EvP.succ ?_
        simp only [laws_FnReadyTasksAll.l0, hw]
        refine EvP.pos (by omega) (Ev.bindP (Ev.const (readyD g (up (elemsN t)))) ?_)
        rw [readyD_some hdt]
        cases hr : elemsN (G.ready t) with
        | nil =>
          refine EvP.pos (by simp [up]) (EvP.ret (hend t ht ?_))
          refine Decidable.byContradiction fun hne => ?_
          obtain ⟨x, hx, b1, b2⟩ := v.next ht (fun e => hne ((full_zb ht).2 e))
          have hm := v.mem_ready.2 ⟨hx, b1, b2⟩
          rw [hr] at hm
          cases hm
        | cons x r =>
          have hx : (G.ready t).testBit x = true := (mem_elemsN.1 (show x ∈ elemsN (G.ready t) by rw [hr]; simp)).2
          have fx := finD_yes hdt hx
          obtain ⟨e1, e2, e3⟩ := v.step ht hct hx
          have hrd : rd (up (x :: r)) 0 = (x : Int) := by simp [rd, up]
          rw [hrd]
          refine EvP.neg (by rw [up_length, List.length_cons]; omega) (EvP.pos (by rw [up_length, List.length_cons]; omega) (Ev.bindP (Ev.const (finD g (up (elemsN t)) (x : Int))) ?_))
          rw [fx.1]
          exact EvP.pos rfl (ih (i + 1) _ (by omega) e1 e2 (by omega))
    exact key g.length 0 s (by omega) hsl hc (zb_bound s _)
end Go.Proofs.YtpgfcihmgdempaaDoor.Core
end
