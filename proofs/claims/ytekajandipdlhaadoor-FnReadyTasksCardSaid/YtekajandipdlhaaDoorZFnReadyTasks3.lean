/- The law FnReadyTasks holds of the given program: the proof's own part, with its row and its card, part 3 of 4. -/
import Derived.Test.YtekajandipdlhaaDoorZFnReadyTasks2
section
set_option linter.unusedVariables false
set_option linter.unusedSimpArgs false
namespace Go.Proofs.YtekajandipdlhaaDoor.Core
open Go Go.RowKit Go.Proofs.YtekajandipdlhaaDoorW.PrintWords Go.Proofs.YtekajandipdlhaaDoorW.PrintMore Go.Proofs.YtekajandipdlhaaDoor.P
theorem FnReadyTasks_pure (l0 : List Int) (hW : Bytes l0) : ∃ k, laws_FnReadyTasks.f k l0 = some true := by
  refine Ev.one (f := fun k => laws_FnReadyTasks.f k l0) (EvP.ev ?_)
  unfold laws_FnReadyTasks.f
  refine EvP.ite (fun _ => EvP.ret rfl) (fun hlen => ?_)
  refine (ev_DrawReadyTasks hW).bind fun ⟨g, l⟩ hg => ?_
  obtain ⟨hg, hl⟩ := hg
  dsimp only at hg hl ⊢
  have hf := hg.fits (by unfold big; omega) (by unfold big; omega)
  have hs := ev_ReadyTasks hf (l := l) (by unfold big; omega)
  have hl8 := readyD_length g l
  have he := ev_equalInts (a := readyD g l) (b := readyD g l) (by omega)
  rw [decide_eq_true rfl] at he
  refine Ev.bindP (Ev.const (readyD g l)) (Ev.bindP hs (Ev.bindP he (EvP.pos rfl (Ev.bindP (Ev.const (doneD g l).isSome) ?_))))
  refine EvP.succ ?_
  simp only [laws_FnReadyTasks.j0]
  cases h : doneD g l with
  | none => exact EvP.pos (by first | rfl | trivial) (Ev.bindP hs (Ev.bindP he (EvP.ret rfl)))
  | some GS =>
    obtain ⟨G, s⟩ := GS
    obtain ⟨v, hG, hsl, rfl, _, hc⟩ := done_list h
    have h8 := v.n8
    refine EvP.neg (by simp) ?_
    rw [readyD_some h]
    have hrl := v.ready_lt' s
    have key : ∀ (m i : Nat), i + m = g.length → EvP (fun k => laws_FnReadyTasks.l0 k g (up (elemsN s)) (up (elemsN (G.ready s))) (i : Int)) (fun x => x = true) := by
      intro m
      induction m with
      | zero =>
        intro i hi
        refine EvP.succ ?_
        simp only [laws_FnReadyTasks.l0]
        refine EvP.neg (by omega) (EvP.ite (fun _ => EvP.ret rfl) (fun hne => EvP.ret ?_))
        have := v.more hsl (fun e => hne (by rw [up_length, e]))
        rw [decide_eq_true_eq, up_length]
        omega
      | succ m ih =>
        intro i hi
        have hw : wrap64 ((i : Int) + 1) = ((i + 1 : Nat) : Int) := w64s (by unfold big; omega)
        have hin := ev_lawsIsIn (L := up (elemsN (G.ready s))) (by rw [up_length]; have := elemsN_length (G.ready s); unfold big; omega) (i : Int)
        have hin2 := ev_lawsIsIn (L := up (elemsN s)) (by rw [up_length]; have := elemsN_length s; unfold big; omega) (i : Int)
        rw [v.in_dec hrl] at hin
        rw [v.in_dec hsl] at hin2
        have hn := ih (i + 1) (by omega)
        refine EvP.succ ?_
        simp only [laws_FnReadyTasks.l0, hw]
        refine EvP.pos (by omega) (Ev.bindP (Ev.const (finD g (up (elemsN s)) (i : Int))) (Ev.bindP hin ?_))
        cases hr : (G.ready s).testBit i with
        | true =>
          rw [hr] at hin
          rw [(v.mem_rd.1 hr).2.1] at hin2
          rw [(finD_yes h hr).1]
          exact EvP.neg (by simp) (Ev.bindP hin (EvP.pos rfl (Ev.bindP hin2 (EvP.neg (by simp) hn))))
        | false =>
          rw [hr] at hin
          rw [finD_no h hr]
          exact EvP.neg (by simp) (Ev.bindP hin (EvP.neg (by simp) hn))
    exact key g.length 0 (by omega)
end Go.Proofs.YtekajandipdlhaaDoor.Core
end
