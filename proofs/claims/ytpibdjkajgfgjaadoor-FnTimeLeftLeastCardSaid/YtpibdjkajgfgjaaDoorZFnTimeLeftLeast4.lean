/- The law FnTimeLeftLeast holds of the given program: the proof's own part, with its row and its card, part 4 of 5. -/
import Derived.Test.YtpibdjkajgfgjaaDoorZFnTimeLeftLeast3
section
set_option linter.unusedVariables false
set_option linter.unusedSimpArgs false
namespace Go.Proofs.YtpibdjkajgfgjaaDoor.Core
open Go Go.RowKit Go.Proofs.YtpibdjkajgfgjaaDoorW.PrintWords Go.Proofs.YtpibdjkajgfgjaaDoorW.PrintMore Go.Proofs.YtpibdjkajgfgjaaDoor.P
theorem FnTimeLeftLeast_pure (l0 : List Int) (hW : Bytes l0) : ∃ k, laws_FnTimeLeftLeast.f k l0 = some true := by
  refine Ev.one (f := fun k => laws_FnTimeLeftLeast.f k l0) (EvP.ev ?_)
  unfold laws_FnTimeLeftLeast.f
  refine EvP.ite (fun _ => EvP.ret rfl) (fun hlen => ?_)
  refine (ev_DrawTimeLeft hW).bind fun ⟨g, l⟩ hg => ?_
  obtain ⟨hg, hl⟩ := hg
  dsimp only at hg hl ⊢
  have hf := hg.fits (by unfold big; omega) (by unfold big; omega)
  have hs := ev_TimeLeft hf (l := l) (by unfold big; omega)
  refine Ev.bindP (Ev.const (leftD g l)) (Ev.bindP hs (EvP.pos rfl ?_))
  refine EvP.succ ?_
  simp only [laws_FnTimeLeftLeast.j0]
  cases hd : doneD g l with
  | none =>
    have e : leftD g l = -1 := by unfold leftD; rw [hd]
    rw [e] at hs ⊢
    exact EvP.pos (by first | rfl | trivial) (Ev.bindP hs (EvP.ret rfl))
  | some GS =>
    obtain ⟨G, s⟩ := GS
    obtain ⟨v, hG, hsl, hll, _, hc⟩ := done_list hd
    have h8 := v.n8
    have htk : ∀ t ∈ g, taskOk t := fun t ht => (v.fine.1 t ht).1
    have e : leftD g l = ((mxL (tailsN G) (elemsN (G.ready s)) 0 : Nat) : Int) := by unfold leftD; rw [hd]
    have hls := left_sum v hG hsl hc
    have h20 := tm20_of htk
    have hin (j : Nat) := ev_lawsIsIn (L := l) (by unfold big; omega) (j : Int)
    have d2 (j : Nat) : decide ((j : Int) ∈ l) = s.testBit j := by rw [hll]; exact v.in_dec hsl j
    simp only [d2] at hin
    rw [e]
    clear hsl hs
    generalize mxL (tailsN G) (elemsN (G.ready s)) 0 = N at hls ⊢
    rw [decide_eq_false (show ¬ ((N : Nat) : Int) < 0 by omega)]
    refine EvP.neg (by simp) ?_
    have key : ∀ (m i : Nat), i + m = g.length → EvP (fun k => laws_FnTimeLeftLeast.l0 k g l (N : Int) ((sumP g (fun j => !s.testBit j) i : Nat) : Int) (i : Int)) (fun x => x = true) := by
      intro m
      induction m with
      | zero =>
        intro i hi
        have : i = g.length := by omega
        subst this
        refine EvP.succ ?_
        simp only [laws_FnTimeLeftLeast.l0]
        exact EvP.neg (by omega) (EvP.ret (decide_eq_true (Int.ofNat_le.2 hls)))
      | succ m ih =>
        intro i hi
        have hn := ih (i + 1) (by omega)
        have hw : wrap64 ((i : Int) + 1) = ((i + 1 : Nat) : Int) := w64s (by unfold big; omega)
        have hle := sumP_le h20 (fun j => !s.testBit j) i
        have htm := tm_int htk (show i < g.length by omega)
        have hsucc : sumP g (fun j => !s.testBit j) (i + 1) = sumP g (fun j => !s.testBit j) i + if (!s.testBit i) = true then tmN g i else 0 := rfl
        refine EvP.succ ?_
        simp only [laws_FnTimeLeftLeast.l0, hw, rdT_nat]
        refine EvP.pos (by omega) (Ev.bindP (hin i) ?_)
        cases hb : s.testBit i with
        | true =>
          rw [hsucc, hb] at hn
          exact EvP.pos (by first | rfl | trivial) hn
        | false =>
          rw [hsucc, hb] at hn
          refine EvP.neg (by simp) (EvP.pos (by omega) ?_)
          rw [htm.1]
          have ht := htm.2.2
          rw [w64 (n := ((sumP g (fun j => !s.testBit j) i : Nat) : Int) + (tmN g i : Int)) (by omega) (by omega)]
          exact_mod_cast hn
    exact key g.length 0 (by omega)
end Go.Proofs.YtpibdjkajgfgjaaDoor.Core
end
