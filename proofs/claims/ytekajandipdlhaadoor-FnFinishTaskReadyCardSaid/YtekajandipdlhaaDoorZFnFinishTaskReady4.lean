/- The law FnFinishTaskReady holds of the given program: the proof's own part, with its row and its card, part 4 of 5. -/
import Derived.Test.YtekajandipdlhaaDoorZFnFinishTaskReady3
section
set_option linter.unusedVariables false
set_option linter.unusedSimpArgs false
namespace Go.Proofs.YtekajandipdlhaaDoor.Core
open Go Go.RowKit Go.Proofs.YtekajandipdlhaaDoorW.PrintWords Go.Proofs.YtekajandipdlhaaDoorW.PrintMore Go.Proofs.YtekajandipdlhaaDoor.P
/-- A task that is ready only now needed the one that has been finished. -/
theorem VG.newly {g : List Tk} {G : GD} (v : VG g G) {s y i : Nat} (hs : s < 2 ^ g.length) (hl : s ||| 2 ^ y < 2 ^ g.length) (hi : (G.ready (s ||| 2 ^ y)).testBit i = true) (hn : (G.ready s).testBit i = false) : (G.needs.getD i 0).testBit y = true := by
  obtain ⟨h1, h2, h3⟩ := v.mem_rd.1 hi
  rw [or_bit, Bool.or_eq_false_iff] at h2
  refine Decidable.byContradiction fun hny => ?_
  have : (G.ready s).testBit i = true := by
    refine v.mem_rd.2 ⟨h1, h2.1, (v.sub_iff' hs).2 fun j hj => ?_⟩
    have hh := (v.sub_iff' hl).1 h3 j hj
    rw [or_bit, Bool.or_eq_true] at hh
    rcases hh with hh | hh
    · exact hh
    · rw [decide_eq_true_eq] at hh
      subst hh
      exact absurd hj hny
  rw [this] at hn
  cases hn
theorem FnFinishTaskReady_pure (l0 : List Int) (hW : Bytes l0) : ∃ k, laws_FnFinishTaskReady.f k l0 = some true := by
  refine Ev.one (f := fun k => laws_FnFinishTaskReady.f k l0) (EvP.ev ?_)
  unfold laws_FnFinishTaskReady.f
  refine EvP.ite (fun _ => EvP.ret rfl) (fun hlen => ?_)
  refine (ev_DrawFinishTask hW).bind fun ⟨g, l, x⟩ hg => ?_
  obtain ⟨hg, hl, hx1, hx2⟩ := hg
  dsimp only at hg hl hx1 hx2 ⊢
  have hf := hg.fits (by unfold big; omega) (by unfold big; omega)
  have hs := ev_FinishTask hf (l := l) (by unfold big; omega) x
  have hl8 := finD_length g l x
  have he := ev_equalInts (a := (finD g l x).1) (b := (finD g l x).1) (by omega)
  rw [decide_eq_true rfl] at he
  refine Ev.bindP (Ev.const (finD g l x)) (Ev.bindP hs (Ev.bindP he (EvP.pos rfl (EvP.neg (by simp) ?_))))
  refine EvP.succ ?_
  simp only [laws_FnFinishTaskReady.j0]
  rcases finD_cases g l x with h | ⟨G, s, y, hd, hy, hry, h⟩
  · rw [h] at he ⊢
    exact EvP.pos (by first | rfl | trivial) (Ev.bindP he (EvP.pos rfl (EvP.ret rfl)))
  obtain ⟨v, hG, hsl, -, -, hc⟩ := done_list hd
  have h8 := v.n8
  obtain ⟨e1, e2, e3⟩ := v.step hsl hc hry
  have dy := (finD_yes hd hry).2
  subst hy
  rw [h]
  refine EvP.neg (by simp) (Ev.bindP (Ev.const (readyD g l)) (Ev.bindP (Ev.const (readyD g (up (elemsN (s ||| 2 ^ y))))) ?_))
  rw [readyD_some hd, readyD_some dy]
  have hrl := v.ready_lt' s
  have hrl2 := v.ready_lt' (s ||| 2 ^ y)
  have hel := elemsN_length (G.ready (s ||| 2 ^ y))
  have hin (i : Nat) := ev_lawsIsIn (L := up (elemsN (G.ready s))) (by rw [up_length]; have := elemsN_length (G.ready s); unfold big; omega) (i : Int)
  have hin2 := ev_lawsIsIn (L := up (elemsN (G.ready (s ||| 2 ^ y)))) (by rw [up_length]; unfold big; omega) (y : Int)
  have hry2 : (G.ready (s ||| 2 ^ y)).testBit y = false := by
    refine Bool.eq_false_iff.2 fun e => ?_
    have := (v.mem_rd.1 e).2.1
    rw [or_bit] at this
    simp at this
  rw [v.in_dec hrl2, hry2] at hin2
  have key : ∀ (r pre : List Nat), elemsN (G.ready (s ||| 2 ^ y)) = pre ++ r → EvP (fun k => laws_FnFinishTaskReady.l0 k g ((y : Nat) : Int) (up (elemsN (G.ready s))) (up (elemsN (G.ready (s ||| 2 ^ y)))) (pre.length : Int)) (fun x => x = true) := by
    intro r
    induction r with
    | nil =>
      intro pre hp
      rw [List.append_nil] at hp
      refine EvP.succ ?_
      simp only [laws_FnFinishTaskReady.l0]
      exact EvP.neg (by rw [up_length, hp]; omega) (Ev.bindP hin2 (EvP.ret rfl))
    | cons i r ih =>
      intro pre hp
      have hlen2 : (elemsN (G.ready (s ||| 2 ^ y))).length = pre.length + (r.length + 1) := by rw [hp]; simp
      have hrd : rd (up (elemsN (G.ready (s ||| 2 ^ y)))) (pre.length : Int) = (i : Int) := by rw [rd_up (i := pre.length) rfl, hp]; simp
      have hri : (G.ready (s ||| 2 ^ y)).testBit i = true := (mem_elemsN.1 (show i ∈ elemsN (G.ready (s ||| 2 ^ y)) by rw [hp]; simp)).2
      have hig := (v.mem_rd.1 hri).1
      have hw : wrap64 ((pre.length : Int) + 1) = ((pre ++ [i]).length : Int) := by rw [w64s (by unfold big; omega)]; simp
      have hi' := hin i
      rw [v.in_dec hrl] at hi'
      have hnext := ih (pre ++ [i]) (by rw [hp]; simp)
      refine EvP.succ ?_
      simp only [laws_FnFinishTaskReady.l0, hrd, hw, rdT_nat]
      refine EvP.pos (by rw [up_length]; omega) (EvP.pos (by omega) (Ev.bindP hi' ?_))
      cases hr : (G.ready s).testBit i with
      | true => exact EvP.pos rfl hnext
      | false =>
        have hb := v.newly hsl e1 hri hr
        have hin3 := ev_lawsIsIn (L := (g.getD i z37).f1) (by rw [v.list hig, up_length]; have := elemsN_length (G.needs.getD i 0); unfold big; omega) (y : Int)
        have hy3 : decide ((y : Int) ∈ (g.getD i z37).f1) = true := by
          rw [decide_eq_true_eq, v.list hig, mem_up]
          exact mem_elemsN.2 ⟨by have := v.need_lt hb; omega, hb⟩
        rw [hy3] at hin3
        exact EvP.neg (by simp) (EvP.pos (by omega) (EvP.pos (by omega) (Ev.bindP hin3 (EvP.pos rfl hnext))))
  exact key (elemsN (G.ready (s ||| 2 ^ y))) [] rfl
end Go.Proofs.YtekajandipdlhaaDoor.Core
end
