/- The law FnFinishTask holds of the given program: the proof's own part, with its row and its card, part 4 of 5. -/
import Derived.Test.YtekajandipdlhaaDoorZFnFinishTask3
section
set_option linter.unusedVariables false
set_option linter.unusedSimpArgs false
namespace Go.Proofs.YtekajandipdlhaaDoor.Core
open Go Go.RowKit Go.Proofs.YtekajandipdlhaaDoorW.PrintWords Go.Proofs.YtekajandipdlhaaDoorW.PrintMore Go.Proofs.YtekajandipdlhaaDoor.P
theorem FnFinishTask_pure (l0 : List Int) (hW : Bytes l0) : ∃ k, laws_FnFinishTask.f k l0 = some true := by
  refine Ev.one (f := fun k => laws_FnFinishTask.f k l0) (EvP.ev ?_)
  unfold laws_FnFinishTask.f
  refine EvP.ite (fun _ => EvP.ret rfl) (fun hlen => ?_)
  refine (ev_DrawFinishTask hW).bind fun ⟨g, l, x⟩ hg => ?_
  obtain ⟨hg, hl, hx1, hx2⟩ := hg
  dsimp only at hg hl hx1 hx2 ⊢
  have hf := hg.fits (by unfold big; omega) (by unfold big; omega)
  have hs := ev_FinishTask hf (l := l) (by unfold big; omega) x
  have hl8 := finD_length g l x
  have he := ev_equalInts (a := (finD g l x).1) (b := (finD g l x).1) (by omega)
  rw [decide_eq_true rfl] at he
  refine Ev.bindP (Ev.const (finD g l x)) (Ev.bindP hs (Ev.bindP he (EvP.pos rfl (EvP.neg (by simp) ?_))))
  refine EvP.succ ?_
  simp only [laws_FnFinishTask.j0]
  rcases finD_cases g l x with h | ⟨G, s, y, hd, hy, hry, h⟩
  · rw [h] at he ⊢
    exact EvP.pos (by first | rfl | trivial) (Ev.bindP he (EvP.pos rfl (EvP.ret rfl)))
  obtain ⟨v, hG, hsl, rfl, -, hc⟩ := done_list hd
  have h8 := v.n8
  obtain ⟨e1, e2, e3⟩ := v.step hsl hc hry
  have z1 := elems_zb h8 hsl
  have z2 := elems_zb h8 e1
  have dy := (finD_yes hd hry).2
  subst hy
  rw [h]
  refine EvP.neg (by simp) ?_
  have hin (i : Nat) := ev_lawsIsIn (L := up (elemsN (s ||| 2 ^ y))) (by rw [up_length]; have := elemsN_length (s ||| 2 ^ y); unfold big; omega) (i : Int)
  have hin2 := ev_lawsIsIn (L := up (elemsN s)) (by rw [up_length]; have := elemsN_length s; unfold big; omega) (y : Int)
  rw [v.in_dec hsl, (v.mem_rd.1 hry).2.1] at hin2
  have hbit : ∀ i, s.testBit i = true ∨ i = y → decide ((i : Int) ∈ up (elemsN (s ||| 2 ^ y))) = true := by
    intro i hi
    rw [v.in_dec e1, or_bit]
    rcases hi with hi | hi
    · rw [hi, Bool.true_or]
    · rw [hi]; simp
  have key : ∀ (r pre : List Nat), elemsN s = pre ++ r → EvP (fun k => laws_FnFinishTask.l0 k g (up (elemsN s)) ((y : Nat) : Int) (up (elemsN (s ||| 2 ^ y))) (pre.length : Int)) (fun x => x = true) := by
    intro r
    induction r with
    | nil =>
      intro pre hp
      rw [List.append_nil] at hp
      have hy' := hin y
      rw [hbit y (.inr rfl)] at hy'
      refine EvP.succ ?_
      simp only [laws_FnFinishTask.l0]
      refine EvP.neg (by rw [up_length, hp]; omega) (Ev.bindP hy' (EvP.pos rfl (Ev.bindP hin2 (EvP.neg (by simp) (EvP.pos ?_ (Ev.bindP (Ev.const (doneD g (up (elemsN (s ||| 2 ^ y)))).isSome) (EvP.ret (by rw [dy]; rfl))))))))
      rw [up_length, up_length, w64s (by unfold big; omega)]
      omega
    | cons i r ih =>
      intro pre hp
      have hlen2 : (elemsN s).length = pre.length + (r.length + 1) := by rw [hp]; simp
      have hrd : rd (up (elemsN s)) (pre.length : Int) = (i : Int) := by rw [rd_up (i := pre.length) rfl, hp]; simp
      have hri : s.testBit i = true := (mem_elemsN.1 (show i ∈ elemsN s by rw [hp]; simp)).2
      have hw : wrap64 ((pre.length : Int) + 1) = ((pre ++ [i]).length : Int) := by rw [w64s (by unfold big; omega)]; simp
      have hi' := hin i
      rw [hbit i (.inl hri)] at hi'
      have hnext := ih (pre ++ [i]) (by rw [hp]; simp)
      refine EvP.succ ?_
      simp only [laws_FnFinishTask.l0, hrd, hw]
      exact EvP.pos (by rw [up_length]; omega) (EvP.pos (by omega) (Ev.bindP hi' (EvP.pos rfl hnext)))
  exact key (elemsN s) [] rfl
end Go.Proofs.YtekajandipdlhaaDoor.Core
end
