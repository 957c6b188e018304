/- The law FnFinishTaskOrder holds of the given program: the proof's own part, with its row and its card, part 6 of 7. -/
import Derived.Test.YtpgfcihmgdempaaDoorZFnFinishTaskOrder5
section
set_option linter.unusedVariables false
set_option linter.unusedSimpArgs false
namespace Go.Proofs.YtpgfcihmgdempaaDoor.Core
open Go Go.RowKit Go.Proofs.YtpgfcihmgdempaaDoorW.PrintWords Go.Proofs.YtpgfcihmgdempaaDoorW.PrintMore Go.Proofs.YtpgfcihmgdempaaDoor.P
/-- A ready task stays ready while another one is finished. -/
theorem VG.still_ready {g : List Tk} {G : GD} (v : VG g G) {s x y : Nat} (hs : s < 2 ^ g.length) (hx : (G.ready s).testBit x = true) (hy : (G.ready s).testBit y = true) (hne : y ≠ x) : (G.ready (s ||| 2 ^ x)).testBit y = true := by
  obtain ⟨h1, h2, h3⟩ := v.mem_rd.1 hy
  obtain ⟨a1, a2, a3⟩ := v.mem_rd.1 hx
  have hlt : s ||| 2 ^ x < 2 ^ g.length := Nat.or_lt_two_pow hs (Nat.pow_lt_pow_right (by omega) a1)
  refine v.mem_rd.2 ⟨h1, ?_, (v.sub_iff' hlt).2 fun j hj => ?_⟩
  · rw [or_bit, h2, Bool.false_or]
    exact decide_eq_false (fun e => hne e.symm)
  · rw [or_bit, (v.sub_iff' hs).1 h3 j hj, Bool.true_or]
theorem or_swap (s x y : Nat) : (s ||| 2 ^ x) ||| 2 ^ y = (s ||| 2 ^ y) ||| 2 ^ x := by
  refine Nat.eq_of_testBit_eq fun i => ?_
  rw [or_bit, or_bit, or_bit, or_bit]
  cases s.testBit i <;> simp [Bool.or_comm]
theorem FnFinishTaskOrder_pure (l0 : List Int) (hW : Bytes l0) : ∃ k, laws_FnFinishTaskOrder.f k l0 = some true := by
  refine Ev.one (f := fun k => laws_FnFinishTaskOrder.f k l0) (EvP.ev ?_)
  unfold laws_FnFinishTaskOrder.f
  refine EvP.ite (fun _ => EvP.ret rfl) (fun hlen => ?_)
  refine (ev_DrawFinishTask hW).bind fun ⟨g, l, x⟩ hg => ?_
  obtain ⟨hg, hl, hx1, hx2⟩ := hg
  dsimp only at hg hl hx1 hx2 ⊢
  have hf := hg.fits (by unfold big; omega) (by unfold big; omega)
  have hs := ev_FinishTask hf (l := l) (by unfold big; omega) x
  have hl8 := finD_length g l x
  have he := ev_equalInts (a := (finD g l x).1) (b := (finD g l x).1) (by omega)
  rw [decide_eq_true rfl] at he
  refine Ev.bindP (Ev.const (finD g l x)) (Ev.bindP hs (Ev.bindP he (EvP.pos rfl (EvP.neg (by simp) ?_))))
  refine EvP.succ ?_
  simp only [laws_FnFinishTaskOrder.j0]
  rcases finD_cases g l x with h | ⟨G, s, y, hd, hy, hry, h⟩
  · rw [h] at he ⊢
    exact EvP.pos (by first | rfl | trivial) (Ev.bindP he (EvP.pos rfl (EvP.ret rfl)))
  obtain ⟨v, hG, hsl, -, -, hc⟩ := done_list hd
  have h8 := v.n8
  have hrl := ready_lt G s
  rw [v.nl] at hrl
  rw [h]
  refine EvP.neg (by simp) (Ev.bindP (Ev.const (readyD g l)) ?_)
  rw [readyD_some hd]
  subst hy
  have dy := (finD_yes hd hry).2
  have hel := elemsN_length (G.ready s)
  have key : ∀ (r pre : List Nat), elemsN (G.ready s) = pre ++ r → EvP (fun k => laws_FnFinishTaskOrder.l0 k g l ((y : Nat) : Int) (up (elemsN (s ||| 2 ^ y))) (up (elemsN (G.ready s))) (pre.length : Int)) (fun x => x = true) := by
    intro r
    induction r with
    | nil =>
      intro pre hp
      rw [List.append_nil] at hp
      refine EvP.succ ?_
      simp only [laws_FnFinishTaskOrder.l0]
      exact EvP.neg (by rw [up_length, hp]; omega) (EvP.ret rfl)
    | cons i r ih =>
      intro pre hp
      have hlen2 : (elemsN (G.ready s)).length = pre.length + (r.length + 1) := by rw [hp]; simp
      have hrd : rd (up (elemsN (G.ready s))) (pre.length : Int) = (i : Int) := by rw [rd_up (i := pre.length) rfl, hp]; simp
      have hri : (G.ready s).testBit i = true := (mem_elemsN.1 (show i ∈ elemsN (G.ready s) by rw [hp]; simp)).2
      have hw : wrap64 ((pre.length : Int) + 1) = ((pre ++ [i]).length : Int) := by rw [w64s (by unfold big; omega)]; simp
      have hnext := ih (pre ++ [i]) (by rw [hp]; simp)
      refine EvP.succ ?_
      simp only [laws_FnFinishTaskOrder.l0, hrd, hw]
      refine EvP.pos (by rw [up_length]; omega) (EvP.pos (by omega) ?_)
      by_cases hiy : i = y
      · exact EvP.pos (by rw [hiy]) hnext
      · have fa := finD_yes dy (v.still_ready hsl hry hri hiy)
        have fb := finD_yes hd hri
        have fc := finD_yes fb.2 (v.still_ready hsl hri hry (fun e => hiy e.symm))
        have hee := ev_equalInts (a := up (elemsN ((s ||| 2 ^ y) ||| 2 ^ i))) (b := up (elemsN ((s ||| 2 ^ i) ||| 2 ^ y))) (by rw [up_length]; have := elemsN_length ((s ||| 2 ^ y) ||| 2 ^ i); omega)
        rw [decide_eq_true (by rw [or_swap])] at hee
        refine EvP.neg (by omega) (Ev.bindP (Ev.const (finD g (up (elemsN (s ||| 2 ^ y))) (i : Int))) (Ev.bindP (Ev.const (finD g l (i : Int))) ?_))
        rw [fa.1, fb.1]
        refine Ev.bindP (Ev.const (finD g (up (elemsN (s ||| 2 ^ i))) (y : Int))) ?_
        rw [fc.1]
        exact EvP.pos rfl (EvP.pos rfl (EvP.pos rfl (Ev.bindP hee (EvP.pos rfl hnext))))
  exact key (elemsN (G.ready s)) [] rfl
end Go.Proofs.YtpgfcihmgdempaaDoor.Core
end
