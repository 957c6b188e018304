/- The law FnValidDoneNeeds holds of the given program: the proof's own part, with its row and its card, part 6 of 7. -/
import Derived.Test.YtpgfcihmgdempaaDoorZFnValidDoneNeeds5
section
set_option linter.unusedVariables false
set_option linter.unusedSimpArgs false
namespace Go.Proofs.YtpgfcihmgdempaaDoor.Core
open Go Go.RowKit Go.Proofs.YtpgfcihmgdempaaDoorW.PrintWords Go.Proofs.YtpgfcihmgdempaaDoorW.PrintMore Go.Proofs.YtpgfcihmgdempaaDoor.P
theorem FnValidDoneNeeds_pure (l0 : List Int) (hW : Bytes l0) : ∃ k, laws_FnValidDoneNeeds.f k l0 = some true := by
  refine Ev.one (f := fun k => laws_FnValidDoneNeeds.f k l0) (EvP.ev ?_)
  unfold laws_FnValidDoneNeeds.f
  refine EvP.ite (fun _ => EvP.ret rfl) (fun hlen => ?_)
  refine (ev_DrawValidDone hW).bind fun ⟨g, l⟩ hg => ?_
  obtain ⟨hg, hl⟩ := hg
  dsimp only at hg hl ⊢
  have hf := hg.fits (by unfold big; omega) (by unfold big; omega)
  have hs := ev_ValidDoneS hf (l := l) (by unfold big; omega)
  refine Ev.bindP (Ev.const (doneD g l).isSome) (Ev.bindP hs (EvP.neg (by simp) ?_))
  refine EvP.succ ?_
  simp only [laws_FnValidDoneNeeds.j0]
  cases h : doneD g l with
  | none =>
    rw [h] at hs
    exact EvP.pos (by first | rfl | trivial) (Ev.bindP hs (EvP.ret (by simp)))
  | some GS =>
    obtain ⟨G, s⟩ := GS
    obtain ⟨v, hG, hsl, rfl, _, hc⟩ := done_list h
    have h8 := v.n8
    have hcl := (v.closed_iff hsl).1 hc
    have hel := elemsN_length s
    refine EvP.neg (by simp) ?_
    have inner : ∀ (i : Int) (L : List Nat), L.length ≤ 8 → (∀ x ∈ L, s.testBit x = true) → EvP (fun k => laws_FnValidDoneNeeds.l0 k g (up (elemsN s)) (wrap64 (i + 1))) (fun x => x = true) → ∀ (r pre : List Nat), L = pre ++ r → EvP (fun k => laws_FnValidDoneNeeds.l1 k g (up (elemsN s)) i (up L) (pre.length : Int)) (fun x => x = true) := by
      intro i L hL8 hL hnext r
      induction r with
      | nil =>
        intro pre hp
        rw [List.append_nil] at hp
        refine EvP.succ ?_
        simp only [laws_FnValidDoneNeeds.l1]
        exact EvP.neg (by rw [up_length, hp]; omega) hnext
      | cons x r ih =>
        intro pre hp
        have hlen : L.length = pre.length + (r.length + 1) := by rw [hp]; simp
        have hrd : rd (up L) (pre.length : Int) = (x : Int) := by rw [rd_up (i := pre.length) rfl, hp]; simp
        have hw : wrap64 ((pre.length : Int) + 1) = ((pre ++ [x]).length : Int) := by rw [w64s (by unfold big; omega)]; simp
        have hin := ev_lawsIsIn (L := up (elemsN s)) (by rw [up_length]; unfold big; omega) (x : Int)
        have hb := hL x (by rw [hp]; simp)
        rw [decide_eq_true (mem_up.2 ((v.list_bit hsl x).1 hb))] at hin
        refine EvP.succ ?_
        simp only [laws_FnValidDoneNeeds.l1, hrd, hw]
        exact EvP.pos (by rw [up_length]; omega) (EvP.pos (by omega) (Ev.bindP hin (EvP.pos (by first | rfl | trivial) (ih (pre ++ [x]) (by rw [hp]; simp)))))
    have outer : ∀ (r pre : List Nat), elemsN s = pre ++ r → EvP (fun k => laws_FnValidDoneNeeds.l0 k g (up (elemsN s)) (pre.length : Int)) (fun x => x = true) := by
      intro r
      induction r with
      | nil =>
        intro pre hp
        rw [List.append_nil] at hp
        refine EvP.succ ?_
        simp only [laws_FnValidDoneNeeds.l0]
        exact EvP.neg (by rw [up_length, hp]; omega) (EvP.ret rfl)
      | cons i r ih =>
        intro pre hp
        have hlen : (elemsN s).length = pre.length + (r.length + 1) := by rw [hp]; simp
        have hrd : rd (up (elemsN s)) (pre.length : Int) = (i : Int) := by rw [rd_up (i := pre.length) rfl, hp]; simp
        have hi : i ∈ elemsN s := by rw [hp]; simp
        have hig := elemsN_lt hsl hi
        have hw : wrap64 ((pre.length : Int) + 1) = ((pre ++ [i]).length : Int) := by rw [w64s (by unfold big; omega)]; simp
        have ha : allNeedsD g (i : Int) = up (elemsN (G.below.getD i 0)) := by
          unfold allNeedsD
          rw [hG]
          simp only []
          rw [if_pos (by omega), Int.toNat_natCast]
          rfl
        refine EvP.succ ?_
        simp only [laws_FnValidDoneNeeds.l0, hrd]
        refine EvP.pos (by rw [up_length]; omega) (EvP.pos (by omega) (Ev.bindP (Ev.const (allNeedsD g (i : Int))) ?_))
        rw [ha]
        refine inner _ _ (elemsN_length _) (fun x hx => ?_) (by rw [hw]; exact ih (pre ++ [i]) (by rw [hp]; simp)) _ [] rfl
        exact v.below_in hG (fun a _ hab => hcl a hab) i hig ((v.list_bit hsl i).2 hi) x (mem_elemsN.1 hx).2
    exact outer (elemsN s) [] rfl
end Go.Proofs.YtpgfcihmgdempaaDoor.Core
end
