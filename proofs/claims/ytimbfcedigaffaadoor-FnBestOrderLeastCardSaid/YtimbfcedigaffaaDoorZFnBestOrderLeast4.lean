/- The law FnBestOrderLeast holds of the given program: the proof's own part, with its row and its card, part 4 of 5. -/
import Derived.Test.YtimbfcedigaffaaDoorZFnBestOrderLeast3
section
set_option linter.unusedVariables false
set_option linter.unusedSimpArgs false
namespace Go.Proofs.YtimbfcedigaffaaDoor.Core
open Go Go.RowKit Go.Proofs.YtimbfcedigaffaaDoorW.PrintWords Go.Proofs.YtimbfcedigaffaaDoorW.PrintMore Go.Proofs.YtimbfcedigaffaaDoor.P
theorem FnBestOrderLeast_pure (l0 : List Int) (hW : Bytes l0) : ∃ k, laws_FnBestOrderLeast.f k l0 = some true := by
 refine Ev.one (f := fun k => laws_FnBestOrderLeast.f k l0) (EvP.ev ?_)
 unfold laws_FnBestOrderLeast.f
 refine EvP.ite (fun _ => EvP.ret rfl) (fun hlen => ?_)
 refine (ev_DrawBestOrder hW).bind fun ⟨g, room, wk⟩ hg => ?_
 obtain ⟨hg, hr, hw0, hw5⟩ := hg
 dsimp only at hg hr hw0 hw5 ⊢
 have hfit := hg.fits (by unfold big; omega) (by unfold big; omega)
 have hrb : room.length < big := by unfold big; omega
 have hs := (ev_BestOrder' hfit (room := room) (wk := wk) hrb).1
 have hl8 := bestOD_length g room wk hfit hrb
 have he := ev_equalInts (a := bestOD g room wk) (b := bestOD g room wk) (by omega)
 rw [decide_eq_true rfl] at he
 refine Ev.bindP (Ev.const (bestOD g room wk)) (Ev.bindP hs (Ev.bindP he (EvP.pos rfl ?_)))
 by_cases hz : ((bestOD g room wk).length : Int) = 0
 ·rw [show ((((bestOD g room wk).length : Nat) : Int) == 0) = true from beq_iff_eq.2 hz]
  refine EvP.succ ?_
  simp only [laws_FnBestOrderLeast.j0]
  exact EvP.pos (by first | rfl | trivial) (Ev.bindP hs (Ev.bindP he (EvP.ret rfl)))
 rw [show ((((bestOD g room wk).length : Nat) : Int) == 0) = false from beq_eq_false_iff_ne.2 hz]
 cases hfew : fewD g room wk with
 | none =>
  have e : bestOD g room wk = [] := by unfold bestOD bestD; rw [hfew]
  rw [e] at hz
  exact absurd rfl hz
 | some G =>
  obtain ⟨h5, hp⟩ := fewD_some hfew
  obtain ⟨hG, hroom, hw1, hw4⟩ := placeD_some hp
  have hbest := same_best h5 hroom
  clear hs he hl8 hz
  have last : ∀ (d i : Nat), i + d = g.length → EvP (fun k => laws_FnBestOrderLeast.l1 k g (up (List.range g.length)) (i : Int)) (fun x => x = true) := by
   intro d
   induction d with
   | zero =>
    intro i hi
    have hin : i = g.length := hi
    refine EvP.succ ?_
    simp only [laws_FnBestOrderLeast.l1, up_length, List.length_range]
    refine EvP.neg (by rw [hin]; exact Int.lt_irrefl _) (EvP.ret (beq_iff_eq.2 rfl))
   | succ d ih =>
    intro i hi
    have hig : i < g.length := by rw [← hi]; exact Nat.lt_add_of_pos_right (Nat.succ_pos d)
    have hw : wrap64 ((i : Int) + 1) = ((i + 1 : Nat) : Int) := w64s (by unfold big; omega)
    have hrd : rd (up (List.range g.length)) (i : Int) = (i : Int) := by rw [rd_up (i := i) rfl, List.getD_eq_getElem?_getD, List.getElem?_range hig]; rfl
    refine EvP.succ ?_
    simp only [laws_FnBestOrderLeast.l1, up_length, List.length_range, hrd, hw]
    exact EvP.pos (Int.ofNat_lt.2 hig) (EvP.pos (Int.natCast_nonneg i) (EvP.pos (by first | rfl | trivial) (ih (i + 1) (by rw [← hi, Nat.add_assoc, Nat.add_comm 1 d]))))
  have make : ∀ (d i : Nat), i + d = g.length → EvP (fun k => laws_FnBestOrderLeast.l0 k g room (List.replicate i sameT) (i : Int)) (fun x => x = true) := by
   intro d
   induction d with
   | zero =>
    intro i hi
    have hin : i = g.length := hi
    refine EvP.succ ?_
    simp only [laws_FnBestOrderLeast.l0]
    refine EvP.neg (by rw [hin]; exact Int.lt_irrefl _) (Ev.bindP (Ev.const (bestOD (List.replicate i sameT) room 1)) ?_)
    rw [hin, hbest]
    exact last g.length 0 (Nat.zero_add _)
   | succ d ih =>
    intro i hi
    have hig : i < g.length := by rw [← hi]; exact Nat.lt_add_of_pos_right (Nat.succ_pos d)
    have hw : wrap64 ((i : Int) + 1) = ((i + 1 : Nat) : Int) := w64s (by unfold big; omega)
    have hlen : (List.replicate i sameT).length < 2932031007402 := by
     rw [List.length_replicate]
     exact Nat.lt_trans hig (Nat.lt_of_le_of_lt h5 (by decide))
    have hn := ih (i + 1) (by rw [← hi, Nat.add_assoc, Nat.add_comm 1 d])
    rw [List.replicate_succ'] at hn
    refine EvP.succ ?_
    simp only [laws_FnBestOrderLeast.l0, hw]
    exact EvP.pos (Int.ofNat_lt.2 hig) (EvP.pos hlen hn)
  refine EvP.succ ?_
  simp only [laws_FnBestOrderLeast.j0]
  exact EvP.neg Bool.false_ne_true (make g.length 0 (Nat.zero_add _))
end Go.Proofs.YtimbfcedigaffaaDoor.Core
end
