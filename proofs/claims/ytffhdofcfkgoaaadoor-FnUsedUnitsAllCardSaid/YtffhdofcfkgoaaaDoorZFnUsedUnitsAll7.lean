/- The law FnUsedUnitsAll holds of the given program: part 7: words and contracts that the proof uses. -/
import Derived.Test.YtffhdofcfkgoaaaDoorZFnUsedUnitsAll6
section
set_option linter.unusedVariables false
set_option linter.unusedSimpArgs false
namespace Go.Proofs.YtffhdofcfkgoaaaDoor.Core
open Go Go.RowKit Go.Proofs.YtffhdofcfkgoaaaDoorW.PrintWords Go.Proofs.YtffhdofcfkgoaaaDoorW.PrintMore Go.Proofs.YtffhdofcfkgoaaaDoor.P
theorem usedD_up {g : List Tk} {G : GD} (hG : graphD g = some G) {L : List Nat} (hok : needsOk g.length (up L)) : usedD g (up L) = [usedN g 0 L, usedN g 1 L, usedN g 2 L] := by
  have h8 : g.length ≤ 8 := by have := (graphD_ok hG).n8; rw [graphD_tasks hG] at this; exact this
  obtain ⟨s, hs⟩ := setD_ok hok
  have := up_inj (set_list h8 hs)
  subst this
  exact usedD_some hG hs
end Go.Proofs.YtffhdofcfkgoaaaDoor.Core
end
section
set_option linter.unusedVariables false
set_option linter.unusedSimpArgs false
namespace Go.Proofs.YtffhdofcfkgoaaaDoor.Core
open Go Go.RowKit Go.Proofs.YtffhdofcfkgoaaaDoorW.PrintWords Go.Proofs.YtffhdofcfkgoaaaDoorW.PrintMore Go.Proofs.YtffhdofcfkgoaaaDoor.P
/-- The units of tasks, of all pools together. -/
def unitsN (g : List Tk) : List Nat → Int
  | [] => 0
  | i :: r => (g.getD i z33).f3 + unitsN g r
theorem unitsN_app (g : List Tk) : ∀ (a b : List Nat), unitsN g (a ++ b) = unitsN g a + unitsN g b
  | [], b => by simp [unitsN]
  | i :: a, b => by rw [List.cons_append, unitsN, unitsN, unitsN_app g a b]; omega
theorem units_pools {g : List Tk} : ∀ {L : List Nat}, (∀ i ∈ L, 0 ≤ (g.getD i z33).f2 ∧ (g.getD i z33).f2 ≤ 2) → usedN g 0 L + (usedN g 1 L + (usedN g 2 L + 0)) = unitsN g L
  | [], _ => by simp [usedN, unitsN]
  | i :: r, h => by
    have ih := units_pools (L := r) (fun j hj => h j (List.mem_cons_of_mem _ hj))
    have hi := h i List.mem_cons_self
    simp only [usedN, unitsN]
    split <;> split <;> split <;> omega
theorem asc_range (n : Nat) : ascD (up (List.range n)) = true := by
  have := (asc_filter (fun _ => true) n 0).1
  rwa [← List.range_eq_range', List.filter_eq_self.2 (fun _ _ => rfl)] at this
theorem range_ok (n : Nat) : needsOk n (up (List.range n)) := by
  refine ⟨fun x hx => ?_, asc_range n⟩
  obtain ⟨i, hi, rfl⟩ := List.mem_map.1 hx
  have := List.mem_range.1 hi
  show 0 ≤ (i : Int) ∧ (i : Int) ≤ (n : Int) - 1
  omega
theorem up_snoc (L : List Nat) (i : Nat) : up (L ++ [i]) = up L ++ [(i : Int)] := by simp [up]
theorem FnUsedUnitsAll_pure (l0 : List Int) (hW : Bytes l0) : ∃ k, laws_FnUsedUnitsAll.f k l0 = some true := by
  refine Ev.one (f := fun k => laws_FnUsedUnitsAll.f k l0) (EvP.ev ?_)
  unfold laws_FnUsedUnitsAll.f
  refine EvP.ite (fun _ => EvP.ret rfl) (fun hlen => ?_)
  refine (ev_DrawUsedUnits hW).bind ?_
  rintro ⟨g, l⟩ ⟨hg, hl⟩
  simp only [] at hg hl ⊢
  have hf := hg.fits (by unfold big; omega) (by unfold big; omega)
  have hs := ev_UsedUnits hf (l := l) (by unfold big; omega)
  have hu8 : (usedD g l).length ≤ 3 := by
    unfold usedD
    split
    · simp
    · split <;> simp
  have he := ev_equalInts (a := usedD g l) (b := usedD g l) (by omega)
  rw [decide_eq_true rfl] at he
  refine Ev.bindP (Ev.const (usedD g l)) (Ev.bindP hs (Ev.bindP he (EvP.pos rfl ?_)))
  have hno : EvP (fun k => laws_FnUsedUnitsAll.j0 k g l (usedD g l) true) (fun x => x = true) := by
    refine EvP.succ ?_
    simp only [laws_FnUsedUnitsAll.j0, if_true]
    exact Ev.bindP hs (Ev.bindP he (EvP.ret rfl))
  refine Ev.bindP (Ev.const (graphD g).isSome) ?_
  cases hG : graphD g with
  | none => exact hno
  | some G =>
    refine EvP.succ ?_
    simp only [laws_FnUsedUnitsAll.j0, Option.isSome_some, Bool.not_true, Bool.false_eq_true, if_false]
    have h8 : g.length ≤ 8 := by have := (graphD_ok hG).n8; rw [graphD_tasks hG] at this; exact this
    have htk := graphD_taskOk hG
    have hmem : ∀ i, i < g.length → 1 ≤ (g.getD i z33).f3 ∧ (g.getD i z33).f3 ≤ 4 := fun i hi => (htk _ (getD_mem hi)).2.2
    have hun : ∀ i, i ≤ g.length → 0 ≤ unitsN g (List.range i) ∧ unitsN g (List.range i) ≤ 4 * i := by
      intro i
      induction i with
      | zero => intro _; simp [unitsN]
      | succ i ih =>
        intro h
        have := ih (by omega)
        have := hmem i (by omega)
        rw [List.range_succ, unitsN_app]
        simp only [unitsN]
        omega
    have key : ∀ (d i : Nat), i + d = g.length → EvP (fun k => laws_FnUsedUnitsAll.l0 k g (up (List.range i)) (unitsN g (List.range i)) (i : Int)) (fun x => x = true) := by
      intro d
      induction d with
      | zero =>
        intro i h
        have hi : i = g.length := by omega
        subst hi
        refine EvP.succ ?_
        simp only [laws_FnUsedUnitsAll.l0]
        have hlt : ∀ i ∈ List.range g.length, i < g.length := fun i hi => List.mem_range.1 hi
        have hu : UOk g (List.range g.length) := fun i hi => hmem i (hlt i hi)
        have b := fun p => usedN_bd (p := p) hu
        simp only [List.length_range] at b
        have b0 := b 0
        have b1 := b 1
        have b2 := b 2
        have e1 := usedD_up hG (range_ok g.length)
        have e2 := usedD_up hG (L := []) ⟨by simp [up], rfl⟩
        refine EvP.neg (by omega) (Ev.bindP (Ev.const (usedD g (up (List.range g.length)))) ?_)
        rw [e1]
        refine Ev.bindP (ev_lsum (by simp) (by simp; omega)) (EvP.pos (units_pools fun i hi => (htk _ (getD_mem (hlt i hi))).2.1) ?_)
        refine Ev.bindP (Ev.const (usedD g (up []))) ?_
        rw [e2]
        exact Ev.bindP (ev_lsum (by simp) (by simp [usedN])) (EvP.ret (by simp [sumI, usedN]))
      | succ d ih =>
        intro i h
        have hi := hun (i + 1) (by omega)
        have e : unitsN g (List.range i) + (g.getD i z33).f3 = unitsN g (List.range (i + 1)) := by
          rw [List.range_succ, unitsN_app]; simp [unitsN]
        refine EvP.succ ?_
        simp only [laws_FnUsedUnitsAll.l0, rdT_nat, e]
        rw [w64 (n := (i : Int) + 1) (by omega) (by omega), w64 (by omega) (by omega)]
        have := ih (i + 1) (by omega)
        rw [List.range_succ, up_snoc, ← List.range_succ] at this
        exact EvP.pos (by omega) (EvP.pos (by simp [up]; omega) (EvP.pos (by omega) this))
    exact key g.length 0 (by omega)
end Go.Proofs.YtffhdofcfkgoaaaDoor.Core
end
