/- The law FnUsedUnits holds of the given program: part 7: words and contracts that the proof uses. -/
import Derived.Test.YtffhdofcfkgoaaaDoorZFnUsedUnits6
section
set_option linter.unusedVariables false
set_option linter.unusedSimpArgs false
namespace Go.Proofs.YtffhdofcfkgoaaaDoor.Core
open Go Go.RowKit Go.Proofs.YtffhdofcfkgoaaaDoorW.PrintWords Go.Proofs.YtffhdofcfkgoaaaDoorW.PrintMore Go.Proofs.YtffhdofcfkgoaaaDoor.P
theorem usedD_up {g : List Tk} {G : GD} (hG : graphD g = some G) {L : List Nat} (hok : needsOk g.length (up L)) : usedD g (up L) = [usedN g 0 L, usedN g 1 L, usedN g 2 L] := by
  have h8 : g.length ≤ 8 := by have := (graphD_ok hG).n8; rw [graphD_tasks hG] at this; exact this
  obtain ⟨s, hs⟩ := setD_ok hok
  have := up_inj (set_list h8 hs)
  subst this
  exact usedD_some hG hs
theorem usedD_ne {g : List Tk} {l : List Int} (h : (usedD g l).length ≠ 0) : ∃ G L, graphD g = some G ∧ l = up L ∧ needsOk g.length (up L) ∧ UOk g L ∧ (∀ i ∈ L, i < g.length) ∧ L.length ≤ 8 := by
  unfold usedD at h
  cases hG : graphD g with
  | none => rw [hG] at h; simp at h
  | some G =>
    rw [hG] at h
    simp only [] at h
    have h8 : g.length ≤ 8 := by have := (graphD_ok hG).n8; rw [graphD_tasks hG] at this; exact this
    rcases set_cases g.length l with ⟨s, hs, hok⟩ | ⟨hs, hok⟩
    · obtain ⟨hu, hL⟩ := graphD_uok hG s (setD_lt hs)
      have := set_list h8 hs
      exact ⟨G, elemsN s, rfl, this.symm, by rw [this]; exact hok, hu, hL, elemsN_length s⟩
    · rw [hs] at h; simp at h
theorem FnUsedUnits_pure (l0 : List Int) (hW : Bytes l0) : ∃ k, laws_FnUsedUnits.f k l0 = some true := by
  refine Ev.one (f := fun k => laws_FnUsedUnits.f k l0) (EvP.ev ?_)
  unfold laws_FnUsedUnits.f
  refine EvP.ite (fun _ => EvP.ret rfl) (fun hlen => ?_)
  refine (ev_DrawUsedUnits hW).bind ?_
  rintro ⟨g, l⟩ ⟨hg, hl⟩
  simp only [] at hg hl ⊢
  have hf := hg.fits (by unfold big; omega) (by unfold big; omega)
  have hs := ev_UsedUnits hf (l := l) (by unfold big; omega)
  have hu8 : (usedD g l).length ≤ 3 := by
    unfold usedD
    split
    · simp
    · split <;> simp
  have he := ev_equalInts (a := usedD g l) (b := usedD g l) (by omega)
  rw [decide_eq_true rfl] at he
  refine Ev.bindP (Ev.const (usedD g l)) (Ev.bindP hs (Ev.bindP he (EvP.pos rfl ?_)))
  have hno : EvP (fun k => laws_FnUsedUnits.j0 k g l (usedD g l) true) (fun x => x = true) := by
    refine EvP.succ ?_
    simp only [laws_FnUsedUnits.j0, if_true]
    exact Ev.bindP hs (Ev.bindP he (EvP.ret rfl))
  refine EvP.ite (fun _ => hno) (fun hne => ?_)
  obtain ⟨G, L, hG, rfl, hok, hu, hL, h8⟩ := usedD_ne (g := g) (l := l) (by omega)
  cases L with
  | nil => exact hno
  | cons i r =>
    rw [show (((up (i :: r)).length : Int) == 0) = false from beq_eq_false_iff_ne.2 (by first | (simp [up]; done) | (simp [up]; omega))]
    have hokr : needsOk g.length (up r) := ⟨fun x hx => hok.1 x (List.mem_cons_of_mem _ hx), (asc_lt hok.2).1⟩
    have hoki : needsOk g.length (up [i]) := ⟨fun x hx => hok.1 x (by rw [List.mem_singleton.1 hx]; exact List.mem_cons_self), rfl⟩
    have ea := usedD_up hG hoki
    have eb := usedD_up hG hokr
    have eo := usedD_up hG hok
    have hui := hu i List.mem_cons_self
    have hpool := (graphD_taskOk hG _ (getD_mem (hL i List.mem_cons_self))).2.1
    have hbr : ∀ p, 0 ≤ usedN g p r ∧ usedN g p r ≤ 4 * r.length := fun p => usedN_bd (fun j hj => hu j (List.mem_cons_of_mem _ hj))
    simp only [List.length_cons] at h8
    have h0 := hbr 0
    have h1 := hbr 1
    have h2 := hbr 2
    refine EvP.succ ?_
    simp only [laws_FnUsedUnits.j0, Bool.false_eq_true, if_false, show (up (i :: r)).take 1 = up [i] from rfl, show (up (i :: r)).drop 1 = up r from rfl]
    refine EvP.pos (by first | (simp [up]; done) | (simp [up]; omega)) (Ev.bindP (Ev.const (usedD g (up [i]))) (Ev.bindP (Ev.const (usedD g (up r))) ?_))
    rw [ea, eb, eo]
    have c0 : rd [usedN g 0 (i :: r), usedN g 1 (i :: r), usedN g 2 (i :: r)] 0 = usedN g 0 (i :: r) := rfl
    have c1 : rd [usedN g 0 (i :: r), usedN g 1 (i :: r), usedN g 2 (i :: r)] 1 = usedN g 1 (i :: r) := rfl
    have c2 : rd [usedN g 0 (i :: r), usedN g 1 (i :: r), usedN g 2 (i :: r)] 2 = usedN g 2 (i :: r) := rfl
    have a0 : rd [usedN g 0 [i], usedN g 1 [i], usedN g 2 [i]] 0 = usedN g 0 [i] := rfl
    have a1 : rd [usedN g 0 [i], usedN g 1 [i], usedN g 2 [i]] 1 = usedN g 1 [i] := rfl
    have a2 : rd [usedN g 0 [i], usedN g 1 [i], usedN g 2 [i]] 2 = usedN g 2 [i] := rfl
    have b0 : rd [usedN g 0 r, usedN g 1 r, usedN g 2 r] 0 = usedN g 0 r := rfl
    have b1 : rd [usedN g 0 r, usedN g 1 r, usedN g 2 r] 1 = usedN g 1 r := rfl
    have b2 : rd [usedN g 0 r, usedN g 1 r, usedN g 2 r] 2 = usedN g 2 r := rfl
    have z0 : 0 ≤ usedN g 0 [i] ∧ usedN g 0 [i] ≤ 4 := by simp only [usedN]; split <;> omega
    have z1 : 0 ≤ usedN g 1 [i] ∧ usedN g 1 [i] ≤ 4 := by simp only [usedN]; split <;> omega
    have z2 : 0 ≤ usedN g 2 [i] ∧ usedN g 2 [i] ≤ 4 := by simp only [usedN]; split <;> omega
    have s0 : usedN g 0 (i :: r) = usedN g 0 [i] + usedN g 0 r := by simp only [usedN]; omega
    have s1 : usedN g 1 (i :: r) = usedN g 1 [i] + usedN g 1 r := by simp only [usedN]; omega
    have s2 : usedN g 2 (i :: r) = usedN g 2 [i] + usedN g 2 r := by simp only [usedN]; omega
    have st : usedN g 0 [i] + (usedN g 1 [i] + (usedN g 2 [i] + 0)) = (g.getD i z33).f3 := by
      simp only [usedN]
      split <;> split <;> split <;> omega
    refine EvP.succ ?_
    simp only [laws_FnUsedUnits.l0, List.length_cons, List.length_nil, c0, a0, b0]
    rw [w64 (n := usedN g 0 [i] + usedN g 0 r) (by omega) (by omega), show wrap64 (0 + 1) = 1 from by unfold wrap64; omega]
    refine EvP.pos (by omega) (EvP.neg (by omega) (EvP.neg (by omega) (EvP.pos (by omega) (EvP.pos (by omega) (EvP.pos (by omega) (EvP.pos s0 (EvP.succ ?_)))))))
    simp only [laws_FnUsedUnits.l0, List.length_cons, List.length_nil, c1, a1, b1]
    rw [w64 (n := usedN g 1 [i] + usedN g 1 r) (by omega) (by omega), show wrap64 (1 + 1) = 2 from by unfold wrap64; omega]
    refine EvP.pos (by omega) (EvP.neg (by omega) (EvP.neg (by omega) (EvP.pos (by omega) (EvP.pos (by omega) (EvP.pos (by omega) (EvP.pos s1 (EvP.succ ?_)))))))
    simp only [laws_FnUsedUnits.l0, List.length_cons, List.length_nil, c2, a2, b2]
    rw [w64 (n := usedN g 2 [i] + usedN g 2 r) (by omega) (by omega), show wrap64 (2 + 1) = 3 from by unfold wrap64; omega]
    refine EvP.pos (by omega) (EvP.neg (by omega) (EvP.neg (by omega) (EvP.pos (by omega) (EvP.pos (by omega) (EvP.pos (by omega) (EvP.pos s2 (EvP.succ ?_)))))))
    have hil := hL i List.mem_cons_self
    simp only [laws_FnUsedUnits.l0, List.length_cons, List.length_nil, show rd (up (i :: r)) 0 = (i : Int) from rfl, rdT_nat]
    refine EvP.neg (by omega) (Ev.bindP (ev_lsum (by simp) (by simp; omega)) (EvP.pos (by first | (simp [up]; done) | (simp [up]; omega)) (EvP.pos (by omega) (EvP.pos (by omega) (EvP.ret ?_)))))
    rw [show sumI [usedN g 0 [i], usedN g 1 [i], usedN g 2 [i]] = (g.getD i z33).f3 from st]
    simp
end Go.Proofs.YtffhdofcfkgoaaaDoor.Core
end
