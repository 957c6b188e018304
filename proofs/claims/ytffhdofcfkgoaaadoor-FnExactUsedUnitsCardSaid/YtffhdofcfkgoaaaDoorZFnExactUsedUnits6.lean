/- The law FnExactUsedUnits holds of the given program: part 6: words and contracts that the proof uses. -/
import Derived.Test.YtffhdofcfkgoaaaDoorZFnExactUsedUnits5
section
set_option linter.unusedVariables false
set_option linter.unusedSimpArgs false
namespace Go.Proofs.YtffhdofcfkgoaaaDoor.Core
open Go Go.RowKit Go.Proofs.YtffhdofcfkgoaaaDoorW.PrintWords Go.Proofs.YtffhdofcfkgoaaaDoorW.PrintMore Go.Proofs.YtffhdofcfkgoaaaDoor.P
theorem usedD_length (g : List Tk) (l : List Int) : (usedD g l).length ≤ 3 := by
  unfold usedD
  cases graphD g with
  | none => simp
  | some G => cases setD g.length l <;> simp
theorem FnExactUsedUnits_pure (l0 : List Lt) (l1 : List Int) (hs0 : Small l0) : ∃ k, laws_FnExactUsedUnits.f k l0 l1 = some true := by
  refine Ev.one (f := fun k => laws_FnExactUsedUnits.f k l0 l1) ?_
  unfold laws_FnExactUsedUnits.f
  by_cases b1 : (l1.length : Int) > 1048576
  · exact Ev.pos b1 (Ev.const _)
  refine Ev.neg b1 ?_
  refine Ev.bind (ev_sz hs0 (x := 1048576) (by omega) (by omega)) ?_
  by_cases h : szD l0 1048576 < 0
  · exact Ev.pos h (Ev.const _)
  obtain ⟨h1, h2⟩ := szD_fits (by omega) h
  refine Ev.neg h ?_
  have hf := fits_conv h1 h2
  have hR := usedD_length (l0.map conv) l1
  obtain ⟨n1, f1⟩ := ev_toTaskS h1 h2
  obtain ⟨n2, f2⟩ := ev_toIntS (L := l1) (by omega)
  obtain ⟨n3, f3⟩ := ev_UsedUnits hf (l := l1) (by unfold big; omega)
  obtain ⟨n4, f4⟩ := ev_eqIntS (L := usedD (l0.map conv) l1) (by unfold big; omega)
  obtain ⟨n5, f5⟩ := ev_eqTaskS hf
  obtain ⟨n6, f6⟩ := ev_eqIntS (L := l1) (by unfold big; omega)
  obtain ⟨n7, f7⟩ := ev_markIntS (L := usedD (l0.map conv) l1) (a := 1) (by omega) (by omega)
  obtain ⟨n8, f8⟩ := ev_heldIntS (n := (usedD (l0.map conv) l1).length) (a := 1) (by omega) (by omega)
  have hm := mkT_le (l := l0.map conv) (a := 1) (by omega) (by omega) (by simpa using h1) (fun t ht => by obtain ⟨x, hx, rfl⟩ := List.mem_map.1 ht; exact h2 x hx) (l0.map conv).length (Nat.le_refl _)
  have hlen : (l0.map conv).length = l0.length := List.length_map ..
  refine ⟨n1 + n2 + n3 + n4 + n5 + n6 + n7 + n8, fun k hk => ?_⟩
  refine if_pos ⟨l0.map conv, l1, usedD (l0.map conv) l1, _, _, f1 k (by omega), f2 k (by omega), f3 k (by omega), rfl, f4 k (by omega), f5 k (by omega), f6 k (by omega), f7 k (by omega), f8 k (by omega), by omega, ?_⟩
  rw [upI_eq hm.1 _ (by omega)]
  omega
end Go.Proofs.YtffhdofcfkgoaaaDoor.Core
end
