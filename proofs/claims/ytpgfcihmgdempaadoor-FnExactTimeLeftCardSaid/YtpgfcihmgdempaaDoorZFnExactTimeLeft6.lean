/- The law FnExactTimeLeft holds of the given program: the proof's own part, with its row and its card, part 6 of 7. -/
import Derived.Test.YtpgfcihmgdempaaDoorZFnExactTimeLeft5
section
set_option linter.unusedVariables false
set_option linter.unusedSimpArgs false
namespace Go.Proofs.YtpgfcihmgdempaaDoor.Core
open Go Go.RowKit Go.Proofs.YtpgfcihmgdempaaDoorW.PrintWords Go.Proofs.YtpgfcihmgdempaaDoorW.PrintMore Go.Proofs.YtpgfcihmgdempaaDoor.P
theorem FnExactTimeLeft_pure (l0 : List Lt) (l1 : List Int) (hs0 : Small l0)  : ∃ k, laws_FnExactTimeLeft.f k l0 l1 = some true := by
  refine Ev.one (f := fun k => laws_FnExactTimeLeft.f k l0 l1) ?_
  unfold laws_FnExactTimeLeft.f
  by_cases b1 : (l1.length : Int) > 1048576
  · exact Ev.pos b1 (Ev.const _)
  refine Ev.neg b1 ?_
  refine Ev.bind (ev_sz hs0 (x := 1048576) (by omega) (by omega)) ?_
  by_cases h : szD l0 1048576 < 0
  · exact Ev.pos h (Ev.const _)
  obtain ⟨h1, h2⟩ := szD_fits (by omega) h
  refine Ev.neg h ?_
  have hf := fits_conv h1 h2
  obtain ⟨n1, f1⟩ := ev_toTaskS h1 h2
  obtain ⟨n2, f2⟩ := ev_toIntS (L := l1) (by omega)
  obtain ⟨n3, f3⟩ := ev_TimeLeft hf (l := l1) (by unfold big; omega)
  obtain ⟨n4, f4⟩ := ev_eqTaskS hf
  obtain ⟨n5, f5⟩ := ev_eqIntS (L := l1) (by unfold big; omega)
  have hlen : (l0.map conv).length = l0.length := List.length_map ..
  refine ⟨n1 + n2 + n3 + n4 + n5, fun k hk => ?_⟩
  refine if_pos ⟨(l0.map conv), l1, (leftD (l0.map conv) l1), f1 k (by omega), f2 k (by omega), f3 k (by omega), rfl, f4 k (by omega), f5 k (by omega)⟩
end Go.Proofs.YtpgfcihmgdempaaDoor.Core
end
