/- The law FnExactRunsTogether holds of the given program: part 7: words and contracts that the proof uses. -/
import Derived.Test.YtffhdofcfkgoaaaDoorZFnExactRunsTogether6
section
set_option linter.unusedVariables false
set_option linter.unusedSimpArgs false
namespace Go.Proofs.YtffhdofcfkgoaaaDoor.Core
open Go Go.RowKit Go.Proofs.YtffhdofcfkgoaaaDoorW.PrintWords Go.Proofs.YtffhdofcfkgoaaaDoorW.PrintMore Go.Proofs.YtffhdofcfkgoaaaDoor.P
theorem FnExactRunsTogether_pure (l0 : List Lt) (l1 l2 : List Int) (hs0 : Small l0) : ∃ k, laws_FnExactRunsTogether.f k l0 l1 l2 = some true := by
  refine Ev.one (f := fun k => laws_FnExactRunsTogether.f k l0 l1 l2) ?_
  unfold laws_FnExactRunsTogether.f
  by_cases b1 : (l1.length : Int) > 1048576
  · exact Ev.pos b1 (Ev.const _)
  refine Ev.neg b1 ?_
  by_cases b2 : (l2.length : Int) > 1048576
  · exact Ev.pos b2 (Ev.const _)
  refine Ev.neg b2 ?_
  refine Ev.bind (ev_sz hs0 (x := 1048576) (by omega) (by omega)) ?_
  by_cases h : szD l0 1048576 < 0
  · exact Ev.pos h (Ev.const _)
  obtain ⟨h1, h2⟩ := szD_fits (by omega) h
  have ht := ev_toTaskS h1 h2
  have hf := fits_conv h1 h2
  have i1 := ev_toIntS (L := l1) (by omega)
  have i2 := ev_toIntS (L := l2) (by omega)
  refine Ev.neg h (Ev.bind ht (Ev.bind i1 (Ev.bind i2 (Ev.bind (ev_RunsTogether hf (by unfold big; omega) (by unfold big; omega)) (Ev.bind ht (Ev.bind i1 (Ev.bind i2 ?_)))))))
  refine Ev.bind (Ev.const (runsD (l0.map conv) l1 l2)) (Ev.neg (by simp) ?_)
  refine Ev.bind ht (Ev.bind (ev_eqTaskS hf) (Ev.pos rfl (Ev.bind i1 (Ev.bind (ev_eqIntS (by unfold big; omega)) (Ev.pos rfl (Ev.bind i2 (Ev.bind (ev_eqIntS (by unfold big; omega)) (Ev.pos rfl (Ev.const _)))))))))
end Go.Proofs.YtffhdofcfkgoaaaDoor.Core
end
