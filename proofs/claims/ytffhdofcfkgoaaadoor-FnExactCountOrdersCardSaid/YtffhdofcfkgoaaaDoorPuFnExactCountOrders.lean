/- FnExactCountOrders in plain words. -/
import Derived.Test.YtffhdofcfkgoaaaDoorLawsA
import Derived.Test.YtffhdofcfkgoaaaDoorSpec
import Derived.Test.YtffhdofcfkgoaaaDoorP22
set_option linter.unusedVariables false
set_option linter.unusedSimpArgs false
namespace Go.Proofs.YtffhdofcfkgoaaaDoor.Core
open Go Go.RowKit Go.Proofs.YtffhdofcfkgoaaaDoorW.PrintWords Go.Proofs.YtffhdofcfkgoaaaDoorW.PrintMore Go.Proofs.YtffhdofcfkgoaaaDoor.P
theorem FnExactCountOrders_pure (l0 : List Lt) (hs0 : Small l0) : ∃ k, laws_FnExactCountOrders.f k l0 = some true := by
  refine Ev.one (f := fun k => laws_FnExactCountOrders.f k l0) ?_
  have hz := ev_sz hs0 (x := 1048576) (by omega) (by omega)
  unfold laws_FnExactCountOrders.f
  refine hz.bind (g := fun k t225 => if t225 < 0 then (some true) else _) ?_
  by_cases h : szD l0 1048576 < 0
  · exact (Ev.const true).of fun k => if_pos h
  · obtain ⟨h1, h2⟩ := szD_fits (by omega) h
    have ht := ev_toTaskS h1 h2
    have hf := fits_conv h1 h2
    have hc := ev_CountOrders hf
    have he := ev_eqTaskS hf
    refine Ev.of ?_ (fun k => if_neg h)
    refine ht.bind ?_
    refine hc.bind ?_
    refine ht.bind ?_
    refine Ev.of ?_ (fun k => show Option.bind (some (countD (l0.map conv))) _ = _ from Option.bind_some ..)
    refine Ev.of ?_ (fun k => if_pos rfl)
    refine ht.bind ?_
    refine he.bind ?_
    exact (Ev.const true).of fun k => if_pos rfl
end Go.Proofs.YtffhdofcfkgoaaaDoor.Core
