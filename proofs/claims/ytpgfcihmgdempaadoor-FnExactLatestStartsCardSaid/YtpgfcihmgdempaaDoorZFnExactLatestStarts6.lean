/- The law FnExactLatestStarts holds of the given program: the proof's own part, with its row and its card, part 6 of 7. -/
import Derived.Test.YtpgfcihmgdempaaDoorZFnExactLatestStarts5
section
set_option linter.unusedVariables false
set_option linter.unusedSimpArgs false
namespace Go.Proofs.YtpgfcihmgdempaaDoor.Core
open Go Go.RowKit Go.Proofs.YtpgfcihmgdempaaDoorW.PrintWords Go.Proofs.YtpgfcihmgdempaaDoorW.PrintMore Go.Proofs.YtpgfcihmgdempaaDoor.P
theorem FnExactLatestStarts_pure (l0 : List Lt) (a1 : Int) (hs0 : Small l0) (hw1 : (Lit.int .i64 a1).wf = true) : ∃ k, laws_FnExactLatestStarts.f k l0 a1 = some true := by
  refine Ev.one (f := fun k => laws_FnExactLatestStarts.f k l0 a1) ?_
  unfold laws_FnExactLatestStarts.f
  refine Ev.bind (ev_sz hs0 (x := 1048576) (by omega) (by omega)) ?_
  by_cases h : szD l0 1048576 < 0
  · exact Ev.pos h (Ev.const _)
  obtain ⟨h1, h2⟩ := szD_fits (by omega) h
  refine Ev.neg h ?_
  have hf := fits_conv h1 h2
  have hR : (latestD (l0.map conv) a1).length ≤ 8 := latestD_length (l0.map conv) a1
  obtain ⟨n1, f1⟩ := ev_toTaskS h1 h2
  obtain ⟨n2, f2⟩ := ev_LatestStarts hf a1
  obtain ⟨n3, f3⟩ := ev_eqIntS (L := (latestD (l0.map conv) a1)) (by unfold big; omega)
  obtain ⟨n4, f4⟩ := ev_eqTaskS hf
  obtain ⟨n5, f5⟩ := ev_markIntS (L := (latestD (l0.map conv) a1)) (a := 1) (by omega) (by omega)
  obtain ⟨n6, f6⟩ := ev_heldIntS (n := (latestD (l0.map conv) a1).length) (a := 1) (by omega) (by omega)
  have hm := mkT_le (l := (l0.map conv)) (a := 1) (by omega) (by omega) (by simpa using h1) (fun t ht => by obtain ⟨x, hx, rfl⟩ := List.mem_map.1 ht; exact h2 x hx) (l0.map conv).length (Nat.le_refl _)
  have hlen : (l0.map conv).length = l0.length := List.length_map ..
  refine ⟨n1 + n2 + n3 + n4 + n5 + n6, fun k hk => ?_⟩
  refine if_pos ⟨(l0.map conv), (latestD (l0.map conv) a1), _, _, f1 k (by omega), f2 k (by omega), rfl, f3 k (by omega), f4 k (by omega), f5 k (by omega), f6 k (by omega), by omega, ?_⟩
  omega
end Go.Proofs.YtpgfcihmgdempaaDoor.Core
end
