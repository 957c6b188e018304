/- The law FnExactBestOrder holds of the given program: the proof's own part, with its row and its card, part 4 of 5. -/
import Derived.Test.YtimbfcedigaffaaDoorZFnExactBestOrder3
section
set_option linter.unusedVariables false
set_option linter.unusedSimpArgs false
namespace Go.Proofs.YtimbfcedigaffaaDoor.Core
open Go Go.RowKit Go.Proofs.YtimbfcedigaffaaDoorW.PrintWords Go.Proofs.YtimbfcedigaffaaDoorW.PrintMore Go.Proofs.YtimbfcedigaffaaDoor.P
theorem FnExactBestOrder_pure (l0 : List Lt) (l1 : List Int) (a2 : Int) (hs0 : Small l0) (hw2 : (Lit.int .i64 a2).wf = true) : ∃ k, laws_FnExactBestOrder.f k l0 l1 a2 = some true := by
 refine Ev.one (f := fun k => laws_FnExactBestOrder.f k l0 l1 a2) ?_
 unfold laws_FnExactBestOrder.f
 by_cases b1 : (l1.length : Int) > 1048576
 ·exact Ev.pos b1 (Ev.const _)
 refine Ev.neg b1 ?_
 refine Ev.bind (ev_sz hs0 (x := 1048576) (by omega) (by omega)) ?_
 by_cases h : szD l0 1048576 < 0
 ·exact Ev.pos h (Ev.const _)
 obtain ⟨h1, h2⟩ := szD_fits (by omega) h
 refine Ev.neg h ?_
 have hf := fits_conv h1 h2
 have hR : (bestOD (l0.map conv) l1 a2).length ≤ 8 := bestOD_len (l0.map conv) l1 a2
 obtain ⟨n1, f1⟩ := ev_toTaskS h1 h2
 obtain ⟨n2, f2⟩ := ev_toIntS (L := l1) (by omega)
 obtain ⟨n3, f3⟩ := ev_BestOrder hf (room := l1) (wk := a2) (by unfold big; omega) hw2
 obtain ⟨n4, f4⟩ := ev_eqIntS (L := (bestOD (l0.map conv) l1 a2)) (by unfold big; omega)
 obtain ⟨n5, f5⟩ := ev_eqTaskS hf
 obtain ⟨n6, f6⟩ := ev_eqIntS (L := l1) (by unfold big; omega)
 obtain ⟨n7, f7⟩ := ev_markIntS (L := (bestOD (l0.map conv) l1 a2)) (a := 1) (by omega) (by omega)
 obtain ⟨n8, f8⟩ := ev_heldIntS (n := (bestOD (l0.map conv) l1 a2).length) (a := 1) (by omega) (by omega)
 have hm := mkT_le (l := (l0.map conv)) (a := 1) (by omega) (by omega) (by simpa using h1) (fun t ht => by obtain ⟨x, hx, rfl⟩ := List.mem_map.1 ht; exact h2 x hx) (l0.map conv).length (Nat.le_refl _)
 have hlen : (l0.map conv).length = l0.length := List.length_map ..
 refine ⟨n1 + n2 + n3 + n4 + n5 + n6 + n7 + n8, fun k hk => ?_⟩
 refine if_pos ⟨(l0.map conv), l1, (bestOD (l0.map conv) l1 a2), _, _, f1 k (by omega), f2 k (by omega), f3 k (by omega), rfl, f4 k (by omega), f5 k (by omega), f6 k (by omega), f7 k (by omega), f8 k (by omega), by omega, ?_⟩
 rw [upI_eq hm.1 _ (by omega)]
 omega
end Go.Proofs.YtimbfcedigaffaaDoor.Core
end
