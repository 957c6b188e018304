/- The law FnExactOrderStarts holds of the given program: the proof's own part, with its row and its card, part 4 of 5. -/
import Derived.Test.YtnhkajanbfgbiaaDoorZFnExactOrderStarts3
section
set_option linter.unusedVariables false
set_option linter.unusedSimpArgs false
namespace Go.Proofs.YtnhkajanbfgbiaaDoor.Core
open Go Go.RowKit Go.Proofs.YtnhkajanbfgbiaaDoorW.PrintWords Go.Proofs.YtnhkajanbfgbiaaDoorW.PrintMore Go.Proofs.YtnhkajanbfgbiaaDoor.P
theorem FnExactOrderStarts_pure (l0 : List Lt) (l1 : List Int) (a2 : Int) (l3 : List Int) (hs0 : Small l0) (hw2 : (Lit.int .i64 a2).wf = true) : ∃ k, laws_FnExactOrderStarts.f k l0 l1 a2 l3 = some true := by
 refine Ev.one (f := fun k => laws_FnExactOrderStarts.f k l0 l1 a2 l3) ?_
 unfold laws_FnExactOrderStarts.f
 by_cases b1 : (l1.length : Int) > 1048576
 ·exact Ev.pos b1 (Ev.const _)
 refine Ev.neg b1 ?_
 by_cases b3 : (l3.length : Int) > 1048576
 ·exact Ev.pos b3 (Ev.const _)
 refine Ev.neg b3 ?_
 refine Ev.bind (ev_sz hs0 (x := 1048576) (by omega) (by omega)) ?_
 by_cases h : szD l0 1048576 < 0
 ·exact Ev.pos h (Ev.const _)
 obtain ⟨h1, h2⟩ := szD_fits (by omega) h
 refine Ev.neg h ?_
 have hf := fits_conv h1 h2
 have hR : (startsD (l0.map conv) l1 a2 l3).length ≤ 8 := startsD_length (l0.map conv) l1 a2 l3
 obtain ⟨n1, f1⟩ := ev_toTaskS h1 h2
 obtain ⟨n2, f2⟩ := ev_toIntS (L := l1) (by omega)
 obtain ⟨n3, f3⟩ := ev_toIntS (L := l3) (by omega)
 obtain ⟨n4, f4⟩ := ev_OrderStarts hf (room := l1) (wk := a2) (list := l3) (by unfold big; omega) (by unfold big; omega) hw2
 obtain ⟨n5, f5⟩ := ev_eqIntS (L := (startsD (l0.map conv) l1 a2 l3)) (by unfold big; omega)
 obtain ⟨n6, f6⟩ := ev_eqTaskS hf
 obtain ⟨n7, f7⟩ := ev_eqIntS (L := l1) (by unfold big; omega)
 obtain ⟨n8, f8⟩ := ev_eqIntS (L := l3) (by unfold big; omega)
 obtain ⟨n9, f9⟩ := ev_markIntS (L := (startsD (l0.map conv) l1 a2 l3)) (a := 1) (by omega) (by omega)
 obtain ⟨n10, f10⟩ := ev_heldIntS (n := (startsD (l0.map conv) l1 a2 l3).length) (a := 1) (by omega) (by omega)
 have hm := mkT_le (l := (l0.map conv)) (a := 1) (by omega) (by omega) (by simpa using h1) (fun t ht => by obtain ⟨x, hx, rfl⟩ := List.mem_map.1 ht; exact h2 x hx) (l0.map conv).length (Nat.le_refl _)
 have hlen : (l0.map conv).length = l0.length := List.length_map ..
 refine ⟨n1 + n2 + n3 + n4 + n5 + n6 + n7 + n8 + n9 + n10, fun k hk => ?_⟩
 refine if_pos ⟨(l0.map conv), l1, l3, (startsD (l0.map conv) l1 a2 l3), _, _, f1 k (by omega), f2 k (by omega), f3 k (by omega), f4 k (by omega), rfl, f5 k (by omega), f6 k (by omega), f7 k (by omega), f8 k (by omega), f9 k (by omega), f10 k (by omega), by omega, ?_⟩
 have u0 := hm.1
 have e0_ := upI_eq (a := (mkT (l0.map conv) 1 (l0.map conv).length)) (by omega) l1.length (by omega)
 have e1_ := upI_eq (a := (upI l1.length (mkT (l0.map conv) 1 (l0.map conv).length))) (by omega) l3.length (by omega)
 omega
end Go.Proofs.YtnhkajanbfgbiaaDoor.Core
end
