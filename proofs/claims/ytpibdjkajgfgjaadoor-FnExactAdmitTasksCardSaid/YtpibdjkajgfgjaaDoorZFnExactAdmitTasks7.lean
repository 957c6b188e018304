/- The law FnExactAdmitTasks holds of the given program: the proof's own part, with its row and its card, part 7 of 8. -/
import Derived.Test.YtpibdjkajgfgjaaDoorZFnExactAdmitTasks6
section
set_option linter.unusedVariables false
set_option linter.unusedSimpArgs false
namespace Go.Proofs.YtpibdjkajgfgjaaDoor.Core
open Go Go.RowKit Go.Proofs.YtpibdjkajgfgjaaDoorW.PrintWords Go.Proofs.YtpibdjkajgfgjaaDoorW.PrintMore Go.Proofs.YtpibdjkajgfgjaaDoor.P
theorem FnExactAdmitTasks_pure (l0 : List Lt) (l1 : List Int) (l2 : List Int) (l3 : List Int) (a4 : Int) (hs0 : Small l0) (hw4 : (Lit.int .i64 a4).wf = true) : ∃ k, laws_FnExactAdmitTasks.f k l0 l1 l2 l3 a4 = some true := by
 refine Ev.one (f := fun k => laws_FnExactAdmitTasks.f k l0 l1 l2 l3 a4) ?_
 unfold laws_FnExactAdmitTasks.f
 by_cases b1 : (l1.length : Int) > 1048576
 ·exact Ev.pos b1 (Ev.const _)
 refine Ev.neg b1 ?_
 by_cases b2 : (l2.length : Int) > 1048576
 ·exact Ev.pos b2 (Ev.const _)
 refine Ev.neg b2 ?_
 by_cases b3 : (l3.length : Int) > 1048576
 ·exact Ev.pos b3 (Ev.const _)
 refine Ev.neg b3 ?_
 refine Ev.bind (ev_sz hs0 (x := 1048576) (by omega) (by omega)) ?_
 by_cases h : szD l0 1048576 < 0
 ·exact Ev.pos h (Ev.const _)
 obtain ⟨h1, h2⟩ := szD_fits (by omega) h
 refine Ev.neg h ?_
 have hf := fits_conv h1 h2
 have hR : (admitD (l0.map conv) l1 l2 l3 a4).length ≤ 8 := admitD_length (l0.map conv) l1 l2 l3 a4
 obtain ⟨n1, f1⟩ := ev_toTaskS h1 h2
 obtain ⟨n2, f2⟩ := ev_toIntS (L := l1) (by omega)
 obtain ⟨n3, f3⟩ := ev_toIntS (L := l2) (by omega)
 obtain ⟨n4, f4⟩ := ev_toIntS (L := l3) (by omega)
 obtain ⟨n5, f5⟩ := ev_AdmitTasks hf (room := l1) (running := l2) (list := l3) (by unfold big; omega) (by unfold big; omega) (by unfold big; omega) hw4
 obtain ⟨n6, f6⟩ := ev_eqIntS (L := (admitD (l0.map conv) l1 l2 l3 a4)) (by unfold big; omega)
 obtain ⟨n7, f7⟩ := ev_eqTaskS hf
 obtain ⟨n8, f8⟩ := ev_eqIntS (L := l1) (by unfold big; omega)
 obtain ⟨n9, f9⟩ := ev_eqIntS (L := l2) (by unfold big; omega)
 obtain ⟨n10, f10⟩ := ev_eqIntS (L := l3) (by unfold big; omega)
 obtain ⟨n11, f11⟩ := ev_markIntS (L := (admitD (l0.map conv) l1 l2 l3 a4)) (a := 1) (by omega) (by omega)
 obtain ⟨n12, f12⟩ := ev_heldIntS (n := (admitD (l0.map conv) l1 l2 l3 a4).length) (a := 1) (by omega) (by omega)
 have hm := mkT_le (l := (l0.map conv)) (a := 1) (by omega) (by omega) (by simpa using h1) (fun t ht => by obtain ⟨x, hx, rfl⟩ := List.mem_map.1 ht; exact h2 x hx) (l0.map conv).length (Nat.le_refl _)
 have hlen : (l0.map conv).length = l0.length := List.length_map ..
 refine ⟨n1 + n2 + n3 + n4 + n5 + n6 + n7 + n8 + n9 + n10 + n11 + n12, fun k hk => ?_⟩
 refine if_pos ⟨(l0.map conv), l1, l2, l3, (admitD (l0.map conv) l1 l2 l3 a4), _, _, f1 k (by omega), f2 k (by omega), f3 k (by omega), f4 k (by omega), f5 k (by omega), rfl, f6 k (by omega), f7 k (by omega), f8 k (by omega), f9 k (by omega), f10 k (by omega), f11 k (by omega), f12 k (by omega), by omega, ?_⟩
 have u0 := hm.1
 have e0_ := upI_eq (a := (mkT (l0.map conv) 1 (l0.map conv).length)) (by omega) l1.length (by omega)
 have e1_ := upI_eq (a := (upI l1.length (mkT (l0.map conv) 1 (l0.map conv).length))) (by omega) l2.length (by omega)
 have e2_ := upI_eq (a := (upI l2.length (upI l1.length (mkT (l0.map conv) 1 (l0.map conv).length)))) (by omega) l3.length (by omega)
 omega
end Go.Proofs.YtpibdjkajgfgjaaDoor.Core
end
