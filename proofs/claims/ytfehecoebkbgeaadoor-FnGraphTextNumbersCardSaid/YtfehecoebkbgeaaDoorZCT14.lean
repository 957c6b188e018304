/- What the proofs of several laws use: words and contracts, part 4 of 4. -/
import Derived.Test.YtfehecoebkbgeaaDoorZCT13
import Derived.Test.YtfehecoebkbgeaaDoorTie
import Derived.Lib.SmallJoins
import Derived.Deep.Slices
import Derived.ProofKit
import Derived.LaidMore
import Derived.OpenShut
import Derived.Stop.Joined
import Derived.ChangeOld
import Derived.SizedLaws
import Derived.MakeChecks
section
set_option linter.unusedVariables false
set_option linter.unusedSimpArgs false
namespace Go.Proofs.YtfehecoebkbgeaaDoor.Core
open Go Go.RowKit Go.ChangeShapes Go.WideShapes Go.ChangeAt Go.Proofs.YtfehecoebkbgeaaDoorW.PrintWords Go.Proofs.YtfehecoebkbgeaaDoor.P
section
variable {H : Type} {enc : TypeId × Value → H} {w : World} {base : Nat} {spare : Nat → Bool} {held : Bool}
theorem open_row {t e : TypeId} {kk : IntKind} (ht : Tryd.prog.underlying t = some (.slice e)) (he : Tryd.prog.underlying e = some (.int kk)) (hce : Tryd.prog.cellsOf e = 1) {n : Nat} {cs : List Value} {y : DataW H × List MemPlace} (h : DataW.trod enc Tryd.prog w base spare held n t cs = some y) : ∃ A c1 l, cs = [.slice A l.length c1] ∧ l.length ≤ c1 ∧ (Kd.int kk).C w A l.length l ∧ ∀ x ∈ l, (Lit.int kk x).wf = true := by
 rcases Go.ChangeShapes.open_ints ht he hce h with ⟨hcs, _⟩ | ⟨a, len, cap, zs, hcs, _, hl, hm, hz, _, hcell, hwz⟩
 ·subst hcs
  exact ⟨none, 0, [], rfl, Nat.le_refl _, ⟨rfl, by simp, fun h => absurd h (by simp)⟩, by simp⟩
 ·subst hcs
  have hzl : len ≤ zs.length := by rw [hz]; split <;> omega
  have hlen : (zs.take len).length = len := by simp; omega
  refine ⟨some a, cap, zs.take len, by rw [hlen], by omega, ⟨rfl, ?_, fun _ => ⟨a, rfl, fun j p hp => ⟨[.int kk p], rfl, rfl, fun i u hu => ?_⟩⟩⟩, fun x hx => ?_⟩
  ·rw [hlen]; unfold maxLen at hm; omega
  ·cases i with
   | succ i => simp at hu
   | zero =>
    obtain rfl : u = .int kk p := by simpa using hu.symm
    have hj : j < len := by have := (List.getElem?_eq_some_iff.1 hp).1; omega
    have := hcell j (by omega)
    have hp2 : zs.getD j 0 = p := by
     rw [List.getElem?_take_of_lt hj] at hp
     simp [List.getD, hp]
    rw [hp2] at this
    show w.cell? (a.add (j * 1 + 0)) = _
    rw [Nat.mul_one, Nat.add_zero]
    exact this
  ·exact hwz x (List.mem_of_mem_take hx)
end
/-- The table, out of the laid variable. -/
def laidD : List (String × DataW Unit) := [("math/bits.deBruijn32tab", Rows.laid_math_bits_deBruijn32tab), ("math/bits.deBruijn64tab", Rows.laid_math_bits_deBruijn64tab), ("internal/strconv.uint64pow10", Rows.laid_internal_strconv_uint64pow10)]
theorem gTab : Tryd.prog.globalNamed "math/bits.deBruijn32tab" = some 0 := by kernel_rfl
theorem tTab : (Tryd.prog.globals[0]?).map (·.type) = some 100 := by kernel_rfl
theorem laid_ok : (tabL.length = 32) ∧ (Rows.laid_math_bits_deBruijn32tab : DataW Unit) = .agg (tabL.map fun (n : Nat) => .lit (.int .u8 (n : Int))) := by
 refine ⟨by decide, rfl⟩
theorem cells_u8 : Tryd.prog.cellsOf 5 = 1 := by kernel_rfl
theorem tab_of_laid {W : World} (h : laidMetH Tryd.prog laidD W) : Tab W := by
 rw [MakeChecks.laidMetH_plain _ _ _ (by kernel_rfl)] at h
 obtain ⟨ps, ⟨g0, t0, cs0, f0, p0, q0, hg0, ht0, hv0, hd0, _⟩, _⟩ := h
 obtain rfl := Option.some.inj (gTab.symm.trans hg0)
 obtain rfl := Option.some.inj (tTab.symm.trans ht0)
 obtain ⟨xs, m1, rfl, hx1, hlen, hn3, hel⟩ := DataW.trod_array Tryd.underlying100 hd0
 intro i hi
 have h5 := World.var?_cell hg0 hv0 i
 have h6 := hel i hi
 rw [cells_u8, Nat.mul_one] at h6
 have hxi : xs[i]? = some (xs[i]'(by omega)) := List.getElem?_eq_getElem (by omega)
 generalize xs[i]'(by omega) = x at hxi
 rw [hxi] at h6
 obtain ⟨n, e1, e2, _⟩ := DataW.trod_int Tryd.underlying5 h6
 have e3 := (Prod.mk.inj hx1).1
 rw [laid_ok.2] at e3
 have e4 : tabL.map (fun (n : Nat) => (DataW.lit (.int .u8 (n : Int)) : DataW Unit)) = xs.map (·.1) := by
  injection e3
 have e5 := congrArg (·[i]?) e4
 simp only [List.getElem?_map, hxi, Option.map_some, e2] at e5
 have h7 : cs0.toList[i]? = some (.int .u8 n) := by
  have := congrArg (·[0]?) e1
  simpa [List.getElem?_take, List.getElem?_drop] using this
 rw [h5, ← Array.getElem?_toList, h7]
 have hti : i < tabL.length := by rw [laid_ok.1]; exact hi
 rw [List.getElem?_eq_getElem hti] at e5
 simp only [Option.map_some, Option.some.injEq, DataW.lit.injEq, Lit.int.injEq, true_and] at e5
 rw [← e5, List.getD_eq_getElem?_getD, List.getElem?_eq_getElem hti]
 rfl
end Go.Proofs.YtfehecoebkbgeaaDoor.Core
end
