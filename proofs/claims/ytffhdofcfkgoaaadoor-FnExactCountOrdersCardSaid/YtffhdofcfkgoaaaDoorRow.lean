/- The arguments of the laws, opened: graphs of the laws' own tasks; the table of math/bits out of the laid variable. -/
import Derived.Test.YtffhdofcfkgoaaaDoorTie
import Derived.Test.YtffhdofcfkgoaaaDoorKit
import Derived.Test.YtffhdofcfkgoaaaDoorP0
import Derived.Lib.SmallJoins
import Derived.Deep.Slices
import Derived.ProofKit
import Derived.LaidMore
import Derived.OpenShut
import Derived.Stop.Joined
import Derived.ChangeOld
import Derived.SizedLaws
import Derived.MakeChecks
set_option linter.unusedVariables false
set_option linter.unusedSimpArgs false
namespace Go.Proofs.YtffhdofcfkgoaaaDoor.Core
open Go Go.RowKit Go.ChangeShapes Go.WideShapes Go.ChangeAt Go.Proofs.YtffhdofcfkgoaaaDoorW.PrintWords Go.Proofs.YtffhdofcfkgoaaaDoor.P
section
variable {H : Type} {enc : TypeId × Value → H} {w : World} {base : Nat} {spare : Nat → Bool} {held : Bool}
theorem cells_int : Tryd.prog.cellsOf 3 = 1 := by kernel_rfl
theorem cells_ints : Tryd.prog.cellsOf 31 = 1 := by kernel_rfl
theorem cells_task : Tryd.prog.cellsOf 57 = 4 := by kernel_rfl
theorem open_ints' {n : Nat} {c : Value} {y : DataW H × List MemPlace} (h : DataW.trod enc Tryd.prog w base spare held n 31 [c] = some y) : ∃ A c1 l, c = .slice A l.length c1 ∧ l.length ≤ c1 ∧ (Kd.int .i64).C w A l.length l := by
  rcases Go.ChangeShapes.open_ints Tryd.underlying31 Tryd.underlying3 cells_int h with ⟨hcs, _⟩ | ⟨a, len, cap, zs, hcs, _, hl, hm, hz, _, hcell, _⟩
  · obtain rfl : c = .slice none 0 0 := by simpa using hcs
    exact ⟨none, 0, [], rfl, Nat.le_refl _, rfl, by simp, fun h => absurd h (by simp)⟩
  · obtain rfl : c = .slice (some a) len cap := by simpa using hcs
    have hzl : len ≤ zs.length := by rw [hz]; split <;> omega
    have hlen : (zs.take len).length = len := by simp; omega
    refine ⟨some a, cap, zs.take len, by rw [hlen], by omega, rfl, ?_, fun _ => ⟨a, rfl, fun j p hp => ⟨[.int .i64 p], rfl, rfl, fun i u hu => ?_⟩⟩⟩
    · rw [hlen]; unfold maxLen at hm; omega
    · cases i with
      | succ i => simp at hu
      | zero =>
        obtain rfl : u = .int .i64 p := by simpa using hu.symm
        have hj : j < len := by have := (List.getElem?_eq_some_iff.1 hp).1; omega
        have := hcell j (by omega)
        have hp2 : zs.getD j 0 = p := by
          rw [List.getElem?_take_of_lt hj] at hp
          simp [List.getD, hp]
        rw [hp2] at this
        show w.cell? (a.add (j * 1 + 0)) = _
        rw [Nat.mul_one, Nat.add_zero]
        exact this
set_option maxRecDepth 100000 in
theorem open_task {n : Nat} {cs : List Value} {y : DataW H × List MemPlace} (h : DataW.trod enc Tryd.prog w base spare held n 57 cs = some y) : ∃ x : S57, k57.K w x cs ∧ cs.length = 4 := by
  obtain ⟨y0, y1, y2, y3, m, _, hl, h0, h1, h2, h3⟩ := Go.Joins.trod_struct4 Tryd.underlying57 h
  rw [cells_task] at hl
  match cs, hl with
  | [c0, c1, c2, c3], _ =>
    rw [show Tryd.prog.cellsOf _ = 1 from cells_int] at h0 h2 h3
    rw [show Tryd.prog.cellsOf _ = 1 from cells_ints] at h1
    obtain ⟨n0, e0, _, _⟩ := DataW.trod_int Tryd.underlying3 h0
    obtain ⟨n2, e2, _, _⟩ := DataW.trod_int Tryd.underlying3 h2
    obtain ⟨n3, e3, _, _⟩ := DataW.trod_int Tryd.underlying3 h3
    obtain rfl : c0 = .int .i64 n0 := by simpa using e0
    obtain rfl : c2 = .int .i64 n2 := by simpa using e2
    obtain rfl : c3 = .int .i64 n3 := by simpa using e3
    obtain ⟨A, c, l, rfl, hlc, hC⟩ := open_ints' (c := c1) h1
    exact ⟨⟨n0, l, n2, n3⟩, ⟨[.int .i64 n0], _, rfl, rfl, ⟨[.slice A l.length c], _, rfl, ⟨A, c, rfl, hlc, hC⟩, ⟨[.int .i64 n2], [.int .i64 n3], rfl, rfl, rfl⟩⟩⟩, rfl⟩
theorem open_tasks {n : Nat} {cs : List Value} {y : DataW H × List MemPlace} (h : DataW.trod enc Tryd.prog w base spare held n 22 cs = some y) : ∃ A cap, ∃ l : List S57, cs = [.slice A l.length cap] ∧ l.length ≤ cap ∧ Kd.C k57 w A l.length l := by
  rcases Go.Deep.open_slice Tryd.underlying22 h with ⟨rfl, _⟩ | ⟨a, len, cap, m, n', D, Pl, rfl, _, hl, hm, hmm, _, hel⟩
  · exact ⟨none, 0, [], rfl, Nat.le_refl _, rfl, by simp, fun h => absurd h (by simp)⟩
  · have hml : len ≤ m := by rw [hmm]; split <;> omega
    have hall : ∀ i, ∃ x : S57, i < len → ∃ cs', w.cells? base (a.add (i * 4)) 4 = some cs' ∧ k57.K w x cs' ∧ cs'.length = 4 := by
      intro i
      by_cases hi : i < len
      · obtain ⟨cs', h1, h2⟩ := hel i (by omega)
        rw [cells_task] at h1
        obtain ⟨x, hx, hlx⟩ := open_task h2
        exact ⟨x, fun _ => ⟨cs', h1, hx, hlx⟩⟩
      · exact ⟨z57, fun h => absurd h hi⟩
    obtain ⟨X, hX⟩ := Classical.axiomOfChoice hall
    have hlen : ((List.range len).map X).length = len := by simp
    refine ⟨some a, cap, (List.range len).map X, by rw [hlen], by omega, rfl, by rw [hlen]; unfold maxLen at hm; omega, fun _ => ⟨a, rfl, fun j p hp => ?_⟩⟩
    have hj : j < len := by have := (List.getElem?_eq_some_iff.1 hp).1; omega
    obtain ⟨cs', h1, hx, hlx⟩ := hX j hj
    have hp2 : p = X j := by
      simp [hj] at hp
      exact hp.symm
    subst hp2
    refine ⟨cs', hlx, hx, fun i u hu => ?_⟩
    have hi : i < 4 := by have := (List.getElem?_eq_some_iff.1 hu).1; omega
    have h5 := (World.cells?_some h1).2.2 i hi
    rw [hu, Addr.add_add] at h5
    exact h5
end
/-- The table, out of the laid variable. -/
def laidD : List (String × DataW Unit) := [("math/bits.deBruijn32tab", Rows.laid_math_bits_deBruijn32tab)]
theorem gTab : Tryd.prog.globalNamed "math/bits.deBruijn32tab" = some 0 := by kernel_rfl
theorem tTab : (Tryd.prog.globals[0]?).map (·.type) = some 105 := by kernel_rfl
theorem laid_ok : (tabL.length = 32) ∧ (Rows.laid_math_bits_deBruijn32tab : DataW Unit) = .agg (tabL.map fun (n : Nat) => .lit (.int .u8 (n : Int))) := by
  refine ⟨by decide, rfl⟩
theorem cells_u8 : Tryd.prog.cellsOf 5 = 1 := by kernel_rfl
theorem tab_of_laid {W : World} (h : laidMetH Tryd.prog laidD W) : Tab W := by
  rw [MakeChecks.laidMetH_plain _ _ _ (by kernel_rfl)] at h
  obtain ⟨ps, ⟨g0, t0, cs0, f0, p0, q0, hg0, ht0, hv0, hd0, _⟩, _⟩ := h
  obtain rfl := Option.some.inj (gTab.symm.trans hg0)
  obtain rfl := Option.some.inj (tTab.symm.trans ht0)
  obtain ⟨xs, m1, rfl, hx1, hlen, hn3, hel⟩ := DataW.trod_array Tryd.underlying105 hd0
  intro i hi
  have h5 := World.var?_cell hg0 hv0 i
  have h6 := hel i hi
  rw [cells_u8, Nat.mul_one] at h6
  have hxi : xs[i]? = some (xs[i]'(by omega)) := List.getElem?_eq_getElem (by omega)
  generalize xs[i]'(by omega) = x at hxi
  rw [hxi] at h6
  obtain ⟨n, e1, e2, _⟩ := DataW.trod_int Tryd.underlying5 h6
  have e3 := (Prod.mk.inj hx1).1
  rw [laid_ok.2] at e3
  have e4 : tabL.map (fun (n : Nat) => (DataW.lit (.int .u8 (n : Int)) : DataW Unit)) = xs.map (·.1) := by
    injection e3
  have e5 := congrArg (·[i]?) e4
  simp only [List.getElem?_map, hxi, Option.map_some, e2] at e5
  have h7 : cs0.toList[i]? = some (.int .u8 n) := by
    have := congrArg (·[0]?) e1
    simpa [List.getElem?_take, List.getElem?_drop] using this
  rw [h5, ← Array.getElem?_toList, h7]
  have hti : i < tabL.length := by rw [laid_ok.1]; exact hi
  rw [List.getElem?_eq_getElem hti] at e5
  simp only [Option.map_some, Option.some.injEq, DataW.lit.injEq, Lit.int.injEq, true_and] at e5
  rw [← e5, List.getD_eq_getElem?_getD, List.getElem?_eq_getElem hti]
  rfl
end Go.Proofs.YtffhdofcfkgoaaaDoor.Core
