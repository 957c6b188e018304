/- The law FnExactTimeLeft holds of the given program: the proof's own part, with its row and its card, part 3 of 7. -/
import Derived.Test.YtpgfcihmgdempaaDoorZFnExactTimeLeft2
import Derived.Test.YtpgfcihmgdempaaDoorTie
import Derived.Lib.SmallJoins
import Derived.Deep.Slices
import Derived.ProofKit
import Derived.LaidMore
import Derived.OpenShut
import Derived.Stop.Joined
import Derived.ChangeOld
import Derived.SizedLaws
import Derived.MakeChecks
section
set_option linter.unusedVariables false
set_option linter.unusedSimpArgs false
namespace Go.Proofs.YtpgfcihmgdempaaDoor.Core
open Go Go.RowKit Go.ChangeShapes Go.WideShapes Go.ChangeAt Go.Proofs.YtpgfcihmgdempaaDoorW.PrintWords Go.Proofs.YtpgfcihmgdempaaDoor.P
section
variable {H : Type} {enc : TypeId × Value → H} {w : World} {base : Nat} {spare : Nat → Bool} {held : Bool}
theorem cells_int : Tryd.prog.cellsOf 3 = 1 := by kernel_rfl
theorem cells_ints : Tryd.prog.cellsOf 26 = 1 := by kernel_rfl
theorem cells_task : Tryd.prog.cellsOf 69 = 4 := by kernel_rfl
theorem open_ints_ {n : Nat} {cs : List Value} {y : DataW H × List MemPlace} (h : DataW.trod enc Tryd.prog w base spare held n 26 cs = some y) : ∃ A c1 l, cs = [.slice A l.length c1] ∧ l.length ≤ c1 ∧ (Kd.int .i64).C w A l.length l ∧ ∀ x ∈ l, (Lit.int .i64 x).wf = true :=
  open_row Tryd.underlying26 Tryd.underlying3 cells_int h
theorem open_ints' {n : Nat} {c : Value} {y : DataW H × List MemPlace} (h : DataW.trod enc Tryd.prog w base spare held n 26 [c] = some y) : ∃ A c1 l, c = .slice A l.length c1 ∧ l.length ≤ c1 ∧ (Kd.int .i64).C w A l.length l := by
  obtain ⟨A, c1, l, h1, h2, h3, _⟩ := open_ints_ h
  exact ⟨A, c1, l, by simpa using h1, h2, h3⟩
set_option maxRecDepth 100000 in
theorem open_task {n : Nat} {cs : List Value} {y : DataW H × List MemPlace} (h : DataW.trod enc Tryd.prog w base spare held n 69 cs = some y) : ∃ x : S69, k69.K w x cs ∧ cs.length = 4 := by
  obtain ⟨y0, y1, y2, y3, m, _, hl, h0, h1, h2, h3⟩ := Go.Joins.trod_struct4 Tryd.underlying69 h
  rw [cells_task] at hl
  match cs, hl with
  | [c0, c1, c2, c3], _ =>
    rw [show Tryd.prog.cellsOf _ = 1 from cells_int] at h0 h2 h3
    rw [show Tryd.prog.cellsOf _ = 1 from cells_ints] at h1
    obtain ⟨n0, e0, _, _⟩ := DataW.trod_int Tryd.underlying3 h0
    obtain ⟨n2, e2, _, _⟩ := DataW.trod_int Tryd.underlying3 h2
    obtain ⟨n3, e3, _, _⟩ := DataW.trod_int Tryd.underlying3 h3
    obtain rfl : c0 = .int .i64 n0 := by simpa using e0
    obtain rfl : c2 = .int .i64 n2 := by simpa using e2
    obtain rfl : c3 = .int .i64 n3 := by simpa using e3
    obtain ⟨A, c, l, rfl, hlc, hC⟩ := open_ints' (c := c1) h1
    exact ⟨⟨n0, l, n2, n3⟩, ⟨[.int .i64 n0], _, rfl, rfl, ⟨[.slice A l.length c], _, rfl, ⟨A, c, rfl, hlc, hC⟩, ⟨[.int .i64 n2], [.int .i64 n3], rfl, rfl, rfl⟩⟩⟩, rfl⟩
theorem open_tasks {n : Nat} {cs : List Value} {y : DataW H × List MemPlace} (h : DataW.trod enc Tryd.prog w base spare held n 36 cs = some y) : ∃ A cap, ∃ l : List S69, cs = [.slice A l.length cap] ∧ l.length ≤ cap ∧ Kd.C k69 w A l.length l := by
  rcases Go.Deep.open_slice Tryd.underlying36 h with ⟨rfl, _⟩ | ⟨a, len, cap, m, n', D, Pl, rfl, _, hl, hm, hmm, _, hel⟩
  · exact ⟨none, 0, [], rfl, Nat.le_refl _, rfl, by simp, fun h => absurd h (by simp)⟩
  · have hml : len ≤ m := by rw [hmm]; split <;> omega
    have hall : ∀ i, ∃ x : S69, i < len → ∃ cs', w.cells? base (a.add (i * 4)) 4 = some cs' ∧ k69.K w x cs' ∧ cs'.length = 4 := by
      intro i
      by_cases hi : i < len
      · obtain ⟨cs', h1, h2⟩ := hel i (by omega)
        rw [cells_task] at h1
        obtain ⟨x, hx, hlx⟩ := open_task h2
        exact ⟨x, fun _ => ⟨cs', h1, hx, hlx⟩⟩
      · exact ⟨z69, fun h => absurd h hi⟩
    obtain ⟨X, hX⟩ := Classical.axiomOfChoice hall
    have hlen : ((List.range len).map X).length = len := by simp
    refine ⟨some a, cap, (List.range len).map X, by rw [hlen], by omega, rfl, by rw [hlen]; unfold maxLen at hm; omega, fun _ => ⟨a, rfl, fun j p hp => ?_⟩⟩
    have hj : j < len := by have := (List.getElem?_eq_some_iff.1 hp).1; omega
    obtain ⟨cs', h1, hx, hlx⟩ := hX j hj
    have hp2 : p = X j := by
      simp [hj] at hp
      exact hp.symm
    subst hp2
    refine ⟨cs', hlx, hx, fun i u hu => ?_⟩
    have hi : i < 4 := by have := (List.getElem?_eq_some_iff.1 hu).1; omega
    have h5 := (World.cells?_some h1).2.2 i hi
    rw [hu, Addr.add_add] at h5
    exact h5
end
end Go.Proofs.YtpgfcihmgdempaaDoor.Core
end
