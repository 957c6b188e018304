/- The law FnBestTimeLess holds of the given program: the proof's own part, with its row and its card, part 7 of 9. -/
import Derived.Test.YtimbfcedigaffaaDoorZFnBestTimeLess6
import Derived.Test.YtimbfcedigaffaaDoorTie
import Derived.Lib.SmallJoins
import Derived.Deep.Slices
import Derived.ProofKit
import Derived.LaidMore
import Derived.OpenShut
import Derived.Stop.Joined
import Derived.ChangeOld
import Derived.SizedLaws
import Derived.MakeChecks
set_option linter.unusedVariables false
set_option linter.unusedSimpArgs false
section
namespace Go.Proofs.YtimbfcedigaffaaDoor.Core
open Go Go.RowKit Go.ChangeShapes Go.WideShapes Go.ChangeAt Go.Proofs.YtimbfcedigaffaaDoorW.PrintWords Go.Proofs.YtimbfcedigaffaaDoor.P
section
variable {H : Type} {enc : TypeId × Value → H} {w : World} {base : Nat} {spare : Nat → Bool} {held : Bool}
theorem open_row {t e : TypeId} {kk : IntKind} (ht : Tryd.prog.underlying t = some (.slice e)) (he : Tryd.prog.underlying e = some (.int kk)) (hce : Tryd.prog.cellsOf e = 1) {n : Nat} {cs : List Value} {y : DataW H × List MemPlace} (h : DataW.trod enc Tryd.prog w base spare held n t cs = some y) : ∃ A c1 l, cs = [.slice A l.length c1] ∧ l.length ≤ c1 ∧ (Kd.int kk).C w A l.length l ∧ ∀ x ∈ l, (Lit.int kk x).wf = true := by
 rcases Go.ChangeShapes.open_ints ht he hce h with ⟨hcs, _⟩ | ⟨a, len, cap, zs, hcs, _, hl, hm, hz, _, hcell, hwz⟩
 ·subst hcs
  exact ⟨none, 0, [], rfl, Nat.le_refl _, ⟨rfl, by simp, fun h => absurd h (by simp)⟩, by simp⟩
 ·subst hcs
  have hzl : len ≤ zs.length := by rw [hz]; split <;> omega
  have hlen : (zs.take len).length = len := by simp; omega
  refine ⟨some a, cap, zs.take len, by rw [hlen], by omega, ⟨rfl, ?_, fun _ => ⟨a, rfl, fun j p hp => ⟨[.int kk p], rfl, rfl, fun i u hu => ?_⟩⟩⟩, fun x hx => ?_⟩
  ·rw [hlen]; unfold maxLen at hm; omega
  ·cases i with
   | succ i => simp at hu
   | zero =>
    obtain rfl : u = .int kk p := by simpa using hu.symm
    have hj : j < len := by have := (List.getElem?_eq_some_iff.1 hp).1; omega
    have := hcell j (by omega)
    have hp2 : zs.getD j 0 = p := by
     rw [List.getElem?_take_of_lt hj] at hp
     simp [List.getD, hp]
    rw [hp2] at this
    show w.cell? (a.add (j * 1 + 0)) = _
    rw [Nat.mul_one, Nat.add_zero]
    exact this
  ·exact hwz x (List.mem_of_mem_take hx)
theorem open_bytes_ {n : Nat} {cs : List Value} {y : DataW H × List MemPlace} (h : DataW.trod enc Tryd.prog w base spare held n 35 cs = some y) : ∃ A c1 l, cs = [.slice A l.length c1] ∧ l.length ≤ c1 ∧ (Kd.int .u8).C w A l.length l ∧ ∀ x ∈ l, (Lit.int .u8 x).wf = true := open_row Tryd.underlying35 Tryd.underlying5 (by kernel_rfl) h
end
/-- The table, out of the laid variable. -/
def laidD : List (String × DataW Unit) := [("math/bits.deBruijn32tab", Rows.laid_math_bits_deBruijn32tab)]
theorem gTab : Tryd.prog.globalNamed "math/bits.deBruijn32tab" = some 0 := by kernel_rfl
theorem tTab : (Tryd.prog.globals[0]?).map (·.type) = some 110 := by kernel_rfl
theorem laid_ok : (tabL.length = 32) ∧ (Rows.laid_math_bits_deBruijn32tab : DataW Unit) = .agg (tabL.map fun (n : Nat) => .lit (.int .u8 (n : Int))) := by
 refine ⟨by decide, rfl⟩
theorem cells_u8 : Tryd.prog.cellsOf 5 = 1 := by kernel_rfl
theorem tab_of_laid {W : World} (h : laidMetH Tryd.prog laidD W) : Tab W := by
 rw [MakeChecks.laidMetH_plain _ _ _ (by kernel_rfl)] at h
 obtain ⟨ps, ⟨g0, t0, cs0, f0, p0, q0, hg0, ht0, hv0, hd0, _⟩, _⟩ := h
 obtain rfl := Option.some.inj (gTab.symm.trans hg0)
 obtain rfl := Option.some.inj (tTab.symm.trans ht0)
 obtain ⟨xs, m1, rfl, hx1, hlen, hn3, hel⟩ := DataW.trod_array Tryd.underlying110 hd0
 intro i hi
 have h5 := World.var?_cell hg0 hv0 i
 have h6 := hel i hi
 rw [cells_u8, Nat.mul_one] at h6
 have hxi : xs[i]? = some (xs[i]'(by omega)) := List.getElem?_eq_getElem (by omega)
 generalize xs[i]'(by omega) = x at hxi
 rw [hxi] at h6
 obtain ⟨n, e1, e2, _⟩ := DataW.trod_int Tryd.underlying5 h6
 have e3 := (Prod.mk.inj hx1).1
 rw [laid_ok.2] at e3
 have e4 : tabL.map (fun (n : Nat) => (DataW.lit (.int .u8 (n : Int)) : DataW Unit)) = xs.map (·.1) := by
  injection e3
 have e5 := congrArg (·[i]?) e4
 simp only [List.getElem?_map, hxi, Option.map_some, e2] at e5
 have h7 : cs0.toList[i]? = some (.int .u8 n) := by
  have := congrArg (·[0]?) e1
  simpa [List.getElem?_take, List.getElem?_drop] using this
 rw [h5, ← Array.getElem?_toList, h7]
 have hti : i < tabL.length := by rw [laid_ok.1]; exact hi
 rw [List.getElem?_eq_getElem hti] at e5
 simp only [Option.map_some, Option.some.injEq, DataW.lit.injEq, Lit.int.injEq, true_and] at e5
 rw [← e5, List.getD_eq_getElem?_getD, List.getElem?_eq_getElem hti]
 rfl
end Go.Proofs.YtimbfcedigaffaaDoor.Core
end
section
namespace Go.Proofs.YtimbfcedigaffaaDoor.Core
open Go Go.RowKit Go.Shelf Go.Proofs.YtimbfcedigaffaaDoorW.PrintWords
attribute [local go_sem] Oper.semAt_some wide_fn wide_depth
theorem infoInt : (Tryd.prog.info? 3).map (fun i => (i.zero, i.size, i.bytes)) = some (some (.int .i64 0), 1, 8) := by kernel_rfl
set_option maxRecDepth 100000 in
set_option maxHeartbeats 4000000 in
theorem list_calls (s : Nat) (hs : s < 256) (w : World) (hT : Tab w) :
  Calls Tryd.prog 57 #[.int .u16 (s : Int)] w fun e w' => ∃ v, e = .returned v ∧ (Kd.int .i64).R 3 w' w.heap.size (fun _ => True) v (elems s) ∧ Below w.heap.size w w' := by
 have hmk : ∀ W, (Instr.makeSlice 23 (.int .i64 0) (.int .i64 8)).run Tryd.prog W = .ok (.slice (some ⟨W.heap.size, 0, none⟩) 0 8) (W.alloc (.cells #[.int .i64 0, .int .i64 0, .int .i64 0, .int .i64 0, .int .i64 0, .int .i64 0, .int .i64 0, .int .i64 0] 3)) := fun _ => by kernel_rfl
 obtain ⟨i0, hi, hz0, hz1, hz2⟩ := info_parts infoInt
 refine calls_marks Tryd.func57 rfl ?_
 simp only [Tryd.ntmps57, List.size_toArray, List.length_cons, List.length_nil, Nat.reduceAdd, Nat.reduceSub, Array.replicate_succ, Array.replicate_zero, List.push_toArray, List.append_toArray, List.nil_append, List.cons_append]
 go_wp2_with (go_at_call 66; refine (all_calls s _).mono ?_; rintro e w' ⟨rfl, rfl⟩)
 have hn : (w.alloc (.cells #[.int .i64 0, .int .i64 0, .int .i64 0, .int .i64 0, .int .i64 0, .int .i64 0, .int .i64 0, .int .i64 0] 3)).heap.size = w.heap.size + 1 := by simp
 have h1 := World.ownsRow_made (base := w.heap.size) (e := 3) (size := 1) w #[.int .i64 0, .int .i64 0, .int .i64 0, .int .i64 0, .int .i64 0, .int .i64 0, .int .i64 0, .int .i64 0] 8 (Nat.le_refl _) (by decide) rfl
 have hB1 := (Below.refl w.heap.size w).alloc (Nat.le_refl _) (.cells #[.int .i64 0, .int .i64 0, .int .i64 0, .int .i64 0, .int .i64 0, .int .i64 0, .int .i64 0, .int .i64 0] 3)
 revert h1 hB1 hn
 generalize w.alloc (.cells #[.int .i64 0, .int .i64 0, .int .i64 0, .int .i64 0, .int .i64 0, .int .i64 0, .int .i64 0, .int .i64 0] 3) = w1
 intro hn h1 hB1
 have h2 := Boxed.new w1 23 (.slice (some ⟨w.heap.size, 0, none⟩) 0 8)
 rw [hn] at h2
 have h1' := h1.alloc (.cells #[.slice (some ⟨w.heap.size, 0, none⟩) 0 8] 23)
 have hB2 := hB1.alloc (by omega) (.cells #[.slice (some ⟨w.heap.size, 0, none⟩) 0 8] 23)
 have hn2 : (w1.alloc (.cells #[.slice (some ⟨w.heap.size, 0, none⟩) 0 8] 23)).heap.size = w.heap.size + 1 + 1 := by simp [hn]
 revert h2 h1' hB2 hn2
 generalize w1.alloc (.cells #[.slice (some ⟨w.heap.size, 0, none⟩) 0 8] 23) = w2
 intro h2 h1' hB2 hn2
 clear h1 hB1 hn
 have hs3 := Boxed.new w2 77 (.int .u16 (s : Int))
 rw [hn2] at hs3
 have h2' := h2.alloc (.cells #[.int .u16 (s : Int)] 77)
 have h1'' := h1'.alloc (.cells #[.int .u16 (s : Int)] 77)
 have hB3 := hB2.alloc (by omega) (.cells #[.int .u16 (s : Int)] 77)
 have hn3 : (w2.alloc (.cells #[.int .u16 (s : Int)] 77)).heap.size = w.heap.size + 1 + 1 + 1 := by simp [hn2]
 revert hs3 h2' h1'' hB3 hn3
 generalize w2.alloc (.cells #[.int .u16 (s : Int)] 77) = w3
 intro hs3 h2' h1'' hB3 hn3
 clear h1' h2 hB2 hn2
 refine wp_rangeSet Tab.tame (w := w3) (w0 := w3) (p := 8) (d := 4) rfl (enters_of Tryd.func77 (by kernel_rfl) rfl)
  (all_seq (w.heap.size + 1 + 1) s hs w3 (hT.of hB3) hs3.cell) (Below.refl _ _) (by simp)
  (fun pre W => ∃ v, Boxed W (w.heap.size + 1) 23 v ∧ W.ownsRow w.heap.size 3 1 v pre.length (pre.map (Value.int .i64)) ∧ Below w.heap.size w W) (fun _ _ _ => False)
  (ownFrom_tame (fun pre W W' ht ⟨v, a, b, c⟩ => ⟨v, ht.boxed a, ht.row b, ht.below c (Nat.le_refl _) (by omega)⟩)) (fun _ => ownFrom_tame (fun _ _ _ _ h => h))
  ⟨_, h2', h1'', hB3⟩ (fun ys W ⟨_, _, _, c⟩ => hT.of c) ?body ?done (fun _ _ _ _ _ h _ => h.elim)
 case body =>
  rintro l pre x W hx ⟨v, hv, hrow, hB⟩ hlt
  have hc := hv.cell
  have hsz := hB.size
  have hlen : pre.length + 1 ≤ maxLen := by unfold maxLen; omega
  gi_wp2_with (gi_at_builtin; refine wpListIn_append_own _ rfl _ _ 23 rfl w.heap.size 3 i0 (.int .i64 0) 1 8 Tryd.underlying23 hi hz0 hz1 hz2 rfl (by decide) _ _ _ rfl (hrow.alloc _) ⟨W.heap.size, 0, none⟩ 1 1 [.int .i64 x] rfl rfl (cell_one_new _ _ _) (by simp [Value.oneCell']) hlen (by omega) (by simp; omega) ?_; intro v' w1 hown' hgrow _; obtain ⟨g', cap', rfl⟩ := ownsRow_succ hown'; obtain ⟨hv1, hv2, hr2, hk2, hb2⟩ := hv.appended (by decide) hrow hB.size (by omega) hown' hgrow; have hc1 := hv1.cell; have hf1 := hv1.frozen)
  exact ⟨hk2.from _, _, hv2, by simpa using hr2, hB.trans hb2⟩
 case done =>
  rintro D W hD ⟨v, hv, hrow, hB⟩ hk
  have hlen := elems_length s
  obtain ⟨A, c, rfl, hl, hC⟩ := Kd.R_reads (row_R hrow)
  have hcell := hv.cell
  have hm := (Marks.nil w.heap.size w3.heap.size W).cons hD (by omega) hk
  clear hrow hv hn3 hs3 h2' h1''
  have HB := Aside0.mk hB
  have HC := Aside0.mk hC
  have HM := Aside0.mk hm
  clear hB hC hm hk hD hT
  go_wp2_with (first | ((with_reducible refine gate_dst (N := 13) rfl ?_); refine Kd.R_lit (Kd.int .i64) _ 3 ?hg (N := 13) ?hd (xs := ([] : List Int)) (inner := []) (ok := fun _ => True) (okp := fun _ => True) ?hr ?hp (fun _ hk => hk) trivial (Below.refl _ _) (Nat.le_refl _) (by simp) ?_; (case hd => rfl); (case hg => rfl); (case hr => first | (go_simp; done) | (go_simp; rfl)); (case hp => exact (Reps.none _ _)); intro v134 w4 ho4 hb hg_ hnew_; clear hg_ hnew_; replace hcell := pw_cell_below hb hcell; have HB4 := Aside0.mk (below_step HB.out hb); have HC4 := Aside0.mk (Kd.C_below HC.out hb); have HM4 := Aside0.mk (Marks.below HM.out hb); have HO4 := Aside0.mk (Kd.R_lower ho4 HB.out.size); clear HB HC HM hb ho4) | ((with_reducible refine gate_builtin (b := .append) (xs := #[.tmp 13, .tmp 14]) rfl ?_); at_builtin; refine Kd.R_append_rows (Kd.int .i64) (w0 := w) w.heap.size rfl (.tmp 13) (.tmp 14) 23 3 (.int .i64 0) 8 rfl Tryd.underlying23 infoInt rfl (by decide) (by omega) _ [] (elems s) _ _ _ (fun _ => True) (fun _ => False) rfl rfl ?aO ?aR (fun _ _ h => h) (fun _ h => h.elim) ?aF ?aB ?aS ?aL ?_; (case aR => exact HC4.out); (case aB => exact HB4.out); (case aF => exact (fun _ _ => trivial)); (case aO => exact HO4.out); (case aS => exact HB4.out.size); (case aL => simp; omega); intro v137 w5 ho hb hg hat; have HM5 := Aside0.mk (HM4.out.grow hg (Kd.R_ownTyped HO4.out)); clear HB4 HO4 HC4 HM4; have HB5 := Aside0.mk hb; have HO5 := Aside0.mk ho; clear ho hb hg hat))
  refine leave_ret HM5.out (fun W => results_tmp rfl _ _ _) ?_
  intro W' ht
  exact ⟨_, rfl, ht.R (by simpa using HO5.out), ht.below HB5.out (Nat.le_refl _) (Nat.le_refl _)⟩
end Go.Proofs.YtimbfcedigaffaaDoor.Core
end
