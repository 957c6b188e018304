/- The law FnExactUselessNeeds holds of the given program: the proof's own part, with its row and its card, part 5 of 7. -/
import Derived.Test.YtpdgnncnejmhfaaDoorZFnExactUselessNeeds4
import Derived.Test.YtpdgnncnejmhfaaDoorTie
import Derived.Lib.SmallJoins
import Derived.Deep.Slices
import Derived.ProofKit
import Derived.LaidMore
import Derived.OpenShut
import Derived.Stop.Joined
import Derived.ChangeOld
import Derived.SizedLaws
import Derived.MakeChecks
section
set_option linter.unusedVariables false
set_option linter.unusedSimpArgs false
namespace Go.Proofs.YtpdgnncnejmhfaaDoor.Core
open Go Go.RowKit Go.ChangeShapes Go.WideShapes Go.ChangeAt Go.Proofs.YtpdgnncnejmhfaaDoorW.PrintWords Go.Proofs.YtpdgnncnejmhfaaDoor.P
section
variable {H : Type} {enc : TypeId × Value → H} {w : World} {base : Nat} {spare : Nat → Bool} {held : Bool}
theorem cells_int : Tryd.prog.cellsOf 3 = 1 := by kernel_rfl
theorem cells_ints : Tryd.prog.cellsOf 35 = 1 := by kernel_rfl
theorem cells_task : Tryd.prog.cellsOf 37 = 4 := by kernel_rfl
theorem open_row {t e : TypeId} {kk : IntKind} (ht : Tryd.prog.underlying t = some (.slice e)) (he : Tryd.prog.underlying e = some (.int kk)) (hce : Tryd.prog.cellsOf e = 1) {n : Nat} {cs : List Value} {y : DataW H × List MemPlace} (h : DataW.trod enc Tryd.prog w base spare held n t cs = some y) : ∃ A c1 l, cs = [.slice A l.length c1] ∧ l.length ≤ c1 ∧ (Kd.int kk).C w A l.length l ∧ ∀ x ∈ l, (Lit.int kk x).wf = true := by
  rcases Go.ChangeShapes.open_ints ht he hce h with ⟨hcs, _⟩ | ⟨a, len, cap, zs, hcs, _, hl, hm, hz, _, hcell, hwz⟩
  · subst hcs
    exact ⟨none, 0, [], rfl, Nat.le_refl _, ⟨rfl, by simp, fun h => absurd h (by simp)⟩, by simp⟩
  · subst hcs
    have hzl : len ≤ zs.length := by rw [hz]; split <;> omega
    have hlen : (zs.take len).length = len := by simp; omega
    refine ⟨some a, cap, zs.take len, by rw [hlen], by omega, ⟨rfl, ?_, fun _ => ⟨a, rfl, fun j p hp => ⟨[.int kk p], rfl, rfl, fun i u hu => ?_⟩⟩⟩, fun x hx => ?_⟩
    · rw [hlen]; unfold maxLen at hm; omega
    · cases i with
      | succ i => simp at hu
      | zero =>
        obtain rfl : u = .int kk p := by simpa using hu.symm
        have hj : j < len := by have := (List.getElem?_eq_some_iff.1 hp).1; omega
        have := hcell j (by omega)
        have hp2 : zs.getD j 0 = p := by
          rw [List.getElem?_take_of_lt hj] at hp
          simp [List.getD, hp]
        rw [hp2] at this
        show w.cell? (a.add (j * 1 + 0)) = _
        rw [Nat.mul_one, Nat.add_zero]
        exact this
    · exact hwz x (List.mem_of_mem_take hx)
theorem open_ints_ {n : Nat} {cs : List Value} {y : DataW H × List MemPlace} (h : DataW.trod enc Tryd.prog w base spare held n 35 cs = some y) : ∃ A c1 l, cs = [.slice A l.length c1] ∧ l.length ≤ c1 ∧ (Kd.int .i64).C w A l.length l ∧ ∀ x ∈ l, (Lit.int .i64 x).wf = true :=
  open_row Tryd.underlying35 Tryd.underlying3 cells_int h
theorem open_ints' {n : Nat} {c : Value} {y : DataW H × List MemPlace} (h : DataW.trod enc Tryd.prog w base spare held n 35 [c] = some y) : ∃ A c1 l, c = .slice A l.length c1 ∧ l.length ≤ c1 ∧ (Kd.int .i64).C w A l.length l := by
  obtain ⟨A, c1, l, h1, h2, h3, _⟩ := open_ints_ h
  exact ⟨A, c1, l, by simpa using h1, h2, h3⟩
set_option maxRecDepth 100000 in
theorem open_task {n : Nat} {cs : List Value} {y : DataW H × List MemPlace} (h : DataW.trod enc Tryd.prog w base spare held n 37 cs = some y) : ∃ x : S37, k37.K w x cs ∧ cs.length = 4 := by
  obtain ⟨y0, y1, y2, y3, m, _, hl, h0, h1, h2, h3⟩ := Go.Joins.trod_struct4 Tryd.underlying37 h
  rw [cells_task] at hl
  match cs, hl with
  | [c0, c1, c2, c3], _ =>
    rw [show Tryd.prog.cellsOf _ = 1 from cells_int] at h0 h2 h3
    rw [show Tryd.prog.cellsOf _ = 1 from cells_ints] at h1
    obtain ⟨n0, e0, _, _⟩ := DataW.trod_int Tryd.underlying3 h0
    obtain ⟨n2, e2, _, _⟩ := DataW.trod_int Tryd.underlying3 h2
    obtain ⟨n3, e3, _, _⟩ := DataW.trod_int Tryd.underlying3 h3
    obtain rfl : c0 = .int .i64 n0 := by simpa using e0
    obtain rfl : c2 = .int .i64 n2 := by simpa using e2
    obtain rfl : c3 = .int .i64 n3 := by simpa using e3
    obtain ⟨A, c, l, rfl, hlc, hC⟩ := open_ints' (c := c1) h1
    exact ⟨⟨n0, l, n2, n3⟩, ⟨[.int .i64 n0], _, rfl, rfl, ⟨[.slice A l.length c], _, rfl, ⟨A, c, rfl, hlc, hC⟩, ⟨[.int .i64 n2], [.int .i64 n3], rfl, rfl, rfl⟩⟩⟩, rfl⟩
theorem open_tasks {n : Nat} {cs : List Value} {y : DataW H × List MemPlace} (h : DataW.trod enc Tryd.prog w base spare held n 22 cs = some y) : ∃ A cap, ∃ l : List S37, cs = [.slice A l.length cap] ∧ l.length ≤ cap ∧ Kd.C k37 w A l.length l := by
  rcases Go.Deep.open_slice Tryd.underlying22 h with ⟨rfl, _⟩ | ⟨a, len, cap, m, n', D, Pl, rfl, _, hl, hm, hmm, _, hel⟩
  · exact ⟨none, 0, [], rfl, Nat.le_refl _, rfl, by simp, fun h => absurd h (by simp)⟩
  · have hml : len ≤ m := by rw [hmm]; split <;> omega
    have hall : ∀ i, ∃ x : S37, i < len → ∃ cs', w.cells? base (a.add (i * 4)) 4 = some cs' ∧ k37.K w x cs' ∧ cs'.length = 4 := by
      intro i
      by_cases hi : i < len
      · obtain ⟨cs', h1, h2⟩ := hel i (by omega)
        rw [cells_task] at h1
        obtain ⟨x, hx, hlx⟩ := open_task h2
        exact ⟨x, fun _ => ⟨cs', h1, hx, hlx⟩⟩
      · exact ⟨z37, fun h => absurd h hi⟩
    obtain ⟨X, hX⟩ := Classical.axiomOfChoice hall
    have hlen : ((List.range len).map X).length = len := by simp
    refine ⟨some a, cap, (List.range len).map X, by rw [hlen], by omega, rfl, by rw [hlen]; unfold maxLen at hm; omega, fun _ => ⟨a, rfl, fun j p hp => ?_⟩⟩
    have hj : j < len := by have := (List.getElem?_eq_some_iff.1 hp).1; omega
    obtain ⟨cs', h1, hx, hlx⟩ := hX j hj
    have hp2 : p = X j := by
      simp [hj] at hp
      exact hp.symm
    subst hp2
    refine ⟨cs', hlx, hx, fun i u hu => ?_⟩
    have hi : i < 4 := by have := (List.getElem?_eq_some_iff.1 hu).1; omega
    have h5 := (World.cells?_some h1).2.2 i hi
    rw [hu, Addr.add_add] at h5
    exact h5
end
/-- The table, out of the laid variable. -/
def laidD : List (String × DataW Unit) := [("math/bits.deBruijn32tab", Rows.laid_math_bits_deBruijn32tab)]
theorem gTab : Tryd.prog.globalNamed "math/bits.deBruijn32tab" = some 0 := by kernel_rfl
theorem tTab : (Tryd.prog.globals[0]?).map (·.type) = some 72 := by kernel_rfl
theorem laid_ok : (tabL.length = 32) ∧ (Rows.laid_math_bits_deBruijn32tab : DataW Unit) = .agg (tabL.map fun (n : Nat) => .lit (.int .u8 (n : Int))) := by
  refine ⟨by decide, rfl⟩
theorem cells_u8 : Tryd.prog.cellsOf 5 = 1 := by kernel_rfl
theorem tab_of_laid {W : World} (h : laidMetH Tryd.prog laidD W) : Tab W := by
  rw [MakeChecks.laidMetH_plain _ _ _ (by kernel_rfl)] at h
  obtain ⟨ps, ⟨g0, t0, cs0, f0, p0, q0, hg0, ht0, hv0, hd0, _⟩, _⟩ := h
  obtain rfl := Option.some.inj (gTab.symm.trans hg0)
  obtain rfl := Option.some.inj (tTab.symm.trans ht0)
  obtain ⟨xs, m1, rfl, hx1, hlen, hn3, hel⟩ := DataW.trod_array Tryd.underlying72 hd0
  intro i hi
  have h5 := World.var?_cell hg0 hv0 i
  have h6 := hel i hi
  rw [cells_u8, Nat.mul_one] at h6
  have hxi : xs[i]? = some (xs[i]'(by omega)) := List.getElem?_eq_getElem (by omega)
  generalize xs[i]'(by omega) = x at hxi
  rw [hxi] at h6
  obtain ⟨n, e1, e2, _⟩ := DataW.trod_int Tryd.underlying5 h6
  have e3 := (Prod.mk.inj hx1).1
  rw [laid_ok.2] at e3
  have e4 : tabL.map (fun (n : Nat) => (DataW.lit (.int .u8 (n : Int)) : DataW Unit)) = xs.map (·.1) := by
    injection e3
  have e5 := congrArg (·[i]?) e4
  simp only [List.getElem?_map, hxi, Option.map_some, e2] at e5
  have h7 : cs0.toList[i]? = some (.int .u8 n) := by
    have := congrArg (·[0]?) e1
    simpa [List.getElem?_take, List.getElem?_drop] using this
  rw [h5, ← Array.getElem?_toList, h7]
  have hti : i < tabL.length := by rw [laid_ok.1]; exact hi
  rw [List.getElem?_eq_getElem hti] at e5
  simp only [Option.map_some, Option.some.injEq, DataW.lit.injEq, Lit.int.injEq, true_and] at e5
  rw [← e5, List.getD_eq_getElem?_getD, List.getElem?_eq_getElem hti]
  rfl
end Go.Proofs.YtpdgnncnejmhfaaDoor.Core
end
section
set_option linter.unusedVariables false
set_option linter.unusedSimpArgs false
namespace Go.Proofs.YtpdgnncnejmhfaaDoor.Core
open Go Go.RowKit Go.Proofs.YtpdgnncnejmhfaaDoorW.PrintWords Go.Proofs.YtpdgnncnejmhfaaDoorW.PrintMore Go.Proofs.YtpdgnncnejmhfaaDoor.P
abbrev Lt := S37
/-- The sizes of lists are the machine's. -/
def Small (l : List Lt) : Prop := l.length ≤ 9223372036854775807 ∧ ∀ t ∈ l, t.f1.length ≤ 9223372036854775807
theorem small_of_C {w : World} {A : Option Addr} {n : Nat} {l : List Lt} (h : Kd.C k37 w A n l) : Small l := by
  refine ⟨h.1 ▸ h.2.1, fun t ht => ?_⟩
  obtain ⟨i, hi, e⟩ := List.mem_iff_getElem.1 ht
  obtain ⟨ad, _, hc⟩ := h.2.2 (by have := h.1; omega)
  obtain ⟨c, _, hK, _⟩ := hc i t (by rw [List.getElem?_eq_getElem hi, e])
  obtain ⟨A1, c1, _, _, hC⟩ := k37_open hK
  exact hC.2.1
/-- A task as the program's. -/
def conv (t : Lt) : Tk := ⟨t.f0, t.f1, t.f2, t.f3⟩
def szGo : List Lt → Int → Int
  | [], x => x
  | t :: r, x => if x - t.f1.length < 0 then -1 else szGo r (x - t.f1.length)
def szD (l : List Lt) (x : Int) : Int := if x - l.length < 0 then -1 else szGo l (x - l.length)
theorem szInt_eq {l : List Int} (hl : l.length ≤ 9223372036854775807) {x : Int} (h0 : 0 ≤ x) (h1 : x ≤ 1048576) : laws_szIntS.f l x = some (if x - l.length < 0 then -1 else x - l.length) := by
  unfold laws_szIntS.f
  rw [w64 (by omega) (by omega)]
  split <;> rfl
theorem szTask_eq {t : Lt} (hl : t.f1.length ≤ 9223372036854775807) {x : Int} (h0 : 0 ≤ x) (h1 : x ≤ 1048576) : laws_szTask.f t.f0 t.f1 t.f2 t.f3 x = some (if x - t.f1.length < 0 then -1 else x - t.f1.length) := by
  unfold laws_szTask.f
  rw [szInt_eq hl h0 h1, Option.bind_some]
  by_cases h : x - (t.f1.length : Int) < 0
  · rw [if_pos h, if_pos (by omega)]
  · rw [if_neg h, if_neg h]
theorem rdL_mid {pre r : List Lt} {x : Lt} {i : Int} (hi : i = (pre.length : Int)) : rd_T37 (pre ++ x :: r) i = x := by
  subst hi
  simp [rd_T37]
theorem ev_sz_from (L : List Lt) (hL : L.length ≤ 1048576) (hs : Small L) : ∀ (r pre : List Lt) (x : Int), L = pre ++ r → 0 ≤ x → x ≤ 1048576 → Ev (fun k => laws_szTaskS.l0 k L x (pre.length : Int)) (szGo r x)
  | [], pre, x, hp, h0, h1 => by
    refine Ev.succ ((Ev.const _).of fun k => ?_)
    rw [List.append_nil] at hp
    subst hp
    rw [laws_szTaskS.l0, if_neg (by omega)]
    rfl
  | t :: r, pre, x, hp, h0, h1 => by
    have hlen : L.length = pre.length + (r.length + 1) := by rw [hp]; simp
    have hrd : rd_T37 L (pre.length : Int) = t := by rw [hp]; exact rdL_mid rfl
    have ht := hs.2 t (by rw [hp]; simp)
    refine Ev.succ ?_
    by_cases h : x - (t.f1.length : Int) < 0
    · refine (Ev.const _).of fun k => ?_
      rw [laws_szTaskS.l0, if_pos (by omega), if_pos (by omega), hrd, szTask_eq ht h0 h1, if_pos h, Option.bind_some, if_pos (by omega), szGo, if_pos h]
    · have ih := ev_sz_from L hL hs r (pre ++ [t]) (x - t.f1.length) (by rw [hp]; simp) (by omega) (by omega)
      rw [szGo, if_neg h]
      refine ih.of fun k => ?_
      rw [laws_szTaskS.l0, if_pos (by omega), if_pos (by omega), hrd, szTask_eq ht h0 h1, if_neg h, Option.bind_some, if_neg h, w64s (by unfold big; omega)]
      simp
theorem ev_sz {L : List Lt} (hs : Small L) {x : Int} (h0 : 0 ≤ x) (h1 : x ≤ 1048576) : Ev (fun k => laws_szTaskS.f k L x) (szD L x) := by
  have hl := hs.1
  unfold szD
  by_cases h : x - (L.length : Int) < 0
  · rw [if_pos h]
    refine (Ev.const _).of fun k => ?_
    unfold laws_szTaskS.f
    rw [w64 (by omega) (by omega), if_pos h]
  · rw [if_neg h]
    refine (ev_sz_from L (by omega) hs L [] (x - L.length) rfl (by omega) (by omega)).of fun k => ?_
    unfold laws_szTaskS.f
    rw [w64 (by omega) (by omega), if_neg h]
    rfl
theorem szGo_fits : ∀ {r : List Lt} {x : Int}, x ≤ 1048576 → 0 ≤ szGo r x → ∀ t ∈ r, t.f1.length ≤ 1048576
  | [], x, _, _, t, ht => by cases ht
  | a :: r, x, hx, h, t, ht => by
    rw [szGo] at h
    by_cases hc : x - (a.f1.length : Int) < 0
    · rw [if_pos hc] at h; omega
    · rw [if_neg hc] at h
      rcases List.mem_cons.1 ht with rfl | ht
      · omega
      · exact szGo_fits (by omega) h t ht
theorem szD_fits {L : List Lt} {x : Int} (hx : x ≤ 1048576) (h : ¬szD L x < 0) : L.length ≤ 1048576 ∧ ∀ t ∈ L, t.f1.length ≤ 1048576 := by
  unfold szD at h
  by_cases hc : x - (L.length : Int) < 0
  · rw [if_pos hc] at h; omega
  · rw [if_neg hc] at h
    exact ⟨by omega, szGo_fits (r := L) (x := x - L.length) (by omega) (by omega)⟩
theorem set_mid {α : Type} (pre : List α) (z y : α) (m : Nat) : (pre ++ List.replicate (m + 1) z).set pre.length y = (pre ++ [y]) ++ List.replicate m z := by
  rw [List.replicate_succ, List.set_append_right _ _ (Nat.le_refl _)]
  simp
theorem ev_toIntS_from (L : List Int) (hL : L.length < big) : ∀ (r pre : List Int), L = pre ++ r → Ev (fun k => laws_toIntS.l0 k L (pre ++ List.replicate r.length 0) (pre.length : Int)) L
  | [], pre, hp => by
    rw [List.append_nil] at hp
    subst hp
    refine Ev.succ ((Ev.const _).of fun k => ?_)
    rw [laws_toIntS.l0, if_neg (by omega)]
    simp
  | y :: r, pre, hp => by
    have hlen : L.length = pre.length + (r.length + 1) := by rw [hp]; simp
    have hrd : rd L (pre.length : Int) = y := by rw [hp]; exact rd_mid rfl
    have ih := ev_toIntS_from L hL r (pre ++ [y]) (by rw [hp]; simp)
    refine Ev.succ (ih.of fun k => ?_)
    rw [laws_toIntS.l0, if_pos (by omega), if_pos (by omega), if_pos (by simp; omega), hrd, w64s (by omega), Int.toNat_natCast, List.length_cons, set_mid]
    simp
theorem ev_toIntS {L : List Int} (hL : L.length ≤ 1048576) : Ev (fun k => laws_toIntS.f k L) L := by
  refine (ev_toIntS_from L (by unfold big; omega) L [] rfl).of fun k => ?_
  unfold laws_toIntS.f
  rw [if_pos (by omega), if_pos (by omega), Int.toNat_natCast]
  rfl
theorem ev_toTask {t : Lt} (ht : t.f1.length ≤ 1048576) : Ev (fun k => laws_toTask.f k t.f0 t.f1 t.f2 t.f3) (t.f0, t.f1, t.f2, t.f3) :=
  ((ev_toIntS ht).bind (g := fun _ t178 => some (t.f0, t178, t.f2, t.f3)) (Ev.const _)).of fun k => rfl
theorem ev_toTaskS_from (L : List Lt) (hL : L.length ≤ 1048576) (ht : ∀ t ∈ L, t.f1.length ≤ 1048576) : ∀ (r pre : List Lt), L = pre ++ r → Ev (fun k => laws_toTaskS.l0 k L (pre.map conv ++ List.replicate r.length z39) (pre.length : Int)) (L.map conv)
  | [], pre, hp => by
    rw [List.append_nil] at hp
    subst hp
    refine Ev.succ ((Ev.const _).of fun k => ?_)
    rw [laws_toTaskS.l0, if_neg (by omega)]
    simp
  | y :: r, pre, hp => by
    have hlen : L.length = pre.length + (r.length + 1) := by rw [hp]; simp
    have hrd : rd_T37 L (pre.length : Int) = y := by rw [hp]; exact rdL_mid rfl
    have hy := ev_toTask (ht y (by rw [hp]; simp))
    have ih := ev_toTaskS_from L hL ht r (pre ++ [y]) (by rw [hp]; simp)
    have e : (pre.map conv ++ List.replicate (r.length + 1) z39).set pre.length (conv y) = (pre ++ [y]).map conv ++ List.replicate r.length z39 := by
      have := set_mid (pre.map conv) z39 (conv y) r.length
      rw [List.length_map] at this
      rw [this]; simp
    refine Ev.succ ?_
    refine (hy.bind (g := fun k bt => laws_toTaskS.l0 k L ((pre.map conv ++ List.replicate (r.length + 1) z39).set pre.length (⟨bt.1, bt.2.1, bt.2.2.1, bt.2.2.2⟩ : S39)) ((pre ++ [y]).length : Int)) (ih.of fun k => ?_)).of fun k => ?_
    · rw [← e]; rfl
    · rw [laws_toTaskS.l0, if_pos (by omega), if_pos (by omega), hrd, w64s (by unfold big; omega), Int.toNat_natCast, List.length_cons]
      congr 1
      funext bt
      rw [if_pos (by simp; omega)]
      simp
theorem ev_toTaskS {L : List Lt} (hL : L.length ≤ 1048576) (ht : ∀ t ∈ L, t.f1.length ≤ 1048576) : Ev (fun k => laws_toTaskS.f k L) (L.map conv) := by
  refine (ev_toTaskS_from L hL ht L [] rfl).of fun k => ?_
  unfold laws_toTaskS.f
  rw [if_pos (by omega), if_pos (by omega), Int.toNat_natCast]
  rfl
theorem ev_eqIntS_from (L : List Int) (hL : L.length < big) : ∀ (r pre : List Int), L = pre ++ r → Ev (fun k => laws_eqIntS.l0 k L L (pre.length : Int)) true
  | [], pre, hp => by
    rw [List.append_nil] at hp
    subst hp
    refine Ev.succ ((Ev.const _).of fun k => ?_)
    rw [laws_eqIntS.l0, if_neg (by omega)]
  | y :: r, pre, hp => by
    have hlen : L.length = pre.length + (r.length + 1) := by rw [hp]; simp
    have ih := ev_eqIntS_from L hL r (pre ++ [y]) (by rw [hp]; simp)
    refine Ev.succ (ih.of fun k => ?_)
    rw [laws_eqIntS.l0, if_pos (by omega), if_pos (by omega), if_pos (by omega), if_pos rfl, w64s (by omega)]
    simp
theorem ev_eqIntS {L : List Int} (hL : L.length < big) : Ev (fun k => laws_eqIntS.f k L L) true := by
  refine (ev_eqIntS_from L hL L [] rfl).of fun k => ?_
  unfold laws_eqIntS.f
  rw [if_pos rfl]
  rfl
theorem ev_eqTask {t : Tk} (ht : t.f1.length < big) : Ev (fun k => laws_eqTask.f k t.f0 t.f1 t.f2 t.f3 t.f0 t.f1 t.f2 t.f3) true := by
  refine ((ev_eqIntS ht).bind (g := fun _ b => if b = true then some true else some false) ((Ev.const true).of fun k => if_pos rfl)).of fun k => ?_
  unfold laws_eqTask.f
  rw [if_pos rfl, if_pos rfl, if_pos rfl]
theorem ev_eqTaskS_from (L : List Tk) (hL : Fits L) : ∀ (r pre : List Tk), L = pre ++ r → Ev (fun k => laws_eqTaskS.l0 k L L (pre.length : Int)) true
  | [], pre, hp => by
    rw [List.append_nil] at hp
    subst hp
    refine Ev.succ ((Ev.const _).of fun k => ?_)
    rw [laws_eqTaskS.l0, if_neg (by omega)]
  | y :: r, pre, hp => by
    have hlen : L.length = pre.length + (r.length + 1) := by rw [hp]; simp
    have hbig := hL.1
    have hrd : rd_T39 L (pre.length : Int) = y := by rw [hp]; exact rdT_mid rfl
    have hy := ev_eqTask (hL.2 y (by rw [hp]; simp))
    have ih := ev_eqTaskS_from L hL r (pre ++ [y]) (by rw [hp]; simp)
    refine Ev.succ ?_
    refine (hy.bind (g := fun k b => if b = true then laws_eqTaskS.l0 k L L ((pre ++ [y]).length : Int) else some false) (ih.of fun k => if_pos rfl)).of fun k => ?_
    rw [laws_eqTaskS.l0, if_pos (by omega), if_pos (by omega), if_pos (by omega), hrd, w64s (by omega)]
    simp
theorem ev_eqTaskS {L : List Tk} (hL : Fits L) : Ev (fun k => laws_eqTaskS.f k L L) true := by
  refine (ev_eqTaskS_from L hL L [] rfl).of fun k => ?_
  unfold laws_eqTaskS.f
  rw [if_pos rfl]
  rfl
theorem fits_conv {L : List Lt} (hL : L.length ≤ 1048576) (ht : ∀ t ∈ L, t.f1.length ≤ 1048576) : Fits (L.map conv) := by
  refine ⟨by rw [List.length_map]; unfold big; omega, fun t h => ?_⟩
  obtain ⟨a, ha, rfl⟩ := List.mem_map.1 h
  have := ht a ha
  show a.f1.length < big
  unfold big; omega
end Go.Proofs.YtpdgnncnejmhfaaDoor.Core
end
section
set_option linter.unusedVariables false
set_option linter.unusedSimpArgs false
namespace Go.Proofs.YtpdgnncnejmhfaaDoor.Core
open Go Go.RowKit Go.Proofs.YtpdgnncnejmhfaaDoorW.PrintWords Go.Proofs.YtpdgnncnejmhfaaDoorW.PrintMore Go.Proofs.YtpdgnncnejmhfaaDoor.P
/-- The numbers from a on. -/
def cnt (a : Int) (n : Nat) : List Int := (List.range n).map (fun i => a + (i : Nat))
theorem cnt_length (a : Int) (n : Nat) : (cnt a n).length = n := by simp [cnt]
theorem cnt_get (a : Int) (n : Nat) {i : Nat} (h : i < n) : (cnt a n)[i]? = some (a + (i : Nat)) := by simp [cnt, h]
theorem ev_markIntS {L : List Int} {a : Int} (h0 : 0 ≤ a) (hL : a + L.length < 4611686018427387904) : Ev (fun k => laws_markIntS.f k L a) (a + L.length, cnt a L.length) := by
  have key : ∀ (d i : Nat), i + d = L.length → Ev (fun k => laws_markIntS.l0 k (cnt a i ++ L.drop i) (a + (i : Nat)) (i : Int)) (a + L.length, cnt a L.length) := by
    intro d
    induction d with
    | zero =>
      intro i h
      refine Ev.succ ((Ev.const _).of fun k => ?_)
      have hi : i = L.length := by omega
      subst hi
      rw [laws_markIntS.l0, if_neg (by simp [cnt_length]), List.drop_length, List.append_nil]
    | succ d ih =>
      intro i h
      refine Ev.succ ((ih (i + 1) (by omega)).of fun k => ?_)
      have hl : ((cnt a i ++ L.drop i).length : Int) = L.length := by
        rw [List.length_append, cnt_length, List.length_drop]; omega
      rw [laws_markIntS.l0, if_pos (by rw [hl]; omega), if_pos (by omega), w64 (by omega) (by omega), w64 (n := (i : Int) + 1) (by omega) (by omega)]
      have e : (cnt a i ++ L.drop i).set ((i : Int) : Int).toNat (a + (i : Nat)) = cnt a (i + 1) ++ L.drop (i + 1) := by
        rw [Int.toNat_natCast, List.set_append_right _ _ (by rw [cnt_length]; exact Nat.le_refl _), cnt_length, Nat.sub_self, List.drop_eq_getElem_cons (by omega)]
        simp only [List.set_cons_zero]
        unfold cnt
        rw [List.range_succ, List.map_append, List.append_assoc]
        rfl
      rw [e]
      congr 1
      omega
  have := key L.length 0 (by omega)
  unfold laws_markIntS.f
  simpa [cnt] using this
theorem ev_heldIntS {n : Nat} {a : Int} (h0 : 0 ≤ a) (hL : a + n < 4611686018427387904) : Ev (fun k => laws_heldIntS.f k (cnt a n) a) (a + n) := by
  have key : ∀ (d i : Nat), i + d = n → Ev (fun k => laws_heldIntS.l0 k (cnt a n) (a + (i : Nat)) (i : Int)) (a + n) := by
    intro d
    induction d with
    | zero =>
      intro i h
      refine Ev.succ ((Ev.const _).of fun k => ?_)
      have hi : i = n := by omega
      subst hi
      rw [laws_heldIntS.l0, if_neg (by rw [cnt_length]; omega)]
    | succ d ih =>
      intro i h
      refine Ev.succ ((ih (i + 1) (by omega)).of fun k => ?_)
      have hr : rd (cnt a n) (i : Int) = a + (i : Nat) := by
        unfold rd
        rw [Int.toNat_natCast, List.getD_eq_getElem?_getD, cnt_get a n (by omega), Option.getD_some]
      rw [laws_heldIntS.l0, if_pos (by rw [cnt_length]; omega), if_pos (by omega), if_pos hr, w64 (by omega) (by omega), w64 (n := (i : Int) + 1) (by omega) (by omega)]
      congr 1
      omega
  have := key n 0 (by omega)
  unfold laws_heldIntS.f
  simpa using this
theorem upI_eq {a : Int} (h0 : 0 ≤ a) : ∀ n : Nat, a + n < 4611686018427387904 → upI n a = a + n
  | 0, _ => by simp [upI]
  | n + 1, h => by
    rw [upI, upI_eq h0 n (by omega), w64 (by omega) (by omega)]
    omega
theorem mkT_le {l : List Tk} {a : Int} (h0 : 0 ≤ a) (ha : a < 1152921504606846976) (hl : l.length ≤ 1048576) (ht : ∀ t ∈ l, t.f1.length ≤ 1048576) : ∀ i : Nat, i ≤ l.length → 0 ≤ mkT l a i ∧ mkT l a i ≤ a + i * 1048579
  | 0, _ => by simp [mkT]; omega
  | i + 1, hi => by
    obtain ⟨h1, h2⟩ := mkT_le h0 ha hl ht i (by omega)
    have hm : (l.getD i z39).f1.length ≤ 1048576 := by
      rw [List.getD_eq_getElem?_getD, List.getElem?_eq_getElem (by omega)]
      exact ht _ (List.getElem_mem _)
    have hb : (i : Int) * 1048579 ≤ 1048576 * 1048579 := by omega
    rw [mkT, w64 (n := mkT l a i + 1) (by omega) (by omega), upI_eq (by omega) _ (by omega)]
    rw [w64 (n := mkT l a i + 1 + ((l.getD i z39).f1.length : Nat) + 1) (by omega) (by omega), w64 (by omega) (by omega)]
    omega
end Go.Proofs.YtpdgnncnejmhfaaDoor.Core
end
