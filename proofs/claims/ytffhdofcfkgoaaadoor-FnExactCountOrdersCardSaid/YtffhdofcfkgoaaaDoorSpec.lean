/- What the reference's small functions say, in plain words: lists of numbers. -/
import Derived.Test.YtffhdofcfkgoaaaDoorGraphD
import Derived.Test.YtffhdofcfkgoaaaDoorP9
import Derived.Test.YtffhdofcfkgoaaaDoorP6
import Derived.Test.YtffhdofcfkgoaaaDoorP4
import Derived.Test.YtffhdofcfkgoaaaDoorP10
import Derived.Test.YtffhdofcfkgoaaaDoorP12
import Derived.Test.YtffhdofcfkgoaaaDoorP7
import Derived.Test.YtffhdofcfkgoaaaDoorP8
import Derived.Test.YtffhdofcfkgoaaaDoorP11
import Derived.Test.YtffhdofcfkgoaaaDoorExt
import Derived.Test.YtffhdofcfkgoaaaDoorP13
import Derived.Test.YtffhdofcfkgoaaaDoorP14
set_option linter.unusedVariables false
set_option linter.unusedSimpArgs false
namespace Go.Proofs.YtffhdofcfkgoaaaDoor.Core
open Go Go.RowKit Go.Proofs.YtffhdofcfkgoaaaDoorW.PrintWords Go.Proofs.YtffhdofcfkgoaaaDoorW.PrintMore Go.Proofs.YtffhdofcfkgoaaaDoor.P
abbrev big : Nat := 4611686018427387904
theorem w64s {n : Nat} (h : n < big) : wrap64 ((n : Int) + 1) = ((n + 1 : Nat) : Int) := by rw [w64 (by omega) (by unfold big at h; omega)]; omega
theorem inRange_eq (x a b : Int) : spec_inRange.f x a b = some (decide (a ≤ x ∧ x ≤ b)) := by
  unfold spec_inRange.f
  by_cases h : a ≤ x
  · rw [if_pos h]; simp; omega
  · rw [if_neg h]; simp; omega
theorem copyInts_eq {l : List Int} (h : l.length < big) (h2 : l.length < 17592186044416) : spec_copyInts.f l = some l := by
  unfold spec_copyInts.f
  simp [h2]
theorem ev_isIn_from (L : List Int) (x : Int) (hL : L.length < big) : ∀ (r pre : List Int), L = pre ++ r → Ev (fun k => spec_isIn.l0 k L x (pre.length : Int)) (decide (x ∈ r))
  | [], pre, hp => by
    refine Ev.succ ((Ev.const _).of fun k => ?_)
    rw [List.append_nil] at hp
    subst hp
    rw [spec_isIn.l0, if_neg (by omega)]
    simp
  | y :: r, pre, hp => by
    have hlen : L.length = pre.length + (r.length + 1) := by rw [hp]; simp
    have hrd : rd L (pre.length : Int) = y := by rw [hp]; exact rd_mid rfl
    refine Ev.succ ?_
    by_cases hy : y = x
    · refine (Ev.const _).of fun k => ?_
      rw [spec_isIn.l0, if_pos (by omega), if_pos (by omega), hrd, if_pos hy]
      simp [hy]
    · have ih := ev_isIn_from L x hL r (pre ++ [y]) (by rw [hp]; simp)
      have e : decide (x ∈ y :: r) = decide (x ∈ r) := by
        have : x ≠ y := fun h => hy h.symm
        simp [this]
      rw [e]
      refine ih.of fun k => ?_
      rw [spec_isIn.l0, if_pos (by omega), if_pos (by omega), hrd, if_neg hy, w64s (by omega)]
      simp
theorem ev_isIn {L : List Int} (hL : L.length < big) (x : Int) : Ev (fun k => spec_isIn.f k L x) (decide (x ∈ L)) := ev_isIn_from L x hL L [] rfl
theorem ev_allIn_from (L : List Int) (a b : Int) (hL : L.length < big) : ∀ (r pre : List Int), L = pre ++ r → Ev (fun k => spec_allIn.l0 k L a b (pre.length : Int)) (decide (∀ x ∈ r, a ≤ x ∧ x ≤ b))
  | [], pre, hp => by
    refine Ev.succ ((Ev.const _).of fun k => ?_)
    rw [List.append_nil] at hp
    subst hp
    rw [spec_allIn.l0, if_neg (by omega)]
    simp
  | y :: r, pre, hp => by
    have hlen : L.length = pre.length + (r.length + 1) := by rw [hp]; simp
    have hrd : rd L (pre.length : Int) = y := by rw [hp]; exact rd_mid rfl
    refine Ev.succ ?_
    by_cases hy : a ≤ y ∧ y ≤ b
    · have ih := ev_allIn_from L a b hL r (pre ++ [y]) (by rw [hp]; simp)
      have e : decide (∀ x ∈ y :: r, a ≤ x ∧ x ≤ b) = decide (∀ x ∈ r, a ≤ x ∧ x ≤ b) := by simp [hy]
      rw [e]
      refine ih.of fun k => ?_
      rw [spec_allIn.l0, if_pos (by omega), if_pos (by omega), hrd, inRange_eq, decide_eq_true hy, Option.bind_some, if_pos rfl, w64s (by omega)]
      simp
    · refine (Ev.const _).of fun k => ?_
      rw [spec_allIn.l0, if_pos (by omega), if_pos (by omega), hrd, inRange_eq, decide_eq_false hy, Option.bind_some, if_neg (by simp)]
      simp only [Option.some.injEq]
      rw [eq_comm, decide_eq_false_iff_not]
      exact fun h => hy (h y List.mem_cons_self)
theorem ev_allIn {L : List Int} (hL : L.length < big) (a b : Int) : Ev (fun k => spec_allIn.f k L a b) (decide (∀ x ∈ L, a ≤ x ∧ x ≤ b)) := ev_allIn_from L a b hL L [] rfl
def ascD : List Int → Bool
  | [] => true
  | [_] => true
  | x :: y :: r => decide (x < y) && ascD (y :: r)
theorem ev_asc_from (L : List Int) (hL : L.length < big) : ∀ (r pre : List Int) (x : Int), L = pre ++ x :: r → Ev (fun k => spec_ascends.l0 k L ((pre.length + 1 : Nat) : Int)) (ascD (x :: r))
  | [], pre, x, hp => by
    have hlen : L.length = pre.length + 1 := by rw [hp]; simp
    refine Ev.succ ((Ev.const _).of fun k => ?_)
    rw [spec_ascends.l0, if_neg (by omega)]
    rfl
  | y :: r, pre, x, hp => by
    have hlen : L.length = pre.length + (r.length + 1 + 1) := by rw [hp]; simp
    have hw : wrap64 (((pre.length + 1 : Nat) : Int) - 1) = (pre.length : Int) := by rw [w64 (by omega) (by unfold big at hL; omega)]; omega
    have hrd : rd L (pre.length : Int) = x := by rw [hp]; exact rd_mid rfl
    have hrd2 : rd L ((pre.length + 1 : Nat) : Int) = y := by
      have : L = (pre ++ [x]) ++ y :: r := by rw [hp]; simp
      rw [this]; exact rd_mid (by simp)
    refine Ev.succ ?_
    by_cases hy : x < y
    · have ih := ev_asc_from L hL r (pre ++ [x]) y (by rw [hp]; simp)
      have e : ascD (x :: y :: r) = ascD (y :: r) := by simp [ascD, hy]
      rw [e]
      refine ih.of fun k => ?_
      rw [spec_ascends.l0, if_pos (by omega), if_pos (by omega), hw, if_pos (by omega), if_pos (by omega), hrd, hrd2, if_neg (by omega), w64s (by omega)]
      simp
    · have e : ascD (x :: y :: r) = false := by simp [ascD, hy]
      rw [e]
      refine (Ev.const _).of fun k => ?_
      rw [spec_ascends.l0, if_pos (by omega), if_pos (by omega), hw, if_pos (by omega), if_pos (by omega), hrd, hrd2, if_pos (by omega)]
theorem ev_ascends {L : List Int} (hL : L.length < big) : Ev (fun k => spec_ascends.f k L) (ascD L) := by
  cases L with
  | nil =>
    refine Ev.of (Ev.succ ((Ev.const true).of (g := fun k => spec_ascends.l0 (k + 1) [] 1) fun k => ?_)) (fun k => rfl)
    rw [spec_ascends.l0, if_neg (by simp)]
  | cons x r => exact ev_asc_from (x :: r) hL r [] x rfl
theorem ev_allDone_from (L M : List Int) (hL : L.length < big) (hM : M.length < big) : ∀ (r pre : List Int), L = pre ++ r → Ev (fun k => spec_allDone.l0 k L M (pre.length : Int)) (decide (∀ x ∈ r, x ∈ M))
  | [], pre, hp => by
    refine Ev.succ ((Ev.const _).of fun k => ?_)
    rw [List.append_nil] at hp
    subst hp
    rw [spec_allDone.l0, if_neg (by omega)]
    simp
  | y :: r, pre, hp => by
    have hlen : L.length = pre.length + (r.length + 1) := by rw [hp]; simp
    have hrd : rd L (pre.length : Int) = y := by rw [hp]; exact rd_mid rfl
    have hi := ev_isIn hM y
    refine Ev.succ ?_
    by_cases hy : y ∈ M
    · have ih := ev_allDone_from L M hL hM r (pre ++ [y]) (by rw [hp]; simp)
      have e : decide (∀ x ∈ y :: r, x ∈ M) = decide (∀ x ∈ r, x ∈ M) := by simp [hy]
      rw [e]
      rw [decide_eq_true hy] at hi
      refine (hi.bind (g := fun k t => if t = true then spec_allDone.l0 k L M ((pre ++ [y]).length : Int) else some false) (ih.of fun k => if_pos rfl)).of fun k => ?_
      rw [spec_allDone.l0, if_pos (by omega), if_pos (by omega), hrd, w64s (by omega)]
      simp
    · have e : decide (∀ x ∈ y :: r, x ∈ M) = false := by
        rw [decide_eq_false_iff_not]
        exact fun h => hy (h y List.mem_cons_self)
      rw [e]
      rw [decide_eq_false hy] at hi
      refine (hi.bind (g := fun k t => if t = true then spec_allDone.l0 k L M ((pre ++ [y]).length : Int) else some false) ((Ev.const false).of fun k => if_neg (by simp))).of fun k => ?_
      rw [spec_allDone.l0, if_pos (by omega), if_pos (by omega), hrd, w64s (by omega)]
      simp
theorem ev_allDone {L M : List Int} (hL : L.length < big) (hM : M.length < big) : Ev (fun k => spec_allDone.f k L M) (decide (∀ x ∈ L, x ∈ M)) := ev_allDone_from L M hL hM L [] rfl

/-! ### tasks -/
def needsOk (n : Nat) (l : List Int) : Prop := (∀ x ∈ l, 0 ≤ x ∧ x ≤ (n : Int) - 1) ∧ ascD l = true
instance (n : Nat) (l : List Int) : Decidable (needsOk n l) := by unfold needsOk; infer_instance
theorem ev_validTask {t : Tk} (ht : t.f1.length < big) {n : Nat} (hn : n < big) : Ev (fun k => spec_validTask.f k t.f0 t.f1 t.f2 t.f3 (n : Int)) (decide (taskOk t ∧ needsOk n t.f1)) := by
  have hw : wrap64 ((n : Int) - 1) = (n : Int) - 1 := w64 (by omega) (by unfold big at hn; omega)
  have hA := ev_allIn ht 0 ((n : Int) - 1)
  have hB := ev_ascends ht
  by_cases h1 : 1 ≤ t.f0 ∧ t.f0 ≤ 20
  · by_cases h2 : 0 ≤ t.f2 ∧ t.f2 ≤ 2
    · by_cases h3 : 1 ≤ t.f3 ∧ t.f3 ≤ 4
      · have hok : taskOk t := ⟨h1, h2, h3⟩
        have hu : ∀ k, spec_validTask.f k t.f0 t.f1 t.f2 t.f3 (n : Int) = (spec_allIn.f k t.f1 0 ((n : Int) - 1)).bind fun t113 => (if t113 = true then ((spec_ascends.f k t.f1).bind fun t114 => (some t114)) else (some false)) := by
          intro k
          unfold spec_validTask.f
          rw [inRange_eq, inRange_eq, inRange_eq, decide_eq_true h1, decide_eq_true h2, decide_eq_true h3, hw]
          rfl
        refine Ev.of ?_ hu
        refine (hA.bind (g := fun k t113 => if t113 = true then ((spec_ascends.f k t.f1).bind fun t114 => (some t114)) else (some false)) (b := decide (taskOk t ∧ needsOk n t.f1)) ?_)
        by_cases h4 : ∀ x ∈ t.f1, 0 ≤ x ∧ x ≤ (n : Int) - 1
        · rw [decide_eq_true h4]
          have e : decide (taskOk t ∧ needsOk n t.f1) = ascD t.f1 := by
            cases h5 : ascD t.f1
            · rw [decide_eq_false_iff_not]; intro h; have := h.2.2; rw [h5] at this; cases this
            · rw [decide_eq_true_eq]; exact ⟨hok, h4, h5⟩
          rw [e]
          refine (hB.bind (g := fun _ t114 => some t114) (Ev.const _)).of fun k => ?_
          rw [if_pos rfl]
        · rw [decide_eq_false h4]
          have e : decide (taskOk t ∧ needsOk n t.f1) = false := by rw [decide_eq_false_iff_not]; exact fun h => h4 h.2.1
          rw [e]
          exact (Ev.const false).of fun k => if_neg (by simp)
      · have e : decide (taskOk t ∧ needsOk n t.f1) = false := by rw [decide_eq_false_iff_not]; exact fun h => h3 h.1.2.2
        rw [e]
        refine (Ev.const false).of fun k => ?_
        unfold spec_validTask.f
        rw [inRange_eq, inRange_eq, inRange_eq, decide_eq_true h1, decide_eq_true h2, decide_eq_false h3]
        rfl
    · have e : decide (taskOk t ∧ needsOk n t.f1) = false := by rw [decide_eq_false_iff_not]; exact fun h => h2 h.1.2.1
      rw [e]
      refine (Ev.const false).of fun k => ?_
      unfold spec_validTask.f
      rw [inRange_eq, inRange_eq, decide_eq_true h1, decide_eq_false h2]
      rfl
  · have e : decide (taskOk t ∧ needsOk n t.f1) = false := by rw [decide_eq_false_iff_not]; exact fun h => h1 h.1.1
    rw [e]
    refine (Ev.const false).of fun k => ?_
    unfold spec_validTask.f
    rw [inRange_eq, decide_eq_false h1]
    rfl
/-- All lists are of a size that fits. -/
def Fits (g : List Tk) : Prop := g.length < big ∧ ∀ t ∈ g, t.f1.length < big
theorem ev_tasksFine_from (g : List Tk) (hg : Fits g) : ∀ (r pre : List Tk), g = pre ++ r → Ev (fun k => spec_tasksFine.l0 k g (pre.length : Int)) (decide ((∀ t ∈ r, taskOk t ∧ needsOk g.length t.f1) ∧ g.length ≤ 8))
  | [], pre, hp => by
    refine Ev.succ ((Ev.const _).of fun k => ?_)
    rw [List.append_nil] at hp
    subst hp
    rw [spec_tasksFine.l0, if_neg (by omega)]
    congr 1
    rw [decide_eq_decide]
    constructor
    · intro h; exact ⟨by simp, by omega⟩
    · intro h; omega
  | t :: r, pre, hp => by
    have hlen : g.length = pre.length + (r.length + 1) := by rw [hp]; simp
    have hbig := hg.1
    have hrd : rd_T33 g (pre.length : Int) = t := by rw [hp]; exact rdT_mid rfl
    have hv := ev_validTask (hg.2 t (by rw [hp]; simp)) hg.1
    refine Ev.succ ?_
    by_cases hy : taskOk t ∧ needsOk g.length t.f1
    · have ih := ev_tasksFine_from g hg r (pre ++ [t]) (by rw [hp]; simp)
      have e : decide ((∀ t' ∈ t :: r, taskOk t' ∧ needsOk g.length t'.f1) ∧ g.length ≤ 8) = decide ((∀ t ∈ r, taskOk t ∧ needsOk g.length t.f1) ∧ g.length ≤ 8) := by simp [hy]
      rw [e]
      rw [decide_eq_true hy] at hv
      refine (hv.bind (g := fun k b => if b = true then spec_tasksFine.l0 k g ((pre ++ [t]).length : Int) else some false) (ih.of fun k => if_pos rfl)).of fun k => ?_
      rw [spec_tasksFine.l0, if_pos (by omega), if_pos (by omega), hrd, w64s (by omega)]
      simp
    · have e : decide ((∀ t' ∈ t :: r, taskOk t' ∧ needsOk g.length t'.f1) ∧ g.length ≤ 8) = false := by
        rw [decide_eq_false_iff_not]
        exact fun h => hy (h.1 t List.mem_cons_self)
      rw [e]
      rw [decide_eq_false hy] at hv
      refine (hv.bind (g := fun k b => if b = true then spec_tasksFine.l0 k g ((pre ++ [t]).length : Int) else some false) ((Ev.const false).of fun k => if_neg (by simp))).of fun k => ?_
      rw [spec_tasksFine.l0, if_pos (by omega), if_pos (by omega), hrd, w64s (by omega)]
      simp
def fineD (g : List Tk) : Prop := (∀ t ∈ g, taskOk t ∧ needsOk g.length t.f1) ∧ g.length ≤ 8
instance (g : List Tk) : Decidable (fineD g) := by unfold fineD; infer_instance
theorem ev_tasksFine {g : List Tk} (hg : Fits g) : Ev (fun k => spec_tasksFine.f k g) (decide (fineD g)) := ev_tasksFine_from g hg g [] rfl
end Go.Proofs.YtffhdofcfkgoaaaDoor.Core

/- The reference's order of a graph and the program's are the same; graphs are valid to both or to none. -/
namespace Go.Proofs.YtffhdofcfkgoaaaDoor.Core
open Go Go.RowKit Go.Proofs.YtffhdofcfkgoaaaDoorW.PrintWords Go.Proofs.YtffhdofcfkgoaaaDoorW.PrintMore Go.Proofs.YtffhdofcfkgoaaaDoor.P
theorem asc_lt : ∀ {r : List Int} {x : Int}, ascD (x :: r) = true → ascD r = true ∧ ∀ y ∈ r, x < y
  | [], x, _ => ⟨rfl, by simp⟩
  | y :: r, x, h => by
    simp only [ascD, Bool.and_eq_true, decide_eq_true_eq] at h
    have h2 := asc_lt h.2
    refine ⟨h.2, fun z hz => ?_⟩
    rcases List.mem_cons.1 hz with rfl | hz
    · exact h.1
    · have := h2.2 z hz; omega
theorem asc_mk {r : List Int} {x : Int} (h : ascD r = true) (h2 : ∀ y ∈ r, x < y) : ascD (x :: r) = true := by
  cases r with
  | nil => rfl
  | cons y r => simp [ascD, h, h2 y List.mem_cons_self]
theorem setGo_some {n : Nat} : ∀ {r : List Int} {s : Nat} {last : Int} {t : Nat}, -1 ≤ last → setGo n r s last = some t → (∀ x ∈ r, last + 1 ≤ x ∧ x ≤ (n : Int) - 1) ∧ ascD r = true ∧ ∀ i : Nat, t.testBit i = (s.testBit i || decide ((i : Int) ∈ r))
  | [], s, last, t, hl, h => by
    rw [setGo] at h
    cases h
    exact ⟨by simp, rfl, by simp⟩
  | x :: r, s, last, t, hl, h => by
    rw [setGo] at h
    by_cases hx : last + 1 ≤ x ∧ x ≤ (n : Int) - 1
    · rw [if_pos hx] at h
      obtain ⟨h1, h2, h3⟩ := setGo_some (by omega) h
      refine ⟨fun y hy => ?_, asc_mk h2 (fun y hy => by have := h1 y hy; omega), fun i => ?_⟩
      · rcases List.mem_cons.1 hy with rfl | hy
        · exact hx
        · have := h1 y hy; omega
      · rw [h3, or_bit]
        have : decide (x.toNat = i) = decide ((i : Int) = x) := by rw [decide_eq_decide]; omega
        rw [this]
        by_cases e : (i : Int) = x
        · simp [e]
        · simp [e]
    · rw [if_neg hx] at h; cases h
theorem setGo_ok {n : Nat} : ∀ {r : List Int} (s : Nat) {last : Int}, (∀ x ∈ r, last + 1 ≤ x ∧ x ≤ (n : Int) - 1) → ascD r = true → ∃ t, setGo n r s last = some t
  | [], s, last, _, _ => ⟨s, rfl⟩
  | x :: r, s, last, h, ha => by
    have h2 := asc_lt ha
    have hx := h x List.mem_cons_self
    rw [setGo, if_pos hx]
    exact setGo_ok _ (fun y hy => ⟨by have := h2.2 y hy; omega, (h y (List.mem_cons_of_mem _ hy)).2⟩) h2.1
theorem setD_some {n : Nat} {l : List Int} {t : Nat} (h : setD n l = some t) : needsOk n l ∧ ∀ i : Nat, t.testBit i = decide ((i : Int) ∈ l) := by
  obtain ⟨h1, h2, h3⟩ := setGo_some (by omega) h
  exact ⟨⟨fun x hx => by have := h1 x hx; omega, h2⟩, fun i => by rw [h3]; simp⟩
theorem setD_ok {n : Nat} {l : List Int} (h : needsOk n l) : ∃ t, setD n l = some t := setGo_ok 0 (fun x hx => by have := h.1 x hx; omega) h.2
theorem setD_none {n : Nat} {l : List Int} (h : setD n l = none) : ¬needsOk n l := fun h2 => by
  obtain ⟨t, ht⟩ := setD_ok h2
  rw [h] at ht
  cases ht
theorem needsGo_ok {n : Nat} : ∀ {r : List Tk}, (∀ t ∈ r, taskOk t ∧ needsOk n t.f1) → ∃ N, needsGo n r = some N
  | [], _ => ⟨[], rfl⟩
  | t :: r, h => by
    obtain ⟨s, hs⟩ := setD_ok (h t List.mem_cons_self).2
    obtain ⟨N, hN⟩ := needsGo_ok (fun t' ht => h t' (List.mem_cons_of_mem _ ht))
    rw [needsGo, hs]
    simp only [(h t List.mem_cons_self).1, if_true, hN]
    exact ⟨_, rfl⟩
theorem needsGo_fine {n : Nat} : ∀ {r : List Tk} {N : List Nat}, needsGo n r = some N → (∀ t ∈ r, taskOk t ∧ needsOk n t.f1) ∧ ∀ i, i < r.length → ∀ j : Nat, (N.getD i 0).testBit j = decide ((j : Int) ∈ (r.getD i z33).f1)
  | [], N, h => ⟨by simp, by intro i hi; simp at hi⟩
  | t :: r, N, h => by
    rw [needsGo] at h
    cases he : setD n t.f1 with
    | none => rw [he] at h; cases h
    | some s =>
      rw [he] at h
      by_cases hok : taskOk t
      · simp only [hok, if_true] at h
        cases hg : needsGo n r with
        | none => rw [hg] at h; cases h
        | some M =>
          rw [hg] at h
          cases h
          have ih := needsGo_fine hg
          have hs := setD_some he
          refine ⟨fun t' ht => ?_, fun i hi j => ?_⟩
          · rcases List.mem_cons.1 ht with rfl | ht
            · exact ⟨hok, hs.1⟩
            · exact ih.1 t' ht
          · cases i with
            | zero => simpa using hs.2 j
            | succ i => simpa using ih.2 i (by simpa using hi) j
      · simp [hok] at h
theorem needsD_fine {g : List Tk} {N : List Nat} (h : needsD g = some N) : fineD g ∧ ∀ i, i < g.length → ∀ j : Nat, (N.getD i 0).testBit j = decide ((j : Int) ∈ (g.getD i z33).f1) := by
  have h8 := (needsD_spec h).1
  unfold needsD at h
  rw [if_pos h8] at h
  have := needsGo_fine h
  exact ⟨⟨this.1, h8⟩, this.2⟩
theorem fineD_needs {g : List Tk} (h : fineD g) : ∃ N, needsD g = some N := by
  unfold needsD
  rw [if_pos h.2]
  exact needsGo_ok h.1
theorem sub_zero {a b : Nat} (ha : a < 256) (hb : b < 256) : sub a b = 0 ↔ ∀ j, a.testBit j = true → b.testBit j = true := by
  constructor
  · intro h j hj
    have := sub_testBit (i := j) ha hb
    rw [h, hj] at this
    simpa using this
  · intro h
    apply Nat.eq_of_testBit_eq
    intro j
    rw [sub_testBit ha hb, Nat.zero_testBit]
    cases e : a.testBit j
    · rfl
    · rw [h j e]; rfl
theorem mem_up {L : List Nat} {i : Nat} : (i : Int) ∈ up L ↔ i ∈ L := by
  unfold up
  rw [List.mem_map]
  constructor
  · rintro ⟨a, ha, e⟩
    have : a = i := Int.ofNat.inj e
    exact this ▸ ha
  · intro h
    exact ⟨i, h, rfl⟩
/-- All needs of a task are among some, said both ways. -/
theorem done_iff {g : List Tk} {N : List Nat} (hN : needsD g = some N) {L : List Nat} {d : Nat} (hd : d < 256) (hs : ∀ i, d.testBit i = true ↔ i ∈ L) {i : Nat} (hi : i < g.length) : (∀ x ∈ (g.getD i z33).f1, x ∈ up L) ↔ sub (N.getD i 0) d = 0 := by
  obtain ⟨h8, hl, hb⟩ := needsD_spec hN
  obtain ⟨hf, hbit⟩ := needsD_fine hN
  rw [sub_zero (Nat.lt_of_lt_of_le (getD_lt hb i) (pow8 h8)) hd]
  constructor
  · intro h j hj
    rw [hbit i hi j, decide_eq_true_eq] at hj
    exact (hs j).2 (mem_up.1 (h _ hj))
  · intro h x hx
    have hmem : g.getD i z33 ∈ g := by
      rw [List.getD_eq_getElem?_getD, List.getElem?_eq_getElem hi]
      exact List.getElem_mem hi
    have h0 := (hf.1 _ hmem).2.1 x hx
    obtain ⟨j, rfl⟩ : ∃ j : Nat, x = (j : Int) := ⟨x.toNat, by omega⟩
    refine mem_up.2 ((hs j).1 (h j ?_))
    rw [hbit i hi j, decide_eq_true_eq]
    exact hx
theorem rdT_nat (g : List Tk) (i : Nat) : rd_T33 g (i : Int) = g.getD i z33 := by simp [rd_T33]
theorem getD_mem {g : List Tk} {i : Nat} (hi : i < g.length) : g.getD i z33 ∈ g := by
  rw [List.getD_eq_getElem?_getD, List.getElem?_eq_getElem hi]
  exact List.getElem_mem hi
theorem ev_top_found {g : List Tk} (hg : Fits g) (L : List Nat) (hL : L.length ≤ 100) (j : Nat) (i : Int) (R : List Int) (h : Ev (fun k => spec_topOrder.l0 k g (up (L ++ [j]))) R) : Ev (fun k => spec_topOrder.l1 k g (up L) (j : Int) i) R := by
  have e : up (L ++ [j]) = up L ++ [(j : Int)] := by simp [up]
  have h2 : Ev (fun k => spec_topOrder.j2 k g (up L) (j : Int) i false) R := by
    refine Ev.succ (h.of fun k => ?_)
    rw [spec_topOrder.j2, if_neg (by simp), if_neg (by omega), if_pos (by rw [up_length]; omega), e]
  refine Ev.succ (h2.of fun k => ?_)
  rw [spec_topOrder.l1, show decide ((j : Int) < 0) = false by simp]
  split <;> rfl
theorem ev_top_scan {g : List Tk} (hg : Fits g) {N : List Nat} (hN : needsD g = some N) (L : List Nat) (d : Nat) (hL : L.length ≤ 100) (hd : d < 256) (hs : ∀ i, d.testBit i = true ↔ i ∈ L) (R : Option Nat → List Int) (hR : R none = up L) : ∀ (m i : Nat), i + m = g.length →
    (∀ j, nextFrom N d i m = some j → Ev (fun k => spec_topOrder.l0 k g (up (L ++ [j]))) (R (some j))) → Ev (fun k => spec_topOrder.l1 k g (up L) (-1) (i : Int)) (R (nextFrom N d i m))
  | 0, i, hi, ho => by
    rw [nextFrom, hR]
    refine Ev.succ ?_
    have h2 : Ev (fun k => spec_topOrder.j2 k g (up L) (-1) (i : Int) false) (up L) := by
      refine Ev.succ ((Ev.const _).of fun k => ?_)
      rw [spec_topOrder.j2, if_neg (by simp), if_pos (by omega)]
    refine h2.of fun k => ?_
    rw [spec_topOrder.l1, if_neg (by omega)]
  | m + 1, i, hi, ho => by
    have hig : i < g.length := by omega
    have h8 := (needsD_spec hN).1
    have hin := ev_isIn (L := up L) (by rw [up_length]; unfold big; omega) (i : Int)
    have hdn := ev_allDone (L := (g.getD i z33).f1) (M := up L) (hg.2 _ (getD_mem hig)) (by rw [up_length]; unfold big; omega)
    have e1 : decide ((i : Int) ∈ up L) = d.testBit i := by
      rw [Bool.eq_iff_iff, decide_eq_true_eq, mem_up, hs]
    have e2 : decide (∀ x ∈ (g.getD i z33).f1, x ∈ up L) = decide (sub (N.getD i 0) d = 0) := by
      rw [decide_eq_decide]; exact done_iff hN hd hs hig
    rw [e1] at hin
    rw [e2] at hdn
    have hw : wrap64 ((i : Int) + 1) = ((i + 1 : Nat) : Int) := w64s (by unfold big; omega)
    refine Ev.succ ?_
    have hj2 : Ev (fun k => spec_topOrder.j2 k g (up L) (-1) (i : Int) true) (R (nextFrom N d i (m + 1))) := by
      refine Ev.succ ?_
      have hu : ∀ k, spec_topOrder.j2 (k + 1) g (up L) (-1) (i : Int) true = (spec_isIn.f k (up L) (i : Int)).bind fun t126 => (if t126 = true then (spec_topOrder.l1 k g (up L) (-1) ((i + 1 : Nat) : Int)) else ((spec_allDone.f k (g.getD i z33).f1 (up L)).bind fun t128 => (if t128 = true then (spec_topOrder.l1 k g (up L) (i : Int) ((i + 1 : Nat) : Int)) else (spec_topOrder.l1 k g (up L) (-1) ((i + 1 : Nat) : Int))))) := by
        intro k
        rw [spec_topOrder.j2, if_pos rfl, hw, if_pos (show 0 ≤ (i : Int) by omega), if_pos (show (i : Int) < (g.length : Int) by omega), rdT_nat]
      refine Ev.of ?_ hu
      refine hin.bind (g := fun k t126 => (if t126 = true then (spec_topOrder.l1 k g (up L) (-1) ((i + 1 : Nat) : Int)) else ((spec_allDone.f k (g.getD i z33).f1 (up L)).bind fun t128 => (if t128 = true then (spec_topOrder.l1 k g (up L) (i : Int) ((i + 1 : Nat) : Int)) else (spec_topOrder.l1 k g (up L) (-1) ((i + 1 : Nat) : Int)))))) ?_
      cases hbit : d.testBit i with
      | true =>
        have hg2 : nextFrom N d i (m + 1) = nextFrom N d (i + 1) m := by rw [nextFrom, if_neg (by simp [hbit])]
        rw [hg2] at ho ⊢
        exact (ev_top_scan hg hN L d hL hd hs R hR m (i + 1) (by omega) ho).of fun k => if_pos rfl
      | false =>
        by_cases hz : sub (N.getD i 0) d = 0
        · have hg2 : nextFrom N d i (m + 1) = some i := by rw [nextFrom, if_pos ⟨hbit, hz⟩]
          rw [hg2]
          rw [decide_eq_true hz] at hdn
          have hf := ev_top_found hg L hL i ((i + 1 : Nat) : Int) _ (ho i hg2)
          refine (hdn.bind (g := fun k t128 => if t128 = true then (spec_topOrder.l1 k g (up L) (i : Int) ((i + 1 : Nat) : Int)) else (spec_topOrder.l1 k g (up L) (-1) ((i + 1 : Nat) : Int))) (hf.of fun k => if_pos rfl)).of fun k => ?_
          rw [if_neg (by simp)]
        · have hg2 : nextFrom N d i (m + 1) = nextFrom N d (i + 1) m := by rw [nextFrom, if_neg (fun h => hz h.2)]
          rw [hg2] at ho ⊢
          rw [decide_eq_false hz] at hdn
          have ih := ev_top_scan hg hN L d hL hd hs R hR m (i + 1) (by omega) ho
          refine (hdn.bind (g := fun k t128 => if t128 = true then (spec_topOrder.l1 k g (up L) (i : Int) ((i + 1 : Nat) : Int)) else (spec_topOrder.l1 k g (up L) (-1) ((i + 1 : Nat) : Int))) (ih.of fun k => if_neg (by simp))).of fun k => ?_
          rw [if_neg (by simp)]
    refine hj2.of fun k => ?_
    rw [spec_topOrder.l1, if_pos (by omega)]
    rfl
theorem orderGo_none {N : List Nat} {d : Nat} (h : nextD N d = none) : ∀ (m : Nat) (L : List Nat), orderGo N m L d = (L, d)
  | 0, L => rfl
  | m + 1, L => by rw [orderGo, h]; exact orderGo_none h m L
theorem next_zb {N : List Nat} {d j : Nat} (h : nextD N d = some j) : zb N.length (d ||| 2 ^ j) < zb N.length d := by
  have := nextD_spec h
  exact zb_lt this.2.1 this.1
theorem ev_top_go {g : List Tk} (hg : Fits g) {N : List Nat} (hN : needsD g = some N) : ∀ (m : Nat) (L : List Nat) (d : Nat), OrdOk N L d → zb N.length d ≤ m → Ev (fun k => spec_topOrder.l0 k g (up L)) (up (orderGo N m L d).1) := by
  obtain ⟨h8, hl, hb⟩ := needsD_spec hN
  have hb' : below1 N.length N := by rw [hl]; exact hb
  intro m
  induction m with
  | zero =>
    intro L d ok hz
    have hlt := Nat.lt_of_lt_of_le ok.dlt (pow8 (n := N.length) (by omega))
    have hnone : nextD N d = none := by
      cases h : nextD N d with
      | none => rfl
      | some j => have := next_zb h; omega
    have h := ev_top_scan hg hN L d (by have := ok.len; omega) hlt ok.set (fun _ => up L) rfl g.length 0 (by omega) (fun j hj => by
      have : nextD N d = some j := by unfold nextD; rw [hl]; exact hj
      rw [hnone] at this; cases this)
    refine Ev.succ (h.of fun k => ?_)
    rw [spec_topOrder.l0]
    rfl
  | succ m ih =>
    intro L d ok hz
    have hlt := Nat.lt_of_lt_of_le ok.dlt (pow8 (n := N.length) (by omega))
    have h := ev_top_scan hg hN L d (by have := ok.len; omega) hlt ok.set (fun o => match o with | some i => up (orderGo N m (L ++ [i]) (d ||| 2 ^ i)).1 | none => up L) rfl g.length 0 (by omega) (fun j hj => by
      have hj2 : nextD N d = some j := by unfold nextD; rw [hl]; exact hj
      have hsp := nextD_spec hj2
      have := next_zb hj2
      exact ih (L ++ [j]) (d ||| 2 ^ j) (ok.step (by omega) hb' hsp.1 hsp.2.1 hsp.2.2) (by omega))
    have e : (match nextFrom N d 0 g.length with | some i => up (orderGo N m (L ++ [i]) (d ||| 2 ^ i)).1 | none => up L) = up (orderGo N (m + 1) L d).1 := by
      rw [orderGo]
      have e2 : nextD N d = nextFrom N d 0 g.length := by unfold nextD; rw [hl]
      rw [e2]
      cases hx : nextFrom N d 0 g.length with
      | none => simp only []; rw [orderGo_none (by rw [e2]; exact hx)]
      | some i => rfl
    rw [← e]
    refine Ev.succ (h.of fun k => ?_)
    rw [spec_topOrder.l0]
    rfl
theorem ordOk_nil (N : List Nat) : OrdOk N [] 0 := ⟨by simp, by simp, Nat.two_pow_pos _, by simp, by rw [zb_zero]; simp, by simp⟩
theorem ev_topOrder {g : List Tk} (hg : Fits g) {N : List Nat} (hN : needsD g = some N) : Ev (fun k => spec_topOrder.f k g) (up (orderD N).1) :=
  ev_top_go hg hN N.length [] 0 (ordOk_nil N) (by rw [zb_zero]; exact Nat.le_refl _)
theorem zb_zero_full {n : Nat} : ∀ {m d : Nat}, zb m d = 0 → ∀ i, i < m → d.testBit i = true
  | 0, d, _, i, h => by omega
  | m + 1, d, h, i, hi => by
    simp only [zb] at h
    by_cases e : i = m
    · subst e
      cases hb : d.testBit i
      · simp [hb] at h
      · rfl
    · exact zb_zero_full (n := n) (m := m) (by omega) i (by omega)
theorem full_iff {N L : List Nat} {d : Nat} (ok : OrdOk N L d) : d = 2 ^ N.length - 1 ↔ L.length = N.length := by
  constructor
  · intro h
    have := ok.len
    rw [h, zb_full _ _ (Nat.le_refl _)] at this
    exact this
  · intro h
    have hz : zb N.length d = 0 := by have := ok.len; omega
    apply Nat.eq_of_testBit_eq
    intro i
    rw [Nat.testBit_two_pow_sub_one]
    by_cases hi : i < N.length
    · rw [zb_zero_full (n := 0) hz i hi]; simp [hi]
    · cases hb : d.testBit i
      · simp [hi]
      · exact absurd (ok.lt i ((ok.set i).1 hb)) hi
theorem ev_validGraph {g : List Tk} (hg : Fits g) : Ev (fun k => spec_validGraph.f k g) (graphD g).isSome := by
  have hf := ev_tasksFine hg
  unfold graphD
  by_cases h : fineD g
  · obtain ⟨N, hN⟩ := fineD_needs h
    obtain ⟨h8, hl, hb⟩ := needsD_spec hN
    rw [decide_eq_true h] at hf
    have ht := ev_topOrder hg hN
    have ok := orderD_ok (N := N) (by omega) (by rw [hl]; exact hb)
    have hfull := full_iff ok
    rw [hN]
    simp only []
    refine (hf.bind (g := fun k b => if b = true then ((spec_topOrder.f k g).bind fun t130 => (some ((t130.length : Int) == (g.length : Int)))) else some false) ?_).of fun k => rfl
    refine (ht.bind (g := fun k t130 => some ((t130.length : Int) == (g.length : Int))) (b := (if (orderD N).2 = 2 ^ g.length - 1 then some (mkG g N) else none).isSome) ((Ev.const _).of fun k => ?_)).of fun k => if_pos rfl
    rw [up_length]
    congr 1
    by_cases hd : (orderD N).2 = 2 ^ g.length - 1
    · rw [if_pos hd]
      have := hfull.1 (by rw [hl]; exact hd)
      simp [this, hl]
    · rw [if_neg hd]
      have : (orderD N).1.length ≠ g.length := fun e => hd (by rw [← hl]; exact hfull.2 (by omega))
      simp [this]
      omega
  · rw [decide_eq_false h] at hf
    have hn : needsD g = none := by
      cases e : needsD g with
      | none => rfl
      | some N => exact absurd (needsD_fine e).1 h
    rw [hn]
    refine (hf.bind (g := fun k b => if b = true then ((spec_topOrder.f k g).bind fun t130 => (some ((t130.length : Int) == (g.length : Int)))) else some false) ((Ev.const false).of fun k => if_neg (by simp))).of fun k => rfl
end Go.Proofs.YtffhdofcfkgoaaaDoor.Core

/- The reference counts orders as the program does. -/
namespace Go.Proofs.YtffhdofcfkgoaaaDoor.Core
open Go Go.RowKit Go.Proofs.YtffhdofcfkgoaaaDoorW.PrintWords Go.Proofs.YtffhdofcfkgoaaaDoorW.PrintMore Go.Proofs.YtffhdofcfkgoaaaDoor.P
/-- Whether a task can come next. -/
def canNext (N : List Nat) (d i : Nat) : Bool := !d.testBit i && decide (sub (N.getD i 0) d = 0)
def ordersL (N : List Nat) : Nat → List Nat → Nat → List (List Int)
  | 0, _, _ => []
  | k + 1, L, d => if L.length = N.length then [up L] else ((List.range N.length).filter (canNext N d)).flatMap fun i => ordersL N k (L ++ [i]) (d ||| 2 ^ i)
theorem flat_le {α β : Type} {f : α → List β} {b : Nat} (h : ∀ x, (f x).length ≤ b) : ∀ l : List α, (l.flatMap f).length ≤ l.length * b
  | [] => by simp
  | x :: l => by
    have := flat_le h l
    have := h x
    simp only [List.flatMap_cons, List.length_append, List.length_cons, Nat.add_mul, Nat.one_mul]
    omega
theorem ordersL_le {N : List Nat} (hn : N.length ≤ 8) : ∀ k L d, (ordersL N k L d).length ≤ 8 ^ k
  | 0, L, d => by simp [ordersL]
  | k + 1, L, d => by
    unfold ordersL
    split
    · exact Nat.one_le_pow _ _ (by omega)
    · refine Nat.le_trans (flat_le (fun i => ordersL_le hn k (L ++ [i]) (d ||| 2 ^ i)) _) ?_
      rw [Nat.pow_succ, Nat.mul_comm]
      refine Nat.mul_le_mul_left _ (Nat.le_trans (List.length_filter_le _ _) ?_)
      simpa using hn
theorem ev_ord_scan {g : List Tk} (hg : Fits g) {N : List Nat} (hN : needsD g = some N) (L : List Nat) (d : Nat) (hL : L.length ≤ 100) (hd : d < 256) (hs : ∀ i, d.testBit i = true ↔ i ∈ L) (kk : Nat) (hk : kk ≤ 9) (F : Nat → List (List Int)) (hF : ∀ i, (F i).length ≤ 8 ^ kk)
    (ho : ∀ j, j < g.length → canNext N d j = true → Ev (fun k => spec_orders.f k g (up (L ++ [j]))) (F j)) : ∀ (m i : Nat) (acc : List (List Int)), i + m = g.length → acc.length ≤ i * 8 ^ kk →
    Ev (fun k => spec_orders.l0 k g (up L) acc (i : Int)) (acc ++ ((List.range' i m).filter (canNext N d)).flatMap F)
  | 0, i, acc, hi, ha => by
    refine Ev.succ ((Ev.const _).of fun k => ?_)
    rw [spec_orders.l0, if_neg (by omega)]
    simp
  | m + 1, i, acc, hi, ha => by
    have hig : i < g.length := by omega
    have h8 := (needsD_spec hN).1
    have hpow : 8 ^ kk ≤ 8 ^ 9 := Nat.pow_le_pow_right (by omega) hk
    have h89 : (8 : Nat) ^ 9 = 134217728 := by decide
    have hi8 : i * 8 ^ kk ≤ 8 * 134217728 := by
      refine Nat.mul_le_mul (by omega) ?_
      rw [← h89]; exact hpow
    have hin := ev_isIn (L := up L) (by rw [up_length]; unfold big; omega) (i : Int)
    have hdn := ev_allDone (L := (g.getD i z33).f1) (M := up L) (hg.2 _ (getD_mem hig)) (by rw [up_length]; unfold big; omega)
    have e1 : decide ((i : Int) ∈ up L) = d.testBit i := by rw [Bool.eq_iff_iff, decide_eq_true_eq, mem_up, hs]
    have e2 : decide (∀ x ∈ (g.getD i z33).f1, x ∈ up L) = decide (sub (N.getD i 0) d = 0) := by rw [decide_eq_decide]; exact done_iff hN hd hs hig
    rw [e1] at hin
    rw [e2] at hdn
    have hw : wrap64 ((i : Int) + 1) = ((i + 1 : Nat) : Int) := w64s (by unfold big; omega)
    have e3 : up (L ++ [i]) = up L ++ [(i : Int)] := by simp [up]
    have hno : canNext N d i = false → Ev (fun k => spec_orders.j1 k g (up L) acc (i : Int) false) (acc ++ ((List.range' i (m + 1)).filter (canNext N d)).flatMap F) := by
      intro hc
      have ih := ev_ord_scan hg hN L d hL hd hs kk hk F hF ho m (i + 1) acc (by omega) (Nat.le_trans ha (Nat.mul_le_mul_right _ (by omega)))
      rw [List.range'_succ, List.filter_cons, hc]
      refine Ev.succ (ih.of fun k => ?_)
      rw [spec_orders.j1, if_neg (by simp), hw]
    have hyes : canNext N d i = true → Ev (fun k => spec_orders.j1 k g (up L) acc (i : Int) true) (acc ++ ((List.range' i (m + 1)).filter (canNext N d)).flatMap F) := by
      intro hc
      have hFi := hF i
      have ih := ev_ord_scan hg hN L d hL hd hs kk hk F hF ho m (i + 1) (acc ++ F i) (by omega) (by rw [List.length_append, Nat.add_mul, Nat.one_mul]; omega)
      have hf := ho i hig hc
      have e4 : acc ++ ((List.range' i (m + 1)).filter (canNext N d)).flatMap F = (acc ++ F i) ++ ((List.range' (i + 1) m).filter (canNext N d)).flatMap F := by
        rw [List.range'_succ, List.filter_cons, hc]
        simp
      rw [e4]
      refine Ev.succ ?_
      refine (hf.bind (g := fun k t157 => if acc.length + t157.length < 5864062014805 then spec_orders.l0 k g (up L) (acc ++ t157) ((i + 1 : Nat) : Int) else none) (ih.of fun k => if_pos (by omega))).of fun k => ?_
      rw [spec_orders.j1, if_pos rfl, copyInts_eq (by rw [up_length]; unfold big; omega) (by rw [up_length]; omega), Option.bind_some, if_pos (by rw [up_length]; omega), hw, e3]
    refine Ev.succ ?_
    have hu : ∀ k, spec_orders.l0 (k + 1) g (up L) acc (i : Int) = (spec_isIn.f k (up L) (i : Int)).bind fun t148 => (if t148 = true then (spec_orders.j1 k g (up L) acc (i : Int) false) else ((spec_allDone.f k (g.getD i z33).f1 (up L)).bind fun t150 => (spec_orders.j1 k g (up L) acc (i : Int) t150))) := by
      intro k
      rw [spec_orders.l0, if_pos (show (i : Int) < (g.length : Int) by omega), if_pos (show 0 ≤ (i : Int) by omega), rdT_nat]
    refine Ev.of ?_ hu
    refine hin.bind (g := fun k t148 => (if t148 = true then (spec_orders.j1 k g (up L) acc (i : Int) false) else ((spec_allDone.f k (g.getD i z33).f1 (up L)).bind fun t150 => (spec_orders.j1 k g (up L) acc (i : Int) t150)))) ?_
    cases hbit : d.testBit i with
    | true => exact (hno (by simp [canNext, hbit])).of fun k => if_pos rfl
    | false =>
      by_cases hz : sub (N.getD i 0) d = 0
      · rw [decide_eq_true hz] at hdn
        refine (hdn.bind (g := fun k t150 => spec_orders.j1 k g (up L) acc (i : Int) t150) (hyes (by unfold canNext; rw [hbit, decide_eq_true hz]; rfl))).of fun k => ?_
        rw [if_neg (by simp)]
      · rw [decide_eq_false hz] at hdn
        refine (hdn.bind (g := fun k t150 => spec_orders.j1 k g (up L) acc (i : Int) t150) (hno (by unfold canNext; rw [decide_eq_false hz, Bool.and_false]))).of fun k => ?_
        rw [if_neg (by simp)]
theorem ev_orders {g : List Tk} (hg : Fits g) {N : List Nat} (hN : needsD g = some N) : ∀ (m : Nat), m ≤ 9 → ∀ (L : List Nat) (d : Nat), OrdOk N L d → zb N.length d < m → Ev (fun k => spec_orders.f k g (up L)) (ordersL N m L d) := by
  obtain ⟨h8, hl, hb⟩ := needsD_spec hN
  have hb' : below1 N.length N := by rw [hl]; exact hb
  intro m
  induction m with
  | zero => intro _ L d _ h; omega
  | succ m ih =>
    intro hm L d ok hz
    have hlen := ok.len
    have hlt := Nat.lt_of_lt_of_le ok.dlt (pow8 (n := N.length) (by omega))
    unfold ordersL
    by_cases hfull : L.length = N.length
    · rw [if_pos hfull]
      refine Ev.succ ((Ev.const _).of fun k => ?_)
      rw [spec_orders.f, if_pos (by rw [up_length]; omega), copyInts_eq (by rw [up_length]; unfold big; omega) (by rw [up_length]; omega)]
      rfl
    · rw [if_neg hfull]
      have h := ev_ord_scan hg hN L d (by omega) hlt ok.set m (by omega) (fun i => ordersL N m (L ++ [i]) (d ||| 2 ^ i)) (fun i => ordersL_le (by omega) _ _ _) (fun j hj hc => by
        have hc2 : d.testBit j = false ∧ sub (N.getD j 0) d = 0 := by simpa [canNext] using hc
        have hlt2 := zb_lt hc2.1 (n := N.length) (by omega)
        exact ih (by omega) (L ++ [j]) (d ||| 2 ^ j) (ok.step (by omega) hb' (by omega) hc2.1 hc2.2) (by omega)) g.length 0 [] (by omega) (by simp)
      refine Ev.succ (Ev.of (f := fun k => spec_orders.l0 k g (up L) [] ((0 : Nat) : Int)) ?_ fun k => ?_)
      · rw [List.nil_append, ← List.range_eq_range'] at h
        rw [hl]
        exact h
      · rw [spec_orders.f, if_neg (by rw [up_length]; omega)]
        rfl
theorem elemsN_ready {G : GD} (h8 : G.needs.length ≤ 8) (d : Nat) : elemsN (G.ready d) = (List.range G.needs.length).filter (canNext G.needs d) := by
  have e8 : List.range 8 = List.range G.needs.length ++ (List.range (8 - G.needs.length)).map (G.needs.length + ·) := by
    rw [← List.range_add]; congr 1; omega
  unfold elemsN
  rw [e8, List.filter_append]
  have e2 : ((List.range (8 - G.needs.length)).map (G.needs.length + ·)).filter (fun i => (G.ready d).testBit i) = [] := by
    rw [List.filter_eq_nil_iff]
    intro x hx hb
    obtain ⟨y, _, rfl⟩ := List.mem_map.1 hx
    have := (readyTo_bit _ _ _ _ hb).1
    omega
  rw [e2, List.append_nil]
  refine List.filter_congr fun i hi => ?_
  have hi := List.mem_range.1 hi
  rw [Bool.eq_iff_iff]
  constructor
  · intro h
    have := readyTo_bit _ _ _ _ h
    have h1 := this.2.1
    have h2 := this.2.2
    simp only [canNext, Bool.and_eq_true, Bool.not_eq_true', decide_eq_true_eq]
    exact ⟨h1, h2⟩
  · intro h
    have h2 : d.testBit i = false ∧ sub (G.needs.getD i 0) d = 0 := by simpa [canNext] using h
    exact readyTo_bit' _ _ _ _ hi h2.1 h2.2
theorem ordersL_length {g : List Tk} {N : List Nat} (hN : needsD g = some N) : ∀ (m : Nat) (L : List Nat) (d : Nat), OrdOk N L d → (ordersL N m L d).length = ordersF (mkG g N) m d := by
  obtain ⟨h8, hl, hb⟩ := needsD_spec hN
  have hb' : below1 N.length N := by rw [hl]; exact hb
  intro m
  induction m with
  | zero => intro L d _; rfl
  | succ m ih =>
    intro L d ok
    have hfull := full_iff ok
    rw [hl] at hfull
    unfold ordersL ordersF
    rw [hl]
    by_cases h : L.length = g.length
    · rw [if_pos h, if_pos (show d = 2 ^ (mkG g N).tasks.length - 1 from hfull.2 h)]
      rfl
    · rw [if_neg h, if_neg (show ¬d = 2 ^ (mkG g N).tasks.length - 1 from fun e => h (hfull.1 e)), elemsN_ready (G := mkG g N) (by show N.length ≤ 8; omega), show (mkG g N).needs = N from rfl, hl, List.length_flatMap]
      congr 1
      refine List.map_congr_left fun i hi => ?_
      obtain ⟨h1, h2⟩ := List.mem_filter.1 hi
      have hc2 : d.testBit i = false ∧ sub (N.getD i 0) d = 0 := by simpa [canNext] using h2
      have hi2 := List.mem_range.1 h1
      exact ih _ _ (ok.step (by omega) hb' (by omega) hc2.1 hc2.2)
theorem ev_CountOrders {g : List Tk} (hg : Fits g) : Ev (fun k => spec_CountOrders.f k g) (countD g) := by
  have hv := ev_validGraph hg
  unfold countD
  cases hG : graphD g with
  | none =>
    rw [hG] at hv
    refine (hv.bind (g := fun k b => if b = true then (if (g.length : Int) > 5 then (some (-1)) else ((spec_orders.f k g (([] : List Int))).bind fun t167 => (some (t167.length : Int)))) else (some (-1))) ((Ev.const _).of fun k => if_neg (by simp))).of fun k => rfl
  | some G =>
    rw [hG] at hv
    obtain ⟨N, hN, _, rfl⟩ := graphD_spec hG
    obtain ⟨h8, hl, hb⟩ := needsD_spec hN
    simp only []
    refine (hv.bind (g := fun k b => if b = true then (if (g.length : Int) > 5 then (some (-1)) else ((spec_orders.f k g (([] : List Int))).bind fun t167 => (some (t167.length : Int)))) else (some (-1))) ?_).of fun k => rfl
    by_cases h5 : g.length > 5
    · rw [if_pos h5]
      refine (Ev.const _).of fun k => ?_
      rw [if_pos (show (some (mkG g N)).isSome = true from rfl), if_pos (by omega)]
    · rw [if_neg h5]
      have ho := ev_orders hg hN 9 (by omega) [] 0 (ordOk_nil N) (by rw [zb_zero]; omega)
      have hc := ordersL_length hN 9 [] 0 (ordOk_nil N)
      rw [← hc]
      refine (ho.bind (g := fun k t167 => some (t167.length : Int)) (Ev.const _)).of fun k => ?_
      rw [if_pos (show (some (mkG g N)).isSome = true from rfl), if_neg (by omega)]
      rfl
end Go.Proofs.YtffhdofcfkgoaaaDoor.Core
