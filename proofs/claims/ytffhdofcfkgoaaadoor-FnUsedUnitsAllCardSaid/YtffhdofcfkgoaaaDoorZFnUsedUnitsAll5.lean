/- The law FnUsedUnitsAll holds of the given program: part 5: words and contracts that the proof uses. -/
import Derived.Test.YtffhdofcfkgoaaaDoorZFnUsedUnitsAll4
section
set_option linter.unusedVariables false
set_option linter.unusedSimpArgs false
namespace Go.Proofs.YtffhdofcfkgoaaaDoor.Core
open Go Go.RowKit Go.Proofs.YtffhdofcfkgoaaaDoorW.PrintWords Go.Proofs.YtffhdofcfkgoaaaDoorW.PrintMore Go.Proofs.YtffhdofcfkgoaaaDoor.P
abbrev big : Nat := 4611686018427387904
theorem w64s {n : Nat} (h : n < big) : wrap64 ((n : Int) + 1) = ((n + 1 : Nat) : Int) := by rw [w64 (by omega) (by unfold big at h; omega)]; omega
theorem inRange_eq (x a b : Int) : spec_inRange.f x a b = some (decide (a ≤ x ∧ x ≤ b)) := by
  unfold spec_inRange.f
  by_cases h : a ≤ x
  · rw [if_pos h]; simp; omega
  · rw [if_neg h]; simp; omega
theorem copyInts_eq {l : List Int} (h : l.length < big) (h2 : l.length < 17592186044416) : spec_copyInts.f l = some l := by
  unfold spec_copyInts.f
  simp [h2]
theorem ev_isIn_from (L : List Int) (x : Int) (hL : L.length < big) : ∀ (r pre : List Int), L = pre ++ r → Ev (fun k => spec_isIn.l0 k L x (pre.length : Int)) (decide (x ∈ r))
  | [], pre, hp => by
    refine Ev.succ ((Ev.const _).of fun k => ?_)
    rw [List.append_nil] at hp
    subst hp
    rw [spec_isIn.l0, if_neg (by omega)]
    simp
  | y :: r, pre, hp => by
    have hlen : L.length = pre.length + (r.length + 1) := by rw [hp]; simp
    have hrd : rd L (pre.length : Int) = y := by rw [hp]; exact rd_mid rfl
    refine Ev.succ ?_
    by_cases hy : y = x
    · refine (Ev.const _).of fun k => ?_
      rw [spec_isIn.l0, if_pos (by omega), if_pos (by omega), hrd, if_pos hy]
      simp [hy]
    · have ih := ev_isIn_from L x hL r (pre ++ [y]) (by rw [hp]; simp)
      have e : decide (x ∈ y :: r) = decide (x ∈ r) := by
        have : x ≠ y := fun h => hy h.symm
        simp [this]
      rw [e]
      refine ih.of fun k => ?_
      rw [spec_isIn.l0, if_pos (by omega), if_pos (by omega), hrd, if_neg hy, w64s (by omega)]
      simp
theorem ev_isIn {L : List Int} (hL : L.length < big) (x : Int) : Ev (fun k => spec_isIn.f k L x) (decide (x ∈ L)) := ev_isIn_from L x hL L [] rfl
theorem ev_allIn_from (L : List Int) (a b : Int) (hL : L.length < big) : ∀ (r pre : List Int), L = pre ++ r → Ev (fun k => spec_allIn.l0 k L a b (pre.length : Int)) (decide (∀ x ∈ r, a ≤ x ∧ x ≤ b))
  | [], pre, hp => by
    refine Ev.succ ((Ev.const _).of fun k => ?_)
    rw [List.append_nil] at hp
    subst hp
    rw [spec_allIn.l0, if_neg (by omega)]
    simp
  | y :: r, pre, hp => by
    have hlen : L.length = pre.length + (r.length + 1) := by rw [hp]; simp
    have hrd : rd L (pre.length : Int) = y := by rw [hp]; exact rd_mid rfl
    refine Ev.succ ?_
    by_cases hy : a ≤ y ∧ y ≤ b
    · have ih := ev_allIn_from L a b hL r (pre ++ [y]) (by rw [hp]; simp)
      have e : decide (∀ x ∈ y :: r, a ≤ x ∧ x ≤ b) = decide (∀ x ∈ r, a ≤ x ∧ x ≤ b) := by simp [hy]
      rw [e]
      refine ih.of fun k => ?_
      rw [spec_allIn.l0, if_pos (by omega), if_pos (by omega), hrd, inRange_eq, decide_eq_true hy, Option.bind_some, if_pos rfl, w64s (by omega)]
      simp
    · refine (Ev.const _).of fun k => ?_
      rw [spec_allIn.l0, if_pos (by omega), if_pos (by omega), hrd, inRange_eq, decide_eq_false hy, Option.bind_some, if_neg (by simp)]
      simp only [Option.some.injEq]
      rw [eq_comm, decide_eq_false_iff_not]
      exact fun h => hy (h y List.mem_cons_self)
theorem ev_allIn {L : List Int} (hL : L.length < big) (a b : Int) : Ev (fun k => spec_allIn.f k L a b) (decide (∀ x ∈ L, a ≤ x ∧ x ≤ b)) := ev_allIn_from L a b hL L [] rfl
def ascD : List Int → Bool
  | [] => true
  | [_] => true
  | x :: y :: r => decide (x < y) && ascD (y :: r)
theorem ev_asc_from (L : List Int) (hL : L.length < big) : ∀ (r pre : List Int) (x : Int), L = pre ++ x :: r → Ev (fun k => spec_ascends.l0 k L ((pre.length + 1 : Nat) : Int)) (ascD (x :: r))
  | [], pre, x, hp => by
    have hlen : L.length = pre.length + 1 := by rw [hp]; simp
    refine Ev.succ ((Ev.const _).of fun k => ?_)
    rw [spec_ascends.l0, if_neg (by omega)]
    rfl
  | y :: r, pre, x, hp => by
    have hlen : L.length = pre.length + (r.length + 1 + 1) := by rw [hp]; simp
    have hw : wrap64 (((pre.length + 1 : Nat) : Int) - 1) = (pre.length : Int) := by rw [w64 (by omega) (by unfold big at hL; omega)]; omega
    have hrd : rd L (pre.length : Int) = x := by rw [hp]; exact rd_mid rfl
    have hrd2 : rd L ((pre.length + 1 : Nat) : Int) = y := by
      have : L = (pre ++ [x]) ++ y :: r := by rw [hp]; simp
      rw [this]; exact rd_mid (by simp)
    refine Ev.succ ?_
    by_cases hy : x < y
    · have ih := ev_asc_from L hL r (pre ++ [x]) y (by rw [hp]; simp)
      have e : ascD (x :: y :: r) = ascD (y :: r) := by simp [ascD, hy]
      rw [e]
      refine ih.of fun k => ?_
      rw [spec_ascends.l0, if_pos (by omega), if_pos (by omega), hw, if_pos (by omega), if_pos (by omega), hrd, hrd2, if_neg (by omega), w64s (by omega)]
      simp
    · have e : ascD (x :: y :: r) = false := by simp [ascD, hy]
      rw [e]
      refine (Ev.const _).of fun k => ?_
      rw [spec_ascends.l0, if_pos (by omega), if_pos (by omega), hw, if_pos (by omega), if_pos (by omega), hrd, hrd2, if_pos (by omega)]
theorem ev_ascends {L : List Int} (hL : L.length < big) : Ev (fun k => spec_ascends.f k L) (ascD L) := by
  cases L with
  | nil =>
    refine Ev.of (Ev.succ ((Ev.const true).of (g := fun k => spec_ascends.l0 (k + 1) [] 1) fun k => ?_)) (fun k => rfl)
    rw [spec_ascends.l0, if_neg (by simp)]
  | cons x r => exact ev_asc_from (x :: r) hL r [] x rfl
theorem ev_allDone_from (L M : List Int) (hL : L.length < big) (hM : M.length < big) : ∀ (r pre : List Int), L = pre ++ r → Ev (fun k => spec_allDone.l0 k L M (pre.length : Int)) (decide (∀ x ∈ r, x ∈ M))
  | [], pre, hp => by
    refine Ev.succ ((Ev.const _).of fun k => ?_)
    rw [List.append_nil] at hp
    subst hp
    rw [spec_allDone.l0, if_neg (by omega)]
    simp
  | y :: r, pre, hp => by
    have hlen : L.length = pre.length + (r.length + 1) := by rw [hp]; simp
    have hrd : rd L (pre.length : Int) = y := by rw [hp]; exact rd_mid rfl
    have hi := ev_isIn hM y
    refine Ev.succ ?_
    by_cases hy : y ∈ M
    · have ih := ev_allDone_from L M hL hM r (pre ++ [y]) (by rw [hp]; simp)
      have e : decide (∀ x ∈ y :: r, x ∈ M) = decide (∀ x ∈ r, x ∈ M) := by simp [hy]
      rw [e]
      rw [decide_eq_true hy] at hi
      refine (hi.bind (g := fun k t => if t = true then spec_allDone.l0 k L M ((pre ++ [y]).length : Int) else some false) (ih.of fun k => if_pos rfl)).of fun k => ?_
      rw [spec_allDone.l0, if_pos (by omega), if_pos (by omega), hrd, w64s (by omega)]
      simp
    · have e : decide (∀ x ∈ y :: r, x ∈ M) = false := by
        rw [decide_eq_false_iff_not]
        exact fun h => hy (h y List.mem_cons_self)
      rw [e]
      rw [decide_eq_false hy] at hi
      refine (hi.bind (g := fun k t => if t = true then spec_allDone.l0 k L M ((pre ++ [y]).length : Int) else some false) ((Ev.const false).of fun k => if_neg (by simp))).of fun k => ?_
      rw [spec_allDone.l0, if_pos (by omega), if_pos (by omega), hrd, w64s (by omega)]
      simp
theorem ev_allDone {L M : List Int} (hL : L.length < big) (hM : M.length < big) : Ev (fun k => spec_allDone.f k L M) (decide (∀ x ∈ L, x ∈ M)) := ev_allDone_from L M hL hM L [] rfl
def needsOk (n : Nat) (l : List Int) : Prop := (∀ x ∈ l, 0 ≤ x ∧ x ≤ (n : Int) - 1) ∧ ascD l = true
instance (n : Nat) (l : List Int) : Decidable (needsOk n l) := by unfold needsOk; infer_instance
theorem ev_validTask {t : Tk} (ht : t.f1.length < big) {n : Nat} (hn : n < big) : Ev (fun k => spec_validTask.f k t.f0 t.f1 t.f2 t.f3 (n : Int)) (decide (taskOk t ∧ needsOk n t.f1)) := by
  have hw : wrap64 ((n : Int) - 1) = (n : Int) - 1 := w64 (by omega) (by unfold big at hn; omega)
  have hA := ev_allIn ht 0 ((n : Int) - 1)
  have hB := ev_ascends ht
  by_cases h1 : 1 ≤ t.f0 ∧ t.f0 ≤ 20
  · by_cases h2 : 0 ≤ t.f2 ∧ t.f2 ≤ 2
    · by_cases h3 : 1 ≤ t.f3 ∧ t.f3 ≤ 4
      · have hok : taskOk t := ⟨h1, h2, h3⟩
        have hu : ∀ k, spec_validTask.f k t.f0 t.f1 t.f2 t.f3 (n : Int) = (spec_allIn.f k t.f1 0 ((n : Int) - 1)).bind fun t113 => (if t113 = true then ((spec_ascends.f k t.f1).bind fun t114 => (some t114)) else (some false)) := by
          intro k
          unfold spec_validTask.f
          rw [inRange_eq, inRange_eq, inRange_eq, decide_eq_true h1, decide_eq_true h2, decide_eq_true h3, hw]
          rfl
        refine Ev.of ?_ hu
        refine (hA.bind (g := fun k t113 => if t113 = true then ((spec_ascends.f k t.f1).bind fun t114 => (some t114)) else (some false)) (b := decide (taskOk t ∧ needsOk n t.f1)) ?_)
        by_cases h4 : ∀ x ∈ t.f1, 0 ≤ x ∧ x ≤ (n : Int) - 1
        · rw [decide_eq_true h4]
          have e : decide (taskOk t ∧ needsOk n t.f1) = ascD t.f1 := by
            cases h5 : ascD t.f1
            · rw [decide_eq_false_iff_not]; intro h; have := h.2.2; rw [h5] at this; cases this
            · rw [decide_eq_true_eq]; exact ⟨hok, h4, h5⟩
          rw [e]
          refine (hB.bind (g := fun _ t114 => some t114) (Ev.const _)).of fun k => ?_
          rw [if_pos rfl]
        · rw [decide_eq_false h4]
          have e : decide (taskOk t ∧ needsOk n t.f1) = false := by rw [decide_eq_false_iff_not]; exact fun h => h4 h.2.1
          rw [e]
          exact (Ev.const false).of fun k => if_neg (by simp)
      · have e : decide (taskOk t ∧ needsOk n t.f1) = false := by rw [decide_eq_false_iff_not]; exact fun h => h3 h.1.2.2
        rw [e]
        refine (Ev.const false).of fun k => ?_
        unfold spec_validTask.f
        rw [inRange_eq, inRange_eq, inRange_eq, decide_eq_true h1, decide_eq_true h2, decide_eq_false h3]
        rfl
    · have e : decide (taskOk t ∧ needsOk n t.f1) = false := by rw [decide_eq_false_iff_not]; exact fun h => h2 h.1.2.1
      rw [e]
      refine (Ev.const false).of fun k => ?_
      unfold spec_validTask.f
      rw [inRange_eq, inRange_eq, decide_eq_true h1, decide_eq_false h2]
      rfl
  · have e : decide (taskOk t ∧ needsOk n t.f1) = false := by rw [decide_eq_false_iff_not]; exact fun h => h1 h.1.1
    rw [e]
    refine (Ev.const false).of fun k => ?_
    unfold spec_validTask.f
    rw [inRange_eq, decide_eq_false h1]
    rfl
/-- All lists are of a size that fits. -/
def Fits (g : List Tk) : Prop := g.length < big ∧ ∀ t ∈ g, t.f1.length < big
theorem ev_tasksFine_from (g : List Tk) (hg : Fits g) : ∀ (r pre : List Tk), g = pre ++ r → Ev (fun k => spec_tasksFine.l0 k g (pre.length : Int)) (decide ((∀ t ∈ r, taskOk t ∧ needsOk g.length t.f1) ∧ g.length ≤ 8))
  | [], pre, hp => by
    refine Ev.succ ((Ev.const _).of fun k => ?_)
    rw [List.append_nil] at hp
    subst hp
    rw [spec_tasksFine.l0, if_neg (by omega)]
    congr 1
    rw [decide_eq_decide]
    constructor
    · intro h; exact ⟨by simp, by omega⟩
    · intro h; omega
  | t :: r, pre, hp => by
    have hlen : g.length = pre.length + (r.length + 1) := by rw [hp]; simp
    have hbig := hg.1
    have hrd : rd_T33 g (pre.length : Int) = t := by rw [hp]; exact rdT_mid rfl
    have hv := ev_validTask (hg.2 t (by rw [hp]; simp)) hg.1
    refine Ev.succ ?_
    by_cases hy : taskOk t ∧ needsOk g.length t.f1
    · have ih := ev_tasksFine_from g hg r (pre ++ [t]) (by rw [hp]; simp)
      have e : decide ((∀ t' ∈ t :: r, taskOk t' ∧ needsOk g.length t'.f1) ∧ g.length ≤ 8) = decide ((∀ t ∈ r, taskOk t ∧ needsOk g.length t.f1) ∧ g.length ≤ 8) := by simp [hy]
      rw [e]
      rw [decide_eq_true hy] at hv
      refine (hv.bind (g := fun k b => if b = true then spec_tasksFine.l0 k g ((pre ++ [t]).length : Int) else some false) (ih.of fun k => if_pos rfl)).of fun k => ?_
      rw [spec_tasksFine.l0, if_pos (by omega), if_pos (by omega), hrd, w64s (by omega)]
      simp
    · have e : decide ((∀ t' ∈ t :: r, taskOk t' ∧ needsOk g.length t'.f1) ∧ g.length ≤ 8) = false := by
        rw [decide_eq_false_iff_not]
        exact fun h => hy (h.1 t List.mem_cons_self)
      rw [e]
      rw [decide_eq_false hy] at hv
      refine (hv.bind (g := fun k b => if b = true then spec_tasksFine.l0 k g ((pre ++ [t]).length : Int) else some false) ((Ev.const false).of fun k => if_neg (by simp))).of fun k => ?_
      rw [spec_tasksFine.l0, if_pos (by omega), if_pos (by omega), hrd, w64s (by omega)]
      simp
def fineD (g : List Tk) : Prop := (∀ t ∈ g, taskOk t ∧ needsOk g.length t.f1) ∧ g.length ≤ 8
instance (g : List Tk) : Decidable (fineD g) := by unfold fineD; infer_instance
theorem ev_tasksFine {g : List Tk} (hg : Fits g) : Ev (fun k => spec_tasksFine.f k g) (decide (fineD g)) := ev_tasksFine_from g hg g [] rfl
end Go.Proofs.YtffhdofcfkgoaaaDoor.Core
namespace Go.Proofs.YtffhdofcfkgoaaaDoor.Core
open Go Go.RowKit Go.Proofs.YtffhdofcfkgoaaaDoorW.PrintWords Go.Proofs.YtffhdofcfkgoaaaDoorW.PrintMore Go.Proofs.YtffhdofcfkgoaaaDoor.P
theorem asc_lt : ∀ {r : List Int} {x : Int}, ascD (x :: r) = true → ascD r = true ∧ ∀ y ∈ r, x < y
  | [], x, _ => ⟨rfl, by simp⟩
  | y :: r, x, h => by
    simp only [ascD, Bool.and_eq_true, decide_eq_true_eq] at h
    have h2 := asc_lt h.2
    refine ⟨h.2, fun z hz => ?_⟩
    rcases List.mem_cons.1 hz with rfl | hz
    · exact h.1
    · have := h2.2 z hz; omega
theorem asc_mk {r : List Int} {x : Int} (h : ascD r = true) (h2 : ∀ y ∈ r, x < y) : ascD (x :: r) = true := by
  cases r with
  | nil => rfl
  | cons y r => simp [ascD, h, h2 y List.mem_cons_self]
theorem setGo_some {n : Nat} : ∀ {r : List Int} {s : Nat} {last : Int} {t : Nat}, -1 ≤ last → setGo n r s last = some t → (∀ x ∈ r, last + 1 ≤ x ∧ x ≤ (n : Int) - 1) ∧ ascD r = true ∧ ∀ i : Nat, t.testBit i = (s.testBit i || decide ((i : Int) ∈ r))
  | [], s, last, t, hl, h => by
    rw [setGo] at h
    cases h
    exact ⟨by simp, rfl, by simp⟩
  | x :: r, s, last, t, hl, h => by
    rw [setGo] at h
    by_cases hx : last + 1 ≤ x ∧ x ≤ (n : Int) - 1
    · rw [if_pos hx] at h
      obtain ⟨h1, h2, h3⟩ := setGo_some (by omega) h
      refine ⟨fun y hy => ?_, asc_mk h2 (fun y hy => by have := h1 y hy; omega), fun i => ?_⟩
      · rcases List.mem_cons.1 hy with rfl | hy
        · exact hx
        · have := h1 y hy; omega
      · rw [h3, or_bit]
        have : decide (x.toNat = i) = decide ((i : Int) = x) := by rw [decide_eq_decide]; omega
        rw [this]
        by_cases e : (i : Int) = x
        · simp [e]
        · simp [e]
    · rw [if_neg hx] at h; cases h
theorem setGo_ok {n : Nat} : ∀ {r : List Int} (s : Nat) {last : Int}, (∀ x ∈ r, last + 1 ≤ x ∧ x ≤ (n : Int) - 1) → ascD r = true → ∃ t, setGo n r s last = some t
  | [], s, last, _, _ => ⟨s, rfl⟩
  | x :: r, s, last, h, ha => by
    have h2 := asc_lt ha
    have hx := h x List.mem_cons_self
    rw [setGo, if_pos hx]
    exact setGo_ok _ (fun y hy => ⟨by have := h2.2 y hy; omega, (h y (List.mem_cons_of_mem _ hy)).2⟩) h2.1
theorem setD_some {n : Nat} {l : List Int} {t : Nat} (h : setD n l = some t) : needsOk n l ∧ ∀ i : Nat, t.testBit i = decide ((i : Int) ∈ l) := by
  obtain ⟨h1, h2, h3⟩ := setGo_some (by omega) h
  exact ⟨⟨fun x hx => by have := h1 x hx; omega, h2⟩, fun i => by rw [h3]; simp⟩
theorem setD_ok {n : Nat} {l : List Int} (h : needsOk n l) : ∃ t, setD n l = some t := setGo_ok 0 (fun x hx => by have := h.1 x hx; omega) h.2
theorem setD_none {n : Nat} {l : List Int} (h : setD n l = none) : ¬needsOk n l := fun h2 => by
  obtain ⟨t, ht⟩ := setD_ok h2
  rw [h] at ht
  cases ht
theorem needsGo_ok {n : Nat} : ∀ {r : List Tk}, (∀ t ∈ r, taskOk t ∧ needsOk n t.f1) → ∃ N, needsGo n r = some N
  | [], _ => ⟨[], rfl⟩
  | t :: r, h => by
    obtain ⟨s, hs⟩ := setD_ok (h t List.mem_cons_self).2
    obtain ⟨N, hN⟩ := needsGo_ok (fun t' ht => h t' (List.mem_cons_of_mem _ ht))
    rw [needsGo, hs]
    simp only [(h t List.mem_cons_self).1, if_true, hN]
    exact ⟨_, rfl⟩
theorem needsGo_fine {n : Nat} : ∀ {r : List Tk} {N : List Nat}, needsGo n r = some N → (∀ t ∈ r, taskOk t ∧ needsOk n t.f1) ∧ ∀ i, i < r.length → ∀ j : Nat, (N.getD i 0).testBit j = decide ((j : Int) ∈ (r.getD i z33).f1)
  | [], N, h => ⟨by simp, by intro i hi; simp at hi⟩
  | t :: r, N, h => by
    rw [needsGo] at h
    cases he : setD n t.f1 with
    | none => rw [he] at h; cases h
    | some s =>
      rw [he] at h
      by_cases hok : taskOk t
      · simp only [hok, if_true] at h
        cases hg : needsGo n r with
        | none => rw [hg] at h; cases h
        | some M =>
          rw [hg] at h
          cases h
          have ih := needsGo_fine hg
          have hs := setD_some he
          refine ⟨fun t' ht => ?_, fun i hi j => ?_⟩
          · rcases List.mem_cons.1 ht with rfl | ht
            · exact ⟨hok, hs.1⟩
            · exact ih.1 t' ht
          · cases i with
            | zero => simpa using hs.2 j
            | succ i => simpa using ih.2 i (by simpa using hi) j
      · simp [hok] at h
theorem needsD_fine {g : List Tk} {N : List Nat} (h : needsD g = some N) : fineD g ∧ ∀ i, i < g.length → ∀ j : Nat, (N.getD i 0).testBit j = decide ((j : Int) ∈ (g.getD i z33).f1) := by
  have h8 := (needsD_spec h).1
  unfold needsD at h
  rw [if_pos h8] at h
  have := needsGo_fine h
  exact ⟨⟨this.1, h8⟩, this.2⟩
theorem fineD_needs {g : List Tk} (h : fineD g) : ∃ N, needsD g = some N := by
  unfold needsD
  rw [if_pos h.2]
  exact needsGo_ok h.1
theorem sub_zero {a b : Nat} (ha : a < 256) (hb : b < 256) : sub a b = 0 ↔ ∀ j, a.testBit j = true → b.testBit j = true := by
  constructor
  · intro h j hj
    have := sub_testBit (i := j) ha hb
    rw [h, hj] at this
    simpa using this
  · intro h
    apply Nat.eq_of_testBit_eq
    intro j
    rw [sub_testBit ha hb, Nat.zero_testBit]
    cases e : a.testBit j
    · rfl
    · rw [h j e]; rfl
theorem mem_up {L : List Nat} {i : Nat} : (i : Int) ∈ up L ↔ i ∈ L := by
  unfold up
  rw [List.mem_map]
  constructor
  · rintro ⟨a, ha, e⟩
    have : a = i := Int.ofNat.inj e
    exact this ▸ ha
  · intro h
    exact ⟨i, h, rfl⟩
/-- All needs of a task are among some, said both ways. -/
theorem done_iff {g : List Tk} {N : List Nat} (hN : needsD g = some N) {L : List Nat} {d : Nat} (hd : d < 256) (hs : ∀ i, d.testBit i = true ↔ i ∈ L) {i : Nat} (hi : i < g.length) : (∀ x ∈ (g.getD i z33).f1, x ∈ up L) ↔ sub (N.getD i 0) d = 0 := by
  obtain ⟨h8, hl, hb⟩ := needsD_spec hN
  obtain ⟨hf, hbit⟩ := needsD_fine hN
  rw [sub_zero (Nat.lt_of_lt_of_le (getD_lt hb i) (pow8 h8)) hd]
  constructor
  · intro h j hj
    rw [hbit i hi j, decide_eq_true_eq] at hj
    exact (hs j).2 (mem_up.1 (h _ hj))
  · intro h x hx
    have hmem : g.getD i z33 ∈ g := by
      rw [List.getD_eq_getElem?_getD, List.getElem?_eq_getElem hi]
      exact List.getElem_mem hi
    have h0 := (hf.1 _ hmem).2.1 x hx
    obtain ⟨j, rfl⟩ : ∃ j : Nat, x = (j : Int) := ⟨x.toNat, by omega⟩
    refine mem_up.2 ((hs j).1 (h j ?_))
    rw [hbit i hi j, decide_eq_true_eq]
    exact hx
theorem rdT_nat (g : List Tk) (i : Nat) : rd_T33 g (i : Int) = g.getD i z33 := by simp [rd_T33]
theorem getD_mem {g : List Tk} {i : Nat} (hi : i < g.length) : g.getD i z33 ∈ g := by
  rw [List.getD_eq_getElem?_getD, List.getElem?_eq_getElem hi]
  exact List.getElem_mem hi
theorem ev_top_found {g : List Tk} (hg : Fits g) (L : List Nat) (hL : L.length ≤ 100) (j : Nat) (i : Int) (R : List Int) (h : Ev (fun k => spec_topOrder.l0 k g (up (L ++ [j]))) R) : Ev (fun k => spec_topOrder.l1 k g (up L) (j : Int) i) R := by
  have e : up (L ++ [j]) = up L ++ [(j : Int)] := by simp [up]
  have h2 : Ev (fun k => spec_topOrder.j2 k g (up L) (j : Int) i false) R := by
    refine Ev.succ (h.of fun k => ?_)
    rw [spec_topOrder.j2, if_neg (by simp), if_neg (by omega), if_pos (by rw [up_length]; omega), e]
  refine Ev.succ (h2.of fun k => ?_)
  rw [spec_topOrder.l1, show decide ((j : Int) < 0) = false by simp]
  split <;> rfl
theorem ev_top_scan {g : List Tk} (hg : Fits g) {N : List Nat} (hN : needsD g = some N) (L : List Nat) (d : Nat) (hL : L.length ≤ 100) (hd : d < 256) (hs : ∀ i, d.testBit i = true ↔ i ∈ L) (R : Option Nat → List Int) (hR : R none = up L) : ∀ (m i : Nat), i + m = g.length →
    (∀ j, nextFrom N d i m = some j → Ev (fun k => spec_topOrder.l0 k g (up (L ++ [j]))) (R (some j))) → Ev (fun k => spec_topOrder.l1 k g (up L) (-1) (i : Int)) (R (nextFrom N d i m))
  | 0, i, hi, ho => by
    rw [nextFrom, hR]
    refine Ev.succ ?_
    have h2 : Ev (fun k => spec_topOrder.j2 k g (up L) (-1) (i : Int) false) (up L) := by
      refine Ev.succ ((Ev.const _).of fun k => ?_)
      rw [spec_topOrder.j2, if_neg (by simp), if_pos (by omega)]
    refine h2.of fun k => ?_
    rw [spec_topOrder.l1, if_neg (by omega)]
  | m + 1, i, hi, ho => by
    have hig : i < g.length := by omega
    have h8 := (needsD_spec hN).1
    have hin := ev_isIn (L := up L) (by rw [up_length]; unfold big; omega) (i : Int)
    have hdn := ev_allDone (L := (g.getD i z33).f1) (M := up L) (hg.2 _ (getD_mem hig)) (by rw [up_length]; unfold big; omega)
    have e1 : decide ((i : Int) ∈ up L) = d.testBit i := by
      rw [Bool.eq_iff_iff, decide_eq_true_eq, mem_up, hs]
    have e2 : decide (∀ x ∈ (g.getD i z33).f1, x ∈ up L) = decide (sub (N.getD i 0) d = 0) := by
      rw [decide_eq_decide]; exact done_iff hN hd hs hig
    rw [e1] at hin
    rw [e2] at hdn
    have hw : wrap64 ((i : Int) + 1) = ((i + 1 : Nat) : Int) := w64s (by unfold big; omega)
    refine Ev.succ ?_
    have hj2 : Ev (fun k => spec_topOrder.j2 k g (up L) (-1) (i : Int) true) (R (nextFrom N d i (m + 1))) := by
      refine Ev.succ ?_
      have hu : ∀ k, spec_topOrder.j2 (k + 1) g (up L) (-1) (i : Int) true = (spec_isIn.f k (up L) (i : Int)).bind fun t126 => (if t126 = true then (spec_topOrder.l1 k g (up L) (-1) ((i + 1 : Nat) : Int)) else ((spec_allDone.f k (g.getD i z33).f1 (up L)).bind fun t128 => (if t128 = true then (spec_topOrder.l1 k g (up L) (i : Int) ((i + 1 : Nat) : Int)) else (spec_topOrder.l1 k g (up L) (-1) ((i + 1 : Nat) : Int))))) := by
        intro k
        rw [spec_topOrder.j2, if_pos rfl, hw, if_pos (show 0 ≤ (i : Int) by omega), if_pos (show (i : Int) < (g.length : Int) by omega), rdT_nat]
      refine Ev.of ?_ hu
      refine hin.bind (g := fun k t126 => (if t126 = true then (spec_topOrder.l1 k g (up L) (-1) ((i + 1 : Nat) : Int)) else ((spec_allDone.f k (g.getD i z33).f1 (up L)).bind fun t128 => (if t128 = true then (spec_topOrder.l1 k g (up L) (i : Int) ((i + 1 : Nat) : Int)) else (spec_topOrder.l1 k g (up L) (-1) ((i + 1 : Nat) : Int)))))) ?_
      cases hbit : d.testBit i with
      | true =>
        have hg2 : nextFrom N d i (m + 1) = nextFrom N d (i + 1) m := by rw [nextFrom, if_neg (by simp [hbit])]
        rw [hg2] at ho ⊢
        exact (ev_top_scan hg hN L d hL hd hs R hR m (i + 1) (by omega) ho).of fun k => if_pos rfl
      | false =>
        by_cases hz : sub (N.getD i 0) d = 0
        · have hg2 : nextFrom N d i (m + 1) = some i := by rw [nextFrom, if_pos ⟨hbit, hz⟩]
          rw [hg2]
          rw [decide_eq_true hz] at hdn
          have hf := ev_top_found hg L hL i ((i + 1 : Nat) : Int) _ (ho i hg2)
          refine (hdn.bind (g := fun k t128 => if t128 = true then (spec_topOrder.l1 k g (up L) (i : Int) ((i + 1 : Nat) : Int)) else (spec_topOrder.l1 k g (up L) (-1) ((i + 1 : Nat) : Int))) (hf.of fun k => if_pos rfl)).of fun k => ?_
          rw [if_neg (by simp)]
        · have hg2 : nextFrom N d i (m + 1) = nextFrom N d (i + 1) m := by rw [nextFrom, if_neg (fun h => hz h.2)]
          rw [hg2] at ho ⊢
          rw [decide_eq_false hz] at hdn
          have ih := ev_top_scan hg hN L d hL hd hs R hR m (i + 1) (by omega) ho
          refine (hdn.bind (g := fun k t128 => if t128 = true then (spec_topOrder.l1 k g (up L) (i : Int) ((i + 1 : Nat) : Int)) else (spec_topOrder.l1 k g (up L) (-1) ((i + 1 : Nat) : Int))) (ih.of fun k => if_neg (by simp))).of fun k => ?_
          rw [if_neg (by simp)]
    refine hj2.of fun k => ?_
    rw [spec_topOrder.l1, if_pos (by omega)]
    rfl
theorem orderGo_none {N : List Nat} {d : Nat} (h : nextD N d = none) : ∀ (m : Nat) (L : List Nat), orderGo N m L d = (L, d)
  | 0, L => rfl
  | m + 1, L => by rw [orderGo, h]; exact orderGo_none h m L
theorem next_zb {N : List Nat} {d j : Nat} (h : nextD N d = some j) : zb N.length (d ||| 2 ^ j) < zb N.length d := by
  have := nextD_spec h
  exact zb_lt this.2.1 this.1
theorem ev_top_go {g : List Tk} (hg : Fits g) {N : List Nat} (hN : needsD g = some N) : ∀ (m : Nat) (L : List Nat) (d : Nat), OrdOk N L d → zb N.length d ≤ m → Ev (fun k => spec_topOrder.l0 k g (up L)) (up (orderGo N m L d).1) := by
  obtain ⟨h8, hl, hb⟩ := needsD_spec hN
  have hb' : below1 N.length N := by rw [hl]; exact hb
  intro m
  induction m with
  | zero =>
    intro L d ok hz
    have hlt := Nat.lt_of_lt_of_le ok.dlt (pow8 (n := N.length) (by omega))
    have hnone : nextD N d = none := by
      cases h : nextD N d with
      | none => rfl
      | some j => have := next_zb h; omega
    have h := ev_top_scan hg hN L d (by have := ok.len; omega) hlt ok.set (fun _ => up L) rfl g.length 0 (by omega) (fun j hj => by
      have : nextD N d = some j := by unfold nextD; rw [hl]; exact hj
      rw [hnone] at this; cases this)
    refine Ev.succ (h.of fun k => ?_)
    rw [spec_topOrder.l0]
    rfl
  | succ m ih =>
    intro L d ok hz
    have hlt := Nat.lt_of_lt_of_le ok.dlt (pow8 (n := N.length) (by omega))
    have h := ev_top_scan hg hN L d (by have := ok.len; omega) hlt ok.set (fun o => match o with | some i => up (orderGo N m (L ++ [i]) (d ||| 2 ^ i)).1 | none => up L) rfl g.length 0 (by omega) (fun j hj => by
      have hj2 : nextD N d = some j := by unfold nextD; rw [hl]; exact hj
      have hsp := nextD_spec hj2
      have := next_zb hj2
      exact ih (L ++ [j]) (d ||| 2 ^ j) (ok.step (by omega) hb' hsp.1 hsp.2.1 hsp.2.2) (by omega))
    have e : (match nextFrom N d 0 g.length with | some i => up (orderGo N m (L ++ [i]) (d ||| 2 ^ i)).1 | none => up L) = up (orderGo N (m + 1) L d).1 := by
      rw [orderGo]
      have e2 : nextD N d = nextFrom N d 0 g.length := by unfold nextD; rw [hl]
      rw [e2]
      cases hx : nextFrom N d 0 g.length with
      | none => simp only []; rw [orderGo_none (by rw [e2]; exact hx)]
      | some i => rfl
    rw [← e]
    refine Ev.succ (h.of fun k => ?_)
    rw [spec_topOrder.l0]
    rfl
theorem ordOk_nil (N : List Nat) : OrdOk N [] 0 := ⟨by simp, by simp, Nat.two_pow_pos _, by simp, by rw [zb_zero]; simp, by simp⟩
theorem ev_topOrder {g : List Tk} (hg : Fits g) {N : List Nat} (hN : needsD g = some N) : Ev (fun k => spec_topOrder.f k g) (up (orderD N).1) :=
  ev_top_go hg hN N.length [] 0 (ordOk_nil N) (by rw [zb_zero]; exact Nat.le_refl _)
theorem zb_zero_full {n : Nat} : ∀ {m d : Nat}, zb m d = 0 → ∀ i, i < m → d.testBit i = true
  | 0, d, _, i, h => by omega
  | m + 1, d, h, i, hi => by
    simp only [zb] at h
    by_cases e : i = m
    · subst e
      cases hb : d.testBit i
      · simp [hb] at h
      · rfl
    · exact zb_zero_full (n := n) (m := m) (by omega) i (by omega)
theorem full_iff {N L : List Nat} {d : Nat} (ok : OrdOk N L d) : d = 2 ^ N.length - 1 ↔ L.length = N.length := by
  constructor
  · intro h
    have := ok.len
    rw [h, zb_full _ _ (Nat.le_refl _)] at this
    exact this
  · intro h
    have hz : zb N.length d = 0 := by have := ok.len; omega
    apply Nat.eq_of_testBit_eq
    intro i
    rw [Nat.testBit_two_pow_sub_one]
    by_cases hi : i < N.length
    · rw [zb_zero_full (n := 0) hz i hi]; simp [hi]
    · cases hb : d.testBit i
      · simp [hi]
      · exact absurd (ok.lt i ((ok.set i).1 hb)) hi
theorem ev_validGraph {g : List Tk} (hg : Fits g) : Ev (fun k => spec_validGraph.f k g) (graphD g).isSome := by
  have hf := ev_tasksFine hg
  unfold graphD
  by_cases h : fineD g
  · obtain ⟨N, hN⟩ := fineD_needs h
    obtain ⟨h8, hl, hb⟩ := needsD_spec hN
    rw [decide_eq_true h] at hf
    have ht := ev_topOrder hg hN
    have ok := orderD_ok (N := N) (by omega) (by rw [hl]; exact hb)
    have hfull := full_iff ok
    rw [hN]
    simp only []
    refine (hf.bind (g := fun k b => if b = true then ((spec_topOrder.f k g).bind fun t130 => (some ((t130.length : Int) == (g.length : Int)))) else some false) ?_).of fun k => rfl
    refine (ht.bind (g := fun k t130 => some ((t130.length : Int) == (g.length : Int))) (b := (if (orderD N).2 = 2 ^ g.length - 1 then some (mkG g N) else none).isSome) ((Ev.const _).of fun k => ?_)).of fun k => if_pos rfl
    rw [up_length]
    congr 1
    by_cases hd : (orderD N).2 = 2 ^ g.length - 1
    · rw [if_pos hd]
      have := hfull.1 (by rw [hl]; exact hd)
      simp [this, hl]
    · rw [if_neg hd]
      have : (orderD N).1.length ≠ g.length := fun e => hd (by rw [← hl]; exact hfull.2 (by omega))
      simp [this]
      omega
  · rw [decide_eq_false h] at hf
    have hn : needsD g = none := by
      cases e : needsD g with
      | none => rfl
      | some N => exact absurd (needsD_fine e).1 h
    rw [hn]
    refine (hf.bind (g := fun k b => if b = true then ((spec_topOrder.f k g).bind fun t130 => (some ((t130.length : Int) == (g.length : Int)))) else some false) ((Ev.const false).of fun k => if_neg (by simp))).of fun k => rfl
end Go.Proofs.YtffhdofcfkgoaaaDoor.Core
namespace Go.Proofs.YtffhdofcfkgoaaaDoor.Core
open Go Go.RowKit Go.Proofs.YtffhdofcfkgoaaaDoorW.PrintWords Go.Proofs.YtffhdofcfkgoaaaDoorW.PrintMore Go.Proofs.YtffhdofcfkgoaaaDoor.P
end Go.Proofs.YtffhdofcfkgoaaaDoor.Core
end
section
set_option linter.unusedVariables false
set_option linter.unusedSimpArgs false
namespace Go.Proofs.YtffhdofcfkgoaaaDoor.Core
open Go Go.RowKit Go.Proofs.YtffhdofcfkgoaaaDoorW.PrintWords Go.Proofs.YtffhdofcfkgoaaaDoorW.PrintMore Go.Proofs.YtffhdofcfkgoaaaDoor.P
/-- A reader's state: few bytes, not far read. -/
def RS (s0 : List Int) (N p : Int) : Prop := s0.length ≤ 2000 ∧ (∀ x ∈ s0, 0 ≤ x ∧ x ≤ 255) ∧ 0 ≤ p ∧ p ≤ N ∧ N ≤ 100000
theorem RS.mono {s0 : List Int} {N M p : Int} (h : RS s0 N p) (hM : N ≤ M) (h2 : M ≤ 100000) : RS s0 M p := ⟨h.1, h.2.1, h.2.2.1, by have := h.2.2.2.1; omega, h2⟩
theorem rd_byte {s0 : List Int} {N p i : Int} (h : RS s0 N p) (h0 : 0 ≤ i) (h1 : i < (s0.length : Int)) : 0 ≤ rd s0 i ∧ rd s0 i ≤ 255 := by
  refine h.2.1 _ ?_
  unfold rd
  rw [List.getD_eq_getElem?_getD, List.getElem?_eq_getElem (by omega), Option.getD_some]
  exact List.getElem_mem _
/-- What pick answers. -/
def PickOk (n : Int) (s0 : List Int) (N : Int) (r : Int × Int) : Prop := (n < 1 → r.1 = 0) ∧ (1 ≤ n → 0 ≤ r.1 ∧ r.1 < n) ∧ RS s0 (N + 1) r.2
theorem ev_pick {s0 : List Int} {N p n : Int} (h : RS s0 N p) (hN : N < 100000) : EvP (fun k => spec_reader_pick.f k s0 p n) (PickOk n s0 N) := by
  obtain ⟨hl, hb, h0, h1, _⟩ := h
  have hp : wrap64 (p + 1) = p + 1 := w64 (by omega) (by omega)
  have hp1 : wrap64 (p + 1 - 1) = p := by rw [Int.add_sub_cancel]; exact w64 (by omega) (by omega)
  have hRS : RS s0 (N + 1) (p + 1) := ⟨hl, hb, by omega, by omega, by omega⟩
  have hz : EvP (fun k => spec_reader_pick.j0 k n true s0 (p + 1)) (fun r => r = (0, p + 1)) := by
    refine EvP.succ ?_
    simp only [spec_reader_pick.j0, if_true]
    exact EvP.ret rfl
  unfold spec_reader_pick.f
  rw [hp]
  refine EvP.ite (fun hn => hz.mono fun a e => ?_) (fun hn => ?_)
  · subst e; exact ⟨fun _ => rfl, fun _ => by omega, hRS⟩
  by_cases he : s0.length = 0
  · rw [show ((s0.length : Int) == 0) = true by simp [he]]
    exact hz.mono fun a e => by subst e; exact ⟨fun _ => rfl, fun _ => by omega, hRS⟩
  rw [show ((s0.length : Int) == 0) = false from beq_eq_false_iff_ne.2 (by omega)]
  refine EvP.succ ?_
  simp only [spec_reader_pick.j0, hp1, Bool.false_eq_true, if_false]
  refine EvP.ite (fun hlt => ?_) (fun hge => ?_)
  · have hr := hb (rd s0 p) (by
      unfold rd
      rw [List.getD_eq_getElem?_getD, List.getElem?_eq_getElem (by omega), Option.getD_some]
      exact List.getElem_mem _)
    refine EvP.pos h0 (EvP.neg (by omega) (EvP.ret ?_))
    rw [w64 (n := rd s0 p) (by omega) (by omega)]
    exact ⟨fun _ => by omega, fun _ => tmod_lt hr.1 (by omega), hRS⟩
  · have hpos : (0 : Int) < s0.length := by omega
    have hm1 := tmod_lt h0 hpos
    have h7 : wrap64 (p * 7) = p * 7 := w64 (by omega) (by omega)
    have h73 : wrap64 (p * 7 + 3) = p * 7 + 3 := w64 (by omega) (by omega)
    have hm2 := tmod_lt (a := p * 7 + 3) (by omega) hpos
    have hd := tdiv_le h0 hpos
    have hr1 := rd_byte ⟨hl, hb, h0, h1, by omega⟩ hm1.1 hm1.2
    have hr2 := rd_byte ⟨hl, hb, h0, h1, by omega⟩ hm2.1 hm2.2
    rw [h7, h73]
    refine EvP.neg (by omega) (EvP.pos hm1.1 (EvP.pos hm1.2 (EvP.pos hm2.1 (EvP.pos hm2.2 (EvP.neg (by omega) (EvP.ret ?_))))))
    generalize rd s0 (Int.tmod p s0.length) = x1 at *
    generalize rd s0 (Int.tmod (p * 7 + 3) s0.length) = x2 at *
    generalize Int.tdiv p s0.length = dd at *
    have e : wrap64 (wrap64 (wrap64 (wrap64 (wrap64 x1 * 131) + wrap64 (wrap64 x2 * 1117)) + wrap64 (p * 29)) + wrap64 (wrap64 dd * 53)) = x1 * 131 + x2 * 1117 + p * 29 + dd * 53 := by
      rw [w64 (n := x1) (by omega) (by omega), w64 (n := x2) (by omega) (by omega), w64 (n := dd) (by omega) (by omega), w64 (n := x1 * 131) (by omega) (by omega), w64 (n := x2 * 1117) (by omega) (by omega), w64 (n := x1 * 131 + x2 * 1117) (by omega) (by omega), w64 (n := p * 29) (by omega) (by omega), w64 (n := x1 * 131 + x2 * 1117 + p * 29) (by omega) (by omega), w64 (n := dd * 53) (by omega) (by omega), w64 (by omega) (by omega)]
    rw [e]
    generalize hy : x1 * 131 + x2 * 1117 + p * 29 + dd * 53 = y at *
    have hq := tdiv_le (a := y) (n := 64) (by omega) (by omega)
    rw [w64 (n := Int.tdiv y 64) (by omega) (by omega)]
    have hx := i64_xor y (Int.tdiv y 64) (by omega) (by omega) (by omega) (by omega)
    exact ⟨fun _ => by omega, fun _ => tmod_lt hx.1 (by omega), hRS⟩
theorem ev_one {s0 : List Int} {N p : Int} (h : RS s0 N p) (hN : N < 100000) (L : List Int) (hL : 0 < L.length) : EvP (fun k => spec_reader_one.f k s0 p L) (fun r => r.1 ∈ L ∧ RS s0 (N + 1) r.2) := by
  unfold spec_reader_one.f
  refine (ev_pick h hN).bind fun a ha => ?_
  have h2 := ha.2.1 (by omega)
  refine EvP.pos h2.1 (EvP.pos h2.2 (EvP.ret ⟨?_, ha.2.2⟩))
  show rd L a.1 ∈ L
  unfold rd
  rw [List.getD_eq_getElem?_getD, List.getElem?_eq_getElem (by omega), Option.getD_some]
  exact List.getElem_mem _
theorem ev_spoil {s0 : List Int} {N p : Int} (h : RS s0 N p) (hN : N + 2 < 100000) (L : List Int) (n : Int) (hL : L.length ≤ 10000) : EvP (fun k => spec_reader_spoil.f k s0 p L n) (fun r => r.1.length ≤ L.length + 1 ∧ RS s0 (N + 3) r.2) := by
  unfold spec_reader_spoil.f
  rw [show spec_copyInts.f L = some L from copyInts_eq (by unfold big; omega) (by omega)]
  refine EvP.sb ?_
  refine (ev_pick h (by omega)).bind fun a ha => ?_
  have hm := ha.2.2.mono (M := N + 3) (by omega) (by omega)
  refine EvP.ite (fun _ => EvP.pos (by omega) (EvP.ret ⟨by simp, hm⟩)) (fun _ => ?_)
  refine EvP.ite (fun _ => EvP.ite (fun h0 => EvP.pos (by omega) (EvP.ret ⟨by simp; omega, hm⟩)) (fun _ => EvP.ret ⟨by show L.length ≤ _; omega, hm⟩)) (fun _ => ?_)
  refine EvP.ite (fun _ => EvP.ite (fun h0 => ?_) (fun _ => EvP.ret ⟨by show L.length ≤ _; omega, hm⟩)) (fun _ => EvP.ret ⟨by show L.length ≤ _; omega, hm⟩)
  refine (ev_pick ha.2.2 (by omega)).bind fun b hb => ?_
  refine (ev_one hb.2.2 (by omega) _ (by simp)).bind fun c hc => ?_
  have h2 := hb.2.1 (by omega)
  exact EvP.pos h2.1 (EvP.pos h2.2 (EvP.ret ⟨by simp, hc.2.mono (by omega) (by omega)⟩))
/-- A graph of few tasks, whose lists of needs are short. -/
def GSmall (n m : Nat) (g : List Tk) : Prop := g.length ≤ n ∧ ∀ t ∈ g, t.f1.length ≤ m
theorem GSmall.fits {n m : Nat} {g : List Tk} (h : GSmall n m g) (hn : n < big) (hm : m < big) : Fits g := ⟨by have := h.1; omega, fun t ht => by have := h.2 t ht; omega⟩
theorem ev_turned_in (x0 : List Tk) (x3 : List Tk) (x4 x5 : Int) (f0 f2 f3 : Int) (L : List Int) (hL : L.length ≤ 10000) (R : List Tk → Prop) (hx3 : x3.length ≤ 100) (hk : ∀ L2 : List Int, L2.length = L.length → EvP (fun k => spec_turned.l0 k x0 (x3 ++ [⟨f0, L2, f2, f3⟩]) x4 (wrap64 (x5 - 1))) R) :
    ∀ (m : Nat) (x7 : List Int), m ≤ L.length → x7.length + m = L.length → EvP (fun k => spec_turned.l1 k x0 x3 x4 x5 x7 ((m : Int) - 1) f0 L f2 f3) R
  | 0, x7, _, h => by
    refine EvP.succ ?_
    simp only [spec_turned.l1]
    exact EvP.neg (by omega) (EvP.pos (by omega) (hk x7 (by omega)))
  | m + 1, x7, hm, h => by
    refine EvP.succ ?_
    simp only [spec_turned.l1]
    refine EvP.pos (by omega) (EvP.pos (by omega) (EvP.pos (by omega) (EvP.pos (by omega) ?_)))
    have := ev_turned_in x0 x3 x4 x5 f0 f2 f3 L hL R hx3 hk m (x7 ++ [wrap64 (x4 - rd L (((m + 1 : Nat) : Int) - 1))]) (by omega) (by simp; omega)
    rw [show wrap64 (((m + 1 : Nat) : Int) - 1 - 1) = (m : Int) - 1 by rw [w64 (by omega) (by omega)]; omega]
    exact this
theorem ev_turned {n m : Nat} {g : List Tk} (hg : GSmall n m g) (hn : n ≤ 100) (hm : m ≤ 10000) : EvP (fun k => spec_turned.f k g) (fun r => r.length = g.length ∧ GSmall n m r) := by
  have key : ∀ (j : Nat) (x3 : List Tk) (x4 : Int), j ≤ g.length → x3.length + j = g.length → (∀ t ∈ x3, t.f1.length ≤ m) → EvP (fun k => spec_turned.l0 k g x3 x4 ((j : Int) - 1)) (fun r => r.length = g.length ∧ GSmall n m r) := by
    intro j
    induction j with
    | zero =>
      intro x3 x4 hj hl ht
      refine EvP.succ ?_
      simp only [spec_turned.l0]
      exact EvP.neg (by omega) (EvP.ret ⟨by show x3.length = _; omega, by have := hg.1; show x3.length ≤ n; omega, ht⟩)
    | succ j ih =>
      intro x3 x4 hj hl ht
      have hgl := hg.1
      refine EvP.succ ?_
      simp only [spec_turned.l0]
      refine EvP.pos (by omega) (EvP.pos (by omega) (EvP.pos (by omega) ?_))
      have hmem : rd_T33 g (((j + 1 : Nat) : Int) - 1) ∈ g := by
        unfold rd_T33
        rw [List.getD_eq_getElem?_getD, List.getElem?_eq_getElem (by omega), Option.getD_some]
        exact List.getElem_mem _
      have hlen := hg.2 _ hmem
      generalize rd_T33 g (((j + 1 : Nat) : Int) - 1) = t at *
      rw [show wrap64 ((t.f1.length : Int) - 1) = (t.f1.length : Int) - 1 from w64 (by omega) (by omega)]
      refine ev_turned_in g x3 x4 (((j + 1 : Nat) : Int) - 1) t.f0 t.f2 t.f3 t.f1 (by omega) _ (by omega) (fun L2 h2 => ?_) t.f1.length [] (Nat.le_refl _) (by simp)
      rw [show wrap64 (((j + 1 : Nat) : Int) - 1 - 1) = (j : Int) - 1 by rw [w64 (by omega) (by omega)]; omega]
      refine ih _ _ (by omega) (by simp; omega) (fun u hu => ?_)
      rcases List.mem_append.1 hu with hu | hu
      · exact ht u hu
      · rw [List.mem_singleton.1 hu]; show L2.length ≤ m; omega
  have hgl := hg.1
  unfold spec_turned.f
  rw [show wrap64 ((g.length : Int) - 1) = (g.length : Int) - 1 from w64 (by omega) (by omega)]
  exact key g.length [] _ (Nat.le_refl _) (by simp) (by simp)
theorem ev_some_in (g : List Tk) (x6 : Int) (s0 : List Int) (f0 f2 f3 : Int) (N : Int) (hg : g.length ≤ 8) (hN : N + 8 < 100000) (R : List Tk × Int → Prop)
    (hk : ∀ (L : List Int) (p : Int), L.length ≤ 8 → RS s0 (N + 8) p → EvP (fun k => spec_someGraph.l0 k (g ++ [⟨f0, L, f2, f3⟩]) (wrap64 (x6 - 1)) s0 p) R) :
    ∀ (d i : Nat) (L : List Int) (p : Int), i + d = g.length → L.length ≤ i → RS s0 (N + i) p → EvP (fun k => spec_someGraph.l1 k g x6 (i : Int) s0 p f0 L f2 f3) R
  | 0, i, L, p, h, hL, hp => by
    refine EvP.succ ?_
    simp only [spec_someGraph.l1]
    exact EvP.neg (by omega) (EvP.pos (by omega) (hk L p (by omega) (hp.mono (by omega) (by omega))))
  | d + 1, i, L, p, h, hL, hp => by
    refine EvP.succ ?_
    simp only [spec_someGraph.l1]
    refine EvP.pos (by omega) ?_
    refine (ev_pick hp (by omega)).bind fun a ha => ?_
    have hp2 : RS s0 (N + ((i + 1 : Nat) : Int)) a.2 := ha.2.2.mono (by omega) (by omega)
    rw [show wrap64 ((i : Int) + 1) = ((i + 1 : Nat) : Int) by rw [w64 (by omega) (by omega)]; omega]
    refine EvP.ite (fun _ => EvP.pos (by omega) ?_) (fun _ => ?_)
    · exact ev_some_in g x6 s0 f0 f2 f3 N hg hN R hk d (i + 1) _ _ (by omega) (by simp; omega) hp2
    · exact ev_some_in g x6 s0 f0 f2 f3 N hg hN R hk d (i + 1) _ _ (by omega) (by omega) hp2
theorem ev_some_out (s0 : List Int) : ∀ (j : Nat) (g : List Tk) (N p : Int), g.length + j ≤ 8 → N + j * 11 + 1 < 100000 → (∀ t ∈ g, t.f1.length ≤ 8) → RS s0 N p →
    EvP (fun k => spec_someGraph.l0 k g (j : Int) s0 p) (fun r => GSmall 8 8 r.1 ∧ RS s0 (N + j * 11 + 1) r.2)
  | 0, g, N, p, hg, hN, ht, hp => by
    refine EvP.succ ?_
    simp only [spec_someGraph.l0]
    refine EvP.neg (by omega) ?_
    refine EvP.ite (fun h1 => ?_) (fun _ => EvP.ret ⟨⟨by show g.length ≤ 8; omega, ht⟩, hp.mono (by omega) (by omega)⟩)
    refine (ev_pick hp (by omega)).bind fun a ha => ?_
    refine EvP.ite (fun _ => ?_) (fun _ => EvP.ret ⟨⟨by show g.length ≤ 8; omega, ht⟩, ha.2.2.mono (by omega) (by omega)⟩)
    refine (ev_turned (n := 8) (m := 8) ⟨by omega, ht⟩ (by omega) (by omega)).bind fun r hr => ?_
    exact EvP.ret ⟨hr.2, ha.2.2.mono (by omega) (by omega)⟩
  | j + 1, g, N, p, hg, hN, ht, hp => by
    refine EvP.succ ?_
    simp only [spec_someGraph.l0]
    refine EvP.pos (by omega) ?_
    refine (ev_one hp (by omega) _ (by simp)).bind fun a ha => ?_
    refine (ev_pick ha.2 (by omega)).bind fun b hb => ?_
    refine (ev_pick hb.2.2 (by omega)).bind fun c hc => ?_
    refine ev_some_in g ((j + 1 : Nat) : Int) s0 a.1 b.1 (wrap64 (1 + c.1)) (N + 1 + 1 + 1) (by omega) (by omega) _ (fun L q hL hq => ?_) g.length 0 [] _ (by omega) (by simp) (hc.2.2.mono (by omega) (by omega))
    rw [show wrap64 (((j + 1 : Nat) : Int) - 1) = (j : Int) by rw [w64 (by omega) (by omega)]; omega]
    refine (ev_some_out s0 j _ (N + 11) q (by simp; omega) (by omega) (fun u hu => ?_) (hq.mono (by omega) (by omega))).mono fun r hr => ⟨hr.1, hr.2.mono (by omega) (by omega)⟩
    rcases List.mem_append.1 hu with hu | hu
    · exact ht u hu
    · rw [List.mem_singleton.1 hu]; exact hL
theorem ev_someGraph {s0 : List Int} {N p : Int} (h : RS s0 N p) (hN : N + 100 < 100000) (a : Int) (ha : 0 ≤ a) : EvP (fun k => spec_someGraph.f k s0 p a) (fun r => GSmall 8 8 r.1 ∧ RS s0 (N + 100) r.2) := by
  unfold spec_someGraph.f
  refine (ev_one h (by omega) _ (by simp)).bind fun b hb => ?_
  have hb8 : 0 ≤ mn a b.1 ∧ mn a b.1 ≤ 8 := by
    have := hb.1
    simp at this
    unfold mn
    split <;> omega
  generalize mn a b.1 = c at *
  obtain ⟨j, rfl⟩ := Int.eq_ofNat_of_zero_le hb8.1
  exact (ev_some_out s0 j [] (N + 1) b.2 (by simp; omega) (by omega) (by simp) hb.2).mono fun r hr => ⟨hr.1, hr.2.mono (by omega) (by omega)⟩
theorem lim_evP {α : Type} {f : Nat → Option α} {Q : α → Prop} (hm : ∀ k, LeO (f k) (f (k + 1))) (h : EvP f Q) : EvP (fun _ => lim f) Q := by
  obtain ⟨r, h, q⟩ := h
  obtain ⟨k, hk⟩ := h.one
  exact ⟨r, ⟨0, fun _ _ => lim_of hm hk⟩, q⟩
theorem rdT_small {n m : Nat} {g : List Tk} (h : GSmall n m g) {i : Int} (h0 : 0 ≤ i) (h1 : i < (g.length : Int)) : (rd_T33 g i).f1.length ≤ m := by
  refine h.2 _ ?_
  unfold rd_T33
  rw [List.getD_eq_getElem?_getD, List.getElem?_eq_getElem (by omega), Option.getD_some]
  exact List.getElem_mem _
theorem small_set {n m m2 : Nat} {g : List Tk} (h : GSmall n m g) (i : Nat) (t : Tk) (ht : t.f1.length ≤ m2) (hm : m ≤ m2) {n2 : Nat} (hn : n ≤ n2) : GSmall n2 m2 (g.set i t) := by
  refine ⟨by rw [List.length_set]; have := h.1; omega, fun u hu => ?_⟩
  rcases List.mem_or_eq_of_mem_set hu with h1 | h1
  · have := h.2 u h1; omega
  · rw [h1]; exact ht
theorem ev_anyGraph {s0 : List Int} {N p : Int} (h : RS s0 N p) (hN : N + 210 < 100000) : EvP (fun _ => spec_anyGraph.f s0 p) (fun r => GSmall 16 10 r.1 ∧ RS s0 (N + 210) r.2) := by
  unfold spec_anyGraph.f
  refine lim_evP (fun k => spec_anyGraph.mono s0 p k) ?_
  unfold spec_anyGraph.fk
  refine (ev_someGraph h (by omega) 8 (by omega)).bind fun a ha => ?_
  have hs : GSmall 16 10 a.1 := ⟨by have := ha.1.1; omega, fun t ht => by have := ha.1.2 t ht; omega⟩
  refine EvP.ite (fun _ => EvP.ret ⟨hs, ha.2.mono (by omega) (by omega)⟩) (fun hne => ?_)
  refine (ev_pick ha.2 (by omega)).bind fun b hb => ?_
  refine (ev_pick hb.2.2 (by omega)).bind fun c hc => ?_
  have hb2 := hb.2.1 (by omega)
  refine EvP.neg (fun hh => hh hb2) ?_
  have hl := rdT_small ha.1 hb2.1 hb2.2
  generalize rd_T33 a.1 b.1 = tk at hl
  refine EvP.ite (fun _ => (ev_one hc.2.2 (by omega) _ (by simp)).bind fun d hd => EvP.ret ⟨small_set ha.1 _ _ (by show tk.f1.length ≤ 10; omega) (by omega) (by omega), hd.2.mono (by omega) (by omega)⟩) (fun _ => ?_)
  refine EvP.ite (fun _ => ?_) (fun _ => ?_)
  · refine (ev_pick hc.2.2 (by omega)).bind fun d hd => ?_
    refine EvP.pos (by omega) ?_
    refine (ev_spoil hd.2.2 (by omega) _ 8 (by simp; omega)).bind fun e he => ?_
    have := he.1
    simp only [List.length_append, List.length_cons, List.length_nil] at this
    exact EvP.ret ⟨small_set ha.1 _ _ (by show e.1.length ≤ 10; omega) (by omega) (by omega), he.2.mono (by omega) (by omega)⟩
  refine EvP.ite (fun _ => (ev_one hc.2.2 (by omega) _ (by simp)).bind fun d hd => EvP.ret ⟨small_set ha.1 _ _ (by show tk.f1.length ≤ 10; omega) (by omega) (by omega), hd.2.mono (by omega) (by omega)⟩) (fun _ => ?_)
  refine EvP.ite (fun _ => (ev_one hc.2.2 (by omega) _ (by simp)).bind fun d hd => EvP.ret ⟨small_set ha.1 _ _ (by show tk.f1.length ≤ 10; omega) (by omega) (by omega), hd.2.mono (by omega) (by omega)⟩) (fun _ => ?_)
  refine EvP.ite (fun _ => ?_) (fun _ => EvP.ret ⟨hs, hc.2.2.mono (by omega) (by omega)⟩)
  refine (ev_someGraph hc.2.2 (by omega) 8 (by omega)).bind fun d hd => ?_
  have h1 := ha.1.1
  have h2 := hd.1.1
  refine EvP.pos (by omega) (EvP.ret ⟨⟨by simp; omega, fun t ht => ?_⟩, hd.2.mono (by omega) (by omega)⟩)
  rcases List.mem_append.1 ht with ht | ht
  · have := ha.1.2 t ht; omega
  · have := hd.1.2 t ht; omega
theorem ev_someSet {s0 : List Int} {N p : Int} (h : RS s0 N p) (hN : N + 100 < 100000) (g : List Tk) (hg : g.length ≤ 16) : EvP (fun k => spec_someSet.f k s0 p g) (fun r => r.1.length ≤ 17 ∧ RS s0 (N + 100) r.2) := by
  have key : ∀ (d i : Nat) (L : List Int) (p : Int), i + d = g.length → L.length ≤ i → RS s0 (N + i) p → EvP (fun k => spec_someSet.l0 k g L (i : Int) s0 p) (fun r => r.1.length ≤ 17 ∧ RS s0 (N + 100) r.2) := by
    intro d
    induction d with
    | zero =>
      intro i L p h hL hp
      refine EvP.succ ?_
      simp only [spec_someSet.l0]
      refine EvP.neg (by omega) ?_
      refine (ev_spoil hp (by omega) L 8 (by omega)).bind fun a ha => ?_
      exact EvP.ret ⟨by have := ha.1; show a.1.length ≤ 17; omega, ha.2.mono (by omega) (by omega)⟩
    | succ d ih =>
      intro i L p h hL hp
      refine EvP.succ ?_
      simp only [spec_someSet.l0]
      refine EvP.pos (by omega) ?_
      refine (ev_pick hp (by omega)).bind fun a ha => ?_
      have hp2 : RS s0 (N + ((i + 1 : Nat) : Int)) a.2 := ha.2.2.mono (by omega) (by omega)
      rw [show wrap64 ((i : Int) + 1) = ((i + 1 : Nat) : Int) by rw [w64 (by omega) (by omega)]; omega]
      exact EvP.ite (fun _ => EvP.pos (by omega) (ih (i + 1) _ _ (by omega) (by simp; omega) hp2)) (fun _ => ih (i + 1) _ _ (by omega) (by omega) hp2)
  exact key g.length 0 [] p (by omega) (by simp) (h.mono (by omega) (by omega))
/-- The bytes of a code. -/
def Bytes (l : List Int) : Prop := ∀ x ∈ l, (Lit.int .u8 x).wf = true
theorem byte_of_wf {x : Int} (h : (Lit.int .u8 x).wf = true) : 0 ≤ x ∧ x ≤ 255 := by
  simp only [Lit.wf, IntKind.min, IntKind.max, IntKind.signed, IntKind.bits, Bool.and_eq_true, decide_eq_true_eq] at h
  simp at h
  omega
theorem ev_newReader {l : List Int} (h : Bytes l) : EvP (fun _ => spec_newReader.f l) (fun r => RS r.1 0 r.2) := by
  have hb : ∀ x ∈ l, 0 ≤ x ∧ x ≤ 255 := fun x hx => byte_of_wf (h x hx)
  unfold spec_newReader.f
  refine EvP.ite (fun h1 => EvP.pos (by omega) (EvP.ret ⟨by simp; omega, fun x hx => hb x (List.mem_of_mem_take hx), by omega, by omega, by omega⟩)) (fun h1 => EvP.ret ⟨by show l.length ≤ 2000; omega, hb, by show (0 : Int) ≤ 0; omega, by show (0 : Int) ≤ 0; omega, by omega⟩)
end Go.Proofs.YtffhdofcfkgoaaaDoor.Core
end
section
set_option linter.unusedVariables false
set_option linter.unusedSimpArgs false
namespace Go.Proofs.YtffhdofcfkgoaaaDoor.Core
open Go Go.RowKit Go.Proofs.YtffhdofcfkgoaaaDoorW.PrintWords Go.Proofs.YtffhdofcfkgoaaaDoorW.PrintMore Go.Proofs.YtffhdofcfkgoaaaDoor.P
theorem ev_DrawUsedUnits {l : List Int} (h : Bytes l) : EvP (fun k => spec_DrawUsedUnits.f k l) (fun r => GSmall 16 10 r.1 ∧ r.2.length ≤ 17) := by
  unfold spec_DrawUsedUnits.f
  refine (ev_newReader h).bind fun a ha => ?_
  refine (ev_anyGraph ha (by omega)).bind fun b hb => ?_
  refine (ev_someSet hb.2 (by omega) _ hb.1.1).bind fun c hc => ?_
  exact EvP.ret ⟨hb.1, hc.1⟩
end Go.Proofs.YtffhdofcfkgoaaaDoor.Core
end
section
set_option linter.unusedVariables false
set_option linter.unusedSimpArgs false
namespace Go.Proofs.YtffhdofcfkgoaaaDoor.Core
open Go Go.RowKit Go.Proofs.YtffhdofcfkgoaaaDoorW.PrintWords Go.Proofs.YtffhdofcfkgoaaaDoorW.PrintMore Go.Proofs.YtffhdofcfkgoaaaDoor.P
theorem asc_ext : ∀ {a b : List Int}, ascD a = true → ascD b = true → (∀ x, x ∈ a ↔ x ∈ b) → a = b
  | [], [], _, _, _ => rfl
  | [], y :: b, _, _, h => by have := (h y).2 List.mem_cons_self; cases this
  | x :: a, [], _, _, h => by have := (h x).1 List.mem_cons_self; cases this
  | x :: a, y :: b, ha, hb, h => by
    have h1 := asc_lt ha
    have h2 := asc_lt hb
    have e : x = y := by
      rcases List.mem_cons.1 ((h x).1 List.mem_cons_self) with e | e
      · exact e
      · rcases List.mem_cons.1 ((h y).2 List.mem_cons_self) with e' | e'
        · exact e'.symm
        · have := h1.2 y e'
          have := h2.2 x e
          omega
    subst e
    rw [asc_ext h1.1 h2.1 (fun z => ⟨fun hz => ?_, fun hz => ?_⟩)]
    · rcases List.mem_cons.1 ((h z).1 (List.mem_cons_of_mem _ hz)) with e | e
      · have := h1.2 z hz; omega
      · exact e
    · rcases List.mem_cons.1 ((h z).2 (List.mem_cons_of_mem _ hz)) with e | e
      · have := h2.2 z hz; omega
      · exact e
theorem asc_filter (p : Nat → Bool) : ∀ (m i : Nat), ascD (up ((List.range' i m).filter p)) = true ∧ ∀ x ∈ up ((List.range' i m).filter p), (i : Int) ≤ x
  | 0, i => ⟨rfl, by simp [up]⟩
  | m + 1, i => by
    have ih := asc_filter p m (i + 1)
    rw [List.range'_succ, List.filter_cons]
    split
    · refine ⟨asc_mk ih.1 (fun y hy => by have := ih.2 y hy; show (i : Int) < y; omega), fun x hx => ?_⟩
      rcases List.mem_cons.1 hx with rfl | hx
      · exact Int.le_refl _
      · have := ih.2 x hx; omega
    · exact ⟨ih.1, fun x hx => by have := ih.2 x hx; omega⟩
theorem asc_elems (s : Nat) : ascD (up (elemsN s)) = true := by
  unfold elemsN
  rw [List.range_eq_range']
  exact (asc_filter (fun i => s.testBit i) 8 0).1
/-- A list of ascending numbers is its set's. -/
theorem set_list {n : Nat} (hn : n ≤ 8) {l : List Int} {s : Nat} (h : setD n l = some s) : up (elemsN s) = l := by
  obtain ⟨h1, h2⟩ := setD_some h
  refine asc_ext (asc_elems s) h1.2 (fun x => ?_)
  constructor
  · intro hx
    obtain ⟨i, rfl, _, hi⟩ := mem_elems.1 hx
    rw [h2] at hi
    simpa using hi
  · intro hx
    have h3 := h1.1 x hx
    obtain ⟨i, rfl⟩ := Int.eq_ofNat_of_zero_le h3.1
    refine mem_elems.2 ⟨i, rfl, by omega, ?_⟩
    rw [h2]
    simpa using hx
theorem set_cases (n : Nat) (l : List Int) : (∃ s, setD n l = some s ∧ needsOk n l) ∨ (setD n l = none ∧ ¬ needsOk n l) := by
  cases h : setD n l with
  | some s => exact .inl ⟨s, rfl, (setD_some h).1⟩
  | none => exact .inr ⟨rfl, setD_none h⟩
/-- How many units of a pool tasks take. -/
def usedN (g : List Tk) (p : Int) : List Nat → Int
  | [] => 0
  | i :: r => (if (g.getD i z33).f2 = p then (g.getD i z33).f3 else 0) + usedN g p r
def UOk (g : List Tk) (L : List Nat) : Prop := ∀ i ∈ L, 1 ≤ (g.getD i z33).f3 ∧ (g.getD i z33).f3 ≤ 4
theorem usedN_bd {g : List Tk} {p : Int} : ∀ {L : List Nat}, UOk g L → 0 ≤ usedN g p L ∧ usedN g p L ≤ 4 * L.length
  | [], _ => by simp [usedN]
  | i :: r, h => by
    have ih := usedN_bd (p := p) (L := r) (fun j hj => h j (List.mem_cons_of_mem _ hj))
    have hi := h i List.mem_cons_self
    simp only [usedN, List.length_cons]
    split <;> omega
theorem count_fold (g : List Tk) : ∀ (L : List Nat) (c : Cn), UOk g L → L.length ≤ 100 → 0 ≤ c.u0 → c.u0 ≤ 1000 → 0 ≤ c.u1 → c.u1 ≤ 1000 → 0 ≤ c.u2 → c.u2 ≤ 1000 → c.u0 + 4 * L.length ≤ 1000 → c.u1 + 4 * L.length ≤ 1000 → c.u2 + 4 * L.length ≤ 1000 →
    (L.foldl (cstep g) c).u0 = c.u0 + usedN g 0 L ∧ (L.foldl (cstep g) c).u1 = c.u1 + usedN g 1 L ∧ (L.foldl (cstep g) c).u2 = c.u2 + usedN g 2 L
  | [], c, _, _, _, _, _, _, _, _, _, _, _ => by simp [usedN]
  | i :: r, c, h, hl, a0, b0, a1, b1, a2, b2, d0, d1, d2 => by
    have hi := h i List.mem_cons_self
    rw [List.foldl_cons]
    simp only [List.length_cons] at hl d0 d1 d2
    have e0 : (cstep g c i).u0 = c.u0 + (if (g.getD i z33).f2 = 0 then (g.getD i z33).f3 else 0) := by
      simp only [cstep, Cn.add]; split <;> (first | (rw [w64 (n := 1 * _) (by omega) (by omega), w64 (by omega) (by omega)]; omega) | omega)
    have e1 : (cstep g c i).u1 = c.u1 + (if (g.getD i z33).f2 = 1 then (g.getD i z33).f3 else 0) := by
      simp only [cstep, Cn.add]; split <;> (first | (rw [w64 (n := 1 * _) (by omega) (by omega), w64 (by omega) (by omega)]; omega) | omega)
    have e2 : (cstep g c i).u2 = c.u2 + (if (g.getD i z33).f2 = 2 then (g.getD i z33).f3 else 0) := by
      simp only [cstep, Cn.add]; split <;> (first | (rw [w64 (n := 1 * _) (by omega) (by omega), w64 (by omega) (by omega)]; omega) | omega)
    have b0' : (cstep g c i).u0 ≤ c.u0 + 4 ∧ c.u0 ≤ (cstep g c i).u0 := by rw [e0]; split <;> omega
    have b1' : (cstep g c i).u1 ≤ c.u1 + 4 ∧ c.u1 ≤ (cstep g c i).u1 := by rw [e1]; split <;> omega
    have b2' : (cstep g c i).u2 ≤ c.u2 + 4 ∧ c.u2 ≤ (cstep g c i).u2 := by rw [e2]; split <;> omega
    obtain ⟨r0, r1, r2⟩ := count_fold g r (cstep g c i) (fun j hj => h j (List.mem_cons_of_mem _ hj)) (by omega) (by omega) (by omega) (by omega) (by omega) (by omega) (by omega) (by omega) (by omega) (by omega)
    rw [r0, r1, r2, e0, e1, e2]
    simp only [usedN]
    omega
theorem countSet_used {g : List Tk} {s : Nat} (h : UOk g (elemsN s)) : (countSet g s).u0 = usedN g 0 (elemsN s) ∧ (countSet g s).u1 = usedN g 1 (elemsN s) ∧ (countSet g s).u2 = usedN g 2 (elemsN s) := by
  have hl := elemsN_length s
  obtain ⟨r0, r1, r2⟩ := count_fold g (elemsN s) Cn.zero h (by omega) (by decide) (by decide) (by decide) (by decide) (by decide) (by decide) (by simp [Cn.zero]; omega) (by simp [Cn.zero]; omega) (by simp [Cn.zero]; omega)
  unfold countSet
  rw [r0, r1, r2]
  simp [Cn.zero]
theorem rd_up' (L : List Nat) (i : Nat) : rd (up L) (i : Int) = ((L.getD i 0 : Nat) : Int) := rd_up rfl
theorem ev_used {g : List Tk} (p : Int) (L0 : List Nat) (hb : L0.length ≤ 100) (hL : ∀ i ∈ L0, i < g.length) (hu : UOk g L0) : Ev (fun k => spec_used.f k g (up L0) p) (usedN g p L0) := by
  have key : ∀ (r pre : List Nat) (acc : Int), L0 = pre ++ r → 0 ≤ acc → acc + 4 * r.length ≤ 1000 → Ev (fun k => spec_used.l0 k g (up L0) p acc (pre.length : Int)) (acc + usedN g p r) := by
    intro r
    induction r with
    | nil =>
      intro pre acc hp h0 h1
      rw [List.append_nil] at hp
      subst hp
      refine Ev.succ ?_
      simp only [spec_used.l0, up_length]
      refine Ev.neg (by omega) ((Ev.const _).conv ?_)
      simp [usedN]
    | cons i r ih =>
      intro pre acc hp h0 h1
      have hi : i < g.length := hL i (by rw [hp]; simp)
      have hui := hu i (by rw [hp]; simp)
      have hlen : L0.length = pre.length + (r.length + 1) := by rw [hp]; simp
      have hrd : rd (up L0) (pre.length : Int) = (i : Int) := by
        rw [rd_up', hp]; simp
      simp only [List.length_cons] at h1
      refine Ev.succ ?_
      simp only [spec_used.l0, up_length, hrd, rdT_nat]
      rw [w64 (n := (pre.length : Int) + 1) (by omega) (by omega)]
      refine Ev.pos (by omega) (Ev.pos (by omega) (Ev.pos (by omega) (Ev.pos (by omega) ?_)))
      by_cases h : (g.getD i z33).f2 = p
      · refine Ev.pos h ?_
        have := ih (pre ++ [i]) (acc + (g.getD i z33).f3) (by rw [hp]; simp) (by omega) (by omega)
        rw [w64 (by omega) (by omega)]
        have e : ((pre ++ [i]).length : Int) = (pre.length : Int) + 1 := by simp
        rw [e] at this
        refine this.conv ?_
        simp only [usedN, if_pos h]
        omega
      · refine Ev.neg h ?_
        have := ih (pre ++ [i]) acc (by rw [hp]; simp) (by omega) (by omega)
        have e : ((pre ++ [i]).length : Int) = (pre.length : Int) + 1 := by simp
        rw [e] at this
        refine this.conv ?_
        simp only [usedN, if_neg h]
        omega
  exact (key L0 [] 0 rfl (by omega) (by omega)).conv (by omega)
theorem graphD_uok {g : List Tk} {G : GD} (h : graphD g = some G) (s : Nat) (hs : s < 2 ^ g.length) : UOk g (elemsN s) ∧ ∀ i ∈ elemsN s, i < g.length := by
  have hlt : ∀ i ∈ elemsN s, i < g.length := fun i hi => elemsN_lt hs hi
  exact ⟨fun i hi => (graphD_taskOk h _ (getD_mem (hlt i hi))).2.2, hlt⟩
end Go.Proofs.YtffhdofcfkgoaaaDoor.Core
end
section
set_option linter.unusedVariables false
set_option linter.unusedSimpArgs false
namespace Go.Proofs.YtffhdofcfkgoaaaDoor.Core
open Go Go.RowKit Go.Shelf Go.Proofs.YtffhdofcfkgoaaaDoorW.PrintWords Go.Proofs.YtffhdofcfkgoaaaDoorW.PrintMore Go.Proofs.YtffhdofcfkgoaaaDoor.P
def usedD (g : List Tk) (running : List Int) : List Int := match graphD g with
  | none => []
  | some _ => match setD g.length running with
    | none => []
    | some s => [(countSet g s).u0, (countSet g s).u1, (countSet g s).u2]
/-- A row of three numbers, the whole of an array. -/
theorem R_three {w : World} {b base t : Nat} {x y z : Int} (h : w.heap[b]? = some (.cells #[.int .i64 x, .int .i64 y, .int .i64 z] t (0, 0))) (hb : base ≤ b) : (Kd.int .i64).R t w base (fun _ => True) (.slice (some ⟨b, 0, none⟩) 3 3) [x, y, z] :=
  row_R (k := .i64) (xs := [x, y, z]) ⟨rfl, .inr ⟨b, 3, #[.int .i64 x, .int .i64 y, .int .i64 z], rfl, hb, h, Nat.le_refl _, by decide, rfl, rfl⟩⟩
end Go.Proofs.YtffhdofcfkgoaaaDoor.Core
namespace Go.Proofs.YtffhdofcfkgoaaaDoor.P
open Go Go.RowKit Go.Shelf Go.Proofs.YtffhdofcfkgoaaaDoorW.PrintWords Go.Proofs.YtffhdofcfkgoaaaDoorW.PrintMore Go.Proofs.YtffhdofcfkgoaaaDoor.Core
attribute [local go_sem] Oper.semAt_some wide_fn wide_depth
def impl_UsedUnits.f (l0 : List S33) (l1 : List Int) : Option (List Int) := some (usedD l0 l1)
set_option maxRecDepth 100000 in
set_option maxHeartbeats 4000000 in
theorem impl_UsedUnits.calls (A0 : Option Addr) (c0 : Nat) (l0 : List S33) (A1 : Option Addr) (c1 : Nat) (l1 : List Int) (r : List Int) (w : World) (hr0 : Kd.C k33 w A0 l0.length l0) (hc0 : l0.length ≤ c0) (hr1 : Kd.C (Kd.int .i64) w A1 l1.length l1) (hc1 : l1.length ≤ c1) (hT : Tab w) (h : impl_UsedUnits.f l0 l1 = some r) :
    Calls Tryd.prog 26 #[.slice A0 l0.length c0, .slice A1 l1.length c1] w fun e w' => ∃ v0_ : Value, e = .returned (v0_) ∧ Kd.R (Kd.int .i64) 73 w' w.heap.size (fun _ => True) v0_ r ∧ Below w.heap.size w w' := by
  have hr : r = usedD l0 l1 := (Option.some.inj h).symm
  subst hr
  clear h
  cases hg : graphD l0 with
  | none =>
    have hcd : usedD l0 l1 = [] := by unfold usedD; rw [hg]
    rw [hcd]
    have HG := Aside0.mk (graphOf_none A0 c0 l0 w hT hr0 hc0 hg)
    clear hr0 hr1 hT hcd hg
    go_enter Tryd.func26, Tryd.ntmps26
    go_wp2_with (go_at_call 47; refine HG.out.mono ?_; rintro e w' ⟨rfl, hB⟩)
    go_ret
    exact ⟨_, rfl, Kd.R_nil _ _ _ _ _, hB⟩
  | some G =>
    have ok := graphD_ok hg
    have htk := graphD_tasks hg
    have HP := Aside0.mk (graphD_pool hg)
    have HG := Aside0.mk (graphOf_some A0 c0 l0 G w hT hr0 hc0 hg)
    have HR1 := Aside0.mk hr1
    have HT := Aside0.mk hT
    have hn8 := ok.n8
    have hdf : usedD l0 l1 = match setD l0.length l1 with
      | none => []
      | some s => [(countSet l0 s).u0, (countSet l0 s).u1, (countSet l0 s).u2] := by unfold usedD; rw [hg]
    subst htk
    clear hr0 hr1 hT hg
    cases hs : setD G.tasks.length l1 with
    | none =>
      rw [hs] at hdf
      simp only [] at hdf
      rw [hdf]
      have HS := Aside0.mk hs
      clear hs hdf
      go_enter Tryd.func26, Tryd.ntmps26
      go_wp2_with (first
        | (go_at_call 47; refine HG.out.mono ?_; rintro e w1 ⟨b, rfl, hB, hG⟩)
        | (go_at_call 54; refine (size_calls b G _ hG).mono ?_; rintro e w3 ⟨rfl, rfl⟩)
        | (go_at_call 53; refine (setOf_none hn8 A1 c1 l1 _ (Kd.C_below HR1.out hB) hc1 HS.out).mono ?_; rintro e w4 ⟨rfl, hB4⟩))
      go_ret
      exact ⟨_, rfl, Kd.R_nil _ _ _ _ _, below_step hB hB4⟩
    | some s =>
      rw [hs] at hdf
      simp only [] at hdf
      have HD := Aside0.mk hdf
      have hslt := setD_lt hs
      have HS := Aside0.mk hs
      clear hs hdf
      have hfld : ∀ (t a b d : Int) (W : World), (Instr.field 75 (.agg #[.int .i64 t, .int .i64 a, .int .i64 b, .int .i64 d]) 1).run Tryd.prog W = .ok (.agg #[.int .i64 a, .int .i64 b, .int .i64 d]) W := fun _ _ _ _ _ => by kernel_rfl
      go_enter Tryd.func26, Tryd.ntmps26
      go_wp2_with (first
        | (go_at_call 47; refine HG.out.mono ?_; rintro e w1 ⟨b, rfl, hB, hG⟩)
        | (go_at_call 54; refine (size_calls b G _ hG).mono ?_; rintro e w3 ⟨rfl, rfl⟩)
        | (go_at_call 53; refine (setOf_some hn8 A1 c1 l1 s _ (Kd.C_below HR1.out hB) hc1 HS.out).mono ?_; rintro e w4 ⟨rfl, hB4⟩; have hG5 := hG.move hB4; have hB5 := below_step hB hB4; clear hB4)
        | (go_at_call 55; refine (counted_calls b G s _ (HT.out.of hB5) hG5 hn8 HP.out hslt).mono ?_; rintro e w6 ⟨rfl, hB6⟩; have hB7 := below_step hB5 hB6; clear hB6))
      go_ret
      rw [HD.out]
      exact ⟨_, rfl, R_three (cells_new _ _) hB7.size, hB7.alloc hB7.size _⟩
end Go.Proofs.YtffhdofcfkgoaaaDoor.P
end
section
namespace Go.Proofs.YtffhdofcfkgoaaaDoor.P
open Go.Proofs.YtffhdofcfkgoaaaDoor.Core (Tab Tab.of)
open Go.RowKit Go.Proofs.YtffhdofcfkgoaaaDoorW.PrintWords Go.Proofs.YtffhdofcfkgoaaaDoorW.PrintLast Go.Proofs.YtffhdofcfkgoaaaDoorW.PrintMore
attribute [local go_sem] max2_int min2_int max_two min_two max_three min_three max_four min_four   -- for this text's walks alone
set_option linter.unusedVariables false
set_option linter.unusedSimpArgs false
mutual
noncomputable def laws_FnUsedUnits.j0 : Nat → List (S33) → List Int → List Int → Bool → Option (Bool)
  | 0, _, _, _, _ => none
  | k + 1, x3, x4, x5, x35 => if x35 = true then ((spec_UsedUnits.f k x3 x4).bind fun t507 => ((laws_equalInts.f k x5 t507).bind fun t510 => (some t510))) else (if 1 ≤ (x4.length : Int) then ((impl_UsedUnits.f x3 (x4.take 1)).bind fun t515 => ((impl_UsedUnits.f x3 (x4.drop 1)).bind fun t522 => (laws_FnUsedUnits.l0 k x3 x4 x5 t515 t522 0))) else (none))
noncomputable def laws_FnUsedUnits.l0 : Nat → List (S33) → List Int → List Int → List Int → List Int → Int → Option (Bool)
  | 0, _, _, _, _, _, _ => none
  | k + 1, x3, x4, x5, x6, x7, x8 => if x8 < (x5.length : Int) then (if x8 ≥ (x6.length : Int) then (some false) else (if x8 ≥ (x7.length : Int) then (some false) else (if 0 ≤ x8 then (if x8 < (x6.length : Int) then (if x8 < (x7.length : Int) then (if (rd x5 x8) = (wrap64 ((rd x6 x8) + (rd x7 x8))) then (laws_FnUsedUnits.l0 k x3 x4 x5 x6 x7 (wrap64 (x8 + 1))) else (some false)) else (none)) else (none)) else (none)))) else ((laws_sum.f k x6).bind fun t528 => (if 0 < (x4.length : Int) then (if 0 ≤ (rd x4 0) then (if (rd x4 0) < (x3.length : Int) then (some (t528 == ((rd_T33 x3 (rd x4 0)).f3))) else (none)) else (none)) else (none)))
end
noncomputable def laws_FnUsedUnits.f (k : Nat) (l0 : List Int) : Option (Bool) := if (l0.length : Int) > 1048576 then (some true) else ((spec_DrawUsedUnits.f k l0).bind fun bt494 => ((impl_UsedUnits.f bt494.1 bt494.2).bind fun t500 => ((spec_UsedUnits.f k bt494.1 bt494.2).bind fun t503 => ((laws_equalInts.f k t500 t503).bind fun t506 => (if t506 = true then (if (t500.length : Int) = 0 then (laws_FnUsedUnits.j0 k bt494.1 bt494.2 t500 true) else (laws_FnUsedUnits.j0 k bt494.1 bt494.2 t500 ((bt494.2.length : Int) == 0))) else (laws_FnUsedUnits.j0 k bt494.1 bt494.2 t500 true))))))
theorem laws_FnUsedUnits.mono_l : ∀ k, (∀ y0 y1 y2 y3, LeO (laws_FnUsedUnits.j0 k y0 y1 y2 y3) (laws_FnUsedUnits.j0 (k + 1) y0 y1 y2 y3)) ∧ (∀ y0 y1 y2 y3 y4 y5, LeO (laws_FnUsedUnits.l0 k y0 y1 y2 y3 y4 y5) (laws_FnUsedUnits.l0 (k + 1) y0 y1 y2 y3 y4 y5))
  | 0 => ⟨fun _ _ _ _ r h => by simp [laws_FnUsedUnits.j0] at h, fun _ _ _ _ _ _ r h => by simp [laws_FnUsedUnits.l0] at h⟩
  | k + 1 => by
    obtain ⟨ih0, ih1⟩ := laws_FnUsedUnits.mono_l k
    refine ⟨?_, ?_⟩
    · intro y0 y1 y2 y3
      unfold laws_FnUsedUnits.j0
      repeat' first
      | (with_reducible exact ih0 _ _ _ _)
      | (with_reducible exact ih1 _ _ _ _ _ _)
      | (with_reducible exact laws_equalInts.mono _ _ _)
      | (with_reducible exact laws_sum.mono _ _)
      | (with_reducible exact spec_DrawUsedUnits.mono _ _)
      | (with_reducible exact spec_UsedUnits.mono _ _ _)
      | (with_reducible exact LeO.refl _)
      | (with_reducible exact LeO.none _)
      | (with_reducible refine LeO.ite ?_ ?_)
      | (with_reducible refine LeO.bind ?_ (fun _ => ?_))
      | exact ih0 _ _ _ _
      | exact ih1 _ _ _ _ _ _
      | exact laws_equalInts.mono _ _ _
      | exact laws_sum.mono _ _
      | exact spec_DrawUsedUnits.mono _ _
      | exact spec_UsedUnits.mono _ _ _
      | exact LeO.none _
      | refine LeO.ite ?_ ?_
      | refine LeO.bind ?_ (fun _ => ?_)
    · intro y0 y1 y2 y3 y4 y5
      unfold laws_FnUsedUnits.l0
      repeat' first
      | (with_reducible exact ih0 _ _ _ _)
      | (with_reducible exact ih1 _ _ _ _ _ _)
      | (with_reducible exact laws_equalInts.mono _ _ _)
      | (with_reducible exact laws_sum.mono _ _)
      | (with_reducible exact spec_DrawUsedUnits.mono _ _)
      | (with_reducible exact spec_UsedUnits.mono _ _ _)
      | (with_reducible exact LeO.refl _)
      | (with_reducible exact LeO.none _)
      | (with_reducible refine LeO.ite ?_ ?_)
      | (with_reducible refine LeO.bind ?_ (fun _ => ?_))
      | exact ih0 _ _ _ _
      | exact ih1 _ _ _ _ _ _
      | exact laws_equalInts.mono _ _ _
      | exact laws_sum.mono _ _
      | exact spec_DrawUsedUnits.mono _ _
      | exact spec_UsedUnits.mono _ _ _
      | exact LeO.none _
      | refine LeO.ite ?_ ?_
      | refine LeO.bind ?_ (fun _ => ?_)
theorem laws_FnUsedUnits.mono : ∀ a0 k, LeO (laws_FnUsedUnits.f k a0) (laws_FnUsedUnits.f (k + 1) a0) := by
  intro a0 k
  obtain ⟨ih0, ih1⟩ := laws_FnUsedUnits.mono_l k
  unfold laws_FnUsedUnits.f
  repeat' first
      | (with_reducible exact ih0 _ _ _ _)
      | (with_reducible exact ih1 _ _ _ _ _ _)
      | (with_reducible exact laws_equalInts.mono _ _ _)
      | (with_reducible exact laws_sum.mono _ _)
      | (with_reducible exact spec_DrawUsedUnits.mono _ _)
      | (with_reducible exact spec_UsedUnits.mono _ _ _)
      | (with_reducible exact LeO.refl _)
      | (with_reducible exact LeO.none _)
      | (with_reducible refine LeO.ite ?_ ?_)
      | (with_reducible refine LeO.bind ?_ (fun _ => ?_))
      | exact ih0 _ _ _ _
      | exact ih1 _ _ _ _ _ _
      | exact laws_equalInts.mono _ _ _
      | exact laws_sum.mono _ _
      | exact spec_DrawUsedUnits.mono _ _
      | exact spec_UsedUnits.mono _ _ _
      | exact LeO.none _
      | refine LeO.ite ?_ ?_
      | refine LeO.bind ?_ (fun _ => ?_)
set_option maxHeartbeats 8000000 in
set_option maxRecDepth 100000 in
theorem laws_FnUsedUnits.calls (k : Nat) (A0 : Option Addr) (c0 : Nat) (l0 : List Int) (r : Bool) (w : World) (hr0 : Kd.C (Kd.int .u8) w A0 l0.length l0) (hc0 : l0.length ≤ c0) (hT : Tab w) (h : laws_FnUsedUnits.f k l0 = some r) :
    Calls Tryd.prog 8 #[.slice A0 l0.length c0] w fun e w' => e = .returned (.bool r) ∧ Below w.heap.size w w' := by
  have HT := Aside0.mk hT
  clear hT
  have HR0 := Aside0.mk hr0
  have HC0 := Aside0.mk hc0
  clear hr0 hc0
  have HB := Aside0.mk (Below.refl w.heap.size w)
  have H : (if (l0.length : Int) > 1048576 then (some true) else ((spec_DrawUsedUnits.f k l0).bind fun bt494 => ((impl_UsedUnits.f bt494.1 bt494.2).bind fun t500 => ((spec_UsedUnits.f k bt494.1 bt494.2).bind fun t503 => ((laws_equalInts.f k t500 t503).bind fun t506 => (if t506 = true then (if (t500.length : Int) = 0 then (laws_FnUsedUnits.j0 k bt494.1 bt494.2 t500 true) else (laws_FnUsedUnits.j0 k bt494.1 bt494.2 t500 ((bt494.2.length : Int) == 0))) else (laws_FnUsedUnits.j0 k bt494.1 bt494.2 t500 true))))))) = some r := h
  clear h
  by_cases c2 : (l0.length : Int) > 1048576
  · rw [if_pos c2] at H
    have c2b0 : decide (1048576 < (l0.length : Int)) = true := decide_eq_true c2
    have c2b1 : decide (1048576 < l0.length) = true := decide_eq_true (by omega)
    clear c2
    obtain rfl := Option.some.inj H
    go_enter Tryd.func8, Tryd.ntmps8
    go_wp2
    repeat (go_quiet (fail); try go_wp2)
    go_ret
    exact ⟨by first | rfl | (simp [errW_none, errW_some] <;> rfl) | (simp [*, errW_none, errW_some] <;> rfl), by repeat (first | (with_reducible first | exact HB.out | apply below_alloc | apply pw_below_drewN | apply below_drew1) | exact HB.out)⟩
  · rw [if_neg c2] at H
    have c2b0 : decide (1048576 < (l0.length : Int)) = false := decide_eq_false c2
    have c2b1 : decide (1048576 < l0.length) = false := decide_eq_false (by omega)
    clear c2
    replace H := Option.bind_eq_some_iff.mp H
    obtain ⟨⟨t494, t495⟩, A30, H⟩ := H
    replace H : ((impl_UsedUnits.f t494 t495).bind fun t500 => ((spec_UsedUnits.f k t494 t495).bind fun t503 => ((laws_equalInts.f k t500 t503).bind fun t506 => (if t506 = true then (if (t500.length : Int) = 0 then (laws_FnUsedUnits.j0 k t494 t495 t500 true) else (laws_FnUsedUnits.j0 k t494 t495 t500 ((t495.length : Int) == 0))) else (laws_FnUsedUnits.j0 k t494 t495 t500 true))))) = some r := H
    have A3 := Aside0.mk A30
    clear A30
    replace H := Option.bind_eq_some_iff.mp H
    obtain ⟨t500, A40, H⟩ := H
    replace H : ((spec_UsedUnits.f k t494 t495).bind fun t503 => ((laws_equalInts.f k t500 t503).bind fun t506 => (if t506 = true then (if (t500.length : Int) = 0 then (laws_FnUsedUnits.j0 k t494 t495 t500 true) else (laws_FnUsedUnits.j0 k t494 t495 t500 ((t495.length : Int) == 0))) else (laws_FnUsedUnits.j0 k t494 t495 t500 true)))) = some r := H
    have A4 := Aside0.mk A40
    clear A40
    have HC5 := Aside0.mk H
    clear H
    go_enter Tryd.func8, Tryd.ntmps8
    go_upto_region 5 with (first | (go_at_call 32; (with_reducible refine (spec_DrawUsedUnits.calls k _ _ l0 t494 t495 _ ?side1 ?side2 A3.out).mono ?_); (case side1 => repeat (first | exact HR0.out | (with_reducible refine Kd.C_alloc ?_ _) | (with_reducible refine Kd.C_drewN ?_ _) | (with_reducible refine Kd.C_drew ?_))); (case side2 => exact HC0.out); rintro e w6 ⟨v496, v498, rfl, ho0, ho1, hb⟩; have n0_ := Aside0.mk (Kd.S_lower ho0 (below_size (by repeat (first | (with_reducible first | exact HB.out | apply below_alloc | apply pw_below_drewN | apply below_drew1) | exact HB.out)))); have n1_ := Aside0.mk (Kd.Q_lower ho1 (below_size (by repeat (first | (with_reducible first | exact HB.out | apply below_alloc | apply pw_below_drewN | apply below_drew1) | exact HB.out)))); have n2_ := Aside0.mk (below_step (by repeat (first | (with_reducible first | exact HB.out | apply below_alloc | apply pw_below_drewN | apply below_drew1) | exact HB.out)) hb); clear HB; have HO497 := n0_; have HO499 := n1_; have HB := n2_; clear n0_ n1_ n2_; (try clear hb); (try clear hb2); (try clear hk); (try clear hi); (try clear ho0); (try clear ho1); obtain ⟨Ao7, co7, eo7⟩ := Kd.S_slice HO497.out; subst eo7; obtain ⟨Ao8, co8, eo8, _⟩ := Kd.Q_slice HO499.out; subst eo8) | (go_at_call 26; (with_reducible refine (impl_UsedUnits.calls _ _ t494 _ _ t495 t500 _ ?side1 ?side2 ?side3 ?side4 ?side5 A4.out).mono ?_); (case side1 => repeat (first | exact (Kd.S_reads' HO497.out).2.2 | (with_reducible refine Kd.C_alloc ?_ _) | (with_reducible refine Kd.C_drewN ?_ _) | (with_reducible refine Kd.C_drew ?_))); (case side2 => exact (Kd.S_reads' HO497.out).2.1); (case side3 => repeat (first | exact (Kd.Q_reads' HO499.out).2.2 | (with_reducible refine Kd.C_alloc ?_ _) | (with_reducible refine Kd.C_drewN ?_ _) | (with_reducible refine Kd.C_drew ?_))); (case side4 => exact (Kd.Q_reads' HO499.out).2.1); (case side5 => exact Tab.of HT.out (by repeat (first | (with_reducible first | exact HB.out | apply below_alloc | apply pw_below_drewN | apply below_drew1) | exact HB.out))); rintro e w9 ⟨v501, rfl, ho0, hb⟩; have n0_ := Aside0.mk (Kd.S_elder' (by (with_reducible repeat (first | apply Kd.S_alloc | apply Kd.S_drewN | apply Kd.S_drew)); exact HO497.out) (Kd.R_base ho0) hb); have n1_ := Aside0.mk (Kd.Q_elder' (by (with_reducible repeat (first | apply Kd.Q_alloc | apply Kd.Q_drewN | apply Kd.Q_drew)); exact HO499.out) (Kd.R_base ho0) hb); have n2_ := Aside0.mk (Kd.R_lower (Kd.R_new' ho0 (Kd.Q_lt (by (with_reducible repeat (first | apply Kd.Q_alloc | apply Kd.Q_drewN | apply Kd.Q_drew)); exact HO499.out))) (below_size (by repeat (first | (with_reducible first | exact HB.out | apply below_alloc | apply pw_below_drewN | apply below_drew1) | exact HB.out)))); have n3_ := Aside0.mk (below_step (by repeat (first | (with_reducible first | exact HB.out | apply below_alloc | apply pw_below_drewN | apply below_drew1) | exact HB.out)) hb); clear HO497; clear HO499; clear HB; have HO497 := n0_; have HO499 := n1_; have HO502 := n2_; have HB := n3_; clear n0_ n1_ n2_ n3_; (try clear hb); (try clear hb2); (try clear hk); (try clear hi); (try clear ho0)))
    repeat (go_quiet (first | (go_at_call 32; (with_reducible refine (spec_DrawUsedUnits.calls k _ _ l0 t494 t495 _ ?side1 ?side2 A3.out).mono ?_); (case side1 => repeat (first | exact HR0.out | (with_reducible refine Kd.C_alloc ?_ _) | (with_reducible refine Kd.C_drewN ?_ _) | (with_reducible refine Kd.C_drew ?_))); (case side2 => exact HC0.out); rintro e w6 ⟨v496, v498, rfl, ho0, ho1, hb⟩; have n0_ := Aside0.mk (Kd.S_lower ho0 (below_size (by repeat (first | (with_reducible first | exact HB.out | apply below_alloc | apply pw_below_drewN | apply below_drew1) | exact HB.out)))); have n1_ := Aside0.mk (Kd.Q_lower ho1 (below_size (by repeat (first | (with_reducible first | exact HB.out | apply below_alloc | apply pw_below_drewN | apply below_drew1) | exact HB.out)))); have n2_ := Aside0.mk (below_step (by repeat (first | (with_reducible first | exact HB.out | apply below_alloc | apply pw_below_drewN | apply below_drew1) | exact HB.out)) hb); clear HB; have HO497 := n0_; have HO499 := n1_; have HB := n2_; clear n0_ n1_ n2_; (try clear hb); (try clear hb2); (try clear hk); (try clear hi); (try clear ho0); (try clear ho1); obtain ⟨Ao7, co7, eo7⟩ := Kd.S_slice HO497.out; subst eo7; obtain ⟨Ao8, co8, eo8, _⟩ := Kd.Q_slice HO499.out; subst eo8) | (go_at_call 26; (with_reducible refine (impl_UsedUnits.calls _ _ t494 _ _ t495 t500 _ ?side1 ?side2 ?side3 ?side4 ?side5 A4.out).mono ?_); (case side1 => repeat (first | exact (Kd.S_reads' HO497.out).2.2 | (with_reducible refine Kd.C_alloc ?_ _) | (with_reducible refine Kd.C_drewN ?_ _) | (with_reducible refine Kd.C_drew ?_))); (case side2 => exact (Kd.S_reads' HO497.out).2.1); (case side3 => repeat (first | exact (Kd.Q_reads' HO499.out).2.2 | (with_reducible refine Kd.C_alloc ?_ _) | (with_reducible refine Kd.C_drewN ?_ _) | (with_reducible refine Kd.C_drew ?_))); (case side4 => exact (Kd.Q_reads' HO499.out).2.1); (case side5 => exact Tab.of HT.out (by repeat (first | (with_reducible first | exact HB.out | apply below_alloc | apply pw_below_drewN | apply below_drew1) | exact HB.out))); rintro e w9 ⟨v501, rfl, ho0, hb⟩; have n0_ := Aside0.mk (Kd.S_elder' (by (with_reducible repeat (first | apply Kd.S_alloc | apply Kd.S_drewN | apply Kd.S_drew)); exact HO497.out) (Kd.R_base ho0) hb); have n1_ := Aside0.mk (Kd.Q_elder' (by (with_reducible repeat (first | apply Kd.Q_alloc | apply Kd.Q_drewN | apply Kd.Q_drew)); exact HO499.out) (Kd.R_base ho0) hb); have n2_ := Aside0.mk (Kd.R_lower (Kd.R_new' ho0 (Kd.Q_lt (by (with_reducible repeat (first | apply Kd.Q_alloc | apply Kd.Q_drewN | apply Kd.Q_drew)); exact HO499.out))) (below_size (by repeat (first | (with_reducible first | exact HB.out | apply below_alloc | apply pw_below_drewN | apply below_drew1) | exact HB.out)))); have n3_ := Aside0.mk (below_step (by repeat (first | (with_reducible first | exact HB.out | apply below_alloc | apply pw_below_drewN | apply below_drew1) | exact HB.out)) hb); clear HO497; clear HO499; clear HB; have HO497 := n0_; have HO499 := n1_; have HO502 := n2_; have HB := n3_; clear n0_ n1_ n2_ n3_; (try clear hb); (try clear hb2); (try clear hk); (try clear hi); (try clear ho0))); go_upto_region 5 with (first | (go_at_call 32; (with_reducible refine (spec_DrawUsedUnits.calls k _ _ l0 t494 t495 _ ?side1 ?side2 A3.out).mono ?_); (case side1 => repeat (first | exact HR0.out | (with_reducible refine Kd.C_alloc ?_ _) | (with_reducible refine Kd.C_drewN ?_ _) | (with_reducible refine Kd.C_drew ?_))); (case side2 => exact HC0.out); rintro e w6 ⟨v496, v498, rfl, ho0, ho1, hb⟩; have n0_ := Aside0.mk (Kd.S_lower ho0 (below_size (by repeat (first | (with_reducible first | exact HB.out | apply below_alloc | apply pw_below_drewN | apply below_drew1) | exact HB.out)))); have n1_ := Aside0.mk (Kd.Q_lower ho1 (below_size (by repeat (first | (with_reducible first | exact HB.out | apply below_alloc | apply pw_below_drewN | apply below_drew1) | exact HB.out)))); have n2_ := Aside0.mk (below_step (by repeat (first | (with_reducible first | exact HB.out | apply below_alloc | apply pw_below_drewN | apply below_drew1) | exact HB.out)) hb); clear HB; have HO497 := n0_; have HO499 := n1_; have HB := n2_; clear n0_ n1_ n2_; (try clear hb); (try clear hb2); (try clear hk); (try clear hi); (try clear ho0); (try clear ho1); obtain ⟨Ao7, co7, eo7⟩ := Kd.S_slice HO497.out; subst eo7; obtain ⟨Ao8, co8, eo8, _⟩ := Kd.Q_slice HO499.out; subst eo8) | (go_at_call 26; (with_reducible refine (impl_UsedUnits.calls _ _ t494 _ _ t495 t500 _ ?side1 ?side2 ?side3 ?side4 ?side5 A4.out).mono ?_); (case side1 => repeat (first | exact (Kd.S_reads' HO497.out).2.2 | (with_reducible refine Kd.C_alloc ?_ _) | (with_reducible refine Kd.C_drewN ?_ _) | (with_reducible refine Kd.C_drew ?_))); (case side2 => exact (Kd.S_reads' HO497.out).2.1); (case side3 => repeat (first | exact (Kd.Q_reads' HO499.out).2.2 | (with_reducible refine Kd.C_alloc ?_ _) | (with_reducible refine Kd.C_drewN ?_ _) | (with_reducible refine Kd.C_drew ?_))); (case side4 => exact (Kd.Q_reads' HO499.out).2.1); (case side5 => exact Tab.of HT.out (by repeat (first | (with_reducible first | exact HB.out | apply below_alloc | apply pw_below_drewN | apply below_drew1) | exact HB.out))); rintro e w9 ⟨v501, rfl, ho0, hb⟩; have n0_ := Aside0.mk (Kd.S_elder' (by (with_reducible repeat (first | apply Kd.S_alloc | apply Kd.S_drewN | apply Kd.S_drew)); exact HO497.out) (Kd.R_base ho0) hb); have n1_ := Aside0.mk (Kd.Q_elder' (by (with_reducible repeat (first | apply Kd.Q_alloc | apply Kd.Q_drewN | apply Kd.Q_drew)); exact HO499.out) (Kd.R_base ho0) hb); have n2_ := Aside0.mk (Kd.R_lower (Kd.R_new' ho0 (Kd.Q_lt (by (with_reducible repeat (first | apply Kd.Q_alloc | apply Kd.Q_drewN | apply Kd.Q_drew)); exact HO499.out))) (below_size (by repeat (first | (with_reducible first | exact HB.out | apply below_alloc | apply pw_below_drewN | apply below_drew1) | exact HB.out)))); have n3_ := Aside0.mk (below_step (by repeat (first | (with_reducible first | exact HB.out | apply below_alloc | apply pw_below_drewN | apply below_drew1) | exact HB.out)) hb); clear HO497; clear HO499; clear HB; have HO497 := n0_; have HO499 := n1_; have HO502 := n2_; have HB := n3_; clear n0_ n1_ n2_ n3_; (try clear hb); (try clear hb2); (try clear hk); (try clear hi); (try clear ho0))))
    (try simp only [Act.put, List.setIfInBounds_toArray, List.set_cons_zero, List.set_cons_succ])
    go_cut [35] (fun v35 wc => ∃ (kq : Nat) (x35_4 : Bool), v35 = .bool x35_4 ∧ Aside0 (laws_FnUsedUnits.j0 kq t494 t495 t500 x35_4 = some r) ∧ Aside0 (kq ≤ k) ∧ Aside0 (Kd.S k33 33 wc w.heap.size (fun k_ => some k_ ≠ ((.slice Ao8 t495.length co8) : Value).ownBlock ∧ some k_ ≠ (v501 : Value).ownBlock) (.slice Ao7 t494.length co7) t494) ∧ Aside0 (Kd.Q (Kd.int .i64) 3 wc w.heap.size (fun k_ => some k_ ≠ (v501 : Value).ownBlock) (.slice Ao8 t495.length co8) t495) ∧ Aside0 (Kd.R (Kd.int .i64) 73 wc w.heap.size (fun k_ => some k_ ≠ ((.slice Ao8 t495.length co8) : Value).ownBlock) v501 t500) ∧ Aside0 (Below w.heap.size w wc))
    case first =>
      have H := HC5.out
      clear HC5
      replace H := Option.bind_eq_some_iff.mp H
      obtain ⟨t503, A100, H⟩ := H
      replace H : ((laws_equalInts.f k t500 t503).bind fun t506 => (if t506 = true then (if (t500.length : Int) = 0 then (laws_FnUsedUnits.j0 k t494 t495 t500 true) else (laws_FnUsedUnits.j0 k t494 t495 t500 ((t495.length : Int) == 0))) else (laws_FnUsedUnits.j0 k t494 t495 t500 true))) = some r := H
      have A10 := Aside0.mk A100
      clear A100
      replace H := Option.bind_eq_some_iff.mp H
      obtain ⟨t506, A110, H⟩ := H
      replace H : (if t506 = true then (if (t500.length : Int) = 0 then (laws_FnUsedUnits.j0 k t494 t495 t500 true) else (laws_FnUsedUnits.j0 k t494 t495 t500 ((t495.length : Int) == 0))) else (laws_FnUsedUnits.j0 k t494 t495 t500 true)) = some r := H
      have A11 := Aside0.mk A110
      clear A110
      by_cases c12 : t506 = true
      · subst c12
        have H1 : (if (t500.length : Int) = 0 then (laws_FnUsedUnits.j0 k t494 t495 t500 true) else (laws_FnUsedUnits.j0 k t494 t495 t500 ((t495.length : Int) == 0))) = some r := by rw [if_pos rfl] at H; exact H
        clear H
        have H := H1
        clear H1
        by_cases c13 : (t500.length : Int) = 0
        · rw [if_pos c13] at H
          have c13b0 : ((t500.length : Int) == 0) = true := beq_iff_eq.mpr c13
          have c13b1 : ((t500.length : Int) != 0) = false := bne_eq_false_iff_eq.mpr c13
          clear c13
          (first | rw [c13b0] | (simp only [i64_w, i32_w]; rw [c13b0]) | skip)
          have H' := Aside0.mk H
          clear H
          go_wp2_with (first | (go_at_call 25; (with_reducible refine (spec_UsedUnits.calls k _ _ t494 _ _ t495 t503 _ ?side1 ?side2 ?side3 ?side4 A10.out).mono ?_); (case side1 => repeat (first | exact (Kd.S_reads' HO497.out).2.2 | (with_reducible refine Kd.C_alloc ?_ _) | (with_reducible refine Kd.C_drewN ?_ _) | (with_reducible refine Kd.C_drew ?_))); (case side2 => exact (Kd.S_reads' HO497.out).2.1); (case side3 => repeat (first | exact (Kd.Q_reads' HO499.out).2.2 | (with_reducible refine Kd.C_alloc ?_ _) | (with_reducible refine Kd.C_drewN ?_ _) | (with_reducible refine Kd.C_drew ?_))); (case side4 => exact (Kd.Q_reads' HO499.out).2.1); rintro e w14 ⟨v504, rfl, ho0, hb⟩; have n0_ := Aside0.mk (Kd.S_elder' (by (with_reducible repeat (first | apply Kd.S_alloc | apply Kd.S_drewN | apply Kd.S_drew)); exact HO497.out) (Kd.R_base ho0) hb); have n1_ := Aside0.mk (Kd.Q_elder' (by (with_reducible repeat (first | apply Kd.Q_alloc | apply Kd.Q_drewN | apply Kd.Q_drew)); exact HO499.out) (Kd.R_base ho0) hb); have n2_ := Aside0.mk (Kd.R_elder' (by (with_reducible repeat (first | apply Kd.R_alloc | apply Kd.R_drewN | apply Kd.R_drew)); exact HO502.out) (Kd.R_base ho0) hb); have n3_ := Aside0.mk (Kd.R_lower (Kd.R_new' (Kd.R_new' ho0 (Kd.Q_lt (by (with_reducible repeat (first | apply Kd.Q_alloc | apply Kd.Q_drewN | apply Kd.Q_drew)); exact HO499.out))) (Kd.R_lt (by (with_reducible repeat (first | apply Kd.R_alloc | apply Kd.R_drewN | apply Kd.R_drew)); exact HO502.out))) (below_size (by repeat (first | (with_reducible first | exact HB.out | apply below_alloc | apply pw_below_drewN | apply below_drew1) | exact HB.out)))); have n4_ := Aside0.mk (below_step (by repeat (first | (with_reducible first | exact HB.out | apply below_alloc | apply pw_below_drewN | apply below_drew1) | exact HB.out)) hb); clear HO497; clear HO499; clear HO502; clear HB; have HO497 := n0_; have HO499 := n1_; have HO502 := n2_; have HO505 := n3_; have HB := n4_; clear n0_ n1_ n2_ n3_ n4_; (try clear hb); (try clear hb2); (try clear hk); (try clear hi); (try clear ho0); obtain ⟨Ao15, co15, eo15⟩ := Kd.R_slice HO502.out; subst eo15; obtain ⟨Ao16, co16, eo16⟩ := Kd.R_slice HO505.out; subst eo16) | (go_at_call 33; (with_reducible refine (laws_equalInts.calls k _ _ t500 _ _ t503 true _ ?side1 ?side2 ?side3 ?side4 A11.out).mono ?_); (case side1 => repeat (first | exact (Kd.R_reads' HO502.out).2.2 | (with_reducible refine Kd.C_alloc ?_ _) | (with_reducible refine Kd.C_drewN ?_ _) | (with_reducible refine Kd.C_drew ?_))); (case side2 => exact (Kd.R_reads' HO502.out).2.1); (case side3 => repeat (first | exact (Kd.R_reads' HO505.out).2.2 | (with_reducible refine Kd.C_alloc ?_ _) | (with_reducible refine Kd.C_drewN ?_ _) | (with_reducible refine Kd.C_drew ?_))); (case side4 => exact (Kd.R_reads' HO505.out).2.1); rintro e w' ⟨rfl, ⟨nd, rfl⟩⟩; (try first | exact ⟨rfl, _, World.drewN_drewN _ _ _⟩ | exact ⟨rfl, _, Eq.trans (World.drewN_drewN _ _ _) (congrArg (World.drewN _) (Nat.add_assoc _ _ _))⟩)))
          repeat (go_quiet (first | (go_at_call 25; (with_reducible refine (spec_UsedUnits.calls k _ _ t494 _ _ t495 t503 _ ?side1 ?side2 ?side3 ?side4 A10.out).mono ?_); (case side1 => repeat (first | exact (Kd.S_reads' HO497.out).2.2 | (with_reducible refine Kd.C_alloc ?_ _) | (with_reducible refine Kd.C_drewN ?_ _) | (with_reducible refine Kd.C_drew ?_))); (case side2 => exact (Kd.S_reads' HO497.out).2.1); (case side3 => repeat (first | exact (Kd.Q_reads' HO499.out).2.2 | (with_reducible refine Kd.C_alloc ?_ _) | (with_reducible refine Kd.C_drewN ?_ _) | (with_reducible refine Kd.C_drew ?_))); (case side4 => exact (Kd.Q_reads' HO499.out).2.1); rintro e w14 ⟨v504, rfl, ho0, hb⟩; have n0_ := Aside0.mk (Kd.S_elder' (by (with_reducible repeat (first | apply Kd.S_alloc | apply Kd.S_drewN | apply Kd.S_drew)); exact HO497.out) (Kd.R_base ho0) hb); have n1_ := Aside0.mk (Kd.Q_elder' (by (with_reducible repeat (first | apply Kd.Q_alloc | apply Kd.Q_drewN | apply Kd.Q_drew)); exact HO499.out) (Kd.R_base ho0) hb); have n2_ := Aside0.mk (Kd.R_elder' (by (with_reducible repeat (first | apply Kd.R_alloc | apply Kd.R_drewN | apply Kd.R_drew)); exact HO502.out) (Kd.R_base ho0) hb); have n3_ := Aside0.mk (Kd.R_lower (Kd.R_new' (Kd.R_new' ho0 (Kd.Q_lt (by (with_reducible repeat (first | apply Kd.Q_alloc | apply Kd.Q_drewN | apply Kd.Q_drew)); exact HO499.out))) (Kd.R_lt (by (with_reducible repeat (first | apply Kd.R_alloc | apply Kd.R_drewN | apply Kd.R_drew)); exact HO502.out))) (below_size (by repeat (first | (with_reducible first | exact HB.out | apply below_alloc | apply pw_below_drewN | apply below_drew1) | exact HB.out)))); have n4_ := Aside0.mk (below_step (by repeat (first | (with_reducible first | exact HB.out | apply below_alloc | apply pw_below_drewN | apply below_drew1) | exact HB.out)) hb); clear HO497; clear HO499; clear HO502; clear HB; have HO497 := n0_; have HO499 := n1_; have HO502 := n2_; have HO505 := n3_; have HB := n4_; clear n0_ n1_ n2_ n3_ n4_; (try clear hb); (try clear hb2); (try clear hk); (try clear hi); (try clear ho0); obtain ⟨Ao15, co15, eo15⟩ := Kd.R_slice HO502.out; subst eo15; obtain ⟨Ao16, co16, eo16⟩ := Kd.R_slice HO505.out; subst eo16) | (go_at_call 33; (with_reducible refine (laws_equalInts.calls k _ _ t500 _ _ t503 true _ ?side1 ?side2 ?side3 ?side4 A11.out).mono ?_); (case side1 => repeat (first | exact (Kd.R_reads' HO502.out).2.2 | (with_reducible refine Kd.C_alloc ?_ _) | (with_reducible refine Kd.C_drewN ?_ _) | (with_reducible refine Kd.C_drew ?_))); (case side2 => exact (Kd.R_reads' HO502.out).2.1); (case side3 => repeat (first | exact (Kd.R_reads' HO505.out).2.2 | (with_reducible refine Kd.C_alloc ?_ _) | (with_reducible refine Kd.C_drewN ?_ _) | (with_reducible refine Kd.C_drew ?_))); (case side4 => exact (Kd.R_reads' HO505.out).2.1); rintro e w' ⟨rfl, ⟨nd, rfl⟩⟩; (try first | exact ⟨rfl, _, World.drewN_drewN _ _ _⟩ | exact ⟨rfl, _, Eq.trans (World.drewN_drewN _ _ _) (congrArg (World.drewN _) (Nat.add_assoc _ _ _))⟩))); try go_wp2_with (first | (go_at_call 25; (with_reducible refine (spec_UsedUnits.calls k _ _ t494 _ _ t495 t503 _ ?side1 ?side2 ?side3 ?side4 A10.out).mono ?_); (case side1 => repeat (first | exact (Kd.S_reads' HO497.out).2.2 | (with_reducible refine Kd.C_alloc ?_ _) | (with_reducible refine Kd.C_drewN ?_ _) | (with_reducible refine Kd.C_drew ?_))); (case side2 => exact (Kd.S_reads' HO497.out).2.1); (case side3 => repeat (first | exact (Kd.Q_reads' HO499.out).2.2 | (with_reducible refine Kd.C_alloc ?_ _) | (with_reducible refine Kd.C_drewN ?_ _) | (with_reducible refine Kd.C_drew ?_))); (case side4 => exact (Kd.Q_reads' HO499.out).2.1); rintro e w14 ⟨v504, rfl, ho0, hb⟩; have n0_ := Aside0.mk (Kd.S_elder' (by (with_reducible repeat (first | apply Kd.S_alloc | apply Kd.S_drewN | apply Kd.S_drew)); exact HO497.out) (Kd.R_base ho0) hb); have n1_ := Aside0.mk (Kd.Q_elder' (by (with_reducible repeat (first | apply Kd.Q_alloc | apply Kd.Q_drewN | apply Kd.Q_drew)); exact HO499.out) (Kd.R_base ho0) hb); have n2_ := Aside0.mk (Kd.R_elder' (by (with_reducible repeat (first | apply Kd.R_alloc | apply Kd.R_drewN | apply Kd.R_drew)); exact HO502.out) (Kd.R_base ho0) hb); have n3_ := Aside0.mk (Kd.R_lower (Kd.R_new' (Kd.R_new' ho0 (Kd.Q_lt (by (with_reducible repeat (first | apply Kd.Q_alloc | apply Kd.Q_drewN | apply Kd.Q_drew)); exact HO499.out))) (Kd.R_lt (by (with_reducible repeat (first | apply Kd.R_alloc | apply Kd.R_drewN | apply Kd.R_drew)); exact HO502.out))) (below_size (by repeat (first | (with_reducible first | exact HB.out | apply below_alloc | apply pw_below_drewN | apply below_drew1) | exact HB.out)))); have n4_ := Aside0.mk (below_step (by repeat (first | (with_reducible first | exact HB.out | apply below_alloc | apply pw_below_drewN | apply below_drew1) | exact HB.out)) hb); clear HO497; clear HO499; clear HO502; clear HB; have HO497 := n0_; have HO499 := n1_; have HO502 := n2_; have HO505 := n3_; have HB := n4_; clear n0_ n1_ n2_ n3_ n4_; (try clear hb); (try clear hb2); (try clear hk); (try clear hi); (try clear ho0); obtain ⟨Ao15, co15, eo15⟩ := Kd.R_slice HO502.out; subst eo15; obtain ⟨Ao16, co16, eo16⟩ := Kd.R_slice HO505.out; subst eo16) | (go_at_call 33; (with_reducible refine (laws_equalInts.calls k _ _ t500 _ _ t503 true _ ?side1 ?side2 ?side3 ?side4 A11.out).mono ?_); (case side1 => repeat (first | exact (Kd.R_reads' HO502.out).2.2 | (with_reducible refine Kd.C_alloc ?_ _) | (with_reducible refine Kd.C_drewN ?_ _) | (with_reducible refine Kd.C_drew ?_))); (case side2 => exact (Kd.R_reads' HO502.out).2.1); (case side3 => repeat (first | exact (Kd.R_reads' HO505.out).2.2 | (with_reducible refine Kd.C_alloc ?_ _) | (with_reducible refine Kd.C_drewN ?_ _) | (with_reducible refine Kd.C_drew ?_))); (case side4 => exact (Kd.R_reads' HO505.out).2.1); rintro e w' ⟨rfl, ⟨nd, rfl⟩⟩; (try first | exact ⟨rfl, _, World.drewN_drewN _ _ _⟩ | exact ⟨rfl, _, Eq.trans (World.drewN_drewN _ _ _) (congrArg (World.drewN _) (Nat.add_assoc _ _ _))⟩))))
          go_meet
          case rel => exact ⟨_, (true), (by first | rfl | (simp; done) | (simp [*]; done)), H', ⟨by first | omega | exact Nat.le_refl _⟩, ⟨by (with_reducible repeat (first | apply Kd.S_alloc | apply Kd.S_drewN | apply Kd.S_drew)); exact Kd.S_mono HO497.out (fun _ hk => ⟨hk.1.1, hk.1.2⟩)⟩, ⟨by (with_reducible repeat (first | apply Kd.Q_alloc | apply Kd.Q_drewN | apply Kd.Q_drew)); exact Kd.Q_mono HO499.out (fun _ hk => hk.1.2)⟩, ⟨by (with_reducible repeat (first | apply Kd.R_alloc | apply Kd.R_drewN | apply Kd.R_drew)); exact Kd.R_mono HO502.out (fun _ hk => hk.1.2)⟩, ⟨by repeat (first | (with_reducible first | exact HB.out | apply below_alloc | apply pw_below_drewN | apply below_drew1) | exact HB.out)⟩⟩
        · rw [if_neg c13] at H
          have c13b0 : ((t500.length : Int) == 0) = false := beq_eq_false_iff_ne.mpr c13
          have c13b1 : ((t500.length : Int) != 0) = true := bne_iff_ne.mpr c13
          have c13b2 : ¬ (t500 = []) := fun h_ => c13 (by rw [h_]; rfl)
          (first | rw [c13b0] | (simp only [i64_w, i32_w]; rw [c13b0]) | skip)
          have H' := Aside0.mk H
          clear H
          go_wp2_with (first | (go_at_call 25; (with_reducible refine (spec_UsedUnits.calls k _ _ t494 _ _ t495 t503 _ ?side1 ?side2 ?side3 ?side4 A10.out).mono ?_); (case side1 => repeat (first | exact (Kd.S_reads' HO497.out).2.2 | (with_reducible refine Kd.C_alloc ?_ _) | (with_reducible refine Kd.C_drewN ?_ _) | (with_reducible refine Kd.C_drew ?_))); (case side2 => exact (Kd.S_reads' HO497.out).2.1); (case side3 => repeat (first | exact (Kd.Q_reads' HO499.out).2.2 | (with_reducible refine Kd.C_alloc ?_ _) | (with_reducible refine Kd.C_drewN ?_ _) | (with_reducible refine Kd.C_drew ?_))); (case side4 => exact (Kd.Q_reads' HO499.out).2.1); rintro e w17 ⟨v504, rfl, ho0, hb⟩; have n0_ := Aside0.mk (Kd.S_elder' (by (with_reducible repeat (first | apply Kd.S_alloc | apply Kd.S_drewN | apply Kd.S_drew)); exact HO497.out) (Kd.R_base ho0) hb); have n1_ := Aside0.mk (Kd.Q_elder' (by (with_reducible repeat (first | apply Kd.Q_alloc | apply Kd.Q_drewN | apply Kd.Q_drew)); exact HO499.out) (Kd.R_base ho0) hb); have n2_ := Aside0.mk (Kd.R_elder' (by (with_reducible repeat (first | apply Kd.R_alloc | apply Kd.R_drewN | apply Kd.R_drew)); exact HO502.out) (Kd.R_base ho0) hb); have n3_ := Aside0.mk (Kd.R_lower (Kd.R_new' (Kd.R_new' ho0 (Kd.Q_lt (by (with_reducible repeat (first | apply Kd.Q_alloc | apply Kd.Q_drewN | apply Kd.Q_drew)); exact HO499.out))) (Kd.R_lt (by (with_reducible repeat (first | apply Kd.R_alloc | apply Kd.R_drewN | apply Kd.R_drew)); exact HO502.out))) (below_size (by repeat (first | (with_reducible first | exact HB.out | apply below_alloc | apply pw_below_drewN | apply below_drew1) | exact HB.out)))); have n4_ := Aside0.mk (below_step (by repeat (first | (with_reducible first | exact HB.out | apply below_alloc | apply pw_below_drewN | apply below_drew1) | exact HB.out)) hb); clear HO497; clear HO499; clear HO502; clear HB; have HO497 := n0_; have HO499 := n1_; have HO502 := n2_; have HO505 := n3_; have HB := n4_; clear n0_ n1_ n2_ n3_ n4_; (try clear hb); (try clear hb2); (try clear hk); (try clear hi); (try clear ho0); obtain ⟨Ao18, co18, eo18⟩ := Kd.R_slice HO502.out; subst eo18; obtain ⟨Ao19, co19, eo19⟩ := Kd.R_slice HO505.out; subst eo19) | (go_at_call 33; (with_reducible refine (laws_equalInts.calls k _ _ t500 _ _ t503 true _ ?side1 ?side2 ?side3 ?side4 A11.out).mono ?_); (case side1 => repeat (first | exact (Kd.R_reads' HO502.out).2.2 | (with_reducible refine Kd.C_alloc ?_ _) | (with_reducible refine Kd.C_drewN ?_ _) | (with_reducible refine Kd.C_drew ?_))); (case side2 => exact (Kd.R_reads' HO502.out).2.1); (case side3 => repeat (first | exact (Kd.R_reads' HO505.out).2.2 | (with_reducible refine Kd.C_alloc ?_ _) | (with_reducible refine Kd.C_drewN ?_ _) | (with_reducible refine Kd.C_drew ?_))); (case side4 => exact (Kd.R_reads' HO505.out).2.1); rintro e w' ⟨rfl, ⟨nd, rfl⟩⟩; (try first | exact ⟨rfl, _, World.drewN_drewN _ _ _⟩ | exact ⟨rfl, _, Eq.trans (World.drewN_drewN _ _ _) (congrArg (World.drewN _) (Nat.add_assoc _ _ _))⟩)))
          repeat (go_quiet (first | (go_at_call 25; (with_reducible refine (spec_UsedUnits.calls k _ _ t494 _ _ t495 t503 _ ?side1 ?side2 ?side3 ?side4 A10.out).mono ?_); (case side1 => repeat (first | exact (Kd.S_reads' HO497.out).2.2 | (with_reducible refine Kd.C_alloc ?_ _) | (with_reducible refine Kd.C_drewN ?_ _) | (with_reducible refine Kd.C_drew ?_))); (case side2 => exact (Kd.S_reads' HO497.out).2.1); (case side3 => repeat (first | exact (Kd.Q_reads' HO499.out).2.2 | (with_reducible refine Kd.C_alloc ?_ _) | (with_reducible refine Kd.C_drewN ?_ _) | (with_reducible refine Kd.C_drew ?_))); (case side4 => exact (Kd.Q_reads' HO499.out).2.1); rintro e w17 ⟨v504, rfl, ho0, hb⟩; have n0_ := Aside0.mk (Kd.S_elder' (by (with_reducible repeat (first | apply Kd.S_alloc | apply Kd.S_drewN | apply Kd.S_drew)); exact HO497.out) (Kd.R_base ho0) hb); have n1_ := Aside0.mk (Kd.Q_elder' (by (with_reducible repeat (first | apply Kd.Q_alloc | apply Kd.Q_drewN | apply Kd.Q_drew)); exact HO499.out) (Kd.R_base ho0) hb); have n2_ := Aside0.mk (Kd.R_elder' (by (with_reducible repeat (first | apply Kd.R_alloc | apply Kd.R_drewN | apply Kd.R_drew)); exact HO502.out) (Kd.R_base ho0) hb); have n3_ := Aside0.mk (Kd.R_lower (Kd.R_new' (Kd.R_new' ho0 (Kd.Q_lt (by (with_reducible repeat (first | apply Kd.Q_alloc | apply Kd.Q_drewN | apply Kd.Q_drew)); exact HO499.out))) (Kd.R_lt (by (with_reducible repeat (first | apply Kd.R_alloc | apply Kd.R_drewN | apply Kd.R_drew)); exact HO502.out))) (below_size (by repeat (first | (with_reducible first | exact HB.out | apply below_alloc | apply pw_below_drewN | apply below_drew1) | exact HB.out)))); have n4_ := Aside0.mk (below_step (by repeat (first | (with_reducible first | exact HB.out | apply below_alloc | apply pw_below_drewN | apply below_drew1) | exact HB.out)) hb); clear HO497; clear HO499; clear HO502; clear HB; have HO497 := n0_; have HO499 := n1_; have HO502 := n2_; have HO505 := n3_; have HB := n4_; clear n0_ n1_ n2_ n3_ n4_; (try clear hb); (try clear hb2); (try clear hk); (try clear hi); (try clear ho0); obtain ⟨Ao18, co18, eo18⟩ := Kd.R_slice HO502.out; subst eo18; obtain ⟨Ao19, co19, eo19⟩ := Kd.R_slice HO505.out; subst eo19) | (go_at_call 33; (with_reducible refine (laws_equalInts.calls k _ _ t500 _ _ t503 true _ ?side1 ?side2 ?side3 ?side4 A11.out).mono ?_); (case side1 => repeat (first | exact (Kd.R_reads' HO502.out).2.2 | (with_reducible refine Kd.C_alloc ?_ _) | (with_reducible refine Kd.C_drewN ?_ _) | (with_reducible refine Kd.C_drew ?_))); (case side2 => exact (Kd.R_reads' HO502.out).2.1); (case side3 => repeat (first | exact (Kd.R_reads' HO505.out).2.2 | (with_reducible refine Kd.C_alloc ?_ _) | (with_reducible refine Kd.C_drewN ?_ _) | (with_reducible refine Kd.C_drew ?_))); (case side4 => exact (Kd.R_reads' HO505.out).2.1); rintro e w' ⟨rfl, ⟨nd, rfl⟩⟩; (try first | exact ⟨rfl, _, World.drewN_drewN _ _ _⟩ | exact ⟨rfl, _, Eq.trans (World.drewN_drewN _ _ _) (congrArg (World.drewN _) (Nat.add_assoc _ _ _))⟩))); try go_wp2_with (first | (go_at_call 25; (with_reducible refine (spec_UsedUnits.calls k _ _ t494 _ _ t495 t503 _ ?side1 ?side2 ?side3 ?side4 A10.out).mono ?_); (case side1 => repeat (first | exact (Kd.S_reads' HO497.out).2.2 | (with_reducible refine Kd.C_alloc ?_ _) | (with_reducible refine Kd.C_drewN ?_ _) | (with_reducible refine Kd.C_drew ?_))); (case side2 => exact (Kd.S_reads' HO497.out).2.1); (case side3 => repeat (first | exact (Kd.Q_reads' HO499.out).2.2 | (with_reducible refine Kd.C_alloc ?_ _) | (with_reducible refine Kd.C_drewN ?_ _) | (with_reducible refine Kd.C_drew ?_))); (case side4 => exact (Kd.Q_reads' HO499.out).2.1); rintro e w17 ⟨v504, rfl, ho0, hb⟩; have n0_ := Aside0.mk (Kd.S_elder' (by (with_reducible repeat (first | apply Kd.S_alloc | apply Kd.S_drewN | apply Kd.S_drew)); exact HO497.out) (Kd.R_base ho0) hb); have n1_ := Aside0.mk (Kd.Q_elder' (by (with_reducible repeat (first | apply Kd.Q_alloc | apply Kd.Q_drewN | apply Kd.Q_drew)); exact HO499.out) (Kd.R_base ho0) hb); have n2_ := Aside0.mk (Kd.R_elder' (by (with_reducible repeat (first | apply Kd.R_alloc | apply Kd.R_drewN | apply Kd.R_drew)); exact HO502.out) (Kd.R_base ho0) hb); have n3_ := Aside0.mk (Kd.R_lower (Kd.R_new' (Kd.R_new' ho0 (Kd.Q_lt (by (with_reducible repeat (first | apply Kd.Q_alloc | apply Kd.Q_drewN | apply Kd.Q_drew)); exact HO499.out))) (Kd.R_lt (by (with_reducible repeat (first | apply Kd.R_alloc | apply Kd.R_drewN | apply Kd.R_drew)); exact HO502.out))) (below_size (by repeat (first | (with_reducible first | exact HB.out | apply below_alloc | apply pw_below_drewN | apply below_drew1) | exact HB.out)))); have n4_ := Aside0.mk (below_step (by repeat (first | (with_reducible first | exact HB.out | apply below_alloc | apply pw_below_drewN | apply below_drew1) | exact HB.out)) hb); clear HO497; clear HO499; clear HO502; clear HB; have HO497 := n0_; have HO499 := n1_; have HO502 := n2_; have HO505 := n3_; have HB := n4_; clear n0_ n1_ n2_ n3_ n4_; (try clear hb); (try clear hb2); (try clear hk); (try clear hi); (try clear ho0); obtain ⟨Ao18, co18, eo18⟩ := Kd.R_slice HO502.out; subst eo18; obtain ⟨Ao19, co19, eo19⟩ := Kd.R_slice HO505.out; subst eo19) | (go_at_call 33; (with_reducible refine (laws_equalInts.calls k _ _ t500 _ _ t503 true _ ?side1 ?side2 ?side3 ?side4 A11.out).mono ?_); (case side1 => repeat (first | exact (Kd.R_reads' HO502.out).2.2 | (with_reducible refine Kd.C_alloc ?_ _) | (with_reducible refine Kd.C_drewN ?_ _) | (with_reducible refine Kd.C_drew ?_))); (case side2 => exact (Kd.R_reads' HO502.out).2.1); (case side3 => repeat (first | exact (Kd.R_reads' HO505.out).2.2 | (with_reducible refine Kd.C_alloc ?_ _) | (with_reducible refine Kd.C_drewN ?_ _) | (with_reducible refine Kd.C_drew ?_))); (case side4 => exact (Kd.R_reads' HO505.out).2.1); rintro e w' ⟨rfl, ⟨nd, rfl⟩⟩; (try first | exact ⟨rfl, _, World.drewN_drewN _ _ _⟩ | exact ⟨rfl, _, Eq.trans (World.drewN_drewN _ _ _) (congrArg (World.drewN _) (Nat.add_assoc _ _ _))⟩))))
          go_meet
          case rel => exact ⟨_, (((t495.length : Int) == 0)), (by first | rfl | (simp; done) | (simp [*]; done)), H', ⟨by first | omega | exact Nat.le_refl _⟩, ⟨by (with_reducible repeat (first | apply Kd.S_alloc | apply Kd.S_drewN | apply Kd.S_drew)); exact Kd.S_mono HO497.out (fun _ hk => ⟨hk.1.1, hk.1.2⟩)⟩, ⟨by (with_reducible repeat (first | apply Kd.Q_alloc | apply Kd.Q_drewN | apply Kd.Q_drew)); exact Kd.Q_mono HO499.out (fun _ hk => hk.1.2)⟩, ⟨by (with_reducible repeat (first | apply Kd.R_alloc | apply Kd.R_drewN | apply Kd.R_drew)); exact Kd.R_mono HO502.out (fun _ hk => hk.1.2)⟩, ⟨by repeat (first | (with_reducible first | exact HB.out | apply below_alloc | apply pw_below_drewN | apply below_drew1) | exact HB.out)⟩⟩
      · replace c12 := Bool.eq_false_iff.mpr c12
        subst c12
        have H1 : (laws_FnUsedUnits.j0 k t494 t495 t500 true) = some r := by rw [if_neg (show ¬ (false = true) by decide)] at H; exact H
        clear H
        have H := H1
        clear H1
        have H' := Aside0.mk H
        clear H
        go_wp2_with (first | (go_at_call 25; (with_reducible refine (spec_UsedUnits.calls k _ _ t494 _ _ t495 t503 _ ?side1 ?side2 ?side3 ?side4 A10.out).mono ?_); (case side1 => repeat (first | exact (Kd.S_reads' HO497.out).2.2 | (with_reducible refine Kd.C_alloc ?_ _) | (with_reducible refine Kd.C_drewN ?_ _) | (with_reducible refine Kd.C_drew ?_))); (case side2 => exact (Kd.S_reads' HO497.out).2.1); (case side3 => repeat (first | exact (Kd.Q_reads' HO499.out).2.2 | (with_reducible refine Kd.C_alloc ?_ _) | (with_reducible refine Kd.C_drewN ?_ _) | (with_reducible refine Kd.C_drew ?_))); (case side4 => exact (Kd.Q_reads' HO499.out).2.1); rintro e w20 ⟨v504, rfl, ho0, hb⟩; have n0_ := Aside0.mk (Kd.S_elder' (by (with_reducible repeat (first | apply Kd.S_alloc | apply Kd.S_drewN | apply Kd.S_drew)); exact HO497.out) (Kd.R_base ho0) hb); have n1_ := Aside0.mk (Kd.Q_elder' (by (with_reducible repeat (first | apply Kd.Q_alloc | apply Kd.Q_drewN | apply Kd.Q_drew)); exact HO499.out) (Kd.R_base ho0) hb); have n2_ := Aside0.mk (Kd.R_elder' (by (with_reducible repeat (first | apply Kd.R_alloc | apply Kd.R_drewN | apply Kd.R_drew)); exact HO502.out) (Kd.R_base ho0) hb); have n3_ := Aside0.mk (Kd.R_lower (Kd.R_new' (Kd.R_new' ho0 (Kd.Q_lt (by (with_reducible repeat (first | apply Kd.Q_alloc | apply Kd.Q_drewN | apply Kd.Q_drew)); exact HO499.out))) (Kd.R_lt (by (with_reducible repeat (first | apply Kd.R_alloc | apply Kd.R_drewN | apply Kd.R_drew)); exact HO502.out))) (below_size (by repeat (first | (with_reducible first | exact HB.out | apply below_alloc | apply pw_below_drewN | apply below_drew1) | exact HB.out)))); have n4_ := Aside0.mk (below_step (by repeat (first | (with_reducible first | exact HB.out | apply below_alloc | apply pw_below_drewN | apply below_drew1) | exact HB.out)) hb); clear HO497; clear HO499; clear HO502; clear HB; have HO497 := n0_; have HO499 := n1_; have HO502 := n2_; have HO505 := n3_; have HB := n4_; clear n0_ n1_ n2_ n3_ n4_; (try clear hb); (try clear hb2); (try clear hk); (try clear hi); (try clear ho0); obtain ⟨Ao21, co21, eo21⟩ := Kd.R_slice HO502.out; subst eo21; obtain ⟨Ao22, co22, eo22⟩ := Kd.R_slice HO505.out; subst eo22) | (go_at_call 33; (with_reducible refine (laws_equalInts.calls k _ _ t500 _ _ t503 false _ ?side1 ?side2 ?side3 ?side4 A11.out).mono ?_); (case side1 => repeat (first | exact (Kd.R_reads' HO502.out).2.2 | (with_reducible refine Kd.C_alloc ?_ _) | (with_reducible refine Kd.C_drewN ?_ _) | (with_reducible refine Kd.C_drew ?_))); (case side2 => exact (Kd.R_reads' HO502.out).2.1); (case side3 => repeat (first | exact (Kd.R_reads' HO505.out).2.2 | (with_reducible refine Kd.C_alloc ?_ _) | (with_reducible refine Kd.C_drewN ?_ _) | (with_reducible refine Kd.C_drew ?_))); (case side4 => exact (Kd.R_reads' HO505.out).2.1); rintro e w' ⟨rfl, ⟨nd, rfl⟩⟩; (try first | exact ⟨rfl, _, World.drewN_drewN _ _ _⟩ | exact ⟨rfl, _, Eq.trans (World.drewN_drewN _ _ _) (congrArg (World.drewN _) (Nat.add_assoc _ _ _))⟩)))
        repeat (go_quiet (first | (go_at_call 25; (with_reducible refine (spec_UsedUnits.calls k _ _ t494 _ _ t495 t503 _ ?side1 ?side2 ?side3 ?side4 A10.out).mono ?_); (case side1 => repeat (first | exact (Kd.S_reads' HO497.out).2.2 | (with_reducible refine Kd.C_alloc ?_ _) | (with_reducible refine Kd.C_drewN ?_ _) | (with_reducible refine Kd.C_drew ?_))); (case side2 => exact (Kd.S_reads' HO497.out).2.1); (case side3 => repeat (first | exact (Kd.Q_reads' HO499.out).2.2 | (with_reducible refine Kd.C_alloc ?_ _) | (with_reducible refine Kd.C_drewN ?_ _) | (with_reducible refine Kd.C_drew ?_))); (case side4 => exact (Kd.Q_reads' HO499.out).2.1); rintro e w20 ⟨v504, rfl, ho0, hb⟩; have n0_ := Aside0.mk (Kd.S_elder' (by (with_reducible repeat (first | apply Kd.S_alloc | apply Kd.S_drewN | apply Kd.S_drew)); exact HO497.out) (Kd.R_base ho0) hb); have n1_ := Aside0.mk (Kd.Q_elder' (by (with_reducible repeat (first | apply Kd.Q_alloc | apply Kd.Q_drewN | apply Kd.Q_drew)); exact HO499.out) (Kd.R_base ho0) hb); have n2_ := Aside0.mk (Kd.R_elder' (by (with_reducible repeat (first | apply Kd.R_alloc | apply Kd.R_drewN | apply Kd.R_drew)); exact HO502.out) (Kd.R_base ho0) hb); have n3_ := Aside0.mk (Kd.R_lower (Kd.R_new' (Kd.R_new' ho0 (Kd.Q_lt (by (with_reducible repeat (first | apply Kd.Q_alloc | apply Kd.Q_drewN | apply Kd.Q_drew)); exact HO499.out))) (Kd.R_lt (by (with_reducible repeat (first | apply Kd.R_alloc | apply Kd.R_drewN | apply Kd.R_drew)); exact HO502.out))) (below_size (by repeat (first | (with_reducible first | exact HB.out | apply below_alloc | apply pw_below_drewN | apply below_drew1) | exact HB.out)))); have n4_ := Aside0.mk (below_step (by repeat (first | (with_reducible first | exact HB.out | apply below_alloc | apply pw_below_drewN | apply below_drew1) | exact HB.out)) hb); clear HO497; clear HO499; clear HO502; clear HB; have HO497 := n0_; have HO499 := n1_; have HO502 := n2_; have HO505 := n3_; have HB := n4_; clear n0_ n1_ n2_ n3_ n4_; (try clear hb); (try clear hb2); (try clear hk); (try clear hi); (try clear ho0); obtain ⟨Ao21, co21, eo21⟩ := Kd.R_slice HO502.out; subst eo21; obtain ⟨Ao22, co22, eo22⟩ := Kd.R_slice HO505.out; subst eo22) | (go_at_call 33; (with_reducible refine (laws_equalInts.calls k _ _ t500 _ _ t503 false _ ?side1 ?side2 ?side3 ?side4 A11.out).mono ?_); (case side1 => repeat (first | exact (Kd.R_reads' HO502.out).2.2 | (with_reducible refine Kd.C_alloc ?_ _) | (with_reducible refine Kd.C_drewN ?_ _) | (with_reducible refine Kd.C_drew ?_))); (case side2 => exact (Kd.R_reads' HO502.out).2.1); (case side3 => repeat (first | exact (Kd.R_reads' HO505.out).2.2 | (with_reducible refine Kd.C_alloc ?_ _) | (with_reducible refine Kd.C_drewN ?_ _) | (with_reducible refine Kd.C_drew ?_))); (case side4 => exact (Kd.R_reads' HO505.out).2.1); rintro e w' ⟨rfl, ⟨nd, rfl⟩⟩; (try first | exact ⟨rfl, _, World.drewN_drewN _ _ _⟩ | exact ⟨rfl, _, Eq.trans (World.drewN_drewN _ _ _) (congrArg (World.drewN _) (Nat.add_assoc _ _ _))⟩))); try go_wp2_with (first | (go_at_call 25; (with_reducible refine (spec_UsedUnits.calls k _ _ t494 _ _ t495 t503 _ ?side1 ?side2 ?side3 ?side4 A10.out).mono ?_); (case side1 => repeat (first | exact (Kd.S_reads' HO497.out).2.2 | (with_reducible refine Kd.C_alloc ?_ _) | (with_reducible refine Kd.C_drewN ?_ _) | (with_reducible refine Kd.C_drew ?_))); (case side2 => exact (Kd.S_reads' HO497.out).2.1); (case side3 => repeat (first | exact (Kd.Q_reads' HO499.out).2.2 | (with_reducible refine Kd.C_alloc ?_ _) | (with_reducible refine Kd.C_drewN ?_ _) | (with_reducible refine Kd.C_drew ?_))); (case side4 => exact (Kd.Q_reads' HO499.out).2.1); rintro e w20 ⟨v504, rfl, ho0, hb⟩; have n0_ := Aside0.mk (Kd.S_elder' (by (with_reducible repeat (first | apply Kd.S_alloc | apply Kd.S_drewN | apply Kd.S_drew)); exact HO497.out) (Kd.R_base ho0) hb); have n1_ := Aside0.mk (Kd.Q_elder' (by (with_reducible repeat (first | apply Kd.Q_alloc | apply Kd.Q_drewN | apply Kd.Q_drew)); exact HO499.out) (Kd.R_base ho0) hb); have n2_ := Aside0.mk (Kd.R_elder' (by (with_reducible repeat (first | apply Kd.R_alloc | apply Kd.R_drewN | apply Kd.R_drew)); exact HO502.out) (Kd.R_base ho0) hb); have n3_ := Aside0.mk (Kd.R_lower (Kd.R_new' (Kd.R_new' ho0 (Kd.Q_lt (by (with_reducible repeat (first | apply Kd.Q_alloc | apply Kd.Q_drewN | apply Kd.Q_drew)); exact HO499.out))) (Kd.R_lt (by (with_reducible repeat (first | apply Kd.R_alloc | apply Kd.R_drewN | apply Kd.R_drew)); exact HO502.out))) (below_size (by repeat (first | (with_reducible first | exact HB.out | apply below_alloc | apply pw_below_drewN | apply below_drew1) | exact HB.out)))); have n4_ := Aside0.mk (below_step (by repeat (first | (with_reducible first | exact HB.out | apply below_alloc | apply pw_below_drewN | apply below_drew1) | exact HB.out)) hb); clear HO497; clear HO499; clear HO502; clear HB; have HO497 := n0_; have HO499 := n1_; have HO502 := n2_; have HO505 := n3_; have HB := n4_; clear n0_ n1_ n2_ n3_ n4_; (try clear hb); (try clear hb2); (try clear hk); (try clear hi); (try clear ho0); obtain ⟨Ao21, co21, eo21⟩ := Kd.R_slice HO502.out; subst eo21; obtain ⟨Ao22, co22, eo22⟩ := Kd.R_slice HO505.out; subst eo22) | (go_at_call 33; (with_reducible refine (laws_equalInts.calls k _ _ t500 _ _ t503 false _ ?side1 ?side2 ?side3 ?side4 A11.out).mono ?_); (case side1 => repeat (first | exact (Kd.R_reads' HO502.out).2.2 | (with_reducible refine Kd.C_alloc ?_ _) | (with_reducible refine Kd.C_drewN ?_ _) | (with_reducible refine Kd.C_drew ?_))); (case side2 => exact (Kd.R_reads' HO502.out).2.1); (case side3 => repeat (first | exact (Kd.R_reads' HO505.out).2.2 | (with_reducible refine Kd.C_alloc ?_ _) | (with_reducible refine Kd.C_drewN ?_ _) | (with_reducible refine Kd.C_drew ?_))); (case side4 => exact (Kd.R_reads' HO505.out).2.1); rintro e w' ⟨rfl, ⟨nd, rfl⟩⟩; (try first | exact ⟨rfl, _, World.drewN_drewN _ _ _⟩ | exact ⟨rfl, _, Eq.trans (World.drewN_drewN _ _ _) (congrArg (World.drewN _) (Nat.add_assoc _ _ _))⟩))))
        go_meet
        case rel => exact ⟨_, (true), (by first | rfl | (simp; done) | (simp [*]; done)), H', ⟨by first | omega | exact Nat.le_refl _⟩, ⟨by (with_reducible repeat (first | apply Kd.S_alloc | apply Kd.S_drewN | apply Kd.S_drew)); exact Kd.S_mono HO497.out (fun _ hk => ⟨hk.1.1, hk.1.2⟩)⟩, ⟨by (with_reducible repeat (first | apply Kd.Q_alloc | apply Kd.Q_drewN | apply Kd.Q_drew)); exact Kd.Q_mono HO499.out (fun _ hk => hk.1.2)⟩, ⟨by (with_reducible repeat (first | apply Kd.R_alloc | apply Kd.R_drewN | apply Kd.R_drew)); exact Kd.R_mono HO502.out (fun _ hk => hk.1.2)⟩, ⟨by repeat (first | (with_reducible first | exact HB.out | apply below_alloc | apply pw_below_drewN | apply below_drew1) | exact HB.out)⟩⟩
    case rest =>
      clear HC5
      try clear c1
      try clear c2
      try clear c2b0
      try clear c2b1
      try clear p2
      try clear c8
      try clear c12
      try clear c13
      try clear c13b0
      try clear c13b1
      try clear c13b2
      obtain ⟨kq, x35_4, rfl, HA, HJ4, HO_3, HO_4, HO_5, HB⟩ := hcut
      cases kq with
      | zero => exact absurd HA.out (by simp [laws_FnUsedUnits.j0])
      | succ kj4 =>
        have H := HA.out
        clear HA
        simp only [laws_FnUsedUnits.j0] at H
        by_cases c23 : x35_4 = true
        · subst c23
          have H1 : ((spec_UsedUnits.f kj4 t494 t495).bind fun t507 => ((laws_equalInts.f kj4 t500 t507).bind fun t510 => (some t510))) = some r := by rw [if_pos rfl] at H; exact H
          clear H
          have H := H1
          clear H1
          replace H := Option.bind_eq_some_iff.mp H
          obtain ⟨t507, A240, H⟩ := H
          replace H : ((laws_equalInts.f kj4 t500 t507).bind fun t510 => (some t510)) = some r := H
          have A24 := Aside0.mk A240
          clear A240
          replace H := Option.bind_eq_some_iff.mp H
          obtain ⟨t510, A250, H⟩ := H
          replace H : (some t510) = some r := H
          have A25 := Aside0.mk A250
          clear A250
          obtain rfl := Option.some.inj H
          go_wp2_with (first | (go_at_call 25; (with_reducible refine (spec_UsedUnits.calls kj4 _ _ t494 _ _ t495 t507 _ ?side1 ?side2 ?side3 ?side4 A24.out).mono ?_); (case side1 => repeat (first | exact (Kd.S_reads' HO_3.out).2.2 | (with_reducible refine Kd.C_alloc ?_ _) | (with_reducible refine Kd.C_drewN ?_ _) | (with_reducible refine Kd.C_drew ?_))); (case side2 => exact (Kd.S_reads' HO_3.out).2.1); (case side3 => repeat (first | exact (Kd.Q_reads' HO_4.out).2.2 | (with_reducible refine Kd.C_alloc ?_ _) | (with_reducible refine Kd.C_drewN ?_ _) | (with_reducible refine Kd.C_drew ?_))); (case side4 => exact (Kd.Q_reads' HO_4.out).2.1); rintro e w26 ⟨v508, rfl, ho0, hb⟩; have n0_ := Aside0.mk (Kd.S_elder' (by (with_reducible repeat (first | apply Kd.S_alloc | apply Kd.S_drewN | apply Kd.S_drew)); exact HO_3.out) (Kd.R_base ho0) hb); have n1_ := Aside0.mk (Kd.Q_elder' (by (with_reducible repeat (first | apply Kd.Q_alloc | apply Kd.Q_drewN | apply Kd.Q_drew)); exact HO_4.out) (Kd.R_base ho0) hb); have n2_ := Aside0.mk (Kd.R_elder' (by (with_reducible repeat (first | apply Kd.R_alloc | apply Kd.R_drewN | apply Kd.R_drew)); exact HO_5.out) (Kd.R_base ho0) hb); have n3_ := Aside0.mk (Kd.R_lower (Kd.R_new' (Kd.R_new' ho0 (Kd.Q_lt (by (with_reducible repeat (first | apply Kd.Q_alloc | apply Kd.Q_drewN | apply Kd.Q_drew)); exact HO_4.out))) (Kd.R_lt (by (with_reducible repeat (first | apply Kd.R_alloc | apply Kd.R_drewN | apply Kd.R_drew)); exact HO_5.out))) (below_size (by repeat (first | (with_reducible first | exact HB.out | apply below_alloc | apply pw_below_drewN | apply below_drew1) | exact HB.out)))); have n4_ := Aside0.mk (below_step (by repeat (first | (with_reducible first | exact HB.out | apply below_alloc | apply pw_below_drewN | apply below_drew1) | exact HB.out)) hb); clear HO_3; clear HO_4; clear HO_5; clear HB; have HO_3 := n0_; have HO_4 := n1_; have HO_5 := n2_; have HO509 := n3_; have HB := n4_; clear n0_ n1_ n2_ n3_ n4_; (try clear hb); (try clear hb2); (try clear hk); (try clear hi); (try clear ho0); obtain ⟨Ao27, co27, eo27⟩ := Kd.R_slice HO_5.out; subst eo27; obtain ⟨Ao28, co28, eo28⟩ := Kd.R_slice HO509.out; subst eo28) | (go_at_call 33; (with_reducible refine (laws_equalInts.calls kj4 _ _ t500 _ _ t507 t510 _ ?side1 ?side2 ?side3 ?side4 A25.out).mono ?_); (case side1 => repeat (first | exact (Kd.R_reads' HO_5.out).2.2 | (with_reducible refine Kd.C_alloc ?_ _) | (with_reducible refine Kd.C_drewN ?_ _) | (with_reducible refine Kd.C_drew ?_))); (case side2 => exact (Kd.R_reads' HO_5.out).2.1); (case side3 => repeat (first | exact (Kd.R_reads' HO509.out).2.2 | (with_reducible refine Kd.C_alloc ?_ _) | (with_reducible refine Kd.C_drewN ?_ _) | (with_reducible refine Kd.C_drew ?_))); (case side4 => exact (Kd.R_reads' HO509.out).2.1); rintro e w' ⟨rfl, ⟨nd, rfl⟩⟩; (try first | exact ⟨rfl, _, World.drewN_drewN _ _ _⟩ | exact ⟨rfl, _, Eq.trans (World.drewN_drewN _ _ _) (congrArg (World.drewN _) (Nat.add_assoc _ _ _))⟩)))
          repeat (go_quiet (first | (go_at_call 25; (with_reducible refine (spec_UsedUnits.calls kj4 _ _ t494 _ _ t495 t507 _ ?side1 ?side2 ?side3 ?side4 A24.out).mono ?_); (case side1 => repeat (first | exact (Kd.S_reads' HO_3.out).2.2 | (with_reducible refine Kd.C_alloc ?_ _) | (with_reducible refine Kd.C_drewN ?_ _) | (with_reducible refine Kd.C_drew ?_))); (case side2 => exact (Kd.S_reads' HO_3.out).2.1); (case side3 => repeat (first | exact (Kd.Q_reads' HO_4.out).2.2 | (with_reducible refine Kd.C_alloc ?_ _) | (with_reducible refine Kd.C_drewN ?_ _) | (with_reducible refine Kd.C_drew ?_))); (case side4 => exact (Kd.Q_reads' HO_4.out).2.1); rintro e w26 ⟨v508, rfl, ho0, hb⟩; have n0_ := Aside0.mk (Kd.S_elder' (by (with_reducible repeat (first | apply Kd.S_alloc | apply Kd.S_drewN | apply Kd.S_drew)); exact HO_3.out) (Kd.R_base ho0) hb); have n1_ := Aside0.mk (Kd.Q_elder' (by (with_reducible repeat (first | apply Kd.Q_alloc | apply Kd.Q_drewN | apply Kd.Q_drew)); exact HO_4.out) (Kd.R_base ho0) hb); have n2_ := Aside0.mk (Kd.R_elder' (by (with_reducible repeat (first | apply Kd.R_alloc | apply Kd.R_drewN | apply Kd.R_drew)); exact HO_5.out) (Kd.R_base ho0) hb); have n3_ := Aside0.mk (Kd.R_lower (Kd.R_new' (Kd.R_new' ho0 (Kd.Q_lt (by (with_reducible repeat (first | apply Kd.Q_alloc | apply Kd.Q_drewN | apply Kd.Q_drew)); exact HO_4.out))) (Kd.R_lt (by (with_reducible repeat (first | apply Kd.R_alloc | apply Kd.R_drewN | apply Kd.R_drew)); exact HO_5.out))) (below_size (by repeat (first | (with_reducible first | exact HB.out | apply below_alloc | apply pw_below_drewN | apply below_drew1) | exact HB.out)))); have n4_ := Aside0.mk (below_step (by repeat (first | (with_reducible first | exact HB.out | apply below_alloc | apply pw_below_drewN | apply below_drew1) | exact HB.out)) hb); clear HO_3; clear HO_4; clear HO_5; clear HB; have HO_3 := n0_; have HO_4 := n1_; have HO_5 := n2_; have HO509 := n3_; have HB := n4_; clear n0_ n1_ n2_ n3_ n4_; (try clear hb); (try clear hb2); (try clear hk); (try clear hi); (try clear ho0); obtain ⟨Ao27, co27, eo27⟩ := Kd.R_slice HO_5.out; subst eo27; obtain ⟨Ao28, co28, eo28⟩ := Kd.R_slice HO509.out; subst eo28) | (go_at_call 33; (with_reducible refine (laws_equalInts.calls kj4 _ _ t500 _ _ t507 t510 _ ?side1 ?side2 ?side3 ?side4 A25.out).mono ?_); (case side1 => repeat (first | exact (Kd.R_reads' HO_5.out).2.2 | (with_reducible refine Kd.C_alloc ?_ _) | (with_reducible refine Kd.C_drewN ?_ _) | (with_reducible refine Kd.C_drew ?_))); (case side2 => exact (Kd.R_reads' HO_5.out).2.1); (case side3 => repeat (first | exact (Kd.R_reads' HO509.out).2.2 | (with_reducible refine Kd.C_alloc ?_ _) | (with_reducible refine Kd.C_drewN ?_ _) | (with_reducible refine Kd.C_drew ?_))); (case side4 => exact (Kd.R_reads' HO509.out).2.1); rintro e w' ⟨rfl, ⟨nd, rfl⟩⟩; (try first | exact ⟨rfl, _, World.drewN_drewN _ _ _⟩ | exact ⟨rfl, _, Eq.trans (World.drewN_drewN _ _ _) (congrArg (World.drewN _) (Nat.add_assoc _ _ _))⟩))); try go_wp2_with (first | (go_at_call 25; (with_reducible refine (spec_UsedUnits.calls kj4 _ _ t494 _ _ t495 t507 _ ?side1 ?side2 ?side3 ?side4 A24.out).mono ?_); (case side1 => repeat (first | exact (Kd.S_reads' HO_3.out).2.2 | (with_reducible refine Kd.C_alloc ?_ _) | (with_reducible refine Kd.C_drewN ?_ _) | (with_reducible refine Kd.C_drew ?_))); (case side2 => exact (Kd.S_reads' HO_3.out).2.1); (case side3 => repeat (first | exact (Kd.Q_reads' HO_4.out).2.2 | (with_reducible refine Kd.C_alloc ?_ _) | (with_reducible refine Kd.C_drewN ?_ _) | (with_reducible refine Kd.C_drew ?_))); (case side4 => exact (Kd.Q_reads' HO_4.out).2.1); rintro e w26 ⟨v508, rfl, ho0, hb⟩; have n0_ := Aside0.mk (Kd.S_elder' (by (with_reducible repeat (first | apply Kd.S_alloc | apply Kd.S_drewN | apply Kd.S_drew)); exact HO_3.out) (Kd.R_base ho0) hb); have n1_ := Aside0.mk (Kd.Q_elder' (by (with_reducible repeat (first | apply Kd.Q_alloc | apply Kd.Q_drewN | apply Kd.Q_drew)); exact HO_4.out) (Kd.R_base ho0) hb); have n2_ := Aside0.mk (Kd.R_elder' (by (with_reducible repeat (first | apply Kd.R_alloc | apply Kd.R_drewN | apply Kd.R_drew)); exact HO_5.out) (Kd.R_base ho0) hb); have n3_ := Aside0.mk (Kd.R_lower (Kd.R_new' (Kd.R_new' ho0 (Kd.Q_lt (by (with_reducible repeat (first | apply Kd.Q_alloc | apply Kd.Q_drewN | apply Kd.Q_drew)); exact HO_4.out))) (Kd.R_lt (by (with_reducible repeat (first | apply Kd.R_alloc | apply Kd.R_drewN | apply Kd.R_drew)); exact HO_5.out))) (below_size (by repeat (first | (with_reducible first | exact HB.out | apply below_alloc | apply pw_below_drewN | apply below_drew1) | exact HB.out)))); have n4_ := Aside0.mk (below_step (by repeat (first | (with_reducible first | exact HB.out | apply below_alloc | apply pw_below_drewN | apply below_drew1) | exact HB.out)) hb); clear HO_3; clear HO_4; clear HO_5; clear HB; have HO_3 := n0_; have HO_4 := n1_; have HO_5 := n2_; have HO509 := n3_; have HB := n4_; clear n0_ n1_ n2_ n3_ n4_; (try clear hb); (try clear hb2); (try clear hk); (try clear hi); (try clear ho0); obtain ⟨Ao27, co27, eo27⟩ := Kd.R_slice HO_5.out; subst eo27; obtain ⟨Ao28, co28, eo28⟩ := Kd.R_slice HO509.out; subst eo28) | (go_at_call 33; (with_reducible refine (laws_equalInts.calls kj4 _ _ t500 _ _ t507 t510 _ ?side1 ?side2 ?side3 ?side4 A25.out).mono ?_); (case side1 => repeat (first | exact (Kd.R_reads' HO_5.out).2.2 | (with_reducible refine Kd.C_alloc ?_ _) | (with_reducible refine Kd.C_drewN ?_ _) | (with_reducible refine Kd.C_drew ?_))); (case side2 => exact (Kd.R_reads' HO_5.out).2.1); (case side3 => repeat (first | exact (Kd.R_reads' HO509.out).2.2 | (with_reducible refine Kd.C_alloc ?_ _) | (with_reducible refine Kd.C_drewN ?_ _) | (with_reducible refine Kd.C_drew ?_))); (case side4 => exact (Kd.R_reads' HO509.out).2.1); rintro e w' ⟨rfl, ⟨nd, rfl⟩⟩; (try first | exact ⟨rfl, _, World.drewN_drewN _ _ _⟩ | exact ⟨rfl, _, Eq.trans (World.drewN_drewN _ _ _) (congrArg (World.drewN _) (Nat.add_assoc _ _ _))⟩))))
          go_ret
          exact ⟨by first | rfl | (simp [errW_none, errW_some] <;> rfl) | (simp [*, errW_none, errW_some] <;> rfl), by repeat (first | (with_reducible first | exact HB.out | apply below_alloc | apply pw_below_drewN | apply below_drew1) | exact HB.out)⟩
        · replace c23 := Bool.eq_false_iff.mpr c23
          subst c23
          have H1 : (if 1 ≤ (t495.length : Int) then ((impl_UsedUnits.f t494 (t495.take 1)).bind fun t515 => ((impl_UsedUnits.f t494 (t495.drop 1)).bind fun t522 => (laws_FnUsedUnits.l0 kj4 t494 t495 t500 t515 t522 0))) else (none)) = some r := by rw [if_neg (show ¬ (false = true) by decide)] at H; exact H
          clear H
          have H := H1
          clear H1
          by_cases c29 : 1 ≤ (t495.length : Int)
          · rw [if_pos c29] at H
            have c29b0 := eq_true c29
            have c29b1 : decide (1 ≤ (t495.length : Int)) = true := decide_eq_true c29
            clear c29
            obtain ⟨y511, hy511⟩ : ∃ y_ : List Int, y_ = (t495.take 1) := ⟨_, rfl⟩
            replace H : ((impl_UsedUnits.f t494 y511).bind fun t515 => ((impl_UsedUnits.f t494 (t495.drop 1)).bind fun t522 => (laws_FnUsedUnits.l0 kj4 t494 t495 t500 t515 t522 0))) = some r := by first | (rw [hy511]; with_reducible exact H) | (have H2_ := (Option.bind_some _ _).symm.trans H; rw [hy511]; with_reducible exact H2_) | (have H2_ := (Option.bind_some _ _).symm.trans H; with_reducible exact H2_) | with_reducible exact H | (rw [hy511]; exact H) | exact H
            have Ny511 := Aside0.mk hy511
            clear hy511
            replace H := Option.bind_eq_some_iff.mp H
            obtain ⟨t515, A300, H⟩ := H
            replace H : ((impl_UsedUnits.f t494 (t495.drop 1)).bind fun t522 => (laws_FnUsedUnits.l0 kj4 t494 t495 t500 t515 t522 0)) = some r := H
            have A30 := Aside0.mk A300
            clear A300
            have c31b0 := eq_true (of_decide_eq_true (by first | (with_reducible assumption) | assumption) : 1 ≤ (t495.length : Int))
            obtain ⟨y518, hy518⟩ : ∃ y_ : List Int, y_ = (t495.drop 1) := ⟨_, rfl⟩
            replace H : ((impl_UsedUnits.f t494 y518).bind fun t522 => (laws_FnUsedUnits.l0 kj4 t494 t495 t500 t515 t522 0)) = some r := by first | (rw [hy518]; with_reducible exact H) | (have H2_ := (Option.bind_some _ _).symm.trans H; rw [hy518]; with_reducible exact H2_) | (have H2_ := (Option.bind_some _ _).symm.trans H; with_reducible exact H2_) | with_reducible exact H | (rw [hy518]; exact H) | exact H
            have Ny518 := Aside0.mk hy518
            clear hy518
            replace H := Option.bind_eq_some_iff.mp H
            obtain ⟨t522, A320, H⟩ := H
            replace H : (laws_FnUsedUnits.l0 kj4 t494 t495 t500 t515 t522 0) = some r := H
            have A32 := Aside0.mk A320
            clear A320
            have H' := Aside0.mk H
            clear H
            have q33 : (1 : Int) ≤ ((t495.length : Int) : Int) := of_decide_eq_true (by first | (with_reducible assumption) | assumption)
            obtain ⟨i033, hi033, _, hsz33, _⟩ := info_parts info3
            have hroom33 : t495.length ≤ co8 := (Kd.Q_reads' HO_4.out).2.1
            have hC33 : Kd.C (Kd.int .i64) _ Ao8 t495.length t495 := (Kd.Q_reads' HO_4.out).2.2
            have hcut33 := cut_to (P := Tryd.prog) 31 3 .i64 Tryd.underlying31 hi033 Ao8 t495.length co8 1 (by omega) q33 hroom33
            have hr33 := Kd.C_take (m := 1) hC33 (by omega)
            have hy33 : y511.length = (1 : Int).toNat := (by rw [Ny511.out, List.length_take]; omega)
            rw [← Ny511.out] at hr33
            rw [← hy33] at hcut33
            have HR514 := Aside0.mk hr33
            have HC514 := Aside0.mk (show y511.length ≤ co8 from by omega)
            clear hr33 hC33 hroom33 hi033 hsz33
            have KY33 := Aside0.mk hy33
            clear hy33
            have KL33 := Aside0.mk (show 1 ≤ t495.length from by omega)
            replace q33 := eq_true q33
            go_wp2_with (first | (go_at_call 26; (with_reducible refine (impl_UsedUnits.calls _ _ t494 _ _ y511 t515 _ ?side1 ?side2 ?side3 ?side4 ?side5 A30.out).mono ?_); (case side1 => repeat (first | exact (Kd.S_reads' HO_3.out).2.2 | (with_reducible refine Kd.C_alloc ?_ _) | (with_reducible refine Kd.C_drewN ?_ _) | (with_reducible refine Kd.C_drew ?_))); (case side2 => exact (Kd.S_reads' HO_3.out).2.1); (case side3 => repeat (first | exact (by repeat (first | (with_reducible exact HR514.out) | (with_reducible refine Kd.C_alloc ?_ _) | (with_reducible refine Kd.C_drewN ?_ _) | (with_reducible refine Kd.C_drew ?_) | exact HR514.out)) | (with_reducible refine Kd.C_alloc ?_ _) | (with_reducible refine Kd.C_drewN ?_ _) | (with_reducible refine Kd.C_drew ?_))); (case side4 => exact HC514.out); (case side5 => exact Tab.of HT.out (by repeat (first | (with_reducible first | exact HB.out | apply below_alloc | apply pw_below_drewN | apply below_drew1) | exact HB.out))); rintro e w34 ⟨v516, rfl, ho0, hb⟩; have n0_ := Aside0.mk (Kd.S_elder' (by (with_reducible repeat (first | apply Kd.S_alloc | apply Kd.S_drewN | apply Kd.S_drew)); exact HO_3.out) (Kd.R_base ho0) hb); have n1_ := Aside0.mk (Kd.Q_elder' (by (with_reducible repeat (first | apply Kd.Q_alloc | apply Kd.Q_drewN | apply Kd.Q_drew)); exact HO_4.out) (Kd.R_base ho0) hb); have n2_ := Aside0.mk (Kd.R_elder' (by (with_reducible repeat (first | apply Kd.R_alloc | apply Kd.R_drewN | apply Kd.R_drew)); exact HO_5.out) (Kd.R_base ho0) hb); have n3_ := Aside0.mk (Kd.R_lower (Kd.R_new' (Kd.R_new' ho0 (Kd.Q_lt (by (with_reducible repeat (first | apply Kd.Q_alloc | apply Kd.Q_drewN | apply Kd.Q_drew)); exact HO_4.out))) (Kd.R_lt (by (with_reducible repeat (first | apply Kd.R_alloc | apply Kd.R_drewN | apply Kd.R_drew)); exact HO_5.out))) (below_size (by repeat (first | (with_reducible first | exact HB.out | apply below_alloc | apply pw_below_drewN | apply below_drew1) | exact HB.out)))); have n4_ := Aside0.mk (Kd.C_below (by repeat (first | (with_reducible exact HR514.out) | (with_reducible refine Kd.C_alloc ?_ _) | (with_reducible refine Kd.C_drewN ?_ _) | (with_reducible refine Kd.C_drew ?_) | exact HR514.out)) hb); have n5_ := Aside0.mk (below_step (by repeat (first | (with_reducible first | exact HB.out | apply below_alloc | apply pw_below_drewN | apply below_drew1) | exact HB.out)) hb); clear HO_3; clear HO_4; clear HO_5; clear HR514; clear HB; have HO_3 := n0_; have HO_4 := n1_; have HO_5 := n2_; have HO517 := n3_; have HR514 := n4_; have HB := n5_; clear n0_ n1_ n2_ n3_ n4_ n5_; (try clear hb); (try clear hb2); (try clear hk); (try clear hi); (try clear ho0); have q35 : (1 : Int) ≤ ((t495.length : Int) : Int) := of_decide_eq_true (by first | (with_reducible assumption) | assumption); obtain ⟨i035, hi035, _, hsz35, _⟩ := info_parts info3; have hroom35 : t495.length ≤ co8 := (Kd.Q_reads' HO_4.out).2.1; have hC35 : Kd.C (Kd.int .i64) _ Ao8 t495.length t495 := (Kd.Q_reads' HO_4.out).2.2; have hcut35 := cut_from (P := Tryd.prog) 31 3 .i64 Tryd.underlying31 hi035 1 hsz35 Ao8 t495.length co8 1 (by omega) q35; have hr35 := Kd.C_drop (m := (1 : Int).toNat) (c := co8) hC35 (by omega) hroom35; obtain ⟨A35, hA35⟩ : ∃ A1, A1 = (if co8 = (1 : Int).toNat then Ao8 else (Ao8 : Option Addr).map (·.add ((1 : Int).toNat * 1))) := ⟨_, rfl⟩; obtain ⟨c35, hc35⟩ : ∃ c1, c1 = co8 - (1 : Int).toNat := ⟨_, rfl⟩; have hy35 : y518.length = t495.length - (1 : Int).toNat := (by rw [Ny518.out, List.length_drop] <;> omega); rw [show (t495).drop (1 : Int).toNat = y518 from Ny518.out.symm] at hr35; replace hr35 : Kd.C (Kd.int .i64) _ A35 y518.length y518 := (by rw [hA35]; exact hr35); rw [← hy35, ← hA35, ← hc35] at hcut35; have HR521 := Aside0.mk hr35; have HC521 := Aside0.mk (show y518.length ≤ c35 from by rw [hy35, hc35]; exact Nat.sub_le_sub_right hroom35 _); clear hr35 hC35 hroom35 hi035 hsz35 hc35; have KY35 := Aside0.mk hy35; have KA35 := Aside0.mk hA35; clear hy35 hA35; have KL35 := Aside0.mk (show 1 ≤ t495.length from by omega); replace q35 := eq_true q35) | (go_at_call 26; (with_reducible refine (impl_UsedUnits.calls _ _ t494 _ _ y518 t522 _ ?side1 ?side2 ?side3 ?side4 ?side5 A32.out).mono ?_); (case side1 => repeat (first | exact (Kd.S_reads' HO_3.out).2.2 | (with_reducible refine Kd.C_alloc ?_ _) | (with_reducible refine Kd.C_drewN ?_ _) | (with_reducible refine Kd.C_drew ?_))); (case side2 => exact (Kd.S_reads' HO_3.out).2.1); (case side3 => repeat (first | exact (by repeat (first | (with_reducible exact HR521.out) | (with_reducible refine Kd.C_alloc ?_ _) | (with_reducible refine Kd.C_drewN ?_ _) | (with_reducible refine Kd.C_drew ?_) | exact HR521.out)) | (with_reducible refine Kd.C_alloc ?_ _) | (with_reducible refine Kd.C_drewN ?_ _) | (with_reducible refine Kd.C_drew ?_))); (case side4 => exact HC521.out); (case side5 => exact Tab.of HT.out (by repeat (first | (with_reducible first | exact HB.out | apply below_alloc | apply pw_below_drewN | apply below_drew1) | exact HB.out))); rintro e w36 ⟨v523, rfl, ho0, hb⟩; have n0_ := Aside0.mk (Kd.S_elder' (by (with_reducible repeat (first | apply Kd.S_alloc | apply Kd.S_drewN | apply Kd.S_drew)); exact HO_3.out) (Kd.R_base ho0) hb); have n1_ := Aside0.mk (Kd.Q_elder' (by (with_reducible repeat (first | apply Kd.Q_alloc | apply Kd.Q_drewN | apply Kd.Q_drew)); exact HO_4.out) (Kd.R_base ho0) hb); have n2_ := Aside0.mk (Kd.R_elder' (by (with_reducible repeat (first | apply Kd.R_alloc | apply Kd.R_drewN | apply Kd.R_drew)); exact HO_5.out) (Kd.R_base ho0) hb); have n3_ := Aside0.mk (Kd.R_elder' (by (with_reducible repeat (first | apply Kd.R_alloc | apply Kd.R_drewN | apply Kd.R_drew)); exact HO517.out) (Kd.R_base ho0) hb); have n4_ := Aside0.mk (Kd.R_lower (Kd.R_new' (Kd.R_new' (Kd.R_new' ho0 (Kd.Q_lt (by (with_reducible repeat (first | apply Kd.Q_alloc | apply Kd.Q_drewN | apply Kd.Q_drew)); exact HO_4.out))) (Kd.R_lt (by (with_reducible repeat (first | apply Kd.R_alloc | apply Kd.R_drewN | apply Kd.R_drew)); exact HO_5.out))) (Kd.R_lt (by (with_reducible repeat (first | apply Kd.R_alloc | apply Kd.R_drewN | apply Kd.R_drew)); exact HO517.out))) (below_size (by repeat (first | (with_reducible first | exact HB.out | apply below_alloc | apply pw_below_drewN | apply below_drew1) | exact HB.out)))); have n5_ := Aside0.mk (Kd.C_below (by repeat (first | (with_reducible exact HR514.out) | (with_reducible refine Kd.C_alloc ?_ _) | (with_reducible refine Kd.C_drewN ?_ _) | (with_reducible refine Kd.C_drew ?_) | exact HR514.out)) hb); have n6_ := Aside0.mk (Kd.C_below (by repeat (first | (with_reducible exact HR521.out) | (with_reducible refine Kd.C_alloc ?_ _) | (with_reducible refine Kd.C_drewN ?_ _) | (with_reducible refine Kd.C_drew ?_) | exact HR521.out)) hb); have n7_ := Aside0.mk (below_step (by repeat (first | (with_reducible first | exact HB.out | apply below_alloc | apply pw_below_drewN | apply below_drew1) | exact HB.out)) hb); clear HO_3; clear HO_4; clear HO_5; clear HO517; clear HR514; clear HR521; clear HB; have HO_3 := n0_; have HO_4 := n1_; have HO_5 := n2_; have HO517 := n3_; have HO524 := n4_; have HR514 := n5_; have HR521 := n6_; have HB := n7_; clear n0_ n1_ n2_ n3_ n4_ n5_ n6_ n7_; (try clear hb); (try clear hb2); (try clear hk); (try clear hi); (try clear ho0)))
            repeat (go_quiet (first | (go_at_call 26; (with_reducible refine (impl_UsedUnits.calls _ _ t494 _ _ y511 t515 _ ?side1 ?side2 ?side3 ?side4 ?side5 A30.out).mono ?_); (case side1 => repeat (first | exact (Kd.S_reads' HO_3.out).2.2 | (with_reducible refine Kd.C_alloc ?_ _) | (with_reducible refine Kd.C_drewN ?_ _) | (with_reducible refine Kd.C_drew ?_))); (case side2 => exact (Kd.S_reads' HO_3.out).2.1); (case side3 => repeat (first | exact (by repeat (first | (with_reducible exact HR514.out) | (with_reducible refine Kd.C_alloc ?_ _) | (with_reducible refine Kd.C_drewN ?_ _) | (with_reducible refine Kd.C_drew ?_) | exact HR514.out)) | (with_reducible refine Kd.C_alloc ?_ _) | (with_reducible refine Kd.C_drewN ?_ _) | (with_reducible refine Kd.C_drew ?_))); (case side4 => exact HC514.out); (case side5 => exact Tab.of HT.out (by repeat (first | (with_reducible first | exact HB.out | apply below_alloc | apply pw_below_drewN | apply below_drew1) | exact HB.out))); rintro e w34 ⟨v516, rfl, ho0, hb⟩; have n0_ := Aside0.mk (Kd.S_elder' (by (with_reducible repeat (first | apply Kd.S_alloc | apply Kd.S_drewN | apply Kd.S_drew)); exact HO_3.out) (Kd.R_base ho0) hb); have n1_ := Aside0.mk (Kd.Q_elder' (by (with_reducible repeat (first | apply Kd.Q_alloc | apply Kd.Q_drewN | apply Kd.Q_drew)); exact HO_4.out) (Kd.R_base ho0) hb); have n2_ := Aside0.mk (Kd.R_elder' (by (with_reducible repeat (first | apply Kd.R_alloc | apply Kd.R_drewN | apply Kd.R_drew)); exact HO_5.out) (Kd.R_base ho0) hb); have n3_ := Aside0.mk (Kd.R_lower (Kd.R_new' (Kd.R_new' ho0 (Kd.Q_lt (by (with_reducible repeat (first | apply Kd.Q_alloc | apply Kd.Q_drewN | apply Kd.Q_drew)); exact HO_4.out))) (Kd.R_lt (by (with_reducible repeat (first | apply Kd.R_alloc | apply Kd.R_drewN | apply Kd.R_drew)); exact HO_5.out))) (below_size (by repeat (first | (with_reducible first | exact HB.out | apply below_alloc | apply pw_below_drewN | apply below_drew1) | exact HB.out)))); have n4_ := Aside0.mk (Kd.C_below (by repeat (first | (with_reducible exact HR514.out) | (with_reducible refine Kd.C_alloc ?_ _) | (with_reducible refine Kd.C_drewN ?_ _) | (with_reducible refine Kd.C_drew ?_) | exact HR514.out)) hb); have n5_ := Aside0.mk (below_step (by repeat (first | (with_reducible first | exact HB.out | apply below_alloc | apply pw_below_drewN | apply below_drew1) | exact HB.out)) hb); clear HO_3; clear HO_4; clear HO_5; clear HR514; clear HB; have HO_3 := n0_; have HO_4 := n1_; have HO_5 := n2_; have HO517 := n3_; have HR514 := n4_; have HB := n5_; clear n0_ n1_ n2_ n3_ n4_ n5_; (try clear hb); (try clear hb2); (try clear hk); (try clear hi); (try clear ho0); have q35 : (1 : Int) ≤ ((t495.length : Int) : Int) := of_decide_eq_true (by first | (with_reducible assumption) | assumption); obtain ⟨i035, hi035, _, hsz35, _⟩ := info_parts info3; have hroom35 : t495.length ≤ co8 := (Kd.Q_reads' HO_4.out).2.1; have hC35 : Kd.C (Kd.int .i64) _ Ao8 t495.length t495 := (Kd.Q_reads' HO_4.out).2.2; have hcut35 := cut_from (P := Tryd.prog) 31 3 .i64 Tryd.underlying31 hi035 1 hsz35 Ao8 t495.length co8 1 (by omega) q35; have hr35 := Kd.C_drop (m := (1 : Int).toNat) (c := co8) hC35 (by omega) hroom35; obtain ⟨A35, hA35⟩ : ∃ A1, A1 = (if co8 = (1 : Int).toNat then Ao8 else (Ao8 : Option Addr).map (·.add ((1 : Int).toNat * 1))) := ⟨_, rfl⟩; obtain ⟨c35, hc35⟩ : ∃ c1, c1 = co8 - (1 : Int).toNat := ⟨_, rfl⟩; have hy35 : y518.length = t495.length - (1 : Int).toNat := (by rw [Ny518.out, List.length_drop] <;> omega); rw [show (t495).drop (1 : Int).toNat = y518 from Ny518.out.symm] at hr35; replace hr35 : Kd.C (Kd.int .i64) _ A35 y518.length y518 := (by rw [hA35]; exact hr35); rw [← hy35, ← hA35, ← hc35] at hcut35; have HR521 := Aside0.mk hr35; have HC521 := Aside0.mk (show y518.length ≤ c35 from by rw [hy35, hc35]; exact Nat.sub_le_sub_right hroom35 _); clear hr35 hC35 hroom35 hi035 hsz35 hc35; have KY35 := Aside0.mk hy35; have KA35 := Aside0.mk hA35; clear hy35 hA35; have KL35 := Aside0.mk (show 1 ≤ t495.length from by omega); replace q35 := eq_true q35) | (go_at_call 26; (with_reducible refine (impl_UsedUnits.calls _ _ t494 _ _ y518 t522 _ ?side1 ?side2 ?side3 ?side4 ?side5 A32.out).mono ?_); (case side1 => repeat (first | exact (Kd.S_reads' HO_3.out).2.2 | (with_reducible refine Kd.C_alloc ?_ _) | (with_reducible refine Kd.C_drewN ?_ _) | (with_reducible refine Kd.C_drew ?_))); (case side2 => exact (Kd.S_reads' HO_3.out).2.1); (case side3 => repeat (first | exact (by repeat (first | (with_reducible exact HR521.out) | (with_reducible refine Kd.C_alloc ?_ _) | (with_reducible refine Kd.C_drewN ?_ _) | (with_reducible refine Kd.C_drew ?_) | exact HR521.out)) | (with_reducible refine Kd.C_alloc ?_ _) | (with_reducible refine Kd.C_drewN ?_ _) | (with_reducible refine Kd.C_drew ?_))); (case side4 => exact HC521.out); (case side5 => exact Tab.of HT.out (by repeat (first | (with_reducible first | exact HB.out | apply below_alloc | apply pw_below_drewN | apply below_drew1) | exact HB.out))); rintro e w36 ⟨v523, rfl, ho0, hb⟩; have n0_ := Aside0.mk (Kd.S_elder' (by (with_reducible repeat (first | apply Kd.S_alloc | apply Kd.S_drewN | apply Kd.S_drew)); exact HO_3.out) (Kd.R_base ho0) hb); have n1_ := Aside0.mk (Kd.Q_elder' (by (with_reducible repeat (first | apply Kd.Q_alloc | apply Kd.Q_drewN | apply Kd.Q_drew)); exact HO_4.out) (Kd.R_base ho0) hb); have n2_ := Aside0.mk (Kd.R_elder' (by (with_reducible repeat (first | apply Kd.R_alloc | apply Kd.R_drewN | apply Kd.R_drew)); exact HO_5.out) (Kd.R_base ho0) hb); have n3_ := Aside0.mk (Kd.R_elder' (by (with_reducible repeat (first | apply Kd.R_alloc | apply Kd.R_drewN | apply Kd.R_drew)); exact HO517.out) (Kd.R_base ho0) hb); have n4_ := Aside0.mk (Kd.R_lower (Kd.R_new' (Kd.R_new' (Kd.R_new' ho0 (Kd.Q_lt (by (with_reducible repeat (first | apply Kd.Q_alloc | apply Kd.Q_drewN | apply Kd.Q_drew)); exact HO_4.out))) (Kd.R_lt (by (with_reducible repeat (first | apply Kd.R_alloc | apply Kd.R_drewN | apply Kd.R_drew)); exact HO_5.out))) (Kd.R_lt (by (with_reducible repeat (first | apply Kd.R_alloc | apply Kd.R_drewN | apply Kd.R_drew)); exact HO517.out))) (below_size (by repeat (first | (with_reducible first | exact HB.out | apply below_alloc | apply pw_below_drewN | apply below_drew1) | exact HB.out)))); have n5_ := Aside0.mk (Kd.C_below (by repeat (first | (with_reducible exact HR514.out) | (with_reducible refine Kd.C_alloc ?_ _) | (with_reducible refine Kd.C_drewN ?_ _) | (with_reducible refine Kd.C_drew ?_) | exact HR514.out)) hb); have n6_ := Aside0.mk (Kd.C_below (by repeat (first | (with_reducible exact HR521.out) | (with_reducible refine Kd.C_alloc ?_ _) | (with_reducible refine Kd.C_drewN ?_ _) | (with_reducible refine Kd.C_drew ?_) | exact HR521.out)) hb); have n7_ := Aside0.mk (below_step (by repeat (first | (with_reducible first | exact HB.out | apply below_alloc | apply pw_below_drewN | apply below_drew1) | exact HB.out)) hb); clear HO_3; clear HO_4; clear HO_5; clear HO517; clear HR514; clear HR521; clear HB; have HO_3 := n0_; have HO_4 := n1_; have HO_5 := n2_; have HO517 := n3_; have HO524 := n4_; have HR514 := n5_; have HR521 := n6_; have HB := n7_; clear n0_ n1_ n2_ n3_ n4_ n5_ n6_ n7_; (try clear hb); (try clear hb2); (try clear hk); (try clear hi); (try clear ho0))); try go_wp2_with (first | (go_at_call 26; (with_reducible refine (impl_UsedUnits.calls _ _ t494 _ _ y511 t515 _ ?side1 ?side2 ?side3 ?side4 ?side5 A30.out).mono ?_); (case side1 => repeat (first | exact (Kd.S_reads' HO_3.out).2.2 | (with_reducible refine Kd.C_alloc ?_ _) | (with_reducible refine Kd.C_drewN ?_ _) | (with_reducible refine Kd.C_drew ?_))); (case side2 => exact (Kd.S_reads' HO_3.out).2.1); (case side3 => repeat (first | exact (by repeat (first | (with_reducible exact HR514.out) | (with_reducible refine Kd.C_alloc ?_ _) | (with_reducible refine Kd.C_drewN ?_ _) | (with_reducible refine Kd.C_drew ?_) | exact HR514.out)) | (with_reducible refine Kd.C_alloc ?_ _) | (with_reducible refine Kd.C_drewN ?_ _) | (with_reducible refine Kd.C_drew ?_))); (case side4 => exact HC514.out); (case side5 => exact Tab.of HT.out (by repeat (first | (with_reducible first | exact HB.out | apply below_alloc | apply pw_below_drewN | apply below_drew1) | exact HB.out))); rintro e w34 ⟨v516, rfl, ho0, hb⟩; have n0_ := Aside0.mk (Kd.S_elder' (by (with_reducible repeat (first | apply Kd.S_alloc | apply Kd.S_drewN | apply Kd.S_drew)); exact HO_3.out) (Kd.R_base ho0) hb); have n1_ := Aside0.mk (Kd.Q_elder' (by (with_reducible repeat (first | apply Kd.Q_alloc | apply Kd.Q_drewN | apply Kd.Q_drew)); exact HO_4.out) (Kd.R_base ho0) hb); have n2_ := Aside0.mk (Kd.R_elder' (by (with_reducible repeat (first | apply Kd.R_alloc | apply Kd.R_drewN | apply Kd.R_drew)); exact HO_5.out) (Kd.R_base ho0) hb); have n3_ := Aside0.mk (Kd.R_lower (Kd.R_new' (Kd.R_new' ho0 (Kd.Q_lt (by (with_reducible repeat (first | apply Kd.Q_alloc | apply Kd.Q_drewN | apply Kd.Q_drew)); exact HO_4.out))) (Kd.R_lt (by (with_reducible repeat (first | apply Kd.R_alloc | apply Kd.R_drewN | apply Kd.R_drew)); exact HO_5.out))) (below_size (by repeat (first | (with_reducible first | exact HB.out | apply below_alloc | apply pw_below_drewN | apply below_drew1) | exact HB.out)))); have n4_ := Aside0.mk (Kd.C_below (by repeat (first | (with_reducible exact HR514.out) | (with_reducible refine Kd.C_alloc ?_ _) | (with_reducible refine Kd.C_drewN ?_ _) | (with_reducible refine Kd.C_drew ?_) | exact HR514.out)) hb); have n5_ := Aside0.mk (below_step (by repeat (first | (with_reducible first | exact HB.out | apply below_alloc | apply pw_below_drewN | apply below_drew1) | exact HB.out)) hb); clear HO_3; clear HO_4; clear HO_5; clear HR514; clear HB; have HO_3 := n0_; have HO_4 := n1_; have HO_5 := n2_; have HO517 := n3_; have HR514 := n4_; have HB := n5_; clear n0_ n1_ n2_ n3_ n4_ n5_; (try clear hb); (try clear hb2); (try clear hk); (try clear hi); (try clear ho0); have q35 : (1 : Int) ≤ ((t495.length : Int) : Int) := of_decide_eq_true (by first | (with_reducible assumption) | assumption); obtain ⟨i035, hi035, _, hsz35, _⟩ := info_parts info3; have hroom35 : t495.length ≤ co8 := (Kd.Q_reads' HO_4.out).2.1; have hC35 : Kd.C (Kd.int .i64) _ Ao8 t495.length t495 := (Kd.Q_reads' HO_4.out).2.2; have hcut35 := cut_from (P := Tryd.prog) 31 3 .i64 Tryd.underlying31 hi035 1 hsz35 Ao8 t495.length co8 1 (by omega) q35; have hr35 := Kd.C_drop (m := (1 : Int).toNat) (c := co8) hC35 (by omega) hroom35; obtain ⟨A35, hA35⟩ : ∃ A1, A1 = (if co8 = (1 : Int).toNat then Ao8 else (Ao8 : Option Addr).map (·.add ((1 : Int).toNat * 1))) := ⟨_, rfl⟩; obtain ⟨c35, hc35⟩ : ∃ c1, c1 = co8 - (1 : Int).toNat := ⟨_, rfl⟩; have hy35 : y518.length = t495.length - (1 : Int).toNat := (by rw [Ny518.out, List.length_drop] <;> omega); rw [show (t495).drop (1 : Int).toNat = y518 from Ny518.out.symm] at hr35; replace hr35 : Kd.C (Kd.int .i64) _ A35 y518.length y518 := (by rw [hA35]; exact hr35); rw [← hy35, ← hA35, ← hc35] at hcut35; have HR521 := Aside0.mk hr35; have HC521 := Aside0.mk (show y518.length ≤ c35 from by rw [hy35, hc35]; exact Nat.sub_le_sub_right hroom35 _); clear hr35 hC35 hroom35 hi035 hsz35 hc35; have KY35 := Aside0.mk hy35; have KA35 := Aside0.mk hA35; clear hy35 hA35; have KL35 := Aside0.mk (show 1 ≤ t495.length from by omega); replace q35 := eq_true q35) | (go_at_call 26; (with_reducible refine (impl_UsedUnits.calls _ _ t494 _ _ y518 t522 _ ?side1 ?side2 ?side3 ?side4 ?side5 A32.out).mono ?_); (case side1 => repeat (first | exact (Kd.S_reads' HO_3.out).2.2 | (with_reducible refine Kd.C_alloc ?_ _) | (with_reducible refine Kd.C_drewN ?_ _) | (with_reducible refine Kd.C_drew ?_))); (case side2 => exact (Kd.S_reads' HO_3.out).2.1); (case side3 => repeat (first | exact (by repeat (first | (with_reducible exact HR521.out) | (with_reducible refine Kd.C_alloc ?_ _) | (with_reducible refine Kd.C_drewN ?_ _) | (with_reducible refine Kd.C_drew ?_) | exact HR521.out)) | (with_reducible refine Kd.C_alloc ?_ _) | (with_reducible refine Kd.C_drewN ?_ _) | (with_reducible refine Kd.C_drew ?_))); (case side4 => exact HC521.out); (case side5 => exact Tab.of HT.out (by repeat (first | (with_reducible first | exact HB.out | apply below_alloc | apply pw_below_drewN | apply below_drew1) | exact HB.out))); rintro e w36 ⟨v523, rfl, ho0, hb⟩; have n0_ := Aside0.mk (Kd.S_elder' (by (with_reducible repeat (first | apply Kd.S_alloc | apply Kd.S_drewN | apply Kd.S_drew)); exact HO_3.out) (Kd.R_base ho0) hb); have n1_ := Aside0.mk (Kd.Q_elder' (by (with_reducible repeat (first | apply Kd.Q_alloc | apply Kd.Q_drewN | apply Kd.Q_drew)); exact HO_4.out) (Kd.R_base ho0) hb); have n2_ := Aside0.mk (Kd.R_elder' (by (with_reducible repeat (first | apply Kd.R_alloc | apply Kd.R_drewN | apply Kd.R_drew)); exact HO_5.out) (Kd.R_base ho0) hb); have n3_ := Aside0.mk (Kd.R_elder' (by (with_reducible repeat (first | apply Kd.R_alloc | apply Kd.R_drewN | apply Kd.R_drew)); exact HO517.out) (Kd.R_base ho0) hb); have n4_ := Aside0.mk (Kd.R_lower (Kd.R_new' (Kd.R_new' (Kd.R_new' ho0 (Kd.Q_lt (by (with_reducible repeat (first | apply Kd.Q_alloc | apply Kd.Q_drewN | apply Kd.Q_drew)); exact HO_4.out))) (Kd.R_lt (by (with_reducible repeat (first | apply Kd.R_alloc | apply Kd.R_drewN | apply Kd.R_drew)); exact HO_5.out))) (Kd.R_lt (by (with_reducible repeat (first | apply Kd.R_alloc | apply Kd.R_drewN | apply Kd.R_drew)); exact HO517.out))) (below_size (by repeat (first | (with_reducible first | exact HB.out | apply below_alloc | apply pw_below_drewN | apply below_drew1) | exact HB.out)))); have n5_ := Aside0.mk (Kd.C_below (by repeat (first | (with_reducible exact HR514.out) | (with_reducible refine Kd.C_alloc ?_ _) | (with_reducible refine Kd.C_drewN ?_ _) | (with_reducible refine Kd.C_drew ?_) | exact HR514.out)) hb); have n6_ := Aside0.mk (Kd.C_below (by repeat (first | (with_reducible exact HR521.out) | (with_reducible refine Kd.C_alloc ?_ _) | (with_reducible refine Kd.C_drewN ?_ _) | (with_reducible refine Kd.C_drew ?_) | exact HR521.out)) hb); have n7_ := Aside0.mk (below_step (by repeat (first | (with_reducible first | exact HB.out | apply below_alloc | apply pw_below_drewN | apply below_drew1) | exact HB.out)) hb); clear HO_3; clear HO_4; clear HO_5; clear HO517; clear HR514; clear HR521; clear HB; have HO_3 := n0_; have HO_4 := n1_; have HO_5 := n2_; have HO517 := n3_; have HO524 := n4_; have HR514 := n5_; have HR521 := n6_; have HB := n7_; clear n0_ n1_ n2_ n3_ n4_ n5_ n6_ n7_; (try clear hb); (try clear hb2); (try clear hk); (try clear hi); (try clear ho0))))
            go_loopg [8] kj4 (fun kq v8 w' => ∃ (x8_2 : Int), v8 = .int .i64 x8_2 ∧ Aside0 (laws_FnUsedUnits.l0 kq t494 t495 t500 t515 t522 x8_2 = some r) ∧ Aside0 (kq ≤ kj4) ∧ Aside0 (Kd.S k33 33 w' w.heap.size (fun k_ => some k_ ≠ ((.slice Ao8 t495.length co8) : Value).ownBlock ∧ some k_ ≠ (v501 : Value).ownBlock ∧ some k_ ≠ (v516 : Value).ownBlock ∧ some k_ ≠ (v523 : Value).ownBlock) (.slice Ao7 t494.length co7) t494) ∧ Aside0 (Kd.Q (Kd.int .i64) 3 w' w.heap.size (fun k_ => some k_ ≠ (v501 : Value).ownBlock ∧ some k_ ≠ (v516 : Value).ownBlock ∧ some k_ ≠ (v523 : Value).ownBlock) (.slice Ao8 t495.length co8) t495) ∧ Aside0 (Kd.R (Kd.int .i64) 73 w' w.heap.size (fun k_ => some k_ ≠ ((.slice Ao8 t495.length co8) : Value).ownBlock ∧ some k_ ≠ (v516 : Value).ownBlock ∧ some k_ ≠ (v523 : Value).ownBlock) v501 t500) ∧ Aside0 (Kd.R (Kd.int .i64) 73 w' w.heap.size (fun k_ => some k_ ≠ ((.slice Ao8 t495.length co8) : Value).ownBlock ∧ some k_ ≠ (v501 : Value).ownBlock ∧ some k_ ≠ (v523 : Value).ownBlock) v516 t515) ∧ Aside0 (Kd.R (Kd.int .i64) 73 w' w.heap.size (fun k_ => some k_ ≠ ((.slice Ao8 t495.length co8) : Value).ownBlock ∧ some k_ ≠ (v501 : Value).ownBlock ∧ some k_ ≠ (v516 : Value).ownBlock) v523 t522) ∧ Aside0 (Below w.heap.size w w'))
            case atStart => exact ⟨(0), (by first | rfl | (simp; done) | (simp [*]; done)), H', ⟨Nat.le_refl _⟩, ⟨by (with_reducible repeat (first | apply Kd.S_alloc | apply Kd.S_drewN | apply Kd.S_drew)); exact Kd.S_mono HO_3.out (fun _ hk => ⟨hk.1.1.1, ⟨hk.1.1.2, ⟨hk.1.2, hk.2⟩⟩⟩)⟩, ⟨by (with_reducible repeat (first | apply Kd.Q_alloc | apply Kd.Q_drewN | apply Kd.Q_drew)); exact Kd.Q_mono HO_4.out (fun _ hk => ⟨hk.1.1, ⟨hk.1.2, hk.2⟩⟩)⟩, ⟨by (with_reducible repeat (first | apply Kd.R_alloc | apply Kd.R_drewN | apply Kd.R_drew)); exact Kd.R_mono HO_5.out (fun _ hk => ⟨hk.1.1, ⟨hk.1.2, hk.2⟩⟩)⟩, ⟨by (with_reducible repeat (first | apply Kd.R_alloc | apply Kd.R_drewN | apply Kd.R_drew)); exact Kd.R_mono HO517.out (fun _ hk => ⟨hk.1.1.2, ⟨hk.1.2, hk.2⟩⟩)⟩, ⟨by (with_reducible repeat (first | apply Kd.R_alloc | apply Kd.R_drewN | apply Kd.R_drew)); exact Kd.R_mono HO524.out (fun _ hk => ⟨hk.1.1.2, ⟨hk.1.2, hk.2⟩⟩)⟩, ⟨by repeat (first | (with_reducible first | exact HB.out | apply below_alloc | apply pw_below_drewN | apply below_drew1) | exact HB.out)⟩⟩
            case round =>
              clear H'
              try clear c1
              try clear c2
              try clear c2b0
              try clear c2b1
              try clear p2
              try clear c3
              try clear q3
              try clear c8
              try clear c12
              try clear c13
              try clear c13b0
              try clear c13b1
              try clear c13b2
              try clear c23
              try clear c29
              try clear c29b0
              try clear c29b1
              try clear c31
              try clear c31b0
              try clear q33
              try clear c35
              try clear q35
              try clear p2
              try clear q33
              try clear q35
              obtain ⟨x8_2, rfl, HA, HK2, HO_3, HO_4, HO_5, HO_6, HO_7, HB⟩ := hrel
              cases gk with
              | zero => exact absurd HA.out (by simp [laws_FnUsedUnits.l0])
              | succ k2 =>
                have H := HA.out
                clear HA
                simp only [laws_FnUsedUnits.l0] at H
                by_cases c37 : x8_2 < (t500.length : Int)
                · rw [if_pos c37] at H
                  have c37b0 : decide (x8_2 < (t500.length : Int)) = true := decide_eq_true c37
                  clear c37
                  by_cases c38 : x8_2 ≥ (t515.length : Int)
                  · rw [if_pos c38] at H
                    have c38b0 : decide ((t515.length : Int) ≤ x8_2) = true := decide_eq_true c38
                    clear c38
                    obtain rfl := Option.some.inj H
                    obtain ⟨Ao39, co39, eo39⟩ := Kd.R_slice HO_5.out
                    subst eo39
                    obtain ⟨Ao40, co40, eo40⟩ := Kd.R_slice HO_6.out
                    subst eo40
                    go_wp2
                    repeat (go_quiet (fail); try go_wp2)
                    go_ret
                    exact ⟨by first | rfl | (simp [errW_none, errW_some] <;> rfl) | (simp [*, errW_none, errW_some] <;> rfl), by repeat (first | (with_reducible first | exact HB.out | apply below_alloc | apply pw_below_drewN | apply below_drew1) | exact HB.out)⟩
                  · rw [if_neg c38] at H
                    have c38b0 : decide ((t515.length : Int) ≤ x8_2) = false := decide_eq_false c38
                    clear c38
                    by_cases c41 : x8_2 ≥ (t522.length : Int)
                    · rw [if_pos c41] at H
                      have c41b0 : decide ((t522.length : Int) ≤ x8_2) = true := decide_eq_true c41
                      clear c41
                      obtain rfl := Option.some.inj H
                      obtain ⟨Ao42, co42, eo42⟩ := Kd.R_slice HO_5.out
                      subst eo42
                      obtain ⟨Ao43, co43, eo43⟩ := Kd.R_slice HO_6.out
                      subst eo43
                      obtain ⟨Ao44, co44, eo44⟩ := Kd.R_slice HO_7.out
                      subst eo44
                      go_wp2
                      repeat (go_quiet (fail); try go_wp2)
                      go_ret
                      exact ⟨by first | rfl | (simp [errW_none, errW_some] <;> rfl) | (simp [*, errW_none, errW_some] <;> rfl), by repeat (first | (with_reducible first | exact HB.out | apply below_alloc | apply pw_below_drewN | apply below_drew1) | exact HB.out)⟩
                    · rw [if_neg c41] at H
                      have c41b0 : decide ((t522.length : Int) ≤ x8_2) = false := decide_eq_false c41
                      clear c41
                      by_cases c45 : 0 ≤ x8_2
                      · rw [if_pos c45] at H
                        have c45b0 : decide (0 ≤ x8_2) = true := decide_eq_true c45
                        clear c45
                        by_cases c46 : x8_2 < (t515.length : Int)
                        · rw [if_pos c46] at H
                          have c46b0 : decide (x8_2 < (t515.length : Int)) = true := decide_eq_true c46
                          clear c46
                          by_cases c47 : x8_2 < (t522.length : Int)
                          · rw [if_pos c47] at H
                            have c47b0 : decide (x8_2 < (t522.length : Int)) = true := decide_eq_true c47
                            clear c47
                            by_cases c48 : (rd t500 x8_2) = (wrap64 ((rd t515 x8_2) + (rd t522 x8_2)))
                            · rw [if_pos c48] at H
                              have c48b0 : ((rd t500 x8_2) == (wrap64 ((rd t515 x8_2) + (rd t522 x8_2)))) = true := beq_iff_eq.mpr c48
                              have c48b1 : ((rd t500 x8_2) != (wrap64 ((rd t515 x8_2) + (rd t522 x8_2)))) = false := bne_eq_false_iff_eq.mpr c48
                              clear c48
                              have H' := Aside0.mk H
                              clear H
                              obtain ⟨Ao49, co49, eo49⟩ := Kd.R_slice HO_5.out
                              subst eo49
                              obtain ⟨Ao50, co50, eo50⟩ := Kd.R_slice HO_6.out
                              subst eo50
                              obtain ⟨Ao51, co51, eo51⟩ := Kd.R_slice HO_7.out
                              subst eo51
                              have p525 : 0 ≤ (x8_2 : Int) := of_decide_eq_true (by first | (with_reducible assumption) | assumption)
                              have q525 : x8_2 < (t500.length : Int) := of_decide_eq_true (by first | (with_reducible assumption) | assumption)
                              obtain ⟨ad525, e525, hx525_0⟩ := Kd.at_int (Kd.R_reads' HO_5.out).2.2 x8_2 p525 q525
                              cases e525
                              replace p525 := eq_true p525
                              replace q525 := eq_true q525
                              have p526 : 0 ≤ (x8_2 : Int) := of_decide_eq_true (by first | (with_reducible assumption) | assumption)
                              have q526 : x8_2 < (t515.length : Int) := of_decide_eq_true (by first | (with_reducible assumption) | assumption)
                              obtain ⟨ad526, e526, hx526_0⟩ := Kd.at_int (Kd.R_reads' HO_6.out).2.2 x8_2 p526 q526
                              cases e526
                              replace p526 := eq_true p526
                              replace q526 := eq_true q526
                              have p527 : 0 ≤ (x8_2 : Int) := of_decide_eq_true (by first | (with_reducible assumption) | assumption)
                              have q527 : x8_2 < (t522.length : Int) := of_decide_eq_true (by first | (with_reducible assumption) | assumption)
                              obtain ⟨ad527, e527, hx527_0⟩ := Kd.at_int (Kd.R_reads' HO_7.out).2.2 x8_2 p527 q527
                              cases e527
                              replace p527 := eq_true p527
                              replace q527 := eq_true q527
                              go_wp2
                              repeat (go_quiet (fail); try go_wp2)
                              go_roundg k2
                              case measure => have := HJ4.out; have := HK2.out; omega
                              case rel => exact ⟨(wrap64 (x8_2 + 1)), (by first | rfl | (simp; done) | (simp [*]; done)), H', ⟨by have := HJ4.out; have := HK2.out; omega⟩, ⟨by (with_reducible repeat (first | apply Kd.S_alloc | apply Kd.S_drewN | apply Kd.S_drew)); exact HO_3.out⟩, ⟨by (with_reducible repeat (first | apply Kd.Q_alloc | apply Kd.Q_drewN | apply Kd.Q_drew)); exact HO_4.out⟩, ⟨by (with_reducible repeat (first | apply Kd.R_alloc | apply Kd.R_drewN | apply Kd.R_drew)); exact HO_5.out⟩, ⟨by (with_reducible repeat (first | apply Kd.R_alloc | apply Kd.R_drewN | apply Kd.R_drew)); exact HO_6.out⟩, ⟨by (with_reducible repeat (first | apply Kd.R_alloc | apply Kd.R_drewN | apply Kd.R_drew)); exact HO_7.out⟩, ⟨by repeat (first | (with_reducible first | exact HB.out | apply below_alloc | apply pw_below_drewN | apply below_drew1) | exact HB.out)⟩⟩
                            · rw [if_neg c48] at H
                              have c48b0 : ((rd t500 x8_2) == (wrap64 ((rd t515 x8_2) + (rd t522 x8_2)))) = false := beq_eq_false_iff_ne.mpr c48
                              have c48b1 : ((rd t500 x8_2) != (wrap64 ((rd t515 x8_2) + (rd t522 x8_2)))) = true := bne_iff_ne.mpr c48
                              obtain rfl := Option.some.inj H
                              obtain ⟨Ao52, co52, eo52⟩ := Kd.R_slice HO_5.out
                              subst eo52
                              obtain ⟨Ao53, co53, eo53⟩ := Kd.R_slice HO_6.out
                              subst eo53
                              obtain ⟨Ao54, co54, eo54⟩ := Kd.R_slice HO_7.out
                              subst eo54
                              have p525 : 0 ≤ (x8_2 : Int) := of_decide_eq_true (by first | (with_reducible assumption) | assumption)
                              have q525 : x8_2 < (t500.length : Int) := of_decide_eq_true (by first | (with_reducible assumption) | assumption)
                              obtain ⟨ad525, e525, hx525_0⟩ := Kd.at_int (Kd.R_reads' HO_5.out).2.2 x8_2 p525 q525
                              cases e525
                              replace p525 := eq_true p525
                              replace q525 := eq_true q525
                              have p526 : 0 ≤ (x8_2 : Int) := of_decide_eq_true (by first | (with_reducible assumption) | assumption)
                              have q526 : x8_2 < (t515.length : Int) := of_decide_eq_true (by first | (with_reducible assumption) | assumption)
                              obtain ⟨ad526, e526, hx526_0⟩ := Kd.at_int (Kd.R_reads' HO_6.out).2.2 x8_2 p526 q526
                              cases e526
                              replace p526 := eq_true p526
                              replace q526 := eq_true q526
                              have p527 : 0 ≤ (x8_2 : Int) := of_decide_eq_true (by first | (with_reducible assumption) | assumption)
                              have q527 : x8_2 < (t522.length : Int) := of_decide_eq_true (by first | (with_reducible assumption) | assumption)
                              obtain ⟨ad527, e527, hx527_0⟩ := Kd.at_int (Kd.R_reads' HO_7.out).2.2 x8_2 p527 q527
                              cases e527
                              replace p527 := eq_true p527
                              replace q527 := eq_true q527
                              go_wp2
                              repeat (go_quiet (fail); try go_wp2)
                              go_ret
                              exact ⟨by first | rfl | (simp [errW_none, errW_some] <;> rfl) | (simp [*, errW_none, errW_some] <;> rfl), by repeat (first | (with_reducible first | exact HB.out | apply below_alloc | apply pw_below_drewN | apply below_drew1) | exact HB.out)⟩
                          · rw [if_neg c47] at H
                            exact absurd H (by simp)
                        · rw [if_neg c46] at H
                          exact absurd H (by simp)
                      · rw [if_neg c45] at H
                        exact absurd H (by simp)
                · rw [if_neg c37] at H
                  have c37b0 : decide (x8_2 < (t500.length : Int)) = false := decide_eq_false c37
                  clear c37
                  replace H := Option.bind_eq_some_iff.mp H
                  obtain ⟨t528, A550, H⟩ := H
                  replace H : (if 0 < (t495.length : Int) then (if 0 ≤ (rd t495 0) then (if (rd t495 0) < (t494.length : Int) then (some (t528 == ((rd_T33 t494 (rd t495 0)).f3))) else (none)) else (none)) else (none)) = some r := H
                  have A55 := Aside0.mk A550
                  clear A550
                  by_cases c56 : 0 < (t495.length : Int)
                  · rw [if_pos c56] at H
                    have c56b0 : decide (0 < (t495.length : Int)) = true := decide_eq_true c56
                    have c56b1 : decide (0 < t495.length) = true := decide_eq_true (by omega)
                    clear c56
                    by_cases c57 : 0 ≤ (rd t495 0)
                    · rw [if_pos c57] at H
                      have c57b0 : decide (0 ≤ (rd t495 0)) = true := decide_eq_true c57
                      clear c57
                      by_cases c58 : (rd t495 0) < (t494.length : Int)
                      · rw [if_pos c58] at H
                        have c58b0 : decide ((rd t495 0) < (t494.length : Int)) = true := decide_eq_true c58
                        clear c58
                        obtain rfl := Option.some.inj H
                        obtain ⟨Ao59, co59, eo59⟩ := Kd.R_slice HO_5.out
                        subst eo59
                        obtain ⟨Ao60, co60, eo60⟩ := Kd.R_slice HO_6.out
                        subst eo60
                        go_wp2_with (first | (go_at_call 34; (with_reducible refine (laws_sum.calls k2 _ _ t515 t528 _ ?side1 ?side2 A55.out).mono ?_); (case side1 => repeat (first | exact (Kd.R_reads' HO_6.out).2.2 | (with_reducible refine Kd.C_alloc ?_ _) | (with_reducible refine Kd.C_drewN ?_ _) | (with_reducible refine Kd.C_drew ?_))); (case side2 => exact (Kd.R_reads' HO_6.out).2.1); rintro e w' ⟨rfl, ⟨nd, rfl⟩⟩; (try first | exact ⟨rfl, _, World.drewN_drewN _ _ _⟩ | exact ⟨rfl, _, Eq.trans (World.drewN_drewN _ _ _) (congrArg (World.drewN _) (Nat.add_assoc _ _ _))⟩); have p529 : 0 ≤ (0 : Int) := (by omega); have q529 : 0 < (t495.length : Int) := of_decide_eq_true (by first | (with_reducible assumption) | assumption); obtain ⟨ad529, e529, hx529_0⟩ := Kd.at_int (Kd.Q_reads' HO_4.out).2.2 0 p529 q529; cases e529; have qi529 : (0 < t495.length) = True := eq_true (by omega); (try rw [show ((0 : Int)).toNat = 0 from rfl] at hx529_0); (try rw [Addr.add_zero'] at hx529_0); replace p529 := eq_true p529; replace q529 := eq_true q529; have p530 : 0 ≤ ((rd t495 0) : Int) := of_decide_eq_true (by first | (with_reducible assumption) | assumption); have q530 : (rd t495 0) < (t494.length : Int) := of_decide_eq_true (by first | (with_reducible assumption) | assumption); obtain ⟨ad530, A530_1, c530_1, e530, hx530_0, hx530_1, hx530_2, hx530_3, hl530_1, hi530_1⟩ := at_T33 (Kd.S_reads' HO_3.out).2.2 (rd t495 0) p530 q530; cases e530; obtain ⟨ce530, hce530, hMe530, hcc530⟩ := Kd.S_get HO_3.out z33 (rd t495 0) p530 (by first | exact q530 | exact of_decide_eq_true (by first | (with_reducible assumption) | assumption) | (have e_ := (Kd.S_reads' HO_3.out).1; omega)); obtain ⟨ve530_1, rfl, ge530_1⟩ := k33_openM hMe530; have hv530_1 := hcc530 1 _ rfl; rw [add_field _ _ 1 (by omega)] at hv530_1; replace hv530_1 := Option.some.inj (hv530_1.symm.trans hx530_1); rw [hv530_1] at ge530_1; have HL530_1 := Aside0.mk (show Kd.Q (Kd.int .i64) 3 _ _ _ _ ((rd_T33 t494 (rd t495 0)).f1) from ge530_1); clear hv530_1 ge530_1; clear hcc530 hce530; have HR530_1 := Aside0.mk hi530_1; have HC530_1 := Aside0.mk hl530_1; clear hi530_1 hl530_1; replace p530 := eq_true p530; replace q530 := eq_true q530))
                        repeat (go_quiet (first | (go_at_call 34; (with_reducible refine (laws_sum.calls k2 _ _ t515 t528 _ ?side1 ?side2 A55.out).mono ?_); (case side1 => repeat (first | exact (Kd.R_reads' HO_6.out).2.2 | (with_reducible refine Kd.C_alloc ?_ _) | (with_reducible refine Kd.C_drewN ?_ _) | (with_reducible refine Kd.C_drew ?_))); (case side2 => exact (Kd.R_reads' HO_6.out).2.1); rintro e w' ⟨rfl, ⟨nd, rfl⟩⟩; (try first | exact ⟨rfl, _, World.drewN_drewN _ _ _⟩ | exact ⟨rfl, _, Eq.trans (World.drewN_drewN _ _ _) (congrArg (World.drewN _) (Nat.add_assoc _ _ _))⟩); have p529 : 0 ≤ (0 : Int) := (by omega); have q529 : 0 < (t495.length : Int) := of_decide_eq_true (by first | (with_reducible assumption) | assumption); obtain ⟨ad529, e529, hx529_0⟩ := Kd.at_int (Kd.Q_reads' HO_4.out).2.2 0 p529 q529; cases e529; have qi529 : (0 < t495.length) = True := eq_true (by omega); (try rw [show ((0 : Int)).toNat = 0 from rfl] at hx529_0); (try rw [Addr.add_zero'] at hx529_0); replace p529 := eq_true p529; replace q529 := eq_true q529; have p530 : 0 ≤ ((rd t495 0) : Int) := of_decide_eq_true (by first | (with_reducible assumption) | assumption); have q530 : (rd t495 0) < (t494.length : Int) := of_decide_eq_true (by first | (with_reducible assumption) | assumption); obtain ⟨ad530, A530_1, c530_1, e530, hx530_0, hx530_1, hx530_2, hx530_3, hl530_1, hi530_1⟩ := at_T33 (Kd.S_reads' HO_3.out).2.2 (rd t495 0) p530 q530; cases e530; obtain ⟨ce530, hce530, hMe530, hcc530⟩ := Kd.S_get HO_3.out z33 (rd t495 0) p530 (by first | exact q530 | exact of_decide_eq_true (by first | (with_reducible assumption) | assumption) | (have e_ := (Kd.S_reads' HO_3.out).1; omega)); obtain ⟨ve530_1, rfl, ge530_1⟩ := k33_openM hMe530; have hv530_1 := hcc530 1 _ rfl; rw [add_field _ _ 1 (by omega)] at hv530_1; replace hv530_1 := Option.some.inj (hv530_1.symm.trans hx530_1); rw [hv530_1] at ge530_1; have HL530_1 := Aside0.mk (show Kd.Q (Kd.int .i64) 3 _ _ _ _ ((rd_T33 t494 (rd t495 0)).f1) from ge530_1); clear hv530_1 ge530_1; clear hcc530 hce530; have HR530_1 := Aside0.mk hi530_1; have HC530_1 := Aside0.mk hl530_1; clear hi530_1 hl530_1; replace p530 := eq_true p530; replace q530 := eq_true q530)); try go_wp2_with (first | (go_at_call 34; (with_reducible refine (laws_sum.calls k2 _ _ t515 t528 _ ?side1 ?side2 A55.out).mono ?_); (case side1 => repeat (first | exact (Kd.R_reads' HO_6.out).2.2 | (with_reducible refine Kd.C_alloc ?_ _) | (with_reducible refine Kd.C_drewN ?_ _) | (with_reducible refine Kd.C_drew ?_))); (case side2 => exact (Kd.R_reads' HO_6.out).2.1); rintro e w' ⟨rfl, ⟨nd, rfl⟩⟩; (try first | exact ⟨rfl, _, World.drewN_drewN _ _ _⟩ | exact ⟨rfl, _, Eq.trans (World.drewN_drewN _ _ _) (congrArg (World.drewN _) (Nat.add_assoc _ _ _))⟩); have p529 : 0 ≤ (0 : Int) := (by omega); have q529 : 0 < (t495.length : Int) := of_decide_eq_true (by first | (with_reducible assumption) | assumption); obtain ⟨ad529, e529, hx529_0⟩ := Kd.at_int (Kd.Q_reads' HO_4.out).2.2 0 p529 q529; cases e529; have qi529 : (0 < t495.length) = True := eq_true (by omega); (try rw [show ((0 : Int)).toNat = 0 from rfl] at hx529_0); (try rw [Addr.add_zero'] at hx529_0); replace p529 := eq_true p529; replace q529 := eq_true q529; have p530 : 0 ≤ ((rd t495 0) : Int) := of_decide_eq_true (by first | (with_reducible assumption) | assumption); have q530 : (rd t495 0) < (t494.length : Int) := of_decide_eq_true (by first | (with_reducible assumption) | assumption); obtain ⟨ad530, A530_1, c530_1, e530, hx530_0, hx530_1, hx530_2, hx530_3, hl530_1, hi530_1⟩ := at_T33 (Kd.S_reads' HO_3.out).2.2 (rd t495 0) p530 q530; cases e530; obtain ⟨ce530, hce530, hMe530, hcc530⟩ := Kd.S_get HO_3.out z33 (rd t495 0) p530 (by first | exact q530 | exact of_decide_eq_true (by first | (with_reducible assumption) | assumption) | (have e_ := (Kd.S_reads' HO_3.out).1; omega)); obtain ⟨ve530_1, rfl, ge530_1⟩ := k33_openM hMe530; have hv530_1 := hcc530 1 _ rfl; rw [add_field _ _ 1 (by omega)] at hv530_1; replace hv530_1 := Option.some.inj (hv530_1.symm.trans hx530_1); rw [hv530_1] at ge530_1; have HL530_1 := Aside0.mk (show Kd.Q (Kd.int .i64) 3 _ _ _ _ ((rd_T33 t494 (rd t495 0)).f1) from ge530_1); clear hv530_1 ge530_1; clear hcc530 hce530; have HR530_1 := Aside0.mk hi530_1; have HC530_1 := Aside0.mk hl530_1; clear hi530_1 hl530_1; replace p530 := eq_true p530; replace q530 := eq_true q530)))
                        go_ret
                        exact ⟨by first | rfl | (simp [errW_none, errW_some] <;> rfl) | (simp [*, errW_none, errW_some] <;> rfl), by repeat (first | (with_reducible first | exact HB.out | apply below_alloc | apply pw_below_drewN | apply below_drew1) | exact HB.out)⟩
                      · rw [if_neg c58] at H
                        exact absurd H (by simp)
                    · rw [if_neg c57] at H
                      exact absurd H (by simp)
                  · rw [if_neg c56] at H
                    exact absurd H (by simp)
          · rw [if_neg c29] at H
            exact absurd H (by simp)
end Go.Proofs.YtffhdofcfkgoaaaDoor.P
end
section
set_option linter.unusedVariables false
set_option linter.unusedSimpArgs false
namespace Go.Proofs.YtffhdofcfkgoaaaDoor.Core
open Go Go.RowKit Go.Proofs.YtffhdofcfkgoaaaDoorW.PrintWords Go.Proofs.YtffhdofcfkgoaaaDoorW.PrintMore Go.Proofs.YtffhdofcfkgoaaaDoor.P
theorem ev_uu_no (g : List Tk) (l : List Int) : Ev (fun k => spec_UsedUnits.j0 k g l [] true) [] := by
  refine Ev.succ ?_
  simp only [spec_UsedUnits.j0, if_true]
  exact Ev.const _
theorem ev_uu_loop {g : List Tk} {L : List Nat} (hb : L.length ≤ 100) (hL : ∀ i ∈ L, i < g.length) (hu : UOk g L) :
    Ev (fun k => spec_UsedUnits.l0 k g (up L) [] 0) [usedN g 0 L, usedN g 1 L, usedN g 2 L] := by
  refine Ev.succ ?_
  simp only [spec_UsedUnits.l0]
  refine Ev.pos (by omega) (Ev.bind (ev_used 0 L hb hL hu) (Ev.pos (by simp) (Ev.succ ?_)))
  simp only [spec_UsedUnits.l0, show wrap64 (0 + 1) = 1 from by unfold wrap64; omega]
  refine Ev.pos (by omega) (Ev.bind (ev_used 1 L hb hL hu) (Ev.pos (by simp) (Ev.succ ?_)))
  simp only [spec_UsedUnits.l0, show wrap64 (1 + 1) = 2 from by unfold wrap64; omega]
  refine Ev.pos (by omega) (Ev.bind (ev_used 2 L hb hL hu) (Ev.pos (by simp) (Ev.succ ?_)))
  simp only [spec_UsedUnits.l0, show wrap64 (2 + 1) = 3 from by unfold wrap64; omega]
  exact Ev.neg (by omega) (Ev.const _)
theorem usedD_some {g : List Tk} {G : GD} (hG : graphD g = some G) {l : List Int} {s : Nat} (hs : setD g.length l = some s) : usedD g l = [usedN g 0 (elemsN s), usedN g 1 (elemsN s), usedN g 2 (elemsN s)] := by
  obtain ⟨hu, hL⟩ := graphD_uok hG s (setD_lt hs)
  obtain ⟨e0, e1, e2⟩ := countSet_used hu
  unfold usedD
  rw [hG]
  simp only []
  rw [hs]
  simp only [e0, e1, e2]
theorem ev_UsedUnits {g : List Tk} (hg : Fits g) {l : List Int} (hl : l.length < big) : Ev (fun k => spec_UsedUnits.f k g l) (usedD g l) := by
  unfold spec_UsedUnits.f
  refine Ev.sb (Ev.bind (ev_validGraph hg) ?_)
  cases hG : graphD g with
  | none => exact Ev.neg (by simp) ((ev_uu_no g l).conv (by unfold usedD; rw [hG]))
  | some G =>
    refine Ev.pos rfl (Ev.bind (ev_ascends hl) ?_)
    have hbig := hg.1
    rw [w64 (n := (g.length : Int) - 1) (by omega) (by unfold big at hbig; omega)]
    have h8 : g.length ≤ 8 := by have := (graphD_ok hG).n8; rw [graphD_tasks hG] at this; exact this
    have hall := ev_allIn hl 0 ((g.length : Int) - 1)
    rcases set_cases g.length l with ⟨s, hs, hok⟩ | ⟨hs, hok⟩
    · refine Ev.pos hok.2 (Ev.bind hall ?_)
      rw [decide_eq_true hok.1]
      refine Ev.succ ?_
      simp only [spec_UsedUnits.j0, Bool.not_true, Bool.false_eq_true, if_false]
      obtain ⟨hu, hL⟩ := graphD_uok hG s (setD_lt hs)
      have := ev_uu_loop (g := g) (L := elemsN s) (by have := elemsN_length s; omega) hL hu
      rw [set_list h8 hs] at this
      exact this.conv (usedD_some hG hs).symm
    · have e : usedD g l = [] := by unfold usedD; rw [hG]; simp only []; rw [hs]
      by_cases ha : ascD l = true
      · refine Ev.pos ha (Ev.bind hall ?_)
        rw [decide_eq_false (fun h => hok ⟨h, ha⟩)]
        exact (ev_uu_no g l).conv e.symm
      · exact Ev.neg ha ((ev_uu_no g l).conv e.symm)
end Go.Proofs.YtffhdofcfkgoaaaDoor.Core
end
section
set_option linter.unusedVariables false
set_option linter.unusedSimpArgs false
namespace Go.Proofs.YtffhdofcfkgoaaaDoor.P
open Go Go.RowKit Go.Shelf Go.Proofs.YtffhdofcfkgoaaaDoorW.PrintWords Go.Proofs.YtffhdofcfkgoaaaDoorW.PrintMore Go.Proofs.YtffhdofcfkgoaaaDoor.Core
attribute [local go_sem] Oper.semAt_some wide_fn wide_depth
def impl_ValidGraph.f (l0 : List S33) : Option Bool := some (graphD l0).isSome
set_option maxRecDepth 100000 in
set_option maxHeartbeats 4000000 in
theorem impl_ValidGraph.calls (A0 : Option Addr) (c0 : Nat) (l0 : List S33) (r : Bool) (w : World) (hr0 : Kd.C k33 w A0 l0.length l0) (hc0 : l0.length ≤ c0) (hT : Tab w) (h : impl_ValidGraph.f l0 = some r) :
    Calls Tryd.prog 35 #[.slice A0 l0.length c0] w fun e w' => e = .returned (.bool r) ∧ Below w.heap.size w w' := by
  have hr : r = (graphD l0).isSome := (Option.some.inj h).symm
  subst hr
  clear h
  cases hg : graphD l0 with
  | none =>
    have HG := Aside0.mk (graphOf_none A0 c0 l0 w hT hr0 hc0 hg)
    clear hr0 hT hg
    go_enter Tryd.func35, Tryd.ntmps35
    go_wp2_with (go_at_call 47; refine HG.out.mono ?_; rintro e w' ⟨rfl, hB⟩)
    go_ret
    exact ⟨rfl, hB⟩
  | some G =>
    have HG := Aside0.mk (graphOf_some A0 c0 l0 G w hT hr0 hc0 hg)
    clear hr0 hT hg
    go_enter Tryd.func35, Tryd.ntmps35
    go_wp2_with (go_at_call 47; refine HG.out.mono ?_; rintro e w' ⟨b, rfl, hB, _⟩)
    go_ret
    exact ⟨rfl, hB⟩
end Go.Proofs.YtffhdofcfkgoaaaDoor.P
end
section
namespace Go.Proofs.YtffhdofcfkgoaaaDoor.P
open Go.Proofs.YtffhdofcfkgoaaaDoor.Core (Tab Tab.of)
open Go.RowKit Go.Proofs.YtffhdofcfkgoaaaDoorW.PrintWords Go.Proofs.YtffhdofcfkgoaaaDoorW.PrintLast Go.Proofs.YtffhdofcfkgoaaaDoorW.PrintMore
attribute [local go_sem] max2_int min2_int max_two min_two max_three min_three max_four min_four   -- for this text's walks alone
set_option linter.unusedVariables false
set_option linter.unusedSimpArgs false
mutual
noncomputable def laws_FnUsedUnitsAll.j0 : Nat → List (S33) → List Int → List Int → Bool → Option (Bool)
  | 0, _, _, _, _ => none
  | k + 1, x3, x4, x5, x30 => if x30 = true then ((spec_UsedUnits.f k x3 x4).bind fun t545 => ((laws_equalInts.f k x5 t545).bind fun t548 => (some t548))) else (laws_FnUsedUnitsAll.l0 k x3 (([] : List Int)) 0 0)
noncomputable def laws_FnUsedUnitsAll.l0 : Nat → List (S33) → List Int → Int → Int → Option (Bool)
  | 0, _, _, _, _ => none
  | k + 1, x3, x6, x7, x8 => if x8 < (x3.length : Int) then (if x6.length < 17592186044416 then (if 0 ≤ x8 then (laws_FnUsedUnitsAll.l0 k x3 (x6 ++ [x8]) (wrap64 (x7 + ((rd_T33 x3 x8).f3))) (wrap64 (x8 + 1))) else (none)) else (none)) else ((impl_UsedUnits.f x3 x6).bind fun t556 => ((laws_sum.f k t556).bind fun t559 => (if t559 = x7 then ((impl_UsedUnits.f x3 ([] : List Int)).bind fun t560 => ((laws_sum.f k t560).bind fun t563 => (some (t563 == 0)))) else (some false))))
end
noncomputable def laws_FnUsedUnitsAll.f (k : Nat) (l0 : List Int) : Option (Bool) := if (l0.length : Int) > 1048576 then (some true) else ((spec_DrawUsedUnits.f k l0).bind fun bt531 => ((impl_UsedUnits.f bt531.1 bt531.2).bind fun t537 => ((spec_UsedUnits.f k bt531.1 bt531.2).bind fun t540 => ((laws_equalInts.f k t537 t540).bind fun t543 => (if t543 = true then ((impl_ValidGraph.f bt531.1).bind fun t544 => (laws_FnUsedUnitsAll.j0 k bt531.1 bt531.2 t537 (!t544))) else (laws_FnUsedUnitsAll.j0 k bt531.1 bt531.2 t537 true))))))
theorem laws_FnUsedUnitsAll.mono_l : ∀ k, (∀ y0 y1 y2 y3, LeO (laws_FnUsedUnitsAll.j0 k y0 y1 y2 y3) (laws_FnUsedUnitsAll.j0 (k + 1) y0 y1 y2 y3)) ∧ (∀ y0 y1 y2 y3, LeO (laws_FnUsedUnitsAll.l0 k y0 y1 y2 y3) (laws_FnUsedUnitsAll.l0 (k + 1) y0 y1 y2 y3))
  | 0 => ⟨fun _ _ _ _ r h => by simp [laws_FnUsedUnitsAll.j0] at h, fun _ _ _ _ r h => by simp [laws_FnUsedUnitsAll.l0] at h⟩
  | k + 1 => by
    obtain ⟨ih0, ih1⟩ := laws_FnUsedUnitsAll.mono_l k
    refine ⟨?_, ?_⟩
    · intro y0 y1 y2 y3
      unfold laws_FnUsedUnitsAll.j0
      repeat' first
      | (with_reducible exact ih0 _ _ _ _)
      | (with_reducible exact ih1 _ _ _ _)
      | (with_reducible exact laws_equalInts.mono _ _ _)
      | (with_reducible exact laws_sum.mono _ _)
      | (with_reducible exact spec_DrawUsedUnits.mono _ _)
      | (with_reducible exact spec_UsedUnits.mono _ _ _)
      | (with_reducible exact LeO.refl _)
      | (with_reducible exact LeO.none _)
      | (with_reducible refine LeO.ite ?_ ?_)
      | (with_reducible refine LeO.bind ?_ (fun _ => ?_))
      | exact ih0 _ _ _ _
      | exact ih1 _ _ _ _
      | exact laws_equalInts.mono _ _ _
      | exact laws_sum.mono _ _
      | exact spec_DrawUsedUnits.mono _ _
      | exact spec_UsedUnits.mono _ _ _
      | exact LeO.none _
      | refine LeO.ite ?_ ?_
      | refine LeO.bind ?_ (fun _ => ?_)
    · intro y0 y1 y2 y3
      unfold laws_FnUsedUnitsAll.l0
      repeat' first
      | (with_reducible exact ih0 _ _ _ _)
      | (with_reducible exact ih1 _ _ _ _)
      | (with_reducible exact laws_equalInts.mono _ _ _)
      | (with_reducible exact laws_sum.mono _ _)
      | (with_reducible exact spec_DrawUsedUnits.mono _ _)
      | (with_reducible exact spec_UsedUnits.mono _ _ _)
      | (with_reducible exact LeO.refl _)
      | (with_reducible exact LeO.none _)
      | (with_reducible refine LeO.ite ?_ ?_)
      | (with_reducible refine LeO.bind ?_ (fun _ => ?_))
      | exact ih0 _ _ _ _
      | exact ih1 _ _ _ _
      | exact laws_equalInts.mono _ _ _
      | exact laws_sum.mono _ _
      | exact spec_DrawUsedUnits.mono _ _
      | exact spec_UsedUnits.mono _ _ _
      | exact LeO.none _
      | refine LeO.ite ?_ ?_
      | refine LeO.bind ?_ (fun _ => ?_)
theorem laws_FnUsedUnitsAll.mono : ∀ a0 k, LeO (laws_FnUsedUnitsAll.f k a0) (laws_FnUsedUnitsAll.f (k + 1) a0) := by
  intro a0 k
  obtain ⟨ih0, ih1⟩ := laws_FnUsedUnitsAll.mono_l k
  unfold laws_FnUsedUnitsAll.f
  repeat' first
      | (with_reducible exact ih0 _ _ _ _)
      | (with_reducible exact ih1 _ _ _ _)
      | (with_reducible exact laws_equalInts.mono _ _ _)
      | (with_reducible exact laws_sum.mono _ _)
      | (with_reducible exact spec_DrawUsedUnits.mono _ _)
      | (with_reducible exact spec_UsedUnits.mono _ _ _)
      | (with_reducible exact LeO.refl _)
      | (with_reducible exact LeO.none _)
      | (with_reducible refine LeO.ite ?_ ?_)
      | (with_reducible refine LeO.bind ?_ (fun _ => ?_))
      | exact ih0 _ _ _ _
      | exact ih1 _ _ _ _
      | exact laws_equalInts.mono _ _ _
      | exact laws_sum.mono _ _
      | exact spec_DrawUsedUnits.mono _ _
      | exact spec_UsedUnits.mono _ _ _
      | exact LeO.none _
      | refine LeO.ite ?_ ?_
      | refine LeO.bind ?_ (fun _ => ?_)
set_option maxHeartbeats 8000000 in
set_option maxRecDepth 100000 in
theorem laws_FnUsedUnitsAll.calls (k : Nat) (A0 : Option Addr) (c0 : Nat) (l0 : List Int) (r : Bool) (w : World) (hr0 : Kd.C (Kd.int .u8) w A0 l0.length l0) (hc0 : l0.length ≤ c0) (hT : Tab w) (h : laws_FnUsedUnitsAll.f k l0 = some r) :
    Calls Tryd.prog 9 #[.slice A0 l0.length c0] w fun e w' => e = .returned (.bool r) ∧ Below w.heap.size w w' := by
  have HT := Aside0.mk hT
  clear hT
  have HR0 := Aside0.mk hr0
  have HC0 := Aside0.mk hc0
  clear hr0 hc0
  have HB := Aside0.mk (Below.refl w.heap.size w)
  have H : (if (l0.length : Int) > 1048576 then (some true) else ((spec_DrawUsedUnits.f k l0).bind fun bt531 => ((impl_UsedUnits.f bt531.1 bt531.2).bind fun t537 => ((spec_UsedUnits.f k bt531.1 bt531.2).bind fun t540 => ((laws_equalInts.f k t537 t540).bind fun t543 => (if t543 = true then ((impl_ValidGraph.f bt531.1).bind fun t544 => (laws_FnUsedUnitsAll.j0 k bt531.1 bt531.2 t537 (!t544))) else (laws_FnUsedUnitsAll.j0 k bt531.1 bt531.2 t537 true))))))) = some r := h
  clear h
  by_cases c2 : (l0.length : Int) > 1048576
  · rw [if_pos c2] at H
    have c2b0 : decide (1048576 < (l0.length : Int)) = true := decide_eq_true c2
    have c2b1 : decide (1048576 < l0.length) = true := decide_eq_true (by omega)
    clear c2
    obtain rfl := Option.some.inj H
    go_enter Tryd.func9, Tryd.ntmps9
    go_wp2
    go_ret
    exact ⟨by first | rfl | (simp [errW_none, errW_some] <;> rfl) | (simp [*, errW_none, errW_some] <;> rfl), by repeat (first | (with_reducible first | exact HB.out | apply below_alloc | apply pw_below_drewN | apply below_drew1) | exact HB.out)⟩
  · rw [if_neg c2] at H
    have c2b0 : decide (1048576 < (l0.length : Int)) = false := decide_eq_false c2
    have c2b1 : decide (1048576 < l0.length) = false := decide_eq_false (by omega)
    clear c2
    replace H := Option.bind_eq_some_iff.mp H
    obtain ⟨⟨t531, t532⟩, A30, H⟩ := H
    replace H : ((impl_UsedUnits.f t531 t532).bind fun t537 => ((spec_UsedUnits.f k t531 t532).bind fun t540 => ((laws_equalInts.f k t537 t540).bind fun t543 => (if t543 = true then ((impl_ValidGraph.f t531).bind fun t544 => (laws_FnUsedUnitsAll.j0 k t531 t532 t537 (!t544))) else (laws_FnUsedUnitsAll.j0 k t531 t532 t537 true))))) = some r := H
    have A3 := Aside0.mk A30
    clear A30
    replace H := Option.bind_eq_some_iff.mp H
    obtain ⟨t537, A40, H⟩ := H
    replace H : ((spec_UsedUnits.f k t531 t532).bind fun t540 => ((laws_equalInts.f k t537 t540).bind fun t543 => (if t543 = true then ((impl_ValidGraph.f t531).bind fun t544 => (laws_FnUsedUnitsAll.j0 k t531 t532 t537 (!t544))) else (laws_FnUsedUnitsAll.j0 k t531 t532 t537 true)))) = some r := H
    have A4 := Aside0.mk A40
    clear A40
    have HC5 := Aside0.mk H
    clear H
    go_enter Tryd.func9, Tryd.ntmps9
    go_upto_region 5 with (first | ((with_reducible refine gate_callee (f := 32) rfl ?_); refine goesL_ (some 14) rfl rfl Tryd.func32 (by kernel_rfl) rfl #[.slice A0 l0.length c0] rfl (by (try simp only [List.map_toArray, List.map_cons, List.map_nil]); first | done | rfl | (simp only [List.length_drop, List.length_take]; rfl)) ?_; (with_reducible refine (spec_DrawUsedUnits.calls k _ _ l0 t531 t532 _ ?side1 ?side2 A3.out).mono ?_); (case side1 => repeat (first | exact HR0.out | (with_reducible refine Kd.C_alloc ?_ _) | (with_reducible refine Kd.C_drewN ?_ _) | (with_reducible refine Kd.C_drew ?_))); (case side2 => exact HC0.out); rintro e w6 ⟨v533, v535, rfl, ho0, ho1, hb⟩; refine ⟨_, rfl, ?_⟩; have n0_ := Aside0.mk (Kd.S_lower ho0 (below_size (by repeat (first | (with_reducible first | exact HB.out | apply below_alloc | apply pw_below_drewN | apply below_drew1) | exact HB.out)))); have n1_ := Aside0.mk (Kd.Q_lower ho1 (below_size (by repeat (first | (with_reducible first | exact HB.out | apply below_alloc | apply pw_below_drewN | apply below_drew1) | exact HB.out)))); have n2_ := Aside0.mk (below_step (by repeat (first | (with_reducible first | exact HB.out | apply below_alloc | apply pw_below_drewN | apply below_drew1) | exact HB.out)) hb); clear HB; have HO534 := n0_; have HO536 := n1_; have HB := n2_; clear n0_ n1_ n2_; (try clear hb); (try clear hb2); (try clear hk); (try clear hi); (try clear ho0); (try clear ho1); obtain ⟨Ao7, co7, eo7⟩ := Kd.S_slice HO534.out; subst eo7; obtain ⟨Ao8, co8, eo8, _⟩ := Kd.Q_slice HO536.out; subst eo8) | ((with_reducible refine gate_callee (f := 26) rfl ?_); refine goesL_ (some 19) rfl rfl Tryd.func26 (by kernel_rfl) rfl #[.slice Ao7 t531.length co7, .slice Ao8 t532.length co8] rfl (by (try simp only [List.map_toArray, List.map_cons, List.map_nil]); first | done | rfl | (simp only [List.length_drop, List.length_take]; rfl)) ?_; (with_reducible refine (impl_UsedUnits.calls _ _ t531 _ _ t532 t537 _ ?side1 ?side2 ?side3 ?side4 ?side5 A4.out).mono ?_); (case side1 => repeat (first | exact (Kd.S_reads' HO534.out).2.2 | (with_reducible refine Kd.C_alloc ?_ _) | (with_reducible refine Kd.C_drewN ?_ _) | (with_reducible refine Kd.C_drew ?_))); (case side2 => exact (Kd.S_reads' HO534.out).2.1); (case side3 => repeat (first | exact (Kd.Q_reads' HO536.out).2.2 | (with_reducible refine Kd.C_alloc ?_ _) | (with_reducible refine Kd.C_drewN ?_ _) | (with_reducible refine Kd.C_drew ?_))); (case side4 => exact (Kd.Q_reads' HO536.out).2.1); (case side5 => exact Tab.of HT.out (by repeat (first | (with_reducible first | exact HB.out | apply below_alloc | apply pw_below_drewN | apply below_drew1) | exact HB.out))); rintro e w9 ⟨v538, rfl, ho0, hb⟩; refine ⟨_, rfl, ?_⟩; have n0_ := Aside0.mk (Kd.S_elder' (by (with_reducible repeat (first | apply Kd.S_alloc | apply Kd.S_drewN | apply Kd.S_drew)); exact HO534.out) (Kd.R_base ho0) hb); have n1_ := Aside0.mk (Kd.Q_elder' (by (with_reducible repeat (first | apply Kd.Q_alloc | apply Kd.Q_drewN | apply Kd.Q_drew)); exact HO536.out) (Kd.R_base ho0) hb); have n2_ := Aside0.mk (Kd.R_lower (Kd.R_new' ho0 (Kd.Q_lt (by (with_reducible repeat (first | apply Kd.Q_alloc | apply Kd.Q_drewN | apply Kd.Q_drew)); exact HO536.out))) (below_size (by repeat (first | (with_reducible first | exact HB.out | apply below_alloc | apply pw_below_drewN | apply below_drew1) | exact HB.out)))); have n3_ := Aside0.mk (below_step (by repeat (first | (with_reducible first | exact HB.out | apply below_alloc | apply pw_below_drewN | apply below_drew1) | exact HB.out)) hb); clear HO534; clear HO536; clear HB; have HO534 := n0_; have HO536 := n1_; have HO539 := n2_; have HB := n3_; clear n0_ n1_ n2_ n3_; (try clear hb); (try clear hb2); (try clear hk); (try clear hi); (try clear ho0)))
    (try simp only [Act.put, List.setIfInBounds_toArray, List.set_cons_zero, List.set_cons_succ])
    go_cut [30] (fun v30 wc => ∃ (kq : Nat) (x30_4 : Bool), v30 = .bool x30_4 ∧ Aside0 (laws_FnUsedUnitsAll.j0 kq t531 t532 t537 x30_4 = some r) ∧ Aside0 (kq ≤ k) ∧ Aside0 (Kd.S k33 33 wc w.heap.size (fun k_ => some k_ ≠ ((.slice Ao8 t532.length co8) : Value).ownBlock ∧ some k_ ≠ (v538 : Value).ownBlock) (.slice Ao7 t531.length co7) t531) ∧ Aside0 (Kd.Q (Kd.int .i64) 3 wc w.heap.size (fun k_ => some k_ ≠ (v538 : Value).ownBlock) (.slice Ao8 t532.length co8) t532) ∧ Aside0 (Kd.R (Kd.int .i64) 73 wc w.heap.size (fun k_ => some k_ ≠ ((.slice Ao8 t532.length co8) : Value).ownBlock) v538 t537) ∧ Aside0 (Below w.heap.size w wc))
    case first =>
      have H := HC5.out
      clear HC5
      replace H := Option.bind_eq_some_iff.mp H
      obtain ⟨t540, A100, H⟩ := H
      replace H : ((laws_equalInts.f k t537 t540).bind fun t543 => (if t543 = true then ((impl_ValidGraph.f t531).bind fun t544 => (laws_FnUsedUnitsAll.j0 k t531 t532 t537 (!t544))) else (laws_FnUsedUnitsAll.j0 k t531 t532 t537 true))) = some r := H
      have A10 := Aside0.mk A100
      clear A100
      replace H := Option.bind_eq_some_iff.mp H
      obtain ⟨t543, A110, H⟩ := H
      replace H : (if t543 = true then ((impl_ValidGraph.f t531).bind fun t544 => (laws_FnUsedUnitsAll.j0 k t531 t532 t537 (!t544))) else (laws_FnUsedUnitsAll.j0 k t531 t532 t537 true)) = some r := H
      have A11 := Aside0.mk A110
      clear A110
      by_cases c12 : t543 = true
      · subst c12
        have H1 : ((impl_ValidGraph.f t531).bind fun t544 => (laws_FnUsedUnitsAll.j0 k t531 t532 t537 (!t544))) = some r := by rw [if_pos rfl] at H; exact H
        clear H
        have H := H1
        clear H1
        replace H := Option.bind_eq_some_iff.mp H
        obtain ⟨t544, A130, H⟩ := H
        replace H : (laws_FnUsedUnitsAll.j0 k t531 t532 t537 (!t544)) = some r := H
        have A13 := Aside0.mk A130
        clear A130
        have H' := Aside0.mk H
        clear H
        go_wp2_with (first | ((with_reducible refine gate_callee (f := 25) rfl ?_); refine goesL_ (some 23) rfl rfl Tryd.func25 (by kernel_rfl) rfl #[.slice Ao7 t531.length co7, .slice Ao8 t532.length co8] rfl (by (try simp only [List.map_toArray, List.map_cons, List.map_nil]); first | done | rfl | (simp only [List.length_drop, List.length_take]; rfl)) ?_; (with_reducible refine (spec_UsedUnits.calls k _ _ t531 _ _ t532 t540 _ ?side1 ?side2 ?side3 ?side4 A10.out).mono ?_); (case side1 => repeat (first | exact (Kd.S_reads' HO534.out).2.2 | (with_reducible refine Kd.C_alloc ?_ _) | (with_reducible refine Kd.C_drewN ?_ _) | (with_reducible refine Kd.C_drew ?_))); (case side2 => exact (Kd.S_reads' HO534.out).2.1); (case side3 => repeat (first | exact (Kd.Q_reads' HO536.out).2.2 | (with_reducible refine Kd.C_alloc ?_ _) | (with_reducible refine Kd.C_drewN ?_ _) | (with_reducible refine Kd.C_drew ?_))); (case side4 => exact (Kd.Q_reads' HO536.out).2.1); rintro e w14 ⟨v541, rfl, ho0, hb⟩; refine ⟨_, rfl, ?_⟩; have n0_ := Aside0.mk (Kd.S_elder' (by (with_reducible repeat (first | apply Kd.S_alloc | apply Kd.S_drewN | apply Kd.S_drew)); exact HO534.out) (Kd.R_base ho0) hb); have n1_ := Aside0.mk (Kd.Q_elder' (by (with_reducible repeat (first | apply Kd.Q_alloc | apply Kd.Q_drewN | apply Kd.Q_drew)); exact HO536.out) (Kd.R_base ho0) hb); have n2_ := Aside0.mk (Kd.R_elder' (by (with_reducible repeat (first | apply Kd.R_alloc | apply Kd.R_drewN | apply Kd.R_drew)); exact HO539.out) (Kd.R_base ho0) hb); have n3_ := Aside0.mk (Kd.R_lower (Kd.R_new' (Kd.R_new' ho0 (Kd.Q_lt (by (with_reducible repeat (first | apply Kd.Q_alloc | apply Kd.Q_drewN | apply Kd.Q_drew)); exact HO536.out))) (Kd.R_lt (by (with_reducible repeat (first | apply Kd.R_alloc | apply Kd.R_drewN | apply Kd.R_drew)); exact HO539.out))) (below_size (by repeat (first | (with_reducible first | exact HB.out | apply below_alloc | apply pw_below_drewN | apply below_drew1) | exact HB.out)))); have n4_ := Aside0.mk (below_step (by repeat (first | (with_reducible first | exact HB.out | apply below_alloc | apply pw_below_drewN | apply below_drew1) | exact HB.out)) hb); clear HO534; clear HO536; clear HO539; clear HB; have HO534 := n0_; have HO536 := n1_; have HO539 := n2_; have HO542 := n3_; have HB := n4_; clear n0_ n1_ n2_ n3_ n4_; (try clear hb); (try clear hb2); (try clear hk); (try clear hi); (try clear ho0); obtain ⟨Ao15, co15, eo15⟩ := Kd.R_slice HO539.out; subst eo15; obtain ⟨Ao16, co16, eo16⟩ := Kd.R_slice HO542.out; subst eo16) | ((with_reducible refine gate_callee (f := 33) rfl ?_); refine goesL_ (some 24) rfl rfl Tryd.func33 (by kernel_rfl) rfl #[.slice Ao15 t537.length co15, .slice Ao16 t540.length co16] rfl (by (try simp only [List.map_toArray, List.map_cons, List.map_nil]); first | done | rfl | (simp only [List.length_drop, List.length_take]; rfl)) ?_; (with_reducible refine (laws_equalInts.calls k _ _ t537 _ _ t540 true _ ?side1 ?side2 ?side3 ?side4 A11.out).mono ?_); (case side1 => repeat (first | exact (Kd.R_reads' HO539.out).2.2 | (with_reducible refine Kd.C_alloc ?_ _) | (with_reducible refine Kd.C_drewN ?_ _) | (with_reducible refine Kd.C_drew ?_))); (case side2 => exact (Kd.R_reads' HO539.out).2.1); (case side3 => repeat (first | exact (Kd.R_reads' HO542.out).2.2 | (with_reducible refine Kd.C_alloc ?_ _) | (with_reducible refine Kd.C_drewN ?_ _) | (with_reducible refine Kd.C_drew ?_))); (case side4 => exact (Kd.R_reads' HO542.out).2.1); rintro e w' ⟨rfl, ⟨nd, rfl⟩⟩; refine ⟨_, rfl, ?_⟩) | (go_at_call 35; (with_reducible refine (impl_ValidGraph.calls _ _ t531 t544 _ ?side1 ?side2 ?side3 A13.out).mono ?_); (case side1 => repeat (first | exact (Kd.S_reads' HO534.out).2.2 | (with_reducible refine Kd.C_alloc ?_ _) | (with_reducible refine Kd.C_drewN ?_ _) | (with_reducible refine Kd.C_drew ?_))); (case side2 => exact (Kd.S_reads' HO534.out).2.1); (case side3 => exact Tab.of HT.out (by repeat (first | (with_reducible first | exact HB.out | apply below_alloc | apply pw_below_drewN | apply below_drew1) | exact HB.out))); rintro e w17 ⟨rfl, hb⟩; have n0_ := Aside0.mk (Kd.S_below (by (with_reducible repeat (first | apply Kd.S_alloc | apply Kd.S_drewN | apply Kd.S_drew)); exact HO534.out) hb); have n1_ := Aside0.mk (Kd.Q_below (by (with_reducible repeat (first | apply Kd.Q_alloc | apply Kd.Q_drewN | apply Kd.Q_drew)); exact HO536.out) hb); have n2_ := Aside0.mk (Kd.R_below (by (with_reducible repeat (first | apply Kd.R_alloc | apply Kd.R_drewN | apply Kd.R_drew)); exact HO539.out) hb); have n3_ := Aside0.mk (Kd.R_below (by (with_reducible repeat (first | apply Kd.R_alloc | apply Kd.R_drewN | apply Kd.R_drew)); exact HO542.out) hb); have n4_ := Aside0.mk (below_step (by repeat (first | (with_reducible first | exact HB.out | apply below_alloc | apply pw_below_drewN | apply below_drew1) | exact HB.out)) hb); clear HO534; clear HO536; clear HO539; clear HO542; clear HB; have HO534 := n0_; have HO536 := n1_; have HO539 := n2_; have HO542 := n3_; have HB := n4_; clear n0_ n1_ n2_ n3_ n4_; (try clear hb); (try clear hb2); (try clear hk); (try clear hi)))
        go_meet
        case rel => exact ⟨_, (!t544), (by first | rfl | (simp; done) | (simp [*]; done)), H', ⟨by first | omega | exact Nat.le_refl _⟩, ⟨by (with_reducible repeat (first | apply Kd.S_alloc | apply Kd.S_drewN | apply Kd.S_drew)); exact Kd.S_mono HO534.out (fun _ hk => ⟨hk.1.1, hk.1.2⟩)⟩, ⟨by (with_reducible repeat (first | apply Kd.Q_alloc | apply Kd.Q_drewN | apply Kd.Q_drew)); exact Kd.Q_mono HO536.out (fun _ hk => hk.1.2)⟩, ⟨by (with_reducible repeat (first | apply Kd.R_alloc | apply Kd.R_drewN | apply Kd.R_drew)); exact Kd.R_mono HO539.out (fun _ hk => hk.1.2)⟩, ⟨by repeat (first | (with_reducible first | exact HB.out | apply below_alloc | apply pw_below_drewN | apply below_drew1) | exact HB.out)⟩⟩
      · replace c12 := Bool.eq_false_iff.mpr c12
        subst c12
        have H1 : (laws_FnUsedUnitsAll.j0 k t531 t532 t537 true) = some r := by rw [if_neg (show ¬ (false = true) by decide)] at H; exact H
        clear H
        have H := H1
        clear H1
        have H' := Aside0.mk H
        clear H
        go_wp2_with (first | ((with_reducible refine gate_callee (f := 25) rfl ?_); refine goesL_ (some 23) rfl rfl Tryd.func25 (by kernel_rfl) rfl #[.slice Ao7 t531.length co7, .slice Ao8 t532.length co8] rfl (by (try simp only [List.map_toArray, List.map_cons, List.map_nil]); first | done | rfl | (simp only [List.length_drop, List.length_take]; rfl)) ?_; (with_reducible refine (spec_UsedUnits.calls k _ _ t531 _ _ t532 t540 _ ?side1 ?side2 ?side3 ?side4 A10.out).mono ?_); (case side1 => repeat (first | exact (Kd.S_reads' HO534.out).2.2 | (with_reducible refine Kd.C_alloc ?_ _) | (with_reducible refine Kd.C_drewN ?_ _) | (with_reducible refine Kd.C_drew ?_))); (case side2 => exact (Kd.S_reads' HO534.out).2.1); (case side3 => repeat (first | exact (Kd.Q_reads' HO536.out).2.2 | (with_reducible refine Kd.C_alloc ?_ _) | (with_reducible refine Kd.C_drewN ?_ _) | (with_reducible refine Kd.C_drew ?_))); (case side4 => exact (Kd.Q_reads' HO536.out).2.1); rintro e w18 ⟨v541, rfl, ho0, hb⟩; refine ⟨_, rfl, ?_⟩; have n0_ := Aside0.mk (Kd.S_elder' (by (with_reducible repeat (first | apply Kd.S_alloc | apply Kd.S_drewN | apply Kd.S_drew)); exact HO534.out) (Kd.R_base ho0) hb); have n1_ := Aside0.mk (Kd.Q_elder' (by (with_reducible repeat (first | apply Kd.Q_alloc | apply Kd.Q_drewN | apply Kd.Q_drew)); exact HO536.out) (Kd.R_base ho0) hb); have n2_ := Aside0.mk (Kd.R_elder' (by (with_reducible repeat (first | apply Kd.R_alloc | apply Kd.R_drewN | apply Kd.R_drew)); exact HO539.out) (Kd.R_base ho0) hb); have n3_ := Aside0.mk (Kd.R_lower (Kd.R_new' (Kd.R_new' ho0 (Kd.Q_lt (by (with_reducible repeat (first | apply Kd.Q_alloc | apply Kd.Q_drewN | apply Kd.Q_drew)); exact HO536.out))) (Kd.R_lt (by (with_reducible repeat (first | apply Kd.R_alloc | apply Kd.R_drewN | apply Kd.R_drew)); exact HO539.out))) (below_size (by repeat (first | (with_reducible first | exact HB.out | apply below_alloc | apply pw_below_drewN | apply below_drew1) | exact HB.out)))); have n4_ := Aside0.mk (below_step (by repeat (first | (with_reducible first | exact HB.out | apply below_alloc | apply pw_below_drewN | apply below_drew1) | exact HB.out)) hb); clear HO534; clear HO536; clear HO539; clear HB; have HO534 := n0_; have HO536 := n1_; have HO539 := n2_; have HO542 := n3_; have HB := n4_; clear n0_ n1_ n2_ n3_ n4_; (try clear hb); (try clear hb2); (try clear hk); (try clear hi); (try clear ho0); obtain ⟨Ao19, co19, eo19⟩ := Kd.R_slice HO539.out; subst eo19; obtain ⟨Ao20, co20, eo20⟩ := Kd.R_slice HO542.out; subst eo20) | ((with_reducible refine gate_callee (f := 33) rfl ?_); refine goesL_ (some 24) rfl rfl Tryd.func33 (by kernel_rfl) rfl #[.slice Ao19 t537.length co19, .slice Ao20 t540.length co20] rfl (by (try simp only [List.map_toArray, List.map_cons, List.map_nil]); first | done | rfl | (simp only [List.length_drop, List.length_take]; rfl)) ?_; (with_reducible refine (laws_equalInts.calls k _ _ t537 _ _ t540 false _ ?side1 ?side2 ?side3 ?side4 A11.out).mono ?_); (case side1 => repeat (first | exact (Kd.R_reads' HO539.out).2.2 | (with_reducible refine Kd.C_alloc ?_ _) | (with_reducible refine Kd.C_drewN ?_ _) | (with_reducible refine Kd.C_drew ?_))); (case side2 => exact (Kd.R_reads' HO539.out).2.1); (case side3 => repeat (first | exact (Kd.R_reads' HO542.out).2.2 | (with_reducible refine Kd.C_alloc ?_ _) | (with_reducible refine Kd.C_drewN ?_ _) | (with_reducible refine Kd.C_drew ?_))); (case side4 => exact (Kd.R_reads' HO542.out).2.1); rintro e w' ⟨rfl, ⟨nd, rfl⟩⟩; refine ⟨_, rfl, ?_⟩))
        go_meet
        case rel => exact ⟨_, (true), (by first | rfl | (simp; done) | (simp [*]; done)), H', ⟨by first | omega | exact Nat.le_refl _⟩, ⟨by (with_reducible repeat (first | apply Kd.S_alloc | apply Kd.S_drewN | apply Kd.S_drew)); exact Kd.S_mono HO534.out (fun _ hk => ⟨hk.1.1, hk.1.2⟩)⟩, ⟨by (with_reducible repeat (first | apply Kd.Q_alloc | apply Kd.Q_drewN | apply Kd.Q_drew)); exact Kd.Q_mono HO536.out (fun _ hk => hk.1.2)⟩, ⟨by (with_reducible repeat (first | apply Kd.R_alloc | apply Kd.R_drewN | apply Kd.R_drew)); exact Kd.R_mono HO539.out (fun _ hk => hk.1.2)⟩, ⟨by repeat (first | (with_reducible first | exact HB.out | apply below_alloc | apply pw_below_drewN | apply below_drew1) | exact HB.out)⟩⟩
    case rest =>
      clear HC5
      try clear c1
      try clear c2
      try clear c2b0
      try clear c2b1
      try clear p2
      try clear c3
      try clear c9
      try clear c12
      obtain ⟨kq, x30_4, rfl, HA, HJ4, HO_3, HO_4, HO_5, HB⟩ := hcut
      cases kq with
      | zero => exact absurd HA.out (by simp [laws_FnUsedUnitsAll.j0])
      | succ kj4 =>
        have H := HA.out
        clear HA
        simp only [laws_FnUsedUnitsAll.j0] at H
        by_cases c21 : x30_4 = true
        · subst c21
          have H1 : ((spec_UsedUnits.f kj4 t531 t532).bind fun t545 => ((laws_equalInts.f kj4 t537 t545).bind fun t548 => (some t548))) = some r := by rw [if_pos rfl] at H; exact H
          clear H
          have H := H1
          clear H1
          replace H := Option.bind_eq_some_iff.mp H
          obtain ⟨t545, A220, H⟩ := H
          replace H : ((laws_equalInts.f kj4 t537 t545).bind fun t548 => (some t548)) = some r := H
          have A22 := Aside0.mk A220
          clear A220
          replace H := Option.bind_eq_some_iff.mp H
          obtain ⟨t548, A230, H⟩ := H
          replace H : (some t548) = some r := H
          have A23 := Aside0.mk A230
          clear A230
          obtain rfl := Option.some.inj H
          go_wp2_with (first | ((with_reducible refine gate_callee (f := 25) rfl ?_); refine goesL_ (some 34) rfl rfl Tryd.func25 (by kernel_rfl) rfl #[.slice Ao7 t531.length co7, .slice Ao8 t532.length co8] rfl (by (try simp only [List.map_toArray, List.map_cons, List.map_nil]); first | done | rfl | (simp only [List.length_drop, List.length_take]; rfl)) ?_; (with_reducible refine (spec_UsedUnits.calls kj4 _ _ t531 _ _ t532 t545 _ ?side1 ?side2 ?side3 ?side4 A22.out).mono ?_); (case side1 => repeat (first | exact (Kd.S_reads' HO_3.out).2.2 | (with_reducible refine Kd.C_alloc ?_ _) | (with_reducible refine Kd.C_drewN ?_ _) | (with_reducible refine Kd.C_drew ?_))); (case side2 => exact (Kd.S_reads' HO_3.out).2.1); (case side3 => repeat (first | exact (Kd.Q_reads' HO_4.out).2.2 | (with_reducible refine Kd.C_alloc ?_ _) | (with_reducible refine Kd.C_drewN ?_ _) | (with_reducible refine Kd.C_drew ?_))); (case side4 => exact (Kd.Q_reads' HO_4.out).2.1); rintro e w24 ⟨v546, rfl, ho0, hb⟩; refine ⟨_, rfl, ?_⟩; have n0_ := Aside0.mk (Kd.S_elder' (by (with_reducible repeat (first | apply Kd.S_alloc | apply Kd.S_drewN | apply Kd.S_drew)); exact HO_3.out) (Kd.R_base ho0) hb); have n1_ := Aside0.mk (Kd.Q_elder' (by (with_reducible repeat (first | apply Kd.Q_alloc | apply Kd.Q_drewN | apply Kd.Q_drew)); exact HO_4.out) (Kd.R_base ho0) hb); have n2_ := Aside0.mk (Kd.R_elder' (by (with_reducible repeat (first | apply Kd.R_alloc | apply Kd.R_drewN | apply Kd.R_drew)); exact HO_5.out) (Kd.R_base ho0) hb); have n3_ := Aside0.mk (Kd.R_lower (Kd.R_new' (Kd.R_new' ho0 (Kd.Q_lt (by (with_reducible repeat (first | apply Kd.Q_alloc | apply Kd.Q_drewN | apply Kd.Q_drew)); exact HO_4.out))) (Kd.R_lt (by (with_reducible repeat (first | apply Kd.R_alloc | apply Kd.R_drewN | apply Kd.R_drew)); exact HO_5.out))) (below_size (by repeat (first | (with_reducible first | exact HB.out | apply below_alloc | apply pw_below_drewN | apply below_drew1) | exact HB.out)))); have n4_ := Aside0.mk (below_step (by repeat (first | (with_reducible first | exact HB.out | apply below_alloc | apply pw_below_drewN | apply below_drew1) | exact HB.out)) hb); clear HO_3; clear HO_4; clear HO_5; clear HB; have HO_3 := n0_; have HO_4 := n1_; have HO_5 := n2_; have HO547 := n3_; have HB := n4_; clear n0_ n1_ n2_ n3_ n4_; (try clear hb); (try clear hb2); (try clear hk); (try clear hi); (try clear ho0); obtain ⟨Ao25, co25, eo25⟩ := Kd.R_slice HO_5.out; subst eo25; obtain ⟨Ao26, co26, eo26⟩ := Kd.R_slice HO547.out; subst eo26) | ((with_reducible refine gate_callee (f := 33) rfl ?_); refine goesL_ (some 35) rfl rfl Tryd.func33 (by kernel_rfl) rfl #[.slice Ao25 t537.length co25, .slice Ao26 t545.length co26] rfl (by (try simp only [List.map_toArray, List.map_cons, List.map_nil]); first | done | rfl | (simp only [List.length_drop, List.length_take]; rfl)) ?_; (with_reducible refine (laws_equalInts.calls kj4 _ _ t537 _ _ t545 t548 _ ?side1 ?side2 ?side3 ?side4 A23.out).mono ?_); (case side1 => repeat (first | exact (Kd.R_reads' HO_5.out).2.2 | (with_reducible refine Kd.C_alloc ?_ _) | (with_reducible refine Kd.C_drewN ?_ _) | (with_reducible refine Kd.C_drew ?_))); (case side2 => exact (Kd.R_reads' HO_5.out).2.1); (case side3 => repeat (first | exact (Kd.R_reads' HO547.out).2.2 | (with_reducible refine Kd.C_alloc ?_ _) | (with_reducible refine Kd.C_drewN ?_ _) | (with_reducible refine Kd.C_drew ?_))); (case side4 => exact (Kd.R_reads' HO547.out).2.1); rintro e w' ⟨rfl, ⟨nd, rfl⟩⟩; refine ⟨_, rfl, ?_⟩))
          go_ret
          exact ⟨by first | rfl | (simp [errW_none, errW_some] <;> rfl) | (simp [*, errW_none, errW_some] <;> rfl), by repeat (first | (with_reducible first | exact HB.out | apply below_alloc | apply pw_below_drewN | apply below_drew1) | exact HB.out)⟩
        · replace c21 := Bool.eq_false_iff.mpr c21
          subst c21
          have H1 : (laws_FnUsedUnitsAll.l0 kj4 t531 (([] : List Int)) 0 0) = some r := by rw [if_neg (show ¬ (false = true) by decide)] at H; exact H
          clear H
          have H := H1
          clear H1
          obtain ⟨y549, hy549⟩ : ∃ y_ : List Int, y_ = (([] : List Int)) := ⟨_, rfl⟩
          replace H : (laws_FnUsedUnitsAll.l0 kj4 t531 y549 0 0) = some r := by first | (rw [hy549]; with_reducible exact H) | (have H2_ := (Option.bind_some _ _).symm.trans H; rw [hy549]; with_reducible exact H2_) | (have H2_ := (Option.bind_some _ _).symm.trans H; with_reducible exact H2_) | with_reducible exact H | (rw [hy549]; exact H) | exact H
          have Ny549 := Aside0.mk hy549
          clear hy549
          have H' := Aside0.mk H
          clear H
          go_wp2_with (first | ((with_reducible refine gate_dst (N := 36) rfl ?_); refine Kd.R_lit (Kd.int .i64) _ 3 ?hg (N := 36) ?hd (xs := ([] : List Int)) (inner := []) (ok := fun _ => True) (okp := fun _ => True) ?hr ?hp (fun _ hk => hk) trivial (Below.refl _ _) (Nat.le_refl _) (by simp) ?_; (case hd => rfl); (case hg => rfl); (case hr => first | (go_simp; done) | (go_simp; rfl)); (case hp => exact (Reps.none _ _)); intro v550 w27 ho28 hb hg_ hnew_; clear hg_ hnew_; (first | rw [← Ny549.out] at ho28 | (simp only [Int.reduceToNat] at ho28; rw [← Ny549.out] at ho28)); have n0_ := Aside0.mk (Kd.S_elder' (by (with_reducible repeat (first | apply Kd.S_alloc | apply Kd.S_drewN | apply Kd.S_drew)); exact HO_3.out) (Kd.R_base ho28) hb); have n1_ := Aside0.mk (Kd.Q_elder' (by (with_reducible repeat (first | apply Kd.Q_alloc | apply Kd.Q_drewN | apply Kd.Q_drew)); exact HO_4.out) (Kd.R_base ho28) hb); have n2_ := Aside0.mk (Kd.R_elder' (by (with_reducible repeat (first | apply Kd.R_alloc | apply Kd.R_drewN | apply Kd.R_drew)); exact HO_5.out) (Kd.R_base ho28) hb); have n3_ := Aside0.mk (Kd.R_lower (Kd.R_new' (Kd.R_new' ho28 (Kd.Q_lt (by (with_reducible repeat (first | apply Kd.Q_alloc | apply Kd.Q_drewN | apply Kd.Q_drew)); exact HO_4.out))) (Kd.R_lt (by (with_reducible repeat (first | apply Kd.R_alloc | apply Kd.R_drewN | apply Kd.R_drew)); exact HO_5.out))) (below_size (by repeat (first | (with_reducible first | exact HB.out | apply below_alloc | apply pw_below_drewN | apply below_drew1) | exact HB.out)))); have n4_ := Aside0.mk (below_step (by repeat (first | (with_reducible first | exact HB.out | apply below_alloc | apply pw_below_drewN | apply below_drew1) | exact HB.out)) hb); clear HO_3; clear HO_4; clear HO_5; clear HB; have HO_3 := n0_; have HO_4 := n1_; have HO_5 := n2_; have HO551 := n3_; have HB := n4_; clear n0_ n1_ n2_ n3_ n4_; clear hb ho28))
          go_loopg [6, 7, 8] kj4 (fun kq v6 v7 v8 w' => ∃ (x6_2 : List Int) (x7_2 : Int) (x8_2 : Int), v7 = .int .i64 x7_2 ∧ v8 = .int .i64 x8_2 ∧ Aside0 (laws_FnUsedUnitsAll.l0 kq t531 x6_2 x7_2 x8_2 = some r) ∧ Aside0 (kq ≤ kj4) ∧ Aside0 (Kd.S k33 33 w' w.heap.size (fun k_ => some k_ ≠ (v6 : Value).ownBlock) (.slice Ao7 t531.length co7) t531) ∧ Aside0 (Kd.R (Kd.int .i64) 3 w' w.heap.size (fun _ => True) v6 x6_2) ∧ Aside0 (Below w.heap.size w w'))
          case atStart => exact ⟨(y549), (0), (0), (by first | rfl | (simp; done) | (simp [*]; done)), (by first | rfl | (simp; done) | (simp [*]; done)), H', ⟨Nat.le_refl _⟩, ⟨by (with_reducible repeat (first | apply Kd.S_alloc | apply Kd.S_drewN | apply Kd.S_drew)); exact Kd.S_mono HO_3.out (fun _ hk => hk.2)⟩, ⟨by (with_reducible repeat (first | apply Kd.R_alloc | apply Kd.R_drewN | apply Kd.R_drew)); exact Kd.R_mono HO551.out (fun _ hk => trivial)⟩, ⟨by repeat (first | (with_reducible first | exact HB.out | apply below_alloc | apply pw_below_drewN | apply below_drew1) | exact HB.out)⟩⟩
          case round =>
            clear H'
            try clear c1
            try clear c2
            try clear c2b0
            try clear c2b1
            try clear p2
            try clear c3
            try clear c9
            try clear c12
            try clear c21
            try clear c25
            try clear c26
            try clear p2
            obtain ⟨x6_2, x7_2, x8_2, rfl, rfl, HA, HK2, HO_3, HO_6, HB⟩ := hrel
            cases gk with
            | zero => exact absurd HA.out (by simp [laws_FnUsedUnitsAll.l0])
            | succ k2 =>
              have H := HA.out
              clear HA
              simp only [laws_FnUsedUnitsAll.l0] at H
              by_cases c29 : x8_2 < (t531.length : Int)
              · rw [if_pos c29] at H
                have c29b0 : decide (x8_2 < (t531.length : Int)) = true := decide_eq_true c29
                clear c29
                by_cases c30 : x6_2.length < 17592186044416
                · rw [if_pos c30] at H
                  have LMc30 := Aside0.mk c30
                  clear c30
                  obtain ⟨y552, hy552⟩ : ∃ y_ : List Int, y_ = (x6_2 ++ [x8_2]) := ⟨_, rfl⟩
                  replace H : (if 0 ≤ x8_2 then (laws_FnUsedUnitsAll.l0 k2 t531 y552 (wrap64 (x7_2 + ((rd_T33 t531 x8_2).f3))) (wrap64 (x8_2 + 1))) else (none)) = some r := by first | (rw [hy552]; with_reducible exact H) | (have H2_ := (Option.bind_some _ _).symm.trans H; rw [hy552]; with_reducible exact H2_) | (have H2_ := (Option.bind_some _ _).symm.trans H; with_reducible exact H2_) | with_reducible exact H | (rw [hy552]; exact H) | exact H
                  have Ny552 := Aside0.mk hy552
                  clear hy552
                  by_cases c31 : 0 ≤ x8_2
                  · rw [if_pos c31] at H
                    have c31b0 : decide (0 ≤ x8_2) = true := decide_eq_true c31
                    clear c31
                    have H' := Aside0.mk H
                    clear H
                    go_wp2_with (first | ((with_reducible refine gate_builtin (b := .append) (xs := #[.tmp 43, .tmp 45]) rfl ?_); at_builtin; refine Kd.R_append (Kd.int .i64) (w0 := w) w.heap.size rfl (.tmp 43) (.tmp 45) 31 3 (.int .i64 0) 8 rfl Tryd.underlying31 info3 rfl (by decide) (by omega) u6 x6_2 x8_2 [.int .i64 x8_2] (fun _ => True) (fun _ => False) rfl rfl ?aP (fun _ hk => hk.elim) ?aF ?aO ?aB ?aS ?aL ?_; (case aP => exact rfl); (case aB => exact (by repeat (first | (with_reducible first | exact HB.out | apply below_alloc | apply pw_below_drewN | apply below_drew1) | exact HB.out))); (case aF => exact (fun _ _ => trivial)); (case aO => exact (by (with_reducible repeat (first | apply Kd.R_alloc | apply Kd.R_drewN | apply Kd.R_drew)); exact HO_6.out)); (case aS => exact (below_size (by repeat (first | (with_reducible first | exact HB.out | apply below_alloc | apply pw_below_drewN | apply below_drew1) | exact HB.out)))); (case aL => have := LMc30.out; omega); intro v553 w32 ho hb hg hat; rw [← Ny552.out] at ho; have n0_ := Aside0.mk (Kd.S_after (ok := (fun _ => True)) (by (with_reducible repeat (first | apply Kd.S_alloc | apply Kd.S_drewN | apply Kd.S_drew)); exact Kd.S_mono HO_3.out (fun _ hk => ⟨trivial, hk⟩)) hg hat); have n1_ := Aside0.mk (hb); have n2_ := Aside0.mk (ho); clear HO_3; clear HB; clear HO_6; have HO_3 := n0_; have HB := n1_; have HO554 := n2_; clear n0_ n1_ n2_; clear ho hb hg hat; have p555 : 0 ≤ (x8_2 : Int) := of_decide_eq_true (by first | (with_reducible assumption) | assumption); have q555 : x8_2 < (t531.length : Int) := of_decide_eq_true (by first | (with_reducible assumption) | assumption); obtain ⟨ad555, A555_1, c555_1, e555, hx555_0, hx555_1, hx555_2, hx555_3, hl555_1, hi555_1⟩ := at_T33 (Kd.S_reads' HO_3.out).2.2 x8_2 p555 q555; cases e555; obtain ⟨ce555, hce555, hMe555, hcc555⟩ := Kd.S_get HO_3.out z33 x8_2 p555 (by first | exact q555 | exact of_decide_eq_true (by first | (with_reducible assumption) | assumption) | (have e_ := (Kd.S_reads' HO_3.out).1; omega)); obtain ⟨ve555_1, rfl, ge555_1⟩ := k33_openM hMe555; have hv555_1 := hcc555 1 _ rfl; rw [add_field _ _ 1 (by omega)] at hv555_1; replace hv555_1 := Option.some.inj (hv555_1.symm.trans hx555_1); rw [hv555_1] at ge555_1; have HL555_1 := Aside0.mk (show Kd.Q (Kd.int .i64) 3 _ _ _ _ ((rd_T33 t531 x8_2).f1) from ge555_1); clear hv555_1 ge555_1; clear hcc555 hce555; have HR555_1 := Aside0.mk hi555_1; have HC555_1 := Aside0.mk hl555_1; clear hi555_1 hl555_1; replace p555 := eq_true p555; replace q555 := eq_true q555))
                    go_roundg k2
                    case measure => have := HJ4.out; have := HK2.out; omega
                    case rel => exact ⟨(y552), (wrap64 (x7_2 + ((rd_T33 t531 x8_2).f3))), (wrap64 (x8_2 + 1)), (by first | rfl | (simp; done) | (simp [*]; done)), (by first | rfl | (simp; done) | (simp [*]; done)), H', ⟨by have := HJ4.out; have := HK2.out; omega⟩, ⟨by (with_reducible repeat (first | apply Kd.S_alloc | apply Kd.S_drewN | apply Kd.S_drew)); exact Kd.S_mono HO_3.out (fun _ hk => hk.2)⟩, ⟨by (with_reducible repeat (first | apply Kd.R_alloc | apply Kd.R_drewN | apply Kd.R_drew)); exact HO554.out⟩, ⟨by repeat (first | (with_reducible first | exact HB.out | apply below_alloc | apply pw_below_drewN | apply below_drew1) | exact HB.out)⟩⟩
                  · rw [if_neg c31] at H
                    exact absurd H (by simp)
                · rw [if_neg c30] at H
                  exact absurd H (by simp)
              · rw [if_neg c29] at H
                have c29b0 : decide (x8_2 < (t531.length : Int)) = false := decide_eq_false c29
                clear c29
                replace H := Option.bind_eq_some_iff.mp H
                obtain ⟨t556, A330, H⟩ := H
                replace H : ((laws_sum.f k2 t556).bind fun t559 => (if t559 = x7_2 then ((impl_UsedUnits.f t531 ([] : List Int)).bind fun t560 => ((laws_sum.f k2 t560).bind fun t563 => (some (t563 == 0)))) else (some false))) = some r := H
                have A33 := Aside0.mk A330
                clear A330
                replace H := Option.bind_eq_some_iff.mp H
                obtain ⟨t559, A340, H⟩ := H
                replace H : (if t559 = x7_2 then ((impl_UsedUnits.f t531 ([] : List Int)).bind fun t560 => ((laws_sum.f k2 t560).bind fun t563 => (some (t563 == 0)))) else (some false)) = some r := H
                have A34 := Aside0.mk A340
                clear A340
                by_cases c35 : t559 = x7_2
                · rw [if_pos c35] at H
                  have c35b0 : (t559 == x7_2) = true := beq_iff_eq.mpr c35
                  have c35b1 : (t559 != x7_2) = false := bne_eq_false_iff_eq.mpr c35
                  clear c35
                  replace H := Option.bind_eq_some_iff.mp H
                  obtain ⟨t560, A360, H⟩ := H
                  replace H : ((laws_sum.f k2 t560).bind fun t563 => (some (t563 == 0))) = some r := H
                  have A36 := Aside0.mk A360
                  clear A360
                  replace H := Option.bind_eq_some_iff.mp H
                  obtain ⟨t563, A370, H⟩ := H
                  replace H : (some (t563 == 0)) = some r := H
                  have A37 := Aside0.mk A370
                  clear A370
                  obtain rfl := Option.some.inj H
                  obtain ⟨Ao38, co38, eo38⟩ := Kd.R_slice HO_6.out
                  subst eo38
                  go_wp2_with (first | ((with_reducible refine gate_callee (f := 26) rfl ?_); refine goesL_ (some 56) rfl rfl Tryd.func26 (by kernel_rfl) rfl #[.slice Ao7 t531.length co7, .slice Ao38 x6_2.length co38] rfl (by (try simp only [List.map_toArray, List.map_cons, List.map_nil]); first | done | rfl | (simp only [List.length_drop, List.length_take]; rfl)) ?_; (with_reducible refine (impl_UsedUnits.calls _ _ t531 _ _ x6_2 t556 _ ?side1 ?side2 ?side3 ?side4 ?side5 A33.out).mono ?_); (case side1 => repeat (first | exact (Kd.S_reads' HO_3.out).2.2 | (with_reducible refine Kd.C_alloc ?_ _) | (with_reducible refine Kd.C_drewN ?_ _) | (with_reducible refine Kd.C_drew ?_))); (case side2 => exact (Kd.S_reads' HO_3.out).2.1); (case side3 => repeat (first | exact (Kd.R_reads' HO_6.out).2.2 | (with_reducible refine Kd.C_alloc ?_ _) | (with_reducible refine Kd.C_drewN ?_ _) | (with_reducible refine Kd.C_drew ?_))); (case side4 => exact (Kd.R_reads' HO_6.out).2.1); (case side5 => exact Tab.of HT.out (by repeat (first | (with_reducible first | exact HB.out | apply below_alloc | apply pw_below_drewN | apply below_drew1) | exact HB.out))); rintro e w39 ⟨v557, rfl, ho0, hb⟩; refine ⟨_, rfl, ?_⟩; have n0_ := Aside0.mk (Kd.S_elder' (by (with_reducible repeat (first | apply Kd.S_alloc | apply Kd.S_drewN | apply Kd.S_drew)); exact HO_3.out) (Kd.R_base ho0) hb); have n1_ := Aside0.mk (Kd.R_elder' (by (with_reducible repeat (first | apply Kd.R_alloc | apply Kd.R_drewN | apply Kd.R_drew)); exact HO_6.out) (Kd.R_base ho0) hb); have n2_ := Aside0.mk (Kd.R_lower (Kd.R_new' ho0 (Kd.R_lt (by (with_reducible repeat (first | apply Kd.R_alloc | apply Kd.R_drewN | apply Kd.R_drew)); exact HO_6.out))) (below_size (by repeat (first | (with_reducible first | exact HB.out | apply below_alloc | apply pw_below_drewN | apply below_drew1) | exact HB.out)))); have n3_ := Aside0.mk (below_step (by repeat (first | (with_reducible first | exact HB.out | apply below_alloc | apply pw_below_drewN | apply below_drew1) | exact HB.out)) hb); clear HO_3; clear HO_6; clear HB; have HO_3 := n0_; have HO_6 := n1_; have HO558 := n2_; have HB := n3_; clear n0_ n1_ n2_ n3_; (try clear hb); (try clear hb2); (try clear hk); (try clear hi); (try clear ho0); obtain ⟨Ao40, co40, eo40⟩ := Kd.R_slice HO558.out; subst eo40) | ((with_reducible refine gate_callee (f := 34) rfl ?_); refine goesL_ (some 57) rfl rfl Tryd.func34 (by kernel_rfl) rfl #[.slice Ao40 t556.length co40] rfl (by (try simp only [List.map_toArray, List.map_cons, List.map_nil]); first | done | rfl | (simp only [List.length_drop, List.length_take]; rfl)) ?_; (with_reducible refine (laws_sum.calls k2 _ _ t556 t559 _ ?side1 ?side2 A34.out).mono ?_); (case side1 => repeat (first | exact (Kd.R_reads' HO558.out).2.2 | (with_reducible refine Kd.C_alloc ?_ _) | (with_reducible refine Kd.C_drewN ?_ _) | (with_reducible refine Kd.C_drew ?_))); (case side2 => exact (Kd.R_reads' HO558.out).2.1); rintro e w' ⟨rfl, ⟨nd, rfl⟩⟩; refine ⟨_, rfl, ?_⟩) | (go_at_call 26; (refine (impl_UsedUnits.calls _ _ t531 _ _ ([] : List Int) t560 _ ?side1 ?side2 ?side3 ?side4 ?side5 A36.out).mono ?_); (case side1 => repeat (first | exact (Kd.S_reads' HO_3.out).2.2 | (with_reducible refine Kd.C_alloc ?_ _) | (with_reducible refine Kd.C_drewN ?_ _) | (with_reducible refine Kd.C_drew ?_))); (case side2 => exact (Kd.S_reads' HO_3.out).2.1); (case side3 => exact Kd.C_nil _ _); (case side4 => exact Nat.le_refl _); (case side5 => exact Tab.of HT.out (by repeat (first | (with_reducible first | exact HB.out | apply below_alloc | apply pw_below_drewN | apply below_drew1) | exact HB.out))); rintro e w41 ⟨v561, rfl, ho0, hb⟩; have n0_ := Aside0.mk (Kd.S_elder' (by (with_reducible repeat (first | apply Kd.S_alloc | apply Kd.S_drewN | apply Kd.S_drew)); exact HO_3.out) (Kd.R_base ho0) hb); have n1_ := Aside0.mk (Kd.R_elder' (by (with_reducible repeat (first | apply Kd.R_alloc | apply Kd.R_drewN | apply Kd.R_drew)); exact HO_6.out) (Kd.R_base ho0) hb); have n2_ := Aside0.mk (Kd.R_elder' (by (with_reducible repeat (first | apply Kd.R_alloc | apply Kd.R_drewN | apply Kd.R_drew)); exact HO558.out) (Kd.R_base ho0) hb); have n3_ := Aside0.mk (Kd.R_lower (Kd.R_new' (Kd.R_new' ho0 (Kd.R_lt (by (with_reducible repeat (first | apply Kd.R_alloc | apply Kd.R_drewN | apply Kd.R_drew)); exact HO_6.out))) (Kd.R_lt (by (with_reducible repeat (first | apply Kd.R_alloc | apply Kd.R_drewN | apply Kd.R_drew)); exact HO558.out))) (below_size (by repeat (first | (with_reducible first | exact HB.out | apply below_alloc | apply pw_below_drewN | apply below_drew1) | exact HB.out)))); have n4_ := Aside0.mk (below_step (by repeat (first | (with_reducible first | exact HB.out | apply below_alloc | apply pw_below_drewN | apply below_drew1) | exact HB.out)) hb); clear HO_3; clear HO_6; clear HO558; clear HB; have HO_3 := n0_; have HO_6 := n1_; have HO558 := n2_; have HO562 := n3_; have HB := n4_; clear n0_ n1_ n2_ n3_ n4_; (try clear hb); (try clear hb2); (try clear hk); (try clear hi); (try clear ho0); obtain ⟨Ao42, co42, eo42⟩ := Kd.R_slice HO562.out; subst eo42) | (go_at_call 34; (with_reducible refine (laws_sum.calls k2 _ _ t560 t563 _ ?side1 ?side2 A37.out).mono ?_); (case side1 => repeat (first | exact (Kd.R_reads' HO562.out).2.2 | (with_reducible refine Kd.C_alloc ?_ _) | (with_reducible refine Kd.C_drewN ?_ _) | (with_reducible refine Kd.C_drew ?_))); (case side2 => exact (Kd.R_reads' HO562.out).2.1); rintro e w' ⟨rfl, ⟨nd, rfl⟩⟩))
                  go_ret
                  exact ⟨by first | rfl | (simp [errW_none, errW_some] <;> rfl) | (simp [*, errW_none, errW_some] <;> rfl), by repeat (first | (with_reducible first | exact HB.out | apply below_alloc | apply pw_below_drewN | apply below_drew1) | exact HB.out)⟩
                · rw [if_neg c35] at H
                  have c35b0 : (t559 == x7_2) = false := beq_eq_false_iff_ne.mpr c35
                  have c35b1 : (t559 != x7_2) = true := bne_iff_ne.mpr c35
                  obtain rfl := Option.some.inj H
                  obtain ⟨Ao43, co43, eo43⟩ := Kd.R_slice HO_6.out
                  subst eo43
                  go_wp2_with (first | ((with_reducible refine gate_callee (f := 26) rfl ?_); refine goesL_ (some 56) rfl rfl Tryd.func26 (by kernel_rfl) rfl #[.slice Ao7 t531.length co7, .slice Ao43 x6_2.length co43] rfl (by (try simp only [List.map_toArray, List.map_cons, List.map_nil]); first | done | rfl | (simp only [List.length_drop, List.length_take]; rfl)) ?_; (with_reducible refine (impl_UsedUnits.calls _ _ t531 _ _ x6_2 t556 _ ?side1 ?side2 ?side3 ?side4 ?side5 A33.out).mono ?_); (case side1 => repeat (first | exact (Kd.S_reads' HO_3.out).2.2 | (with_reducible refine Kd.C_alloc ?_ _) | (with_reducible refine Kd.C_drewN ?_ _) | (with_reducible refine Kd.C_drew ?_))); (case side2 => exact (Kd.S_reads' HO_3.out).2.1); (case side3 => repeat (first | exact (Kd.R_reads' HO_6.out).2.2 | (with_reducible refine Kd.C_alloc ?_ _) | (with_reducible refine Kd.C_drewN ?_ _) | (with_reducible refine Kd.C_drew ?_))); (case side4 => exact (Kd.R_reads' HO_6.out).2.1); (case side5 => exact Tab.of HT.out (by repeat (first | (with_reducible first | exact HB.out | apply below_alloc | apply pw_below_drewN | apply below_drew1) | exact HB.out))); rintro e w44 ⟨v557, rfl, ho0, hb⟩; refine ⟨_, rfl, ?_⟩; have n0_ := Aside0.mk (Kd.S_elder' (by (with_reducible repeat (first | apply Kd.S_alloc | apply Kd.S_drewN | apply Kd.S_drew)); exact HO_3.out) (Kd.R_base ho0) hb); have n1_ := Aside0.mk (Kd.R_elder' (by (with_reducible repeat (first | apply Kd.R_alloc | apply Kd.R_drewN | apply Kd.R_drew)); exact HO_6.out) (Kd.R_base ho0) hb); have n2_ := Aside0.mk (Kd.R_lower (Kd.R_new' ho0 (Kd.R_lt (by (with_reducible repeat (first | apply Kd.R_alloc | apply Kd.R_drewN | apply Kd.R_drew)); exact HO_6.out))) (below_size (by repeat (first | (with_reducible first | exact HB.out | apply below_alloc | apply pw_below_drewN | apply below_drew1) | exact HB.out)))); have n3_ := Aside0.mk (below_step (by repeat (first | (with_reducible first | exact HB.out | apply below_alloc | apply pw_below_drewN | apply below_drew1) | exact HB.out)) hb); clear HO_3; clear HO_6; clear HB; have HO_3 := n0_; have HO_6 := n1_; have HO558 := n2_; have HB := n3_; clear n0_ n1_ n2_ n3_; (try clear hb); (try clear hb2); (try clear hk); (try clear hi); (try clear ho0); obtain ⟨Ao45, co45, eo45⟩ := Kd.R_slice HO558.out; subst eo45) | ((with_reducible refine gate_callee (f := 34) rfl ?_); refine goesL_ (some 57) rfl rfl Tryd.func34 (by kernel_rfl) rfl #[.slice Ao45 t556.length co45] rfl (by (try simp only [List.map_toArray, List.map_cons, List.map_nil]); first | done | rfl | (simp only [List.length_drop, List.length_take]; rfl)) ?_; (with_reducible refine (laws_sum.calls k2 _ _ t556 t559 _ ?side1 ?side2 A34.out).mono ?_); (case side1 => repeat (first | exact (Kd.R_reads' HO558.out).2.2 | (with_reducible refine Kd.C_alloc ?_ _) | (with_reducible refine Kd.C_drewN ?_ _) | (with_reducible refine Kd.C_drew ?_))); (case side2 => exact (Kd.R_reads' HO558.out).2.1); rintro e w' ⟨rfl, ⟨nd, rfl⟩⟩; refine ⟨_, rfl, ?_⟩))
                  go_ret
                  exact ⟨by first | rfl | (simp [errW_none, errW_some] <;> rfl) | (simp [*, errW_none, errW_some] <;> rfl), by repeat (first | (with_reducible first | exact HB.out | apply below_alloc | apply pw_below_drewN | apply below_drew1) | exact HB.out)⟩
end Go.Proofs.YtffhdofcfkgoaaaDoor.P
end
