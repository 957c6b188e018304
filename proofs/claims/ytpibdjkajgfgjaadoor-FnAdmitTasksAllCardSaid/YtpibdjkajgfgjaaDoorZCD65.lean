/- What the proofs of several laws use: words and contracts, part 5 of 8. -/
import Derived.Test.YtpibdjkajgfgjaaDoorZCD64
import Derived.Laws.Bits64
namespace Go.Proofs.YtpibdjkajgfgjaaDoor.P
abbrev T5qc : Bool := true
abbrev F5qc : Bool := false
end Go.Proofs.YtpibdjkajgfgjaaDoor.P
section
set_option linter.unusedVariables false
set_option linter.unusedSimpArgs false
namespace Go.Proofs.YtpibdjkajgfgjaaDoor.Core
open Go Go.RowKit Go.Proofs.YtpibdjkajgfgjaaDoorW.PrintWords Go.Proofs.YtpibdjkajgfgjaaDoorW.PrintMore Go.Proofs.YtpibdjkajgfgjaaDoor.P
abbrev big : Nat := 4611686018427387904
theorem w64s {n : Nat} (h : n < big) : wrap64 ((n : Int) + 1) = ((n + 1 : Nat) : Int) := by rw [w64 (by omega) (by unfold big at h; omega)]; omega
theorem inRange_eq (x a b : Int) : spec_inRange.f x a b = some (decide (a ≤ x ∧ x ≤ b)) := by
 unfold spec_inRange.f
 by_cases h : a ≤ x
 ·rw [if_pos h]; simp; omega
 ·rw [if_neg h]; simp; omega
theorem copyInts_eq {l : List Int} (h : l.length < big) (h2 : l.length < 17592186044416) : spec_copyInts.f l = some l := by
 unfold spec_copyInts.f
 simp [h2]
theorem ev_isIn_from (L : List Int) (x : Int) (hL : L.length < big) : ∀ (r pre : List Int), L = pre ++ r → Ev (fun k => spec_isIn.l0 k L x (pre.length : Int)) (decide (x ∈ r))
 | [], pre, hp => by
  refine Ev.succ ((Ev.const _).of fun k => ?_)
  rw [List.append_nil] at hp
  subst hp
  rw [spec_isIn.l0, if_neg (by omega)]
  simp
 | y :: r, pre, hp => by
  have hlen : L.length = pre.length + (r.length + 1) := by rw [hp]; simp
  have hrd : rd L (pre.length : Int) = y := by rw [hp]; exact rd_mid rfl
  refine Ev.succ ?_
  by_cases hy : y = x
  ·refine (Ev.const _).of fun k => ?_
   rw [spec_isIn.l0, if_pos (by omega), if_pos (by omega), hrd, if_pos hy]
   simp [hy]
  ·have ih := ev_isIn_from L x hL r (pre ++ [y]) (by rw [hp]; simp)
   have e : decide (x ∈ y :: r) = decide (x ∈ r) := by
    have : x ≠ y := fun h => hy h.symm
    simp [this]
   rw [e]
   refine ih.of fun k => ?_
   rw [spec_isIn.l0, if_pos (by omega), if_pos (by omega), hrd, if_neg hy, w64s (by omega)]
   simp
theorem ev_isIn {L : List Int} (hL : L.length < big) (x : Int) : Ev (fun k => spec_isIn.f k L x) (decide (x ∈ L)) := ev_isIn_from L x hL L [] rfl
theorem ev_allIn_from (L : List Int) (a b : Int) (hL : L.length < big) : ∀ (r pre : List Int), L = pre ++ r → Ev (fun k => spec_allIn.l0 k L a b (pre.length : Int)) (decide (∀ x ∈ r, a ≤ x ∧ x ≤ b))
 | [], pre, hp => by
  refine Ev.succ ((Ev.const _).of fun k => ?_)
  rw [List.append_nil] at hp
  subst hp
  rw [spec_allIn.l0, if_neg (by omega)]
  simp
 | y :: r, pre, hp => by
  have hlen : L.length = pre.length + (r.length + 1) := by rw [hp]; simp
  have hrd : rd L (pre.length : Int) = y := by rw [hp]; exact rd_mid rfl
  refine Ev.succ ?_
  by_cases hy : a ≤ y ∧ y ≤ b
  ·have ih := ev_allIn_from L a b hL r (pre ++ [y]) (by rw [hp]; simp)
   have e : decide (∀ x ∈ y :: r, a ≤ x ∧ x ≤ b) = decide (∀ x ∈ r, a ≤ x ∧ x ≤ b) := by simp [hy]
   rw [e]
   refine ih.of fun k => ?_
   rw [spec_allIn.l0, if_pos (by omega), if_pos (by omega), hrd, inRange_eq, decide_eq_true hy, Option.bind_some, if_pos rfl, w64s (by omega)]
   simp
  ·refine (Ev.const _).of fun k => ?_
   rw [spec_allIn.l0, if_pos (by omega), if_pos (by omega), hrd, inRange_eq, decide_eq_false hy, Option.bind_some, if_neg (by simp)]
   simp only [Option.some.injEq]
   rw [eq_comm, decide_eq_false_iff_not]
   exact fun h => hy (h y List.mem_cons_self)
theorem ev_allIn {L : List Int} (hL : L.length < big) (a b : Int) : Ev (fun k => spec_allIn.f k L a b) (decide (∀ x ∈ L, a ≤ x ∧ x ≤ b)) := ev_allIn_from L a b hL L [] rfl
def ascD : List Int → Bool
 | [] => true
 | [_] => true
 | x :: y :: r => decide (x < y) && ascD (y :: r)
theorem ev_asc_from (L : List Int) (hL : L.length < big) : ∀ (r pre : List Int) (x : Int), L = pre ++ x :: r → Ev (fun k => spec_ascends.l0 k L ((pre.length + 1 : Nat) : Int)) (ascD (x :: r))
 | [], pre, x, hp => by
  have hlen : L.length = pre.length + 1 := by rw [hp]; simp
  refine Ev.succ ((Ev.const _).of fun k => ?_)
  rw [spec_ascends.l0, if_neg (by omega)]
  rfl
 | y :: r, pre, x, hp => by
  have hlen : L.length = pre.length + (r.length + 1 + 1) := by rw [hp]; simp
  have hw : wrap64 (((pre.length + 1 : Nat) : Int) - 1) = (pre.length : Int) := by rw [w64 (by omega) (by unfold big at hL; omega)]; omega
  have hrd : rd L (pre.length : Int) = x := by rw [hp]; exact rd_mid rfl
  have hrd2 : rd L ((pre.length + 1 : Nat) : Int) = y := by
   have : L = (pre ++ [x]) ++ y :: r := by rw [hp]; simp
   rw [this]; exact rd_mid (by simp)
  refine Ev.succ ?_
  by_cases hy : x < y
  ·have ih := ev_asc_from L hL r (pre ++ [x]) y (by rw [hp]; simp)
   have e : ascD (x :: y :: r) = ascD (y :: r) := by simp [ascD, hy]
   rw [e]
   refine ih.of fun k => ?_
   rw [spec_ascends.l0, if_pos (by omega), if_pos (by omega), hw, if_pos (by omega), if_pos (by omega), hrd, hrd2, if_neg (by omega), w64s (by omega)]
   simp
  ·have e : ascD (x :: y :: r) = false := by simp [ascD, hy]
   rw [e]
   refine (Ev.const _).of fun k => ?_
   rw [spec_ascends.l0, if_pos (by omega), if_pos (by omega), hw, if_pos (by omega), if_pos (by omega), hrd, hrd2, if_pos (by omega)]
theorem ev_ascends {L : List Int} (hL : L.length < big) : Ev (fun k => spec_ascends.f k L) (ascD L) := by
 cases L with
 | nil =>
  refine Ev.of (Ev.succ ((Ev.const true).of (g := fun k => spec_ascends.l0 (k + 1) [] 1) fun k => ?_)) (fun k => rfl)
  rw [spec_ascends.l0, if_neg (by simp)]
 | cons x r => exact ev_asc_from (x :: r) hL r [] x rfl
theorem ev_allDone_from (L M : List Int) (hL : L.length < big) (hM : M.length < big) : ∀ (r pre : List Int), L = pre ++ r → Ev (fun k => spec_allDone.l0 k L M (pre.length : Int)) (decide (∀ x ∈ r, x ∈ M))
 | [], pre, hp => by
  refine Ev.succ ((Ev.const _).of fun k => ?_)
  rw [List.append_nil] at hp
  subst hp
  rw [spec_allDone.l0, if_neg (by omega)]
  simp
 | y :: r, pre, hp => by
  have hlen : L.length = pre.length + (r.length + 1) := by rw [hp]; simp
  have hrd : rd L (pre.length : Int) = y := by rw [hp]; exact rd_mid rfl
  have hi := ev_isIn hM y
  refine Ev.succ ?_
  by_cases hy : y ∈ M
  ·have ih := ev_allDone_from L M hL hM r (pre ++ [y]) (by rw [hp]; simp)
   have e : decide (∀ x ∈ y :: r, x ∈ M) = decide (∀ x ∈ r, x ∈ M) := by simp [hy]
   rw [e]
   rw [decide_eq_true hy] at hi
   refine (hi.bind (g := fun k t => if t = true then spec_allDone.l0 k L M ((pre ++ [y]).length : Int) else some false) (ih.of fun k => if_pos rfl)).of fun k => ?_
   rw [spec_allDone.l0, if_pos (by omega), if_pos (by omega), hrd, w64s (by omega)]
   simp
  ·have e : decide (∀ x ∈ y :: r, x ∈ M) = false := by
    rw [decide_eq_false_iff_not]
    exact fun h => hy (h y List.mem_cons_self)
   rw [e]
   rw [decide_eq_false hy] at hi
   refine (hi.bind (g := fun k t => if t = true then spec_allDone.l0 k L M ((pre ++ [y]).length : Int) else some false) ((Ev.const false).of fun k => if_neg (by simp))).of fun k => ?_
   rw [spec_allDone.l0, if_pos (by omega), if_pos (by omega), hrd, w64s (by omega)]
   simp
theorem ev_allDone {L M : List Int} (hL : L.length < big) (hM : M.length < big) : Ev (fun k => spec_allDone.f k L M) (decide (∀ x ∈ L, x ∈ M)) := ev_allDone_from L M hL hM L [] rfl
def needsOk (n : Nat) (l : List Int) : Prop := (∀ x ∈ l, 0 ≤ x ∧ x ≤ (n : Int) - 1) ∧ ascD l = true
instance (n : Nat) (l : List Int) : Decidable (needsOk n l) := by unfold needsOk; infer_instance
theorem ev_validTask {t : Tk} (ht : t.f1.length < big) {n : Nat} (hn : n < big) : Ev (fun k => spec_validTask.f k t.f0 t.f1 t.f2 t.f3 (n : Int)) (decide (taskOk t ∧ needsOk n t.f1)) := by
 have hw : wrap64 ((n : Int) - 1) = (n : Int) - 1 := w64 (by omega) (by unfold big at hn; omega)
 have hA := ev_allIn ht 0 ((n : Int) - 1)
 have hB := ev_ascends ht
 by_cases h1 : 1 ≤ t.f0 ∧ t.f0 ≤ 20
 ·by_cases h2 : 0 ≤ t.f2 ∧ t.f2 ≤ 2
  ·by_cases h3 : 1 ≤ t.f3 ∧ t.f3 ≤ 4
   ·have hok : taskOk t := ⟨h1, h2, h3⟩
    have hu : ∀ k, spec_validTask.f k t.f0 t.f1 t.f2 t.f3 (n : Int) = (spec_allIn.f k t.f1 0 ((n : Int) - 1)).bind fun t113 => (if t113 = true then ((spec_ascends.f k t.f1).bind fun t114 => (some t114)) else (some false)) := by
     intro k
     unfold spec_validTask.f
     rw [inRange_eq, inRange_eq, inRange_eq, decide_eq_true h1, decide_eq_true h2, decide_eq_true h3, hw]
     rfl
    refine Ev.of ?_ hu
    refine (hA.bind (g := fun k t113 => if t113 = true then ((spec_ascends.f k t.f1).bind fun t114 => (some t114)) else (some false)) (b := decide (taskOk t ∧ needsOk n t.f1)) ?_)
    by_cases h4 : ∀ x ∈ t.f1, 0 ≤ x ∧ x ≤ (n : Int) - 1
    ·rw [decide_eq_true h4]
     have e : decide (taskOk t ∧ needsOk n t.f1) = ascD t.f1 := by
      cases h5 : ascD t.f1
      ·rw [decide_eq_false_iff_not]; intro h; have := h.2.2; rw [h5] at this; cases this
      ·rw [decide_eq_true_eq]; exact ⟨hok, h4, h5⟩
     rw [e]
     refine (hB.bind (g := fun _ t114 => some t114) (Ev.const _)).of fun k => ?_
     rw [if_pos rfl]
    ·rw [decide_eq_false h4]
     have e : decide (taskOk t ∧ needsOk n t.f1) = false := by rw [decide_eq_false_iff_not]; exact fun h => h4 h.2.1
     rw [e]
     exact (Ev.const false).of fun k => if_neg (by simp)
   ·have e : decide (taskOk t ∧ needsOk n t.f1) = false := by rw [decide_eq_false_iff_not]; exact fun h => h3 h.1.2.2
    rw [e]
    refine (Ev.const false).of fun k => ?_
    unfold spec_validTask.f
    rw [inRange_eq, inRange_eq, inRange_eq, decide_eq_true h1, decide_eq_true h2, decide_eq_false h3]
    rfl
  ·have e : decide (taskOk t ∧ needsOk n t.f1) = false := by rw [decide_eq_false_iff_not]; exact fun h => h2 h.1.2.1
   rw [e]
   refine (Ev.const false).of fun k => ?_
   unfold spec_validTask.f
   rw [inRange_eq, inRange_eq, decide_eq_true h1, decide_eq_false h2]
   rfl
 ·have e : decide (taskOk t ∧ needsOk n t.f1) = false := by rw [decide_eq_false_iff_not]; exact fun h => h1 h.1.1
  rw [e]
  refine (Ev.const false).of fun k => ?_
  unfold spec_validTask.f
  rw [inRange_eq, decide_eq_false h1]
  rfl
/-- All lists are of a size that fits. -/
def Fits (g : List Tk) : Prop := g.length < big ∧ ∀ t ∈ g, t.f1.length < big
theorem ev_tasksFine_from (g : List Tk) (hg : Fits g) : ∀ (r pre : List Tk), g = pre ++ r → Ev (fun k => spec_tasksFine.l0 k g (pre.length : Int)) (decide ((∀ t ∈ r, taskOk t ∧ needsOk g.length t.f1) ∧ g.length ≤ 8))
 | [], pre, hp => by
  refine Ev.succ ((Ev.const _).of fun k => ?_)
  rw [List.append_nil] at hp
  subst hp
  rw [spec_tasksFine.l0, if_neg (by omega)]
  congr 1
  rw [decide_eq_decide]
  constructor
  ·intro h; exact ⟨by simp, by omega⟩
  ·intro h; omega
 | t :: r, pre, hp => by
  have hlen : g.length = pre.length + (r.length + 1) := by rw [hp]; simp
  have hbig := hg.1
  have hrd : rd_T48 g (pre.length : Int) = t := by rw [hp]; exact rdT_mid rfl
  have hv := ev_validTask (hg.2 t (by rw [hp]; simp)) hg.1
  refine Ev.succ ?_
  by_cases hy : taskOk t ∧ needsOk g.length t.f1
  ·have ih := ev_tasksFine_from g hg r (pre ++ [t]) (by rw [hp]; simp)
   have e : decide ((∀ t' ∈ t :: r, taskOk t' ∧ needsOk g.length t'.f1) ∧ g.length ≤ 8) = decide ((∀ t ∈ r, taskOk t ∧ needsOk g.length t.f1) ∧ g.length ≤ 8) := by simp [hy]
   rw [e]
   rw [decide_eq_true hy] at hv
   refine (hv.bind (g := fun k b => if b = true then spec_tasksFine.l0 k g ((pre ++ [t]).length : Int) else some false) (ih.of fun k => if_pos rfl)).of fun k => ?_
   rw [spec_tasksFine.l0, if_pos (by omega), if_pos (by omega), hrd, w64s (by omega)]
   simp
  ·have e : decide ((∀ t' ∈ t :: r, taskOk t' ∧ needsOk g.length t'.f1) ∧ g.length ≤ 8) = false := by
    rw [decide_eq_false_iff_not]
    exact fun h => hy (h.1 t List.mem_cons_self)
   rw [e]
   rw [decide_eq_false hy] at hv
   refine (hv.bind (g := fun k b => if b = true then spec_tasksFine.l0 k g ((pre ++ [t]).length : Int) else some false) ((Ev.const false).of fun k => if_neg (by simp))).of fun k => ?_
   rw [spec_tasksFine.l0, if_pos (by omega), if_pos (by omega), hrd, w64s (by omega)]
   simp
def fineD (g : List Tk) : Prop := (∀ t ∈ g, taskOk t ∧ needsOk g.length t.f1) ∧ g.length ≤ 8
instance (g : List Tk) : Decidable (fineD g) := by unfold fineD; infer_instance
theorem ev_tasksFine {g : List Tk} (hg : Fits g) : Ev (fun k => spec_tasksFine.f k g) (decide (fineD g)) := ev_tasksFine_from g hg g [] rfl
end Go.Proofs.YtpibdjkajgfgjaaDoor.Core
end
section
set_option linter.unusedVariables false
set_option linter.unusedSimpArgs false
namespace Go.Proofs.YtpibdjkajgfgjaaDoor.Core
open Go Go.RowKit Go.Proofs.YtpibdjkajgfgjaaDoorW.PrintWords Go.Proofs.YtpibdjkajgfgjaaDoorW.PrintMore Go.Proofs.YtpibdjkajgfgjaaDoor.P
theorem asc_lt : ∀ {r : List Int} {x : Int}, ascD (x :: r) = true → ascD r = true ∧ ∀ y ∈ r, x < y
 | [], x, _ => ⟨rfl, by simp⟩
 | y :: r, x, h => by
  simp only [ascD, Bool.and_eq_true, decide_eq_true_eq] at h
  have h2 := asc_lt h.2
  refine ⟨h.2, fun z hz => ?_⟩
  rcases List.mem_cons.1 hz with rfl | hz
  ·exact h.1
  ·have := h2.2 z hz; omega
theorem asc_mk {r : List Int} {x : Int} (h : ascD r = true) (h2 : ∀ y ∈ r, x < y) : ascD (x :: r) = true := by
 cases r with
 | nil => rfl
 | cons y r => simp [ascD, h, h2 y List.mem_cons_self]
theorem setGo_some {n : Nat} : ∀ {r : List Int} {s : Nat} {last : Int} {t : Nat}, -1 ≤ last → setGo n r s last = some t → (∀ x ∈ r, last + 1 ≤ x ∧ x ≤ (n : Int) - 1) ∧ ascD r = true ∧ ∀ i : Nat, t.testBit i = (s.testBit i || decide ((i : Int) ∈ r))
 | [], s, last, t, hl, h => by
  rw [setGo] at h
  cases h
  exact ⟨by simp, rfl, by simp⟩
 | x :: r, s, last, t, hl, h => by
  rw [setGo] at h
  by_cases hx : last + 1 ≤ x ∧ x ≤ (n : Int) - 1
  ·rw [if_pos hx] at h
   obtain ⟨h1, h2, h3⟩ := setGo_some (by omega) h
   refine ⟨fun y hy => ?_, asc_mk h2 (fun y hy => by have := h1 y hy; omega), fun i => ?_⟩
   ·rcases List.mem_cons.1 hy with rfl | hy
    ·exact hx
    ·have := h1 y hy; omega
   ·rw [h3, or_bit]
    have : decide (x.toNat = i) = decide ((i : Int) = x) := by rw [decide_eq_decide]; omega
    rw [this]
    by_cases e : (i : Int) = x
    ·simp [e]
    ·simp [e]
  ·rw [if_neg hx] at h; cases h
theorem setGo_ok {n : Nat} : ∀ {r : List Int} (s : Nat) {last : Int}, (∀ x ∈ r, last + 1 ≤ x ∧ x ≤ (n : Int) - 1) → ascD r = true → ∃ t, setGo n r s last = some t
 | [], s, last, _, _ => ⟨s, rfl⟩
 | x :: r, s, last, h, ha => by
  have h2 := asc_lt ha
  have hx := h x List.mem_cons_self
  rw [setGo, if_pos hx]
  exact setGo_ok _ (fun y hy => ⟨by have := h2.2 y hy; omega, (h y (List.mem_cons_of_mem _ hy)).2⟩) h2.1
theorem setD_some {n : Nat} {l : List Int} {t : Nat} (h : setD n l = some t) : needsOk n l ∧ ∀ i : Nat, t.testBit i = decide ((i : Int) ∈ l) := by
 obtain ⟨h1, h2, h3⟩ := setGo_some (by omega) h
 exact ⟨⟨fun x hx => by have := h1 x hx; omega, h2⟩, fun i => by rw [h3]; simp⟩
theorem setD_ok {n : Nat} {l : List Int} (h : needsOk n l) : ∃ t, setD n l = some t := setGo_ok 0 (fun x hx => by have := h.1 x hx; omega) h.2
theorem setD_none {n : Nat} {l : List Int} (h : setD n l = none) : ¬needsOk n l := fun h2 => by
 obtain ⟨t, ht⟩ := setD_ok h2
 rw [h] at ht
 cases ht
theorem needsGo_ok {n : Nat} : ∀ {r : List Tk}, (∀ t ∈ r, taskOk t ∧ needsOk n t.f1) → ∃ N, needsGo n r = some N
 | [], _ => ⟨[], rfl⟩
 | t :: r, h => by
  obtain ⟨s, hs⟩ := setD_ok (h t List.mem_cons_self).2
  obtain ⟨N, hN⟩ := needsGo_ok (fun t' ht => h t' (List.mem_cons_of_mem _ ht))
  rw [needsGo, hs]
  simp only [(h t List.mem_cons_self).1, if_true, hN]
  exact ⟨_, rfl⟩
theorem needsGo_fine {n : Nat} : ∀ {r : List Tk} {N : List Nat}, needsGo n r = some N → (∀ t ∈ r, taskOk t ∧ needsOk n t.f1) ∧ ∀ i, i < r.length → ∀ j : Nat, (N.getD i 0).testBit j = decide ((j : Int) ∈ (r.getD i z48).f1)
 | [], N, h => ⟨by simp, by intro i hi; simp at hi⟩
 | t :: r, N, h => by
  rw [needsGo] at h
  cases he : setD n t.f1 with
  | none => rw [he] at h; cases h
  | some s =>
   rw [he] at h
   by_cases hok : taskOk t
   ·simp only [hok, if_true] at h
    cases hg : needsGo n r with
    | none => rw [hg] at h; cases h
    | some M =>
     rw [hg] at h
     cases h
     have ih := needsGo_fine hg
     have hs := setD_some he
     refine ⟨fun t' ht => ?_, fun i hi j => ?_⟩
     ·rcases List.mem_cons.1 ht with rfl | ht
      ·exact ⟨hok, hs.1⟩
      ·exact ih.1 t' ht
     ·cases i with
      | zero => simpa using hs.2 j
      | succ i => simpa using ih.2 i (by simpa using hi) j
   ·simp [hok] at h
theorem needsD_fine {g : List Tk} {N : List Nat} (h : needsD g = some N) : fineD g ∧ ∀ i, i < g.length → ∀ j : Nat, (N.getD i 0).testBit j = decide ((j : Int) ∈ (g.getD i z48).f1) := by
 have h8 := (needsD_spec h).1
 unfold needsD at h
 rw [if_pos h8] at h
 have := needsGo_fine h
 exact ⟨⟨this.1, h8⟩, this.2⟩
theorem fineD_needs {g : List Tk} (h : fineD g) : ∃ N, needsD g = some N := by
 unfold needsD
 rw [if_pos h.2]
 exact needsGo_ok h.1
theorem sub_zero {a b : Nat} (ha : a < 256) (hb : b < 256) : sub a b = 0 ↔ ∀ j, a.testBit j = true → b.testBit j = true := by
 constructor
 ·intro h j hj
  have := sub_testBit (i := j) ha hb
  rw [h, hj] at this
  simpa using this
 ·intro h
  apply Nat.eq_of_testBit_eq
  intro j
  rw [sub_testBit ha hb, Nat.zero_testBit]
  cases e : a.testBit j
  ·rfl
  ·rw [h j e]; rfl
theorem mem_up {L : List Nat} {i : Nat} : (i : Int) ∈ up L ↔ i ∈ L := by
 unfold up
 rw [List.mem_map]
 constructor
 ·rintro ⟨a, ha, e⟩
  have : a = i := Int.ofNat.inj e
  exact this ▸ ha
 ·intro h
  exact ⟨i, h, rfl⟩
/-- All needs of a task are among some, said both ways. -/
theorem done_iff {g : List Tk} {N : List Nat} (hN : needsD g = some N) {L : List Nat} {d : Nat} (hd : d < 256) (hs : ∀ i, d.testBit i = true ↔ i ∈ L) {i : Nat} (hi : i < g.length) : (∀ x ∈ (g.getD i z48).f1, x ∈ up L) ↔ sub (N.getD i 0) d = 0 := by
 obtain ⟨h8, hl, hb⟩ := needsD_spec hN
 obtain ⟨hf, hbit⟩ := needsD_fine hN
 rw [sub_zero (Nat.lt_of_lt_of_le (getD_lt hb i) (pow8 h8)) hd]
 constructor
 ·intro h j hj
  rw [hbit i hi j, decide_eq_true_eq] at hj
  exact (hs j).2 (mem_up.1 (h _ hj))
 ·intro h x hx
  have hmem : g.getD i z48 ∈ g := by
   rw [List.getD_eq_getElem?_getD, List.getElem?_eq_getElem hi]
   exact List.getElem_mem hi
  have h0 := (hf.1 _ hmem).2.1 x hx
  obtain ⟨j, rfl⟩ : ∃ j : Nat, x = (j : Int) := ⟨x.toNat, by omega⟩
  refine mem_up.2 ((hs j).1 (h j ?_))
  rw [hbit i hi j, decide_eq_true_eq]
  exact hx
theorem rdT_nat (g : List Tk) (i : Nat) : rd_T48 g (i : Int) = g.getD i z48 := by simp [rd_T48]
theorem getD_mem {g : List Tk} {i : Nat} (hi : i < g.length) : g.getD i z48 ∈ g := by
 rw [List.getD_eq_getElem?_getD, List.getElem?_eq_getElem hi]
 exact List.getElem_mem hi
theorem ev_top_found {g : List Tk} (hg : Fits g) (L : List Nat) (hL : L.length ≤ 100) (j : Nat) (i : Int) (R : List Int) (h : Ev (fun k => spec_topOrder.l0 k g (up (L ++ [j]))) R) : Ev (fun k => spec_topOrder.l1 k g (up L) (j : Int) i) R := by
 have e : up (L ++ [j]) = up L ++ [(j : Int)] := by simp [up]
 have h2 : Ev (fun k => spec_topOrder.j2 k g (up L) (j : Int) i false) R := by
  refine Ev.succ (h.of fun k => ?_)
  rw [spec_topOrder.j2, if_neg (by simp), if_neg (by omega), if_pos (by rw [up_length]; omega), e]
 refine Ev.succ (h2.of fun k => ?_)
 rw [spec_topOrder.l1, show decide ((j : Int) < 0) = false by simp]
 split <;> rfl
theorem ev_top_scan {g : List Tk} (hg : Fits g) {N : List Nat} (hN : needsD g = some N) (L : List Nat) (d : Nat) (hL : L.length ≤ 100) (hd : d < 256) (hs : ∀ i, d.testBit i = true ↔ i ∈ L) (R : Option Nat → List Int) (hR : R none = up L) : ∀ (m i : Nat), i + m = g.length →
  (∀ j, nextFrom N d i m = some j → Ev (fun k => spec_topOrder.l0 k g (up (L ++ [j]))) (R (some j))) → Ev (fun k => spec_topOrder.l1 k g (up L) (-1) (i : Int)) (R (nextFrom N d i m))
 | 0, i, hi, ho => by
  rw [nextFrom, hR]
  refine Ev.succ ?_
  have h2 : Ev (fun k => spec_topOrder.j2 k g (up L) (-1) (i : Int) false) (up L) := by
   refine Ev.succ ((Ev.const _).of fun k => ?_)
   rw [spec_topOrder.j2, if_neg (by simp), if_pos (by omega)]
  refine h2.of fun k => ?_
  rw [spec_topOrder.l1, if_neg (by omega)]
 | m + 1, i, hi, ho => by
  have hig : i < g.length := by omega
  have h8 := (needsD_spec hN).1
  have hin := ev_isIn (L := up L) (by rw [up_length]; unfold big; omega) (i : Int)
  have hdn := ev_allDone (L := (g.getD i z48).f1) (M := up L) (hg.2 _ (getD_mem hig)) (by rw [up_length]; unfold big; omega)
  have e1 : decide ((i : Int) ∈ up L) = d.testBit i := by
   rw [Bool.eq_iff_iff, decide_eq_true_eq, mem_up, hs]
  have e2 : decide (∀ x ∈ (g.getD i z48).f1, x ∈ up L) = decide (sub (N.getD i 0) d = 0) := by
   rw [decide_eq_decide]; exact done_iff hN hd hs hig
  rw [e1] at hin
  rw [e2] at hdn
  have hw : wrap64 ((i : Int) + 1) = ((i + 1 : Nat) : Int) := w64s (by unfold big; omega)
  refine Ev.succ ?_
  have hj2 : Ev (fun k => spec_topOrder.j2 k g (up L) (-1) (i : Int) true) (R (nextFrom N d i (m + 1))) := by
   refine Ev.succ ?_
   have hu : ∀ k, spec_topOrder.j2 (k + 1) g (up L) (-1) (i : Int) true = (spec_isIn.f k (up L) (i : Int)).bind fun t126 => (if t126 = true then (spec_topOrder.l1 k g (up L) (-1) ((i + 1 : Nat) : Int)) else ((spec_allDone.f k (g.getD i z48).f1 (up L)).bind fun t128 => (if t128 = true then (spec_topOrder.l1 k g (up L) (i : Int) ((i + 1 : Nat) : Int)) else (spec_topOrder.l1 k g (up L) (-1) ((i + 1 : Nat) : Int))))) := by
    intro k
    rw [spec_topOrder.j2, if_pos rfl, hw, if_pos (show 0 ≤ (i : Int) by omega), if_pos (show (i : Int) < (g.length : Int) by omega), rdT_nat]
   refine Ev.of ?_ hu
   refine hin.bind (g := fun k t126 => (if t126 = true then (spec_topOrder.l1 k g (up L) (-1) ((i + 1 : Nat) : Int)) else ((spec_allDone.f k (g.getD i z48).f1 (up L)).bind fun t128 => (if t128 = true then (spec_topOrder.l1 k g (up L) (i : Int) ((i + 1 : Nat) : Int)) else (spec_topOrder.l1 k g (up L) (-1) ((i + 1 : Nat) : Int)))))) ?_
   cases hbit : d.testBit i with
   | true =>
    have hg2 : nextFrom N d i (m + 1) = nextFrom N d (i + 1) m := by rw [nextFrom, if_neg (by simp [hbit])]
    rw [hg2] at ho ⊢
    exact (ev_top_scan hg hN L d hL hd hs R hR m (i + 1) (by omega) ho).of fun k => if_pos rfl
   | false =>
    by_cases hz : sub (N.getD i 0) d = 0
    ·have hg2 : nextFrom N d i (m + 1) = some i := by rw [nextFrom, if_pos ⟨hbit, hz⟩]
     rw [hg2]
     rw [decide_eq_true hz] at hdn
     have hf := ev_top_found hg L hL i ((i + 1 : Nat) : Int) _ (ho i hg2)
     refine (hdn.bind (g := fun k t128 => if t128 = true then (spec_topOrder.l1 k g (up L) (i : Int) ((i + 1 : Nat) : Int)) else (spec_topOrder.l1 k g (up L) (-1) ((i + 1 : Nat) : Int))) (hf.of fun k => if_pos rfl)).of fun k => ?_
     rw [if_neg (by simp)]
    ·have hg2 : nextFrom N d i (m + 1) = nextFrom N d (i + 1) m := by rw [nextFrom, if_neg (fun h => hz h.2)]
     rw [hg2] at ho ⊢
     rw [decide_eq_false hz] at hdn
     have ih := ev_top_scan hg hN L d hL hd hs R hR m (i + 1) (by omega) ho
     refine (hdn.bind (g := fun k t128 => if t128 = true then (spec_topOrder.l1 k g (up L) (i : Int) ((i + 1 : Nat) : Int)) else (spec_topOrder.l1 k g (up L) (-1) ((i + 1 : Nat) : Int))) (ih.of fun k => if_neg (by simp))).of fun k => ?_
     rw [if_neg (by simp)]
  refine hj2.of fun k => ?_
  rw [spec_topOrder.l1, if_pos (by omega)]
  rfl
theorem orderGo_none {N : List Nat} {d : Nat} (h : nextD N d = none) : ∀ (m : Nat) (L : List Nat), orderGo N m L d = (L, d)
 | 0, L => rfl
 | m + 1, L => by rw [orderGo, h]; exact orderGo_none h m L
theorem next_zb {N : List Nat} {d j : Nat} (h : nextD N d = some j) : zb N.length (d ||| 2 ^ j) < zb N.length d := by
 have := nextD_spec h
 exact zb_lt this.2.1 this.1
theorem ev_top_go {g : List Tk} (hg : Fits g) {N : List Nat} (hN : needsD g = some N) : ∀ (m : Nat) (L : List Nat) (d : Nat), OrdOk N L d → zb N.length d ≤ m → Ev (fun k => spec_topOrder.l0 k g (up L)) (up (orderGo N m L d).1) := by
 obtain ⟨h8, hl, hb⟩ := needsD_spec hN
 have hb' : below1 N.length N := by rw [hl]; exact hb
 intro m
 induction m with
 | zero =>
  intro L d ok hz
  have hlt := Nat.lt_of_lt_of_le ok.dlt (pow8 (n := N.length) (by omega))
  have hnone : nextD N d = none := by
   cases h : nextD N d with
   | none => rfl
   | some j => have := next_zb h; omega
  have h := ev_top_scan hg hN L d (by have := ok.len; omega) hlt ok.set (fun _ => up L) rfl g.length 0 (by omega) (fun j hj => by
   have : nextD N d = some j := by unfold nextD; rw [hl]; exact hj
   rw [hnone] at this; cases this)
  refine Ev.succ (h.of fun k => ?_)
  rw [spec_topOrder.l0]
  rfl
 | succ m ih =>
  intro L d ok hz
  have hlt := Nat.lt_of_lt_of_le ok.dlt (pow8 (n := N.length) (by omega))
  have h := ev_top_scan hg hN L d (by have := ok.len; omega) hlt ok.set (fun o => match o with | some i => up (orderGo N m (L ++ [i]) (d ||| 2 ^ i)).1 | none => up L) rfl g.length 0 (by omega) (fun j hj => by
   have hj2 : nextD N d = some j := by unfold nextD; rw [hl]; exact hj
   have hsp := nextD_spec hj2
   have := next_zb hj2
   exact ih (L ++ [j]) (d ||| 2 ^ j) (ok.step (by omega) hb' hsp.1 hsp.2.1 hsp.2.2) (by omega))
  have e : (match nextFrom N d 0 g.length with | some i => up (orderGo N m (L ++ [i]) (d ||| 2 ^ i)).1 | none => up L) = up (orderGo N (m + 1) L d).1 := by
   rw [orderGo]
   have e2 : nextD N d = nextFrom N d 0 g.length := by unfold nextD; rw [hl]
   rw [e2]
   cases hx : nextFrom N d 0 g.length with
   | none => simp only []; rw [orderGo_none (by rw [e2]; exact hx)]
   | some i => rfl
  rw [← e]
  refine Ev.succ (h.of fun k => ?_)
  rw [spec_topOrder.l0]
  rfl
theorem ordOk_nil (N : List Nat) : OrdOk N [] 0 := ⟨by simp, by simp, Nat.two_pow_pos _, by simp, by rw [zb_zero]; simp, by simp⟩
theorem ev_topOrder {g : List Tk} (hg : Fits g) {N : List Nat} (hN : needsD g = some N) : Ev (fun k => spec_topOrder.f k g) (up (orderD N).1) :=
 ev_top_go hg hN N.length [] 0 (ordOk_nil N) (by rw [zb_zero]; exact Nat.le_refl _)
theorem zb_zero_full {n : Nat} : ∀ {m d : Nat}, zb m d = 0 → ∀ i, i < m → d.testBit i = true
 | 0, d, _, i, h => by omega
 | m + 1, d, h, i, hi => by
  simp only [zb] at h
  by_cases e : i = m
  ·subst e
   cases hb : d.testBit i
   ·simp [hb] at h
   ·rfl
  ·exact zb_zero_full (n := n) (m := m) (by omega) i (by omega)
theorem full_iff {N L : List Nat} {d : Nat} (ok : OrdOk N L d) : d = 2 ^ N.length - 1 ↔ L.length = N.length := by
 constructor
 ·intro h
  have := ok.len
  rw [h, zb_full _ _ (Nat.le_refl _)] at this
  exact this
 ·intro h
  have hz : zb N.length d = 0 := by have := ok.len; omega
  apply Nat.eq_of_testBit_eq
  intro i
  rw [Nat.testBit_two_pow_sub_one]
  by_cases hi : i < N.length
  ·rw [zb_zero_full (n := 0) hz i hi]; simp [hi]
  ·cases hb : d.testBit i
   ·simp [hi]
   ·exact absurd (ok.lt i ((ok.set i).1 hb)) hi
theorem ev_validGraph {g : List Tk} (hg : Fits g) : Ev (fun k => spec_validGraph.f k g) (graphD g).isSome := by
 have hf := ev_tasksFine hg
 unfold graphD
 by_cases h : fineD g
 ·obtain ⟨N, hN⟩ := fineD_needs h
  obtain ⟨h8, hl, hb⟩ := needsD_spec hN
  rw [decide_eq_true h] at hf
  have ht := ev_topOrder hg hN
  have ok := orderD_ok (N := N) (by omega) (by rw [hl]; exact hb)
  have hfull := full_iff ok
  rw [hN]
  simp only []
  refine (hf.bind (g := fun k b => if b = true then ((spec_topOrder.f k g).bind fun t130 => (some ((t130.length : Int) == (g.length : Int)))) else some false) ?_).of fun k => rfl
  refine (ht.bind (g := fun k t130 => some ((t130.length : Int) == (g.length : Int))) (b := (if (orderD N).2 = 2 ^ g.length - 1 then some (mkG g N) else none).isSome) ((Ev.const _).of fun k => ?_)).of fun k => if_pos rfl
  rw [up_length]
  congr 1
  by_cases hd : (orderD N).2 = 2 ^ g.length - 1
  ·rw [if_pos hd]
   have := hfull.1 (by rw [hl]; exact hd)
   simp [this, hl]
  ·rw [if_neg hd]
   have : (orderD N).1.length ≠ g.length := fun e => hd (by rw [← hl]; exact hfull.2 (by omega))
   simp [this]
   omega
 ·rw [decide_eq_false h] at hf
  have hn : needsD g = none := by
   cases e : needsD g with
   | none => rfl
   | some N => exact absurd (needsD_fine e).1 h
  rw [hn]
  refine (hf.bind (g := fun k b => if b = true then ((spec_topOrder.f k g).bind fun t130 => (some ((t130.length : Int) == (g.length : Int)))) else some false) ((Ev.const false).of fun k => if_neg (by simp))).of fun k => rfl
end Go.Proofs.YtpibdjkajgfgjaaDoor.Core
end
section
set_option linter.unusedVariables false
set_option linter.unusedSimpArgs false
namespace Go.Proofs.YtpibdjkajgfgjaaDoor.Core
open Go Go.RowKit Go.Proofs.YtpibdjkajgfgjaaDoorW.PrintWords Go.Proofs.YtpibdjkajgfgjaaDoorW.PrintMore Go.Proofs.YtpibdjkajgfgjaaDoor.P
theorem Ev.pos {α : Type} {c : Prop} [Decidable c] {f g : Nat → Option α} {r : α} (hc : c) (h : Ev f r) : Ev (fun k => if c then f k else g k) r := h.of fun k => if_pos hc
theorem Ev.neg {α : Type} {c : Prop} [Decidable c] {f g : Nat → Option α} {r : α} (hc : ¬ c) (h : Ev g r) : Ev (fun k => if c then f k else g k) r := h.of fun k => if_neg hc
theorem Ev.sb {α β : Type} {g : Nat → α → Option β} {a : α} {b : β} (h : Ev (fun k => g k a) b) : Ev (fun k => (some a).bind (g k)) b := h.of fun k => rfl
theorem Ev.conv {α : Type} {f : Nat → Option α} {a b : α} (h : Ev f a) (e : a = b) : Ev f b := e ▸ h
def EvP {α : Type} (f : Nat → Option α) (Q : α → Prop) : Prop := ∃ r, Ev f r ∧ Q r
theorem EvP.ret {α : Type} {Q : α → Prop} {a : α} (h : Q a) : EvP (fun _ => some a) Q := ⟨a, Ev.const a, h⟩
theorem EvP.bind {α β : Type} {f : Nat → Option α} {g : Nat → α → Option β} {Q : α → Prop} {R : β → Prop} (h : EvP f Q) (h2 : ∀ a, Q a → EvP (fun k => g k a) R) : EvP (fun k => (f k).bind (g k)) R := by
 obtain ⟨a, h, q⟩ := h
 obtain ⟨b, h2, q2⟩ := h2 a q
 exact ⟨b, h.bind h2, q2⟩
theorem EvP.sb {α β : Type} {g : Nat → α → Option β} {a : α} {R : β → Prop} (h : EvP (fun k => g k a) R) : EvP (fun k => (some a).bind (g k)) R := h
theorem EvP.pos {α : Type} {c : Prop} [Decidable c] {f g : Nat → Option α} {Q : α → Prop} (hc : c) (h : EvP f Q) : EvP (fun k => if c then f k else g k) Q := by
 obtain ⟨r, h, q⟩ := h
 exact ⟨r, h.pos hc, q⟩
theorem EvP.neg {α : Type} {c : Prop} [Decidable c] {f g : Nat → Option α} {Q : α → Prop} (hc : ¬ c) (h : EvP g Q) : EvP (fun k => if c then f k else g k) Q := by
 obtain ⟨r, h, q⟩ := h
 exact ⟨r, h.neg hc, q⟩
theorem EvP.ite {α : Type} {c : Prop} [Decidable c] {f g : Nat → Option α} {Q : α → Prop} (h1 : c → EvP f Q) (h2 : ¬ c → EvP g Q) : EvP (fun k => if c then f k else g k) Q :=
 if hc : c then EvP.pos hc (h1 hc) else EvP.neg hc (h2 hc)
theorem EvP.succ {α : Type} {f : Nat → Option α} {Q : α → Prop} (h : EvP (fun k => f (k + 1)) Q) : EvP f Q := by
 obtain ⟨r, h, q⟩ := h
 exact ⟨r, h.succ, q⟩
theorem EvP.of {α : Type} {f g : Nat → Option α} {Q : α → Prop} (h : EvP f Q) (e : ∀ k, g k = f k) : EvP g Q := by
 obtain ⟨r, h, q⟩ := h
 exact ⟨r, h.of e, q⟩
theorem EvP.mono {α : Type} {f : Nat → Option α} {Q R : α → Prop} (h : EvP f Q) (hq : ∀ a, Q a → R a) : EvP f R := by
 obtain ⟨r, h, q⟩ := h
 exact ⟨r, h, hq r q⟩
theorem Ev.p {α : Type} {f : Nat → Option α} {r : α} {Q : α → Prop} (h : Ev f r) (q : Q r) : EvP f Q := ⟨r, h, q⟩
theorem EvP.ev {α : Type} {f : Nat → Option α} {r : α} (h : EvP f (fun x => x = r)) : Ev f r := by
 obtain ⟨r, h, rfl⟩ := h
 exact h
theorem Ev.bindP {α β : Type} {f : Nat → Option α} {g : Nat → α → Option β} {a : α} {R : β → Prop} (h : Ev f a) (h2 : EvP (fun k => g k a) R) : EvP (fun k => (f k).bind (g k)) R := by
 obtain ⟨b, h2, q2⟩ := h2
 exact ⟨b, h.bind h2, q2⟩
theorem i64_xor_nat (a b : Nat) (ha : a < 4611686018427387904) (hb : b < 4611686018427387904) : bits .xor .i64 (a : Int) (b : Int) = ((a ^^^ b : Nat) : Int) := by
 have hx : a ^^^ b < 2 ^ 62 := Nat.xor_lt_two_pow (by omega) (by omega)
 have h1 : (BitVec.ofInt 64 (a : Int)).toNat = a := by
  rw [BitVec.ofInt_natCast, BitVec.toNat_ofNat]; exact Nat.mod_eq_of_lt (by omega)
 have h2 : (BitVec.ofInt 64 (b : Int)).toNat = b := by
  rw [BitVec.ofInt_natCast, BitVec.toNat_ofNat]; exact Nat.mod_eq_of_lt (by omega)
 show IntKind.i64.wrap ((BitVec.ofInt 64 (a : Int) ^^^ BitVec.ofInt 64 (b : Int)).toNat : Int) = _
 rw [BitVec.toNat_xor, h1, h2, IntKind.wrap_i64]
 omega
theorem i64_xor (a b : Int) (ha : 0 ≤ a) (ha2 : a < 4294967296) (hb : 0 ≤ b) (hb2 : b < 4294967296) : 0 ≤ bits .xor .i64 a b ∧ bits .xor .i64 a b < 4294967296 := by
 obtain ⟨m, rfl⟩ := Int.eq_ofNat_of_zero_le ha
 obtain ⟨n, rfl⟩ := Int.eq_ofNat_of_zero_le hb
 rw [i64_xor_nat m n (by omega) (by omega)]
 have hx : m ^^^ n < 2 ^ 32 := Nat.xor_lt_two_pow (by omega) (by omega)
 omega
theorem tmod_lt {a n : Int} (ha : 0 ≤ a) (hn : 0 < n) : 0 ≤ Int.tmod a n ∧ Int.tmod a n < n := by
 rw [Int.tmod_eq_emod_of_nonneg ha]
 exact ⟨Int.emod_nonneg _ (by omega), Int.emod_lt_of_pos _ hn⟩
theorem tdiv_le {a n : Int} (ha : 0 ≤ a) (hn : 0 < n) : 0 ≤ Int.tdiv a n ∧ Int.tdiv a n ≤ a := by
 rw [Int.tdiv_eq_ediv_of_nonneg ha]
 exact ⟨Int.ediv_nonneg ha (by omega), Int.ediv_le_self _ ha⟩
end Go.Proofs.YtpibdjkajgfgjaaDoor.Core
end
section
set_option linter.unusedVariables false
set_option linter.unusedSimpArgs false
namespace Go.Proofs.YtpibdjkajgfgjaaDoor.Core
open Go Go.RowKit Go.Proofs.YtpibdjkajgfgjaaDoorW.PrintWords Go.Proofs.YtpibdjkajgfgjaaDoorW.PrintMore Go.Proofs.YtpibdjkajgfgjaaDoor.P
theorem asc_ext : ∀ {a b : List Int}, ascD a = true → ascD b = true → (∀ x, x ∈ a ↔ x ∈ b) → a = b
 | [], [], _, _, _ => rfl
 | [], y :: b, _, _, h => by have := (h y).2 List.mem_cons_self; cases this
 | x :: a, [], _, _, h => by have := (h x).1 List.mem_cons_self; cases this
 | x :: a, y :: b, ha, hb, h => by
  have h1 := asc_lt ha
  have h2 := asc_lt hb
  have e : x = y := by
   rcases List.mem_cons.1 ((h x).1 List.mem_cons_self) with e | e
   ·exact e
   ·rcases List.mem_cons.1 ((h y).2 List.mem_cons_self) with e' | e'
    ·exact e'.symm
    ·have := h1.2 y e'
     have := h2.2 x e
     omega
  subst e
  rw [asc_ext h1.1 h2.1 (fun z => ⟨fun hz => ?_, fun hz => ?_⟩)]
  ·rcases List.mem_cons.1 ((h z).1 (List.mem_cons_of_mem _ hz)) with e | e
   ·have := h1.2 z hz; omega
   ·exact e
  ·rcases List.mem_cons.1 ((h z).2 (List.mem_cons_of_mem _ hz)) with e | e
   ·have := h2.2 z hz; omega
   ·exact e
theorem asc_filter (p : Nat → Bool) : ∀ (m i : Nat), ascD (up ((List.range' i m).filter p)) = true ∧ ∀ x ∈ up ((List.range' i m).filter p), (i : Int) ≤ x
 | 0, i => ⟨rfl, by simp [up]⟩
 | m + 1, i => by
  have ih := asc_filter p m (i + 1)
  rw [List.range'_succ, List.filter_cons]
  split
  ·refine ⟨asc_mk ih.1 (fun y hy => by have := ih.2 y hy; show (i : Int) < y; omega), fun x hx => ?_⟩
   rcases List.mem_cons.1 hx with rfl | hx
   ·exact Int.le_refl _
   ·have := ih.2 x hx; omega
  ·exact ⟨ih.1, fun x hx => by have := ih.2 x hx; omega⟩
theorem asc_elems (s : Nat) : ascD (up (elemsN s)) = true := by
 unfold elemsN
 rw [List.range_eq_range']
 exact (asc_filter (fun i => s.testBit i) 8 0).1
/-- A list of ascending numbers is its set's. -/
theorem set_list {n : Nat} (hn : n ≤ 8) {l : List Int} {s : Nat} (h : setD n l = some s) : up (elemsN s) = l := by
 obtain ⟨h1, h2⟩ := setD_some h
 refine asc_ext (asc_elems s) h1.2 (fun x => ?_)
 constructor
 ·intro hx
  obtain ⟨i, rfl, _, hi⟩ := mem_elems.1 hx
  rw [h2] at hi
  simpa using hi
 ·intro hx
  have h3 := h1.1 x hx
  obtain ⟨i, rfl⟩ := Int.eq_ofNat_of_zero_le h3.1
  refine mem_elems.2 ⟨i, rfl, by omega, ?_⟩
  rw [h2]
  simpa using hx
theorem set_cases (n : Nat) (l : List Int) : (∃ s, setD n l = some s ∧ needsOk n l) ∨ (setD n l = none ∧ ¬ needsOk n l) := by
 cases h : setD n l with
 | some s => exact .inl ⟨s, rfl, (setD_some h).1⟩
 | none => exact .inr ⟨rfl, setD_none h⟩
theorem rd_up' (L : List Nat) (i : Nat) : rd (up L) (i : Int) = ((L.getD i 0 : Nat) : Int) := rd_up rfl
end Go.Proofs.YtpibdjkajgfgjaaDoor.Core
end
section
set_option linter.unusedVariables false
set_option linter.unusedSimpArgs false
namespace Go.Proofs.YtpibdjkajgfgjaaDoor.Core
open Go Go.RowKit Go.Proofs.YtpibdjkajgfgjaaDoorW.PrintWords Go.Proofs.YtpibdjkajgfgjaaDoorW.PrintMore Go.Proofs.YtpibdjkajgfgjaaDoor.P
/-- What is known of a valid graph. -/
structure VG (g : List Tk) (G : GD) : Prop where
 tasks : G.tasks = g
 n8 : g.length ≤ 8
 nl : G.needs.length = g.length
 nb : below1 g.length G.needs
 needsD : needsD g = some G.needs
 bits : ∀ i, i < g.length → ∀ j : Nat, (G.needs.getD i 0).testBit j = decide ((j : Int) ∈ (g.getD i z48).f1)
 fine : fineD g
 ord : OrdOk G.needs G.order (2 ^ g.length - 1)
theorem vg_of {g : List Tk} {G : GD} (h : graphD g = some G) : VG g G := by
 obtain ⟨N, hN, hf, rfl⟩ := graphD_spec h
 obtain ⟨h8, hl, hb⟩ := needsD_spec hN
 have ok := orderD_ok (N := N) (by omega) (by rw [hl]; exact hb)
 rw [hf] at ok
 exact ⟨rfl, h8, hl, hb, hN, (needsD_fine hN).2, (needsD_fine hN).1, ok⟩
theorem zb_count (p : Nat) : ∀ n, zb n p = ((List.range n).filter (fun i => !p.testBit i)).length
 | 0 => rfl
 | n + 1 => by
  rw [zb, zb_count p n, List.range_succ, List.filter_append, List.length_append]
  congr 1
  by_cases h : p.testBit n = true
  ·simp [h]
  ·simp [h]
theorem VG.needs_len {g : List Tk} {G : GD} (v : VG g G) : G.needs.length ≤ 8 := by have := v.nl; have := v.n8; omega
theorem VG.mem_ready {g : List Tk} {G : GD} (v : VG g G) {p i : Nat} : i ∈ elemsN (G.ready p) ↔ i < g.length ∧ p.testBit i = false ∧ sub (G.needs.getD i 0) p = 0 := by
 rw [Core.mem_ready v.needs_len, v.nl]
end Go.Proofs.YtpibdjkajgfgjaaDoor.Core
end
section
set_option linter.unusedVariables false
set_option linter.unusedSimpArgs false
namespace Go.Proofs.YtpibdjkajgfgjaaDoor.Core
open Go Go.RowKit Go.Shelf Go.Proofs.YtpibdjkajgfgjaaDoorW.PrintWords Go.Proofs.YtpibdjkajgfgjaaDoorW.PrintMore Go.Proofs.YtpibdjkajgfgjaaDoor.P
/-- Whether a list has different numbers of tasks, none of a set. -/
def freshOk (n : Nat) : List Int → Nat → Bool
 | [], _ => true
 | x :: r, s => if (0 ≤ x ∧ x ≤ (n : Int) - 1) ∧ s.testBit x.toNat = false then freshOk n r (s ||| 2 ^ x.toNat) else false
def admitD (g : List Tk) (room running list : List Int) (wk : Int) : List Int :=
 if (1 ≤ wk ∧ wk ≤ 4) ∧ runsD g room running = true then
  match setD g.length running with
  | none => []
  | some s => if freshOk g.length list s = true then admGo g room wk list (countSet g s) [] else []
 else []
theorem runsD_some {g : List Tk} {room running : List Int} (h : runsD g room running = true) : ∃ G s, graphD g = some G ∧ roomOk room ∧ setD g.length running = some s ∧ fitsD (countSet g s) room = true := by
 unfold runsD at h
 cases hG : graphD g with
 | none => rw [hG] at h; cases h
 | some G =>
  rw [hG] at h
  simp only [] at h
  by_cases hr : roomOk room
  ·rw [if_pos hr] at h
   cases hs : setD g.length running with
   | none => rw [hs] at h; cases h
   | some s => rw [hs] at h; exact ⟨G, s, rfl, hr, rfl, h⟩
  ·rw [if_neg hr] at h; cases h
theorem four_setA {w : World} {g t : Nat} {o0 o1 o2 o3 : Value} (h : w.heap[g]? = some (.cells #[o0, o1, o2, o3] t (0, 0))) (v0 v1 v2 v3 : Value) :
  ((((w.setCell ⟨g, 0, none⟩ v0).setCell ⟨g, 1, none⟩ v1).setCell ⟨g, 2, none⟩ v2).setCell ⟨g, 3, none⟩ v3).heap[g]? = some (.cells #[v0, v1, v2, v3] t (0, 0)) ∧ w.grownBy ((((w.setCell ⟨g, 0, none⟩ v0).setCell ⟨g, 1, none⟩ v1).setCell ⟨g, 2, none⟩ v2).setCell ⟨g, 3, none⟩ v3) (some g) :=
 ⟨blk_put (blk_put (blk_put (blk_put h 0 v0 rfl) 1 v1 rfl) 2 v2 rfl) 3 v3 rfl, grown_trans (grown_trans (grown_trans (grownBy_setCell'' _ _ _ _) (grownBy_setCell'' _ _ _ _)) (grownBy_setCell'' _ _ _ _)) (grownBy_setCell'' _ _ _ _)⟩
section
attribute [local go_sem] Oper.semAt_some wide_fn wide_depth
set_option maxHeartbeats 1000000 in
theorem workers_is (a : Int) (t : Bool) (w : World) (h : decide (1 ≤ a ∧ a ≤ 4) = t) :
  Calls Tryd.prog 59 #[.int .i64 a] w fun e w' => e = .returned (.bool t) ∧ Below w.heap.size w w' := by
 have HW := Aside0.mk (within_is a 1 4 t w h)
 clear h
 go_enter Tryd.func59, Tryd.ntmps59
 go_wp2_with (go_at_call 64; refine HW.out.mono ?_; rintro e w2 ⟨rfl, hB2⟩)
 go_ret
 exact ⟨rfl, hB2⟩
end
/-- A list that is fresh names tasks. -/
theorem fresh_mem {n : Nat} : ∀ (l : List Int) (s : Nat), freshOk n l s = true → ∀ x ∈ l, 0 ≤ x ∧ x < (n : Int)
 | [], _, _, x, hx => by cases hx
 | y :: r, s, h, x, hx => by
  unfold freshOk at h
  by_cases hc : (0 ≤ y ∧ y ≤ (n : Int) - 1) ∧ s.testBit y.toNat = false
  ·rw [if_pos hc] at h
   rcases List.mem_cons.1 hx with rfl | hx
   ·exact ⟨hc.1.1, by omega⟩
   ·exact fresh_mem r _ h x hx
  ·rw [if_neg hc] at h; cases h
theorem zb_or {n s k : Nat} (hk : k < n) (hb : s.testBit k = false) : zb n (s ||| 2 ^ k) + 1 ≤ zb n s := by
 have h1 : ∀ m, zb m (s ||| 2 ^ k) + (if k < m then 1 else 0) ≤ zb m s := by
  intro m
  rw [zb_count, zb_count]
  induction m with
  | zero => simp
  | succ m ih =>
   rw [List.range_succ, List.filter_append, List.filter_append, List.length_append, List.length_append]
   have hm : (s ||| 2 ^ k).testBit m = (s.testBit m || decide (k = m)) := or_bit _ _ _
   by_cases e : k = m
   ·subst e
    rw [List.filter_cons_of_neg (by rw [hm]; simp), List.filter_cons_of_pos (by rw [hb]; rfl)]
    simp only [List.filter_nil, List.length_nil, List.length_singleton]
    rw [if_neg (Nat.lt_irrefl _)] at ih
    rw [if_pos (Nat.lt_succ_self _)]
    omega
   ·have hle : ((([m] : List Nat).filter (fun i => !(s ||| 2 ^ k).testBit i))).length = (([m] : List Nat).filter (fun i => !s.testBit i)).length := by
     simp only [List.filter_cons, List.filter_nil, hm, decide_eq_false e, Bool.or_false]
    rw [hle]
    by_cases hkm : k < m
    ·rw [if_pos hkm] at ih
     rw [if_pos (by omega)]
     omega
    ·rw [if_neg hkm] at ih
     rw [if_neg (by omega)]
     omega
 have := h1 n
 rw [if_pos hk] at this
 exact this
theorem fresh_len {n : Nat} : ∀ (l : List Int) (s : Nat), freshOk n l s = true → l.length ≤ zb n s
 | [], _, _ => Nat.zero_le _
 | y :: r, s, h => by
  unfold freshOk at h
  by_cases hc : (0 ≤ y ∧ y ≤ (n : Int) - 1) ∧ s.testBit y.toNat = false
  ·rw [if_pos hc] at h
   have h1 := fresh_len r _ h
   have h2 := zb_or (n := n) (s := s) (k := y.toNat) (by omega) hc.2
   rw [List.length_cons]
   omega
  ·rw [if_neg hc] at h; cases h
end Go.Proofs.YtpibdjkajgfgjaaDoor.Core
namespace Go.Proofs.YtpibdjkajgfgjaaDoor.P
open Go Go.RowKit Go.Shelf Go.Proofs.YtpibdjkajgfgjaaDoorW.PrintWords Go.Proofs.YtpibdjkajgfgjaaDoorW.PrintLast Go.Proofs.YtpibdjkajgfgjaaDoorW.PrintMore Go.Proofs.YtpibdjkajgfgjaaDoor.Core
attribute [local go_sem] Oper.semAt_some wide_fn wide_depth
def impl_AdmitTasks.f (l0 : List S48) (l1 l2 l3 : List Int) (a4 : Int) : Option (List Int) := some (admitD l0 l1 l2 l3 a4)
set_option maxRecDepth 100000 in
set_option maxHeartbeats 2000000 in
theorem impl_AdmitTasks.calls (A0 : Option Addr) (c0 : Nat) (l0 : List S48) (A1 : Option Addr) (c1 : Nat) (l1 : List Int) (A2 : Option Addr) (c2 : Nat) (l2 : List Int) (A3 : Option Addr) (c3 : Nat) (l3 : List Int) (a4 : Int) (r : List Int) (w : World) (hr0 : Kd.C k48 w A0 l0.length l0) (hc0 : l0.length ≤ c0) (hr1 : Kd.C (Kd.int .i64) w A1 l1.length l1) (hc1 : l1.length ≤ c1) (hr2 : Kd.C (Kd.int .i64) w A2 l2.length l2) (hc2 : l2.length ≤ c2) (hr3 : Kd.C (Kd.int .i64) w A3 l3.length l3) (hc3 : l3.length ≤ c3) (hT : Tab w) (h : impl_AdmitTasks.f l0 l1 l2 l3 a4 = some r) :
  Calls Tryd.prog 19 #[.slice A0 l0.length c0, .slice A1 l1.length c1, .slice A2 l2.length c2, .slice A3 l3.length c3, .int .i64 a4] w fun e w' => ∃ v0_ : Value, e = .returned (v0_) ∧ Kd.R (Kd.int .i64) 3 w' w.heap.size (fun _ => True) v0_ r ∧ Below w.heap.size w w' := by
 have hr : r = admitD l0 l1 l2 l3 a4 := (Option.some.inj h).symm
 subst hr
 clear h
 have HR0 := Aside0.mk hr0
 have HR1 := Aside0.mk hr1
 have HR2 := Aside0.mk hr2
 have HR3 := Aside0.mk hr3
 have HC0 := Aside0.mk hc0
 have HC1 := Aside0.mk hc1
 have HC2 := Aside0.mk hc2
 have HC3 := Aside0.mk hc3
 have HL30 := Aside0.mk (show l3.length ≤ 9223372036854775807 from hr3.2.1)
 have HT := Aside0.mk hT
 clear hr0 hr1 hr2 hr3 hc0 hc1 hc2 hc3 hT
 by_cases hw : 1 ≤ a4 ∧ a4 ≤ 4
 rotate_left
 ·have hcd : admitD l0 l1 l2 l3 a4 = [] := by unfold admitD; rw [if_neg (fun h => hw h.1)]
  rw [hcd]
  have HWD : Aside0 (decide (1 ≤ a4 ∧ a4 ≤ 4) = false) := ⟨decide_eq_false hw⟩
  clear hw hcd
  go_enter Tryd.func19, Tryd.ntmps19
  go_wp2_with (go_at_call 59; refine (workers_is a4 false _ HWD.out).mono ?_; rintro e w1 ⟨rfl, hB1⟩; have HB1 := Aside0.mk hB1; clear hB1)
  go_ret
  exact ⟨_, rfl, Kd.R_nil _ _ _ _ _, HB1.out⟩
 have HWD : Aside0 (decide (1 ≤ a4 ∧ a4 ≤ 4) = true) := ⟨decide_eq_true hw⟩
 cases hrun : runsD l0 l1 l2 with
 | false =>
  have hcd : admitD l0 l1 l2 l3 a4 = [] := by unfold admitD; rw [hrun, if_neg (fun h => by cases h.2)]
  rw [hcd]
  have HRUN := Aside0.mk (show impl_RunsTogether.f l0 l1 l2 = some false by unfold impl_RunsTogether.f; rw [hrun])
  clear hw hcd hrun
  go_enter Tryd.func19, Tryd.ntmps19
  go_wp2_with (first | (go_at_call 59; refine (workers_is a4 true _ HWD.out).mono ?_; rintro e w1 ⟨rfl, hB1⟩; have HB1 := Aside0.mk hB1; clear hB1) | (go_at_call 47; refine (impl_RunsTogether.calls A0 c0 l0 A1 c1 l1 A2 c2 l2 false _ (Kd.C_below HR0.out HB1.out) HC0.out (Kd.C_below HR1.out HB1.out) HC1.out (Kd.C_below HR2.out HB1.out) HC2.out (HT.out.of HB1.out) HRUN.out).mono ?_; rintro e w2 ⟨rfl, hB2⟩; have HB2 := Aside0.mk (below_step HB1.out hB2); clear hB2))
  go_ret
  exact ⟨_, rfl, Kd.R_nil _ _ _ _ _, HB2.out⟩
 | true =>
  have HRUN := Aside0.mk (show impl_RunsTogether.f l0 l1 l2 = some true by unfold impl_RunsTogether.f; rw [hrun])
  obtain ⟨G, s, hG, hroom, hs, hfit⟩ := runsD_some hrun
  have hcd : admitD l0 l1 l2 l3 a4 = if freshOk l0.length l3 s = true then admGo l0 l1 a4 l3 (countSet l0 s) [] else [] := by unfold admitD; rw [if_pos ⟨hw, hrun⟩, hs]
  have ok := graphD_ok hG
  have htk := graphD_tasks hG
  have h8 := ok.n8
  have hpool : ∀ t ∈ G.tasks, 0 ≤ t.f2 ∧ t.f2 ≤ 2 := graphD_pool hG
  have hslt := setD_lt hs
  have HG := Aside0.mk (fun W hr hT => graphOf_some A0 c0 l0 G W hT hr HC0.out hG)
  obtain ⟨res, hres⟩ : ∃ res, res = admitD l0 l1 l2 l3 a4 := ⟨_, rfl⟩
  rw [← hres]
  rw [hcd] at hres
  clear hcd
  rw [← htk] at hres hs hslt
  have HSET := Aside0.mk (fun W hr => setOf_some h8 A2 c2 l2 s W hr HC2.out hs)
  have HCNT := Aside0.mk (fun b W hT hI => counted_calls b G s W hT hI h8 hpool hslt)
  have HADM := Aside0.mk (fun b cs W hI hr1 hr3 hl hl8 => admitted_calls b G cs A1 c1 l1 A3 c3 l3 a4 W hI hpool hroom.1 hr1 HC1.out hr3 HC3.out hl hl8)
  have HFL := Aside0.mk (fun h => fresh_mem (n := G.tasks.length) l3 s h)
  have HFN := Aside0.mk (fun h => fresh_len (n := G.tasks.length) l3 s h)
  have hzb : zb G.tasks.length s ≤ 8 := Nat.le_trans (by rw [zb_count]; have := List.length_filter_le (fun i => !s.testBit i) (List.range G.tasks.length); rw [List.length_range] at this; exact this) h8
  have HZB := Aside0.mk hzb
  have hs0 := hslt
  generalize countSet G.tasks s = cs at HCNT hres
  obtain ⟨n, hn⟩ : ∃ n, n = G.tasks.length := ⟨_, rfl⟩
  have HN := Aside0.mk (show n = G.tasks.length ∧ n ≤ 8 from ⟨hn, by omega⟩)
  have HRES := Aside0.mk hres
  have HS0 := Aside0.mk hs0
  clear hw hrun hG hroom hs hfit ok htk h8 hpool hslt hzb hs0 hres hn
  go_enter Tryd.func19, Tryd.ntmps19
  go_wp2_with (first
   | (go_at_call 59; refine (workers_is a4 true _ HWD.out).mono ?_; rintro e w1 ⟨rfl, hB1⟩; have HB1 := Aside0.mk hB1; clear hB1)
   | (go_at_call 47; refine (impl_RunsTogether.calls A0 c0 l0 A1 c1 l1 A2 c2 l2 true _ (Kd.C_below HR0.out HB1.out) HC0.out (Kd.C_below HR1.out HB1.out) HC1.out (Kd.C_below HR2.out HB1.out) HC2.out (HT.out.of HB1.out) HRUN.out).mono ?_; rintro e w2 ⟨rfl, hB2⟩; have HB2 := Aside0.mk (below_step HB1.out hB2); clear hB2)
   | (go_at_call 60; refine (HG.out _ (Kd.C_below HR0.out HB2.out) (HT.out.of HB2.out)).mono ?_; rintro e w3 ⟨b, rfl, hB3, hI⟩; have HB3 := Aside0.mk (below_step HB2.out hB3); have HI3 := Aside0.mk hI; clear hB3 hI HG)
   | (go_at_call 62; refine (size_calls b G _ HI3.out).mono ?_; rintro e w' ⟨rfl, rfl⟩)
   | (go_at_call 61; refine (HSET.out _ (Kd.C_below HR2.out HB3.out)).mono ?_; rintro e w4 ⟨rfl, hB4⟩; have HB4 := Aside0.mk (below_step HB3.out hB4); have HI4 := Aside0.mk (HI3.out.move hB4); clear hB4)
   | (go_at_call 63; refine (HCNT.out b _ (HT.out.of HB4.out) HI4.out).mono ?_; rintro e w5 ⟨rfl, hB5⟩; have HB5 := Aside0.mk (below_step HB4.out hB5); have HI5 := Aside0.mk (HI4.out.move hB5); clear hB5)
   | ((with_reducible refine gate_dst (N := 15) rfl ?_); refine box_event ?hg (N := 15) ?hd (cs := #[.int .i64 0, .int .i64 0, .int .i64 0, .int .i64 0]) (t := 73) ?hr ?_; (case hd => rfl); (case hg => rfl); (case hr => first | (go_simp; done) | (go_simp; rfl)); intro gb hg w6 hbox hb; have HB6 := Aside0.mk (below_step HB5.out hb); have HI6 := Aside0.mk (HI5.out.move hb); have GE := Aside0.mk (show w5.heap.size ≤ gb by rw [hg]; exact Nat.le_refl _); have BK := Aside0.mk hbox; have HX := Aside0.mk hb; clear hb hg hbox; have z0 : w6.cell? ⟨gb, 0, none⟩ = some (.int .i64 0) := (blk_cell BK.out 0).trans rfl; have z1 : w6.cell? ⟨gb, 1, none⟩ = some (.int .i64 0) := (blk_cell BK.out 1).trans rfl; have z2 : w6.cell? ⟨gb, 2, none⟩ = some (.int .i64 0) := (blk_cell BK.out 2).trans rfl; have z3 : w6.cell? ⟨gb, 3, none⟩ = some (.int .i64 0) := (blk_cell BK.out 3).trans rfl; have f0 := blk_frozen BK.out 0; have f1 := blk_frozen BK.out 1; have f2 := blk_frozen BK.out 2; have f3 := blk_frozen BK.out 3))
  have h8s := four_setA BK.out (.int .i64 cs.t) (.int .i64 cs.u0) (.int .i64 cs.u1) (.int .i64 cs.u2)
  have HCN := Aside0.mk (show IsCn _ gb cs from h8s.1)
  have HX7 := Aside0.mk (below_put h8s.2 HX.out (Nat.le_refl _) GE.out)
  clear h8s z0 z1 z2 z3 f0 f1 f2 f3
  revert HCN HX7
  generalize ((((w6.setCell ⟨gb, 0, none⟩ (.int .i64 cs.t)).setCell ⟨gb, 1, none⟩ (.int .i64 cs.u0)).setCell ⟨gb, 2, none⟩ (.int .i64 cs.u1)).setCell ⟨gb, 3, none⟩ (.int .i64 cs.u2)) = w7
  intro HCN HX7
  have HB := Aside0.mk (below_step HB5.out HX7.out)
  have HI := Aside0.mk (HI5.out.move HX7.out)
  go_loopg [13, 45] l3.length (fun kq v13 v45 w' => ∃ (j : Nat) (x : Int) (sn : Nat), v13 = .int .u16 (sn : Int) ∧ v45 = .int .i64 x ∧ Aside0 (kq + j = l3.length ∧ x = (j : Int)) ∧ Aside0 (sn < 2 ^ G.tasks.length ∧ freshOk G.tasks.length l3 s = freshOk G.tasks.length (l3.drop j) sn) ∧ Aside0 (IsCn w' gb cs) ∧ Aside0 (IsG w' b G) ∧ Aside0 (Below w.heap.size w w'))
  case atStart => exact ⟨0, 0, s, rfl, rfl, ⟨by omega, rfl⟩, ⟨HS0.out, rfl⟩, ⟨HCN.out⟩, ⟨HI.out⟩, ⟨HB.out⟩⟩
  case round =>
   clear HB HI HCN
   obtain ⟨j, x, sn, rfl, rfl, HJ, HSN, HCN, HI, HB⟩ := hrel
   have HL8 := Aside0.mk (show G.tasks.length ≤ 8 by rw [← HN.out.1]; exact HN.out.2)
   by_cases hlt : j < l3.length
   ·have hx := HJ.out.2
    have hd : decide (x < (l3.length : Int)) = true := decide_eq_true (by omega)
    have p0 : 0 ≤ x := by omega
    have q0 : x < (l3.length : Int) := by omega
    obtain ⟨adl, el, hxl⟩ := Kd.at_int (Kd.C_below HR3.out HB.out) x p0 q0
    have hy : rd l3 x = l3[j] := by rw [hx]; unfold rd; rw [Int.toNat_natCast, List.getD_eq_getElem?_getD, List.getElem?_eq_getElem hlt, Option.getD_some]
    have hdrop : l3.drop j = l3[j] :: l3.drop (j + 1) := List.drop_eq_getElem_cons hlt
    have hfr := HSN.out.2
    rw [hdrop] at hfr
    rw [hy] at hxl
    generalize l3[j] = y at hxl hfr
    have hfr2 : freshOk G.tasks.length l3 s = if (0 ≤ y ∧ y ≤ (G.tasks.length : Int) - 1) ∧ sn.testBit y.toNat = false then freshOk G.tasks.length (l3.drop (j + 1)) (sn ||| 2 ^ y.toNat) else false := hfr
    have h256 : sn < 256 := Nat.lt_of_lt_of_le HSN.out.1 (pow8 HL8.out)
    have hl8 := HL8.out
    have hw2 : wrap64 ((G.tasks.length : Int) - 1) = (G.tasks.length : Int) - 1 := w64 (by omega) (by omega)
    have hw1 : IntKind.i64.wrap ((G.tasks.length : Int) - 1) = (G.tasks.length : Int) - 1 := by rw [i64_w, hw2]
    have HLT := Aside0.mk hlt
    replace p0 := eq_true p0
    replace q0 := eq_true q0
    subst el
    clear hx hlt hy hdrop hfr
    by_cases hin : 0 ≤ y ∧ y ≤ (G.tasks.length : Int) - 1
    ·obtain ⟨i, hi⟩ := Int.eq_ofNat_of_zero_le hin.1
     have hit : y.toNat = i := by omega
     have hi8 : i < 8 := by omega
     have hiG : i < G.tasks.length := by omega
     have HHAS := Aside0.mk (has_calls sn i h256 hi8)
     have HWITH := Aside0.mk (with_calls sn i h256 hi8)
     have HWI := Aside0.mk (fun W => within_is y 0 ((G.tasks.length : Int) - 1) true W (decide_eq_true hin))
     rw [hit] at hfr2
     cases hbit : sn.testBit i with
     | true =>
      rw [hbit, if_neg (fun h => by cases h.2)] at hfr2
      have hr0 : res = [] := by rw [HRES.out, hfr2, if_neg (fun h => by cases h)]
      have HR := Aside0.mk hr0
      rw [← hi, hbit] at HHAS
      clear hfr2 hin hi hit hi8 hiG hbit hr0 HWITH hl8 h256
      go_wp2_with (first
       | (go_at_call 62; refine (size_calls b G _ HI.out).mono ?_; rintro e w' ⟨rfl, rfl⟩)
       | (go_at_call 64; refine (HWI.out _).mono ?_; rintro e w8 ⟨rfl, hB8⟩; have HB8 := Aside0.mk (below_step HB.out hB8); clear hB8)
       | (go_at_call 65; refine (HHAS.out _).mono ?_; rintro e w' ⟨rfl, rfl⟩))
      go_ret
      exact ⟨_, rfl, by rw [HR.out]; exact Kd.R_nil _ _ _ _ _, HB8.out⟩
     | false =>
      rw [if_pos ⟨hin, hbit⟩] at hfr2
      have HFR := Aside0.mk (show sn ||| 2 ^ i < 2 ^ G.tasks.length ∧ freshOk G.tasks.length l3 s = freshOk G.tasks.length (l3.drop (j + 1)) (sn ||| 2 ^ i) from ⟨Nat.or_lt_two_pow HSN.out.1 (Nat.pow_lt_pow_right (by omega) hiG), hfr2⟩)
      rw [← hi, hbit] at HHAS
      rw [← hi] at HWITH
      clear hfr2 hin hi hit hi8 hiG hbit hl8 h256
      go_wp2_with (first
       | (go_at_call 62; refine (size_calls b G _ HI.out).mono ?_; rintro e w' ⟨rfl, rfl⟩)
       | (go_at_call 64; refine (HWI.out _).mono ?_; rintro e w8 ⟨rfl, hB8⟩; have HCN8 := Aside0.mk (HCN.out.move hB8); have HI8 := Aside0.mk (HI.out.move hB8); have HB8 := Aside0.mk (below_step HB.out hB8); clear hB8 hxl)
       | (go_at_call 65; refine (HHAS.out _).mono ?_; rintro e w' ⟨rfl, rfl⟩)
       | (go_at_call 66; refine (HWITH.out _).mono ?_; rintro e w' ⟨rfl, rfl⟩))
      go_roundg (l3.length - (j + 1))
      case measure => have h1 := HJ.out.1; have h2 := HLT.out; omega
      case rel => exact ⟨j + 1, _, sn ||| 2 ^ i, rfl, rfl, ⟨by have h2 := HLT.out; omega, by have h1 := HJ.out.2; have h2 := HL30.out; have h3 := HLT.out; unfold wrap64; omega⟩, ⟨HFR.out⟩, ⟨HCN8.out⟩, ⟨HI8.out⟩, ⟨HB8.out⟩⟩
    ·have HWI := Aside0.mk (fun W => within_is y 0 ((G.tasks.length : Int) - 1) false W (decide_eq_false hin))
     rw [if_neg (fun h => hin h.1)] at hfr2
     have hr0 : res = [] := by rw [HRES.out, hfr2, if_neg (fun h => by cases h)]
     have HR := Aside0.mk hr0
     clear hfr2 hin hr0 hl8 h256
     go_wp2_with (first
      | (go_at_call 62; refine (size_calls b G _ HI.out).mono ?_; rintro e w' ⟨rfl, rfl⟩)
      | (go_at_call 64; refine (HWI.out _).mono ?_; rintro e w8 ⟨rfl, hB8⟩; have HB8 := Aside0.mk (below_step HB.out hB8); clear hB8))
     go_ret
     exact ⟨_, rfl, by rw [HR.out]; exact Kd.R_nil _ _ _ _ _, HB8.out⟩
   ·have hx := HJ.out.2
    have hd : decide (x < (l3.length : Int)) = false := decide_eq_false (by omega)
    have hfr := HSN.out.2
    rw [List.drop_eq_nil_of_le (by omega)] at hfr
    have hfr1 : freshOk G.tasks.length l3 s = true := hfr
    have hr1 : res = admGo G.tasks l1 a4 l3 cs [] := by rw [HRES.out, if_pos hfr1]
    have hln := HFN.out hfr1
    have hzb := HZB.out
    have HRR := Aside0.mk hr1
    have HA := Aside0.mk (HADM.out b cs wr HI.out (Kd.C_below HR1.out HB.out) (Kd.C_below HR3.out HB.out) (HFL.out hfr1) (by omega))
    have hc0 := HCN.out.cell0
    have hc1 := HCN.out.cell1
    have hc2 := HCN.out.cell2
    have hc3 := HCN.out.cell3
    clear hx hlt hfr hfr1 hr1 hln hzb
    go_wp2_with (go_at_call 67; refine HA.out.mono ?_; rintro e w8 ⟨v8, rfl, hR8, hB8⟩)
    go_ret
    exact ⟨_, rfl, by rw [HRR.out]; exact Kd.R_mono (Kd.R_lower hR8 HB.out.size) (fun _ _ => trivial), below_step HB.out hB8⟩
end Go.Proofs.YtpibdjkajgfgjaaDoor.P
end
section
set_option linter.unusedVariables false
set_option linter.unusedSimpArgs false
namespace Go.Proofs.YtpibdjkajgfgjaaDoor.Core
open Go Go.RowKit Go.Proofs.YtpibdjkajgfgjaaDoorW.PrintWords Go.Proofs.YtpibdjkajgfgjaaDoorW.PrintMore Go.Proofs.YtpibdjkajgfgjaaDoor.P
/-- How many units of a pool tasks take. -/
def usedN (g : List Tk) (p : Int) : List Nat → Int
 | [] => 0
 | i :: r => (if (g.getD i z48).f2 = p then (g.getD i z48).f3 else 0) + usedN g p r
def UOk (g : List Tk) (L : List Nat) : Prop := ∀ i ∈ L, 1 ≤ (g.getD i z48).f3 ∧ (g.getD i z48).f3 ≤ 4
theorem usedN_bd {g : List Tk} {p : Int} : ∀ {L : List Nat}, UOk g L → 0 ≤ usedN g p L ∧ usedN g p L ≤ 4 * L.length
 | [], _ => by simp [usedN]
 | i :: r, h => by
  have ih := usedN_bd (p := p) (L := r) (fun j hj => h j (List.mem_cons_of_mem _ hj))
  have hi := h i List.mem_cons_self
  simp only [usedN, List.length_cons]
  split <;> omega
theorem count_fold (g : List Tk) : ∀ (L : List Nat) (c : Cn), UOk g L → L.length ≤ 100 → 0 ≤ c.u0 → c.u0 ≤ 1000 → 0 ≤ c.u1 → c.u1 ≤ 1000 → 0 ≤ c.u2 → c.u2 ≤ 1000 → c.u0 + 4 * L.length ≤ 1000 → c.u1 + 4 * L.length ≤ 1000 → c.u2 + 4 * L.length ≤ 1000 →
  (L.foldl (cstep g) c).u0 = c.u0 + usedN g 0 L ∧ (L.foldl (cstep g) c).u1 = c.u1 + usedN g 1 L ∧ (L.foldl (cstep g) c).u2 = c.u2 + usedN g 2 L
 | [], c, _, _, _, _, _, _, _, _, _, _, _ => by simp [usedN]
 | i :: r, c, h, hl, a0, b0, a1, b1, a2, b2, d0, d1, d2 => by
  have hi := h i List.mem_cons_self
  rw [List.foldl_cons]
  simp only [List.length_cons] at hl d0 d1 d2
  have e0 : (cstep g c i).u0 = c.u0 + (if (g.getD i z48).f2 = 0 then (g.getD i z48).f3 else 0) := by
   simp only [cstep, Cn.add]; split <;> (first | (rw [w64 (n := 1 * _) (by omega) (by omega), w64 (by omega) (by omega)]; omega) | omega)
  have e1 : (cstep g c i).u1 = c.u1 + (if (g.getD i z48).f2 = 1 then (g.getD i z48).f3 else 0) := by
   simp only [cstep, Cn.add]; split <;> (first | (rw [w64 (n := 1 * _) (by omega) (by omega), w64 (by omega) (by omega)]; omega) | omega)
  have e2 : (cstep g c i).u2 = c.u2 + (if (g.getD i z48).f2 = 2 then (g.getD i z48).f3 else 0) := by
   simp only [cstep, Cn.add]; split <;> (first | (rw [w64 (n := 1 * _) (by omega) (by omega), w64 (by omega) (by omega)]; omega) | omega)
  have b0' : (cstep g c i).u0 ≤ c.u0 + 4 ∧ c.u0 ≤ (cstep g c i).u0 := by rw [e0]; split <;> omega
  have b1' : (cstep g c i).u1 ≤ c.u1 + 4 ∧ c.u1 ≤ (cstep g c i).u1 := by rw [e1]; split <;> omega
  have b2' : (cstep g c i).u2 ≤ c.u2 + 4 ∧ c.u2 ≤ (cstep g c i).u2 := by rw [e2]; split <;> omega
  obtain ⟨r0, r1, r2⟩ := count_fold g r (cstep g c i) (fun j hj => h j (List.mem_cons_of_mem _ hj)) (by omega) (by omega) (by omega) (by omega) (by omega) (by omega) (by omega) (by omega) (by omega) (by omega)
  rw [r0, r1, r2, e0, e1, e2]
  simp only [usedN]
  omega
theorem countSet_used {g : List Tk} {s : Nat} (h : UOk g (elemsN s)) : (countSet g s).u0 = usedN g 0 (elemsN s) ∧ (countSet g s).u1 = usedN g 1 (elemsN s) ∧ (countSet g s).u2 = usedN g 2 (elemsN s) := by
 have hl := elemsN_length s
 obtain ⟨r0, r1, r2⟩ := count_fold g (elemsN s) Cn.zero h (by omega) (by decide) (by decide) (by decide) (by decide) (by decide) (by decide) (by simp [Cn.zero]; omega) (by simp [Cn.zero]; omega) (by simp [Cn.zero]; omega)
 unfold countSet
 rw [r0, r1, r2]
 simp [Cn.zero]
theorem ev_used {g : List Tk} (p : Int) (L0 : List Nat) (hb : L0.length ≤ 100) (hL : ∀ i ∈ L0, i < g.length) (hu : UOk g L0) : Ev (fun k => spec_used.f k g (up L0) p) (usedN g p L0) := by
 have key : ∀ (r pre : List Nat) (acc : Int), L0 = pre ++ r → 0 ≤ acc → acc + 4 * r.length ≤ 1000 → Ev (fun k => spec_used.l0 k g (up L0) p acc (pre.length : Int)) (acc + usedN g p r) := by
  intro r
  induction r with
  | nil =>
   intro pre acc hp h0 h1
   rw [List.append_nil] at hp
   subst hp
   refine Ev.succ ?_
   simp only [spec_used.l0, up_length]
   refine Ev.neg (by omega) ((Ev.const _).conv ?_)
   simp [usedN]
  | cons i r ih =>
   intro pre acc hp h0 h1
   have hi : i < g.length := hL i (by rw [hp]; simp)
   have hui := hu i (by rw [hp]; simp)
   have hlen : L0.length = pre.length + (r.length + 1) := by rw [hp]; simp
   have hrd : rd (up L0) (pre.length : Int) = (i : Int) := by
    rw [rd_up', hp]; simp
   simp only [List.length_cons] at h1
   refine Ev.succ ?_
   simp only [spec_used.l0, up_length, hrd, rdT_nat]
   rw [w64 (n := (pre.length : Int) + 1) (by omega) (by omega)]
   refine Ev.pos (by omega) (Ev.pos (by omega) (Ev.pos (by omega) (Ev.pos (by omega) ?_)))
   by_cases h : (g.getD i z48).f2 = p
   ·refine Ev.pos h ?_
    have := ih (pre ++ [i]) (acc + (g.getD i z48).f3) (by rw [hp]; simp) (by omega) (by omega)
    rw [w64 (by omega) (by omega)]
    have e : ((pre ++ [i]).length : Int) = (pre.length : Int) + 1 := by simp
    rw [e] at this
    refine this.conv ?_
    simp only [usedN, if_pos h]
    omega
   ·refine Ev.neg h ?_
    have := ih (pre ++ [i]) acc (by rw [hp]; simp) (by omega) (by omega)
    have e : ((pre ++ [i]).length : Int) = (pre.length : Int) + 1 := by simp
    rw [e] at this
    refine this.conv ?_
    simp only [usedN, if_neg h]
    omega
 exact (key L0 [] 0 rfl (by omega) (by omega)).conv (by omega)
theorem ev_validRoom {L : List Int} (hL : L.length < big) : Ev (fun k => spec_validRoom.f k L) (decide (roomOk L)) := by
 unfold spec_validRoom.f
 by_cases h : L.length = 3
 ·refine Ev.pos (by omega) (Ev.bind (ev_allIn hL 4 8) ((Ev.const _).conv ?_))
  rw [decide_eq_decide]
  exact ⟨fun x => ⟨h, x⟩, fun x => x.2⟩
 ·refine Ev.neg (by omega) ((Ev.const _).conv ?_)
  rw [eq_comm, decide_eq_false_iff_not]
  exact fun x => h x.1
theorem graphD_uok {g : List Tk} {G : GD} (h : graphD g = some G) (s : Nat) (hs : s < 2 ^ g.length) : UOk g (elemsN s) ∧ ∀ i ∈ elemsN s, i < g.length := by
 have hlt : ∀ i ∈ elemsN s, i < g.length := fun i hi => elemsN_lt hs hi
 exact ⟨fun i hi => (graphD_taskOk h _ (getD_mem (hlt i hi))).2.2, hlt⟩
end Go.Proofs.YtpibdjkajgfgjaaDoor.Core
end
section
set_option linter.unusedVariables false
set_option linter.unusedSimpArgs false
namespace Go.Proofs.YtpibdjkajgfgjaaDoor.Core
open Go Go.RowKit Go.Proofs.YtpibdjkajgfgjaaDoorW.PrintWords Go.Proofs.YtpibdjkajgfgjaaDoorW.PrintMore Go.Proofs.YtpibdjkajgfgjaaDoor.P
theorem ev_vr_no (g : List Tk) (room l : List Int) : Ev (fun k => spec_validRunning.j0 k g room l true) false := by
 refine Ev.succ ?_
 simp only [spec_validRunning.j0, if_true]
 exact Ev.const _
theorem ev_vr_loop {g : List Tk} {room : List Int} (h3 : room.length = 3) {L : List Nat} (hb : L.length ≤ 100) (hL : ∀ i ∈ L, i < g.length) (hu : UOk g L) :
  Ev (fun k => spec_validRunning.l0 k g room (up L) 0) (decide (usedN g 0 L ≤ rd room 0) && decide (usedN g 1 L ≤ rd room 1) && decide (usedN g 2 L ≤ rd room 2)) := by
 refine Ev.succ ?_
 simp only [spec_validRunning.l0]
 refine Ev.pos (by omega) (Ev.bind (ev_used 0 L hb hL hu) (Ev.pos (by omega) (Ev.pos (by omega) ?_)))
 by_cases h0 : usedN g 0 L ≤ rd room 0
 rotate_left
 ·exact Ev.pos (by omega) ((Ev.const _).conv (by rw [decide_eq_false h0]; rfl))
 refine Ev.neg (by omega) (Ev.succ ?_)
 simp only [spec_validRunning.l0, show wrap64 (0 + 1) = 1 from by unfold wrap64; omega]
 refine Ev.pos (by omega) (Ev.bind (ev_used 1 L hb hL hu) (Ev.pos (by omega) (Ev.pos (by omega) ?_)))
 by_cases h1 : usedN g 1 L ≤ rd room 1
 rotate_left
 ·exact Ev.pos (by omega) ((Ev.const _).conv (by rw [decide_eq_false h1, decide_eq_true h0]; rfl))
 refine Ev.neg (by omega) (Ev.succ ?_)
 simp only [spec_validRunning.l0, show wrap64 (1 + 1) = 2 from by unfold wrap64; omega]
 refine Ev.pos (by omega) (Ev.bind (ev_used 2 L hb hL hu) (Ev.pos (by omega) (Ev.pos (by omega) ?_)))
 by_cases h2 : usedN g 2 L ≤ rd room 2
 rotate_left
 ·exact Ev.pos (by omega) ((Ev.const _).conv (by rw [decide_eq_false h2, decide_eq_true h0, decide_eq_true h1]; rfl))
 refine Ev.neg (by omega) (Ev.succ ?_)
 simp only [spec_validRunning.l0, show wrap64 (2 + 1) = 3 from by unfold wrap64; omega]
 exact Ev.neg (by omega) ((Ev.const _).conv (by rw [decide_eq_true h2, decide_eq_true h0, decide_eq_true h1]; rfl))
theorem ev_validRunning {g : List Tk} (hg : Fits g) {room l : List Int} (hr : room.length < big) (hl : l.length < big) : Ev (fun k => spec_validRunning.f k g room l) (runsD g room l) := by
 unfold spec_validRunning.f runsD
 refine Ev.bind (ev_validGraph hg) ?_
 cases hG : graphD g with
 | none => exact Ev.neg (by simp) (ev_vr_no g room l)
 | some G =>
  refine Ev.pos rfl (Ev.bind (ev_validRoom hr) ?_)
  by_cases hroom : roomOk room
  rotate_left
  ·exact Ev.neg (by simp [hroom]) ((ev_vr_no g room l).conv (by simp [hroom]))
  refine Ev.pos (by simp [hroom]) (Ev.bind (ev_ascends hl) ?_)
  have hbig := hg.1
  rw [w64 (n := (g.length : Int) - 1) (by omega) (by unfold big at hbig; omega)]
  have h8 : g.length ≤ 8 := by have := (graphD_ok hG).n8; rw [graphD_tasks hG] at this; exact this
  have hall := ev_allIn hl 0 ((g.length : Int) - 1)
  simp only [hroom, if_true]
  rcases set_cases g.length l with ⟨s, hs, hok⟩ | ⟨hs, hok⟩
  ·rw [hs]
   refine Ev.pos hok.2 (Ev.bind hall ?_)
   rw [decide_eq_true hok.1]
   refine Ev.succ ?_
   simp only [spec_validRunning.j0, Bool.not_true, Bool.false_eq_true, if_false]
   have hlt := setD_lt hs
   obtain ⟨hu, hL⟩ := graphD_uok hG s hlt
   have he := set_list h8 hs
   have := ev_vr_loop (g := g) hroom.1 (L := elemsN s) (by have := elemsN_length s; omega) hL hu
   rw [he] at this
   refine this.conv ?_
   obtain ⟨e0, e1, e2⟩ := countSet_used hu
   simp only [fitsD, e0, e1, e2]
  ·rw [hs]
   by_cases ha : ascD l = true
   ·refine Ev.pos ha (Ev.bind hall ?_)
    rw [decide_eq_false (fun h => hok ⟨h, ha⟩)]
    exact ev_vr_no g room l
   ·exact Ev.neg ha (ev_vr_no g room l)
end Go.Proofs.YtpibdjkajgfgjaaDoor.Core
end
section
set_option linter.unusedVariables false
set_option linter.unusedSimpArgs false
namespace Go.Proofs.YtpibdjkajgfgjaaDoor.Core
open Go Go.RowKit Go.Proofs.YtpibdjkajgfgjaaDoorW.PrintWords Go.Proofs.YtpibdjkajgfgjaaDoorW.PrintMore Go.Proofs.YtpibdjkajgfgjaaDoor.P
theorem usedN_snoc (g : List Tk) (p : Int) (i : Nat) : ∀ L : List Nat, usedN g p (L ++ [i]) = usedN g p L + (if (g.getD i z48).f2 = p then (g.getD i z48).f3 else 0)
 | [] => by simp [usedN]
 | j :: L => by
  rw [List.cons_append, usedN, usedN_snoc g p i L, usedN]
  omega
/-- A counter that tells what runs. -/
structure Good (g : List Tk) (c : Cn) (now : List Nat) : Prop where
 t : c.t = (now.length : Int)
 u0 : c.u0 = usedN g 0 now
 u1 : c.u1 = usedN g 1 now
 u2 : c.u2 = usedN g 2 now
theorem Good.u {g : List Tk} {c : Cn} {now : List Nat} (h : Good g c now) {p : Int} (hp : 0 ≤ p ∧ p ≤ 2) : c.u p = usedN g p now := by
 unfold Cn.u
 by_cases h0 : p = 0
 ·subst h0; exact h.u0
 ·by_cases h1 : p = 1
  ·subst h1; exact h.u1
  ·obtain rfl : p = 2 := by omega
   exact h.u2
theorem Good.add {g : List Tk} {c : Cn} {now : List Nat} {i : Nat} (h : Good g c now) (hu : UOk g now) (hi : 1 ≤ (g.getD i z48).f3 ∧ (g.getD i z48).f3 ≤ 4) (hl : now.length ≤ 100) : Good g (c.add (g.getD i z48).f2 (g.getD i z48).f3 1) (now ++ [i]) := by
 have b0 := usedN_bd (p := 0) hu
 have b1 := usedN_bd (p := 1) hu
 have b2 := usedN_bd (p := 2) hu
 have h0 := h.u0
 have h1 := h.u1
 have h2 := h.u2
 refine ⟨?_, ?_, ?_, ?_⟩
 ·simp only [Cn.add]
  rw [h.t, w64 (by omega) (by omega), List.length_append, List.length_singleton]
  omega
 ·rw [usedN_snoc]; simp only [Cn.add]; split <;> (first | (rw [w64 (n := 1 * _) (by omega) (by omega), w64 (by omega) (by omega)]; omega) | omega)
 ·rw [usedN_snoc]; simp only [Cn.add]; split <;> (first | (rw [w64 (n := 1 * _) (by omega) (by omega), w64 (by omega) (by omega)]; omega) | omega)
 ·rw [usedN_snoc]; simp only [Cn.add]; split <;> (first | (rw [w64 (n := 1 * _) (by omega) (by omega), w64 (by omega) (by omega)]; omega) | omega)
theorem count_t (g : List Tk) : ∀ (L : List Nat) (c : Cn), 0 ≤ c.t → c.t + L.length ≤ 1000 → (L.foldl (cstep g) c).t = c.t + L.length
 | [], c, _, _ => by simp
 | i :: r, c, h0, h1 => by
  simp only [List.length_cons] at h1
  have e : (cstep g c i).t = c.t + 1 := by simp only [cstep, Cn.add]; rw [w64 (by omega) (by omega)]
  rw [List.foldl_cons, count_t g r (cstep g c i) (by omega) (by omega), e, List.length_cons]
  omega
theorem good_set {g : List Tk} {s : Nat} (h : UOk g (elemsN s)) : Good g (countSet g s) (elemsN s) := by
 obtain ⟨r0, r1, r2⟩ := countSet_used h
 have hl := elemsN_length s
 refine ⟨?_, r0, r1, r2⟩
 unfold countSet
 rw [count_t g _ _ (by decide) (by simp [Cn.zero]; omega)]
 simp [Cn.zero]
theorem admGo_full {g : List Tk} {room : List Int} {wk : Int} : ∀ (r : List Int) (c : Cn) (out : List Int), ¬ c.t < wk → admGo g room wk r c out = out
 | [], _, _, _ => rfl
 | x :: r, c, out, h => by
  have e : takesI g c x room wk = false := by unfold takesI takesB; rw [decide_eq_false h, Bool.false_and]
  unfold admGo
  rw [e]
  exact admGo_full r c out h
/-- What is known of a graph's tasks. -/
def PoolOk (g : List Tk) : Prop := ∀ i, i < g.length → (0 ≤ (g.getD i z48).f2 ∧ (g.getD i z48).f2 ≤ 2) ∧ 1 ≤ (g.getD i z48).f3 ∧ (g.getD i z48).f3 ≤ 4
theorem pool_ok {g : List Tk} {G : GD} (hG : graphD g = some G) : PoolOk g := fun i hi => by
 have hm := getD_mem (g := g) hi
 have hp := graphD_pool hG _ (by rw [graphD_tasks hG]; exact hm)
 have ht := graphD_taskOk hG _ hm
 refine ⟨hp, ?_⟩
 unfold taskOk at ht
 omega
theorem ev_adm {g : List Tk} {room l : List Int} {wk : Int} (hpo : PoolOk g) (h3 : room.length = 3) (hl : ∀ x ∈ l, 0 ≤ x ∧ x < (g.length : Int)) (hl8 : l.length ≤ 20) : ∀ (r pre out : List Int) (now : List Nat) (c : Cn), l = pre ++ r → Good g c now → (∀ i ∈ now, i < g.length) → now.length ≤ 8 + pre.length → out.length ≤ pre.length →
  Ev (fun k => spec_admit.l0 k g room l wk out (up now) (pre.length : Int)) (admGo g room wk r c out)
 | [], pre, out, now, c, hp, hg, hn, hb, ho => by
  rw [List.append_nil] at hp
  refine Ev.succ ?_
  simp only [spec_admit.l0]
  refine Ev.neg (by rw [hp]; omega) (Ev.succ ?_)
  simp only [spec_admit.j1]
  exact Ev.neg (by simp) (Ev.const _)
 | x :: r, pre, out, now, c, hp, hg, hn, hb, ho => by
  have hlen : l.length = pre.length + (r.length + 1) := by rw [hp]; simp
  have hrd : rd l (pre.length : Int) = x := by unfold rd; rw [Int.toNat_natCast, hp]; simp
  have hx := hl x (by rw [hp]; simp)
  obtain ⟨i, rfl⟩ := Int.eq_ofNat_of_zero_le hx.1
  have hi : i < g.length := by omega
  obtain ⟨hp2, hp3⟩ := hpo i hi
  have hu : UOk g now := fun j hj => (hpo j (hn j hj)).2
  have hw : wrap64 ((pre.length : Int) + 1) = ((pre ++ [(i : Int)]).length : Int) := by rw [w64s (by unfold big; omega)]; simp
  have hti : takesI g c (i : Int) room wk = takesB c (g.getD i z48).f2 (g.getD i z48).f3 room wk := rfl
  refine Ev.succ ?_
  simp only [spec_admit.l0]
  refine Ev.pos (by omega) ?_
  rw [up_length]
  by_cases hw4 : (now.length : Int) < wk
  ·rw [decide_eq_true hw4]
   have hcu := hg.u hp2
   have hus := ev_used (g := g) (g.getD i z48).f2 now (by omega) hn hu
   have hbd := usedN_bd (p := (g.getD i z48).f2) hu
   refine Ev.succ ?_
   simp only [spec_admit.j1, hrd, rdT_nat, hw]
   refine Ev.pos (by first | rfl | trivial) (Ev.pos (by omega) (Ev.pos (by omega) (Ev.pos (by omega) (Ev.pos (by omega) (Ev.bind hus (Ev.pos hp2.1 (Ev.pos (by omega) ?_)))))))
   by_cases hf : wrap64 (usedN g (g.getD i z48).f2 now + (g.getD i z48).f3) ≤ rd room (g.getD i z48).f2
   ·have e : takesI g c (i : Int) room wk = true := by rw [hti]; unfold takesB; rw [hcu, hg.t, decide_eq_true hw4, decide_eq_true hf]; rfl
    have ih := ev_adm (wk := wk) hpo h3 hl hl8 r (pre ++ [(i : Int)]) (out ++ [(i : Int)]) (now ++ [i]) (c.add (g.getD i z48).f2 (g.getD i z48).f3 1) (by rw [hp]; simp) (hg.add hu hp3 (by omega)) (fun j hj => by
     rcases List.mem_append.1 hj with hj | hj
     ·exact hn j hj
     ·rw [List.mem_singleton.1 hj]; exact hi) (by simp only [List.length_append, List.length_singleton]; omega) (by simp only [List.length_append, List.length_singleton]; omega)
    have e3 : up (now ++ [i]) = up now ++ [(i : Int)] := by simp [up]
    rw [e3] at ih
    have e4 : admGo g room wk ((i : Int) :: r) c out = admGo g room wk r (c.add (g.getD i z48).f2 (g.getD i z48).f3 1) (out ++ [(i : Int)]) := by
     show admGo g room wk r (afterI g c (i : Int) (takesI g c (i : Int) room wk)) (putIf out (i : Int) (takesI g c (i : Int) room wk)) = _
     rw [e]; rfl
    rw [e4]
    exact Ev.pos hf (Ev.pos (by omega) (Ev.pos (by rw [up_length]; omega) ih))
   ·have e : takesI g c (i : Int) room wk = false := by rw [hti]; unfold takesB; rw [hcu, hg.t, decide_eq_true hw4, decide_eq_false hf]; rfl
    have ih := ev_adm (wk := wk) hpo h3 hl hl8 r (pre ++ [(i : Int)]) out now c (by rw [hp]; simp) hg hn (by rw [List.length_append, List.length_singleton]; omega) (by rw [List.length_append, List.length_singleton]; omega)
    have e4 : admGo g room wk ((i : Int) :: r) c out = admGo g room wk r c out := by
     show admGo g room wk r (afterI g c (i : Int) (takesI g c (i : Int) room wk)) (putIf out (i : Int) (takesI g c (i : Int) room wk)) = _
     rw [e]; rfl
    rw [e4]
    exact Ev.neg hf ih
  ·rw [decide_eq_false hw4, admGo_full _ c out (by rw [hg.t]; exact hw4)]
   refine Ev.succ ?_
   simp only [spec_admit.j1]
   exact Ev.neg (by simp) (Ev.const _)
theorem ev_fresh {g : List Tk} {room l2 l : List Int} {wk : Int} (hl2 : l2.length < big) (hlb : l.length < big) (hl : ∀ x ∈ l, 0 ≤ x ∧ x ≤ (g.length : Int) - 1) {R : List Int} : ∀ (r pre : List Int) (s : Nat), l = pre ++ r → (∀ i : Nat, s.testBit i = decide ((i : Int) ∈ l2 ∨ (i : Int) ∈ pre)) → (freshOk g.length r s = true → Ev (fun k => spec_admit.f k g room l2 l wk) R) →
  Ev (fun k => spec_AdmitTasks.l0 k g room l2 l wk (pre.length : Int)) (if freshOk g.length r s = true then R else [])
 | [], pre, s, hp, hs, hR => by
  rw [List.append_nil] at hp
  refine Ev.succ ?_
  simp only [spec_AdmitTasks.l0]
  rw [if_pos (show freshOk g.length [] s = true from rfl)]
  exact Ev.neg (by rw [hp]; omega) (Ev.bind (hR rfl) (Ev.const _))
 | x :: r, pre, s, hp, hs, hR => by
  have hlen : l.length = pre.length + (r.length + 1) := by rw [hp]; simp
  have hrd : rd l (pre.length : Int) = x := by unfold rd; rw [Int.toNat_natCast, hp]; simp
  have hx := hl x (by rw [hp]; simp)
  have hw : wrap64 ((pre.length : Int) + 1) = ((pre ++ [x]).length : Int) := by rw [w64s (by omega)]; simp
  have htk : l.take ((pre.length : Int)).toNat = pre := by rw [Int.toNat_natCast, hp]; simp
  have h1 := ev_isIn (L := l2) hl2 x
  have h2 := ev_isIn (L := pre) (by omega) x
  obtain ⟨i, rfl⟩ := Int.eq_ofNat_of_zero_le hx.1
  have hbit := hs i
  have hf : freshOk g.length ((i : Int) :: r) s = if (0 ≤ (i : Int) ∧ (i : Int) ≤ (g.length : Int) - 1) ∧ s.testBit i = false then freshOk g.length r (s ||| 2 ^ i) else false := rfl
  have hff : s.testBit i = true → freshOk g.length ((i : Int) :: r) s = false := fun hb => by
   rw [hf]
   exact if_neg (fun h => by rw [hb] at h; cases h.2)
  refine Ev.succ ?_
  simp only [spec_AdmitTasks.l0, hrd, hw, htk]
  refine Ev.pos (by omega) (Ev.pos (by omega) (Ev.bind h1 ?_))
  by_cases hm : (i : Int) ∈ l2
  ·rw [hff (by rw [hbit]; exact decide_eq_true (.inl hm)), if_neg Bool.false_ne_true]
   exact Ev.pos (decide_eq_true hm) (Ev.const _)
  ·refine Ev.neg (by rw [decide_eq_true_eq]; exact hm) (Ev.pos (by omega) (Ev.bind h2 ?_))
   by_cases hm2 : (i : Int) ∈ pre
   ·rw [hff (by rw [hbit]; exact decide_eq_true (.inr hm2)), if_neg Bool.false_ne_true]
    exact Ev.pos (decide_eq_true hm2) (Ev.const _)
   ·have hb0 : s.testBit i = false := by rw [hbit]; exact decide_eq_false (fun h => h.elim hm hm2)
    have hf2 : freshOk g.length ((i : Int) :: r) s = freshOk g.length r (s ||| 2 ^ i) := by rw [hf, if_pos ⟨hx, hb0⟩]
    have ih := ev_fresh (wk := wk) (room := room) (R := R) hl2 hlb hl r (pre ++ [(i : Int)]) (s ||| 2 ^ i) (by rw [hp]; simp) (fun j => by
     rw [or_bit, hs j, Bool.eq_iff_iff, Bool.or_eq_true, decide_eq_true_eq, decide_eq_true_eq, decide_eq_true_eq, List.mem_append, List.mem_singleton, or_assoc]
     constructor
     ·rintro (h | h | h)
      ·exact .inl h
      ·exact .inr (.inl h)
      ·exact .inr (.inr (by omega))
     ·rintro (h | h | h)
      ·exact .inl h
      ·exact .inr (.inl h)
      ·exact .inr (.inr (by omega))) (fun h => hR (by rw [hf2]; exact h))
    rw [hf2]
    exact Ev.neg (by rw [decide_eq_true_eq]; exact hm2) ih
theorem ev_AdmitTasks' {g : List Tk} (hf : Fits g) {room running list : List Int} {wk : Int} (hr : room.length < big) (hu : running.length < big) (hl : list.length < big) : Ev (fun k => spec_AdmitTasks.f k g room running list wk) (admitD g room running list wk) := by
 have hno : Ev (fun k => spec_AdmitTasks.j0 k g room running list wk true) [] := by
  refine Ev.succ ?_
  simp only [spec_AdmitTasks.j0]
  exact Ev.pos (by first | rfl | trivial) (Ev.const _)
 unfold spec_AdmitTasks.f
 refine Ev.bind (ev_validRunning hf hr hu) ?_
 cases hrun : runsD g room running with
 | false =>
  have hcd : admitD g room running list wk = [] := by unfold admitD; rw [hrun, if_neg (fun h => by cases h.2)]
  rw [hcd]
  exact Ev.neg (by simp) hno
 | true =>
  refine Ev.pos (by first | rfl | trivial) ?_
  simp only [inRange_eq, Option.bind_some]
  by_cases hw : 1 ≤ wk ∧ wk ≤ 4
  ·obtain ⟨G, s, hG, hroom, hs, hfit⟩ := runsD_some hrun
   have v := vg_of hG
   have h8 := v.n8
   have hcd : admitD g room running list wk = if freshOk g.length list s = true then admGo g room wk list (countSet g s) [] else [] := by unfold admitD; rw [if_pos ⟨hw, hrun⟩, hs]
   rw [hcd]
   refine Ev.pos (decide_eq_true hw) ?_
   rw [w64 (n := (g.length : Int) - 1) (by omega) (by omega)]
   refine Ev.bind (ev_allIn hl 0 ((g.length : Int) - 1)) ?_
   by_cases ha : ∀ x ∈ list, 0 ≤ x ∧ x ≤ (g.length : Int) - 1
   ·rw [decide_eq_true ha]
    refine Ev.succ ?_
    simp only [spec_AdmitTasks.j0]
    have hsb := (setD_some hs).2
    have hrl : running = up (elemsN s) := (set_list h8 hs).symm
    obtain ⟨huo, hus⟩ := graphD_uok hG s (setD_lt hs)
    have hel := elemsN_length s
    refine Ev.neg (by simp) (ev_fresh hu hl ha list [] s rfl (fun i => by rw [hsb]; simp) (fun hfr => ?_))
    have hl8 := fresh_len list s hfr
    have hzb : zb g.length s ≤ 8 := Nat.le_trans (by rw [zb_count]; have := List.length_filter_le (fun i => !s.testBit i) (List.range g.length); rw [List.length_range] at this; exact this) h8
    unfold spec_admit.f
    rw [copyInts_eq hu (by rw [hrl, up_length]; omega)]
    simp only [Option.bind_some]
    rw [hrl]
    exact ev_adm (pool_ok hG) hroom.1 (fresh_mem list s hfr) (by omega) list [] [] (elemsN s) (countSet g s) rfl (good_set huo) hus (by simp; omega) (Nat.le_refl _)
   ·have hff : freshOk g.length list s ≠ true := fun h => ha fun x hx => by have := fresh_mem list s h x hx; omega
    rw [decide_eq_false ha, if_neg hff]
    exact hno
  ·have hcd : admitD g room running list wk = [] := by unfold admitD; rw [if_neg (fun h => hw h.1)]
   rw [hcd]
   exact Ev.neg (by rw [decide_eq_true_eq]; exact hw) hno
theorem admGo_len {g : List Tk} {room : List Int} {wk : Int} : ∀ (r : List Int) (c : Cn) (out : List Int), (admGo g room wk r c out).length ≤ out.length + r.length
 | [], _, _ => Nat.le_refl _
 | x :: r, c, out => by
  unfold admGo
  have ih := admGo_len (g := g) (room := room) (wk := wk) r (afterI g c x (takesI g c x room wk)) (putIf out x (takesI g c x room wk))
  have hp : (putIf out x (takesI g c x room wk)).length ≤ out.length + 1 := by
   cases takesI g c x room wk <;> simp [putIf]
  rw [List.length_cons]
  omega
theorem admitD_length (g : List Tk) (room running list : List Int) (wk : Int) : (admitD g room running list wk).length ≤ 8 := by
 unfold admitD
 split
 ·rename_i h
  obtain ⟨G, s, hG, hroom, hs, hfit⟩ := runsD_some h.2
  rw [hs]
  simp only []
  split
  ·rename_i hf
   have h1 := admGo_len (g := g) (room := room) (wk := wk) list (countSet g s) []
   have h2 := fresh_len list s hf
   have h8 := (vg_of hG).n8
   have hzb : zb g.length s ≤ 8 := Nat.le_trans (by rw [zb_count]; have := List.length_filter_le (fun i => !s.testBit i) (List.range g.length); rw [List.length_range] at this; exact this) h8
   simp only [List.length_nil] at h1
   omega
  ·simp
 ·simp
end Go.Proofs.YtpibdjkajgfgjaaDoor.Core
end
section
set_option linter.unusedVariables false
set_option linter.unusedSimpArgs false
namespace Go.Proofs.YtpibdjkajgfgjaaDoor.Core
open Go Go.RowKit Go.Proofs.YtpibdjkajgfgjaaDoorW.PrintWords Go.Proofs.YtpibdjkajgfgjaaDoorW.PrintMore Go.Proofs.YtpibdjkajgfgjaaDoor.P
theorem VG.sub_iff' {g : List Tk} {G : GD} (v : VG g G) {p i : Nat} (hp : p < 2 ^ g.length) : sub (G.needs.getD i 0) p = 0 ↔ ∀ j, (G.needs.getD i 0).testBit j = true → p.testBit j = true := by
 have h256 : 2 ^ g.length ≤ 256 := pow8 v.n8
 have := getD_lt v.nb i
 exact sub_zero (by omega) (by omega)
end Go.Proofs.YtpibdjkajgfgjaaDoor.Core
end
section
set_option linter.unusedVariables false
set_option linter.unusedSimpArgs false
namespace Go.Proofs.YtpibdjkajgfgjaaDoor.Core
open Go Go.RowKit Go.Proofs.YtpibdjkajgfgjaaDoorW.PrintWords Go.Proofs.YtpibdjkajgfgjaaDoorW.PrintMore Go.Proofs.YtpibdjkajgfgjaaDoor.P
theorem VG.list {g : List Tk} {G : GD} (v : VG g G) {i : Nat} (hi : i < g.length) : (g.getD i z48).f1 = up (elemsN (G.needs.getD i 0)) := by
 have hg : g.getD i z48 ∈ g := by
  rw [List.getD_eq_getElem?_getD, List.getElem?_eq_getElem hi]
  exact List.getElem_mem hi
 have hf := (v.fine.1 _ hg).2
 refine asc_ext hf.2 (asc_elems _) (fun x => ?_)
 show _ ↔ x ∈ elems _
 rw [mem_elems]
 constructor
 ·intro hx
  have hb := hf.1 x hx
  have h8 := v.n8
  refine ⟨x.toNat, by omega, by omega, ?_⟩
  rw [v.bits i hi, decide_eq_true_eq, show ((x.toNat : Nat) : Int) = x by omega]
  exact hx
 ·rintro ⟨k, rfl, _, hk⟩
  rw [v.bits i hi, decide_eq_true_eq] at hk
  exact hk
end Go.Proofs.YtpibdjkajgfgjaaDoor.Core
end
section
set_option linter.unusedVariables false
set_option linter.unusedSimpArgs false
namespace Go.Proofs.YtpibdjkajgfgjaaDoor.Core
open Go Go.RowKit Go.Shelf Go.Proofs.YtpibdjkajgfgjaaDoorW.PrintWords Go.Proofs.YtpibdjkajgfgjaaDoorW.PrintLast Go.Proofs.YtpibdjkajgfgjaaDoorW.PrintMore Go.Proofs.YtpibdjkajgfgjaaDoor.P
attribute [local go_sem] Oper.semAt_some wide_fn wide_depth
/-- All needs of the set's tasks are in it. -/
def closedD (N : List Nat) (s : Nat) : Bool := (elemsN s).all fun i => decide (sub (N.getD i 0) s = 0)
/-- The world behind the three results' boxes. -/
structure DW (w w0 : World) : Prop where
 eq : w0 = ((w.alloc (.cells #[.pointer none] 63)).alloc (.cells #[.int .u16 0] 67)).alloc (.cells #[.bool false] 4)
 r0 : Boxed w0 w.heap.size 63 (.pointer none)
 r1 : Boxed w0 (w.heap.size + 1) 67 (.int .u16 0)
 r2 : Boxed w0 (w.heap.size + 1 + 1) 4 (.bool false)
 below : Below w.heap.size w w0
 size : w0.heap.size = w.heap.size + 1 + 1 + 1
/-- Behind a call that leaves the elder blocks alone, and a further box. -/
theorem DW.on {w w0 w1 : World} (h : DW w w0) (hB : Below w0.heap.size w0 w1) : Boxed w1 w.heap.size 63 (.pointer none) ∧ Boxed w1 (w.heap.size + 1) 67 (.int .u16 0) ∧ Boxed w1 (w.heap.size + 1 + 1) 4 (.bool false) ∧ Below w.heap.size w w1 :=
 ⟨(hB.block _ h.r0.lt).trans h.r0, (hB.block _ h.r1.lt).trans h.r1, (hB.block _ h.r2.lt).trans h.r2, below_step h.below hB⟩
/-- The three results' boxes, and those of the graph and the set; what graphOf made stays. -/
structure DI (w w1 : World) (bx bs b s : Nat) (W : World) : Prop where
 r0 : Boxed W w.heap.size 63 (.pointer none)
 r1 : Boxed W (w.heap.size + 1) 67 (.int .u16 0)
 r2 : Boxed W (w.heap.size + 1 + 1) 4 (.bool false)
 x : Boxed W bx 63 (.pointer (some ⟨b, 0, none⟩))
 s : Boxed W bs 67 (.int .u16 (s : Int))
 below : Below w.heap.size w W
 keep : ∀ k, w.heap.size + 1 + 1 + 1 ≤ k → k < w1.heap.size → W.heap[k]? = w1.heap[k]?
 size : w1.heap.size ≤ W.heap.size
theorem DI.move {w w1 : World} {bx bs b s : Nat} {W W' : World} (h : DI w w1 bx bs b s W) (hb : Below W.heap.size W W') : DI w w1 bx bs b s W' :=
 ⟨(hb.block _ h.r0.lt).trans h.r0, (hb.block _ h.r1.lt).trans h.r1, (hb.block _ h.r2.lt).trans h.r2, (hb.block _ h.x.lt).trans h.x, (hb.block _ h.s.lt).trans h.s, below_step h.below hb,
  fun k h1 h2 => (hb.block k (Nat.lt_of_lt_of_le h2 h.size)).trans (h.keep k h1 h2), Nat.le_trans h.size hb.size⟩
theorem DI.tame {w w1 : World} {bx bs b s B : Nat} {W W' : World} (h : DI w w1 bx bs b s W) (hw : w.heap.size ≤ B) (hB : w1.heap.size ≤ B) (ht : Tame B W W') : DI w w1 bx bs b s W' :=
 ⟨ht.boxed h.r0, ht.boxed h.r1, ht.boxed h.r2, ht.boxed h.x, ht.boxed h.s, ht.below h.below (Nat.le_refl _) hw,
  fun k h1 h2 => (ht.block k (Nat.lt_of_lt_of_le h2 h.size) (.inl (Nat.lt_of_lt_of_le h2 hB))).trans (h.keep k h1 h2), Nat.le_trans h.size ht.size⟩
end Go.Proofs.YtpibdjkajgfgjaaDoor.Core
end
section
set_option linter.unusedVariables false
set_option linter.unusedSimpArgs false
namespace Go.Proofs.YtpibdjkajgfgjaaDoor.Core
open Go Go.RowKit Go.Proofs.YtpibdjkajgfgjaaDoorW.PrintWords Go.Proofs.YtpibdjkajgfgjaaDoorW.PrintMore Go.Proofs.YtpibdjkajgfgjaaDoor.P
theorem VG.list_bit {g : List Tk} {G : GD} (v : VG g G) {s : Nat} (hs : s < 2 ^ g.length) (i : Nat) : s.testBit i = true ↔ i ∈ elemsN s := by
 rw [mem_elemsN]
 refine ⟨fun h => ⟨?_, h⟩, fun h => h.2⟩
 have h1 := Nat.ge_two_pow_of_testBit h
 have h2 : 2 ^ i < 2 ^ g.length := Nat.lt_of_le_of_lt h1 hs
 have h3 := (Nat.pow_lt_pow_iff_right (by omega : 1 < 2)).1 h2
 have := v.n8
 omega
end Go.Proofs.YtpibdjkajgfgjaaDoor.Core
end
section
set_option linter.unusedVariables false
set_option linter.unusedSimpArgs false
namespace Go.Proofs.YtpibdjkajgfgjaaDoor.Core
open Go Go.RowKit Go.Shelf Go.Proofs.YtpibdjkajgfgjaaDoorW.PrintWords Go.Proofs.YtpibdjkajgfgjaaDoorW.PrintLast Go.Proofs.YtpibdjkajgfgjaaDoorW.PrintMore Go.Proofs.YtpibdjkajgfgjaaDoor.P
attribute [local go_sem] Oper.semAt_some wide_fn wide_depth
/-- The answer that some number of rounds gives. -/
noncomputable def lim {α : Type} (f : Nat → Option α) : Option α := open Classical in if h : ∃ k r, f k = some r then some h.choose_spec.choose else none
theorem lim_some {α : Type} {f : Nat → Option α} {r : α} (h : lim f = some r) : ∃ k, f k = some r := by
 unfold lim at h
 by_cases hh : ∃ k r, f k = some r
 ·rw [dif_pos hh] at h
  cases h
  exact ⟨_, hh.choose_spec.choose_spec⟩
 ·rw [dif_neg hh] at h; cases h
theorem lim_of {α : Type} {f : Nat → Option α} (hm : ∀ k, LeO (f k) (f (k + 1))) {k : Nat} {r : α} (h : f k = some r) : lim f = some r := by
 have hh : ∃ k r, f k = some r := ⟨k, r, h⟩
 have h2 := hh.choose_spec.choose_spec
 unfold lim
 rw [dif_pos hh]
 rcases Nat.le_total k hh.choose with hle | hle
 ·have := at_rounds hm hle h
  rw [h2] at this; exact this
 ·have := at_rounds hm hle h2
  rw [h] at this; exact this.symm
theorem mkQ (w : World) (base : Nat) (ok : Nat → Prop) (x : Tk) {v1 : Value} (g1 : (Kd.int .i64).Q 3 w base ok v1 x.f1) : k48.M w base ok x [.int .i64 x.f0, v1, .int .i64 x.f2, .int .i64 x.f3] :=
 ⟨[.int .i64 x.f0], [v1, .int .i64 x.f2, .int .i64 x.f3], rfl, rfl, ⟨[v1], [.int .i64 x.f2, .int .i64 x.f3], rfl, ⟨v1, rfl, g1⟩, ⟨[.int .i64 x.f2], [.int .i64 x.f3], rfl, rfl, rfl⟩⟩⟩
theorem S_put0 {W : World} {base gb n cap : Nat} {ok : Nat → Prop} {xs : List Tk} (h : Kd.S k48 48 W base ok (.slice (some ⟨gb, 0, none⟩) n cap) xs) (i : Int) (h0 : 0 ≤ i) (h1 : i < n) :
  (∃ u, W.cell? ⟨gb, i.toNat * 4, none⟩ = some (.int .i64 u)) ∧ W.frozen? ⟨gb, i.toNat * 4, none⟩ = false ∧ ∀ t : Int,
   Kd.S k48 48 (W.setCell ⟨gb, i.toNat * 4, none⟩ (.int .i64 t)) base ok (.slice (some ⟨gb, 0, none⟩) n cap) (xs.set i.toNat { rd_T48 xs i with f0 := t }) ∧ W.grownBy (W.setCell ⟨gb, i.toNat * 4, none⟩ (.int .i64 t)) (some gb) := by
 obtain ⟨oki, c, hcl, hM, hcc, hfr, hoki, hH⟩ := Kd.S_elem (Kd.S_mono (ok' := fun k => ok k ∧ ¬ False) h (fun k hk => ⟨hk, id⟩)) z48 i h0 h1
 obtain ⟨v1, rfl, g1⟩ := k48_openM hM
 refine ⟨⟨_, hcc 0 _ rfl⟩, hfr 0, fun t => ?_⟩
 exact Kd.S_seg (okg := fun _ => False) hH h0 h1 (seg := [.int .i64 t]) (j := 0) (show 0 + 1 ≤ 4 from by decide) (x' := { rd_T48 xs i with f0 := t }) (mkQ _ _ _ { rd_T48 xs i with f0 := t } g1) (fun k hk => .inl hk) (fun k hk => hk.elim)
theorem S_put2 {W : World} {base gb n cap : Nat} {ok : Nat → Prop} {xs : List Tk} (h : Kd.S k48 48 W base ok (.slice (some ⟨gb, 0, none⟩) n cap) xs) (i : Int) (h0 : 0 ≤ i) (h1 : i < n) :
  (∃ u, W.cell? ⟨gb, i.toNat * 4 + 2, none⟩ = some (.int .i64 u)) ∧ W.frozen? ⟨gb, i.toNat * 4 + 2, none⟩ = false ∧ ∀ t : Int,
   Kd.S k48 48 (W.setCell ⟨gb, i.toNat * 4 + 2, none⟩ (.int .i64 t)) base ok (.slice (some ⟨gb, 0, none⟩) n cap) (xs.set i.toNat { rd_T48 xs i with f2 := t }) ∧ W.grownBy (W.setCell ⟨gb, i.toNat * 4 + 2, none⟩ (.int .i64 t)) (some gb) := by
 obtain ⟨oki, c, hcl, hM, hcc, hfr, hoki, hH⟩ := Kd.S_elem (Kd.S_mono (ok' := fun k => ok k ∧ ¬ False) h (fun k hk => ⟨hk, id⟩)) z48 i h0 h1
 obtain ⟨v1, rfl, g1⟩ := k48_openM hM
 refine ⟨⟨_, hcc 2 _ rfl⟩, hfr 2, fun t => ?_⟩
 exact Kd.S_seg (okg := fun _ => False) hH h0 h1 (seg := [.int .i64 t]) (j := 2) (show 2 + 1 ≤ 4 from by decide) (x' := { rd_T48 xs i with f2 := t }) (mkQ _ _ _ { rd_T48 xs i with f2 := t } g1) (fun k hk => .inl hk) (fun k hk => hk.elim)
theorem S_put3 {W : World} {base gb n cap : Nat} {ok : Nat → Prop} {xs : List Tk} (h : Kd.S k48 48 W base ok (.slice (some ⟨gb, 0, none⟩) n cap) xs) (i : Int) (h0 : 0 ≤ i) (h1 : i < n) :
  (∃ u, W.cell? ⟨gb, i.toNat * 4 + 3, none⟩ = some (.int .i64 u)) ∧ W.frozen? ⟨gb, i.toNat * 4 + 3, none⟩ = false ∧ ∀ t : Int,
   Kd.S k48 48 (W.setCell ⟨gb, i.toNat * 4 + 3, none⟩ (.int .i64 t)) base ok (.slice (some ⟨gb, 0, none⟩) n cap) (xs.set i.toNat { rd_T48 xs i with f3 := t }) ∧ W.grownBy (W.setCell ⟨gb, i.toNat * 4 + 3, none⟩ (.int .i64 t)) (some gb) := by
 obtain ⟨oki, c, hcl, hM, hcc, hfr, hoki, hH⟩ := Kd.S_elem (Kd.S_mono (ok' := fun k => ok k ∧ ¬ False) h (fun k hk => ⟨hk, id⟩)) z48 i h0 h1
 obtain ⟨v1, rfl, g1⟩ := k48_openM hM
 refine ⟨⟨_, hcc 3 _ rfl⟩, hfr 3, fun t => ?_⟩
 exact Kd.S_seg (okg := fun _ => False) hH h0 h1 (seg := [.int .i64 t]) (j := 3) (show 3 + 1 ≤ 4 from by decide) (x' := { rd_T48 xs i with f3 := t }) (mkQ _ _ _ { rd_T48 xs i with f3 := t } g1) (fun k hk => .inl hk) (fun k hk => hk.elim)
def spec_anyGraph.fk (k : Nat) (s0 : List Int) (s1 : Int) : Option (List Tk × Int) :=
 (spec_someGraph.f k s0 s1 8).bind fun a =>
 if a.1.length = 0 then some (a.1, a.2) else
 (spec_reader_pick.f k s0 a.2 (a.1.length : Int)).bind fun p =>
 (spec_reader_pick.f k s0 p.2 24).bind fun q =>
 if ¬ (0 ≤ p.1 ∧ p.1 < (a.1.length : Int)) then none else
 if q.1 = 0 then (spec_reader_one.f k s0 q.2 [0, 21, 20]).bind fun t => some (a.1.set p.1.toNat { rd_T48 a.1 p.1 with f0 := t.1 }, t.2)
 else if q.1 = 1 then (spec_reader_pick.f k s0 q.2 (a.1.length : Int)).bind fun b =>
  if (rd_T48 a.1 p.1).f1.length < 1000 then (spec_reader_spoil.f k s0 b.2 ((rd_T48 a.1 p.1).f1 ++ [b.1]) 8).bind fun c => some (a.1.set p.1.toNat { rd_T48 a.1 p.1 with f1 := c.1 }, c.2) else none
 else if q.1 = 2 then (spec_reader_one.f k s0 q.2 [-1, 3]).bind fun t => some (a.1.set p.1.toNat { rd_T48 a.1 p.1 with f2 := t.1 }, t.2)
 else if q.1 = 3 then (spec_reader_one.f k s0 q.2 [0, 5]).bind fun t => some (a.1.set p.1.toNat { rd_T48 a.1 p.1 with f3 := t.1 }, t.2)
 else if q.1 = 4 then (spec_someGraph.f k s0 q.2 8).bind fun b => if a.1.length + b.1.length < 1000 then some (a.1 ++ b.1, b.2) else none
 else some (a.1, q.2)
theorem spec_anyGraph.mono : ∀ a0 a1 k, LeO (spec_anyGraph.fk k a0 a1) (spec_anyGraph.fk (k + 1) a0 a1) := by
 intro a0 a1 k
 unfold spec_anyGraph.fk
 repeat' first
   | (with_reducible exact spec_someGraph.mono _ _ _ _)
   | (with_reducible exact spec_reader_pick.mono _ _ _ _)
   | (with_reducible exact spec_reader_one.mono _ _ _ _)
   | (with_reducible exact spec_reader_spoil.mono _ _ _ _ _)
   | (with_reducible exact LeO.refl _)
   | (with_reducible exact LeO.none _)
   | (with_reducible refine LeO.ite ?_ ?_)
   | (with_reducible refine LeO.bind ?_ (fun _ => ?_))
   | exact LeO.none _
   | refine LeO.ite ?_ ?_
   | refine LeO.bind ?_ (fun _ => ?_)
/-- What anyGraph leaves. -/
def anyPost (w0 w : World) (g : Nat) (s0 : List Int) (r1 : List Tk) (r2 : Int) (e : Ending) (w' : World) : Prop :=
 ∃ v0_ : Value, e = .returned (v0_) ∧ Kd.S k48 48 w' w.heap.size (fun _ => True) v0_ r1 ∧ IsS116 w0 w' g s0 r2 ∧ Below w0.heap.size w0 w' ∧ KeepBut w w' g none
theorem R_lits {w : World} {b base t : Nat} {l : List Int} (h : w.heap[b]? = some (.cells (l.map (Value.int .i64)).toArray t (0, 0))) (hb : base ≤ b) (hl : l.length ≤ maxLen) : (Kd.int .i64).R t w base (fun _ => True) (.slice (some ⟨b, 0, none⟩) l.length l.length) l :=
 row_R (k := .i64) ⟨by simp, .inr ⟨b, l.length, _, rfl, hb, h, Nat.le_refl _, hl, by simp, by simp [List.take_of_length_le]⟩⟩
theorem C_lits {w : World} {b t : Nat} {l : List Int} (h : w.heap[b]? = some (.cells (l.map (Value.int .i64)).toArray t (0, 0))) (hl : l.length ≤ maxLen) : (Kd.int .i64).C w (some ⟨b, 0, none⟩) l.length l :=
 (Kd.R_reads' (R_lits (base := 0) h (Nat.zero_le _) hl)).2.2
set_option maxRecDepth 100000 in
set_option maxHeartbeats 4000000 in
theorem any_empty (k g : Nat) (s0 : List Int) (s1 : Int) (w0 w : World) (hI : IsS116 w0 w g s0 s1) (hB : Below w0.heap.size w0 w) (a2 : Int) (h1 : spec_someGraph.f k s0 s1 8 = some ([], a2)) : Calls Tryd.prog 81 #[.pointer (some ⟨g, 0, none⟩)] w (anyPost w0 w g s0  [] a2) := by
 have A1 := Aside0.mk h1
 clear h1
 obtain ⟨a, ha⟩ : ∃ a : List Tk, a = [] := ⟨_, rfl⟩
 rw [← ha] at A1
 have hlen : (a.length : Int) = 0 := by rw [ha]; rfl
 have HA := Aside0.mk ha
 clear ha
 have hz : ((a.length : Int) == 0) = true := by simp [hlen]
 have HL := Aside0.mk hlen
 clear hlen
 go_enter Tryd.func81, Tryd.ntmps81
 go_wp2_with (go_at_call 114; refine (spec_someGraph.calls k g s0 s1 8 a a2 w0 _ hI hB A1.out).mono ?_; rintro e w1 ⟨v1, rfl, hS1, hI1, hB1, hK1⟩; clear hI hB; obtain ⟨A, c, rfl⟩ := Kd.S_slice hS1)
 go_ret
 exact ⟨_, rfl, by rw [← HA.out]; exact hS1, hI1, hB1, hK1⟩
set_option maxRecDepth 100000 in
set_option maxHeartbeats 4000000 in
theorem any_same (k g : Nat) (s0 : List Int) (s1 : Int) (w0 w : World) (hI : IsS116 w0 w g s0 s1) (hB : Below w0.heap.size w0 w) (a : List Tk) (a2 p p2 q q2 : Int) (hpos : 0 < a.length) (hp0 : 0 ≤ p) (hp1 : p < (a.length : Int)) (h1 : spec_someGraph.f k s0 s1 8 = some (a, a2)) (h2 : spec_reader_pick.f k s0 a2 (a.length : Int) = some (p, p2)) (h3 : spec_reader_pick.f k s0 p2 24 = some (q, q2)) (hq : q ≠ 0 ∧ q ≠ 1 ∧ q ≠ 2 ∧ q ≠ 3 ∧ q ≠ 4) : Calls Tryd.prog 81 #[.pointer (some ⟨g, 0, none⟩)] w (anyPost w0 w g s0  a q2) := by
 have A1 := Aside0.mk h1
 have A2 := Aside0.mk h2
 have A3 := Aside0.mk h3
 clear h1 h2 h3
 have hz : ((a.length : Int) == 0) = false := beq_eq_false_iff_ne.2 (by omega)
 have hglt : g < w.heap.size := hI.lt
 have hq0 : (q == 0) = false := beq_eq_false_iff_ne.2 (by omega)
 have hq1 : (q == 1) = false := beq_eq_false_iff_ne.2 (by omega)
 have hq2 : (q == 2) = false := beq_eq_false_iff_ne.2 (by omega)
 have hq3 : (q == 3) = false := beq_eq_false_iff_ne.2 (by omega)
 have hq4 : (q == 4) = false := beq_eq_false_iff_ne.2 (by omega)
 go_enter Tryd.func81, Tryd.ntmps81
 go_wp2_with (first | (go_at_call 114; refine (spec_someGraph.calls k g s0 s1 8 a a2 w0 _ hI hB A1.out).mono ?_; rintro e w1 ⟨v1, rfl, hS1, hI1, hB1, hK1⟩; clear hI hB; obtain ⟨gb, cap, rfl, hgb, hgl, cells, hcells⟩ := Kd.S_form hS1 hpos) | (go_at_call 89; refine (spec_reader_pick.calls k g s0 a2 (a.length : Int) p p2 w0 _ hI1 hB1 A2.out).mono ?_; rintro e w2 ⟨rfl, hI2, hB2, hK2⟩; clear hI1 hB1) | (go_at_call 89; refine (spec_reader_pick.calls k g s0 p2 24 q q2 w0 _ hI2 hB2 A3.out).mono ?_; rintro e w3 ⟨rfl, hI3, hB3, hK3⟩; clear hI2 hB2))
 have hS3 : Kd.S k48 48 w3 w.heap.size (fun k => k ≠ g) (.slice (some ⟨gb, 0, none⟩) a.length cap) a := Kd.S_keep (Kd.S_keep (Kd.S_mono (Kd.S_bound hS1) (fun k hk => Nat.ne_of_gt (Nat.lt_of_lt_of_le hglt hk.2.1))) hK2 (fun k hk => hk)) hK3 (fun k hk => hk)
 have hK4 := (hK1.trans hK2 (.inl rfl)).trans hK3 (.inl rfl)
 clear hS1 hK1 hK2 hK3
 go_ret
 exact ⟨_, rfl, Kd.S_mono hS3 (fun _ _ => trivial), hI3, hB3, hK4⟩
set_option maxRecDepth 100000 in
set_option maxHeartbeats 4000000 in
theorem any_case0 (k g : Nat) (s0 : List Int) (s1 : Int) (w0 w : World) (hI : IsS116 w0 w g s0 s1) (hB : Below w0.heap.size w0 w) (a : List Tk) (a2 p p2 q q2 : Int) (hpos : 0 < a.length) (hp0 : 0 ≤ p) (hp1 : p < (a.length : Int)) (h1 : spec_someGraph.f k s0 s1 8 = some (a, a2)) (h2 : spec_reader_pick.f k s0 a2 (a.length : Int) = some (p, p2)) (h3 : spec_reader_pick.f k s0 p2 24 = some (q, q2)) (hq : q = 0) (t t2 : Int) (h4 : spec_reader_one.f k s0 q2 [0, 21, 20] = some (t, t2)) : Calls Tryd.prog 81 #[.pointer (some ⟨g, 0, none⟩)] w (anyPost w0 w g s0  (a.set p.toNat { rd_T48 a p with f0 := t }) t2) := by
 have A1 := Aside0.mk h1
 have A2 := Aside0.mk h2
 have A3 := Aside0.mk h3
 clear h1 h2 h3
 have hz : ((a.length : Int) == 0) = false := beq_eq_false_iff_ne.2 (by omega)
 have hglt : g < w.heap.size := hI.lt
 have A4 := Aside0.mk h4
 clear h4
 have hq0 : (q == 0) = true := by simp [hq]
 have hp0' := eq_true hp0
 have hp1' := eq_true hp1
 go_enter Tryd.func81, Tryd.ntmps81
 go_wp2_with (first | (go_at_call 114; refine (spec_someGraph.calls k g s0 s1 8 a a2 w0 _ hI hB A1.out).mono ?_; rintro e w1 ⟨v1, rfl, hS1, hI1, hB1, hK1⟩; clear hI hB; obtain ⟨gb, cap, rfl, hgb, hgl, cells, hcells⟩ := Kd.S_form hS1 hpos) | (go_at_call 89; refine (spec_reader_pick.calls k g s0 a2 (a.length : Int) p p2 w0 _ hI1 hB1 A2.out).mono ?_; rintro e w2 ⟨rfl, hI2, hB2, hK2⟩; clear hI1 hB1) | (go_at_call 89; refine (spec_reader_pick.calls k g s0 p2 24 q q2 w0 _ hI2 hB2 A3.out).mono ?_; rintro e w3 ⟨rfl, hI3, hB3, hK3⟩; clear hI2 hB2) | (go_at_call 92; have hS3 : Kd.S k48 48 w3 w.heap.size (fun k => k ≠ g) (.slice (some ⟨gb, 0, none⟩) a.length cap) a := Kd.S_keep (Kd.S_keep (Kd.S_mono (Kd.S_bound hS1) (fun k hk => Nat.ne_of_gt (Nat.lt_of_lt_of_le hglt hk.2.1))) hK2 (fun k hk => hk)) hK3 (fun k hk => hk); have hK4 := (hK1.trans hK2 (.inl rfl)).trans hK3 (.inl rfl); clear hS1 hK1 hK2 hK3; have hN4 := cells_new w3 (.cells #[.int .i64 0, .int .i64 21, .int .i64 20] 3); have hI4 := hI3.alloc (.cells #[.int .i64 0, .int .i64 21, .int .i64 20] 3); have hB4 := hB3.alloc hB3.size (.cells #[.int .i64 0, .int .i64 21, .int .i64 20] 3); have hS4 := Kd.S_alloc hS3 (.cells #[.int .i64 0, .int .i64 21, .int .i64 20] 3); have hK5 := keep_alloc hK4 (.cells #[.int .i64 0, .int .i64 21, .int .i64 20] 3); have hsz := hI3.lt; refine (spec_reader_one.calls k g s0 q2 _ _ [0, 21, 20] t t2 w0 _ hI4 hB4 (C_lits (l := [0, 21, 20]) hN4 (by decide)) (by decide) (fun ad e _ => by cases e; show w3.heap.size ≠ g; omega) A4.out).mono ?_; rintro e w5 ⟨rfl, hI5, hB5, hK6⟩; have hS5 := Kd.S_keep hS4 hK6 (fun k hk => hk); obtain ⟨⟨u, hcu⟩, hfu, hput⟩ := S_put0 hS5 p hp0 hp1; have hK7 := hK5.trans hK6 (.inl rfl); have HPUT := Aside0.mk hput; have hI6 := Aside0.mk hI5; clear hS4 hS3 hI3 hB3 hK4 hI4 hB4 hN4 hK5 hK6 hput hI5))
 go_ret
 obtain ⟨hS6, hg6⟩ := HPUT.out t
 exact ⟨_, rfl, Kd.S_mono hS6 (fun _ _ => trivial), hI6.out.grown hg6 (fun e => by injection e with e; omega), below_put hg6 hB5 (Nat.le_refl _) (by have := hI6.out.ge; omega), hK7.trans (KeepBut.of_grown hg6 g) (.inr ⟨gb, rfl, hgb⟩)⟩
set_option maxRecDepth 100000 in
set_option maxHeartbeats 4000000 in
theorem any_case2 (k g : Nat) (s0 : List Int) (s1 : Int) (w0 w : World) (hI : IsS116 w0 w g s0 s1) (hB : Below w0.heap.size w0 w) (a : List Tk) (a2 p p2 q q2 : Int) (hpos : 0 < a.length) (hp0 : 0 ≤ p) (hp1 : p < (a.length : Int)) (h1 : spec_someGraph.f k s0 s1 8 = some (a, a2)) (h2 : spec_reader_pick.f k s0 a2 (a.length : Int) = some (p, p2)) (h3 : spec_reader_pick.f k s0 p2 24 = some (q, q2)) (hq : q = 2) (t t2 : Int) (h4 : spec_reader_one.f k s0 q2 [-1, 3] = some (t, t2)) : Calls Tryd.prog 81 #[.pointer (some ⟨g, 0, none⟩)] w (anyPost w0 w g s0  (a.set p.toNat { rd_T48 a p with f2 := t }) t2) := by
 have A1 := Aside0.mk h1
 have A2 := Aside0.mk h2
 have A3 := Aside0.mk h3
 clear h1 h2 h3
 have hz : ((a.length : Int) == 0) = false := beq_eq_false_iff_ne.2 (by omega)
 have hglt : g < w.heap.size := hI.lt
 have A4 := Aside0.mk h4
 clear h4
 have hq0 : (q == 0) = false := beq_eq_false_iff_ne.2 (by omega)
 have hq1 : (q == 1) = false := beq_eq_false_iff_ne.2 (by omega)
 have hq2 : (q == 2) = true := by simp [hq]
 have hp0' := eq_true hp0
 have hp1' := eq_true hp1
 go_enter Tryd.func81, Tryd.ntmps81
 go_wp2_with (first | (go_at_call 114; refine (spec_someGraph.calls k g s0 s1 8 a a2 w0 _ hI hB A1.out).mono ?_; rintro e w1 ⟨v1, rfl, hS1, hI1, hB1, hK1⟩; clear hI hB; obtain ⟨gb, cap, rfl, hgb, hgl, cells, hcells⟩ := Kd.S_form hS1 hpos) | (go_at_call 89; refine (spec_reader_pick.calls k g s0 a2 (a.length : Int) p p2 w0 _ hI1 hB1 A2.out).mono ?_; rintro e w2 ⟨rfl, hI2, hB2, hK2⟩; clear hI1 hB1) | (go_at_call 89; refine (spec_reader_pick.calls k g s0 p2 24 q q2 w0 _ hI2 hB2 A3.out).mono ?_; rintro e w3 ⟨rfl, hI3, hB3, hK3⟩; clear hI2 hB2) | (go_at_call 92; have hS3 : Kd.S k48 48 w3 w.heap.size (fun k => k ≠ g) (.slice (some ⟨gb, 0, none⟩) a.length cap) a := Kd.S_keep (Kd.S_keep (Kd.S_mono (Kd.S_bound hS1) (fun k hk => Nat.ne_of_gt (Nat.lt_of_lt_of_le hglt hk.2.1))) hK2 (fun k hk => hk)) hK3 (fun k hk => hk); have hK4 := (hK1.trans hK2 (.inl rfl)).trans hK3 (.inl rfl); clear hS1 hK1 hK2 hK3; have hN4 := cells_new w3 (.cells #[.int .i64 (-1), .int .i64 3] 3); have hI4 := hI3.alloc (.cells #[.int .i64 (-1), .int .i64 3] 3); have hB4 := hB3.alloc hB3.size (.cells #[.int .i64 (-1), .int .i64 3] 3); have hS4 := Kd.S_alloc hS3 (.cells #[.int .i64 (-1), .int .i64 3] 3); have hK5 := keep_alloc hK4 (.cells #[.int .i64 (-1), .int .i64 3] 3); have hsz := hI3.lt; refine (spec_reader_one.calls k g s0 q2 _ _ [-1, 3] t t2 w0 _ hI4 hB4 (C_lits (l := [-1, 3]) hN4 (by decide)) (by decide) (fun ad e _ => by cases e; show w3.heap.size ≠ g; omega) A4.out).mono ?_; rintro e w5 ⟨rfl, hI5, hB5, hK6⟩; have hS5 := Kd.S_keep hS4 hK6 (fun k hk => hk); obtain ⟨⟨u, hcu⟩, hfu, hput⟩ := S_put2 hS5 p hp0 hp1; have hK7 := hK5.trans hK6 (.inl rfl); have HPUT := Aside0.mk hput; have hI6 := Aside0.mk hI5; clear hS4 hS3 hI3 hB3 hK4 hI4 hB4 hN4 hK5 hK6 hput hI5))
 go_ret
 obtain ⟨hS6, hg6⟩ := HPUT.out t
 exact ⟨_, rfl, Kd.S_mono hS6 (fun _ _ => trivial), hI6.out.grown hg6 (fun e => by injection e with e; omega), below_put hg6 hB5 (Nat.le_refl _) (by have := hI6.out.ge; omega), hK7.trans (KeepBut.of_grown hg6 g) (.inr ⟨gb, rfl, hgb⟩)⟩
set_option maxRecDepth 100000 in
set_option maxHeartbeats 4000000 in
theorem any_case3 (k g : Nat) (s0 : List Int) (s1 : Int) (w0 w : World) (hI : IsS116 w0 w g s0 s1) (hB : Below w0.heap.size w0 w) (a : List Tk) (a2 p p2 q q2 : Int) (hpos : 0 < a.length) (hp0 : 0 ≤ p) (hp1 : p < (a.length : Int)) (h1 : spec_someGraph.f k s0 s1 8 = some (a, a2)) (h2 : spec_reader_pick.f k s0 a2 (a.length : Int) = some (p, p2)) (h3 : spec_reader_pick.f k s0 p2 24 = some (q, q2)) (hq : q = 3) (t t2 : Int) (h4 : spec_reader_one.f k s0 q2 [0, 5] = some (t, t2)) : Calls Tryd.prog 81 #[.pointer (some ⟨g, 0, none⟩)] w (anyPost w0 w g s0  (a.set p.toNat { rd_T48 a p with f3 := t }) t2) := by
 have A1 := Aside0.mk h1
 have A2 := Aside0.mk h2
 have A3 := Aside0.mk h3
 clear h1 h2 h3
 have hz : ((a.length : Int) == 0) = false := beq_eq_false_iff_ne.2 (by omega)
 have hglt : g < w.heap.size := hI.lt
 have A4 := Aside0.mk h4
 clear h4
 have hq0 : (q == 0) = false := beq_eq_false_iff_ne.2 (by omega)
 have hq1 : (q == 1) = false := beq_eq_false_iff_ne.2 (by omega)
 have hq2 : (q == 2) = false := beq_eq_false_iff_ne.2 (by omega)
 have hq3 : (q == 3) = true := by simp [hq]
 have hp0' := eq_true hp0
 have hp1' := eq_true hp1
 go_enter Tryd.func81, Tryd.ntmps81
 go_wp2_with (first | (go_at_call 114; refine (spec_someGraph.calls k g s0 s1 8 a a2 w0 _ hI hB A1.out).mono ?_; rintro e w1 ⟨v1, rfl, hS1, hI1, hB1, hK1⟩; clear hI hB; obtain ⟨gb, cap, rfl, hgb, hgl, cells, hcells⟩ := Kd.S_form hS1 hpos) | (go_at_call 89; refine (spec_reader_pick.calls k g s0 a2 (a.length : Int) p p2 w0 _ hI1 hB1 A2.out).mono ?_; rintro e w2 ⟨rfl, hI2, hB2, hK2⟩; clear hI1 hB1) | (go_at_call 89; refine (spec_reader_pick.calls k g s0 p2 24 q q2 w0 _ hI2 hB2 A3.out).mono ?_; rintro e w3 ⟨rfl, hI3, hB3, hK3⟩; clear hI2 hB2) | (go_at_call 92; have hS3 : Kd.S k48 48 w3 w.heap.size (fun k => k ≠ g) (.slice (some ⟨gb, 0, none⟩) a.length cap) a := Kd.S_keep (Kd.S_keep (Kd.S_mono (Kd.S_bound hS1) (fun k hk => Nat.ne_of_gt (Nat.lt_of_lt_of_le hglt hk.2.1))) hK2 (fun k hk => hk)) hK3 (fun k hk => hk); have hK4 := (hK1.trans hK2 (.inl rfl)).trans hK3 (.inl rfl); clear hS1 hK1 hK2 hK3; have hN4 := cells_new w3 (.cells #[.int .i64 0, .int .i64 5] 3); have hI4 := hI3.alloc (.cells #[.int .i64 0, .int .i64 5] 3); have hB4 := hB3.alloc hB3.size (.cells #[.int .i64 0, .int .i64 5] 3); have hS4 := Kd.S_alloc hS3 (.cells #[.int .i64 0, .int .i64 5] 3); have hK5 := keep_alloc hK4 (.cells #[.int .i64 0, .int .i64 5] 3); have hsz := hI3.lt; refine (spec_reader_one.calls k g s0 q2 _ _ [0, 5] t t2 w0 _ hI4 hB4 (C_lits (l := [0, 5]) hN4 (by decide)) (by decide) (fun ad e _ => by cases e; show w3.heap.size ≠ g; omega) A4.out).mono ?_; rintro e w5 ⟨rfl, hI5, hB5, hK6⟩; have hS5 := Kd.S_keep hS4 hK6 (fun k hk => hk); obtain ⟨⟨u, hcu⟩, hfu, hput⟩ := S_put3 hS5 p hp0 hp1; have hK7 := hK5.trans hK6 (.inl rfl); have HPUT := Aside0.mk hput; have hI6 := Aside0.mk hI5; clear hS4 hS3 hI3 hB3 hK4 hI4 hB4 hN4 hK5 hK6 hput hI5))
 go_ret
 obtain ⟨hS6, hg6⟩ := HPUT.out t
 exact ⟨_, rfl, Kd.S_mono hS6 (fun _ _ => trivial), hI6.out.grown hg6 (fun e => by injection e with e; omega), below_put hg6 hB5 (Nat.le_refl _) (by have := hI6.out.ge; omega), hK7.trans (KeepBut.of_grown hg6 g) (.inr ⟨gb, rfl, hgb⟩)⟩
theorem infoTask : (Tryd.prog.info? 48).map (fun i => (i.zero, i.size, i.bytes)) = some (some (.agg #[.int .i64 0, .slice none 0 0, .int .i64 0, .int .i64 0]), 4, 48) := by kernel_rfl
theorem zip_app (xs ys : List Tk) : (xs ++ ys).zipIdx = xs.zipIdx ++ ys.zipIdx xs.length := by rw [List.zipIdx_append]; simp
/-- Two rows' elements behind each other: the owners of the second one's rows are told anew. -/
theorem S_two {W : World} {b1 N : Nat} {ok : Nat → Prop} {v v2 : Value} {xs ys : List Tk} (h1 : Kd.S k48 48 W b1 (fun k => ok k ∧ k < N) v xs) (h2 : Kd.S k48 48 W N (fun _ => True) v2 ys) (hb : b1 ≤ N) :
  ∃ f A c, v2 = .slice A ys.length c ∧ (Kd.tag f k48).R 48 W b1 (fun k => ok k ∧ k < N) v xs.zipIdx ∧ ReadsRow ((Kd.tag f k48).M W b1 (fun k => N ≤ k)) 4 W A ys.length (ys.zipIdx xs.length) := by
 obtain ⟨f1, hf1⟩ := h1
 obtain ⟨f2, hf2⟩ := h2
 refine ⟨fun k => if k < N then f1 k else f2 k + xs.length, ?_⟩
 have hR2 := Kd.R_bound hf2
 obtain ⟨A, c, rfl, hl, hr⟩ := OwnRow.reads hR2.2
 rw [List.length_zipIdx] at hr
 refine ⟨A, c, by rw [List.length_zipIdx], Kd.R_tag hf1 (fun k hk _ => if_pos hk.2), by simp, hr.2.1, fun hn => ?_⟩
 obtain ⟨ad, e, hc⟩ := hr.2.2 hn
 refine ⟨ad, e, fun j p hj => ?_⟩
 rw [List.getElem?_zipIdx] at hj
 obtain ⟨x, hx, rfl⟩ := Option.map_eq_some_iff.1 hj
 obtain ⟨cs, h3, h4, h5⟩ := hc j (x, j) (by rw [List.getElem?_zipIdx, hx]; simp)
 refine ⟨cs, h3, ?_, h5⟩
 refine Kd.M_lower k48 hb (Kd.M_mono k48 (fun k hk => ?_) h4)
 have hk1 := hk.1.1.2.1
 have hk2 : f2 k = j := hk.2
 refine ⟨hk1, ?_⟩
 show (if k < N then f1 k else f2 k + xs.length) = xs.length + j
 rw [if_neg (by omega), hk2]
 omega
set_option maxRecDepth 100000 in
set_option maxHeartbeats 4000000 in
theorem any_case4 (k g : Nat) (s0 : List Int) (s1 : Int) (w0 w : World) (hI : IsS116 w0 w g s0 s1) (hB : Below w0.heap.size w0 w) (a : List Tk) (a2 p p2 q q2 : Int) (hpos : 0 < a.length) (hp0 : 0 ≤ p) (hp1 : p < (a.length : Int)) (h1 : spec_someGraph.f k s0 s1 8 = some (a, a2)) (h2 : spec_reader_pick.f k s0 a2 (a.length : Int) = some (p, p2)) (h3 : spec_reader_pick.f k s0 p2 24 = some (q, q2)) (hq : q = 4) (c : List Tk) (c2 : Int) (hlen : a.length + c.length < 1000) (h4 : spec_someGraph.f k s0 q2 8 = some (c, c2)) : Calls Tryd.prog 81 #[.pointer (some ⟨g, 0, none⟩)] w (anyPost w0 w g s0  (a ++ c) c2) := by
 have A1 := Aside0.mk h1
 have A2 := Aside0.mk h2
 have A3 := Aside0.mk h3
 clear h1 h2 h3
 have hz : ((a.length : Int) == 0) = false := beq_eq_false_iff_ne.2 (by omega)
 have hglt : g < w.heap.size := hI.lt
 have A4 := Aside0.mk h4
 clear h4
 have hq0 : (q == 0) = false := beq_eq_false_iff_ne.2 (by omega)
 have hq1 : (q == 1) = false := beq_eq_false_iff_ne.2 (by omega)
 have hq2 : (q == 2) = false := beq_eq_false_iff_ne.2 (by omega)
 have hq3 : (q == 3) = false := beq_eq_false_iff_ne.2 (by omega)
 have hq4 : (q == 4) = true := by simp [hq]
 go_enter Tryd.func81, Tryd.ntmps81
 go_wp2_with (first | (go_at_call 114; refine (spec_someGraph.calls k g s0 s1 8 a a2 w0 _ hI hB A1.out).mono ?_; rintro e w1 ⟨v1, rfl, hS1, hI1, hB1, hK1⟩; clear hI hB; obtain ⟨gb, cap, rfl, hgb, hgl, cells, hcells⟩ := Kd.S_form hS1 hpos) | (go_at_call 89; refine (spec_reader_pick.calls k g s0 a2 (a.length : Int) p p2 w0 _ hI1 hB1 A2.out).mono ?_; rintro e w2 ⟨rfl, hI2, hB2, hK2⟩; clear hI1 hB1) | (go_at_call 89; refine (spec_reader_pick.calls k g s0 p2 24 q q2 w0 _ hI2 hB2 A3.out).mono ?_; rintro e w3 ⟨rfl, hI3, hB3, hK3⟩; clear hI2 hB2) | (go_at_call 114; have hS3 : Kd.S k48 48 w3 w.heap.size (fun k => k ≠ g) (.slice (some ⟨gb, 0, none⟩) a.length cap) a := Kd.S_keep (Kd.S_keep (Kd.S_mono (Kd.S_bound hS1) (fun k hk => Nat.ne_of_gt (Nat.lt_of_lt_of_le hglt hk.2.1))) hK2 (fun k hk => hk)) hK3 (fun k hk => hk); have hK4 := (hK1.trans hK2 (.inl rfl)).trans hK3 (.inl rfl); clear hS1 hK1 hK2 hK3; have HGL3 := Aside0.mk hI3.lt; have HGB3 := Aside0.mk (Kd.S_lt hS3 gb (by simp [Value.ownBlock])); have hK4s := hK4.1; refine (spec_someGraph.calls k g s0 q2 8 c c2 w0 _ hI3 hB3 A4.out).mono ?_; rintro e w5 ⟨v2, rfl, hS5, hI5, hB5, hK5⟩; have hS4 : Kd.S k48 48 w5 w.heap.size (fun k => k ≠ g ∧ k < w3.heap.size) _ a := Kd.S_keep (Kd.S_mono (Kd.S_bound hS3) (fun k hk => ⟨hk.1, hk.2.2.1⟩)) hK5 (fun k hk => hk.1); obtain ⟨f, A, cc, rfl, hR6, hRR⟩ := S_two hS4 hS5 hK4s; have hK6 := hK4.trans hK5 (.inl rfl); have HR6 := Aside0.mk hR6; have HRR := Aside0.mk hRR; have HI5 := Aside0.mk hI5; have HB5 := Aside0.mk hB5; have HK6 := Aside0.mk hK6; have HLE := Aside0.mk hK5.1; clear hS3 hS4 hS5 hI3 hB3 hK4 hK5 hR6 hRR hI5 hB5 hK6 hK4s) | ((with_reducible refine gate_builtin (b := .append) (xs := #[.tmp 65, .tmp 67]) rfl ?_); go_loud (at_builtin; have hgb3 : gb < w3.heap.size := HGB3.out; have hle5 : w.heap.size ≤ w5.heap.size := HK6.out.1; refine Kd.R_append_rows (Kd.tag f k48) (w0 := w5) w.heap.size rfl (.tmp 65) (.tmp 67) 26 48 (.agg #[.int .i64 0, .slice none 0 0, .int .i64 0, .int .i64 0]) 48 rfl Tryd.underlying26 infoTask rfl (show 0 < 4 from by decide) (by decide) (.slice (some ⟨gb, 0, none⟩) a.length cap) a.zipIdx (c.zipIdx a.length) A c.length cc (fun k => k ≠ g) (fun k => w3.heap.size ≤ k) rfl rfl (Kd.R_mono HR6.out (fun _ hk => hk.1)) HRR.out (fun _ _ h => h) (fun k (hk : w3.heap.size ≤ k) => ⟨Nat.ne_of_gt (Nat.lt_of_lt_of_le HGL3.out hk), fun e => by have e2 : k = gb := (by simpa [Value.ownBlock] using e); omega⟩) (fun k hk => Nat.ne_of_gt (Nat.lt_of_lt_of_le HI5.out.lt hk)) (Below.refl _ _) hle5 (by simp; omega) ?_; intro v6 w6 ho hb hg hat)))
 go_ret
 have hS6 : Kd.S k48 48 w6 w.heap.size (fun k => k ≠ g) v6 (a ++ c) := ⟨f, by rw [zip_app]; exact ho⟩
 have hg' : w5.grownBy w6 (some gb) := by simpa [Value.ownBlock] using hg
 have hI6 := HI5.out.grown hg' (fun e => by injection e with e; omega)
 exact ⟨_, rfl, Kd.S_mono hS6 (fun _ _ => trivial), hI6, below_put hg' HB5.out (Nat.le_refl _) (by have := HI5.out.ge; omega), HK6.out.trans (KeepBut.of_grown hg' g) (.inr ⟨gb, rfl, hgb⟩)⟩
theorem infoInt_ : (Tryd.prog.info? 3).map (fun i => (i.zero, i.size, i.bytes)) = some (some (.int .i64 0), 1, 8) := by kernel_rfl
set_option maxRecDepth 100000 in
set_option maxHeartbeats 4000000 in
theorem any_case1 (k g : Nat) (s0 : List Int) (s1 : Int) (w0 w : World) (hI : IsS116 w0 w g s0 s1) (hB : Below w0.heap.size w0 w) (a : List Tk) (a2 p p2 q q2 : Int) (hpos : 0 < a.length) (hp0 : 0 ≤ p) (hp1 : p < (a.length : Int)) (h1 : spec_someGraph.f k s0 s1 8 = some (a, a2)) (h2 : spec_reader_pick.f k s0 a2 (a.length : Int) = some (p, p2)) (h3 : spec_reader_pick.f k s0 p2 24 = some (q, q2)) (hq : q = 1) (b b2 : Int) (r : List Int) (r2 : Int) (h4 : spec_reader_pick.f k s0 q2 (a.length : Int) = some (b, b2)) (hlen : (rd_T48 a p).f1.length < 1000) (h5 : spec_reader_spoil.f k s0 b2 ((rd_T48 a p).f1 ++ [b]) 8 = some (r, r2)) : Calls Tryd.prog 81 #[.pointer (some ⟨g, 0, none⟩)] w (anyPost w0 w g s0  (a.set p.toNat { rd_T48 a p with f1 := r }) r2) := by
 have A1 := Aside0.mk h1
 have A2 := Aside0.mk h2
 have A3 := Aside0.mk h3
 clear h1 h2 h3
 have hz : ((a.length : Int) == 0) = false := beq_eq_false_iff_ne.2 (by omega)
 have hglt : g < w.heap.size := hI.lt
 have A4 := Aside0.mk h4
 have A5 := Aside0.mk h5
 clear h4 h5
 have hq0 : (q == 0) = false := beq_eq_false_iff_ne.2 (by omega)
 have hq1 : (q == 1) = true := by simp [hq]
 go_enter Tryd.func81, Tryd.ntmps81
 go_wp2_with (first | (go_at_call 114; refine (spec_someGraph.calls k g s0 s1 8 a a2 w0 _ hI hB A1.out).mono ?_; rintro e w1 ⟨v1, rfl, hS1, hI1, hB1, hK1⟩; clear hI hB; obtain ⟨gb, cap, rfl, hgb, hgl, cells, hcells⟩ := Kd.S_form hS1 hpos) | (go_at_call 89; refine (spec_reader_pick.calls k g s0 a2 (a.length : Int) p p2 w0 _ hI1 hB1 A2.out).mono ?_; rintro e w2 ⟨rfl, hI2, hB2, hK2⟩; clear hI1 hB1) | (go_at_call 89; refine (spec_reader_pick.calls k g s0 p2 24 q q2 w0 _ hI2 hB2 A3.out).mono ?_; rintro e w3 ⟨rfl, hI3, hB3, hK3⟩; clear hI2 hB2))
 have hS3 : Kd.S k48 48 w3 w.heap.size (fun k => k ≠ g) (.slice (some ⟨gb, 0, none⟩) a.length cap) a := Kd.S_keep (Kd.S_keep (Kd.S_mono (Kd.S_bound hS1) (fun k hk => Nat.ne_of_gt (Nat.lt_of_lt_of_le hglt hk.2.1))) hK2 (fun k hk => hk)) hK3 (fun k hk => hk)
 have hK4 := (hK1.trans hK2 (.inl rfl)).trans hK3 (.inl rfl)
 clear hS1 hK1 hK2 hK3
 have hp0' := eq_true hp0
 have hp1' := eq_true hp1
 have hS3b : Kd.S k48 48 w3 w.heap.size (fun k => k ≠ g ∧ k < w3.heap.size) (.slice (some ⟨gb, 0, none⟩) a.length cap) a := Kd.S_mono (Kd.S_bound hS3) (fun k hk => ⟨hk.1, hk.2.2.1⟩)
 obtain ⟨oki, c, hcl, hM, hcc, hfr, hoki, hH⟩ := Kd.S_elem hS3b z48 p hp0 hp1
 obtain ⟨v4, rfl, g4⟩ := k48_openM hM
 clear hS3b
 have hx1 : w3.cell? ⟨gb, p.toNat * 4 + 1, none⟩ = some v4 := hcc 1 _ rfl
 have hgb3 : gb < w3.heap.size := Kd.S_lt hS3 gb (by simp [Value.ownBlock])
 clear hcc hfr hM hcl hS3
 have hI4 : IsS116 w0 w3.drew g s0 q2 := hI3.drew
 have hB4 : Below w0.heap.size w0 w3.drew := below_drew1 hB3
 have hK4' : KeepBut w w3.drew g none := keep_drew hK4
 have hH4 := Kd.H_drew hH
 have g4' := Kd.Q_drew g4
 have hsz4 : w3.drew.heap.size = w3.heap.size := rfl
 have hd4 : Below w3.heap.size w3 w3.drew := below_drew (Below.refl _ _)
 refine start_ (n := 18) (S := fun w' => w'.cell? ⟨gb, p.toNat * 4 + 1, none⟩ = some v4) (ds := [13, 14, 15, 16, 17]) #[F5qc,F5qc,F5qc,F5qc,F5qc,F5qc,F5qc,F5qc,F5qc,F5qc,F5qc,F5qc,F5qc,F5qc,F5qc,F5qc,F5qc,F5qc] rfl (by kernel_rfl) rfl ((hd4.cell hgb3).trans hx1) (fun hHeld => ?_)
 revert hI4 hB4 hK4' hH4 g4' hsz4 hHeld
 generalize w3.drew = w4
 intro hI4 hB4 hK4' hH4 g4' hsz4 hHeld
 clear hI3 hB3 hK4 hH g4 hx1 hd4
 refine pure_ (i := 0) (N := some 28) (v := ?_) (a' := ?_) #[T5qc,F5qc,F5qc,F5qc,F5qc,F5qc,F5qc,F5qc,F5qc,F5qc,F5qc,F5qc,F5qc,F5qc,F5qc,F5qc,F5qc,F5qc] rfl rfl (by kernel_rfl) (fun _ _ _ h => h) (Or.inl ⟨by rfl, ?_⟩) ?_ ?_
 rotate_left
 ·intro w'
  go_simp
  with_reducible rfl
 rotate_left
 ·simp only [Act.put, List.setIfInBounds_toArray, List.set_cons_zero, List.set_cons_succ, i64_w, i32_w]
  rfl
 refine pure_ (i := 1) (N := some 29) (v := ?_) (a' := ?_) #[T5qc,T5qc,F5qc,F5qc,F5qc,F5qc,F5qc,F5qc,F5qc,F5qc,F5qc,F5qc,F5qc,F5qc,F5qc,F5qc,F5qc,F5qc] rfl rfl (by kernel_rfl) (fun _ _ _ h => h) (Or.inl ⟨by rfl, ?_⟩) ?_ ?_
 rotate_left
 ·intro w'
  go_simp
  with_reducible rfl
 rotate_left
 ·simp only [Act.put, List.setIfInBounds_toArray, List.set_cons_zero, List.set_cons_succ, i64_w, i32_w]
  rfl
 refine pure_ (i := 2) (N := some 30) (v := ?_) (a' := ?_) #[T5qc,T5qc,T5qc,F5qc,F5qc,F5qc,F5qc,F5qc,F5qc,F5qc,F5qc,F5qc,F5qc,F5qc,F5qc,F5qc,F5qc,F5qc] rfl rfl (by kernel_rfl) (fun _ _ _ h => h) (Or.inl ⟨by rfl, ?_⟩) ?_ ?_
 rotate_left
 ·intro w'
  go_simp
  with_reducible rfl
 rotate_left
 ·simp only [Act.put, List.setIfInBounds_toArray, List.set_cons_zero, List.set_cons_succ, i64_w, i32_w]
  rfl
 refine pure_ (i := 3) (N := some 31) (v := ?_) (a' := ?_) #[T5qc,T5qc,T5qc,T5qc,F5qc,F5qc,F5qc,F5qc,F5qc,F5qc,F5qc,F5qc,F5qc,F5qc,F5qc,F5qc,F5qc,F5qc] rfl rfl (by kernel_rfl) (fun _ _ _ h => h) (Or.inl ⟨by rfl, ?_⟩) ?_ ?_
 rotate_left
 ·intro w'
  go_simp
  with_reducible rfl
 rotate_left
 ·simp only [Act.put, List.setIfInBounds_toArray, List.set_cons_zero, List.set_cons_succ, i64_w, i32_w]
  rfl
 refine pure_ (i := 4) (N := some 32) (v := ?_) (a' := ?_) #[T5qc,T5qc,T5qc,T5qc,T5qc,F5qc,F5qc,F5qc,F5qc,F5qc,F5qc,F5qc,F5qc,F5qc,F5qc,F5qc,F5qc,F5qc] rfl rfl (by kernel_rfl) (fun _ _ _ h => h) (Or.inl ⟨by rfl, ?_⟩) ?_ ?_
 rotate_left
 ·intro w'
  go_simp
  with_reducible rfl
 rotate_left
 ·simp only [Act.put, List.setIfInBounds_toArray, List.set_cons_zero, List.set_cons_succ, i64_w, i32_w]
  rfl
 refine pure_ (i := 5) (N := some 33) (v := ?_) (a' := ?_) #[T5qc,T5qc,T5qc,T5qc,T5qc,T5qc,F5qc,F5qc,F5qc,F5qc,F5qc,F5qc,F5qc,F5qc,F5qc,F5qc,F5qc,F5qc] rfl rfl (by kernel_rfl) (fun _ _ _ h => h) (Or.inl ⟨by rfl, ?_⟩) ?_ ?_
 rotate_left
 ·intro w'
  go_simp
  with_reducible rfl
 rotate_left
 ·simp only [Act.put, List.setIfInBounds_toArray, List.set_cons_zero, List.set_cons_succ, i64_w, i32_w]
  rfl
 refine pure_ (i := 6) (N := some 34) (v := ?_) (a' := ?_) #[T5qc,T5qc,T5qc,T5qc,T5qc,T5qc,T5qc,F5qc,F5qc,F5qc,F5qc,F5qc,F5qc,F5qc,F5qc,F5qc,F5qc,F5qc] rfl rfl (by kernel_rfl) (fun _ _ _ h => h) (Or.inl ⟨by rfl, ?_⟩) ?_ ?_
 rotate_left
 ·intro w'
  go_simp
  with_reducible rfl
 rotate_left
 ·simp only [Act.put, List.setIfInBounds_toArray, List.set_cons_zero, List.set_cons_succ, i64_w, i32_w]
  rfl
 refine take_ (i := 7) (N := some 35) (v := ?_) (a' := ?_) #[T5qc,T5qc,T5qc,T5qc,T5qc,T5qc,T5qc,T5qc,F5qc,F5qc,F5qc,F5qc,F5qc,F5qc,F5qc,F5qc,F5qc,F5qc] rfl rfl (by kernel_rfl) (fun _ _ _ h => h) (Or.inl ⟨by rfl, ?_⟩) hHeld ?_ ?_
 rotate_left
 ·rintro w' hc
  go_simp
  with_reducible rfl
 rotate_left
 ·simp only [Act.put, List.setIfInBounds_toArray, List.set_cons_zero, List.set_cons_succ, i64_w, i32_w]
  rfl
 refine pure_ (i := 8) (N := some 36) (v := ?_) (a' := ?_) #[T5qc,T5qc,T5qc,T5qc,T5qc,T5qc,T5qc,T5qc,T5qc,F5qc,F5qc,F5qc,F5qc,F5qc,F5qc,F5qc,F5qc,F5qc] rfl rfl (by kernel_rfl) (fun _ _ _ h => h) (Or.inl ⟨by rfl, ?_⟩) ?_ ?_
 rotate_left
 ·intro w'
  go_simp
  with_reducible rfl
 rotate_left
 ·simp only [Act.put, List.setIfInBounds_toArray, List.set_cons_zero, List.set_cons_succ, i64_w, i32_w]
  rfl
 refine pure_ (i := 9) (N := some 37) (v := ?_) (a' := ?_) #[T5qc,T5qc,T5qc,T5qc,T5qc,T5qc,T5qc,T5qc,T5qc,T5qc,F5qc,F5qc,F5qc,F5qc,F5qc,F5qc,F5qc,F5qc] rfl rfl (by kernel_rfl) (fun _ _ _ h => h) (Or.inl ⟨by rfl, ?_⟩) ?_ ?_
 rotate_left
 ·intro w'
  go_simp
  with_reducible rfl
 rotate_left
 ·simp only [Act.put, List.setIfInBounds_toArray, List.set_cons_zero, List.set_cons_succ, i64_w, i32_w]
  rfl
 refine pure_ (i := 10) (N := some 38) (v := ?_) (a' := ?_) #[T5qc,T5qc,T5qc,T5qc,T5qc,T5qc,T5qc,T5qc,T5qc,T5qc,T5qc,F5qc,F5qc,F5qc,F5qc,F5qc,F5qc,F5qc] rfl rfl (by kernel_rfl) (fun _ _ _ h => h) (Or.inl ⟨by rfl, ?_⟩) ?_ ?_
 rotate_left
 ·intro w'
  go_simp
  with_reducible rfl
 rotate_left
 ·simp only [Act.put, List.setIfInBounds_toArray, List.set_cons_zero, List.set_cons_succ, i64_w, i32_w]
  rfl
 refine one_ (i := 11) (N := some 39) #[T5qc,T5qc,T5qc,T5qc,T5qc,T5qc,T5qc,T5qc,T5qc,T5qc,T5qc,T5qc,F5qc,F5qc,F5qc,F5qc,F5qc,F5qc] rfl rfl (by kernel_rfl) (by decide) (fun K hK => ?_)
 refine goes_ Tryd.func89 (by kernel_rfl) rfl #[.pointer (some ⟨g, 0, none⟩), .int .i64 (a.length : Int)] (by rfl) rfl rfl (by (try simp only [List.map_toArray, List.map_cons, List.map_nil]); rfl) ?_
 refine (spec_reader_pick.calls k g s0 q2 (a.length : Int) b b2 w0 _ hI4 hB4 A4.out).mono ?_
 rintro e w5 ⟨rfl, hI5, hB5, hK5⟩
 have hgb4 : gb < w4.heap.size := by omega
 have hne : gb ≠ g := by have := Nat.lt_of_lt_of_le hglt hgb; omega
 refine ⟨_, rfl, hK.out _ _ (keep_cell hK5 hHeld hne) (fun hHeld5 => ?_)⟩
 clear hK K
 refine norm_ (a' := ?_) ?_ ?_
 rotate_left
 ·show Act.put _ (some 39) _ = _
  simp only [Act.put, List.setIfInBounds_toArray, List.set_cons_zero, List.set_cons_succ, i64_w, i32_w]
  rfl
 have hH5 := Kd.H_keep hH4 hK5 (fun k hk => hk.1)
 have g5 := Kd.Q_keep g4' hK5 (fun k hk => (hoki k hk).1.1)
 have hg5lt := hI5.lt
 have hK6 := hK4'.trans hK5 (.inl rfl)
 have hsz5 : w3.heap.size ≤ w5.heap.size := by rw [← hsz4]; exact hK5.1
 clear hH4 g4' hK5 hK4' hI4 hB4 hHeld hsz4
 refine one_ (i := 12) (N := some 40) #[T5qc,T5qc,T5qc,T5qc,T5qc,T5qc,T5qc,T5qc,T5qc,T5qc,T5qc,T5qc,T5qc,F5qc,F5qc,F5qc,F5qc,F5qc] rfl rfl (by kernel_rfl) (by decide) (fun K hK => ?_)
 refine value_ (w1 := w5.alloc (.cells #[.int .i64 b] 3)) (v := .slice (some ⟨w5.heap.size, 0, none⟩) 1 1) (by rfl) rfl ?_ ?_
 ·go_simp; try rfl
 refine hK.out _ _ ((((Below.refl w5.heap.size w5).alloc (Nat.le_refl _) (.cells #[.int .i64 b] 3)).cell (show gb < w5.heap.size by omega)).trans hHeld5) (fun hHeld6 => ?_)
 clear hK K
 refine norm_ (a' := ?_) ?_ ?_
 rotate_left
 ·simp only [Act.put, List.setIfInBounds_toArray, List.set_cons_zero, List.set_cons_succ, i64_w, i32_w]
  rfl
 refine last_ (i := 13) (N := some 41) #[T5qc,T5qc,T5qc,T5qc,T5qc,T5qc,T5qc,T5qc,T5qc,T5qc,T5qc,T5qc,T5qc,T5qc,F5qc,F5qc,F5qc,F5qc] rfl rfl (by kernel_rfl) (by decide) (fun K hK => ?_)
 refine Kd.Q_append_step (Kd.int .i64) (w0 := w5) w.heap.size (by rfl) (.tmp 35) (.tmp 40) 23 3 (.int .i64 0) 8 rfl Tryd.underlying23 infoInt_ rfl (by decide) (by decide) v4 (rd_T48 a p).f1 b [.int .i64 b] (fun k => oki k ∨ w5.heap.size ≤ k) (fun _ => False) rfl rfl rfl (fun _ h => h.elim) (fun _ hk => .inr hk) (Kd.Q_mono g5 (fun _ hk => .inl hk)) (Below.refl _ _) hK6.1 (by omega) ?_
 intro v7 w7 hQ7 hB7 hg7 hat7
 refine hK.out _ _ ?_
 clear hK K
 refine norm_ (a' := ?_) ?_ ?_
 rotate_left
 ·simp only [Act.put, List.setIfInBounds_toArray, List.set_cons_zero, List.set_cons_succ, i64_w, i32_w]
  rfl
 have hvo : ∀ k, v4.ownBlock = some k → oki k := fun k hk => g5.1 k hk
 have hH7 := Kd.H_grown hH5 hg7 hvo
 have hI7 := hI5.grown hg7 (fun e => (hoki g (hvo g e.symm)).1.1 rfl)
 have hB8 : Below w0.heap.size w0 w7 := by
  refine ⟨hg7.os.trans hB5.os, hg7.tape.trans hB5.tape, hg7.output.trans hB5.output, Nat.le_trans hB5.size hg7.size, fun k hk => (hg7.block k (Nat.lt_of_lt_of_le hk hB5.size) (fun e => ?_)).trans (hB5.block k hk)⟩
  have h1 := Kd.Q_base g5 k e.symm
  have h2 := hI5.ge
  omega
 have hK8 : KeepBut w w7 g none := ⟨Nat.le_trans hK6.1 hg7.size, fun k hk hkg hn => (hg7.block k (Nat.lt_of_lt_of_le hk hK6.1) (fun e => by have := Kd.Q_base g5 k e.symm; omega)).trans (hK6.2 k hk hkg hn)⟩
 have hsz7 := hg7.size
 obtain ⟨A7, c7, rfl, hl7, hC7⟩ := Kd.Q_reads hQ7
 have hlen7 : ((rd_T48 a p).f1 ++ [b]).length = (rd_T48 a p).f1.length + 1 := by simp
 have hQg := hQ7.1
 clear hH5 g5 hI5 hB5 hK6 hHeld5 hHeld6
 refine last_ (i := 14) (N := some 42) #[T5qc,T5qc,T5qc,T5qc,T5qc,T5qc,T5qc,T5qc,T5qc,T5qc,T5qc,T5qc,T5qc,T5qc,T5qc,F5qc,F5qc,F5qc] rfl rfl (by kernel_rfl) (by decide) (fun K hK => ?_)
 refine goes_ Tryd.func91 (by kernel_rfl) rfl #[.pointer (some ⟨g, 0, none⟩), .slice A7 ((rd_T48 a p).f1 ++ [b]).length c7, .int .i64 8] (by rfl) rfl rfl (by (try simp only [List.map_toArray, List.map_cons, List.map_nil]); rfl) ?_
 refine (spec_reader_spoil.calls k g s0 b2 A7 c7 ((rd_T48 a p).f1 ++ [b]) 8 r r2 w0 _ hI7 hB8 hC7 hl7 (fun ad e hpos7 => ?_) A5.out).mono ?_
 ·subst e
  rcases hQg ad.block (by simp [Value.ownBlock]) with h | h
  ·exact (hoki _ h).1.1
  ·exact Nat.ne_of_gt (Nat.lt_of_lt_of_le hg5lt h)
 rintro e w9 ⟨v9, rfl, hQ9, hI9, hB9, hK9⟩
 refine ⟨_, rfl, hK.out _ _ ?_⟩
 clear hK K
 refine norm_ (a' := ?_) ?_ ?_
 rotate_left
 ·simp only [Act.put, List.setIfInBounds_toArray, List.set_cons_zero, List.set_cons_succ, i64_w, i32_w]
  rfl
 have hH9 := Kd.H_keep hH7 hK9 (fun k hk => hk.1)
 have hH10 := Kd.H_mono (ok' := fun k => k ≠ g ∧ ¬ (w7.heap.size ≤ k)) hH9 (fun k hk => ⟨hk.1, by omega⟩)
 obtain ⟨hS11, hg11⟩ := Kd.S_seg (okg := fun k => w7.heap.size ≤ k) hH10 hp0 hp1 (seg := [v9]) (j := 1) (show 1 + 1 ≤ 4 from by decide) (x' := { rd_T48 a p with f1 := r }) (mkQ _ _ _ { rd_T48 a p with f1 := r } (Kd.Q_mono (Kd.Q_lower (Kd.Q_bound hQ9) (show w.heap.size ≤ w7.heap.size by have := hK8.1; omega)) (fun k hk => hk.2.1))) (fun k hk => .inr hk) (fun k hk => ⟨Nat.ne_of_gt (Nat.lt_of_lt_of_le hI7.lt hk), by omega⟩)
 obtain ⟨rows, _, hraw, _, _, hcc9, _⟩ := Kd.H_raw hH10 hp0 hp1
 have hcell9 : w9.cell? ⟨gb, p.toNat * 4 + 1, none⟩ = some v4 := hcc9 1 _ rfl
 obtain ⟨cs9, hcs9⟩ := Kd.R_typed hraw gb (by simp [Value.ownBlock])
 have hfz9 : w9.frozen? ⟨gb, p.toNat * 4 + 1, none⟩ = false := by simp [World.frozen?, hcs9]
 clear hraw hcc9 hcs9 hH10 hH9
 have hsl9 := Kd.Q_slice hQ9
 refine pure_ (i := 15) (N := some 43) (v := ?_) (a' := ?_) #[T5qc,T5qc,T5qc,T5qc,T5qc,T5qc,T5qc,T5qc,T5qc,T5qc,T5qc,T5qc,T5qc,T5qc,T5qc,T5qc,F5qc,F5qc] rfl rfl (by kernel_rfl) (fun _ _ _ h => h) (Or.inl ⟨by rfl, ?_⟩) ?_ ?_
 rotate_left
 ·intro w'
  go_simp
  with_reducible rfl
 rotate_left
 ·simp only [Act.put, List.setIfInBounds_toArray, List.set_cons_zero, List.set_cons_succ, i64_w, i32_w]
  rfl
 refine pure_ (i := 16) (N := some 44) (v := ?_) (a' := ?_) #[T5qc,T5qc,T5qc,T5qc,T5qc,T5qc,T5qc,T5qc,T5qc,T5qc,T5qc,T5qc,T5qc,T5qc,T5qc,T5qc,T5qc,F5qc] rfl rfl (by kernel_rfl) (fun _ _ _ h => h) (Or.inl ⟨by rfl, ?_⟩) ?_ ?_
 rotate_left
 ·intro w'
  go_simp
  with_reducible rfl
 rotate_left
 ·simp only [Act.put, List.setIfInBounds_toArray, List.set_cons_zero, List.set_cons_succ, i64_w, i32_w]
  rfl
 obtain ⟨A9, c9, hv9, _⟩ := hsl9
 refine last_ (i := 17) (N := none) #[T5qc,T5qc,T5qc,T5qc,T5qc,T5qc,T5qc,T5qc,T5qc,T5qc,T5qc,T5qc,T5qc,T5qc,T5qc,T5qc,T5qc,T5qc] rfl rfl (by kernel_rfl) (by decide) (fun K hK => ?_)
 refine skip_ (w1 := w9.setCell ⟨gb, p.toNat * 4 + 1, none⟩ v9) (by rfl) rfl ?_ ?_
 ·subst hv9; go_simp
 refine hK.out _ _ ?_
 clear hK K
 refine done_ (by kernel_rfl) ?_
 have hS12 : Kd.S k48 48 (w9.setCell ⟨gb, p.toNat * 4 + 1, none⟩ v9) w.heap.size (fun k => k ≠ g) _ _ := hS11
 have hg12 : w9.grownBy (w9.setCell ⟨gb, p.toNat * 4 + 1, none⟩ v9) (some gb) := hg11
 have hI12 := hI9.grown hg12 (fun e => by injection e with e; have := Nat.lt_of_lt_of_le hglt hgb; omega)
 have hB12 := below_put hg12 hB9 (Nat.le_refl _) (by have := hI9.ge; omega)
 have hK12 := (hK8.trans hK9 (.inl rfl)).trans (KeepBut.of_grown hg12 g) (.inr ⟨gb, rfl, hgb⟩)
 revert hS12 hI12 hB12 hK12
 generalize w9.setCell ⟨gb, p.toNat * 4 + 1, none⟩ v9 = w13
 intro hS12 hI12 hB12 hK12
 clear hS11 hg11 hg12
 go_wp2
 go_ret
 exact ⟨_, rfl, Kd.S_mono hS12 (fun _ _ => trivial), hI12, hB12, hK12⟩
end Go.Proofs.YtpibdjkajgfgjaaDoor.Core
namespace Go.Proofs.YtpibdjkajgfgjaaDoor.P
open Go Go.RowKit Go.Shelf Go.Proofs.YtpibdjkajgfgjaaDoorW.PrintWords Go.Proofs.YtpibdjkajgfgjaaDoorW.PrintMore Go.Proofs.YtpibdjkajgfgjaaDoor.Core
noncomputable def spec_anyGraph.f (s0_0 : List Int) (s0_1 : Int) : Option (List S48 × Int) := lim (fun k => spec_anyGraph.fk k s0_0 s0_1)
theorem spec_anyGraph.calls (g : Nat) (s0_0 : List Int) (s0_1 : Int) (r1 : List S48) (r2 : Int) (w0 w : World) (hI : IsS116 w0 w g s0_0 s0_1) (hB : Below w0.heap.size w0 w) (h : spec_anyGraph.f s0_0 s0_1 = some (r1, r2)) :
  Calls Tryd.prog 81 #[.pointer (some ⟨g, 0, none⟩)] w fun e w' => ∃ v0_ : Value, e = .returned (v0_) ∧ Kd.S k48 48 w' w.heap.size (fun _ => True) v0_ r1 ∧ IsS116 w0 w' g s0_0 r2 ∧ Below w0.heap.size w0 w' ∧ KeepBut w w' g none := by
 obtain ⟨k, hk⟩ := lim_some h
 clear h
 unfold spec_anyGraph.fk at hk
 obtain ⟨⟨a, a2⟩, h1, hk⟩ := Option.bind_eq_some_iff.1 hk
 by_cases hl : a.length = 0
 ·rw [if_pos hl] at hk
  cases hk
  obtain rfl := List.eq_nil_of_length_eq_zero hl
  exact any_empty k g s0_0 s0_1 w0 w hI hB _ h1
 ·rw [if_neg hl] at hk
  obtain ⟨⟨p, p2⟩, h2, hk⟩ := Option.bind_eq_some_iff.1 hk
  obtain ⟨⟨q, q2⟩, h3, hk⟩ := Option.bind_eq_some_iff.1 hk
  by_cases hp : ¬ (0 ≤ p ∧ p < (a.length : Int))
  ·rw [if_pos hp] at hk; cases hk
  ·rw [if_neg hp] at hk
   obtain ⟨hp0, hp1⟩ := Decidable.not_not.1 hp
   have hpos : 0 < a.length := by omega
   by_cases e0 : q = 0
   ·rw [if_pos e0] at hk
    obtain ⟨⟨t, t2⟩, h4, hk⟩ := Option.bind_eq_some_iff.1 hk
    cases hk
    exact any_case0 k g s0_0 s0_1 w0 w hI hB a a2 p p2 q q2 hpos hp0 hp1 h1 h2 h3 e0 t _ h4
   ·rw [if_neg e0] at hk
    by_cases e1 : q = 1
    ·rw [if_pos e1] at hk
     obtain ⟨⟨b, b2⟩, h4, hk⟩ := Option.bind_eq_some_iff.1 hk
     by_cases hlen : (rd_T48 a p).f1.length < 1000
     ·simp only [hlen, if_true] at hk
      obtain ⟨⟨c, c2⟩, h5, hk⟩ := Option.bind_eq_some_iff.1 hk
      cases hk
      exact any_case1 k g s0_0 s0_1 w0 w hI hB a a2 p p2 q q2 hpos hp0 hp1 h1 h2 h3 e1 b b2 c _ h4 hlen h5
     ·simp only [hlen, if_false] at hk; cases hk
    ·rw [if_neg e1] at hk
     by_cases e2 : q = 2
     ·rw [if_pos e2] at hk
      obtain ⟨⟨t, t2⟩, h4, hk⟩ := Option.bind_eq_some_iff.1 hk
      cases hk
      exact any_case2 k g s0_0 s0_1 w0 w hI hB a a2 p p2 q q2 hpos hp0 hp1 h1 h2 h3 e2 t _ h4
     ·rw [if_neg e2] at hk
      by_cases e3 : q = 3
      ·rw [if_pos e3] at hk
       obtain ⟨⟨t, t2⟩, h4, hk⟩ := Option.bind_eq_some_iff.1 hk
       cases hk
       exact any_case3 k g s0_0 s0_1 w0 w hI hB a a2 p p2 q q2 hpos hp0 hp1 h1 h2 h3 e3 t _ h4
      ·rw [if_neg e3] at hk
       by_cases e4 : q = 4
       ·rw [if_pos e4] at hk
        obtain ⟨⟨c, c2⟩, h4, hk⟩ := Option.bind_eq_some_iff.1 hk
        by_cases hlen : a.length + c.length < 1000
        ·simp only [hlen, if_true] at hk
         cases hk
         exact any_case4 k g s0_0 s0_1 w0 w hI hB a a2 p p2 q q2 hpos hp0 hp1 h1 h2 h3 e4 c _ hlen h4
        ·simp only [hlen, if_false] at hk; cases hk
       ·rw [if_neg e4] at hk
        cases hk
        exact any_same k g s0_0 s0_1 w0 w hI hB a a2 p p2 q _ hpos hp0 hp1 h1 h2 h3 ⟨e0, e1, e2, e3, e4⟩
end Go.Proofs.YtpibdjkajgfgjaaDoor.P
namespace Go.Proofs.YtpibdjkajgfgjaaDoor.Core
end Go.Proofs.YtpibdjkajgfgjaaDoor.Core
end
section
namespace Go.Proofs.YtpibdjkajgfgjaaDoor.P
open Go.RowKit Go.Proofs.YtpibdjkajgfgjaaDoorW.PrintWords Go.Proofs.YtpibdjkajgfgjaaDoorW.PrintLast Go.Proofs.YtpibdjkajgfgjaaDoorW.PrintMore
attribute [local go_sem] max2_int min2_int max_two min_two max_three min_three max_four min_four   -- for this text's walks alone
set_option linter.unusedVariables false
set_option linter.unusedSimpArgs false
mutual
noncomputable def spec_DrawAdmitTasks.l0 : Nat → List (S48) → List Int → List Int → List Int → Int → List Int → Int → Option ((List (S48)) × List Int × List Int × List Int × Int)
 | 0, _, _, _, _, _, _, _ => none
 | k + 1, x8, x9, x10, x11, x12, x719000, x719001 => if x12 < (x8.length : Int) then ((spec_reader_pick.f k x719000 x719001 4).bind fun bt733 => (if bt733.1 = 0 then ((spec_copyInts.f x10).bind fun t735 => (if t735.length < 17592186044416 then ((spec_validRunning.f k x8 x9 (t735 ++ [x12])).bind fun t741 => (if t741 = true then (if x10.length < 17592186044416 then (spec_DrawAdmitTasks.l0 k x8 x9 (x10 ++ [x12]) x11 (wrap64 (x12 + 1)) x719000 bt733.2) else (none)) else (spec_DrawAdmitTasks.l0 k x8 x9 x10 x11 (wrap64 (x12 + 1)) x719000 bt733.2))) else (none))) else (if bt733.1 = 1 then (if x11.length < 17592186044416 then (spec_DrawAdmitTasks.l0 k x8 x9 x10 (x11 ++ [x12]) (wrap64 (x12 + 1)) x719000 bt733.2) else (none)) else (if bt733.1 = 2 then (if x11.length < 17592186044416 then (spec_DrawAdmitTasks.l0 k x8 x9 x10 (x11 ++ [x12]) (wrap64 (x12 + 1)) x719000 bt733.2) else (none)) else (spec_DrawAdmitTasks.l0 k x8 x9 x10 x11 (wrap64 (x12 + 1)) x719000 bt733.2))))) else (if (x11.length : Int) > 1 then ((spec_reader_pick.f k x719000 x719001 2).bind fun bt751 => (spec_DrawAdmitTasks.j1 k x8 x9 x10 x11 (bt751.1 == 0) x719000 bt751.2)) else (spec_DrawAdmitTasks.j1 k x8 x9 x10 x11 false x719000 x719001))
noncomputable def spec_DrawAdmitTasks.j1 : Nat → List (S48) → List Int → List Int → List Int → Bool → List Int → Int → Option ((List (S48)) × List Int × List Int × List Int × Int)
 | 0, _, _, _, _, _, _, _ => none
 | k + 1, x8, x9, x10, x11, x58, x719000, x719001 => if x58 = true then (if 0 < (x11.length : Int) then (if 1 < (x11.length : Int) then ((spec_reader_spoil.f k x719000 x719001 ((x11.set (0 : Int).toNat (rd x11 1)).set (1 : Int).toNat (rd x11 0)) 8).bind fun bt757 => ((spec_reader_one.f k x719000 bt757.2 (([2, 3, 1, 4, 0, 5] : List Int))).bind fun bt764 => (some (x8, x9, x10, bt757.1, bt764.1)))) else (none)) else (none)) else ((spec_reader_spoil.f k x719000 x719001 x11 8).bind fun bt766 => ((spec_reader_one.f k x719000 bt766.2 (([2, 3, 1, 4, 0, 5] : List Int))).bind fun bt773 => (some (x8, x9, x10, bt766.1, bt773.1))))
end
noncomputable def spec_DrawAdmitTasks.f (k : Nat) (l0 : List Int) : Option ((List (S48)) × List Int × List Int × List Int × Int) := (spec_newReader.f l0).bind fun bt716 => ((spec_anyGraph.f bt716.1 bt716.2).bind fun bt719 => ((spec_someRoom.f k bt716.1 bt719.2).bind fun bt723 => (spec_DrawAdmitTasks.l0 k bt719.1 bt723.1 (([] : List Int)) (([] : List Int)) 0 bt716.1 bt723.2)))
theorem spec_DrawAdmitTasks.mono_l : ∀ k, (∀ y0 y1 y2 y3 y4 y5 y6, LeO (spec_DrawAdmitTasks.l0 k y0 y1 y2 y3 y4 y5 y6) (spec_DrawAdmitTasks.l0 (k + 1) y0 y1 y2 y3 y4 y5 y6)) ∧ (∀ y0 y1 y2 y3 y4 y5 y6, LeO (spec_DrawAdmitTasks.j1 k y0 y1 y2 y3 y4 y5 y6) (spec_DrawAdmitTasks.j1 (k + 1) y0 y1 y2 y3 y4 y5 y6))
 | 0 => ⟨fun _ _ _ _ _ _ _ r h => by simp [spec_DrawAdmitTasks.l0] at h, fun _ _ _ _ _ _ _ r h => by simp [spec_DrawAdmitTasks.j1] at h⟩
 | k + 1 => by
  obtain ⟨ih0, ih1⟩ := spec_DrawAdmitTasks.mono_l k
  refine ⟨?_, ?_⟩
  ·intro y0 y1 y2 y3 y4 y5 y6
   unfold spec_DrawAdmitTasks.l0
   repeat' first
   | (with_reducible exact ih0 _ _ _ _ _ _ _)
   | (with_reducible exact ih1 _ _ _ _ _ _ _)
   | (with_reducible exact spec_reader_one.mono _ _ _ _)
   | (with_reducible exact spec_reader_pick.mono _ _ _ _)
   | (with_reducible exact spec_reader_spoil.mono _ _ _ _ _)
   | (with_reducible exact spec_someRoom.mono _ _ _)
   | (with_reducible exact spec_validRunning.mono _ _ _ _)
   | (with_reducible exact LeO.refl _)
   | (with_reducible exact LeO.none _)
   | (with_reducible refine LeO.ite ?_ ?_)
   | (with_reducible refine LeO.bind ?_ (fun _ => ?_))
   | exact ih0 _ _ _ _ _ _ _
   | exact ih1 _ _ _ _ _ _ _
   | exact spec_reader_one.mono _ _ _ _
   | exact spec_reader_pick.mono _ _ _ _
   | exact spec_reader_spoil.mono _ _ _ _ _
   | exact spec_someRoom.mono _ _ _
   | exact spec_validRunning.mono _ _ _ _
   | exact LeO.none _
   | refine LeO.ite ?_ ?_
   | refine LeO.bind ?_ (fun _ => ?_)
  ·intro y0 y1 y2 y3 y4 y5 y6
   unfold spec_DrawAdmitTasks.j1
   repeat' first
   | (with_reducible exact ih0 _ _ _ _ _ _ _)
   | (with_reducible exact ih1 _ _ _ _ _ _ _)
   | (with_reducible exact spec_reader_one.mono _ _ _ _)
   | (with_reducible exact spec_reader_pick.mono _ _ _ _)
   | (with_reducible exact spec_reader_spoil.mono _ _ _ _ _)
   | (with_reducible exact spec_someRoom.mono _ _ _)
   | (with_reducible exact spec_validRunning.mono _ _ _ _)
   | (with_reducible exact LeO.refl _)
   | (with_reducible exact LeO.none _)
   | (with_reducible refine LeO.ite ?_ ?_)
   | (with_reducible refine LeO.bind ?_ (fun _ => ?_))
   | exact ih0 _ _ _ _ _ _ _
   | exact ih1 _ _ _ _ _ _ _
   | exact spec_reader_one.mono _ _ _ _
   | exact spec_reader_pick.mono _ _ _ _
   | exact spec_reader_spoil.mono _ _ _ _ _
   | exact spec_someRoom.mono _ _ _
   | exact spec_validRunning.mono _ _ _ _
   | exact LeO.none _
   | refine LeO.ite ?_ ?_
   | refine LeO.bind ?_ (fun _ => ?_)
theorem spec_DrawAdmitTasks.mono : ∀ a0 k, LeO (spec_DrawAdmitTasks.f k a0) (spec_DrawAdmitTasks.f (k + 1) a0) := by
 intro a0 k
 obtain ⟨ih0, ih1⟩ := spec_DrawAdmitTasks.mono_l k
 unfold spec_DrawAdmitTasks.f
 repeat' first
   | (with_reducible exact ih0 _ _ _ _ _ _ _)
   | (with_reducible exact ih1 _ _ _ _ _ _ _)
   | (with_reducible exact spec_reader_one.mono _ _ _ _)
   | (with_reducible exact spec_reader_pick.mono _ _ _ _)
   | (with_reducible exact spec_reader_spoil.mono _ _ _ _ _)
   | (with_reducible exact spec_someRoom.mono _ _ _)
   | (with_reducible exact spec_validRunning.mono _ _ _ _)
   | (with_reducible exact LeO.refl _)
   | (with_reducible exact LeO.none _)
   | (with_reducible refine LeO.ite ?_ ?_)
   | (with_reducible refine LeO.bind ?_ (fun _ => ?_))
   | exact ih0 _ _ _ _ _ _ _
   | exact ih1 _ _ _ _ _ _ _
   | exact spec_reader_one.mono _ _ _ _
   | exact spec_reader_pick.mono _ _ _ _
   | exact spec_reader_spoil.mono _ _ _ _ _
   | exact spec_someRoom.mono _ _ _
   | exact spec_validRunning.mono _ _ _ _
   | exact LeO.none _
   | refine LeO.ite ?_ ?_
   | refine LeO.bind ?_ (fun _ => ?_)
set_option maxHeartbeats 8000000 in
set_option maxRecDepth 100000 in
theorem spec_DrawAdmitTasks.calls (k : Nat) (A0 : Option Addr) (c0 : Nat) (l0 : List Int) (r1 : List (S48)) (r2 : List Int) (r3 : List Int) (r4 : List Int) (r5 : Int) (w : World) (hr0 : Kd.C (Kd.int .u8) w A0 l0.length l0) (hc0 : l0.length ≤ c0) (h : spec_DrawAdmitTasks.f k l0 = some (r1, r2, r3, r4, r5)) :
  Calls Tryd.prog 46 #[.slice A0 l0.length c0] w fun e w' => ∃ v0_ v1_ v2_ v3_ : Value, e = .returned (.tuple #[v0_, v1_, v2_, v3_, .int .i64 r5]) ∧ Kd.S k48 48 w' w.heap.size (fun k_ => some k_ ≠ (v1_ : Value).ownBlock ∧ some k_ ≠ (v2_ : Value).ownBlock ∧ some k_ ≠ (v3_ : Value).ownBlock) v0_ r1 ∧ Kd.Q (Kd.int .i64) 3 w' w.heap.size (fun k_ => some k_ ≠ (v2_ : Value).ownBlock ∧ some k_ ≠ (v3_ : Value).ownBlock) v1_ r2 ∧ Kd.R (Kd.int .i64) 3 w' w.heap.size (fun k_ => some k_ ≠ (v1_ : Value).ownBlock ∧ some k_ ≠ (v3_ : Value).ownBlock) v2_ r3 ∧ Kd.Q (Kd.int .i64) 3 w' w.heap.size (fun k_ => some k_ ≠ (v1_ : Value).ownBlock ∧ some k_ ≠ (v2_ : Value).ownBlock) v3_ r4 ∧ Below w.heap.size w w' := by
 have HR0 := Aside0.mk hr0
 have HC0 := Aside0.mk hc0
 clear hr0 hc0
 have HB := Aside0.mk (Below.refl w.heap.size w)
 have H : ((spec_newReader.f l0).bind fun bt716 => ((spec_anyGraph.f bt716.1 bt716.2).bind fun bt719 => ((spec_someRoom.f k bt716.1 bt719.2).bind fun bt723 => (spec_DrawAdmitTasks.l0 k bt719.1 bt723.1 (([] : List Int)) (([] : List Int)) 0 bt716.1 bt723.2)))) = some (r1, r2, r3, r4, r5) := h
 clear h
 replace H := Option.bind_eq_some_iff.mp H
 obtain ⟨⟨t716, t717⟩, A20, H⟩ := H
 replace H : ((spec_anyGraph.f t716 t717).bind fun bt719 => ((spec_someRoom.f k t716 bt719.2).bind fun bt723 => (spec_DrawAdmitTasks.l0 k bt719.1 bt723.1 (([] : List Int)) (([] : List Int)) 0 t716 bt723.2))) = some (r1, r2, r3, r4, r5) := H
 have A2 := Aside0.mk A20
 clear A20
 replace H := Option.bind_eq_some_iff.mp H
 obtain ⟨⟨t719, t722⟩, A30, H⟩ := H
 replace H : ((spec_someRoom.f k t716 t722).bind fun bt723 => (spec_DrawAdmitTasks.l0 k t719 bt723.1 (([] : List Int)) (([] : List Int)) 0 t716 bt723.2)) = some (r1, r2, r3, r4, r5) := H
 have A3 := Aside0.mk A30
 clear A30
 replace H := Option.bind_eq_some_iff.mp H
 obtain ⟨⟨t723, t726⟩, A40, H⟩ := H
 replace H : (spec_DrawAdmitTasks.l0 k t719 t723 (([] : List Int)) (([] : List Int)) 0 t716 t726) = some (r1, r2, r3, r4, r5) := H
 have A4 := Aside0.mk A40
 clear A40
 obtain ⟨y727, hy727⟩ : ∃ y_ : List Int, y_ = (([] : List Int)) := ⟨_, rfl⟩
 replace H : (spec_DrawAdmitTasks.l0 k t719 t723 y727 (([] : List Int)) 0 t716 t726) = some (r1, r2, r3, r4, r5) := by first | (rw [hy727]; with_reducible exact H) | (have H2_ := (Option.bind_some _ _).symm.trans H; rw [hy727]; with_reducible exact H2_) | (have H2_ := (Option.bind_some _ _).symm.trans H; with_reducible exact H2_) | with_reducible exact H | (rw [hy727]; exact H) | exact H
 have Ny727 := Aside0.mk hy727
 clear hy727
 obtain ⟨y730, hy730⟩ : ∃ y_ : List Int, y_ = (([] : List Int)) := ⟨_, rfl⟩
 replace H : (spec_DrawAdmitTasks.l0 k t719 t723 y727 y730 0 t716 t726) = some (r1, r2, r3, r4, r5) := by first | (rw [hy730]; with_reducible exact H) | (have H2_ := (Option.bind_some _ _).symm.trans H; rw [hy730]; with_reducible exact H2_) | (have H2_ := (Option.bind_some _ _).symm.trans H; with_reducible exact H2_) | with_reducible exact H | (rw [hy730]; exact H) | exact H
 have Ny730 := Aside0.mk hy730
 clear hy730
 have H' := Aside0.mk H
 clear H
 go_enter Tryd.func46, Tryd.ntmps46
 go_wp2_with (first | ((with_reducible refine gate_callee (f := 82) rfl ?_); refine goesL_ (some 15) rfl rfl Tryd.func82 (by kernel_rfl) rfl #[.slice A0 l0.length c0] rfl (by (try simp only [List.map_toArray, List.map_cons, List.map_nil]); first | done | rfl | (simp only [List.length_drop, List.length_take]; rfl)) ?_; (with_reducible refine (spec_newReader.calls _ _ l0 t716 t717 w _ ?side1 ?side2 ?side3 A2.out).mono ?_); (case side1 => exact HB.out); (case side2 => exact HR0.out); (case side3 => exact HC0.out); rintro e w5 ⟨g718, rfl, hi, hb, hb2⟩; refine ⟨_, rfl, ?_⟩; have n0_ := Aside0.mk (hb); have n1_ := Aside0.mk (hi); clear HB; have HB := n0_; have HI718 := n1_; clear n0_ n1_; (try clear hb); (try clear hb2); (try clear hk); (try clear hi)) | ((with_reducible refine gate_callee (f := 81) rfl ?_); refine goesL_ (some 17) rfl rfl Tryd.func81 (by kernel_rfl) rfl #[.pointer (some ⟨g718, 0, none⟩)] rfl (by (try simp only [List.map_toArray, List.map_cons, List.map_nil]); first | done | rfl | (simp only [List.length_drop, List.length_take]; rfl)) ?_; (with_reducible refine (spec_anyGraph.calls g718 t716 t717 t719 t722 w _ ?side1 ?side2 A3.out).mono ?_); (case side1 => exact HI718.out); (case side2 => exact HB.out); rintro e w6 ⟨v720, rfl, ho0, hi, hb, hk⟩; refine ⟨_, rfl, ?_⟩; have n0_ := Aside0.mk (Kd.S_lower ho0 (below_size HB.out)); have n1_ := Aside0.mk (hb); have n2_ := Aside0.mk (hi); clear HB; clear HI718; have HO721 := n0_; have HB := n1_; have HI718 := n2_; clear n0_ n1_ n2_; (try clear hb); (try clear hb2); (try clear hk); (try clear hi); (try clear ho0)) | ((with_reducible refine gate_callee (f := 88) rfl ?_); refine goesL_ (some 19) rfl rfl Tryd.func88 (by kernel_rfl) rfl #[.pointer (some ⟨g718, 0, none⟩)] rfl (by (try simp only [List.map_toArray, List.map_cons, List.map_nil]); first | done | rfl | (simp only [List.length_drop, List.length_take]; rfl)) ?_; (with_reducible refine (spec_someRoom.calls k g718 t716 t722 t723 t726 w _ ?side1 ?side2 A4.out).mono ?_); (case side1 => exact HI718.out); (case side2 => exact HB.out); rintro e w7 ⟨v724, rfl, ho0, hi, hb, hk⟩; refine ⟨_, rfl, ?_⟩; have n0_ := Aside0.mk (Kd.S_mono (Kd.S_told (Kd.S_oldK (IsS116.apartS (show IsS116 w _ g718 t716 t722 from HI718.out) HO721.out (by decide)) hk) (Kd.Q_base ho0)) (fun _ h_ => h_.1)); have n1_ := Aside0.mk (Kd.Q_lower ho0 (below_size HB.out)); have n2_ := Aside0.mk (hb); have n3_ := Aside0.mk (hi); clear HO721; clear HB; clear HI718; have HO721 := n0_; have HO725 := n1_; have HB := n2_; have HI718 := n3_; clear n0_ n1_ n2_ n3_; (try clear hb); (try clear hb2); (try clear hk); (try clear hi); (try clear ho0)) | ((with_reducible refine gate_dst (N := 20) rfl ?_); refine Kd.R_lit (Kd.int .i64) _ 3 ?hg (N := 20) ?hd (xs := ([] : List Int)) (inner := []) (ok := fun _ => True) (okp := fun _ => True) ?hr ?hp (fun _ hk => hk) trivial (Below.refl _ _) (Nat.le_refl _) (by simp) ?_; (case hd => rfl); (case hg => rfl); (case hr => first | (go_simp; done) | (go_simp; rfl)); (case hp => exact (Reps.none _ _)); intro v728 w8 ho9 hb hg_ hnew_; clear hg_ hnew_; (first | rw [← Ny727.out] at ho9 | (simp only [Int.reduceToNat] at ho9; rw [← Ny727.out] at ho9)); have n0_ := Aside0.mk (Kd.S_elder' HO721.out (Kd.R_base ho9) hb); have n1_ := Aside0.mk (Kd.Q_elder' HO725.out (Kd.R_base ho9) hb); have n2_ := Aside0.mk (Kd.R_lower (Kd.R_new' ho9 (Kd.Q_lt HO725.out)) (below_size HB.out)); have n3_ := Aside0.mk (IsS116.below HI718.out hb); have n4_ := Aside0.mk (below_step HB.out hb); clear HO721; clear HO725; clear HI718; clear HB; have HO721 := n0_; have HO725 := n1_; have HO729 := n2_; have HI718 := n3_; have HB := n4_; clear n0_ n1_ n2_ n3_ n4_; clear hb ho9) | ((with_reducible refine gate_dst (N := 21) rfl ?_); refine Kd.R_lit (Kd.int .i64) _ 3 ?hg (N := 21) ?hd (xs := ([] : List Int)) (inner := []) (ok := fun _ => True) (okp := fun _ => True) ?hr ?hp (fun _ hk => hk) trivial (Below.refl _ _) (Nat.le_refl _) (by simp) ?_; (case hd => rfl); (case hg => rfl); (case hr => first | (go_simp; done) | (go_simp; rfl)); (case hp => exact (Reps.none _ _)); intro v731 w10 ho11 hb hg_ hnew_; clear hg_ hnew_; (first | rw [← Ny730.out] at ho11 | (simp only [Int.reduceToNat] at ho11; rw [← Ny730.out] at ho11)); have n0_ := Aside0.mk (Kd.S_elder' HO721.out (Kd.R_base ho11) hb); have n1_ := Aside0.mk (Kd.Q_elder' HO725.out (Kd.R_base ho11) hb); have n2_ := Aside0.mk (Kd.R_elder' HO729.out (Kd.R_base ho11) hb); have n3_ := Aside0.mk (Kd.R_lower (Kd.R_new' (Kd.R_new' ho11 (Kd.Q_lt HO725.out)) (Kd.R_lt HO729.out)) (below_size HB.out)); have n4_ := Aside0.mk (IsS116.below HI718.out hb); have n5_ := Aside0.mk (below_step HB.out hb); clear HO721; clear HO725; clear HO729; clear HI718; clear HB; have HO721 := n0_; have HO725 := n1_; have HO729 := n2_; have HO732 := n3_; have HI718 := n4_; have HB := n5_; clear n0_ n1_ n2_ n3_ n4_ n5_; clear hb ho11))
 go_loopg [10, 11, 12] k (fun kq v10 v11 v12 w' => ∃ (x10_1 : List Int) (x11_1 : List Int) (x12_1 : Int) (x719001_1 : Int), v12 = .int .i64 x12_1 ∧ Aside0 (spec_DrawAdmitTasks.l0 kq t719 t723 x10_1 x11_1 x12_1 t716 x719001_1 = some (r1, r2, r3, r4, r5)) ∧ Aside0 (kq ≤ k) ∧ Aside0 (Kd.S k48 48 w' w.heap.size (fun k_ => some k_ ≠ (v724 : Value).ownBlock ∧ some k_ ≠ (v10 : Value).ownBlock ∧ some k_ ≠ (v11 : Value).ownBlock) v720 t719) ∧ Aside0 (Kd.Q (Kd.int .i64) 3 w' w.heap.size (fun k_ => some k_ ≠ (v10 : Value).ownBlock ∧ some k_ ≠ (v11 : Value).ownBlock) v724 t723) ∧ Aside0 (Kd.R (Kd.int .i64) 3 w' w.heap.size (fun k_ => some k_ ≠ (v724 : Value).ownBlock ∧ some k_ ≠ (v11 : Value).ownBlock) v10 x10_1) ∧ Aside0 (Kd.R (Kd.int .i64) 3 w' w.heap.size (fun k_ => some k_ ≠ (v724 : Value).ownBlock ∧ some k_ ≠ (v10 : Value).ownBlock) v11 x11_1) ∧ Aside0 (IsS116 w w' g718 t716 x719001_1) ∧ Aside0 (Below w.heap.size w w'))
 case atStart => exact ⟨(y727), (y730), (0), (t726), (by first | rfl | (simp; done) | (simp [*]; done)), H', ⟨Nat.le_refl _⟩, ⟨by (with_reducible repeat (first | apply Kd.S_alloc | apply Kd.S_drewN | apply Kd.S_drew)); exact Kd.S_mono HO721.out (fun _ hk => ⟨hk.1.1.2, ⟨hk.1.2, hk.2⟩⟩)⟩, ⟨by (with_reducible repeat (first | apply Kd.Q_alloc | apply Kd.Q_drewN | apply Kd.Q_drew)); exact Kd.Q_mono HO725.out (fun _ hk => ⟨hk.1.2, hk.2⟩)⟩, ⟨by (with_reducible repeat (first | apply Kd.R_alloc | apply Kd.R_drewN | apply Kd.R_drew)); exact Kd.R_mono HO729.out (fun _ hk => ⟨hk.1.2, hk.2⟩)⟩, ⟨by (with_reducible repeat (first | apply Kd.R_alloc | apply Kd.R_drewN | apply Kd.R_drew)); exact Kd.R_mono HO732.out (fun _ hk => ⟨hk.1.2, hk.2⟩)⟩, ⟨HI718.out⟩, ⟨HB.out⟩⟩
 case round =>
  clear H'
  try clear p2
  try clear c4
  try clear c8
  obtain ⟨x10_1, x11_1, x12_1, x719001_1, rfl, HA, HK1, HO_8, HO_9, HO_10, HO_11, HI718, HB⟩ := hrel
  cases gk with
  | zero => exact absurd HA.out (by simp [spec_DrawAdmitTasks.l0])
  | succ k1 =>
   have H := HA.out
   clear HA
   simp only [spec_DrawAdmitTasks.l0] at H
   by_cases c12 : x12_1 < (t719.length : Int)
   ·rw [if_pos c12] at H
    have c12b0 : decide (x12_1 < (t719.length : Int)) = true := decide_eq_true c12
    clear c12
    replace H := Option.bind_eq_some_iff.mp H
    obtain ⟨⟨t733, t734⟩, A130, H⟩ := H
    replace H : (if t733 = 0 then ((spec_copyInts.f x10_1).bind fun t735 => (if t735.length < 17592186044416 then ((spec_validRunning.f k1 t719 t723 (t735 ++ [x12_1])).bind fun t741 => (if t741 = true then (if x10_1.length < 17592186044416 then (spec_DrawAdmitTasks.l0 k1 t719 t723 (x10_1 ++ [x12_1]) x11_1 (wrap64 (x12_1 + 1)) t716 t734) else (none)) else (spec_DrawAdmitTasks.l0 k1 t719 t723 x10_1 x11_1 (wrap64 (x12_1 + 1)) t716 t734))) else (none))) else (if t733 = 1 then (if x11_1.length < 17592186044416 then (spec_DrawAdmitTasks.l0 k1 t719 t723 x10_1 (x11_1 ++ [x12_1]) (wrap64 (x12_1 + 1)) t716 t734) else (none)) else (if t733 = 2 then (if x11_1.length < 17592186044416 then (spec_DrawAdmitTasks.l0 k1 t719 t723 x10_1 (x11_1 ++ [x12_1]) (wrap64 (x12_1 + 1)) t716 t734) else (none)) else (spec_DrawAdmitTasks.l0 k1 t719 t723 x10_1 x11_1 (wrap64 (x12_1 + 1)) t716 t734)))) = some (r1, r2, r3, r4, r5) := H
    have A13 := Aside0.mk A130
    clear A130
    by_cases c14 : t733 = 0
    ·rw [if_pos c14] at H
     have c14b0 : (t733 == 0) = true := beq_iff_eq.mpr c14
     have c14b1 : (t733 != 0) = false := bne_eq_false_iff_eq.mpr c14
     clear c14
     replace H := Option.bind_eq_some_iff.mp H
     obtain ⟨t735, A150, H⟩ := H
     replace H : (if t735.length < 17592186044416 then ((spec_validRunning.f k1 t719 t723 (t735 ++ [x12_1])).bind fun t741 => (if t741 = true then (if x10_1.length < 17592186044416 then (spec_DrawAdmitTasks.l0 k1 t719 t723 (x10_1 ++ [x12_1]) x11_1 (wrap64 (x12_1 + 1)) t716 t734) else (none)) else (spec_DrawAdmitTasks.l0 k1 t719 t723 x10_1 x11_1 (wrap64 (x12_1 + 1)) t716 t734))) else (none)) = some (r1, r2, r3, r4, r5) := H
     have A15 := Aside0.mk A150
     clear A150
     by_cases c16 : t735.length < 17592186044416
     ·rw [if_pos c16] at H
      have LMc16 := Aside0.mk c16
      clear c16
      obtain ⟨y738, hy738⟩ : ∃ y_ : List Int, y_ = (t735 ++ [x12_1]) := ⟨_, rfl⟩
      replace H : ((spec_validRunning.f k1 t719 t723 y738).bind fun t741 => (if t741 = true then (if x10_1.length < 17592186044416 then (spec_DrawAdmitTasks.l0 k1 t719 t723 (x10_1 ++ [x12_1]) x11_1 (wrap64 (x12_1 + 1)) t716 t734) else (none)) else (spec_DrawAdmitTasks.l0 k1 t719 t723 x10_1 x11_1 (wrap64 (x12_1 + 1)) t716 t734))) = some (r1, r2, r3, r4, r5) := by first | (rw [hy738]; with_reducible exact H) | (have H2_ := (Option.bind_some _ _).symm.trans H; rw [hy738]; with_reducible exact H2_) | (have H2_ := (Option.bind_some _ _).symm.trans H; with_reducible exact H2_) | with_reducible exact H | (rw [hy738]; exact H) | exact H
      have Ny738 := Aside0.mk hy738
      clear hy738
      replace H := Option.bind_eq_some_iff.mp H
      obtain ⟨t741, A170, H⟩ := H
      replace H : (if t741 = true then (if x10_1.length < 17592186044416 then (spec_DrawAdmitTasks.l0 k1 t719 t723 (x10_1 ++ [x12_1]) x11_1 (wrap64 (x12_1 + 1)) t716 t734) else (none)) else (spec_DrawAdmitTasks.l0 k1 t719 t723 x10_1 x11_1 (wrap64 (x12_1 + 1)) t716 t734)) = some (r1, r2, r3, r4, r5) := H
      have A17 := Aside0.mk A170
      clear A170
      by_cases c18 : t741 = true
      ·subst c18
       have H1 : (if x10_1.length < 17592186044416 then (spec_DrawAdmitTasks.l0 k1 t719 t723 (x10_1 ++ [x12_1]) x11_1 (wrap64 (x12_1 + 1)) t716 t734) else (none)) = some (r1, r2, r3, r4, r5) := by rw [if_pos rfl] at H; exact H
       clear H
       have H := H1
       clear H1
       by_cases c19 : x10_1.length < 17592186044416
       ·rw [if_pos c19] at H
        have LMc19 := Aside0.mk c19
        clear c19
        obtain ⟨y742, hy742⟩ : ∃ y_ : List Int, y_ = (x10_1 ++ [x12_1]) := ⟨_, rfl⟩
        replace H : (spec_DrawAdmitTasks.l0 k1 t719 t723 y742 x11_1 (wrap64 (x12_1 + 1)) t716 t734) = some (r1, r2, r3, r4, r5) := by first | (rw [hy742]; with_reducible exact H) | (have H2_ := (Option.bind_some _ _).symm.trans H; rw [hy742]; with_reducible exact H2_) | (have H2_ := (Option.bind_some _ _).symm.trans H; with_reducible exact H2_) | with_reducible exact H | (rw [hy742]; exact H) | exact H
        have Ny742 := Aside0.mk hy742
        clear hy742
        have H' := Aside0.mk H
        clear H
        obtain ⟨Ao20, co20, eo20⟩ := Kd.S_slice HO_8.out
        subst eo20
        go_wp2_with (first | ((with_reducible refine gate_callee (f := 89) rfl ?_); refine goesL_ (some 29) rfl rfl Tryd.func89 (by kernel_rfl) rfl #[.pointer (some ⟨g718, 0, none⟩), .int .i64 4] rfl (by (try simp only [List.map_toArray, List.map_cons, List.map_nil]); first | done | rfl | (simp only [List.length_drop, List.length_take]; rfl)) ?_; (with_reducible refine (spec_reader_pick.calls k1 g718 t716 x719001_1 4 t733 t734 w _ ?side1 ?side2 A13.out).mono ?_); (case side1 => exact HI718.out); (case side2 => exact HB.out); rintro e w21 ⟨rfl, hi, hb, hk⟩; refine ⟨_, rfl, ?_⟩; have n0_ := Aside0.mk (Kd.S_mono (Kd.S_keep (IsS116.apartS (show IsS116 w _ g718 t716 x719001_1 from HI718.out) HO_8.out (by decide)) hk (fun _ h => h.2)) (fun _ h => h.1)); have n1_ := Aside0.mk (Kd.Q_mono (Kd.Q_keep (IsS116.apartQ (show IsS116 w _ g718 t716 x719001_1 from HI718.out) HO_9.out (by decide)) hk (fun _ h => h.2)) (fun _ h => h.1)); have n2_ := Aside0.mk (Kd.R_mono (Kd.R_keep (IsS116.apart (show IsS116 w _ g718 t716 x719001_1 from HI718.out) HO_10.out (by decide)) hk (fun _ h => h.2)) (fun _ h => h.1)); have n3_ := Aside0.mk (Kd.R_mono (Kd.R_keep (IsS116.apart (show IsS116 w _ g718 t716 x719001_1 from HI718.out) HO_11.out (by decide)) hk (fun _ h => h.2)) (fun _ h => h.1)); have n4_ := Aside0.mk (hb); have n5_ := Aside0.mk (hi); clear HO_8; clear HO_9; clear HO_10; clear HO_11; clear HB; clear HI718; have HO_8 := n0_; have HO_9 := n1_; have HO_10 := n2_; have HO_11 := n3_; have HB := n4_; have HI718 := n5_; clear n0_ n1_ n2_ n3_ n4_ n5_; (try clear hb); (try clear hb2); (try clear hk); (try clear hi); obtain ⟨Ao22, co22, eo22⟩ := Kd.R_slice HO_10.out; subst eo22) | ((with_reducible refine gate_callee (f := 90) rfl ?_); refine goesL_ (some 35) rfl rfl Tryd.func90 (by kernel_rfl) rfl #[.slice Ao22 x10_1.length co22] rfl (by (try simp only [List.map_toArray, List.map_cons, List.map_nil]); first | done | rfl | (simp only [List.length_drop, List.length_take]; rfl)) ?_; (with_reducible refine (spec_copyInts.calls _ _ x10_1 t735 _ ?side1 ?side2 A15.out).mono ?_); (case side1 => exact (Kd.R_reads' HO_10.out).2.2); (case side2 => exact (Kd.R_reads' HO_10.out).2.1); rintro e w23 ⟨v736, rfl, ho0, hb⟩; refine ⟨_, rfl, ?_⟩; have n0_ := Aside0.mk (Kd.S_elder' HO_8.out (Kd.R_base ho0) hb); have n1_ := Aside0.mk (Kd.Q_elder' HO_9.out (Kd.R_base ho0) hb); have n2_ := Aside0.mk (Kd.R_elder' HO_10.out (Kd.R_base ho0) hb); have n3_ := Aside0.mk (Kd.R_elder' HO_11.out (Kd.R_base ho0) hb); have n4_ := Aside0.mk (Kd.R_lower (Kd.R_new' (Kd.R_new' (Kd.R_new' ho0 (Kd.Q_lt HO_9.out)) (Kd.R_lt HO_10.out)) (Kd.R_lt HO_11.out)) (below_size HB.out)); have n5_ := Aside0.mk (IsS116.below HI718.out hb); have n6_ := Aside0.mk (below_step HB.out hb); clear HO_8; clear HO_9; clear HO_10; clear HO_11; clear HI718; clear HB; have HO_8 := n0_; have HO_9 := n1_; have HO_10 := n2_; have HO_11 := n3_; have HO737 := n4_; have HI718 := n5_; have HB := n6_; clear n0_ n1_ n2_ n3_ n4_ n5_ n6_; (try clear hb); (try clear hb2); (try clear hk); (try clear hi); (try clear ho0)) | ((with_reducible refine gate_builtin (b := .append) (xs := #[.tmp 35, .tmp 37]) rfl ?_); at_builtin; refine Kd.R_append (Kd.int .i64) (w0 := w) w.heap.size rfl (.tmp 35) (.tmp 37) 23 3 (.int .i64 0) 8 rfl Tryd.underlying23 info3 rfl (by decide) (by omega) v736 t735 x12_1 [.int .i64 x12_1] (fun k_ => some k_ ≠ (v724 : Value).ownBlock ∧ some k_ ≠ (.slice Ao22 x10_1.length co22 : Value).ownBlock ∧ some k_ ≠ (u11 : Value).ownBlock) (fun _ => False) rfl rfl ?aP (fun _ hk => hk.elim) ?aF ?aO ?aB ?aS ?aL ?_; (case aP => exact rfl); (case aB => exact HB.out); (case aF => exact (fun k_ hk => ⟨Kd.fresh' (Kd.Q_lt HO_9.out) k_ hk, Kd.fresh' (Kd.R_lt HO_10.out) k_ hk, Kd.fresh' (Kd.R_lt HO_11.out) k_ hk⟩)); (case aO => exact (Kd.R_mono HO737.out (fun _ hk => ⟨hk.1.1.2, ⟨hk.1.2, hk.2⟩⟩))); (case aS => exact (below_size HB.out)); (case aL => have := LMc16.out; omega); intro v739 w24 ho hb hg hat; rw [← Ny738.out] at ho; have n0_ := Aside0.mk (Kd.S_after (ok := (fun k_ => some k_ ≠ (v724 : Value).ownBlock ∧ some k_ ≠ (.slice Ao22 x10_1.length co22 : Value).ownBlock ∧ some k_ ≠ (u11 : Value).ownBlock)) HO_8.out hg hat); have n1_ := Aside0.mk (Kd.Q_after (ok := (fun k_ => some k_ ≠ (.slice Ao22 x10_1.length co22 : Value).ownBlock ∧ some k_ ≠ (u11 : Value).ownBlock)) HO_9.out hg hat); have n2_ := Aside0.mk (Kd.R_after (ok := (fun k_ => some k_ ≠ (v724 : Value).ownBlock ∧ some k_ ≠ (u11 : Value).ownBlock)) HO_10.out hg hat); have n3_ := Aside0.mk (Kd.R_after (ok := (fun k_ => some k_ ≠ (v724 : Value).ownBlock ∧ some k_ ≠ (.slice Ao22 x10_1.length co22 : Value).ownBlock)) HO_11.out hg hat); have n4_ := Aside0.mk (IsS116.grown HI718.out hg (IsS116.own_ne HI718.out HO737.out (by decide))); have n5_ := Aside0.mk (hb); have n6_ := Aside0.mk (ho); clear HO_8; clear HO_9; clear HO_10; clear HO_11; clear HI718; clear HB; clear HO737; have HO_8 := n0_; have HO_9 := n1_; have HO_10 := n2_; have HO_11 := n3_; have HI718 := n4_; have HB := n5_; have HO740 := n6_; clear n0_ n1_ n2_ n3_ n4_ n5_ n6_; clear ho hb hg hat; obtain ⟨Ao25, co25, eo25, _⟩ := Kd.Q_slice HO_9.out; subst eo25; obtain ⟨Ao26, co26, eo26⟩ := Kd.R_slice HO740.out; subst eo26) | ((with_reducible refine gate_callee (f := 53) rfl ?_); refine goesL_ (some 39) rfl rfl Tryd.func53 (by kernel_rfl) rfl #[.slice Ao20 t719.length co20, .slice Ao25 t723.length co25, .slice Ao26 y738.length co26] rfl (by (try simp only [List.map_toArray, List.map_cons, List.map_nil]); first | done | rfl | (simp only [List.length_drop, List.length_take]; rfl)) ?_; (with_reducible refine (spec_validRunning.calls k1 _ _ t719 _ _ t723 _ _ y738 true _ ?side1 ?side2 ?side3 ?side4 ?side5 ?side6 A17.out).mono ?_); (case side1 => exact (Kd.S_reads' HO_8.out).2.2); (case side2 => exact (Kd.S_reads' HO_8.out).2.1); (case side3 => exact (Kd.Q_reads' HO_9.out).2.2); (case side4 => exact (Kd.Q_reads' HO_9.out).2.1); (case side5 => exact (Kd.R_reads' HO740.out).2.2); (case side6 => exact (Kd.R_reads' HO740.out).2.1); rintro e w27 ⟨rfl, hb⟩; refine ⟨_, rfl, ?_⟩; have n0_ := Aside0.mk (Kd.S_below HO_8.out hb); have n1_ := Aside0.mk (Kd.Q_below HO_9.out hb); have n2_ := Aside0.mk (Kd.R_below HO_10.out hb); have n3_ := Aside0.mk (Kd.R_below HO_11.out hb); have n4_ := Aside0.mk (Kd.R_below HO740.out hb); have n5_ := Aside0.mk (IsS116.below HI718.out hb); have n6_ := Aside0.mk (below_step HB.out hb); clear HO_8; clear HO_9; clear HO_10; clear HO_11; clear HO740; clear HI718; clear HB; have HO_8 := n0_; have HO_9 := n1_; have HO_10 := n2_; have HO_11 := n3_; have HO740 := n4_; have HI718 := n5_; have HB := n6_; clear n0_ n1_ n2_ n3_ n4_ n5_ n6_; (try clear hb); (try clear hb2); (try clear hk); (try clear hi)) | ((with_reducible refine gate_builtin (b := .append) (xs := #[.tmp 40, .tmp 42]) rfl ?_); at_builtin; refine Kd.R_append (Kd.int .i64) (w0 := w) w.heap.size rfl (.tmp 40) (.tmp 42) 23 3 (.int .i64 0) 8 rfl Tryd.underlying23 info3 rfl (by decide) (by omega) (.slice Ao22 x10_1.length co22) x10_1 x12_1 [.int .i64 x12_1] (fun k_ => some k_ ≠ (.slice Ao25 t723.length co25 : Value).ownBlock ∧ some k_ ≠ (u11 : Value).ownBlock ∧ some k_ ≠ (.slice Ao26 y738.length co26 : Value).ownBlock) (fun _ => False) rfl rfl ?aP (fun _ hk => hk.elim) ?aF ?aO ?aB ?aS ?aL ?_; (case aP => exact rfl); (case aB => exact HB.out); (case aF => exact (fun k_ hk => ⟨Kd.fresh' (Kd.Q_lt HO_9.out) k_ hk, Kd.fresh' (Kd.R_lt HO_11.out) k_ hk, Kd.fresh' (Kd.R_lt HO740.out) k_ hk⟩)); (case aO => exact (Kd.R_mono HO_10.out (fun _ hk => ⟨hk.1.1, ⟨hk.1.2, hk.2⟩⟩))); (case aS => exact (below_size HB.out)); (case aL => have := LMc19.out; omega); intro v743 w28 ho hb hg hat; rw [← Ny742.out] at ho; have n0_ := Aside0.mk (Kd.S_after (ok := (fun k_ => some k_ ≠ (.slice Ao25 t723.length co25 : Value).ownBlock ∧ some k_ ≠ (u11 : Value).ownBlock ∧ some k_ ≠ (.slice Ao26 y738.length co26 : Value).ownBlock)) (Kd.S_mono HO_8.out (fun _ hk => ⟨⟨hk.1.1, ⟨hk.1.2.2, hk.2⟩⟩, hk.1.2.1⟩)) hg hat); have n1_ := Aside0.mk (Kd.Q_after (ok := (fun k_ => some k_ ≠ (u11 : Value).ownBlock ∧ some k_ ≠ (.slice Ao26 y738.length co26 : Value).ownBlock)) (Kd.Q_mono HO_9.out (fun _ hk => ⟨⟨hk.1.2, hk.2⟩, hk.1.1⟩)) hg hat); have n2_ := Aside0.mk (Kd.R_after (ok := (fun k_ => some k_ ≠ (.slice Ao25 t723.length co25 : Value).ownBlock ∧ some k_ ≠ (.slice Ao26 y738.length co26 : Value).ownBlock)) (Kd.R_mono HO_11.out (fun _ hk => ⟨⟨hk.1.1, hk.2⟩, hk.1.2⟩)) hg hat); have n3_ := Aside0.mk (IsS116.grown HI718.out hg (IsS116.own_ne HI718.out HO_10.out (by decide))); have n4_ := Aside0.mk (Kd.R_after (ok := (fun k_ => some k_ ≠ (.slice Ao25 t723.length co25 : Value).ownBlock ∧ some k_ ≠ (u11 : Value).ownBlock)) (Kd.R_mono HO740.out (fun _ hk => ⟨⟨hk.1, hk.2.2⟩, hk.2.1⟩)) hg hat); have n5_ := Aside0.mk (hb); have n6_ := Aside0.mk (ho); clear HO_8; clear HO_9; clear HO_11; clear HI718; clear HO740; clear HB; clear HO_10; have HO_8 := n0_; have HO_9 := n1_; have HO_11 := n2_; have HI718 := n3_; have HO740 := n4_; have HB := n5_; have HO744 := n6_; clear n0_ n1_ n2_ n3_ n4_ n5_ n6_; clear ho hb hg hat))
        go_roundg k1
        case measure => have := HK1.out; omega
        case rel => exact ⟨(y742), (x11_1), (wrap64 (x12_1 + 1)), (t734), (by first | rfl | (simp; done) | (simp [*]; done)), H', ⟨by have := HK1.out; omega⟩, ⟨by (with_reducible repeat (first | apply Kd.S_alloc | apply Kd.S_drewN | apply Kd.S_drew)); exact Kd.S_mono HO_8.out (fun _ hk => ⟨hk.1.1, ⟨hk.2, hk.1.2.1⟩⟩)⟩, ⟨by (with_reducible repeat (first | apply Kd.Q_alloc | apply Kd.Q_drewN | apply Kd.Q_drew)); exact Kd.Q_mono HO_9.out (fun _ hk => ⟨hk.2, hk.1.1⟩)⟩, ⟨by (with_reducible repeat (first | apply Kd.R_alloc | apply Kd.R_drewN | apply Kd.R_drew)); exact Kd.R_mono HO744.out (fun _ hk => ⟨hk.1, hk.2.1⟩)⟩, ⟨by (with_reducible repeat (first | apply Kd.R_alloc | apply Kd.R_drewN | apply Kd.R_drew)); exact Kd.R_mono HO_11.out (fun _ hk => ⟨hk.1.1, hk.2⟩)⟩, ⟨HI718.out⟩, ⟨HB.out⟩⟩
       ·rw [if_neg c19] at H
        exact absurd H (by simp)
      ·replace c18 := Bool.eq_false_iff.mpr c18
       subst c18
       have H1 : (spec_DrawAdmitTasks.l0 k1 t719 t723 x10_1 x11_1 (wrap64 (x12_1 + 1)) t716 t734) = some (r1, r2, r3, r4, r5) := by rw [if_neg (show ¬ (false = true) by decide)] at H; exact H
       clear H
       have H := H1
       clear H1
       have H' := Aside0.mk H
       clear H
       obtain ⟨Ao29, co29, eo29⟩ := Kd.S_slice HO_8.out
       subst eo29
       go_wp2_with (first | ((with_reducible refine gate_callee (f := 89) rfl ?_); refine goesL_ (some 29) rfl rfl Tryd.func89 (by kernel_rfl) rfl #[.pointer (some ⟨g718, 0, none⟩), .int .i64 4] rfl (by (try simp only [List.map_toArray, List.map_cons, List.map_nil]); first | done | rfl | (simp only [List.length_drop, List.length_take]; rfl)) ?_; (with_reducible refine (spec_reader_pick.calls k1 g718 t716 x719001_1 4 t733 t734 w _ ?side1 ?side2 A13.out).mono ?_); (case side1 => exact HI718.out); (case side2 => exact HB.out); rintro e w30 ⟨rfl, hi, hb, hk⟩; refine ⟨_, rfl, ?_⟩; have n0_ := Aside0.mk (Kd.S_mono (Kd.S_keep (IsS116.apartS (show IsS116 w _ g718 t716 x719001_1 from HI718.out) HO_8.out (by decide)) hk (fun _ h => h.2)) (fun _ h => h.1)); have n1_ := Aside0.mk (Kd.Q_mono (Kd.Q_keep (IsS116.apartQ (show IsS116 w _ g718 t716 x719001_1 from HI718.out) HO_9.out (by decide)) hk (fun _ h => h.2)) (fun _ h => h.1)); have n2_ := Aside0.mk (Kd.R_mono (Kd.R_keep (IsS116.apart (show IsS116 w _ g718 t716 x719001_1 from HI718.out) HO_10.out (by decide)) hk (fun _ h => h.2)) (fun _ h => h.1)); have n3_ := Aside0.mk (Kd.R_mono (Kd.R_keep (IsS116.apart (show IsS116 w _ g718 t716 x719001_1 from HI718.out) HO_11.out (by decide)) hk (fun _ h => h.2)) (fun _ h => h.1)); have n4_ := Aside0.mk (hb); have n5_ := Aside0.mk (hi); clear HO_8; clear HO_9; clear HO_10; clear HO_11; clear HB; clear HI718; have HO_8 := n0_; have HO_9 := n1_; have HO_10 := n2_; have HO_11 := n3_; have HB := n4_; have HI718 := n5_; clear n0_ n1_ n2_ n3_ n4_ n5_; (try clear hb); (try clear hb2); (try clear hk); (try clear hi); obtain ⟨Ao31, co31, eo31⟩ := Kd.R_slice HO_10.out; subst eo31) | ((with_reducible refine gate_callee (f := 90) rfl ?_); refine goesL_ (some 35) rfl rfl Tryd.func90 (by kernel_rfl) rfl #[.slice Ao31 x10_1.length co31] rfl (by (try simp only [List.map_toArray, List.map_cons, List.map_nil]); first | done | rfl | (simp only [List.length_drop, List.length_take]; rfl)) ?_; (with_reducible refine (spec_copyInts.calls _ _ x10_1 t735 _ ?side1 ?side2 A15.out).mono ?_); (case side1 => exact (Kd.R_reads' HO_10.out).2.2); (case side2 => exact (Kd.R_reads' HO_10.out).2.1); rintro e w32 ⟨v736, rfl, ho0, hb⟩; refine ⟨_, rfl, ?_⟩; have n0_ := Aside0.mk (Kd.S_elder' HO_8.out (Kd.R_base ho0) hb); have n1_ := Aside0.mk (Kd.Q_elder' HO_9.out (Kd.R_base ho0) hb); have n2_ := Aside0.mk (Kd.R_elder' HO_10.out (Kd.R_base ho0) hb); have n3_ := Aside0.mk (Kd.R_elder' HO_11.out (Kd.R_base ho0) hb); have n4_ := Aside0.mk (Kd.R_lower (Kd.R_new' (Kd.R_new' (Kd.R_new' ho0 (Kd.Q_lt HO_9.out)) (Kd.R_lt HO_10.out)) (Kd.R_lt HO_11.out)) (below_size HB.out)); have n5_ := Aside0.mk (IsS116.below HI718.out hb); have n6_ := Aside0.mk (below_step HB.out hb); clear HO_8; clear HO_9; clear HO_10; clear HO_11; clear HI718; clear HB; have HO_8 := n0_; have HO_9 := n1_; have HO_10 := n2_; have HO_11 := n3_; have HO737 := n4_; have HI718 := n5_; have HB := n6_; clear n0_ n1_ n2_ n3_ n4_ n5_ n6_; (try clear hb); (try clear hb2); (try clear hk); (try clear hi); (try clear ho0)) | ((with_reducible refine gate_builtin (b := .append) (xs := #[.tmp 35, .tmp 37]) rfl ?_); at_builtin; refine Kd.R_append (Kd.int .i64) (w0 := w) w.heap.size rfl (.tmp 35) (.tmp 37) 23 3 (.int .i64 0) 8 rfl Tryd.underlying23 info3 rfl (by decide) (by omega) v736 t735 x12_1 [.int .i64 x12_1] (fun k_ => some k_ ≠ (v724 : Value).ownBlock ∧ some k_ ≠ (.slice Ao31 x10_1.length co31 : Value).ownBlock ∧ some k_ ≠ (u11 : Value).ownBlock) (fun _ => False) rfl rfl ?aP (fun _ hk => hk.elim) ?aF ?aO ?aB ?aS ?aL ?_; (case aP => exact rfl); (case aB => exact HB.out); (case aF => exact (fun k_ hk => ⟨Kd.fresh' (Kd.Q_lt HO_9.out) k_ hk, Kd.fresh' (Kd.R_lt HO_10.out) k_ hk, Kd.fresh' (Kd.R_lt HO_11.out) k_ hk⟩)); (case aO => exact (Kd.R_mono HO737.out (fun _ hk => ⟨hk.1.1.2, ⟨hk.1.2, hk.2⟩⟩))); (case aS => exact (below_size HB.out)); (case aL => have := LMc16.out; omega); intro v739 w33 ho hb hg hat; rw [← Ny738.out] at ho; have n0_ := Aside0.mk (Kd.S_after (ok := (fun k_ => some k_ ≠ (v724 : Value).ownBlock ∧ some k_ ≠ (.slice Ao31 x10_1.length co31 : Value).ownBlock ∧ some k_ ≠ (u11 : Value).ownBlock)) HO_8.out hg hat); have n1_ := Aside0.mk (Kd.Q_after (ok := (fun k_ => some k_ ≠ (.slice Ao31 x10_1.length co31 : Value).ownBlock ∧ some k_ ≠ (u11 : Value).ownBlock)) HO_9.out hg hat); have n2_ := Aside0.mk (Kd.R_after (ok := (fun k_ => some k_ ≠ (v724 : Value).ownBlock ∧ some k_ ≠ (u11 : Value).ownBlock)) HO_10.out hg hat); have n3_ := Aside0.mk (Kd.R_after (ok := (fun k_ => some k_ ≠ (v724 : Value).ownBlock ∧ some k_ ≠ (.slice Ao31 x10_1.length co31 : Value).ownBlock)) HO_11.out hg hat); have n4_ := Aside0.mk (IsS116.grown HI718.out hg (IsS116.own_ne HI718.out HO737.out (by decide))); have n5_ := Aside0.mk (hb); have n6_ := Aside0.mk (ho); clear HO_8; clear HO_9; clear HO_10; clear HO_11; clear HI718; clear HB; clear HO737; have HO_8 := n0_; have HO_9 := n1_; have HO_10 := n2_; have HO_11 := n3_; have HI718 := n4_; have HB := n5_; have HO740 := n6_; clear n0_ n1_ n2_ n3_ n4_ n5_ n6_; clear ho hb hg hat; obtain ⟨Ao34, co34, eo34, _⟩ := Kd.Q_slice HO_9.out; subst eo34; obtain ⟨Ao35, co35, eo35⟩ := Kd.R_slice HO740.out; subst eo35) | ((with_reducible refine gate_callee (f := 53) rfl ?_); refine goesL_ (some 39) rfl rfl Tryd.func53 (by kernel_rfl) rfl #[.slice Ao29 t719.length co29, .slice Ao34 t723.length co34, .slice Ao35 y738.length co35] rfl (by (try simp only [List.map_toArray, List.map_cons, List.map_nil]); first | done | rfl | (simp only [List.length_drop, List.length_take]; rfl)) ?_; (with_reducible refine (spec_validRunning.calls k1 _ _ t719 _ _ t723 _ _ y738 false _ ?side1 ?side2 ?side3 ?side4 ?side5 ?side6 A17.out).mono ?_); (case side1 => exact (Kd.S_reads' HO_8.out).2.2); (case side2 => exact (Kd.S_reads' HO_8.out).2.1); (case side3 => exact (Kd.Q_reads' HO_9.out).2.2); (case side4 => exact (Kd.Q_reads' HO_9.out).2.1); (case side5 => exact (Kd.R_reads' HO740.out).2.2); (case side6 => exact (Kd.R_reads' HO740.out).2.1); rintro e w36 ⟨rfl, hb⟩; refine ⟨_, rfl, ?_⟩; have n0_ := Aside0.mk (Kd.S_below HO_8.out hb); have n1_ := Aside0.mk (Kd.Q_below HO_9.out hb); have n2_ := Aside0.mk (Kd.R_below HO_10.out hb); have n3_ := Aside0.mk (Kd.R_below HO_11.out hb); have n4_ := Aside0.mk (Kd.R_below HO740.out hb); have n5_ := Aside0.mk (IsS116.below HI718.out hb); have n6_ := Aside0.mk (below_step HB.out hb); clear HO_8; clear HO_9; clear HO_10; clear HO_11; clear HO740; clear HI718; clear HB; have HO_8 := n0_; have HO_9 := n1_; have HO_10 := n2_; have HO_11 := n3_; have HO740 := n4_; have HI718 := n5_; have HB := n6_; clear n0_ n1_ n2_ n3_ n4_ n5_ n6_; (try clear hb); (try clear hb2); (try clear hk); (try clear hi)))
       go_roundg k1
       case measure => have := HK1.out; omega
       case rel => exact ⟨(x10_1), (x11_1), (wrap64 (x12_1 + 1)), (t734), (by first | rfl | (simp; done) | (simp [*]; done)), H', ⟨by have := HK1.out; omega⟩, ⟨by (with_reducible repeat (first | apply Kd.S_alloc | apply Kd.S_drewN | apply Kd.S_drew)); exact Kd.S_mono HO_8.out (fun _ hk => ⟨hk.1.1, ⟨hk.1.2.1, hk.1.2.2⟩⟩)⟩, ⟨by (with_reducible repeat (first | apply Kd.Q_alloc | apply Kd.Q_drewN | apply Kd.Q_drew)); exact Kd.Q_mono HO_9.out (fun _ hk => ⟨hk.1.1, hk.1.2⟩)⟩, ⟨by (with_reducible repeat (first | apply Kd.R_alloc | apply Kd.R_drewN | apply Kd.R_drew)); exact Kd.R_mono HO_10.out (fun _ hk => ⟨hk.1.1, hk.1.2⟩)⟩, ⟨by (with_reducible repeat (first | apply Kd.R_alloc | apply Kd.R_drewN | apply Kd.R_drew)); exact Kd.R_mono HO_11.out (fun _ hk => ⟨hk.1.1, hk.1.2⟩)⟩, ⟨HI718.out⟩, ⟨HB.out⟩⟩
     ·rw [if_neg c16] at H
      exact absurd H (by simp)
    ·rw [if_neg c14] at H
     have c14b0 : (t733 == 0) = false := beq_eq_false_iff_ne.mpr c14
     have c14b1 : (t733 != 0) = true := bne_iff_ne.mpr c14
     by_cases c37 : t733 = 1
     ·rw [if_pos c37] at H
      have c37b0 : (t733 == 1) = true := beq_iff_eq.mpr c37
      have c37b1 : (t733 != 1) = false := bne_eq_false_iff_eq.mpr c37
      clear c37
      by_cases c38 : x11_1.length < 17592186044416
      ·rw [if_pos c38] at H
       have LMc38 := Aside0.mk c38
       clear c38
       obtain ⟨y745, hy745⟩ : ∃ y_ : List Int, y_ = (x11_1 ++ [x12_1]) := ⟨_, rfl⟩
       replace H : (spec_DrawAdmitTasks.l0 k1 t719 t723 x10_1 y745 (wrap64 (x12_1 + 1)) t716 t734) = some (r1, r2, r3, r4, r5) := by first | (rw [hy745]; with_reducible exact H) | (have H2_ := (Option.bind_some _ _).symm.trans H; rw [hy745]; with_reducible exact H2_) | (have H2_ := (Option.bind_some _ _).symm.trans H; with_reducible exact H2_) | with_reducible exact H | (rw [hy745]; exact H) | exact H
       have Ny745 := Aside0.mk hy745
       clear hy745
       have H' := Aside0.mk H
       clear H
       obtain ⟨Ao39, co39, eo39⟩ := Kd.S_slice HO_8.out
       subst eo39
       go_wp2_with (first | ((with_reducible refine gate_callee (f := 89) rfl ?_); refine goesL_ (some 29) rfl rfl Tryd.func89 (by kernel_rfl) rfl #[.pointer (some ⟨g718, 0, none⟩), .int .i64 4] rfl (by (try simp only [List.map_toArray, List.map_cons, List.map_nil]); first | done | rfl | (simp only [List.length_drop, List.length_take]; rfl)) ?_; (with_reducible refine (spec_reader_pick.calls k1 g718 t716 x719001_1 4 t733 t734 w _ ?side1 ?side2 A13.out).mono ?_); (case side1 => exact HI718.out); (case side2 => exact HB.out); rintro e w40 ⟨rfl, hi, hb, hk⟩; refine ⟨_, rfl, ?_⟩; have n0_ := Aside0.mk (Kd.S_mono (Kd.S_keep (IsS116.apartS (show IsS116 w _ g718 t716 x719001_1 from HI718.out) HO_8.out (by decide)) hk (fun _ h => h.2)) (fun _ h => h.1)); have n1_ := Aside0.mk (Kd.Q_mono (Kd.Q_keep (IsS116.apartQ (show IsS116 w _ g718 t716 x719001_1 from HI718.out) HO_9.out (by decide)) hk (fun _ h => h.2)) (fun _ h => h.1)); have n2_ := Aside0.mk (Kd.R_mono (Kd.R_keep (IsS116.apart (show IsS116 w _ g718 t716 x719001_1 from HI718.out) HO_10.out (by decide)) hk (fun _ h => h.2)) (fun _ h => h.1)); have n3_ := Aside0.mk (Kd.R_mono (Kd.R_keep (IsS116.apart (show IsS116 w _ g718 t716 x719001_1 from HI718.out) HO_11.out (by decide)) hk (fun _ h => h.2)) (fun _ h => h.1)); have n4_ := Aside0.mk (hb); have n5_ := Aside0.mk (hi); clear HO_8; clear HO_9; clear HO_10; clear HO_11; clear HB; clear HI718; have HO_8 := n0_; have HO_9 := n1_; have HO_10 := n2_; have HO_11 := n3_; have HB := n4_; have HI718 := n5_; clear n0_ n1_ n2_ n3_ n4_ n5_; (try clear hb); (try clear hb2); (try clear hk); (try clear hi)) | ((with_reducible refine gate_builtin (b := .append) (xs := #[.tmp 47, .tmp 49]) rfl ?_); at_builtin; refine Kd.R_append (Kd.int .i64) (w0 := w) w.heap.size rfl (.tmp 47) (.tmp 49) 23 3 (.int .i64 0) 8 rfl Tryd.underlying23 info3 rfl (by decide) (by omega) u11 x11_1 x12_1 [.int .i64 x12_1] (fun k_ => some k_ ≠ (v724 : Value).ownBlock ∧ some k_ ≠ (u10 : Value).ownBlock) (fun _ => False) rfl rfl ?aP (fun _ hk => hk.elim) ?aF ?aO ?aB ?aS ?aL ?_; (case aP => exact rfl); (case aB => exact HB.out); (case aF => exact (fun k_ hk => ⟨Kd.fresh' (Kd.Q_lt HO_9.out) k_ hk, Kd.fresh' (Kd.R_lt HO_10.out) k_ hk⟩)); (case aO => exact HO_11.out); (case aS => exact (below_size HB.out)); (case aL => have := LMc38.out; omega); intro v746 w41 ho hb hg hat; rw [← Ny745.out] at ho; have n0_ := Aside0.mk (Kd.S_after (ok := (fun k_ => some k_ ≠ (v724 : Value).ownBlock ∧ some k_ ≠ (u10 : Value).ownBlock)) (Kd.S_mono HO_8.out (fun _ hk => ⟨⟨hk.1, hk.2.1⟩, hk.2.2⟩)) hg hat); have n1_ := Aside0.mk (Kd.Q_after (ok := (fun k_ => some k_ ≠ (u10 : Value).ownBlock)) HO_9.out hg hat); have n2_ := Aside0.mk (Kd.R_after (ok := (fun k_ => some k_ ≠ (v724 : Value).ownBlock)) HO_10.out hg hat); have n3_ := Aside0.mk (IsS116.grown HI718.out hg (IsS116.own_ne HI718.out HO_11.out (by decide))); have n4_ := Aside0.mk (hb); have n5_ := Aside0.mk (ho); clear HO_8; clear HO_9; clear HO_10; clear HI718; clear HB; clear HO_11; have HO_8 := n0_; have HO_9 := n1_; have HO_10 := n2_; have HI718 := n3_; have HB := n4_; have HO747 := n5_; clear n0_ n1_ n2_ n3_ n4_ n5_; clear ho hb hg hat))
       go_roundg k1
       case measure => have := HK1.out; omega
       case rel => exact ⟨(x10_1), (y745), (wrap64 (x12_1 + 1)), (t734), (by first | rfl | (simp; done) | (simp [*]; done)), H', ⟨by have := HK1.out; omega⟩, ⟨by (with_reducible repeat (first | apply Kd.S_alloc | apply Kd.S_drewN | apply Kd.S_drew)); exact Kd.S_mono HO_8.out (fun _ hk => ⟨hk.1.1, ⟨hk.1.2, hk.2⟩⟩)⟩, ⟨HO_9.out⟩, ⟨HO_10.out⟩, ⟨HO747.out⟩, ⟨HI718.out⟩, ⟨HB.out⟩⟩
      ·rw [if_neg c38] at H
       exact absurd H (by simp)
     ·rw [if_neg c37] at H
      have c37b0 : (t733 == 1) = false := beq_eq_false_iff_ne.mpr c37
      have c37b1 : (t733 != 1) = true := bne_iff_ne.mpr c37
      by_cases c42 : t733 = 2
      ·rw [if_pos c42] at H
       have c42b0 : (t733 == 2) = true := beq_iff_eq.mpr c42
       have c42b1 : (t733 != 2) = false := bne_eq_false_iff_eq.mpr c42
       clear c42
       by_cases c43 : x11_1.length < 17592186044416
       ·rw [if_pos c43] at H
        have LMc43 := Aside0.mk c43
        clear c43
        obtain ⟨y748, hy748⟩ : ∃ y_ : List Int, y_ = (x11_1 ++ [x12_1]) := ⟨_, rfl⟩
        replace H : (spec_DrawAdmitTasks.l0 k1 t719 t723 x10_1 y748 (wrap64 (x12_1 + 1)) t716 t734) = some (r1, r2, r3, r4, r5) := by first | (rw [hy748]; with_reducible exact H) | (have H2_ := (Option.bind_some _ _).symm.trans H; rw [hy748]; with_reducible exact H2_) | (have H2_ := (Option.bind_some _ _).symm.trans H; with_reducible exact H2_) | with_reducible exact H | (rw [hy748]; exact H) | exact H
        have Ny748 := Aside0.mk hy748
        clear hy748
        have H' := Aside0.mk H
        clear H
        obtain ⟨Ao44, co44, eo44⟩ := Kd.S_slice HO_8.out
        subst eo44
        go_wp2_with (first | ((with_reducible refine gate_callee (f := 89) rfl ?_); refine goesL_ (some 29) rfl rfl Tryd.func89 (by kernel_rfl) rfl #[.pointer (some ⟨g718, 0, none⟩), .int .i64 4] rfl (by (try simp only [List.map_toArray, List.map_cons, List.map_nil]); first | done | rfl | (simp only [List.length_drop, List.length_take]; rfl)) ?_; (with_reducible refine (spec_reader_pick.calls k1 g718 t716 x719001_1 4 t733 t734 w _ ?side1 ?side2 A13.out).mono ?_); (case side1 => exact HI718.out); (case side2 => exact HB.out); rintro e w45 ⟨rfl, hi, hb, hk⟩; refine ⟨_, rfl, ?_⟩; have n0_ := Aside0.mk (Kd.S_mono (Kd.S_keep (IsS116.apartS (show IsS116 w _ g718 t716 x719001_1 from HI718.out) HO_8.out (by decide)) hk (fun _ h => h.2)) (fun _ h => h.1)); have n1_ := Aside0.mk (Kd.Q_mono (Kd.Q_keep (IsS116.apartQ (show IsS116 w _ g718 t716 x719001_1 from HI718.out) HO_9.out (by decide)) hk (fun _ h => h.2)) (fun _ h => h.1)); have n2_ := Aside0.mk (Kd.R_mono (Kd.R_keep (IsS116.apart (show IsS116 w _ g718 t716 x719001_1 from HI718.out) HO_10.out (by decide)) hk (fun _ h => h.2)) (fun _ h => h.1)); have n3_ := Aside0.mk (Kd.R_mono (Kd.R_keep (IsS116.apart (show IsS116 w _ g718 t716 x719001_1 from HI718.out) HO_11.out (by decide)) hk (fun _ h => h.2)) (fun _ h => h.1)); have n4_ := Aside0.mk (hb); have n5_ := Aside0.mk (hi); clear HO_8; clear HO_9; clear HO_10; clear HO_11; clear HB; clear HI718; have HO_8 := n0_; have HO_9 := n1_; have HO_10 := n2_; have HO_11 := n3_; have HB := n4_; have HI718 := n5_; clear n0_ n1_ n2_ n3_ n4_ n5_; (try clear hb); (try clear hb2); (try clear hk); (try clear hi)) | ((with_reducible refine gate_builtin (b := .append) (xs := #[.tmp 47, .tmp 49]) rfl ?_); at_builtin; refine Kd.R_append (Kd.int .i64) (w0 := w) w.heap.size rfl (.tmp 47) (.tmp 49) 23 3 (.int .i64 0) 8 rfl Tryd.underlying23 info3 rfl (by decide) (by omega) u11 x11_1 x12_1 [.int .i64 x12_1] (fun k_ => some k_ ≠ (v724 : Value).ownBlock ∧ some k_ ≠ (u10 : Value).ownBlock) (fun _ => False) rfl rfl ?aP (fun _ hk => hk.elim) ?aF ?aO ?aB ?aS ?aL ?_; (case aP => exact rfl); (case aB => exact HB.out); (case aF => exact (fun k_ hk => ⟨Kd.fresh' (Kd.Q_lt HO_9.out) k_ hk, Kd.fresh' (Kd.R_lt HO_10.out) k_ hk⟩)); (case aO => exact HO_11.out); (case aS => exact (below_size HB.out)); (case aL => have := LMc43.out; omega); intro v749 w46 ho hb hg hat; rw [← Ny748.out] at ho; have n0_ := Aside0.mk (Kd.S_after (ok := (fun k_ => some k_ ≠ (v724 : Value).ownBlock ∧ some k_ ≠ (u10 : Value).ownBlock)) (Kd.S_mono HO_8.out (fun _ hk => ⟨⟨hk.1, hk.2.1⟩, hk.2.2⟩)) hg hat); have n1_ := Aside0.mk (Kd.Q_after (ok := (fun k_ => some k_ ≠ (u10 : Value).ownBlock)) HO_9.out hg hat); have n2_ := Aside0.mk (Kd.R_after (ok := (fun k_ => some k_ ≠ (v724 : Value).ownBlock)) HO_10.out hg hat); have n3_ := Aside0.mk (IsS116.grown HI718.out hg (IsS116.own_ne HI718.out HO_11.out (by decide))); have n4_ := Aside0.mk (hb); have n5_ := Aside0.mk (ho); clear HO_8; clear HO_9; clear HO_10; clear HI718; clear HB; clear HO_11; have HO_8 := n0_; have HO_9 := n1_; have HO_10 := n2_; have HI718 := n3_; have HB := n4_; have HO750 := n5_; clear n0_ n1_ n2_ n3_ n4_ n5_; clear ho hb hg hat))
        go_roundg k1
        case measure => have := HK1.out; omega
        case rel => exact ⟨(x10_1), (y748), (wrap64 (x12_1 + 1)), (t734), (by first | rfl | (simp; done) | (simp [*]; done)), H', ⟨by have := HK1.out; omega⟩, ⟨by (with_reducible repeat (first | apply Kd.S_alloc | apply Kd.S_drewN | apply Kd.S_drew)); exact Kd.S_mono HO_8.out (fun _ hk => ⟨hk.1.1, ⟨hk.1.2, hk.2⟩⟩)⟩, ⟨HO_9.out⟩, ⟨HO_10.out⟩, ⟨HO750.out⟩, ⟨HI718.out⟩, ⟨HB.out⟩⟩
       ·rw [if_neg c43] at H
        exact absurd H (by simp)
      ·rw [if_neg c42] at H
       have c42b0 : (t733 == 2) = false := beq_eq_false_iff_ne.mpr c42
       have c42b1 : (t733 != 2) = true := bne_iff_ne.mpr c42
       have H' := Aside0.mk H
       clear H
       obtain ⟨Ao47, co47, eo47⟩ := Kd.S_slice HO_8.out
       subst eo47
       go_wp2_with (first | ((with_reducible refine gate_callee (f := 89) rfl ?_); refine goesL_ (some 29) rfl rfl Tryd.func89 (by kernel_rfl) rfl #[.pointer (some ⟨g718, 0, none⟩), .int .i64 4] rfl (by (try simp only [List.map_toArray, List.map_cons, List.map_nil]); first | done | rfl | (simp only [List.length_drop, List.length_take]; rfl)) ?_; (with_reducible refine (spec_reader_pick.calls k1 g718 t716 x719001_1 4 t733 t734 w _ ?side1 ?side2 A13.out).mono ?_); (case side1 => exact HI718.out); (case side2 => exact HB.out); rintro e w48 ⟨rfl, hi, hb, hk⟩; refine ⟨_, rfl, ?_⟩; have n0_ := Aside0.mk (Kd.S_mono (Kd.S_keep (IsS116.apartS (show IsS116 w _ g718 t716 x719001_1 from HI718.out) HO_8.out (by decide)) hk (fun _ h => h.2)) (fun _ h => h.1)); have n1_ := Aside0.mk (Kd.Q_mono (Kd.Q_keep (IsS116.apartQ (show IsS116 w _ g718 t716 x719001_1 from HI718.out) HO_9.out (by decide)) hk (fun _ h => h.2)) (fun _ h => h.1)); have n2_ := Aside0.mk (Kd.R_mono (Kd.R_keep (IsS116.apart (show IsS116 w _ g718 t716 x719001_1 from HI718.out) HO_10.out (by decide)) hk (fun _ h => h.2)) (fun _ h => h.1)); have n3_ := Aside0.mk (Kd.R_mono (Kd.R_keep (IsS116.apart (show IsS116 w _ g718 t716 x719001_1 from HI718.out) HO_11.out (by decide)) hk (fun _ h => h.2)) (fun _ h => h.1)); have n4_ := Aside0.mk (hb); have n5_ := Aside0.mk (hi); clear HO_8; clear HO_9; clear HO_10; clear HO_11; clear HB; clear HI718; have HO_8 := n0_; have HO_9 := n1_; have HO_10 := n2_; have HO_11 := n3_; have HB := n4_; have HI718 := n5_; clear n0_ n1_ n2_ n3_ n4_ n5_; (try clear hb); (try clear hb2); (try clear hk); (try clear hi)))
       go_roundg k1
       case measure => have := HK1.out; omega
       case rel => exact ⟨(x10_1), (x11_1), (wrap64 (x12_1 + 1)), (t734), (by first | rfl | (simp; done) | (simp [*]; done)), H', ⟨by have := HK1.out; omega⟩, ⟨HO_8.out⟩, ⟨HO_9.out⟩, ⟨HO_10.out⟩, ⟨HO_11.out⟩, ⟨HI718.out⟩, ⟨HB.out⟩⟩
   ·rw [if_neg c12] at H
    have c12b0 : decide (x12_1 < (t719.length : Int)) = false := decide_eq_false c12
    clear c12
    have HC49 := Aside0.mk H
    clear H
    obtain ⟨Ao50, co50, eo50⟩ := Kd.S_slice HO_8.out
    subst eo50
    go_upto_region 16 with (fail)
    go_cut [58] (fun v58 wc => ∃ (kq : Nat) (x58_48 : Bool) (x719001_48 : Int), v58 = .bool x58_48 ∧ Aside0 (spec_DrawAdmitTasks.j1 kq t719 t723 x10_1 x11_1 x58_48 t716 x719001_48 = some (r1, r2, r3, r4, r5)) ∧ Aside0 (kq ≤ k1) ∧ Aside0 (Kd.S k48 48 wc w.heap.size (fun k_ => some k_ ≠ (v724 : Value).ownBlock ∧ some k_ ≠ (u10 : Value).ownBlock ∧ some k_ ≠ (u11 : Value).ownBlock) (.slice Ao50 t719.length co50) t719) ∧ Aside0 (Kd.Q (Kd.int .i64) 3 wc w.heap.size (fun k_ => some k_ ≠ (u10 : Value).ownBlock ∧ some k_ ≠ (u11 : Value).ownBlock) v724 t723) ∧ Aside0 (Kd.R (Kd.int .i64) 3 wc w.heap.size (fun k_ => some k_ ≠ (v724 : Value).ownBlock ∧ some k_ ≠ (u11 : Value).ownBlock) u10 x10_1) ∧ Aside0 (Kd.R (Kd.int .i64) 3 wc w.heap.size (fun k_ => some k_ ≠ (v724 : Value).ownBlock ∧ some k_ ≠ (u10 : Value).ownBlock) u11 x11_1) ∧ Aside0 (IsS116 w wc g718 t716 x719001_48) ∧ Aside0 (Below w.heap.size w wc))
    case first =>
     have H := HC49.out
     clear HC49
     by_cases c51 : (x11_1.length : Int) > 1
     ·rw [if_pos c51] at H
      have c51b0 : decide (1 < (x11_1.length : Int)) = true := decide_eq_true c51
      have c51b1 : decide (1 < x11_1.length) = true := decide_eq_true (by omega)
      clear c51
      (first | rw [c51b0] | (simp only [i64_w, i32_w]; rw [c51b0]) | skip)
      replace H := Option.bind_eq_some_iff.mp H
      obtain ⟨⟨t751, t752⟩, A520, H⟩ := H
      replace H : (spec_DrawAdmitTasks.j1 k1 t719 t723 x10_1 x11_1 (t751 == 0) t716 t752) = some (r1, r2, r3, r4, r5) := H
      have A52 := Aside0.mk A520
      clear A520
      have H' := Aside0.mk H
      clear H
      obtain ⟨Ao53, co53, eo53⟩ := Kd.R_slice HO_11.out
      subst eo53
      go_wp2_with (first | (go_at_call 89; (with_reducible refine (spec_reader_pick.calls k1 g718 t716 x719001_1 2 t751 t752 w _ ?side1 ?side2 A52.out).mono ?_); (case side1 => exact HI718.out); (case side2 => exact HB.out); rintro e w54 ⟨rfl, hi, hb, hk⟩; have n0_ := Aside0.mk (Kd.S_mono (Kd.S_keep (IsS116.apartS (show IsS116 w _ g718 t716 x719001_1 from HI718.out) HO_8.out (by decide)) hk (fun _ h => h.2)) (fun _ h => h.1)); have n1_ := Aside0.mk (Kd.Q_mono (Kd.Q_keep (IsS116.apartQ (show IsS116 w _ g718 t716 x719001_1 from HI718.out) HO_9.out (by decide)) hk (fun _ h => h.2)) (fun _ h => h.1)); have n2_ := Aside0.mk (Kd.R_mono (Kd.R_keep (IsS116.apart (show IsS116 w _ g718 t716 x719001_1 from HI718.out) HO_10.out (by decide)) hk (fun _ h => h.2)) (fun _ h => h.1)); have n3_ := Aside0.mk (Kd.R_mono (Kd.R_keep (IsS116.apart (show IsS116 w _ g718 t716 x719001_1 from HI718.out) HO_11.out (by decide)) hk (fun _ h => h.2)) (fun _ h => h.1)); have n4_ := Aside0.mk (hb); have n5_ := Aside0.mk (hi); clear HO_8; clear HO_9; clear HO_10; clear HO_11; clear HB; clear HI718; have HO_8 := n0_; have HO_9 := n1_; have HO_10 := n2_; have HO_11 := n3_; have HB := n4_; have HI718 := n5_; clear n0_ n1_ n2_ n3_ n4_ n5_; (try clear hb); (try clear hb2); (try clear hk); (try clear hi)))
      go_meet
      case rel => exact ⟨_, ((t751 == 0)), (t752), (by first | rfl | (simp; done) | (simp [*]; done)), H', ⟨by have := HK1.out; first | omega | exact Nat.le_refl _⟩, ⟨HO_8.out⟩, ⟨HO_9.out⟩, ⟨HO_10.out⟩, ⟨HO_11.out⟩, ⟨HI718.out⟩, ⟨HB.out⟩⟩
     ·rw [if_neg c51] at H
      have c51b0 : decide (1 < (x11_1.length : Int)) = false := decide_eq_false c51
      have c51b1 : decide (1 < x11_1.length) = false := decide_eq_false (by omega)
      clear c51
      (first | rw [c51b0] | (simp only [i64_w, i32_w]; rw [c51b0]) | skip)
      have H' := Aside0.mk H
      clear H
      obtain ⟨Ao55, co55, eo55⟩ := Kd.R_slice HO_11.out
      subst eo55
      go_wp2
      go_meet
      case rel => exact ⟨_, (false), (x719001_1), (by first | rfl | (simp; done) | (simp [*]; done)), H', ⟨by have := HK1.out; first | omega | exact Nat.le_refl _⟩, ⟨HO_8.out⟩, ⟨HO_9.out⟩, ⟨HO_10.out⟩, ⟨HO_11.out⟩, ⟨HI718.out⟩, ⟨HB.out⟩⟩
    case rest =>
     clear HC49
     try clear c1
     try clear p2
     try clear c3
     try clear c4
     try clear c5
     try clear p6
     try clear c8
     try clear c9
     try clear c12
     try clear c12b0
     try clear c14
     try clear c14b0
     try clear c14b1
     try clear c16
     try clear c18
     try clear c19
     try clear c37
     try clear c37b0
     try clear c37b1
     try clear c38
     try clear c42
     try clear c42b0
     try clear c42b1
     try clear c43
     try clear c46
     try clear c51
     try clear c51b0
     try clear c51b1
     try clear c53
     try clear p2
     obtain ⟨kq, x58_48, x719001_48, rfl, HA, HJ48, HO_8, HO_9, HO_10, HO_11, HI718, HB⟩ := hcut
     cases kq with
     | zero => exact absurd HA.out (by simp [spec_DrawAdmitTasks.j1])
     | succ kj48 =>
      have H := HA.out
      clear HA
      simp only [spec_DrawAdmitTasks.j1] at H
      by_cases c56 : x58_48 = true
      ·subst c56
       have H1 : (if 0 < (x11_1.length : Int) then (if 1 < (x11_1.length : Int) then ((spec_reader_spoil.f kj48 t716 x719001_48 ((x11_1.set (0 : Int).toNat (rd x11_1 1)).set (1 : Int).toNat (rd x11_1 0)) 8).bind fun bt757 => ((spec_reader_one.f kj48 t716 bt757.2 (([2, 3, 1, 4, 0, 5] : List Int))).bind fun bt764 => (some (t719, t723, x10_1, bt757.1, bt764.1)))) else (none)) else (none)) = some (r1, r2, r3, r4, r5) := by rw [if_pos rfl] at H; exact H
       clear H
       have H := H1
       clear H1
       by_cases c57 : 0 < (x11_1.length : Int)
       ·rw [if_pos c57] at H
        have c57b0 : decide (0 < (x11_1.length : Int)) = true := decide_eq_true c57
        have c57b1 : decide (0 < x11_1.length) = true := decide_eq_true (by omega)
        clear c57
        by_cases c58 : 1 < (x11_1.length : Int)
        ·rw [if_pos c58] at H
         have c58b0 : decide (1 < (x11_1.length : Int)) = true := decide_eq_true c58
         have c58b1 : decide (1 < x11_1.length) = true := decide_eq_true (by omega)
         clear c58
         obtain ⟨y755, hy755⟩ : ∃ y_ : List Int, y_ = (x11_1.set (0 : Int).toNat (rd x11_1 1)) := ⟨_, rfl⟩
         replace H : ((spec_reader_spoil.f kj48 t716 x719001_48 (y755.set (1 : Int).toNat (rd x11_1 0)) 8).bind fun bt757 => ((spec_reader_one.f kj48 t716 bt757.2 (([2, 3, 1, 4, 0, 5] : List Int))).bind fun bt764 => (some (t719, t723, x10_1, bt757.1, bt764.1)))) = some (r1, r2, r3, r4, r5) := by first | (rw [hy755]; with_reducible exact H) | (have H2_ := (Option.bind_some _ _).symm.trans H; rw [hy755]; with_reducible exact H2_) | (have H2_ := (Option.bind_some _ _).symm.trans H; with_reducible exact H2_) | with_reducible exact H | (rw [hy755]; exact H) | exact H
         have Ny755 := Aside0.mk hy755
         clear hy755
         obtain ⟨y756, hy756⟩ : ∃ y_ : List Int, y_ = (y755.set (1 : Int).toNat (rd x11_1 0)) := ⟨_, rfl⟩
         replace H : ((spec_reader_spoil.f kj48 t716 x719001_48 y756 8).bind fun bt757 => ((spec_reader_one.f kj48 t716 bt757.2 (([2, 3, 1, 4, 0, 5] : List Int))).bind fun bt764 => (some (t719, t723, x10_1, bt757.1, bt764.1)))) = some (r1, r2, r3, r4, r5) := by first | (rw [hy756]; with_reducible exact H) | (have H2_ := (Option.bind_some _ _).symm.trans H; rw [hy756]; with_reducible exact H2_) | (have H2_ := (Option.bind_some _ _).symm.trans H; with_reducible exact H2_) | with_reducible exact H | (rw [hy756]; exact H) | exact H
         have Ny756 := Aside0.mk hy756
         clear hy756
         replace H := Option.bind_eq_some_iff.mp H
         obtain ⟨⟨t757, t760⟩, A610, H⟩ := H
         replace H : ((spec_reader_one.f kj48 t716 t760 (([2, 3, 1, 4, 0, 5] : List Int))).bind fun bt764 => (some (t719, t723, x10_1, t757, bt764.1))) = some (r1, r2, r3, r4, r5) := H
         have A61 := Aside0.mk A610
         clear A610
         obtain ⟨y761, hy761⟩ : ∃ y_ : List Int, y_ = (([2, 3, 1, 4, 0, 5] : List Int)) := ⟨_, rfl⟩
         replace H : ((spec_reader_one.f kj48 t716 t760 y761).bind fun bt764 => (some (t719, t723, x10_1, t757, bt764.1))) = some (r1, r2, r3, r4, r5) := by first | (rw [hy761]; with_reducible exact H) | (have H2_ := (Option.bind_some _ _).symm.trans H; rw [hy761]; with_reducible exact H2_) | (have H2_ := (Option.bind_some _ _).symm.trans H; with_reducible exact H2_) | with_reducible exact H | (rw [hy761]; exact H) | exact H
         have Ny761 := Aside0.mk hy761
         clear hy761
         replace H := Option.bind_eq_some_iff.mp H
         obtain ⟨⟨t764, t765⟩, A620, H⟩ := H
         replace H : (some (t719, t723, x10_1, t757, t764)) = some (r1, r2, r3, r4, r5) := H
         have A62 := Aside0.mk A620
         clear A620
         simp only [Option.some.injEq, Prod.mk.injEq] at H
         obtain ⟨rfl, rfl, rfl, rfl, rfl⟩ := H
         obtain ⟨Ao63, co63, eo63⟩ := Kd.R_slice HO_11.out
         subst eo63
         have p753 : 0 ≤ (0 : Int) := (by omega)
         have q753 : 0 < (x11_1.length : Int) := of_decide_eq_true (by first | (with_reducible assumption) | assumption)
         obtain ⟨ad753, e753, hx753_0⟩ := Kd.at_int (Kd.R_reads' HO_11.out).2.2 0 p753 q753
         cases e753
         have qi753 : (0 < x11_1.length) = True := eq_true (by omega)
         (try rw [show ((0 : Int)).toNat = 0 from rfl] at hx753_0)
         (try rw [Addr.add_zero'] at hx753_0)
         replace p753 := eq_true p753
         replace q753 := eq_true q753
         have p754 : 0 ≤ (1 : Int) := (by omega)
         have q754 : 1 < (x11_1.length : Int) := of_decide_eq_true (by first | (with_reducible assumption) | assumption)
         obtain ⟨ad754, e754, hx754_0⟩ := Kd.at_int (Kd.R_reads' HO_11.out).2.2 1 p754 q754
         obtain rfl : ad753 = ad754 := (by injection e754)
         (try simp only [show (1 : Int).toNat = 1 from rfl, Nat.reduceMul, Nat.reduceEqDiff, Go.Addr.add, ↓reduceIte] at hx754_0)
         have qi754 : (1 < x11_1.length) = True := eq_true (by omega)
         (try rw [show ((1 : Int)).toNat = 1 from rfl] at hx754_0)
         replace p754 := eq_true p754
         replace q754 := eq_true q754
         have p59 : 0 ≤ (0 : Int) := (by omega)
         have q59 : (0 : Int) < ((x11_1.length : Int) : Int) := of_decide_eq_true (by first | (with_reducible assumption) | assumption)
         have qi59 : (0 < x11_1.length) = True := eq_true (by omega)
         obtain ⟨go59, co59, eo59, gb59, gl59, cl59, HG59⟩ := Kd.R_form HO_11.out (by omega)
         (first | cases eo59 | (injection eo59 with ea_ en_ ec_; (first | subst ea_ | (injection ea_ with ea_; subst ea_)); subst ec_; clear en_))
         have GB59 := Aside0.mk gb59
         have GG59 := Aside0.mk HG59
         clear gb59 gl59 HG59
         (first | simp only [add_plain] at hx753_0 | skip)
         (first | simp only [add_plain] at hx754_0 | skip)
         obtain ⟨hx59_0, hf59_0⟩ := Kd.R_celln 0 HO_11.out (0 : Int) p59 q59
         (try rw [show ((0 : Int)).toNat = 0 from rfl] at hx59_0)
         (try simp only [Nat.reduceMul, Nat.zero_mul, Nat.zero_add, Nat.reduceAdd] at hx59_0)
         (try rw [show ((0 : Int)).toNat = 0 from rfl] at hf59_0)
         (try simp only [Nat.reduceMul, Nat.zero_mul, Nat.zero_add, Nat.reduceAdd] at hf59_0)
         replace p59 := eq_true p59
         replace q59 := eq_true q59
         have HP64 := Kd.R_putg HO_11.out (0 : Int) (rd x11_1 1)
         go_wp2_with (first | ((with_reducible refine gate_store (t := 3) (p := 66) rfl ?_); refine store_event (t := 3) (p := 66) (v := ?vo_w65) (w1 := (wc.setCell ⟨go59, (0 : Int).toNat, none⟩ (.int .i64 (rd x11_1 1)))) ?hg ?ho ?hn ?hr ?_; (case ho => rfl); (case hg => rfl); (case hn => rfl); (case hr => (first | (go_simp; done) | (go_simp; rfl))); intro w65 hw; have hg : wc.grownBy w65 (some go59) := (by rw [hw]; exact HP64.2); have hp_ : Kd.R (Kd.int .i64) 3 w65 w.heap.size (fun k_ => some k_ ≠ (v724 : Value).ownBlock ∧ some k_ ≠ (u10 : Value).ownBlock) (.slice (some ⟨go59, 0, none⟩) x11_1.length co63) y755 := (by rw [hw, Ny755.out]; exact HP64.1); clear HP64; have n0_ := Aside0.mk (Kd.S_after (v := (.slice (some ⟨go59, 0, none⟩) x11_1.length co63)) (v1 := (.slice (some ⟨go59, 0, none⟩) x11_1.length co63)) (ok := (fun k_ => some k_ ≠ (v724 : Value).ownBlock ∧ some k_ ≠ (u10 : Value).ownBlock)) (Kd.S_mono HO_8.out (fun _ hk => ⟨⟨hk.1, hk.2.1⟩, hk.2.2⟩)) hg (.inl rfl)); have n1_ := Aside0.mk (Kd.Q_after (v := (.slice (some ⟨go59, 0, none⟩) x11_1.length co63)) (v1 := (.slice (some ⟨go59, 0, none⟩) x11_1.length co63)) (ok := (fun k_ => some k_ ≠ (u10 : Value).ownBlock)) HO_9.out hg (.inl rfl)); have n2_ := Aside0.mk (Kd.R_after (v := (.slice (some ⟨go59, 0, none⟩) x11_1.length co63)) (v1 := (.slice (some ⟨go59, 0, none⟩) x11_1.length co63)) (ok := (fun k_ => some k_ ≠ (v724 : Value).ownBlock)) HO_10.out hg (.inl rfl)); have n3_ := Aside0.mk (hp_); have n4_ := Aside0.mk (IsS116.grown HI718.out hg (IsS116.own_ne HI718.out HO_11.out (by decide))); have n5_ := Aside0.mk ((by rw [hw]; exact below_set (HB.out) GB59.out : Below w.heap.size w w65)); clear HO_8; clear HO_9; clear HO_10; clear HO_11; clear HI718; clear HB; have HO_8 := n0_; have HO_9 := n1_; have HO_10 := n2_; have HO_11 := n3_; have HI718 := n4_; have HB := n5_; clear n0_ n1_ n2_ n3_ n4_ n5_; clear hg hw hp_; have p60 : 0 ≤ (1 : Int) := (by omega); have q60 : (1 : Int) < ((x11_1.length : Int) : Int) := of_decide_eq_true (by first | (with_reducible assumption) | assumption); have qi60 : (1 < x11_1.length) = True := eq_true (by omega); obtain ⟨hx60_0, hf60_0⟩ := Kd.R_celln 0 HO_11.out (1 : Int) p60 q60; (try rw [show ((1 : Int)).toNat = 1 from rfl] at hx60_0); (try simp only [Nat.reduceMul, Nat.zero_mul, Nat.zero_add, Nat.reduceAdd] at hx60_0); (try rw [show ((1 : Int)).toNat = 1 from rfl] at hf60_0); (try simp only [Nat.reduceMul, Nat.zero_mul, Nat.zero_add, Nat.reduceAdd] at hf60_0); replace p60 := eq_true p60; replace q60 := eq_true q60; obtain ⟨hy66_, hz66_⟩ := Kd.R_celln 0 HO_11.out (1 : Int) (by omega) (of_decide_eq_true (by first | (with_reducible assumption) | assumption)); (try simp only [Int.reduceToNat, Int.toNat_zero, Int.toNat_ofNat, Nat.reduceMul, Nat.zero_mul, Nat.zero_add] at hy66_ hz66_); (try rw [show ((1 : Int)).toNat = 1 from rfl] at hy66_); (try rw [show ((1 : Int)).toNat = 1 from rfl] at hz66_); have HP66 := Kd.R_putg HO_11.out (1 : Int) (rd x11_1 0)) | ((with_reducible refine gate_store (t := 3) (p := 69) rfl ?_); refine store_event (t := 3) (p := 69) (v := ?vo_w67) (w1 := (w65.setCell ⟨go59, (1 : Int).toNat, none⟩ (.int .i64 (rd x11_1 0)))) ?hg ?ho ?hn ?hr ?_; (case ho => rfl); (case hg => rfl); (case hn => rfl); (case hr => (first | (go_simp; done) | (go_simp; rfl))); intro w67 hw; have hg : w65.grownBy w67 (some go59) := (by rw [hw]; exact HP66.2); have hp_ : Kd.R (Kd.int .i64) 3 w67 w.heap.size (fun k_ => some k_ ≠ (v724 : Value).ownBlock ∧ some k_ ≠ (u10 : Value).ownBlock) (.slice (some ⟨go59, 0, none⟩) x11_1.length co63) y756 := (by rw [hw, Ny756.out]; exact HP66.1); clear HP66; have n0_ := Aside0.mk (Kd.S_after (v := (.slice (some ⟨go59, 0, none⟩) x11_1.length co63)) (v1 := (.slice (some ⟨go59, 0, none⟩) x11_1.length co63)) (ok := (fun k_ => some k_ ≠ (v724 : Value).ownBlock ∧ some k_ ≠ (u10 : Value).ownBlock)) HO_8.out hg (.inl rfl)); have n1_ := Aside0.mk (Kd.Q_after (v := (.slice (some ⟨go59, 0, none⟩) x11_1.length co63)) (v1 := (.slice (some ⟨go59, 0, none⟩) x11_1.length co63)) (ok := (fun k_ => some k_ ≠ (u10 : Value).ownBlock)) HO_9.out hg (.inl rfl)); have n2_ := Aside0.mk (Kd.R_after (v := (.slice (some ⟨go59, 0, none⟩) x11_1.length co63)) (v1 := (.slice (some ⟨go59, 0, none⟩) x11_1.length co63)) (ok := (fun k_ => some k_ ≠ (v724 : Value).ownBlock)) HO_10.out hg (.inl rfl)); have n3_ := Aside0.mk (hp_); have n4_ := Aside0.mk (IsS116.grown HI718.out hg (IsS116.own_ne HI718.out HO_11.out (by decide))); have n5_ := Aside0.mk ((by rw [hw]; exact below_set (HB.out) GB59.out : Below w.heap.size w w67)); clear HO_8; clear HO_9; clear HO_10; clear HO_11; clear HI718; clear HB; have HO_8 := n0_; have HO_9 := n1_; have HO_10 := n2_; have HO_11 := n3_; have HI718 := n4_; have HB := n5_; clear n0_ n1_ n2_ n3_ n4_ n5_; clear hg hw hp_) | ((with_reducible refine gate_callee (f := 91) rfl ?_); refine goesL_ (some 75) rfl rfl Tryd.func91 (by kernel_rfl) rfl #[.pointer (some ⟨g718, 0, none⟩), .slice (some ⟨go59, 0, none⟩) y756.length co63, .int .i64 8] rfl (by (try simp only [List.map_toArray, List.map_cons, List.map_nil]); first | done | (rw [show y756.length = x11_1.length from (Kd.R_reads' HO_11.out).1.symm] <;> rfl) | rfl | (simp only [List.length_drop, List.length_take]; rfl)) ?_; (with_reducible refine (spec_reader_spoil.calls kj48 g718 t716 x719001_48 _ _ y756 8 t757 t760 w _ ?side1 ?side2 ?side3 ?side4 ?side5 A61.out).mono ?_); (case side1 => exact HI718.out); (case side2 => exact HB.out); (case side3 => exact (Kd.R_reads' HO_11.out).2.2); (case side4 => rw [show y756.length = x11_1.length from (Kd.R_reads' HO_11.out).1.symm]; exact (Kd.R_reads' HO_11.out).2.1); (case side5 => intro ad_ ha_ h0_; exact far_slice (n := x11_1.length) (IsS116.own_ne HI718.out HO_11.out (by decide)) ad_ ha_ (by have h1_ := (Kd.R_reads' HO_11.out).1; omega)); rintro e w68 ⟨v758, rfl, ho0, hi, hb, hk⟩; refine ⟨_, rfl, ?_⟩; have n0_ := Aside0.mk (Kd.S_mono (Kd.S_told (Kd.S_oldK (IsS116.apartS (show IsS116 w _ g718 t716 x719001_48 from HI718.out) HO_8.out (by decide)) hk) (Kd.Q_base ho0)) (fun _ h_ => h_.1)); have n1_ := Aside0.mk (Kd.Q_mono (Kd.Q_told (Kd.Q_oldK (IsS116.apartQ (show IsS116 w _ g718 t716 x719001_48 from HI718.out) HO_9.out (by decide)) hk) (Kd.Q_base ho0)) (fun _ h_ => h_.1)); have n2_ := Aside0.mk (Kd.R_mono (Kd.R_told (Kd.R_oldK (IsS116.apart (show IsS116 w _ g718 t716 x719001_48 from HI718.out) HO_10.out (by decide)) hk) (Kd.Q_base ho0)) (fun _ h_ => h_.1)); have n3_ := Aside0.mk (Kd.R_mono (Kd.R_told (Kd.R_oldK (IsS116.apart (show IsS116 w _ g718 t716 x719001_48 from HI718.out) HO_11.out (by decide)) hk) (Kd.Q_base ho0)) (fun _ h_ => h_.1)); have n4_ := Aside0.mk (Kd.Q_lower (Kd.Q_new' (Kd.Q_new' (Kd.Q_new' ho0 (Kd.Q_lt HO_9.out)) (Kd.R_lt HO_10.out)) (Kd.R_lt HO_11.out)) (below_size HB.out)); have n5_ := Aside0.mk (hb); have n6_ := Aside0.mk (hi); clear HO_8; clear HO_9; clear HO_10; clear HO_11; clear HB; clear HI718; have HO_8 := n0_; have HO_9 := n1_; have HO_10 := n2_; have HO_11 := n3_; have HO759 := n4_; have HB := n5_; have HI718 := n6_; clear n0_ n1_ n2_ n3_ n4_ n5_ n6_; (try clear hb); (try clear hb2); (try clear hk); (try clear hi); (try clear ho0)) | ((with_reducible refine gate_dst (N := 77) rfl ?_); refine Kd.R_lit (Kd.int .i64) _ 3 ?hg (N := 77) ?hd (xs := ([2, 3, 1, 4, 0, 5] : List Int)) (inner := [.int .i64 2, .int .i64 3, .int .i64 1, .int .i64 4, .int .i64 0, .int .i64 5]) (ok := fun _ => True) (okp := fun _ => True) ?hr ?hp (fun _ hk => hk) trivial (Below.refl _ _) (Nat.le_refl _) (by simp) ?_; (case hd => rfl); (case hg => rfl); (case hr => first | (go_simp; done) | (go_simp; rfl)); (case hp => exact (Reps.one (show Kd.M (Kd.int .i64) _ _ _ 2 [.int .i64 2] from rfl) (Reps.one (show Kd.M (Kd.int .i64) _ _ _ 3 [.int .i64 3] from rfl) (Reps.one (show Kd.M (Kd.int .i64) _ _ _ 1 [.int .i64 1] from rfl) (Reps.one (show Kd.M (Kd.int .i64) _ _ _ 4 [.int .i64 4] from rfl) (Reps.one (show Kd.M (Kd.int .i64) _ _ _ 0 [.int .i64 0] from rfl) (Reps.one (show Kd.M (Kd.int .i64) _ _ _ 5 [.int .i64 5] from rfl) (Reps.none _ _)))))))); intro v762 w69 ho70 hb hg_ hnew_; clear hg_ hnew_; (first | rw [← Ny761.out] at ho70 | (simp only [Int.reduceToNat] at ho70; rw [← Ny761.out] at ho70)); have n0_ := Aside0.mk (Kd.S_elder' HO_8.out (Kd.R_base ho70) hb); have n1_ := Aside0.mk (Kd.Q_elder' HO_9.out (Kd.R_base ho70) hb); have n2_ := Aside0.mk (Kd.R_elder' HO_10.out (Kd.R_base ho70) hb); have n3_ := Aside0.mk (Kd.R_elder' HO_11.out (Kd.R_base ho70) hb); have n4_ := Aside0.mk (Kd.Q_elder' HO759.out (Kd.R_base ho70) hb); have n5_ := Aside0.mk (Kd.R_lower (Kd.R_new' (Kd.R_new' (Kd.R_new' (Kd.R_new' ho70 (Kd.Q_lt HO_9.out)) (Kd.R_lt HO_10.out)) (Kd.R_lt HO_11.out)) (Kd.Q_lt HO759.out)) (below_size HB.out)); have n6_ := Aside0.mk (IsS116.below HI718.out hb); have n7_ := Aside0.mk (below_step HB.out hb); clear HO_8; clear HO_9; clear HO_10; clear HO_11; clear HO759; clear HI718; clear HB; have HO_8 := n0_; have HO_9 := n1_; have HO_10 := n2_; have HO_11 := n3_; have HO759 := n4_; have HO763 := n5_; have HI718 := n6_; have HB := n7_; clear n0_ n1_ n2_ n3_ n4_ n5_ n6_ n7_; clear hb ho70; obtain ⟨Ao71, co71, eo71⟩ := Kd.R_slice HO763.out; subst eo71) | ((with_reducible refine gate_callee (f := 92) rfl ?_); refine goesL_ (some 78) rfl rfl Tryd.func92 (by kernel_rfl) rfl #[.pointer (some ⟨g718, 0, none⟩), .slice Ao71 y761.length co71] rfl (by (try simp only [List.map_toArray, List.map_cons, List.map_nil]); first | done | rfl | (simp only [List.length_drop, List.length_take]; rfl)) ?_; (with_reducible refine (spec_reader_one.calls kj48 g718 t716 t760 _ _ y761 t764 t765 w _ ?side1 ?side2 ?side3 ?side4 ?side5 A62.out).mono ?_); (case side1 => exact HI718.out); (case side2 => exact HB.out); (case side3 => exact (Kd.R_reads' HO763.out).2.2); (case side4 => exact (Kd.R_reads' HO763.out).2.1); (case side5 => exact far_slice (IsS116.own_ne HI718.out HO763.out (by decide))); rintro e w72 ⟨rfl, hi, hb, hk⟩; refine ⟨_, rfl, ?_⟩; have n0_ := Aside0.mk (Kd.S_mono (Kd.S_keep (IsS116.apartS (show IsS116 w _ g718 t716 t760 from HI718.out) HO_8.out (by decide)) hk (fun _ h => h.2)) (fun _ h => h.1)); have n1_ := Aside0.mk (Kd.Q_mono (Kd.Q_keep (IsS116.apartQ (show IsS116 w _ g718 t716 t760 from HI718.out) HO_9.out (by decide)) hk (fun _ h => h.2)) (fun _ h => h.1)); have n2_ := Aside0.mk (Kd.R_mono (Kd.R_keep (IsS116.apart (show IsS116 w _ g718 t716 t760 from HI718.out) HO_10.out (by decide)) hk (fun _ h => h.2)) (fun _ h => h.1)); have n3_ := Aside0.mk (Kd.R_mono (Kd.R_keep (IsS116.apart (show IsS116 w _ g718 t716 t760 from HI718.out) HO_11.out (by decide)) hk (fun _ h => h.2)) (fun _ h => h.1)); have n4_ := Aside0.mk (Kd.Q_mono (Kd.Q_keep (IsS116.apartQ (show IsS116 w _ g718 t716 t760 from HI718.out) HO759.out (by decide)) hk (fun _ h => h.2)) (fun _ h => h.1)); have n5_ := Aside0.mk (Kd.R_mono (Kd.R_keep (IsS116.apart (show IsS116 w _ g718 t716 t760 from HI718.out) HO763.out (by decide)) hk (fun _ h => h.2)) (fun _ h => h.1)); have n6_ := Aside0.mk (hb); have n7_ := Aside0.mk (hi); clear HO_8; clear HO_9; clear HO_10; clear HO_11; clear HO759; clear HO763; clear HB; clear HI718; have HO_8 := n0_; have HO_9 := n1_; have HO_10 := n2_; have HO_11 := n3_; have HO759 := n4_; have HO763 := n5_; have HB := n6_; have HI718 := n7_; clear n0_ n1_ n2_ n3_ n4_ n5_ n6_ n7_; (try clear hb); (try clear hb2); (try clear hk); (try clear hi)))
         refine bodyPost_ret (results_list (rs := [.tmp 2, .tmp 3, .tmp 4, .tmp 5, .tmp 6]) rfl (by simp) (.tmp (.tmp (.tmp (.tmp (.tmp .nil)))))) rfl ?_
         exact ⟨_, _, _, _, by first | rfl | (simp [errW_none, errW_some] <;> rfl) | (simp [*, errW_none, errW_some] <;> rfl), by (with_reducible repeat (first | apply Kd.S_alloc | apply Kd.S_drewN | apply Kd.S_drew)); exact Kd.S_mono HO_8.out (fun _ hk => ⟨hk.1.1.1.1, ⟨hk.1.1.1.2, hk.1.2⟩⟩), by (with_reducible repeat (first | apply Kd.Q_alloc | apply Kd.Q_drewN | apply Kd.Q_drew)); exact Kd.Q_mono HO_9.out (fun _ hk => ⟨hk.1.1.1, hk.1.2⟩), by (with_reducible repeat (first | apply Kd.R_alloc | apply Kd.R_drewN | apply Kd.R_drew)); exact Kd.R_mono HO_10.out (fun _ hk => ⟨hk.1.1.1, hk.1.2⟩), by (with_reducible repeat (first | apply Kd.Q_alloc | apply Kd.Q_drewN | apply Kd.Q_drew)); exact Kd.Q_mono HO759.out (fun _ hk => ⟨hk.1.1.1.2, hk.1.1.2⟩), HB.out⟩
        ·rw [if_neg c58] at H
         exact absurd H (by simp)
       ·rw [if_neg c57] at H
        exact absurd H (by simp)
      ·replace c56 := Bool.eq_false_iff.mpr c56
       subst c56
       have H1 : ((spec_reader_spoil.f kj48 t716 x719001_48 x11_1 8).bind fun bt766 => ((spec_reader_one.f kj48 t716 bt766.2 (([2, 3, 1, 4, 0, 5] : List Int))).bind fun bt773 => (some (t719, t723, x10_1, bt766.1, bt773.1)))) = some (r1, r2, r3, r4, r5) := by rw [if_neg (show ¬ (false = true) by decide)] at H; exact H
       clear H
       have H := H1
       clear H1
       replace H := Option.bind_eq_some_iff.mp H
       obtain ⟨⟨t766, t769⟩, A730, H⟩ := H
       replace H : ((spec_reader_one.f kj48 t716 t769 (([2, 3, 1, 4, 0, 5] : List Int))).bind fun bt773 => (some (t719, t723, x10_1, t766, bt773.1))) = some (r1, r2, r3, r4, r5) := H
       have A73 := Aside0.mk A730
       clear A730
       obtain ⟨y770, hy770⟩ : ∃ y_ : List Int, y_ = (([2, 3, 1, 4, 0, 5] : List Int)) := ⟨_, rfl⟩
       replace H : ((spec_reader_one.f kj48 t716 t769 y770).bind fun bt773 => (some (t719, t723, x10_1, t766, bt773.1))) = some (r1, r2, r3, r4, r5) := by first | (rw [hy770]; with_reducible exact H) | (have H2_ := (Option.bind_some _ _).symm.trans H; rw [hy770]; with_reducible exact H2_) | (have H2_ := (Option.bind_some _ _).symm.trans H; with_reducible exact H2_) | with_reducible exact H | (rw [hy770]; exact H) | exact H
       have Ny770 := Aside0.mk hy770
       clear hy770
       replace H := Option.bind_eq_some_iff.mp H
       obtain ⟨⟨t773, t774⟩, A740, H⟩ := H
       replace H : (some (t719, t723, x10_1, t766, t773)) = some (r1, r2, r3, r4, r5) := H
       have A74 := Aside0.mk A740
       clear A740
       simp only [Option.some.injEq, Prod.mk.injEq] at H
       obtain ⟨rfl, rfl, rfl, rfl, rfl⟩ := H
       obtain ⟨Ao75, co75, eo75⟩ := Kd.R_slice HO_11.out
       subst eo75
       go_wp2_with (first | ((with_reducible refine gate_callee (f := 91) rfl ?_); refine goesL_ (some 75) rfl rfl Tryd.func91 (by kernel_rfl) rfl #[.pointer (some ⟨g718, 0, none⟩), .slice Ao75 x11_1.length co75, .int .i64 8] rfl (by (try simp only [List.map_toArray, List.map_cons, List.map_nil]); first | done | rfl | (simp only [List.length_drop, List.length_take]; rfl)) ?_; (with_reducible refine (spec_reader_spoil.calls kj48 g718 t716 x719001_48 _ _ x11_1 8 t766 t769 w _ ?side1 ?side2 ?side3 ?side4 ?side5 A73.out).mono ?_); (case side1 => exact HI718.out); (case side2 => exact HB.out); (case side3 => exact (Kd.R_reads' HO_11.out).2.2); (case side4 => exact (Kd.R_reads' HO_11.out).2.1); (case side5 => exact far_slice (IsS116.own_ne HI718.out HO_11.out (by decide))); rintro e w76 ⟨v767, rfl, ho0, hi, hb, hk⟩; refine ⟨_, rfl, ?_⟩; have n0_ := Aside0.mk (Kd.S_mono (Kd.S_told (Kd.S_oldK (IsS116.apartS (show IsS116 w _ g718 t716 x719001_48 from HI718.out) HO_8.out (by decide)) hk) (Kd.Q_base ho0)) (fun _ h_ => h_.1)); have n1_ := Aside0.mk (Kd.Q_mono (Kd.Q_told (Kd.Q_oldK (IsS116.apartQ (show IsS116 w _ g718 t716 x719001_48 from HI718.out) HO_9.out (by decide)) hk) (Kd.Q_base ho0)) (fun _ h_ => h_.1)); have n2_ := Aside0.mk (Kd.R_mono (Kd.R_told (Kd.R_oldK (IsS116.apart (show IsS116 w _ g718 t716 x719001_48 from HI718.out) HO_10.out (by decide)) hk) (Kd.Q_base ho0)) (fun _ h_ => h_.1)); have n3_ := Aside0.mk (Kd.R_mono (Kd.R_told (Kd.R_oldK (IsS116.apart (show IsS116 w _ g718 t716 x719001_48 from HI718.out) HO_11.out (by decide)) hk) (Kd.Q_base ho0)) (fun _ h_ => h_.1)); have n4_ := Aside0.mk (Kd.Q_lower (Kd.Q_new' (Kd.Q_new' (Kd.Q_new' ho0 (Kd.Q_lt HO_9.out)) (Kd.R_lt HO_10.out)) (Kd.R_lt HO_11.out)) (below_size HB.out)); have n5_ := Aside0.mk (hb); have n6_ := Aside0.mk (hi); clear HO_8; clear HO_9; clear HO_10; clear HO_11; clear HB; clear HI718; have HO_8 := n0_; have HO_9 := n1_; have HO_10 := n2_; have HO_11 := n3_; have HO768 := n4_; have HB := n5_; have HI718 := n6_; clear n0_ n1_ n2_ n3_ n4_ n5_ n6_; (try clear hb); (try clear hb2); (try clear hk); (try clear hi); (try clear ho0)) | ((with_reducible refine gate_dst (N := 77) rfl ?_); refine Kd.R_lit (Kd.int .i64) _ 3 ?hg (N := 77) ?hd (xs := ([2, 3, 1, 4, 0, 5] : List Int)) (inner := [.int .i64 2, .int .i64 3, .int .i64 1, .int .i64 4, .int .i64 0, .int .i64 5]) (ok := fun _ => True) (okp := fun _ => True) ?hr ?hp (fun _ hk => hk) trivial (Below.refl _ _) (Nat.le_refl _) (by simp) ?_; (case hd => rfl); (case hg => rfl); (case hr => first | (go_simp; done) | (go_simp; rfl)); (case hp => exact (Reps.one (show Kd.M (Kd.int .i64) _ _ _ 2 [.int .i64 2] from rfl) (Reps.one (show Kd.M (Kd.int .i64) _ _ _ 3 [.int .i64 3] from rfl) (Reps.one (show Kd.M (Kd.int .i64) _ _ _ 1 [.int .i64 1] from rfl) (Reps.one (show Kd.M (Kd.int .i64) _ _ _ 4 [.int .i64 4] from rfl) (Reps.one (show Kd.M (Kd.int .i64) _ _ _ 0 [.int .i64 0] from rfl) (Reps.one (show Kd.M (Kd.int .i64) _ _ _ 5 [.int .i64 5] from rfl) (Reps.none _ _)))))))); intro v771 w77 ho78 hb hg_ hnew_; clear hg_ hnew_; (first | rw [← Ny770.out] at ho78 | (simp only [Int.reduceToNat] at ho78; rw [← Ny770.out] at ho78)); have n0_ := Aside0.mk (Kd.S_elder' HO_8.out (Kd.R_base ho78) hb); have n1_ := Aside0.mk (Kd.Q_elder' HO_9.out (Kd.R_base ho78) hb); have n2_ := Aside0.mk (Kd.R_elder' HO_10.out (Kd.R_base ho78) hb); have n3_ := Aside0.mk (Kd.R_elder' HO_11.out (Kd.R_base ho78) hb); have n4_ := Aside0.mk (Kd.Q_elder' HO768.out (Kd.R_base ho78) hb); have n5_ := Aside0.mk (Kd.R_lower (Kd.R_new' (Kd.R_new' (Kd.R_new' (Kd.R_new' ho78 (Kd.Q_lt HO_9.out)) (Kd.R_lt HO_10.out)) (Kd.R_lt HO_11.out)) (Kd.Q_lt HO768.out)) (below_size HB.out)); have n6_ := Aside0.mk (IsS116.below HI718.out hb); have n7_ := Aside0.mk (below_step HB.out hb); clear HO_8; clear HO_9; clear HO_10; clear HO_11; clear HO768; clear HI718; clear HB; have HO_8 := n0_; have HO_9 := n1_; have HO_10 := n2_; have HO_11 := n3_; have HO768 := n4_; have HO772 := n5_; have HI718 := n6_; have HB := n7_; clear n0_ n1_ n2_ n3_ n4_ n5_ n6_ n7_; clear hb ho78; obtain ⟨Ao79, co79, eo79⟩ := Kd.R_slice HO772.out; subst eo79) | ((with_reducible refine gate_callee (f := 92) rfl ?_); refine goesL_ (some 78) rfl rfl Tryd.func92 (by kernel_rfl) rfl #[.pointer (some ⟨g718, 0, none⟩), .slice Ao79 y770.length co79] rfl (by (try simp only [List.map_toArray, List.map_cons, List.map_nil]); first | done | rfl | (simp only [List.length_drop, List.length_take]; rfl)) ?_; (with_reducible refine (spec_reader_one.calls kj48 g718 t716 t769 _ _ y770 t773 t774 w _ ?side1 ?side2 ?side3 ?side4 ?side5 A74.out).mono ?_); (case side1 => exact HI718.out); (case side2 => exact HB.out); (case side3 => exact (Kd.R_reads' HO772.out).2.2); (case side4 => exact (Kd.R_reads' HO772.out).2.1); (case side5 => exact far_slice (IsS116.own_ne HI718.out HO772.out (by decide))); rintro e w80 ⟨rfl, hi, hb, hk⟩; refine ⟨_, rfl, ?_⟩; have n0_ := Aside0.mk (Kd.S_mono (Kd.S_keep (IsS116.apartS (show IsS116 w _ g718 t716 t769 from HI718.out) HO_8.out (by decide)) hk (fun _ h => h.2)) (fun _ h => h.1)); have n1_ := Aside0.mk (Kd.Q_mono (Kd.Q_keep (IsS116.apartQ (show IsS116 w _ g718 t716 t769 from HI718.out) HO_9.out (by decide)) hk (fun _ h => h.2)) (fun _ h => h.1)); have n2_ := Aside0.mk (Kd.R_mono (Kd.R_keep (IsS116.apart (show IsS116 w _ g718 t716 t769 from HI718.out) HO_10.out (by decide)) hk (fun _ h => h.2)) (fun _ h => h.1)); have n3_ := Aside0.mk (Kd.R_mono (Kd.R_keep (IsS116.apart (show IsS116 w _ g718 t716 t769 from HI718.out) HO_11.out (by decide)) hk (fun _ h => h.2)) (fun _ h => h.1)); have n4_ := Aside0.mk (Kd.Q_mono (Kd.Q_keep (IsS116.apartQ (show IsS116 w _ g718 t716 t769 from HI718.out) HO768.out (by decide)) hk (fun _ h => h.2)) (fun _ h => h.1)); have n5_ := Aside0.mk (Kd.R_mono (Kd.R_keep (IsS116.apart (show IsS116 w _ g718 t716 t769 from HI718.out) HO772.out (by decide)) hk (fun _ h => h.2)) (fun _ h => h.1)); have n6_ := Aside0.mk (hb); have n7_ := Aside0.mk (hi); clear HO_8; clear HO_9; clear HO_10; clear HO_11; clear HO768; clear HO772; clear HB; clear HI718; have HO_8 := n0_; have HO_9 := n1_; have HO_10 := n2_; have HO_11 := n3_; have HO768 := n4_; have HO772 := n5_; have HB := n6_; have HI718 := n7_; clear n0_ n1_ n2_ n3_ n4_ n5_ n6_ n7_; (try clear hb); (try clear hb2); (try clear hk); (try clear hi)))
       refine bodyPost_ret (results_list (rs := [.tmp 2, .tmp 3, .tmp 4, .tmp 5, .tmp 6]) rfl (by simp) (.tmp (.tmp (.tmp (.tmp (.tmp .nil)))))) rfl ?_
       exact ⟨_, _, _, _, by first | rfl | (simp [errW_none, errW_some] <;> rfl) | (simp [*, errW_none, errW_some] <;> rfl), by (with_reducible repeat (first | apply Kd.S_alloc | apply Kd.S_drewN | apply Kd.S_drew)); exact Kd.S_mono HO_8.out (fun _ hk => ⟨hk.1.1.1, ⟨hk.1.1.2.1, hk.1.2⟩⟩), by (with_reducible repeat (first | apply Kd.Q_alloc | apply Kd.Q_drewN | apply Kd.Q_drew)); exact Kd.Q_mono HO_9.out (fun _ hk => ⟨hk.1.1.1, hk.1.2⟩), by (with_reducible repeat (first | apply Kd.R_alloc | apply Kd.R_drewN | apply Kd.R_drew)); exact Kd.R_mono HO_10.out (fun _ hk => ⟨hk.1.1.1, hk.1.2⟩), by (with_reducible repeat (first | apply Kd.Q_alloc | apply Kd.Q_drewN | apply Kd.Q_drew)); exact Kd.Q_mono HO768.out (fun _ hk => ⟨hk.1.1.1.2, hk.1.1.2⟩), HB.out⟩
end Go.Proofs.YtpibdjkajgfgjaaDoor.P
end
section
set_option linter.unusedVariables false
set_option linter.unusedSimpArgs false
namespace Go.Proofs.YtpibdjkajgfgjaaDoor.Core
open Go Go.RowKit Go.Proofs.YtpibdjkajgfgjaaDoorW.PrintWords Go.Proofs.YtpibdjkajgfgjaaDoorW.PrintMore Go.Proofs.YtpibdjkajgfgjaaDoor.P
/-- A reader's state: few bytes, not far read. -/
def RS (s0 : List Int) (N p : Int) : Prop := s0.length ≤ 2000 ∧ (∀ x ∈ s0, 0 ≤ x ∧ x ≤ 255) ∧ 0 ≤ p ∧ p ≤ N ∧ N ≤ 100000
theorem RS.mono {s0 : List Int} {N M p : Int} (h : RS s0 N p) (hM : N ≤ M) (h2 : M ≤ 100000) : RS s0 M p := ⟨h.1, h.2.1, h.2.2.1, by have := h.2.2.2.1; omega, h2⟩
theorem rd_byte {s0 : List Int} {N p i : Int} (h : RS s0 N p) (h0 : 0 ≤ i) (h1 : i < (s0.length : Int)) : 0 ≤ rd s0 i ∧ rd s0 i ≤ 255 := by
 refine h.2.1 _ ?_
 unfold rd
 rw [List.getD_eq_getElem?_getD, List.getElem?_eq_getElem (by omega), Option.getD_some]
 exact List.getElem_mem _
/-- What pick answers. -/
def PickOk (n : Int) (s0 : List Int) (N : Int) (r : Int × Int) : Prop := (n < 1 → r.1 = 0) ∧ (1 ≤ n → 0 ≤ r.1 ∧ r.1 < n) ∧ RS s0 (N + 1) r.2
theorem ev_pick {s0 : List Int} {N p n : Int} (h : RS s0 N p) (hN : N < 100000) : EvP (fun k => spec_reader_pick.f k s0 p n) (PickOk n s0 N) := by
 obtain ⟨hl, hb, h0, h1, _⟩ := h
 have hp : wrap64 (p + 1) = p + 1 := w64 (by omega) (by omega)
 have hp1 : wrap64 (p + 1 - 1) = p := by rw [Int.add_sub_cancel]; exact w64 (by omega) (by omega)
 have hRS : RS s0 (N + 1) (p + 1) := ⟨hl, hb, by omega, by omega, by omega⟩
 have hz : EvP (fun k => spec_reader_pick.j0 k n true s0 (p + 1)) (fun r => r = (0, p + 1)) := by
  refine EvP.succ ?_
  simp only [spec_reader_pick.j0, if_true]
  exact EvP.ret rfl
 unfold spec_reader_pick.f
 rw [hp]
 refine EvP.ite (fun hn => hz.mono fun a e => ?_) (fun hn => ?_)
 ·subst e; exact ⟨fun _ => rfl, fun _ => by omega, hRS⟩
 by_cases he : s0.length = 0
 ·rw [show ((s0.length : Int) == 0) = true by simp [he]]
  exact hz.mono fun a e => by subst e; exact ⟨fun _ => rfl, fun _ => by omega, hRS⟩
 rw [show ((s0.length : Int) == 0) = false from beq_eq_false_iff_ne.2 (by omega)]
 refine EvP.succ ?_
 simp only [spec_reader_pick.j0, hp1, Bool.false_eq_true, if_false]
 refine EvP.ite (fun hlt => ?_) (fun hge => ?_)
 ·have hr := hb (rd s0 p) (by
   unfold rd
   rw [List.getD_eq_getElem?_getD, List.getElem?_eq_getElem (by omega), Option.getD_some]
   exact List.getElem_mem _)
  refine EvP.pos h0 (EvP.neg (by omega) (EvP.ret ?_))
  rw [w64 (n := rd s0 p) (by omega) (by omega)]
  exact ⟨fun _ => by omega, fun _ => tmod_lt hr.1 (by omega), hRS⟩
 ·have hpos : (0 : Int) < s0.length := by omega
  have hm1 := tmod_lt h0 hpos
  have h7 : wrap64 (p * 7) = p * 7 := w64 (by omega) (by omega)
  have h73 : wrap64 (p * 7 + 3) = p * 7 + 3 := w64 (by omega) (by omega)
  have hm2 := tmod_lt (a := p * 7 + 3) (by omega) hpos
  have hd := tdiv_le h0 hpos
  have hr1 := rd_byte ⟨hl, hb, h0, h1, by omega⟩ hm1.1 hm1.2
  have hr2 := rd_byte ⟨hl, hb, h0, h1, by omega⟩ hm2.1 hm2.2
  rw [h7, h73]
  refine EvP.neg (by omega) (EvP.pos hm1.1 (EvP.pos hm1.2 (EvP.pos hm2.1 (EvP.pos hm2.2 (EvP.neg (by omega) (EvP.ret ?_))))))
  generalize rd s0 (Int.tmod p s0.length) = x1 at *
  generalize rd s0 (Int.tmod (p * 7 + 3) s0.length) = x2 at *
  generalize Int.tdiv p s0.length = dd at *
  have e : wrap64 (wrap64 (wrap64 (wrap64 (wrap64 x1 * 131) + wrap64 (wrap64 x2 * 1117)) + wrap64 (p * 29)) + wrap64 (wrap64 dd * 53)) = x1 * 131 + x2 * 1117 + p * 29 + dd * 53 := by
   rw [w64 (n := x1) (by omega) (by omega), w64 (n := x2) (by omega) (by omega), w64 (n := dd) (by omega) (by omega), w64 (n := x1 * 131) (by omega) (by omega), w64 (n := x2 * 1117) (by omega) (by omega), w64 (n := x1 * 131 + x2 * 1117) (by omega) (by omega), w64 (n := p * 29) (by omega) (by omega), w64 (n := x1 * 131 + x2 * 1117 + p * 29) (by omega) (by omega), w64 (n := dd * 53) (by omega) (by omega), w64 (by omega) (by omega)]
  rw [e]
  generalize hy : x1 * 131 + x2 * 1117 + p * 29 + dd * 53 = y at *
  have hq := tdiv_le (a := y) (n := 64) (by omega) (by omega)
  rw [w64 (n := Int.tdiv y 64) (by omega) (by omega)]
  have hx := i64_xor y (Int.tdiv y 64) (by omega) (by omega) (by omega) (by omega)
  exact ⟨fun _ => by omega, fun _ => tmod_lt hx.1 (by omega), hRS⟩
theorem ev_one {s0 : List Int} {N p : Int} (h : RS s0 N p) (hN : N < 100000) (L : List Int) (hL : 0 < L.length) : EvP (fun k => spec_reader_one.f k s0 p L) (fun r => r.1 ∈ L ∧ RS s0 (N + 1) r.2) := by
 unfold spec_reader_one.f
 refine (ev_pick h hN).bind fun a ha => ?_
 have h2 := ha.2.1 (by omega)
 refine EvP.pos h2.1 (EvP.pos h2.2 (EvP.ret ⟨?_, ha.2.2⟩))
 show rd L a.1 ∈ L
 unfold rd
 rw [List.getD_eq_getElem?_getD, List.getElem?_eq_getElem (by omega), Option.getD_some]
 exact List.getElem_mem _
theorem ev_spoil {s0 : List Int} {N p : Int} (h : RS s0 N p) (hN : N + 2 < 100000) (L : List Int) (n : Int) (hL : L.length ≤ 10000) : EvP (fun k => spec_reader_spoil.f k s0 p L n) (fun r => r.1.length ≤ L.length + 1 ∧ RS s0 (N + 3) r.2) := by
 unfold spec_reader_spoil.f
 rw [show spec_copyInts.f L = some L from copyInts_eq (by unfold big; omega) (by omega)]
 refine EvP.sb ?_
 refine (ev_pick h (by omega)).bind fun a ha => ?_
 have hm := ha.2.2.mono (M := N + 3) (by omega) (by omega)
 refine EvP.ite (fun _ => EvP.pos (by omega) (EvP.ret ⟨by simp, hm⟩)) (fun _ => ?_)
 refine EvP.ite (fun _ => EvP.ite (fun h0 => EvP.pos (by omega) (EvP.ret ⟨by simp; omega, hm⟩)) (fun _ => EvP.ret ⟨by show L.length ≤ _; omega, hm⟩)) (fun _ => ?_)
 refine EvP.ite (fun _ => EvP.ite (fun h0 => ?_) (fun _ => EvP.ret ⟨by show L.length ≤ _; omega, hm⟩)) (fun _ => EvP.ret ⟨by show L.length ≤ _; omega, hm⟩)
 refine (ev_pick ha.2.2 (by omega)).bind fun b hb => ?_
 refine (ev_one hb.2.2 (by omega) _ (by simp)).bind fun c hc => ?_
 have h2 := hb.2.1 (by omega)
 exact EvP.pos h2.1 (EvP.pos h2.2 (EvP.ret ⟨by simp, hc.2.mono (by omega) (by omega)⟩))
/-- A graph of few tasks, whose lists of needs are short. -/
def GSmall (n m : Nat) (g : List Tk) : Prop := g.length ≤ n ∧ ∀ t ∈ g, t.f1.length ≤ m
theorem GSmall.fits {n m : Nat} {g : List Tk} (h : GSmall n m g) (hn : n < big) (hm : m < big) : Fits g := ⟨by have := h.1; omega, fun t ht => by have := h.2 t ht; omega⟩
theorem ev_turned_in (x0 : List Tk) (x3 : List Tk) (x4 x5 : Int) (f0 f2 f3 : Int) (L : List Int) (hL : L.length ≤ 10000) (R : List Tk → Prop) (hx3 : x3.length ≤ 100) (hk : ∀ L2 : List Int, L2.length = L.length → EvP (fun k => spec_turned.l0 k x0 (x3 ++ [⟨f0, L2, f2, f3⟩]) x4 (wrap64 (x5 - 1))) R) :
  ∀ (m : Nat) (x7 : List Int), m ≤ L.length → x7.length + m = L.length → EvP (fun k => spec_turned.l1 k x0 x3 x4 x5 x7 ((m : Int) - 1) f0 L f2 f3) R
 | 0, x7, _, h => by
  refine EvP.succ ?_
  simp only [spec_turned.l1]
  exact EvP.neg (by omega) (EvP.pos (by omega) (hk x7 (by omega)))
 | m + 1, x7, hm, h => by
  refine EvP.succ ?_
  simp only [spec_turned.l1]
  refine EvP.pos (by omega) (EvP.pos (by omega) (EvP.pos (by omega) (EvP.pos (by omega) ?_)))
  have := ev_turned_in x0 x3 x4 x5 f0 f2 f3 L hL R hx3 hk m (x7 ++ [wrap64 (x4 - rd L (((m + 1 : Nat) : Int) - 1))]) (by omega) (by simp; omega)
  rw [show wrap64 (((m + 1 : Nat) : Int) - 1 - 1) = (m : Int) - 1 by rw [w64 (by omega) (by omega)]; omega]
  exact this
theorem ev_turned {n m : Nat} {g : List Tk} (hg : GSmall n m g) (hn : n ≤ 100) (hm : m ≤ 10000) : EvP (fun k => spec_turned.f k g) (fun r => r.length = g.length ∧ GSmall n m r) := by
 have key : ∀ (j : Nat) (x3 : List Tk) (x4 : Int), j ≤ g.length → x3.length + j = g.length → (∀ t ∈ x3, t.f1.length ≤ m) → EvP (fun k => spec_turned.l0 k g x3 x4 ((j : Int) - 1)) (fun r => r.length = g.length ∧ GSmall n m r) := by
  intro j
  induction j with
  | zero =>
   intro x3 x4 hj hl ht
   refine EvP.succ ?_
   simp only [spec_turned.l0]
   exact EvP.neg (by omega) (EvP.ret ⟨by show x3.length = _; omega, by have := hg.1; show x3.length ≤ n; omega, ht⟩)
  | succ j ih =>
   intro x3 x4 hj hl ht
   have hgl := hg.1
   refine EvP.succ ?_
   simp only [spec_turned.l0]
   refine EvP.pos (by omega) (EvP.pos (by omega) (EvP.pos (by omega) ?_))
   have hmem : rd_T48 g (((j + 1 : Nat) : Int) - 1) ∈ g := by
    unfold rd_T48
    rw [List.getD_eq_getElem?_getD, List.getElem?_eq_getElem (by omega), Option.getD_some]
    exact List.getElem_mem _
   have hlen := hg.2 _ hmem
   generalize rd_T48 g (((j + 1 : Nat) : Int) - 1) = t at *
   rw [show wrap64 ((t.f1.length : Int) - 1) = (t.f1.length : Int) - 1 from w64 (by omega) (by omega)]
   refine ev_turned_in g x3 x4 (((j + 1 : Nat) : Int) - 1) t.f0 t.f2 t.f3 t.f1 (by omega) _ (by omega) (fun L2 h2 => ?_) t.f1.length [] (Nat.le_refl _) (by simp)
   rw [show wrap64 (((j + 1 : Nat) : Int) - 1 - 1) = (j : Int) - 1 by rw [w64 (by omega) (by omega)]; omega]
   refine ih _ _ (by omega) (by simp; omega) (fun u hu => ?_)
   rcases List.mem_append.1 hu with hu | hu
   ·exact ht u hu
   ·rw [List.mem_singleton.1 hu]; show L2.length ≤ m; omega
 have hgl := hg.1
 unfold spec_turned.f
 rw [show wrap64 ((g.length : Int) - 1) = (g.length : Int) - 1 from w64 (by omega) (by omega)]
 exact key g.length [] _ (Nat.le_refl _) (by simp) (by simp)
theorem ev_some_in (g : List Tk) (x6 : Int) (s0 : List Int) (f0 f2 f3 : Int) (N : Int) (hg : g.length ≤ 8) (hN : N + 8 < 100000) (R : List Tk × Int → Prop)
  (hk : ∀ (L : List Int) (p : Int), L.length ≤ 8 → RS s0 (N + 8) p → EvP (fun k => spec_someGraph.l0 k (g ++ [⟨f0, L, f2, f3⟩]) (wrap64 (x6 - 1)) s0 p) R) :
  ∀ (d i : Nat) (L : List Int) (p : Int), i + d = g.length → L.length ≤ i → RS s0 (N + i) p → EvP (fun k => spec_someGraph.l1 k g x6 (i : Int) s0 p f0 L f2 f3) R
 | 0, i, L, p, h, hL, hp => by
  refine EvP.succ ?_
  simp only [spec_someGraph.l1]
  exact EvP.neg (by omega) (EvP.pos (by omega) (hk L p (by omega) (hp.mono (by omega) (by omega))))
 | d + 1, i, L, p, h, hL, hp => by
  refine EvP.succ ?_
  simp only [spec_someGraph.l1]
  refine EvP.pos (by omega) ?_
  refine (ev_pick hp (by omega)).bind fun a ha => ?_
  have hp2 : RS s0 (N + ((i + 1 : Nat) : Int)) a.2 := ha.2.2.mono (by omega) (by omega)
  rw [show wrap64 ((i : Int) + 1) = ((i + 1 : Nat) : Int) by rw [w64 (by omega) (by omega)]; omega]
  refine EvP.ite (fun _ => EvP.pos (by omega) ?_) (fun _ => ?_)
  ·exact ev_some_in g x6 s0 f0 f2 f3 N hg hN R hk d (i + 1) _ _ (by omega) (by simp; omega) hp2
  ·exact ev_some_in g x6 s0 f0 f2 f3 N hg hN R hk d (i + 1) _ _ (by omega) (by omega) hp2
theorem ev_some_out (s0 : List Int) : ∀ (j : Nat) (g : List Tk) (N p : Int), g.length + j ≤ 8 → N + j * 11 + 1 < 100000 → (∀ t ∈ g, t.f1.length ≤ 8) → RS s0 N p →
  EvP (fun k => spec_someGraph.l0 k g (j : Int) s0 p) (fun r => GSmall 8 8 r.1 ∧ RS s0 (N + j * 11 + 1) r.2)
 | 0, g, N, p, hg, hN, ht, hp => by
  refine EvP.succ ?_
  simp only [spec_someGraph.l0]
  refine EvP.neg (by omega) ?_
  refine EvP.ite (fun h1 => ?_) (fun _ => EvP.ret ⟨⟨by show g.length ≤ 8; omega, ht⟩, hp.mono (by omega) (by omega)⟩)
  refine (ev_pick hp (by omega)).bind fun a ha => ?_
  refine EvP.ite (fun _ => ?_) (fun _ => EvP.ret ⟨⟨by show g.length ≤ 8; omega, ht⟩, ha.2.2.mono (by omega) (by omega)⟩)
  refine (ev_turned (n := 8) (m := 8) ⟨by omega, ht⟩ (by omega) (by omega)).bind fun r hr => ?_
  exact EvP.ret ⟨hr.2, ha.2.2.mono (by omega) (by omega)⟩
 | j + 1, g, N, p, hg, hN, ht, hp => by
  refine EvP.succ ?_
  simp only [spec_someGraph.l0]
  refine EvP.pos (by omega) ?_
  refine (ev_one hp (by omega) _ (by simp)).bind fun a ha => ?_
  refine (ev_pick ha.2 (by omega)).bind fun b hb => ?_
  refine (ev_pick hb.2.2 (by omega)).bind fun c hc => ?_
  refine ev_some_in g ((j + 1 : Nat) : Int) s0 a.1 b.1 (wrap64 (1 + c.1)) (N + 1 + 1 + 1) (by omega) (by omega) _ (fun L q hL hq => ?_) g.length 0 [] _ (by omega) (by simp) (hc.2.2.mono (by omega) (by omega))
  rw [show wrap64 (((j + 1 : Nat) : Int) - 1) = (j : Int) by rw [w64 (by omega) (by omega)]; omega]
  refine (ev_some_out s0 j _ (N + 11) q (by simp; omega) (by omega) (fun u hu => ?_) (hq.mono (by omega) (by omega))).mono fun r hr => ⟨hr.1, hr.2.mono (by omega) (by omega)⟩
  rcases List.mem_append.1 hu with hu | hu
  ·exact ht u hu
  ·rw [List.mem_singleton.1 hu]; exact hL
theorem ev_someGraph {s0 : List Int} {N p : Int} (h : RS s0 N p) (hN : N + 100 < 100000) (a : Int) (ha : 0 ≤ a) : EvP (fun k => spec_someGraph.f k s0 p a) (fun r => GSmall 8 8 r.1 ∧ RS s0 (N + 100) r.2) := by
 unfold spec_someGraph.f
 refine (ev_one h (by omega) _ (by simp)).bind fun b hb => ?_
 have hb8 : 0 ≤ mn a b.1 ∧ mn a b.1 ≤ 8 := by
  have := hb.1
  simp at this
  unfold mn
  split <;> omega
 generalize mn a b.1 = c at *
 obtain ⟨j, rfl⟩ := Int.eq_ofNat_of_zero_le hb8.1
 exact (ev_some_out s0 j [] (N + 1) b.2 (by simp; omega) (by omega) (by simp) hb.2).mono fun r hr => ⟨hr.1, hr.2.mono (by omega) (by omega)⟩
theorem lim_evP {α : Type} {f : Nat → Option α} {Q : α → Prop} (hm : ∀ k, LeO (f k) (f (k + 1))) (h : EvP f Q) : EvP (fun _ => lim f) Q := by
 obtain ⟨r, h, q⟩ := h
 obtain ⟨k, hk⟩ := h.one
 exact ⟨r, ⟨0, fun _ _ => lim_of hm hk⟩, q⟩
theorem rdT_small {n m : Nat} {g : List Tk} (h : GSmall n m g) {i : Int} (h0 : 0 ≤ i) (h1 : i < (g.length : Int)) : (rd_T48 g i).f1.length ≤ m := by
 refine h.2 _ ?_
 unfold rd_T48
 rw [List.getD_eq_getElem?_getD, List.getElem?_eq_getElem (by omega), Option.getD_some]
 exact List.getElem_mem _
theorem small_set {n m m2 : Nat} {g : List Tk} (h : GSmall n m g) (i : Nat) (t : Tk) (ht : t.f1.length ≤ m2) (hm : m ≤ m2) {n2 : Nat} (hn : n ≤ n2) : GSmall n2 m2 (g.set i t) := by
 refine ⟨by rw [List.length_set]; have := h.1; omega, fun u hu => ?_⟩
 rcases List.mem_or_eq_of_mem_set hu with h1 | h1
 ·have := h.2 u h1; omega
 ·rw [h1]; exact ht
theorem ev_anyGraph {s0 : List Int} {N p : Int} (h : RS s0 N p) (hN : N + 210 < 100000) : EvP (fun _ => spec_anyGraph.f s0 p) (fun r => GSmall 16 10 r.1 ∧ RS s0 (N + 210) r.2) := by
 unfold spec_anyGraph.f
 refine lim_evP (fun k => spec_anyGraph.mono s0 p k) ?_
 unfold spec_anyGraph.fk
 refine (ev_someGraph h (by omega) 8 (by omega)).bind fun a ha => ?_
 have hs : GSmall 16 10 a.1 := ⟨by have := ha.1.1; omega, fun t ht => by have := ha.1.2 t ht; omega⟩
 refine EvP.ite (fun _ => EvP.ret ⟨hs, ha.2.mono (by omega) (by omega)⟩) (fun hne => ?_)
 refine (ev_pick ha.2 (by omega)).bind fun b hb => ?_
 refine (ev_pick hb.2.2 (by omega)).bind fun c hc => ?_
 have hb2 := hb.2.1 (by omega)
 refine EvP.neg (fun hh => hh hb2) ?_
 have hl := rdT_small ha.1 hb2.1 hb2.2
 generalize rd_T48 a.1 b.1 = tk at hl
 refine EvP.ite (fun _ => (ev_one hc.2.2 (by omega) _ (by simp)).bind fun d hd => EvP.ret ⟨small_set ha.1 _ _ (by show tk.f1.length ≤ 10; omega) (by omega) (by omega), hd.2.mono (by omega) (by omega)⟩) (fun _ => ?_)
 refine EvP.ite (fun _ => ?_) (fun _ => ?_)
 ·refine (ev_pick hc.2.2 (by omega)).bind fun d hd => ?_
  refine EvP.pos (by omega) ?_
  refine (ev_spoil hd.2.2 (by omega) _ 8 (by simp; omega)).bind fun e he => ?_
  have := he.1
  simp only [List.length_append, List.length_cons, List.length_nil] at this
  exact EvP.ret ⟨small_set ha.1 _ _ (by show e.1.length ≤ 10; omega) (by omega) (by omega), he.2.mono (by omega) (by omega)⟩
 refine EvP.ite (fun _ => (ev_one hc.2.2 (by omega) _ (by simp)).bind fun d hd => EvP.ret ⟨small_set ha.1 _ _ (by show tk.f1.length ≤ 10; omega) (by omega) (by omega), hd.2.mono (by omega) (by omega)⟩) (fun _ => ?_)
 refine EvP.ite (fun _ => (ev_one hc.2.2 (by omega) _ (by simp)).bind fun d hd => EvP.ret ⟨small_set ha.1 _ _ (by show tk.f1.length ≤ 10; omega) (by omega) (by omega), hd.2.mono (by omega) (by omega)⟩) (fun _ => ?_)
 refine EvP.ite (fun _ => ?_) (fun _ => EvP.ret ⟨hs, hc.2.2.mono (by omega) (by omega)⟩)
 refine (ev_someGraph hc.2.2 (by omega) 8 (by omega)).bind fun d hd => ?_
 have h1 := ha.1.1
 have h2 := hd.1.1
 refine EvP.pos (by omega) (EvP.ret ⟨⟨by simp; omega, fun t ht => ?_⟩, hd.2.mono (by omega) (by omega)⟩)
 rcases List.mem_append.1 ht with ht | ht
 ·have := ha.1.2 t ht; omega
 ·have := hd.1.2 t ht; omega
/-- The bytes of a code. -/
def Bytes (l : List Int) : Prop := ∀ x ∈ l, (Lit.int .u8 x).wf = true
theorem byte_of_wf {x : Int} (h : (Lit.int .u8 x).wf = true) : 0 ≤ x ∧ x ≤ 255 := by
 simp only [Lit.wf, IntKind.min, IntKind.max, IntKind.signed, IntKind.bits, Bool.and_eq_true, decide_eq_true_eq] at h
 simp at h
 omega
theorem ev_newReader {l : List Int} (h : Bytes l) : EvP (fun _ => spec_newReader.f l) (fun r => RS r.1 0 r.2) := by
 have hb : ∀ x ∈ l, 0 ≤ x ∧ x ≤ 255 := fun x hx => byte_of_wf (h x hx)
 unfold spec_newReader.f
 refine EvP.ite (fun h1 => EvP.pos (by omega) (EvP.ret ⟨by simp; omega, fun x hx => hb x (List.mem_of_mem_take hx), by omega, by omega, by omega⟩)) (fun h1 => EvP.ret ⟨by show l.length ≤ 2000; omega, hb, by show (0 : Int) ≤ 0; omega, by show (0 : Int) ≤ 0; omega, by omega⟩)
end Go.Proofs.YtpibdjkajgfgjaaDoor.Core
end
section
set_option linter.unusedVariables false
namespace Go.Proofs.YtpibdjkajgfgjaaDoor.Core
open Go Go.RowKit Go.Proofs.YtpibdjkajgfgjaaDoorW.PrintWords Go.Proofs.YtpibdjkajgfgjaaDoorW.PrintMore Go.Proofs.YtpibdjkajgfgjaaDoor.P
theorem ev_someRoomA {s0 : List Int} {N p : Int} (h : RS s0 N p) (hN : N + 100 < 100000) : EvP (fun k => spec_someRoom.f k s0 p) (fun r => r.1.length ≤ 4 ∧ RS s0 (N + 100) r.2) := by
 unfold spec_someRoom.f
 refine (ev_one h (by omega) _ (by simp)).bind fun a ha => ?_
 refine (ev_one ha.2 (by omega) _ (by simp)).bind fun b hb => ?_
 refine (ev_one hb.2 (by omega) _ (by simp)).bind fun c hc => ?_
 refine (ev_spoil hc.2 (by omega) _ 9 (by simp)).bind fun d hd => ?_
 exact EvP.ret ⟨by simpa using hd.1, hd.2.mono (by omega) (by omega)⟩
end Go.Proofs.YtpibdjkajgfgjaaDoor.Core
end
section
set_option linter.unusedVariables false
set_option linter.unusedSimpArgs false
namespace Go.Proofs.YtpibdjkajgfgjaaDoor.Core
open Go Go.RowKit Go.Proofs.YtpibdjkajgfgjaaDoorW.PrintWords Go.Proofs.YtpibdjkajgfgjaaDoorW.PrintMore Go.Proofs.YtpibdjkajgfgjaaDoor.P
def AdmOk (g : List Tk) (room : List Int) (r : List Tk × List Int × List Int × List Int × Int) : Prop := r.1 = g ∧ r.2.1 = room ∧ r.2.2.1.length ≤ g.length ∧ r.2.2.2.1.length ≤ g.length + 1 ∧ 0 ≤ r.2.2.2.2 ∧ r.2.2.2.2 ≤ 5
theorem ev_da1 {g : List Tk} {room run lst : List Int} {s0 : List Int} {N p : Int} {flag : Bool} (hl : lst.length ≤ 16) (hlg : lst.length ≤ g.length) (hrg : run.length ≤ g.length) (hf : flag = true → 1 < lst.length) (h : RS s0 N p) (hN : N + 10 < 100000) : EvP (fun k => spec_DrawAdmitTasks.j1 k g room run lst flag s0 p) (AdmOk g room) := by
 refine EvP.succ ?_
 simp only [spec_DrawAdmitTasks.j1]
 cases flag with
 | true =>
  have h1 := hf rfl
  refine EvP.pos (by first | rfl | trivial) (EvP.pos (by omega) (EvP.pos (by omega) ?_))
  refine (ev_spoil h (by omega) _ 8 (by simp; omega)).bind fun d hd => ?_
  refine (ev_one hd.2 (by omega) _ (by simp)).bind fun e he => EvP.ret ⟨rfl, rfl, hrg, ?_, ?_, ?_⟩
  ·have := hd.1; simp only [List.length_set] at this; dsimp only; omega
  ·have := he.1; simp only [List.mem_cons, List.not_mem_nil, or_false] at this; dsimp only; omega
  ·have := he.1; simp only [List.mem_cons, List.not_mem_nil, or_false] at this; dsimp only; omega
 | false =>
  refine EvP.neg (by simp) ?_
  refine (ev_spoil h (by omega) _ 8 (by omega)).bind fun d hd => ?_
  refine (ev_one hd.2 (by omega) _ (by simp)).bind fun e he => EvP.ret ⟨rfl, rfl, hrg, ?_, ?_, ?_⟩
  ·have := hd.1; dsimp only; omega
  ·have := he.1; simp only [List.mem_cons, List.not_mem_nil, or_false] at this; dsimp only; omega
  ·have := he.1; simp only [List.mem_cons, List.not_mem_nil, or_false] at this; dsimp only; omega
theorem ev_da0 {g : List Tk} (hf : Fits g) (h16 : g.length ≤ 16) {room : List Int} (hr : room.length ≤ 4) {s0 : List Int} : ∀ (d i : Nat) (run lst : List Int) (N p : Int), i + d = g.length → run.length ≤ i → lst.length ≤ i → RS s0 N p → N + d + 20 < 100000 → EvP (fun k => spec_DrawAdmitTasks.l0 k g room run lst (i : Int) s0 p) (AdmOk g room)
 | 0, i, run, lst, N, p, hi, h1, h2, h, hN => by
  refine EvP.succ ?_
  simp only [spec_DrawAdmitTasks.l0]
  refine EvP.neg (by omega) (EvP.ite (fun hg => ?_) (fun _ => ?_))
  ·refine (ev_pick h (by omega) (n := 2)).bind fun a ha => ?_
   exact ev_da1 (by omega) (by omega) (by omega) (fun _ => by omega) ha.2.2 (by omega)
  ·exact ev_da1 (by omega) (by omega) (by omega) (fun e => by cases e) h (by omega)
 | d + 1, i, run, lst, N, p, hi, h1, h2, h, hN => by
  have hw : wrap64 ((i : Int) + 1) = ((i + 1 : Nat) : Int) := w64s (by unfold big; omega)
  refine EvP.succ ?_
  simp only [spec_DrawAdmitTasks.l0, hw]
  refine EvP.pos (by omega) ((ev_pick h (by omega) (n := 4)).bind fun a ha => EvP.ite (fun _ => ?_) (fun _ => EvP.ite (fun _ => ?_) (fun _ => EvP.ite (fun _ => ?_) (fun _ => ?_))))
  ·rw [copyInts_eq (by unfold big; omega) (by omega)]
   simp only [Option.bind_some]
   refine EvP.pos (by omega) (Ev.bindP (ev_validRunning hf (room := room) (l := run ++ [(i : Int)]) (by unfold big; omega) (by rw [List.length_append, List.length_singleton]; unfold big; omega)) (EvP.ite (fun _ => EvP.pos (by omega) ?_) (fun _ => ?_)))
   ·exact ev_da0 hf h16 hr d (i + 1) (run ++ [(i : Int)]) lst (N + 1) a.2 (by omega) (by rw [List.length_append, List.length_singleton]; omega) (by omega) ha.2.2 (by omega)
   ·exact ev_da0 hf h16 hr d (i + 1) run lst (N + 1) a.2 (by omega) (by omega) (by omega) ha.2.2 (by omega)
  ·exact EvP.pos (by omega) (ev_da0 hf h16 hr d (i + 1) run (lst ++ [(i : Int)]) (N + 1) a.2 (by omega) (by omega) (by rw [List.length_append, List.length_singleton]; omega) ha.2.2 (by omega))
  ·exact EvP.pos (by omega) (ev_da0 hf h16 hr d (i + 1) run (lst ++ [(i : Int)]) (N + 1) a.2 (by omega) (by omega) (by rw [List.length_append, List.length_singleton]; omega) ha.2.2 (by omega))
  ·exact ev_da0 hf h16 hr d (i + 1) run lst (N + 1) a.2 (by omega) (by omega) (by omega) ha.2.2 (by omega)
theorem ev_DrawAdmitTasks {l : List Int} (h : Bytes l) : EvP (fun k => spec_DrawAdmitTasks.f k l) (fun r => GSmall 16 10 r.1 ∧ r.2.1.length ≤ 4 ∧ r.2.2.1.length ≤ 16 ∧ r.2.2.2.1.length ≤ 17 ∧ 0 ≤ r.2.2.2.2 ∧ r.2.2.2.2 ≤ 5) := by
 unfold spec_DrawAdmitTasks.f
 refine (ev_newReader h).bind fun a ha => ?_
 refine (ev_anyGraph ha (by omega)).bind fun b hb => ?_
 refine (ev_someRoomA hb.2 (by omega)).bind fun c hc => ?_
 have hl := hb.1.1
 refine (ev_da0 (hb.1.fits (by unfold big; omega) (by unfold big; omega)) hl hc.1 b.1.length 0 [] [] _ c.2 (by omega) (Nat.le_refl _) (Nat.le_refl _) hc.2 (by omega)).mono fun r hr => ?_
 obtain ⟨e1, e2, e3, e4, e5, e6⟩ := hr
 exact ⟨by rw [e1]; exact hb.1, by rw [e2]; exact hc.1, by omega, by omega, e5, e6⟩
end Go.Proofs.YtpibdjkajgfgjaaDoor.Core
end
