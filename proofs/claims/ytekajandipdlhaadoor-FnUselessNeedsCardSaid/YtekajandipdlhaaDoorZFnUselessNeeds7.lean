/- The law FnUselessNeeds holds of the given program: the proof's own part, with its row and its card, part 7 of 12. -/
import Derived.Test.YtekajandipdlhaaDoorZFnUselessNeeds6
section
set_option linter.unusedVariables false
set_option linter.unusedSimpArgs false
namespace Go.Proofs.YtekajandipdlhaaDoor.Core
open Go Go.RowKit Go.Proofs.YtekajandipdlhaaDoorW.PrintWords Go.Proofs.YtekajandipdlhaaDoorW.PrintMore Go.Proofs.YtekajandipdlhaaDoor.P
theorem ufold_bit (G : GD) (i k : Nat) : ∀ (ks : List Nat) (o : Nat), (ks.foldl (ustep G i) o).testBit k = true ↔ o.testBit k = true ∨ ∃ m ∈ ks, (G.needs.getD i 0).testBit k = true ∧ (G.below.getD m 0).testBit k = true
  | [], o => by simp
  | x :: ks, o => by
    rw [List.foldl_cons, ufold_bit G i k ks, ustep, Nat.testBit_or, Nat.testBit_and, Bool.or_eq_true, Bool.and_eq_true]
    constructor
    · rintro ((h | h) | ⟨m, hm, h⟩)
      · exact .inl h
      · exact .inr ⟨x, List.mem_cons_self, h⟩
      · exact .inr ⟨m, List.mem_cons_of_mem _ hm, h⟩
    · rintro (h | ⟨m, hm, h⟩)
      · exact .inl (.inl h)
      · rcases List.mem_cons.1 hm with rfl | hm
        · exact .inl (.inr h)
        · exact .inr ⟨m, hm, h⟩
theorem VG.useless_bit {g : List Tk} {G : GD} (v : VG g G) (i k : Nat) : (uselessD G i).testBit k = true ↔ (G.needs.getD i 0).testBit k = true ∧ ∃ m, (G.needs.getD i 0).testBit m = true ∧ (G.below.getD m 0).testBit k = true := by
  unfold uselessD
  rw [ufold_bit]
  constructor
  · rintro (h | ⟨m, hm, h1, h2⟩)
    · simp at h
    · exact ⟨h1, m, (mem_elemsN.1 hm).2, h2⟩
  · rintro ⟨h1, m, hm, h2⟩
    exact .inr ⟨m, mem_elemsN.2 ⟨by have := v.need_lt hm; have := v.n8; omega, hm⟩, h1, h2⟩
end Go.Proofs.YtekajandipdlhaaDoor.Core
end
section
set_option linter.unusedVariables false
set_option linter.unusedSimpArgs false
namespace Go.Proofs.YtekajandipdlhaaDoor.Core
open Go Go.RowKit Go.Proofs.YtekajandipdlhaaDoorW.PrintWords Go.Proofs.YtekajandipdlhaaDoorW.PrintMore Go.Proofs.YtekajandipdlhaaDoor.P
theorem VG.below_all {g : List Tk} {G : GD} (v : VG g G) (hG : graphD g = some G) (i : Nat) : G.below.getD i 0 < 2 ^ g.length := by
  have ok := graphD_ok hG
  have h := getD_lt ok.bb i
  rwa [v.tasks] at h
theorem VG.below_lt {g : List Tk} {G : GD} (v : VG g G) (hG : graphD g = some G) {i j : Nat} (h : (G.below.getD i 0).testBit j = true) : j < g.length := by
  have h1 := v.below_all hG i
  have h2 := Nat.ge_two_pow_of_testBit h
  have h3 : 2 ^ j < 2 ^ g.length := Nat.lt_of_le_of_lt h2 h1
  exact (Nat.pow_lt_pow_iff_right (by omega)).1 h3
theorem VG.need_below {g : List Tk} {G : GD} (v : VG g G) (hG : graphD g = some G) {i j : Nat} (hi : i < g.length) (h : (G.needs.getD i 0).testBit j = true) : (G.below.getD i 0).testBit j = true :=
  (below_bits hG hi j).2 ⟨j, h, .inl rfl⟩
theorem VG.below_closed {g : List Tk} {G : GD} (v : VG g G) (hG : graphD g = some G) : ∀ i, i < g.length → ∀ j, (G.below.getD i 0).testBit j = true → ∀ l, (G.needs.getD j 0).testBit l = true → (G.below.getD i 0).testBit l = true := by
  refine v.ind (Q := fun i => ∀ j, (G.below.getD i 0).testBit j = true → ∀ l, (G.needs.getD j 0).testBit l = true → (G.below.getD i 0).testBit l = true) fun i hi ih j hj l hl => ?_
  obtain ⟨m, hm, h⟩ := (below_bits hG hi j).1 hj
  refine (below_bits hG hi l).2 ⟨m, hm, .inr ?_⟩
  rcases h with rfl | h
  · exact v.need_below hG (v.need_lt hm) hl
  · exact ih m hm j h l hl
theorem VG.not_self {g : List Tk} {G : GD} (v : VG g G) (hG : graphD g = some G) {i : Nat} (hi : i < g.length) : (G.below.getD i 0).testBit i = false := by
  refine Bool.eq_false_iff.2 fun h => ?_
  obtain ⟨pre, suf, ho⟩ := List.append_of_mem (v.mem.2 hi)
  have hm := v.below_before hG i hi i h pre suf ho
  have hn := v.ord.nodup
  rw [ho, List.nodup_append] at hn
  exact hn.2.2 i hm i List.mem_cons_self rfl
end Go.Proofs.YtekajandipdlhaaDoor.Core
end
section
set_option linter.unusedVariables false
set_option linter.unusedSimpArgs false
namespace Go.Proofs.YtekajandipdlhaaDoor.Core
open Go Go.RowKit Go.Proofs.YtekajandipdlhaaDoorW.PrintWords Go.Proofs.YtekajandipdlhaaDoorW.PrintMore Go.Proofs.YtekajandipdlhaaDoor.P
theorem VG.closed_iff {g : List Tk} {G : GD} (v : VG g G) {s : Nat} (hs : s < 2 ^ g.length) : closedD G.needs s = true ↔ ∀ i, s.testBit i = true → ∀ j, (G.needs.getD i 0).testBit j = true → s.testBit j = true := by
  unfold closedD
  rw [List.all_eq_true]
  constructor
  · intro h i hi j hj
    have := of_decide_eq_true (h i ((v.list_bit hs i).1 hi))
    exact (v.sub_iff' hs).1 this j hj
  · intro h i hi
    exact decide_eq_true ((v.sub_iff' hs).2 (h i ((v.list_bit hs i).2 hi)))
theorem VG.mem_rd {g : List Tk} {G : GD} (v : VG g G) {s x : Nat} : (G.ready s).testBit x = true ↔ x < g.length ∧ s.testBit x = false ∧ sub (G.needs.getD x 0) s = 0 := by
  rw [← v.mem_ready, mem_elemsN]
  refine ⟨fun h => ⟨?_, h⟩, fun h => h.2⟩
  have h1 := ready_lt G s
  rw [v.nl] at h1
  have h3 := (Nat.pow_lt_pow_iff_right (by omega : 1 < 2)).1 (Nat.lt_of_le_of_lt (Nat.ge_two_pow_of_testBit h) h1)
  have := v.n8
  omega
/-- A ready task can be done. -/
theorem VG.step {g : List Tk} {G : GD} (v : VG g G) {s x : Nat} (hs : s < 2 ^ g.length) (hc : closedD G.needs s = true) (hx : (G.ready s).testBit x = true) : s ||| 2 ^ x < 2 ^ g.length ∧ closedD G.needs (s ||| 2 ^ x) = true ∧ zb g.length (s ||| 2 ^ x) + 1 = zb g.length s := by
  obtain ⟨h1, h2, h3⟩ := v.mem_rd.1 hx
  have hlt : s ||| 2 ^ x < 2 ^ g.length := Nat.or_lt_two_pow hs (Nat.pow_lt_pow_right (by omega) h1)
  refine ⟨hlt, (v.closed_iff hlt).2 fun i hi j hj => ?_, ?_⟩
  · rw [or_bit, Bool.or_eq_true] at hi ⊢
    rcases hi with hi | hi
    · exact .inl ((v.closed_iff hs).1 hc i hi j hj)
    · have e : x = i := by simpa using hi
      subst e
      exact .inl ((v.sub_iff' hs).1 h3 j hj)
  · have := zb_step h2 h1; omega
end Go.Proofs.YtekajandipdlhaaDoor.Core
end
section
set_option linter.unusedVariables false
set_option linter.unusedSimpArgs false
namespace Go.Proofs.YtekajandipdlhaaDoor.Core
open Go Go.RowKit Go.Proofs.YtekajandipdlhaaDoorW.PrintWords Go.Proofs.YtekajandipdlhaaDoorW.PrintMore Go.Proofs.YtekajandipdlhaaDoor.P
theorem VG.in_list {g : List Tk} {G : GD} (v : VG g G) {t : Nat} (ht : t < 2 ^ g.length) (i : Nat) : ((i : Int) ∈ up (elemsN t)) ↔ t.testBit i = true := by
  rw [mem_up, v.list_bit ht]
theorem VG.in_dec {g : List Tk} {G : GD} (v : VG g G) {t : Nat} (ht : t < 2 ^ g.length) (i : Nat) : decide ((i : Int) ∈ up (elemsN t)) = t.testBit i := by
  rw [Bool.eq_iff_iff, decide_eq_true_eq, v.in_list ht]
end Go.Proofs.YtekajandipdlhaaDoor.Core
end
section
set_option linter.unusedVariables false
set_option linter.unusedSimpArgs false
namespace Go.Proofs.YtekajandipdlhaaDoor.Core
open Go Go.RowKit Go.Proofs.YtekajandipdlhaaDoorW.PrintWords Go.Proofs.YtekajandipdlhaaDoorW.PrintMore Go.Proofs.YtekajandipdlhaaDoor.P
def addN (S : List Nat) (j : Nat) : List Nat := if j ∈ S then S else S ++ [j]
theorem mem_addN {S : List Nat} {j x : Nat} : x ∈ addN S j ↔ x ∈ S ∨ x = j := by
  unfold addN
  split
  · rename_i h
    constructor
    · exact .inl
    · rintro (h2 | rfl)
      · exact h2
      · exact h
  · rw [List.mem_append, List.mem_singleton]
theorem addN_nodup {S : List Nat} (h : S.Nodup) (j : Nat) : (addN S j).Nodup := by
  unfold addN
  split
  · exact h
  · rename_i hj
    rw [List.nodup_append]
    refine ⟨h, by simp, fun a ha b hb => ?_⟩
    rw [List.mem_singleton.1 hb]
    exact fun e => hj (e ▸ ha)
theorem mem_addF : ∀ (ks : List Nat) (S : List Nat) (x : Nat), x ∈ ks.foldl addN S ↔ x ∈ S ∨ x ∈ ks
  | [], S, x => by simp
  | k :: ks, S, x => by
    rw [List.foldl_cons, mem_addF ks, mem_addN, List.mem_cons, or_assoc]
theorem addF_nodup : ∀ (ks : List Nat) (S : List Nat), S.Nodup → (ks.foldl addN S).Nodup
  | [], _, h => h
  | k :: ks, S, h => addF_nodup ks _ (addN_nodup h k)
theorem addF_pre : ∀ (ks : List Nat) (S : List Nat), ∃ T, ks.foldl addN S = S ++ T
  | [], S => ⟨[], by simp⟩
  | k :: ks, S => by
    obtain ⟨T, hT⟩ := addF_pre ks (addN S k)
    rw [List.foldl_cons, hT]
    unfold addN
    split
    · exact ⟨T, rfl⟩
    · exact ⟨[k] ++ T, by simp⟩
theorem up_addN (S : List Nat) (j : Nat) : up (addN S j) = if (j : Int) ∈ up S then up S else up S ++ [(j : Int)] := by
  unfold addN
  by_cases h : j ∈ S
  · rw [if_pos h, if_pos (mem_up.2 h)]
  · rw [if_neg h, if_neg (fun e => h (mem_up.1 e))]
    simp [up]
theorem ev_an1 {g : List Tk} {at_ x6 : Int} {R : List Int} {L : List Nat} (hL : L.length ≤ 1000) : ∀ (r pre S : List Nat), L = pre ++ r → S.length + r.length ≤ 2000 → Ev (fun k => spec_allNeeds.l0 k g at_ (up (r.foldl addN S)) (wrap64 (x6 + 1))) R →
    Ev (fun k => spec_allNeeds.l1 k g at_ (up S) x6 (up L) (pre.length : Int)) R
  | [], pre, S, hp, hS, h => by
    rw [List.append_nil] at hp
    refine Ev.succ (h.of fun k => ?_)
    rw [spec_allNeeds.l1, if_neg (by rw [up_length, hp]; omega)]
    rfl
  | j :: r, pre, S, hp, hS, h => by
    have hl : L.length = pre.length + (r.length + 1) := by rw [hp]; simp
    have hrd : rd (up L) (pre.length : Int) = (j : Int) := by rw [rd_up (i := pre.length) rfl, hp]; simp
    have hw : wrap64 ((pre.length : Int) + 1) = ((pre ++ [j]).length : Int) := by rw [w64s (by unfold big; omega)]; simp
    have hS2 : (addN S j).length ≤ S.length + 1 := by unfold addN; split <;> simp
    rw [List.length_cons] at hS
    have ih := ev_an1 (at_ := at_) (x6 := x6) (R := R) hL r (pre ++ [j]) (addN S j) (by rw [hp]; simp) (by omega) h
    rw [up_addN] at ih
    have hin := ev_isIn (L := up S) (by rw [up_length]; unfold big; omega) (j : Int)
    refine Ev.succ ?_
    simp only [spec_allNeeds.l1, hrd, hw]
    refine Ev.pos (by rw [up_length]; omega) (Ev.pos (by omega) (Ev.bind hin ?_))
    by_cases hj : (j : Int) ∈ up S
    · rw [if_pos hj] at ih
      exact Ev.pos (decide_eq_true hj) ih
    · rw [if_neg hj] at ih
      exact Ev.neg (by rw [decide_eq_true_eq]; exact hj) (Ev.pos (by rw [up_length]; omega) ih)
theorem ev_an2 {g : List Tk} (hn : g.length ≤ 8) {a : Nat} {S : List Nat} (hS : S.length ≤ 8) : ∀ (d i : Nat), i + d = g.length → Ev (fun k => spec_allNeeds.l2 k g (a : Int) (up S) (up ((List.range i).filter (fun x => decide (x ≠ a) && decide (x ∈ S)))) (i : Int)) (up ((List.range g.length).filter (fun x => decide (x ≠ a) && decide (x ∈ S))))
  | 0, i, hd => by
    have hi : i = g.length := by omega
    subst hi
    refine Ev.succ ((Ev.const _).of fun k => ?_)
    rw [spec_allNeeds.l2, if_neg (by omega)]
  | d + 1, i, hd => by
    have ih := ev_an2 hn (a := a) hS d (i + 1) (by omega)
    have hw : wrap64 ((i : Int) + 1) = ((i + 1 : Nat) : Int) := w64s (by unfold big; omega)
    have hf := List.length_filter_le (fun x => decide (x ≠ a) && decide (x ∈ S)) (List.range i)
    rw [List.length_range] at hf
    rw [List.range_succ, List.filter_append] at ih
    refine Ev.succ ?_
    simp only [spec_allNeeds.l2, hw]
    refine Ev.pos (by omega) ?_
    by_cases hia : i = a
    · rw [List.filter_cons_of_neg (by simp [hia]), List.filter_nil, List.append_nil] at ih
      exact Ev.pos (by omega) ih
    · have hin := ev_isIn (L := up S) (by rw [up_length]; unfold big; omega) (i : Int)
      refine Ev.neg (by omega) (Ev.bind hin ?_)
      by_cases hiS : i ∈ S
      · rw [List.filter_cons_of_pos (by simp [hia, hiS]), List.filter_nil] at ih
        have e3 : up ((List.range i).filter (fun x => decide (x ≠ a) && decide (x ∈ S)) ++ [i]) = up ((List.range i).filter (fun x => decide (x ≠ a) && decide (x ∈ S))) ++ [(i : Int)] := by simp [up]
        rw [e3] at ih
        exact Ev.pos (decide_eq_true (mem_up.2 hiS)) (Ev.pos (by rw [up_length]; omega) ih)
      · rw [List.filter_cons_of_neg (by simp [hiS]), List.filter_nil, List.append_nil] at ih
        exact Ev.neg (by rw [decide_eq_true_eq, mem_up]; exact hiS) ih
theorem ev_an0 {g : List Tk} {G : GD} (v : VG g G) (hG : graphD g = some G) {a : Nat} (ha : a < g.length) : ∀ (d : Nat) (P Q : List Nat), d + P.length = g.length → (P ++ Q).Nodup → (∀ x ∈ P ++ Q, x < g.length) → (∀ p ∈ P, ∀ j, (G.needs.getD p 0).testBit j = true → j ∈ P ++ Q) → a ∈ P ++ Q → (∀ x ∈ P ++ Q, x = a ∨ (G.below.getD a 0).testBit x = true) →
    Ev (fun k => spec_allNeeds.l0 k g (a : Int) (up (P ++ Q)) (P.length : Int)) (up (elemsN (G.below.getD a 0))) := by
  have h8 := v.n8
  have hlen : ∀ S : List Nat, S.Nodup → (∀ x ∈ S, x < g.length) → S.length ≤ g.length := fun S h1 h2 => by
    have := h1.length_le_of_subset (l₂ := List.range g.length) (fun x hx => List.mem_range.2 (h2 x hx))
    rwa [List.length_range] at this
  intro d
  induction d with
  | zero =>
    intro P Q hd hnd hlt hcl hat hb
    have h1 := hlen _ hnd hlt
    rw [List.length_append] at h1
    have hQ : Q = [] := List.length_eq_zero_iff.1 (by omega)
    subst hQ
    rw [List.append_nil] at *
    have hfin : (List.range g.length).filter (fun x => decide (x ≠ a) && decide (x ∈ P)) = elemsN (G.below.getD a 0) := by
      have hcP : ∀ i, i < g.length → ∀ k, (G.below.getD i 0).testBit k = true → i ∈ P → k ∈ P := by
        refine v.ind (Q := fun i => ∀ k, (G.below.getD i 0).testBit k = true → i ∈ P → k ∈ P) fun i hi ih k hk hp => ?_
        obtain ⟨m, hm, h⟩ := (below_bits hG hi k).1 hk
        have hmp := hcl i hp m hm
        rcases h with rfl | h
        · exact hmp
        · exact ih m hm k h hmp
      refine up_inj (asc_ext ?_ (asc_elems _) fun x => ?_)
      · have := (asc_filter (fun x => decide (x ≠ a) && decide (x ∈ P)) g.length 0).1
        rwa [← List.range_eq_range'] at this
      · by_cases hx : 0 ≤ x
        · obtain ⟨n, rfl⟩ := Int.eq_ofNat_of_zero_le hx
          rw [show ((n : Int) ∈ up (elemsN (G.below.getD a 0))) ↔ n ∈ elemsN (G.below.getD a 0) from mem_up, show ((n : Int) ∈ up ((List.range g.length).filter (fun x => decide (x ≠ a) && decide (x ∈ P)))) ↔ n ∈ (List.range g.length).filter (fun x => decide (x ≠ a) && decide (x ∈ P)) from mem_up, List.mem_filter, List.mem_range, mem_elemsN, Bool.and_eq_true, decide_eq_true_eq, decide_eq_true_eq]
          constructor
          · rintro ⟨h1, h2, h3⟩
            exact ⟨by omega, (hb n h3).resolve_left h2⟩
          · rintro ⟨h1, h2⟩
            exact ⟨v.below_lt hG h2, fun e => (by rw [e, v.not_self hG ha] at h2; cases h2), hcP a ha n h2 hat⟩
        · constructor
          · intro h
            obtain ⟨n, _, e⟩ := List.mem_map.1 h
            have e' : ((n : Nat) : Int) = x := e
            omega
          · intro h
            obtain ⟨n, _, e⟩ := List.mem_map.1 h
            have e' : ((n : Nat) : Int) = x := e
            omega
    have h2 := ev_an2 h8 (a := a) (S := P) (by omega) g.length 0 (by omega)
    rw [hfin] at h2
    refine Ev.succ ?_
    simp only [spec_allNeeds.l0]
    exact Ev.neg (by rw [up_length]; omega) h2
  | succ d ih =>
    intro P Q hd hnd hlt hcl hat hb
    cases Q with
    | nil =>
      have hcl' : ∀ i, i ∈ P → i < g.length := fun i hi => hlt i (List.mem_append_left _ hi)
      rw [List.append_nil] at *
      have h1 := hlen _ hnd hlt
      have hfin : (List.range g.length).filter (fun x => decide (x ≠ a) && decide (x ∈ P)) = elemsN (G.below.getD a 0) := by
        have hcP : ∀ i, i < g.length → ∀ k, (G.below.getD i 0).testBit k = true → i ∈ P → k ∈ P := by
          refine v.ind (Q := fun i => ∀ k, (G.below.getD i 0).testBit k = true → i ∈ P → k ∈ P) fun i hi ih k hk hp => ?_
          obtain ⟨m, hm, h⟩ := (below_bits hG hi k).1 hk
          have hmp := hcl i hp m hm
          rcases h with rfl | h
          · exact hmp
          · exact ih m hm k h hmp
        refine up_inj (asc_ext ?_ (asc_elems _) fun x => ?_)
        · have := (asc_filter (fun x => decide (x ≠ a) && decide (x ∈ P)) g.length 0).1
          rwa [← List.range_eq_range'] at this
        · by_cases hx : 0 ≤ x
          · obtain ⟨n, rfl⟩ := Int.eq_ofNat_of_zero_le hx
            rw [show ((n : Int) ∈ up (elemsN (G.below.getD a 0))) ↔ n ∈ elemsN (G.below.getD a 0) from mem_up, show ((n : Int) ∈ up ((List.range g.length).filter (fun x => decide (x ≠ a) && decide (x ∈ P)))) ↔ n ∈ (List.range g.length).filter (fun x => decide (x ≠ a) && decide (x ∈ P)) from mem_up, List.mem_filter, List.mem_range, mem_elemsN, Bool.and_eq_true, decide_eq_true_eq, decide_eq_true_eq]
            constructor
            · rintro ⟨h1, h2, h3⟩
              exact ⟨by omega, (hb n h3).resolve_left h2⟩
            · rintro ⟨h1, h2⟩
              exact ⟨v.below_lt hG h2, fun e => (by rw [e, v.not_self hG ha] at h2; cases h2), hcP a ha n h2 hat⟩
          · constructor
            · intro h
              obtain ⟨n, _, e⟩ := List.mem_map.1 h
              have e' : ((n : Nat) : Int) = x := e
              omega
            · intro h
              obtain ⟨n, _, e⟩ := List.mem_map.1 h
              have e' : ((n : Nat) : Int) = x := e
              omega
      have h2 := ev_an2 h8 (a := a) (S := P) (by omega) g.length 0 (by omega)
      rw [hfin] at h2
      refine Ev.succ ?_
      simp only [spec_allNeeds.l0]
      exact Ev.neg (by rw [up_length]; omega) h2
    | cons s Q =>
      have hs := hlt s (by simp)
      have hsl := hlen _ hnd hlt
      obtain ⟨T, hT⟩ := addF_pre (elemsN (G.needs.getD s 0)) (P ++ s :: Q)
      have hmem := mem_addF (elemsN (G.needs.getD s 0)) (P ++ s :: Q)
      have hnd2 := addF_nodup (elemsN (G.needs.getD s 0)) _ hnd
      have he := elemsN_length (G.needs.getD s 0)
      have hnm : ∀ x, x ∈ elemsN (G.needs.getD s 0) ↔ (G.needs.getD s 0).testBit x = true := fun x => by
        rw [mem_elemsN]
        exact ⟨fun h => h.2, fun h => ⟨by have := v.need_lt h; omega, h⟩⟩
      rw [hT] at hmem hnd2
      have eT : P ++ s :: Q ++ T = (P ++ [s]) ++ (Q ++ T) := by simp
      rw [eT] at hmem hnd2 hT
      have hih := ih (P ++ [s]) (Q ++ T) (by rw [List.length_append, List.length_singleton]; omega) hnd2 (fun x hx => by
        rcases (hmem x).1 hx with h | h
        · exact hlt x h
        · exact v.need_lt ((hnm x).1 h)) (fun p hp j hj => by
        rcases List.mem_append.1 hp with hp | hp
        · exact (hmem j).2 (.inl (hcl p hp j hj))
        · rw [List.mem_singleton.1 hp] at hj
          exact (hmem j).2 (.inr ((hnm j).2 hj))) ((hmem a).2 (.inl hat)) (fun x hx => by
        rcases (hmem x).1 hx with h | h
        · exact hb x h
        · have h3 := (hnm x).1 h
          rcases hb s (by simp) with h4 | h4
          · rw [h4] at h3
            exact .inr (v.need_below hG ha h3)
          · exact .inr (v.below_closed hG a ha s h4 x h3))
      have hrd : rd (up (P ++ s :: Q)) (P.length : Int) = (s : Int) := by rw [rd_up (i := P.length) rfl]; simp
      have hw : wrap64 ((P.length : Int) + 1) = ((P ++ [s]).length : Int) := by rw [w64s (by unfold big; omega)]; simp
      have h1 := ev_an1 (g := g) (at_ := (a : Int)) (x6 := (P.length : Int)) (R := up (elemsN (G.below.getD a 0))) (L := elemsN (G.needs.getD s 0)) (by omega) (elemsN (G.needs.getD s 0)) [] (P ++ s :: Q) rfl (by omega) (by rw [hw, hT]; exact hih)
      refine Ev.succ ?_
      simp only [spec_allNeeds.l0, hrd, rdT_nat, v.list hs]
      exact Ev.pos (by rw [up_length, List.length_append, List.length_cons]; omega) (Ev.pos (by omega) (Ev.pos (by omega) (Ev.pos (by omega) h1)))
theorem ev_specAllNeeds {g : List Tk} {G : GD} (v : VG g G) (hG : graphD g = some G) {a : Nat} (ha : a < g.length) : Ev (fun k => spec_allNeeds.f k g (a : Int)) (up (elemsN (G.below.getD a 0))) := by
  unfold spec_allNeeds.f
  exact ev_an0 v hG ha g.length [] [a] (by simp) (by simp) (fun x hx => by rw [List.nil_append, List.mem_singleton] at hx; omega) (by simp) (by simp) (fun x hx => by rw [List.nil_append, List.mem_singleton] at hx; exact .inl hx)
theorem ev_iu {g : List Tk} {G : GD} (v : VG g G) (hG : graphD g = some G) {i : Nat} (hi : i < g.length) {k0 : Nat} (hk : (G.needs.getD i 0).testBit k0 = true) : ∀ (r pre : List Nat), elemsN (G.needs.getD i 0) = pre ++ r → Ev (fun k => spec_isUseless.l0 k g (i : Int) (k0 : Int) (pre.length : Int)) (r.any fun m => (G.below.getD m 0).testBit k0)
  | [], pre, hp => by
    rw [List.append_nil] at hp
    refine Ev.succ ((Ev.const _).of fun k => ?_)
    rw [spec_isUseless.l0, if_pos (by omega), if_pos (by omega), rdT_nat, v.list hi, if_neg (by rw [up_length, hp]; omega)]
    rfl
  | m :: r, pre, hp => by
    have h8 := v.n8
    have hml : (G.needs.getD i 0).testBit m = true := (mem_elemsN.1 (show m ∈ elemsN (G.needs.getD i 0) by rw [hp]; simp)).2
    have hl : (elemsN (G.needs.getD i 0)).length = pre.length + (r.length + 1) := by rw [hp]; simp
    have he := elemsN_length (G.needs.getD i 0)
    have hrd : rd (up (elemsN (G.needs.getD i 0))) (pre.length : Int) = (m : Int) := by rw [rd_up (i := pre.length) rfl, hp]; simp
    have hw : wrap64 ((pre.length : Int) + 1) = ((pre ++ [m]).length : Int) := by rw [w64s (by unfold big; omega)]; simp
    have ih := ev_iu v hG hi hk r (pre ++ [m]) (by rw [hp]; simp)
    have hbl := elemsN_length (G.below.getD m 0)
    have hin := ev_isIn (L := up (elemsN (G.below.getD m 0))) (by rw [up_length]; unfold big; omega) (k0 : Int)
    rw [v.in_dec (v.below_all hG m)] at hin
    refine Ev.succ ?_
    simp only [spec_isUseless.l0, rdT_nat, v.list hi, hrd, hw]
    refine Ev.pos (by omega) (Ev.pos (by omega) (Ev.pos (by rw [up_length]; omega) (Ev.pos (by omega) (Ev.bind (ev_specAllNeeds v hG (v.need_lt hml)) (Ev.bind hin ?_)))))
    rw [List.any_cons]
    cases hb : (G.below.getD m 0).testBit k0 with
    | true => exact Ev.pos rfl (Ev.const _)
    | false => exact Ev.neg (by simp) ih
theorem ev_isUseless {g : List Tk} {G : GD} (v : VG g G) (hG : graphD g = some G) {i : Nat} (hi : i < g.length) {k0 : Nat} (hk : (G.needs.getD i 0).testBit k0 = true) : Ev (fun k => spec_isUseless.f k g (i : Int) (k0 : Int)) ((uselessD G i).testBit k0) := by
  unfold spec_isUseless.f
  refine (ev_iu v hG hi hk (elemsN (G.needs.getD i 0)) [] rfl).conv (Bool.eq_iff_iff.2 ?_)
  rw [List.any_eq_true, v.useless_bit]
  constructor
  · rintro ⟨m, hm, h⟩
    exact ⟨hk, m, (mem_elemsN.1 hm).2, h⟩
  · rintro ⟨_, m, hm, h⟩
    exact ⟨m, mem_elemsN.2 ⟨by have := v.need_lt hm; have := v.n8; omega, hm⟩, h⟩
/-- Among a set's numbers those of another. -/
theorem elems_filter {s t : Nat} (h : ∀ j, t.testBit j = true → s.testBit j = true) : (elemsN s).filter (fun j => t.testBit j) = elemsN t := by
  unfold elemsN
  rw [List.filter_filter]
  refine List.filter_congr fun j _ => ?_
  cases ht : t.testBit j with
  | false => simp
  | true => rw [h j ht]; rfl
end Go.Proofs.YtekajandipdlhaaDoor.Core
end
section
set_option linter.unusedVariables false
set_option linter.unusedSimpArgs false
namespace Go.Proofs.YtekajandipdlhaaDoor.Core
open Go Go.RowKit Go.Proofs.YtekajandipdlhaaDoorW.PrintWords Go.Proofs.YtekajandipdlhaaDoorW.PrintMore Go.Proofs.YtekajandipdlhaaDoor.P
theorem ev_un1 {g : List Tk} {G : GD} (v : VG g G) (hG : graphD g = some G) {i : Nat} (hi : i < g.length) {R : List (List Int)} : ∀ (r pre : List Nat) (out : List (List Int)), elemsN (G.needs.getD i 0) = pre ++ r → out.length + r.length ≤ 1000 →
    Ev (fun k => spec_UselessNeeds.l0 k g (out ++ (r.filter (fun j => (uselessD G i).testBit j)).map (uRow i)) ((i + 1 : Nat) : Int)) R → Ev (fun k => spec_UselessNeeds.l1 k g out (i : Int) (pre.length : Int)) R
  | [], pre, out, hp, ho, h => by
    rw [List.append_nil] at hp
    have h8 := v.n8
    have hw : wrap64 ((i : Int) + 1) = ((i + 1 : Nat) : Int) := w64s (by unfold big; omega)
    rw [List.filter_nil, List.map_nil, List.append_nil] at h
    refine Ev.succ ?_
    simp only [spec_UselessNeeds.l1, rdT_nat, v.list hi, hw]
    exact Ev.pos (by omega) (Ev.pos (by omega) (Ev.neg (by rw [up_length, hp]; omega) h))
  | m :: r, pre, out, hp, ho, h => by
    have h8 := v.n8
    have hml : (G.needs.getD i 0).testBit m = true := (mem_elemsN.1 (show m ∈ elemsN (G.needs.getD i 0) by rw [hp]; simp)).2
    have hl : (elemsN (G.needs.getD i 0)).length = pre.length + (r.length + 1) := by rw [hp]; simp
    have he := elemsN_length (G.needs.getD i 0)
    have hrd : rd (up (elemsN (G.needs.getD i 0))) (pre.length : Int) = (m : Int) := by rw [rd_up (i := pre.length) rfl, hp]; simp
    have hw : wrap64 ((pre.length : Int) + 1) = ((pre ++ [m]).length : Int) := by rw [w64s (by unfold big; omega)]; simp
    rw [List.length_cons] at ho
    refine Ev.succ ?_
    simp only [spec_UselessNeeds.l1, rdT_nat, v.list hi, hrd, hw]
    refine Ev.pos (by omega) (Ev.pos (by omega) (Ev.pos (by rw [up_length]; omega) (Ev.pos (by omega) (Ev.bind (ev_isUseless v hG hi hml) ?_))))
    cases hu : (uselessD G i).testBit m with
    | true =>
      rw [List.filter_cons_of_pos (p := fun j => (uselessD G i).testBit j) hu, List.map_cons] at h
      have ih := ev_un1 v hG hi (R := R) r (pre ++ [m]) (out ++ [uRow i m]) (by rw [hp]; simp) (by rw [List.length_append, List.length_singleton]; omega) (by rw [List.append_assoc]; exact h)
      exact Ev.pos rfl (Ev.pos (by omega) ih)
    | false =>
      rw [List.filter_cons_of_neg (p := fun j => (uselessD G i).testBit j) (by rw [hu]; simp)] at h
      have ih := ev_un1 v hG hi (R := R) r (pre ++ [m]) out (by rw [hp]; simp) (by omega) h
      exact Ev.neg (by simp) ih
theorem ev_un0 {g : List Tk} {G : GD} (v : VG g G) (hG : graphD g = some G) : ∀ (d i : Nat), i + d = g.length → Ev (fun k => spec_UselessNeeds.l0 k g (uTo G i) (i : Int)) (uTo G g.length)
  | 0, i, hd => by
    have hi : i = g.length := by omega
    subst hi
    refine Ev.succ ((Ev.const _).of fun k => ?_)
    rw [spec_UselessNeeds.l0, if_neg (by omega)]
  | d + 1, i, hd => by
    have ih := ev_un0 v hG d (i + 1) (by omega)
    have h8 := v.n8
    have hul := uTo_length G i
    have he := elemsN_length (G.needs.getD i 0)
    have h1 := ev_un1 v hG (i := i) (by omega) (R := uTo G g.length) (elemsN (G.needs.getD i 0)) [] (uTo G i) rfl (by omega) (by
      rw [elems_filter (fun j hj => ((v.useless_bit i j).1 hj).1)]
      exact ih)
    refine Ev.succ (h1.of fun k => ?_)
    rw [spec_UselessNeeds.l0, if_pos (by omega)]
    rfl
theorem ev_UselessNeeds {g : List Tk} (hg : Fits g) : Ev (fun k => spec_UselessNeeds.f k g) (uselessND g) := by
  unfold spec_UselessNeeds.f
  refine Ev.bind (ev_validGraph hg) ?_
  unfold uselessND
  cases hG : graphD g with
  | none => exact Ev.neg (by simp) (Ev.const _)
  | some G => exact Ev.pos rfl (ev_un0 (vg_of hG) hG g.length 0 (by omega))
end Go.Proofs.YtekajandipdlhaaDoor.Core
end
section
set_option linter.unusedVariables false
set_option linter.unusedSimpArgs false
namespace Go.Proofs.YtekajandipdlhaaDoor.Core
open Go Go.RowKit Go.Shelf Go.Proofs.YtekajandipdlhaaDoorW.PrintWords Go.Proofs.YtekajandipdlhaaDoorW.PrintLast Go.Proofs.YtekajandipdlhaaDoorW.PrintMore Go.Proofs.YtekajandipdlhaaDoor.P
attribute [local go_sem] Oper.semAt_some wide_fn wide_depth
set_option maxHeartbeats 1000000 in
theorem allNeedsFn_calls (b : Nat) (G : GD) (w : World) (hg : IsG w b G) :
    Calls Tryd.prog 70 #[.pointer (some ⟨b, 0, none⟩)] w fun e w' => ∃ A c, e = .returned (.slice A G.below.length c) ∧ (Kd.int .u16).C w A G.below.length (up G.below) ∧ w' = w := by
  obtain ⟨A, c, hc, _, hC⟩ := hg.below
  go_enter Tryd.func70, Tryd.ntmps70
  go_wp2
  go_ret
  exact ⟨_, _, rfl, hC, rfl⟩
def allNeedsD (g : List Tk) (x : Int) : List Int := match graphD g with
  | none => []
  | some G => if 0 ≤ x ∧ x ≤ (g.length : Int) - 1 then elems (G.below.getD x.toNat 0) else []
set_option maxRecDepth 100000 in
set_option maxHeartbeats 2000000 in
theorem relatedAllNeeds_calls (A0 : Option Addr) (c0 : Nat) (l0 : List Tk) (x : Int) (w : World) (hr0 : Kd.C k37 w A0 l0.length l0) (hc0 : l0.length ≤ c0) (hT : Tab w) :
    Calls Tryd.prog 69 #[.slice A0 l0.length c0, .int .i64 x, .func (.func 70) #[] #[]] w fun e w' => ∃ v0_ : Value, e = .returned (v0_) ∧ Kd.R (Kd.int .i64) 3 w' w.heap.size (fun _ => True) v0_ (allNeedsD l0 x) ∧ Below w.heap.size w w' := by
  cases hg : graphD l0 with
  | none =>
    have hcd : allNeedsD l0 x = [] := by unfold allNeedsD; rw [hg]
    rw [hcd]
    have HG := Aside0.mk (graphOf_none A0 c0 l0 w hT hr0 hc0 hg)
    clear hr0 hT hg hcd
    go_enter Tryd.func69, Tryd.ntmps69
    go_wp2_with (go_at_call 60; refine HG.out.mono ?_; rintro e w' ⟨rfl, hB⟩)
    go_ret
    exact ⟨_, rfl, Kd.R_nil _ _ _ _ _, hB⟩
  | some G =>
    have hcd : allNeedsD l0 x = if 0 ≤ x ∧ x ≤ (l0.length : Int) - 1 then elems (G.below.getD x.toNat 0) else [] := by unfold allNeedsD; rw [hg]
    have HG := Aside0.mk (graphOf_some A0 c0 l0 G w hT hr0 hc0 hg)
    have ok := graphD_ok hg
    have hgt := graphD_tasks hg
    have h8 := ok.n8
    have hal := ok.bl
    have hbb := ok.bb
    rw [hgt] at h8 hal hbb
    have HT := Aside0.mk hT
    have hw2 : wrap64 ((l0.length : Int) - 1) = (l0.length : Int) - 1 := w64 (by omega) (by omega)
    have hw1 : IntKind.i64.wrap ((l0.length : Int) - 1) = (l0.length : Int) - 1 := by rw [i64_w, hw2]
    by_cases hx : 0 ≤ x ∧ x ≤ (l0.length : Int) - 1
    · rw [hcd, if_pos hx]
      have HW := Aside0.mk (fun W => within_is x 0 ((l0.length : Int) - 1) true W (decide_eq_true hx))
      have hv : G.below.getD x.toNat 0 < 256 := Nat.lt_of_lt_of_le (getD_lt hbb _) (pow8 h8)
      have p0 : (0 ≤ x) = True := eq_true hx.1
      have q0 : (x < (G.below.length : Int)) = True := eq_true (by omega)
      have HFN := Aside0.mk (fun W b (hg : IsG W b G) => (allNeedsFn_calls b G W hg).mono (R' := fun e w' => ∃ (ad : Addr) (c : Nat), e = .returned (.slice (some ad) G.below.length c) ∧ w'.cell? (ad.add x.toNat) = some (.int .u16 ((G.below.getD x.toNat 0 : Nat) : Int)) ∧ w' = W) (fun e w' ⟨A, c, h1, h2, h3⟩ => by
        obtain ⟨ad, e0, h⟩ := Kd.at_int h2 x hx.1 (by omega)
        subst e0
        rw [rd_up (i := x.toNat) (by omega)] at h
        exact ⟨ad, c, h1, by rw [h3]; exact h, h3⟩))
      clear hr0 hT hg hcd hgt ok hal hbb h8 hx
      generalize G.below.getD x.toNat 0 = s at hv HFN ⊢
      go_enter Tryd.func69, Tryd.ntmps69
      go_wp2_with (first | (go_at_call 60; refine HG.out.mono ?_; rintro e w1 ⟨b, rfl, hB, hgr⟩) | (go_at_call 81; refine (HW.out _).mono ?_; rintro e w2 ⟨rfl, hB2⟩; replace hgr := hgr.move hB2; replace hB := below_step hB hB2) | (go_at_call 70; refine (HFN.out _ b hgr).mono ?_; rintro e w3 ⟨ad, c, rfl, hcell, rfl⟩) | (go_at_call 71; refine (list_calls s hv _ (HT.out.of hB)).mono ?_; rintro e w4 ⟨v, rfl, hR, hB4⟩))
      go_ret
      exact ⟨_, rfl, Kd.R_mono (Kd.R_lower hR hB.size) (fun _ _ => trivial), below_step hB hB4⟩
    · rw [hcd, if_neg hx]
      have HW := Aside0.mk (fun W => within_is x 0 ((l0.length : Int) - 1) false W (decide_eq_false hx))
      clear hr0 hT hg hcd hgt ok hal hbb h8 hx
      go_enter Tryd.func69, Tryd.ntmps69
      go_wp2_with (first | (go_at_call 60; refine HG.out.mono ?_; rintro e w1 ⟨b, rfl, hB, hgr⟩) | (go_at_call 81; refine (HW.out _).mono ?_; rintro e w2 ⟨rfl, hB2⟩; replace hB := below_step hB hB2))
      go_ret
      exact ⟨_, rfl, Kd.R_nil _ _ _ _ _, hB⟩
end Go.Proofs.YtekajandipdlhaaDoor.Core
namespace Go.Proofs.YtekajandipdlhaaDoor.P
open Go Go.RowKit Go.Shelf Go.Proofs.YtekajandipdlhaaDoorW.PrintWords Go.Proofs.YtekajandipdlhaaDoorW.PrintMore Go.Proofs.YtekajandipdlhaaDoor.Core
attribute [local go_sem] Oper.semAt_some wide_fn wide_depth
def impl_AllNeeds.f (l0 : List S37) (a1 : Int) : Option (List Int) := some (allNeedsD l0 a1)
set_option maxHeartbeats 1000000 in
theorem impl_AllNeeds.calls (A0 : Option Addr) (c0 : Nat) (l0 : List S37) (a1 : Int) (r : List Int) (w : World) (hr0 : Kd.C k37 w A0 l0.length l0) (hc0 : l0.length ≤ c0) (hT : Tab w) (h : impl_AllNeeds.f l0 a1 = some r) :
    Calls Tryd.prog 27 #[.slice A0 l0.length c0, .int .i64 a1] w fun e w' => ∃ v0_ : Value, e = .returned (v0_) ∧ Kd.R (Kd.int .i64) 3 w' w.heap.size (fun _ => True) v0_ r ∧ Below w.heap.size w w' := by
  have hr : r = allNeedsD l0 a1 := (Option.some.inj h).symm
  subst hr
  clear h
  have HR := Aside0.mk (relatedAllNeeds_calls A0 c0 l0 a1 w hr0 hc0 hT)
  clear hr0 hT
  go_enter Tryd.func27, Tryd.ntmps27
  go_wp2_with (go_at_call 69; refine HR.out.mono ?_; rintro e w1 ⟨v, rfl, hR, hB⟩)
  go_ret
  exact ⟨_, rfl, hR, hB⟩
end Go.Proofs.YtekajandipdlhaaDoor.P
end
section
namespace Go.Proofs.YtekajandipdlhaaDoor.P
open Go.Proofs.YtekajandipdlhaaDoor.Core (Tab Tab.of)
open Go.RowKit Go.Proofs.YtekajandipdlhaaDoorW.PrintWords Go.Proofs.YtekajandipdlhaaDoorW.PrintLast Go.Proofs.YtekajandipdlhaaDoorW.PrintMore
attribute [local go_sem] max2_int min2_int max_two min_two max_three min_three max_four min_four   -- for this text's walks alone
set_option linter.unusedVariables false
set_option linter.unusedSimpArgs false
mutual
noncomputable def laws_FnUselessNeeds.l0 : Nat → List (S37) → List (List Int) → Int → Option (Bool)
  | 0, _, _, _ => none
  | k + 1, x3, x4, x5 => if x5 < (x4.length : Int) then (if 0 ≤ x5 then (if ((rd_L1 x4 x5).length : Int) = 2 then (if 0 < ((rd_L1 x4 x5).length : Int) then (if (rd (rd_L1 x4 x5) 0) < 0 then (laws_FnUselessNeeds.j1 k x3 x4 x5 true) else (laws_FnUselessNeeds.j1 k x3 x4 x5 (decide ((rd (rd_L1 x4 x5) 0) ≥ (x3.length : Int))))) else (none)) else (laws_FnUselessNeeds.j1 k x3 x4 x5 true)) else (none)) else (some true)
noncomputable def laws_FnUselessNeeds.j1 : Nat → List (S37) → List (List Int) → Int → Bool → Option (Bool)
  | 0, _, _, _, _ => none
  | k + 1, x3, x4, x5, x52 => if x52 = true then (some false) else (if 0 ≤ x5 then (if x5 < (x4.length : Int) then (if 0 < ((rd_L1 x4 x5).length : Int) then (if 0 ≤ (rd (rd_L1 x4 x5) 0) then (if (rd (rd_L1 x4 x5) 0) < (x3.length : Int) then (laws_FnUselessNeeds.l1 k x3 x4 x5 ((rd_T37 x3 (rd (rd_L1 x4 x5) 0)).f1) false 0) else (none)) else (none)) else (none)) else (none)) else (none))
noncomputable def laws_FnUselessNeeds.l1 : Nat → List (S37) → List (List Int) → Int → List Int → Bool → Int → Option (Bool)
  | 0, _, _, _, _, _, _ => none
  | k + 1, x3, x4, x5, x6, x7, x8 => if x8 < (x6.length : Int) then (if x7 = true then (laws_FnUselessNeeds.l1 k x3 x4 x5 x6 true (wrap64 (x8 + 1))) else (if 0 ≤ x8 then ((impl_AllNeeds.f x3 (rd x6 x8)).bind fun t373 => (if 0 ≤ x5 then (if x5 < (x4.length : Int) then (if 1 < ((rd_L1 x4 x5).length : Int) then ((laws_isIn.f k t373 (rd (rd_L1 x4 x5) 1)).bind fun t378 => (laws_FnUselessNeeds.l1 k x3 x4 x5 x6 t378 (wrap64 (x8 + 1)))) else (none)) else (none)) else (none))) else (none))) else (if x7 = true then (if 0 ≤ x5 then (if x5 < (x4.length : Int) then (if 1 < ((rd_L1 x4 x5).length : Int) then ((laws_isIn.f k x6 (rd (rd_L1 x4 x5) 1)).bind fun t381 => (if t381 = true then (laws_FnUselessNeeds.l0 k x3 x4 (wrap64 (x5 + 1))) else (some false))) else (none)) else (none)) else (none)) else (some false))
end
noncomputable def laws_FnUselessNeeds.f (k : Nat) (l0 : List Int) : Option (Bool) := if (l0.length : Int) > 1048576 then (some true) else ((spec_DrawUselessNeeds.f l0).bind fun t354 => ((impl_UselessNeeds.f t354).bind fun t357 => ((spec_UselessNeeds.f k t354).bind fun t360 => ((laws_equalLists.f k t357 t360).bind fun t363 => (if t363 = true then (laws_FnUselessNeeds.l0 k t354 t357 0) else (some false))))))
theorem laws_FnUselessNeeds.mono_l : ∀ k, (∀ y0 y1 y2, LeO (laws_FnUselessNeeds.l0 k y0 y1 y2) (laws_FnUselessNeeds.l0 (k + 1) y0 y1 y2)) ∧ (∀ y0 y1 y2 y3, LeO (laws_FnUselessNeeds.j1 k y0 y1 y2 y3) (laws_FnUselessNeeds.j1 (k + 1) y0 y1 y2 y3)) ∧ (∀ y0 y1 y2 y3 y4 y5, LeO (laws_FnUselessNeeds.l1 k y0 y1 y2 y3 y4 y5) (laws_FnUselessNeeds.l1 (k + 1) y0 y1 y2 y3 y4 y5))
  | 0 => ⟨fun _ _ _ r h => by simp [laws_FnUselessNeeds.l0] at h, fun _ _ _ _ r h => by simp [laws_FnUselessNeeds.j1] at h, fun _ _ _ _ _ _ r h => by simp [laws_FnUselessNeeds.l1] at h⟩
  | k + 1 => by
    obtain ⟨ih0, ih1, ih2⟩ := laws_FnUselessNeeds.mono_l k
    refine ⟨?_, ?_, ?_⟩
    · intro y0 y1 y2
      unfold laws_FnUselessNeeds.l0
      repeat' first
      | (with_reducible exact ih0 _ _ _)
      | (with_reducible exact ih1 _ _ _ _)
      | (with_reducible exact ih2 _ _ _ _ _ _)
      | (with_reducible exact laws_equalLists.mono _ _ _)
      | (with_reducible exact laws_isIn.mono _ _ _)
      | (with_reducible exact spec_UselessNeeds.mono _ _)
      | (with_reducible exact LeO.refl _)
      | (with_reducible exact LeO.none _)
      | (with_reducible refine LeO.ite ?_ ?_)
      | (with_reducible refine LeO.bind ?_ (fun _ => ?_))
      | exact ih0 _ _ _
      | exact ih1 _ _ _ _
      | exact ih2 _ _ _ _ _ _
      | exact laws_equalLists.mono _ _ _
      | exact laws_isIn.mono _ _ _
      | exact spec_UselessNeeds.mono _ _
      | exact LeO.none _
      | refine LeO.ite ?_ ?_
      | refine LeO.bind ?_ (fun _ => ?_)
    · intro y0 y1 y2 y3
      unfold laws_FnUselessNeeds.j1
      repeat' first
      | (with_reducible exact ih0 _ _ _)
      | (with_reducible exact ih1 _ _ _ _)
      | (with_reducible exact ih2 _ _ _ _ _ _)
      | (with_reducible exact laws_equalLists.mono _ _ _)
      | (with_reducible exact laws_isIn.mono _ _ _)
      | (with_reducible exact spec_UselessNeeds.mono _ _)
      | (with_reducible exact LeO.refl _)
      | (with_reducible exact LeO.none _)
      | (with_reducible refine LeO.ite ?_ ?_)
      | (with_reducible refine LeO.bind ?_ (fun _ => ?_))
      | exact ih0 _ _ _
      | exact ih1 _ _ _ _
      | exact ih2 _ _ _ _ _ _
      | exact laws_equalLists.mono _ _ _
      | exact laws_isIn.mono _ _ _
      | exact spec_UselessNeeds.mono _ _
      | exact LeO.none _
      | refine LeO.ite ?_ ?_
      | refine LeO.bind ?_ (fun _ => ?_)
    · intro y0 y1 y2 y3 y4 y5
      unfold laws_FnUselessNeeds.l1
      repeat' first
      | (with_reducible exact ih0 _ _ _)
      | (with_reducible exact ih1 _ _ _ _)
      | (with_reducible exact ih2 _ _ _ _ _ _)
      | (with_reducible exact laws_equalLists.mono _ _ _)
      | (with_reducible exact laws_isIn.mono _ _ _)
      | (with_reducible exact spec_UselessNeeds.mono _ _)
      | (with_reducible exact LeO.refl _)
      | (with_reducible exact LeO.none _)
      | (with_reducible refine LeO.ite ?_ ?_)
      | (with_reducible refine LeO.bind ?_ (fun _ => ?_))
      | exact ih0 _ _ _
      | exact ih1 _ _ _ _
      | exact ih2 _ _ _ _ _ _
      | exact laws_equalLists.mono _ _ _
      | exact laws_isIn.mono _ _ _
      | exact spec_UselessNeeds.mono _ _
      | exact LeO.none _
      | refine LeO.ite ?_ ?_
      | refine LeO.bind ?_ (fun _ => ?_)
theorem laws_FnUselessNeeds.mono : ∀ a0 k, LeO (laws_FnUselessNeeds.f k a0) (laws_FnUselessNeeds.f (k + 1) a0) := by
  intro a0 k
  obtain ⟨ih0, ih1, ih2⟩ := laws_FnUselessNeeds.mono_l k
  unfold laws_FnUselessNeeds.f
  repeat' first
      | (with_reducible exact ih0 _ _ _)
      | (with_reducible exact ih1 _ _ _ _)
      | (with_reducible exact ih2 _ _ _ _ _ _)
      | (with_reducible exact laws_equalLists.mono _ _ _)
      | (with_reducible exact laws_isIn.mono _ _ _)
      | (with_reducible exact spec_UselessNeeds.mono _ _)
      | (with_reducible exact LeO.refl _)
      | (with_reducible exact LeO.none _)
      | (with_reducible refine LeO.ite ?_ ?_)
      | (with_reducible refine LeO.bind ?_ (fun _ => ?_))
      | exact ih0 _ _ _
      | exact ih1 _ _ _ _
      | exact ih2 _ _ _ _ _ _
      | exact laws_equalLists.mono _ _ _
      | exact laws_isIn.mono _ _ _
      | exact spec_UselessNeeds.mono _ _
      | exact LeO.none _
      | refine LeO.ite ?_ ?_
      | refine LeO.bind ?_ (fun _ => ?_)
noncomputable def laws_FnUselessNeeds.T17 : Bool × List (List Nat × List Nat) := (true, [([], []), ([0], [0]), ([1], [1]), ([1], [1]), ([1], [1]), ([3, 4, 1], [1, 3, 4]), ([5, 1], [1, 5]), ([2, 6, 1, 1], [1, 2, 6]), ([1], [1]), ([1], [1]), ([8, 9, 1], [1, 8, 9]), ([10, 1], [1, 10]), ([11, 1], [1, 11]), ([12, 1], [1, 12]), ([7, 13, 7, 1], [1, 7, 13]), ([1, 14], [1, 14]), ([15, 14, 0, 1, 2, 3, 4, 5, 6, 7, 8, 9, 10, 11, 12, 13, 14, 15], [0, 15])])
noncomputable def laws_FnUselessNeeds.B17 : List Nat := [0, 1, 3, 3, 3, 27, 59, 127, 3, 3, 771, 1795, 3843, 7939, 16383, 32767, 65535]
theorem laws_FnUselessNeeds.tab17 : rtab .any (opsOf Tryd.f4 17) = laws_FnUselessNeeds.T17 := by kernel_rfl
theorem laws_FnUselessNeeds.bits17 : waitsOk laws_FnUselessNeeds.T17.2 laws_FnUselessNeeds.B17 = true := by kernel_rfl
set_option maxHeartbeats 8000000 in
set_option maxRecDepth 100000 in
theorem laws_FnUselessNeeds.calls (k : Nat) (A0 : Option Addr) (c0 : Nat) (l0 : List Int) (r : Bool) (w : World) (hr0 : Kd.C (Kd.int .u8) w A0 l0.length l0) (hc0 : l0.length ≤ c0) (hT : Tab w) (h : laws_FnUselessNeeds.f k l0 = some r) :
    Calls Tryd.prog 4 #[.slice A0 l0.length c0] w fun e w' => e = .returned (.bool r) ∧ Below w.heap.size w w' := by
  have HT := Aside0.mk hT
  clear hT
  have HR0 := Aside0.mk hr0
  have HC0 := Aside0.mk hc0
  clear hr0 hc0
  have HB := Aside0.mk (Below.refl w.heap.size w)
  have H : (if (l0.length : Int) > 1048576 then (some true) else ((spec_DrawUselessNeeds.f l0).bind fun t354 => ((impl_UselessNeeds.f t354).bind fun t357 => ((spec_UselessNeeds.f k t354).bind fun t360 => ((laws_equalLists.f k t357 t360).bind fun t363 => (if t363 = true then (laws_FnUselessNeeds.l0 k t354 t357 0) else (some false))))))) = some r := h
  clear h
  by_cases c2 : (l0.length : Int) > 1048576
  · rw [if_pos c2] at H
    have c2b0 : decide (1048576 < (l0.length : Int)) = true := decide_eq_true c2
    have c2b1 : decide (1048576 < l0.length) = true := decide_eq_true (by omega)
    clear c2
    obtain rfl := Option.some.inj H
    go_enter Tryd.func4, Tryd.ntmps4
    go_wp2
    go_ret
    exact ⟨by first | rfl | (simp [errW_none, errW_some] <;> rfl) | (simp [*, errW_none, errW_some] <;> rfl), by repeat (first | (with_reducible first | exact HB.out | apply below_alloc | apply pw_below_drewN | apply below_drew1) | exact HB.out)⟩
  · rw [if_neg c2] at H
    have c2b0 : decide (1048576 < (l0.length : Int)) = false := decide_eq_false c2
    have c2b1 : decide (1048576 < l0.length) = false := decide_eq_false (by omega)
    clear c2
    replace H := Option.bind_eq_some_iff.mp H
    obtain ⟨t354, A30, H⟩ := H
    replace H : ((impl_UselessNeeds.f t354).bind fun t357 => ((spec_UselessNeeds.f k t354).bind fun t360 => ((laws_equalLists.f k t357 t360).bind fun t363 => (if t363 = true then (laws_FnUselessNeeds.l0 k t354 t357 0) else (some false))))) = some r := H
    have A3 := Aside0.mk A30
    clear A30
    replace H := Option.bind_eq_some_iff.mp H
    obtain ⟨t357, A40, H⟩ := H
    replace H : ((spec_UselessNeeds.f k t354).bind fun t360 => ((laws_equalLists.f k t357 t360).bind fun t363 => (if t363 = true then (laws_FnUselessNeeds.l0 k t354 t357 0) else (some false)))) = some r := H
    have A4 := Aside0.mk A40
    clear A40
    replace H := Option.bind_eq_some_iff.mp H
    obtain ⟨t360, A50, H⟩ := H
    replace H : ((laws_equalLists.f k t357 t360).bind fun t363 => (if t363 = true then (laws_FnUselessNeeds.l0 k t354 t357 0) else (some false))) = some r := H
    have A5 := Aside0.mk A50
    clear A50
    replace H := Option.bind_eq_some_iff.mp H
    obtain ⟨t363, A60, H⟩ := H
    replace H : (if t363 = true then (laws_FnUselessNeeds.l0 k t354 t357 0) else (some false)) = some r := H
    have A6 := Aside0.mk A60
    clear A60
    by_cases c7 : t363 = true
    · subst c7
      have H1 : (laws_FnUselessNeeds.l0 k t354 t357 0) = some r := by rw [if_pos rfl] at H; exact H
      clear H
      have H := H1
      clear H1
      have H' := Aside0.mk H
      clear H
      go_enter Tryd.func4, Tryd.ntmps4
      go_wp2_with (first | ((with_reducible refine gate_callee (f := 24) rfl ?_); refine goesL_ (some 13) rfl rfl Tryd.func24 (by kernel_rfl) rfl #[.slice A0 l0.length c0] rfl (by (try simp only [List.map_toArray, List.map_cons, List.map_nil]); first | done | rfl | (simp only [List.length_drop, List.length_take]; rfl)) ?_; (with_reducible refine (spec_DrawUselessNeeds.calls _ _ l0 t354 _ ?side1 ?side2 A3.out).mono ?_); (case side1 => repeat (first | exact HR0.out | (with_reducible refine Kd.C_alloc ?_ _) | (with_reducible refine Kd.C_drewN ?_ _) | (with_reducible refine Kd.C_drew ?_))); (case side2 => exact HC0.out); rintro e w8 ⟨v355, rfl, ho0, hb⟩; refine ⟨_, rfl, ?_⟩; have n0_ := Aside0.mk (Kd.S_lower ho0 (below_size (by repeat (first | (with_reducible first | exact HB.out | apply below_alloc | apply pw_below_drewN | apply below_drew1) | exact HB.out)))); have n1_ := Aside0.mk (below_step (by repeat (first | (with_reducible first | exact HB.out | apply below_alloc | apply pw_below_drewN | apply below_drew1) | exact HB.out)) hb); clear HB; have HO356 := n0_; have HB := n1_; clear n0_ n1_; (try clear hb); (try clear hb2); (try clear hk); (try clear hi); (try clear ho0); obtain ⟨Ao9, co9, eo9⟩ := Kd.S_slice HO356.out; subst eo9) | ((with_reducible refine gate_callee (f := 18) rfl ?_); refine goesL_ (some 15) rfl rfl Tryd.func18 (by kernel_rfl) rfl #[.slice Ao9 t354.length co9] rfl (by (try simp only [List.map_toArray, List.map_cons, List.map_nil]); first | done | rfl | (simp only [List.length_drop, List.length_take]; rfl)) ?_; (with_reducible refine (impl_UselessNeeds.calls _ _ t354 t357 _ ?side1 ?side2 ?side3 A4.out).mono ?_); (case side1 => repeat (first | exact (Kd.S_reads' HO356.out).2.2 | (with_reducible refine Kd.C_alloc ?_ _) | (with_reducible refine Kd.C_drewN ?_ _) | (with_reducible refine Kd.C_drew ?_))); (case side2 => exact (Kd.S_reads' HO356.out).2.1); (case side3 => exact Tab.of HT.out (by repeat (first | (with_reducible first | exact HB.out | apply below_alloc | apply pw_below_drewN | apply below_drew1) | exact HB.out))); rintro e w10 ⟨v358, rfl, ho0, hb⟩; refine ⟨_, rfl, ?_⟩; have n0_ := Aside0.mk (Kd.S_below (by (with_reducible repeat (first | apply Kd.S_alloc | apply Kd.S_drewN | apply Kd.S_drew)); exact HO356.out) hb); have n1_ := Aside0.mk (Kd.S_lower ho0 (below_size (by repeat (first | (with_reducible first | exact HB.out | apply below_alloc | apply pw_below_drewN | apply below_drew1) | exact HB.out)))); have n2_ := Aside0.mk (below_step (by repeat (first | (with_reducible first | exact HB.out | apply below_alloc | apply pw_below_drewN | apply below_drew1) | exact HB.out)) hb); clear HO356; clear HB; have HO356 := n0_; have HO359 := n1_; have HB := n2_; clear n0_ n1_ n2_; (try clear hb); (try clear hb2); (try clear hk); (try clear hi); (try clear ho0)) | ((with_reducible refine gate_callee (f := 16) rfl ?_); refine goesL_ (some 18) rfl rfl Tryd.func16 (by kernel_rfl) rfl #[.slice Ao9 t354.length co9] rfl (by (try simp only [List.map_toArray, List.map_cons, List.map_nil]); first | done | rfl | (simp only [List.length_drop, List.length_take]; rfl)) ?_; (with_reducible refine (spec_UselessNeeds.calls k _ _ t354 t360 _ ?side1 ?side2 A5.out).mono ?_); (case side1 => repeat (first | exact (Kd.S_reads' HO356.out).2.2 | (with_reducible refine Kd.C_alloc ?_ _) | (with_reducible refine Kd.C_drewN ?_ _) | (with_reducible refine Kd.C_drew ?_))); (case side2 => exact (Kd.S_reads' HO356.out).2.1); rintro e w11 ⟨v361, rfl, ho0, hb⟩; refine ⟨_, rfl, ?_⟩; have n0_ := Aside0.mk (Kd.S_below (by (with_reducible repeat (first | apply Kd.S_alloc | apply Kd.S_drewN | apply Kd.S_drew)); exact HO356.out) hb); have n1_ := Aside0.mk (Kd.S_elder' (by (with_reducible repeat (first | apply Kd.S_alloc | apply Kd.S_drewN | apply Kd.S_drew)); exact HO359.out) (Kd.S_base ho0) hb); have n2_ := Aside0.mk (Kd.S_lower (Kd.S_new' ho0 (Kd.S_lt (by (with_reducible repeat (first | apply Kd.S_alloc | apply Kd.S_drewN | apply Kd.S_drew)); exact HO359.out))) (below_size (by repeat (first | (with_reducible first | exact HB.out | apply below_alloc | apply pw_below_drewN | apply below_drew1) | exact HB.out)))); have n3_ := Aside0.mk (below_step (by repeat (first | (with_reducible first | exact HB.out | apply below_alloc | apply pw_below_drewN | apply below_drew1) | exact HB.out)) hb); clear HO356; clear HO359; clear HB; have HO356 := n0_; have HO359 := n1_; have HO362 := n2_; have HB := n3_; clear n0_ n1_ n2_ n3_; (try clear hb); (try clear hb2); (try clear hk); (try clear hi); (try clear ho0); obtain ⟨Ao12, co12, eo12⟩ := Kd.S_slice HO359.out; subst eo12; obtain ⟨Ao13, co13, eo13⟩ := Kd.S_slice HO362.out; subst eo13) | ((with_reducible refine gate_callee (f := 25) rfl ?_); refine goesL_ (some 19) rfl rfl Tryd.func25 (by kernel_rfl) rfl #[.slice Ao12 t357.length co12, .slice Ao13 t360.length co13] rfl (by (try simp only [List.map_toArray, List.map_cons, List.map_nil]); first | done | rfl | (simp only [List.length_drop, List.length_take]; rfl)) ?_; (with_reducible refine (laws_equalLists.calls k _ _ t357 _ _ t360 true _ ?side1 ?side2 ?side3 ?side4 A6.out).mono ?_); (case side1 => repeat (first | exact (Kd.S_reads' HO359.out).2.2 | (with_reducible refine Kd.C_alloc ?_ _) | (with_reducible refine Kd.C_drewN ?_ _) | (with_reducible refine Kd.C_drew ?_))); (case side2 => exact (Kd.S_reads' HO359.out).2.1); (case side3 => repeat (first | exact (Kd.S_reads' HO362.out).2.2 | (with_reducible refine Kd.C_alloc ?_ _) | (with_reducible refine Kd.C_drewN ?_ _) | (with_reducible refine Kd.C_drew ?_))); (case side4 => exact (Kd.S_reads' HO362.out).2.1); rintro e w' ⟨rfl, ⟨nd, rfl⟩⟩; refine ⟨_, rfl, ?_⟩))
      go_loopg [5] k (fun kq v5 w' => ∃ (x5_1 : Int), v5 = .int .i64 x5_1 ∧ Aside0 (laws_FnUselessNeeds.l0 kq t354 t357 x5_1 = some r) ∧ Aside0 (kq ≤ k) ∧ Aside0 (Kd.S k37 37 w' w.heap.size (fun _ => True) (.slice Ao9 t354.length co9) t354) ∧ Aside0 (Kd.S (Kd.slice 3 (Kd.int .i64)) 35 w' w.heap.size (fun _ => True) (.slice Ao12 t357.length co12) t357) ∧ Aside0 (Below w.heap.size w w'))
      case atStart => exact ⟨(0), (by first | rfl | (simp; done) | (simp [*]; done)), H', ⟨Nat.le_refl _⟩, ⟨by (with_reducible repeat (first | apply Kd.S_alloc | apply Kd.S_drewN | apply Kd.S_drew)); exact HO356.out⟩, ⟨by (with_reducible repeat (first | apply Kd.S_alloc | apply Kd.S_drewN | apply Kd.S_drew)); exact Kd.S_mono HO359.out (fun _ hk => trivial)⟩, ⟨by repeat (first | (with_reducible first | exact HB.out | apply below_alloc | apply pw_below_drewN | apply below_drew1) | exact HB.out)⟩⟩
      case round =>
        clear H'
        try clear c1
        try clear c2
        try clear c2b0
        try clear c2b1
        try clear p2
        try clear c4
        try clear c7
        obtain ⟨x5_1, rfl, HA, HK1, HO_3, HO_4, HB⟩ := hrel
        cases gk with
        | zero => exact absurd HA.out (by simp [laws_FnUselessNeeds.l0])
        | succ k1 =>
          have H := HA.out
          clear HA
          simp only [laws_FnUselessNeeds.l0] at H
          by_cases c14 : x5_1 < (t357.length : Int)
          · rw [if_pos c14] at H
            have c14b0 : decide (x5_1 < (t357.length : Int)) = true := decide_eq_true c14
            clear c14
            have HC15 := Aside0.mk H
            clear H
            go_upto_region 10 with (fail)
            go_cut [52] (fun v52 wc => ∃ (kq : Nat) (x52_14 : Bool), v52 = .bool x52_14 ∧ Aside0 (laws_FnUselessNeeds.j1 kq t354 t357 x5_1 x52_14 = some r) ∧ Aside0 (kq ≤ k1) ∧ Aside0 (Kd.S k37 37 wc w.heap.size (fun _ => True) (.slice Ao9 t354.length co9) t354) ∧ Aside0 (Kd.S (Kd.slice 3 (Kd.int .i64)) 35 wc w.heap.size (fun _ => True) (.slice Ao12 t357.length co12) t357) ∧ Aside0 (Below w.heap.size w wc))
            case first =>
              have H := HC15.out
              clear HC15
              by_cases c16 : 0 ≤ x5_1
              · rw [if_pos c16] at H
                have c16b0 : decide (0 ≤ x5_1) = true := decide_eq_true c16
                clear c16
                (first | rw [c16b0] | (simp only [i64_w, i32_w]; rw [c16b0]) | skip)
                by_cases c17 : ((rd_L1 t357 x5_1).length : Int) = 2
                · rw [if_pos c17] at H
                  have c17b0 : (((rd_L1 t357 x5_1).length : Int) == 2) = true := beq_iff_eq.mpr c17
                  have c17b1 : (((rd_L1 t357 x5_1).length : Int) != 2) = false := bne_eq_false_iff_eq.mpr c17
                  clear c17
                  by_cases c18 : 0 < ((rd_L1 t357 x5_1).length : Int)
                  · rw [if_pos c18] at H
                    have c18b0 : decide (0 < ((rd_L1 t357 x5_1).length : Int)) = true := decide_eq_true c18
                    have c18b1 : decide (0 < (rd_L1 t357 x5_1).length) = true := decide_eq_true (by omega)
                    clear c18
                    by_cases c19 : (rd (rd_L1 t357 x5_1) 0) < 0
                    · rw [if_pos c19] at H
                      have c19b0 : decide ((rd (rd_L1 t357 x5_1) 0) < 0) = true := decide_eq_true c19
                      clear c19
                      have H' := Aside0.mk H
                      clear H
                      have p364 : 0 ≤ (x5_1 : Int) := of_decide_eq_true (by first | (with_reducible assumption) | assumption)
                      have q364 : x5_1 < (t357.length : Int) := of_decide_eq_true (by first | (with_reducible assumption) | assumption)
                      obtain ⟨ad364, A364_0, c364_0, e364, hx364_0, hl364_0, hi364_0⟩ := at_L1 (Kd.S_reads' HO_4.out).2.2 x5_1 p364 q364
                      cases e364
                      obtain ⟨ce364, hce364, hMe364, hcc364⟩ := Kd.S_get HO_4.out [] x5_1 p364 (by first | exact q364 | exact of_decide_eq_true (by first | (with_reducible assumption) | assumption) | (have e_ := (Kd.S_reads' HO_4.out).1; omega))
                      obtain ⟨ve364_0, rfl, ge364_0⟩ := hMe364
                      have hv364_0 := hcc364 0 _ rfl
                      rw [Nat.add_zero, show ((Kd.slice 3 (Kd.int .i64))).sz = 1 from rfl, Nat.mul_one] at hv364_0
                      replace hv364_0 := Option.some.inj (hv364_0.symm.trans hx364_0)
                      rw [hv364_0] at ge364_0
                      have HL364_0 := Aside0.mk (show Kd.R (Kd.int .i64) 3 _ _ _ _ (rd_L1 t357 x5_1) from ge364_0)
                      clear hv364_0 ge364_0
                      clear hcc364 hce364
                      have HR364_0 := Aside0.mk hi364_0
                      have HC364_0 := Aside0.mk hl364_0
                      clear hi364_0 hl364_0
                      replace p364 := eq_true p364
                      replace q364 := eq_true q364
                      have p365 : 0 ≤ (x5_1 : Int) := of_decide_eq_true (by first | (with_reducible assumption) | assumption)
                      have q365 : x5_1 < (t357.length : Int) := of_decide_eq_true (by first | (with_reducible assumption) | assumption)
                      obtain ⟨ad365, A365_0, c365_0, e365, hx365_0, hl365_0, hi365_0⟩ := at_L1 (Kd.S_reads' HO_4.out).2.2 x5_1 p365 q365
                      obtain rfl : ad364 = ad365 := (by injection e365)
                      obtain ⟨ce365, hce365, hMe365, hcc365⟩ := Kd.S_get HO_4.out [] x5_1 p365 (by first | exact q365 | exact of_decide_eq_true (by first | (with_reducible assumption) | assumption) | (have e_ := (Kd.S_reads' HO_4.out).1; omega))
                      obtain ⟨ve365_0, rfl, ge365_0⟩ := hMe365
                      have hv365_0 := hcc365 0 _ rfl
                      rw [Nat.add_zero, show ((Kd.slice 3 (Kd.int .i64))).sz = 1 from rfl, Nat.mul_one] at hv365_0
                      replace hv365_0 := Option.some.inj (hv365_0.symm.trans hx365_0)
                      rw [hv365_0] at ge365_0
                      have HL365_0 := Aside0.mk (show Kd.R (Kd.int .i64) 3 _ _ _ _ (rd_L1 t357 x5_1) from ge365_0)
                      clear hv365_0 ge365_0
                      clear hcc365 hce365
                      have HR365_0 := Aside0.mk hi365_0
                      have HC365_0 := Aside0.mk hl365_0
                      clear hi365_0 hl365_0
                      replace p365 := eq_true p365
                      replace q365 := eq_true q365
                      have ea_ := Option.some.inj (hx364_0.symm.trans hx365_0)
                      injection ea_ with ea_ en_ ec_
                      subst ea_
                      subst ec_
                      clear en_
                      have p366 : 0 ≤ (0 : Int) := (by omega)
                      have q366 : 0 < ((rd_L1 t357 x5_1).length : Int) := of_decide_eq_true (by first | (with_reducible assumption) | assumption)
                      obtain ⟨ad366, e366, hx366_0⟩ := Kd.at_int (by repeat (first | (with_reducible exact HR365_0.out) | (with_reducible refine Kd.C_alloc ?_ _) | (with_reducible refine Kd.C_drewN ?_ _) | (with_reducible refine Kd.C_drew ?_) | exact HR365_0.out)) 0 p366 q366
                      cases e366
                      have qi366 : (0 < (rd_L1 t357 x5_1).length) = True := eq_true (by omega)
                      (try rw [show ((0 : Int)).toNat = 0 from rfl] at hx366_0)
                      (try rw [Addr.add_zero'] at hx366_0)
                      replace p366 := eq_true p366
                      replace q366 := eq_true q366
                      go_wp2
                      go_meet
                      case rel => exact ⟨_, (true), (by first | rfl | (simp; done) | (simp [*]; done)), H', ⟨by have := HK1.out; first | omega | exact Nat.le_refl _⟩, ⟨by (with_reducible repeat (first | apply Kd.S_alloc | apply Kd.S_drewN | apply Kd.S_drew)); exact HO_3.out⟩, ⟨by (with_reducible repeat (first | apply Kd.S_alloc | apply Kd.S_drewN | apply Kd.S_drew)); exact HO_4.out⟩, ⟨by repeat (first | (with_reducible first | exact HB.out | apply below_alloc | apply pw_below_drewN | apply below_drew1) | exact HB.out)⟩⟩
                    · rw [if_neg c19] at H
                      have c19b0 : decide ((rd (rd_L1 t357 x5_1) 0) < 0) = false := decide_eq_false c19
                      clear c19
                      have H' := Aside0.mk H
                      clear H
                      have p364 : 0 ≤ (x5_1 : Int) := of_decide_eq_true (by first | (with_reducible assumption) | assumption)
                      have q364 : x5_1 < (t357.length : Int) := of_decide_eq_true (by first | (with_reducible assumption) | assumption)
                      obtain ⟨ad364, A364_0, c364_0, e364, hx364_0, hl364_0, hi364_0⟩ := at_L1 (Kd.S_reads' HO_4.out).2.2 x5_1 p364 q364
                      cases e364
                      obtain ⟨ce364, hce364, hMe364, hcc364⟩ := Kd.S_get HO_4.out [] x5_1 p364 (by first | exact q364 | exact of_decide_eq_true (by first | (with_reducible assumption) | assumption) | (have e_ := (Kd.S_reads' HO_4.out).1; omega))
                      obtain ⟨ve364_0, rfl, ge364_0⟩ := hMe364
                      have hv364_0 := hcc364 0 _ rfl
                      rw [Nat.add_zero, show ((Kd.slice 3 (Kd.int .i64))).sz = 1 from rfl, Nat.mul_one] at hv364_0
                      replace hv364_0 := Option.some.inj (hv364_0.symm.trans hx364_0)
                      rw [hv364_0] at ge364_0
                      have HL364_0 := Aside0.mk (show Kd.R (Kd.int .i64) 3 _ _ _ _ (rd_L1 t357 x5_1) from ge364_0)
                      clear hv364_0 ge364_0
                      clear hcc364 hce364
                      have HR364_0 := Aside0.mk hi364_0
                      have HC364_0 := Aside0.mk hl364_0
                      clear hi364_0 hl364_0
                      replace p364 := eq_true p364
                      replace q364 := eq_true q364
                      have p365 : 0 ≤ (x5_1 : Int) := of_decide_eq_true (by first | (with_reducible assumption) | assumption)
                      have q365 : x5_1 < (t357.length : Int) := of_decide_eq_true (by first | (with_reducible assumption) | assumption)
                      obtain ⟨ad365, A365_0, c365_0, e365, hx365_0, hl365_0, hi365_0⟩ := at_L1 (Kd.S_reads' HO_4.out).2.2 x5_1 p365 q365
                      obtain rfl : ad364 = ad365 := (by injection e365)
                      obtain ⟨ce365, hce365, hMe365, hcc365⟩ := Kd.S_get HO_4.out [] x5_1 p365 (by first | exact q365 | exact of_decide_eq_true (by first | (with_reducible assumption) | assumption) | (have e_ := (Kd.S_reads' HO_4.out).1; omega))
                      obtain ⟨ve365_0, rfl, ge365_0⟩ := hMe365
                      have hv365_0 := hcc365 0 _ rfl
                      rw [Nat.add_zero, show ((Kd.slice 3 (Kd.int .i64))).sz = 1 from rfl, Nat.mul_one] at hv365_0
                      replace hv365_0 := Option.some.inj (hv365_0.symm.trans hx365_0)
                      rw [hv365_0] at ge365_0
                      have HL365_0 := Aside0.mk (show Kd.R (Kd.int .i64) 3 _ _ _ _ (rd_L1 t357 x5_1) from ge365_0)
                      clear hv365_0 ge365_0
                      clear hcc365 hce365
                      have HR365_0 := Aside0.mk hi365_0
                      have HC365_0 := Aside0.mk hl365_0
                      clear hi365_0 hl365_0
                      replace p365 := eq_true p365
                      replace q365 := eq_true q365
                      have ea_ := Option.some.inj (hx364_0.symm.trans hx365_0)
                      injection ea_ with ea_ en_ ec_
                      subst ea_
                      subst ec_
                      clear en_
                      have p366 : 0 ≤ (0 : Int) := (by omega)
                      have q366 : 0 < ((rd_L1 t357 x5_1).length : Int) := of_decide_eq_true (by first | (with_reducible assumption) | assumption)
                      obtain ⟨ad366, e366, hx366_0⟩ := Kd.at_int (by repeat (first | (with_reducible exact HR365_0.out) | (with_reducible refine Kd.C_alloc ?_ _) | (with_reducible refine Kd.C_drewN ?_ _) | (with_reducible refine Kd.C_drew ?_) | exact HR365_0.out)) 0 p366 q366
                      cases e366
                      have qi366 : (0 < (rd_L1 t357 x5_1).length) = True := eq_true (by omega)
                      (try rw [show ((0 : Int)).toNat = 0 from rfl] at hx366_0)
                      (try rw [Addr.add_zero'] at hx366_0)
                      replace p366 := eq_true p366
                      replace q366 := eq_true q366
                      have p367 : 0 ≤ (x5_1 : Int) := of_decide_eq_true (by first | (with_reducible assumption) | assumption)
                      have q367 : x5_1 < (t357.length : Int) := of_decide_eq_true (by first | (with_reducible assumption) | assumption)
                      obtain ⟨ad367, A367_0, c367_0, e367, hx367_0, hl367_0, hi367_0⟩ := at_L1 (Kd.S_reads' HO_4.out).2.2 x5_1 p367 q367
                      obtain rfl : ad364 = ad367 := (by injection e367)
                      obtain ⟨ce367, hce367, hMe367, hcc367⟩ := Kd.S_get HO_4.out [] x5_1 p367 (by first | exact q367 | exact of_decide_eq_true (by first | (with_reducible assumption) | assumption) | (have e_ := (Kd.S_reads' HO_4.out).1; omega))
                      obtain ⟨ve367_0, rfl, ge367_0⟩ := hMe367
                      have hv367_0 := hcc367 0 _ rfl
                      rw [Nat.add_zero, show ((Kd.slice 3 (Kd.int .i64))).sz = 1 from rfl, Nat.mul_one] at hv367_0
                      replace hv367_0 := Option.some.inj (hv367_0.symm.trans hx367_0)
                      rw [hv367_0] at ge367_0
                      have HL367_0 := Aside0.mk (show Kd.R (Kd.int .i64) 3 _ _ _ _ (rd_L1 t357 x5_1) from ge367_0)
                      clear hv367_0 ge367_0
                      clear hcc367 hce367
                      have HR367_0 := Aside0.mk hi367_0
                      have HC367_0 := Aside0.mk hl367_0
                      clear hi367_0 hl367_0
                      replace p367 := eq_true p367
                      replace q367 := eq_true q367
                      have ea_ := Option.some.inj (hx364_0.symm.trans hx367_0)
                      injection ea_ with ea_ en_ ec_
                      subst ea_
                      subst ec_
                      clear en_
                      have p368 : 0 ≤ (0 : Int) := (by omega)
                      have q368 : 0 < ((rd_L1 t357 x5_1).length : Int) := of_decide_eq_true (by first | (with_reducible assumption) | assumption)
                      obtain ⟨ad368, e368, hx368_0⟩ := Kd.at_int (by repeat (first | (with_reducible exact HR367_0.out) | (with_reducible refine Kd.C_alloc ?_ _) | (with_reducible refine Kd.C_drewN ?_ _) | (with_reducible refine Kd.C_drew ?_) | exact HR367_0.out)) 0 p368 q368
                      cases e368
                      have qi368 : (0 < (rd_L1 t357 x5_1).length) = True := eq_true (by omega)
                      (try rw [show ((0 : Int)).toNat = 0 from rfl] at hx368_0)
                      (try rw [Addr.add_zero'] at hx368_0)
                      replace p368 := eq_true p368
                      replace q368 := eq_true q368
                      go_wp2
                      go_meet
                      case rel => exact ⟨_, (decide ((rd (rd_L1 t357 x5_1) 0) ≥ (t354.length : Int))), (by first | rfl | (simp; done) | (simp [*]; done)), H', ⟨by have := HK1.out; first | omega | exact Nat.le_refl _⟩, ⟨by (with_reducible repeat (first | apply Kd.S_alloc | apply Kd.S_drewN | apply Kd.S_drew)); exact HO_3.out⟩, ⟨by (with_reducible repeat (first | apply Kd.S_alloc | apply Kd.S_drewN | apply Kd.S_drew)); exact HO_4.out⟩, ⟨by repeat (first | (with_reducible first | exact HB.out | apply below_alloc | apply pw_below_drewN | apply below_drew1) | exact HB.out)⟩⟩
                  · rw [if_neg c18] at H
                    exact absurd H (by simp)
                · rw [if_neg c17] at H
                  have c17b0 : (((rd_L1 t357 x5_1).length : Int) == 2) = false := beq_eq_false_iff_ne.mpr c17
                  have c17b1 : (((rd_L1 t357 x5_1).length : Int) != 2) = true := bne_iff_ne.mpr c17
                  have H' := Aside0.mk H
                  clear H
                  have p364 : 0 ≤ (x5_1 : Int) := of_decide_eq_true (by first | (with_reducible assumption) | assumption)
                  have q364 : x5_1 < (t357.length : Int) := of_decide_eq_true (by first | (with_reducible assumption) | assumption)
                  obtain ⟨ad364, A364_0, c364_0, e364, hx364_0, hl364_0, hi364_0⟩ := at_L1 (Kd.S_reads' HO_4.out).2.2 x5_1 p364 q364
                  cases e364
                  obtain ⟨ce364, hce364, hMe364, hcc364⟩ := Kd.S_get HO_4.out [] x5_1 p364 (by first | exact q364 | exact of_decide_eq_true (by first | (with_reducible assumption) | assumption) | (have e_ := (Kd.S_reads' HO_4.out).1; omega))
                  obtain ⟨ve364_0, rfl, ge364_0⟩ := hMe364
                  have hv364_0 := hcc364 0 _ rfl
                  rw [Nat.add_zero, show ((Kd.slice 3 (Kd.int .i64))).sz = 1 from rfl, Nat.mul_one] at hv364_0
                  replace hv364_0 := Option.some.inj (hv364_0.symm.trans hx364_0)
                  rw [hv364_0] at ge364_0
                  have HL364_0 := Aside0.mk (show Kd.R (Kd.int .i64) 3 _ _ _ _ (rd_L1 t357 x5_1) from ge364_0)
                  clear hv364_0 ge364_0
                  clear hcc364 hce364
                  have HR364_0 := Aside0.mk hi364_0
                  have HC364_0 := Aside0.mk hl364_0
                  clear hi364_0 hl364_0
                  replace p364 := eq_true p364
                  replace q364 := eq_true q364
                  go_wp2
                  go_meet
                  case rel => exact ⟨_, (true), (by first | rfl | (simp; done) | (simp [*]; done)), H', ⟨by have := HK1.out; first | omega | exact Nat.le_refl _⟩, ⟨by (with_reducible repeat (first | apply Kd.S_alloc | apply Kd.S_drewN | apply Kd.S_drew)); exact HO_3.out⟩, ⟨by (with_reducible repeat (first | apply Kd.S_alloc | apply Kd.S_drewN | apply Kd.S_drew)); exact HO_4.out⟩, ⟨by repeat (first | (with_reducible first | exact HB.out | apply below_alloc | apply pw_below_drewN | apply below_drew1) | exact HB.out)⟩⟩
              · rw [if_neg c16] at H
                exact absurd H (by simp)
            case rest =>
              clear HC15
              try clear c1
              try clear c2
              try clear c2b0
              try clear c2b1
              try clear p2
              try clear c3
              try clear p3
              try clear q3
              try clear hx3
              try clear qi3
              try clear c4
              try clear c7
              try clear c14
              try clear c14b0
              try clear c16
              try clear c16b0
              try clear c17
              try clear c17b0
              try clear c17b1
              try clear c18
              try clear c18b0
              try clear c18b1
              try clear c19
              try clear c19b0
              try clear hx364_0
              try clear hx365_0
              try clear hx366_0
              try clear hx367_0
              try clear hx368_0
              try clear p2
              try clear p364
              try clear p365
              try clear p366
              try clear p367
              try clear p368
              try clear q364
              try clear q365
              try clear q366
              try clear q367
              try clear q368
              obtain ⟨kq, x52_14, rfl, HA, HJ14, HO_3, HO_4, HB⟩ := hcut
              cases kq with
              | zero => exact absurd HA.out (by simp [laws_FnUselessNeeds.j1])
              | succ kj14 =>
                have H := HA.out
                clear HA
                simp only [laws_FnUselessNeeds.j1] at H
                by_cases c20 : x52_14 = true
                · subst c20
                  have H1 : (some false) = some r := by rw [if_pos rfl] at H; exact H
                  clear H
                  have H := H1
                  clear H1
                  obtain rfl := Option.some.inj H
                  go_wp2
                  go_ret
                  exact ⟨by first | rfl | (simp [errW_none, errW_some] <;> rfl) | (simp [*, errW_none, errW_some] <;> rfl), by repeat (first | (with_reducible first | exact HB.out | apply below_alloc | apply pw_below_drewN | apply below_drew1) | exact HB.out)⟩
                · replace c20 := Bool.eq_false_iff.mpr c20
                  subst c20
                  have H1 : (if 0 ≤ x5_1 then (if x5_1 < (t357.length : Int) then (if 0 < ((rd_L1 t357 x5_1).length : Int) then (if 0 ≤ (rd (rd_L1 t357 x5_1) 0) then (if (rd (rd_L1 t357 x5_1) 0) < (t354.length : Int) then (laws_FnUselessNeeds.l1 kj14 t354 t357 x5_1 ((rd_T37 t354 (rd (rd_L1 t357 x5_1) 0)).f1) false 0) else (none)) else (none)) else (none)) else (none)) else (none)) = some r := by rw [if_neg (show ¬ (false = true) by decide)] at H; exact H
                  clear H
                  have H := H1
                  clear H1
                  by_cases c21 : 0 ≤ x5_1
                  · rw [if_pos c21] at H
                    have c21b0 : decide (0 ≤ x5_1) = true := decide_eq_true c21
                    clear c21
                    by_cases c22 : x5_1 < (t357.length : Int)
                    · rw [if_pos c22] at H
                      have c22b0 : decide (x5_1 < (t357.length : Int)) = true := decide_eq_true c22
                      clear c22
                      by_cases c23 : 0 < ((rd_L1 t357 x5_1).length : Int)
                      · rw [if_pos c23] at H
                        have c23b0 : decide (0 < ((rd_L1 t357 x5_1).length : Int)) = true := decide_eq_true c23
                        have c23b1 : decide (0 < (rd_L1 t357 x5_1).length) = true := decide_eq_true (by omega)
                        clear c23
                        by_cases c24 : 0 ≤ (rd (rd_L1 t357 x5_1) 0)
                        · rw [if_pos c24] at H
                          have c24b0 : decide (0 ≤ (rd (rd_L1 t357 x5_1) 0)) = true := decide_eq_true c24
                          clear c24
                          by_cases c25 : (rd (rd_L1 t357 x5_1) 0) < (t354.length : Int)
                          · rw [if_pos c25] at H
                            have c25b0 : decide ((rd (rd_L1 t357 x5_1) 0) < (t354.length : Int)) = true := decide_eq_true c25
                            clear c25
                            have H' := Aside0.mk H
                            clear H
                            have p369 : 0 ≤ (x5_1 : Int) := of_decide_eq_true (by first | (with_reducible assumption) | assumption)
                            have q369 : x5_1 < (t357.length : Int) := of_decide_eq_true (by first | (with_reducible assumption) | assumption)
                            obtain ⟨ad369, A369_0, c369_0, e369, hx369_0, hl369_0, hi369_0⟩ := at_L1 (Kd.S_reads' HO_4.out).2.2 x5_1 p369 q369
                            cases e369
                            obtain ⟨ce369, hce369, hMe369, hcc369⟩ := Kd.S_get HO_4.out [] x5_1 p369 (by first | exact q369 | exact of_decide_eq_true (by first | (with_reducible assumption) | assumption) | (have e_ := (Kd.S_reads' HO_4.out).1; omega))
                            obtain ⟨ve369_0, rfl, ge369_0⟩ := hMe369
                            have hv369_0 := hcc369 0 _ rfl
                            rw [Nat.add_zero, show ((Kd.slice 3 (Kd.int .i64))).sz = 1 from rfl, Nat.mul_one] at hv369_0
                            replace hv369_0 := Option.some.inj (hv369_0.symm.trans hx369_0)
                            rw [hv369_0] at ge369_0
                            have HL369_0 := Aside0.mk (show Kd.R (Kd.int .i64) 3 _ _ _ _ (rd_L1 t357 x5_1) from ge369_0)
                            clear hv369_0 ge369_0
                            clear hcc369 hce369
                            have HR369_0 := Aside0.mk hi369_0
                            have HC369_0 := Aside0.mk hl369_0
                            clear hi369_0 hl369_0
                            replace p369 := eq_true p369
                            replace q369 := eq_true q369
                            have p370 : 0 ≤ (0 : Int) := (by omega)
                            have q370 : 0 < ((rd_L1 t357 x5_1).length : Int) := of_decide_eq_true (by first | (with_reducible assumption) | assumption)
                            obtain ⟨ad370, e370, hx370_0⟩ := Kd.at_int (by repeat (first | (with_reducible exact HR369_0.out) | (with_reducible refine Kd.C_alloc ?_ _) | (with_reducible refine Kd.C_drewN ?_ _) | (with_reducible refine Kd.C_drew ?_) | exact HR369_0.out)) 0 p370 q370
                            cases e370
                            have qi370 : (0 < (rd_L1 t357 x5_1).length) = True := eq_true (by omega)
                            (try rw [show ((0 : Int)).toNat = 0 from rfl] at hx370_0)
                            (try rw [Addr.add_zero'] at hx370_0)
                            replace p370 := eq_true p370
                            replace q370 := eq_true q370
                            have p371 : 0 ≤ ((rd (rd_L1 t357 x5_1) 0) : Int) := of_decide_eq_true (by first | (with_reducible assumption) | assumption)
                            have q371 : (rd (rd_L1 t357 x5_1) 0) < (t354.length : Int) := of_decide_eq_true (by first | (with_reducible assumption) | assumption)
                            obtain ⟨ad371, A371_1, c371_1, e371, hx371_0, hx371_1, hx371_2, hx371_3, hl371_1, hi371_1⟩ := at_T37 (Kd.S_reads' HO_3.out).2.2 (rd (rd_L1 t357 x5_1) 0) p371 q371
                            cases e371
                            obtain ⟨ce371, hce371, hMe371, hcc371⟩ := Kd.S_get HO_3.out z37 (rd (rd_L1 t357 x5_1) 0) p371 (by first | exact q371 | exact of_decide_eq_true (by first | (with_reducible assumption) | assumption) | (have e_ := (Kd.S_reads' HO_3.out).1; omega))
                            obtain ⟨ve371_1, rfl, ge371_1⟩ := k37_openM hMe371
                            have hv371_1 := hcc371 1 _ rfl
                            rw [add_field _ _ 1 (by omega)] at hv371_1
                            replace hv371_1 := Option.some.inj (hv371_1.symm.trans hx371_1)
                            rw [hv371_1] at ge371_1
                            have HL371_1 := Aside0.mk (show Kd.Q (Kd.int .i64) 3 _ _ _ _ ((rd_T37 t354 (rd (rd_L1 t357 x5_1) 0)).f1) from ge371_1)
                            clear hv371_1 ge371_1
                            clear hcc371 hce371
                            have HR371_1 := Aside0.mk hi371_1
                            have HC371_1 := Aside0.mk hl371_1
                            clear hi371_1 hl371_1
                            replace p371 := eq_true p371
                            replace q371 := eq_true q371
                            go_wp2
                            go_loopg [7, 8] kj14 (fun kq v7 v8 w' => ∃ (x7_3 : Bool) (x8_3 : Int), v7 = .bool x7_3 ∧ v8 = .int .i64 x8_3 ∧ Aside0 (laws_FnUselessNeeds.l1 kq t354 t357 x5_1 ((rd_T37 t354 (rd (rd_L1 t357 x5_1) 0)).f1) x7_3 x8_3 = some r) ∧ Aside0 (kq ≤ kj14) ∧ Aside0 (Kd.S k37 37 w' w.heap.size (fun _ => True) (.slice (some ad371) t354.length co9) t354) ∧ Aside0 (Kd.S (Kd.slice 3 (Kd.int .i64)) 35 w' w.heap.size (fun _ => True) (.slice (some ad369) t357.length co12) t357) ∧ Aside0 (Kd.C (Kd.int .i64) w' (some ad370) (rd_L1 t357 x5_1).length (rd_L1 t357 x5_1)) ∧ Aside0 (Kd.C (Kd.int .i64) w' A371_1 ((rd_T37 t354 (rd (rd_L1 t357 x5_1) 0)).f1).length ((rd_T37 t354 (rd (rd_L1 t357 x5_1) 0)).f1)) ∧ Aside0 (Below w.heap.size w w'))
                            case atStart => exact ⟨(false), (0), (by first | rfl | (simp; done) | (simp [*]; done)), (by first | rfl | (simp; done) | (simp [*]; done)), H', ⟨Nat.le_refl _⟩, ⟨by (with_reducible repeat (first | apply Kd.S_alloc | apply Kd.S_drewN | apply Kd.S_drew)); exact HO_3.out⟩, ⟨by (with_reducible repeat (first | apply Kd.S_alloc | apply Kd.S_drewN | apply Kd.S_drew)); exact HO_4.out⟩, ⟨by repeat (first | (with_reducible exact HR369_0.out) | (with_reducible refine Kd.C_alloc ?_ _) | (with_reducible refine Kd.C_drewN ?_ _) | (with_reducible refine Kd.C_drew ?_) | exact HR369_0.out)⟩, ⟨by repeat (first | (with_reducible exact HR371_1.out) | (with_reducible refine Kd.C_alloc ?_ _) | (with_reducible refine Kd.C_drewN ?_ _) | (with_reducible refine Kd.C_drew ?_) | exact HR371_1.out)⟩, ⟨by repeat (first | (with_reducible first | exact HB.out | apply below_alloc | apply pw_below_drewN | apply below_drew1) | exact HB.out)⟩⟩
                            case round =>
                              clear H'
                              try clear c1
                              try clear c2
                              try clear c2b0
                              try clear c2b1
                              try clear p2
                              try clear c3
                              try clear p3
                              try clear q3
                              try clear hx3
                              try clear qi3
                              try clear c4
                              try clear c7
                              try clear c14
                              try clear c14b0
                              try clear c16
                              try clear c16b0
                              try clear c17
                              try clear c17b0
                              try clear c17b1
                              try clear c18
                              try clear c18b0
                              try clear c18b1
                              try clear c19
                              try clear c19b0
                              try clear c20
                              try clear c21
                              try clear c21b0
                              try clear c22
                              try clear c22b0
                              try clear c23
                              try clear c23b0
                              try clear c23b1
                              try clear c24
                              try clear c24b0
                              try clear c25
                              try clear c25b0
                              try clear hx364_0
                              try clear hx365_0
                              try clear hx366_0
                              try clear hx367_0
                              try clear hx368_0
                              try clear hx369_0
                              try clear hx370_0
                              try clear hx371_0
                              try clear hx371_1
                              try clear hx371_2
                              try clear hx371_3
                              try clear p2
                              try clear p3
                              try clear p364
                              try clear p365
                              try clear p366
                              try clear p367
                              try clear p368
                              try clear p369
                              try clear p370
                              try clear p371
                              try clear q3
                              try clear q364
                              try clear q365
                              try clear q366
                              try clear q367
                              try clear q368
                              try clear q369
                              try clear q370
                              try clear q371
                              obtain ⟨x7_3, x8_3, rfl, rfl, HA, HK3, HO_3, HO_4, HR369_0, HR371_1, HB⟩ := hrel
                              cases gk with
                              | zero => exact absurd HA.out (by simp [laws_FnUselessNeeds.l1])
                              | succ k3 =>
                                have H := HA.out
                                clear HA
                                simp only [laws_FnUselessNeeds.l1] at H
                                by_cases c26 : x8_3 < (((rd_T37 t354 (rd (rd_L1 t357 x5_1) 0)).f1).length : Int)
                                · rw [if_pos c26] at H
                                  have c26b0 : decide (x8_3 < (((rd_T37 t354 (rd (rd_L1 t357 x5_1) 0)).f1).length : Int)) = true := decide_eq_true c26
                                  clear c26
                                  by_cases c27 : x7_3 = true
                                  · subst c27
                                    have H1 : (laws_FnUselessNeeds.l1 k3 t354 t357 x5_1 ((rd_T37 t354 (rd (rd_L1 t357 x5_1) 0)).f1) true (wrap64 (x8_3 + 1))) = some r := by rw [if_pos rfl] at H; exact H
                                    clear H
                                    have H := H1
                                    clear H1
                                    have H' := Aside0.mk H
                                    clear H
                                    try go_wp2
                                    have n0_ := Aside0.mk (Kd.S_drew HO_3.out)
                                    have n1_ := Aside0.mk (Kd.S_drew HO_4.out)
                                    have n2_ := Aside0.mk (Kd.C_drew HR369_0.out)
                                    have n3_ := Aside0.mk (Kd.C_drew HR371_1.out)
                                    have n4_ := Aside0.mk (below_drew1 HB.out)
                                    clear HO_3
                                    clear HO_4
                                    clear HR369_0
                                    clear HR371_1
                                    clear HB
                                    have HO_3 := n0_
                                    have HO_4 := n1_
                                    have HR369_0 := n2_
                                    have HR371_1 := n3_
                                    have HB := n4_
                                    clear n0_ n1_ n2_ n3_ n4_
                                    refine start_ (n := 17) (S := fun w' => True) (ds := []) #[false, false, false, false, false, false, false, false, false, false, false, false, false, false, false, false, false] (by kernel_rfl) rfl rfl trivial (fun hHeld => ?_); refine with_tabW laws_FnUselessNeeds.tab17 laws_FnUselessNeeds.bits17 (fun HT_ HW_ => ?_)
                                    generalize wr.drew = w28 at HO_3 HO_4 HR369_0 HR371_1 HB hHeld ⊢
                                    refine pure_ (i := 0) (N := some 69) (v := ?_) (a' := ?_) #[true, false, false, false, false, false, false, false, false, false, false, false, false, false, false, false, false] rfl rfl (any_of HT_.out (by kernel_rfl)) (fun _ _ _ h => h) (Or.inl ⟨by rfl, ?_⟩) ?_ ?_
                                    rotate_left
                                    · intro w'
                                      go_simp
                                      with_reducible rfl
                                    rotate_left
                                    · simp only [Act.put, List.setIfInBounds_toArray, List.set_cons_zero, List.set_cons_succ, i64_w, i32_w]
                                      rfl
                                    refine pure_ (i := 1) (N := some 70) (v := ?_) (a' := ?_) #[true, true, false, false, false, false, false, false, false, false, false, false, false, false, false, false, false] rfl rfl (any_of HT_.out (by kernel_rfl)) (fun _ _ _ h => h) (Or.inl ⟨by rfl, ?_⟩) ?_ ?_
                                    rotate_left
                                    · intro w'
                                      go_simp
                                      with_reducible rfl
                                    rotate_left
                                    · simp only [Act.put, List.setIfInBounds_toArray, List.set_cons_zero, List.set_cons_succ, i64_w, i32_w]
                                      rfl
                                    refine pure_ (i := 2) (N := some 71) (v := undef) (a' := ?_) #[true, true, true, false, false, false, false, false, false, false, false, false, false, false, false, false, false] rfl rfl (any_of HT_.out (by kernel_rfl)) (fun _ _ _ h => h) (Or.inr ⟨by rfl, rfl⟩) ?_ ?_
                                    rotate_left
                                    · simp only [Act.put, List.setIfInBounds_toArray, List.set_cons_zero, List.set_cons_succ, i64_w, i32_w]
                                      rfl
                                    refine pure_ (i := 3) (N := some 72) (v := undef) (a' := ?_) #[true, true, true, true, false, false, false, false, false, false, false, false, false, false, false, false, false] rfl rfl (any_of HT_.out (by kernel_rfl)) (fun _ _ _ h => h) (Or.inr ⟨by rfl, rfl⟩) ?_ ?_
                                    rotate_left
                                    · simp only [Act.put, List.setIfInBounds_toArray, List.set_cons_zero, List.set_cons_succ, i64_w, i32_w]
                                      rfl
                                    refine pure_ (i := 4) (N := some 73) (v := undef) (a' := ?_) #[true, true, true, true, true, false, false, false, false, false, false, false, false, false, false, false, false] rfl rfl (any_of HT_.out (by kernel_rfl)) (fun _ _ _ h => h) (Or.inr ⟨by rfl, rfl⟩) ?_ ?_
                                    rotate_left
                                    · simp only [Act.put, List.setIfInBounds_toArray, List.set_cons_zero, List.set_cons_succ, i64_w, i32_w]
                                      rfl
                                    refine pure_ (i := 5) (N := some 74) (v := undef) (a' := ?_) #[true, true, true, true, true, true, false, false, false, false, false, false, false, false, false, false, false] rfl rfl (any_of HT_.out (by kernel_rfl)) (fun _ _ _ h => h) (Or.inr ⟨by rfl, rfl⟩) ?_ ?_
                                    rotate_left
                                    · simp only [Act.put, List.setIfInBounds_toArray, List.set_cons_zero, List.set_cons_succ, i64_w, i32_w]
                                      rfl
                                    refine pure_ (i := 6) (N := some 75) (v := undef) (a' := ?_) #[true, true, true, true, true, true, true, false, false, false, false, false, false, false, false, false, false] rfl rfl (any_of HT_.out (by kernel_rfl)) (fun _ _ _ h => h) (Or.inr ⟨by rfl, rfl⟩) ?_ ?_
                                    rotate_left
                                    · simp only [Act.put, List.setIfInBounds_toArray, List.set_cons_zero, List.set_cons_succ, i64_w, i32_w]
                                      rfl
                                    refine pure_ (i := 7) (N := some 76) (v := undef) (a' := ?_) #[true, true, true, true, true, true, true, true, false, false, false, false, false, false, false, false, false] rfl rfl (any_of HT_.out (by kernel_rfl)) (fun _ _ _ h => h) (Or.inr ⟨by rfl, rfl⟩) ?_ ?_
                                    rotate_left
                                    · simp only [Act.put, List.setIfInBounds_toArray, List.set_cons_zero, List.set_cons_succ, i64_w, i32_w]
                                      rfl
                                    refine pure_ (i := 8) (N := some 77) (v := undef) (a' := ?_) #[true, true, true, true, true, true, true, true, true, false, false, false, false, false, false, false, false] rfl rfl (any_of HT_.out (by kernel_rfl)) (fun _ _ _ h => h) (Or.inr ⟨by rfl, rfl⟩) ?_ ?_
                                    rotate_left
                                    · simp only [Act.put, List.setIfInBounds_toArray, List.set_cons_zero, List.set_cons_succ, i64_w, i32_w]
                                      rfl
                                    refine pure_ (i := 9) (N := some 78) (v := undef) (a' := ?_) #[true, true, true, true, true, true, true, true, true, true, false, false, false, false, false, false, false] rfl rfl (any_of HT_.out (by kernel_rfl)) (fun _ _ _ h => h) (Or.inr ⟨by rfl, rfl⟩) ?_ ?_
                                    rotate_left
                                    · simp only [Act.put, List.setIfInBounds_toArray, List.set_cons_zero, List.set_cons_succ, i64_w, i32_w]
                                      rfl
                                    refine pure_ (i := 10) (N := some 79) (v := undef) (a' := ?_) #[true, true, true, true, true, true, true, true, true, true, true, false, false, false, false, false, false] rfl rfl (any_of HT_.out (by kernel_rfl)) (fun _ _ _ h => h) (Or.inr ⟨by rfl, rfl⟩) ?_ ?_
                                    rotate_left
                                    · simp only [Act.put, List.setIfInBounds_toArray, List.set_cons_zero, List.set_cons_succ, i64_w, i32_w]
                                      rfl
                                    refine pure_ (i := 11) (N := some 80) (v := undef) (a' := ?_) #[true, true, true, true, true, true, true, true, true, true, true, true, false, false, false, false, false] rfl rfl (any_of HT_.out (by kernel_rfl)) (fun _ _ _ h => h) (Or.inr ⟨by rfl, rfl⟩) ?_ ?_
                                    rotate_left
                                    · simp only [Act.put, List.setIfInBounds_toArray, List.set_cons_zero, List.set_cons_succ, i64_w, i32_w]
                                      rfl
                                    refine pure_ (i := 12) (N := some 81) (v := undef) (a' := ?_) #[true, true, true, true, true, true, true, true, true, true, true, true, true, false, false, false, false] rfl rfl (any_of HT_.out (by kernel_rfl)) (fun _ _ _ h => h) (Or.inr ⟨by rfl, rfl⟩) ?_ ?_
                                    rotate_left
                                    · simp only [Act.put, List.setIfInBounds_toArray, List.set_cons_zero, List.set_cons_succ, i64_w, i32_w]
                                      rfl
                                    refine pure_ (i := 13) (N := some 82) (v := undef) (a' := ?_) #[true, true, true, true, true, true, true, true, true, true, true, true, true, true, false, false, false] rfl rfl (any_of HT_.out (by kernel_rfl)) (fun _ _ _ h => h) (Or.inr ⟨by rfl, rfl⟩) ?_ ?_
                                    rotate_left
                                    · simp only [Act.put, List.setIfInBounds_toArray, List.set_cons_zero, List.set_cons_succ, i64_w, i32_w]
                                      rfl
                                    refine pure_ (i := 14) (N := some 83) (v := undef) (a' := ?_) #[true, true, true, true, true, true, true, true, true, true, true, true, true, true, true, false, false] rfl rfl (any_of HT_.out (by kernel_rfl)) (fun _ _ _ h => h) (Or.inr ⟨by rfl, rfl⟩) ?_ ?_
                                    rotate_left
                                    · simp only [Act.put, List.setIfInBounds_toArray, List.set_cons_zero, List.set_cons_succ, i64_w, i32_w]
                                      rfl
                                    refine pure_ (i := 15) (N := some 84) (v := ?_) (a' := ?_) #[true, true, true, true, true, true, true, true, true, true, true, true, true, true, true, true, false] rfl rfl (any_of HT_.out (by kernel_rfl)) (fun _ _ _ h => h) (Or.inl ⟨by rfl, ?_⟩) ?_ ?_
                                    rotate_left
                                    · intro w'
                                      go_simp
                                      with_reducible rfl
                                    rotate_left
                                    · simp only [Act.put, List.setIfInBounds_toArray, List.set_cons_zero, List.set_cons_succ, i64_w, i32_w]
                                      rfl
                                    refine pure_ (i := 16) (N := some 7) (v := ?_) (a' := ?_) #[true, true, true, true, true, true, true, true, true, true, true, true, true, true, true, true, true] rfl rfl (any_of HT_.out (by kernel_rfl)) (fun _ _ _ h => h) (Or.inl ⟨by rfl, ?_⟩) ?_ ?_
                                    rotate_left
                                    · intro w'
                                      go_simp
                                      with_reducible rfl
                                    rotate_left
                                    · simp only [Act.put, List.setIfInBounds_toArray, List.set_cons_zero, List.set_cons_succ, i64_w, i32_w]
                                      rfl
                                    refine done_ (done_of HT_.out (by kernel_rfl)) ?_
                                    try go_wp2
                                    go_roundg k3
                                    case measure => have := HK1.out; have := HJ14.out; have := HK3.out; omega
                                    case rel => exact ⟨(true), (wrap64 (x8_3 + 1)), (by first | rfl | (simp; done) | (simp [*]; done)), (by first | rfl | (simp; done) | (simp [*]; done)), H', ⟨by have := HK1.out; have := HJ14.out; have := HK3.out; omega⟩, ⟨by (with_reducible repeat (first | apply Kd.S_alloc | apply Kd.S_drewN | apply Kd.S_drew)); exact HO_3.out⟩, ⟨by (with_reducible repeat (first | apply Kd.S_alloc | apply Kd.S_drewN | apply Kd.S_drew)); exact HO_4.out⟩, ⟨by repeat (first | (with_reducible exact HR369_0.out) | (with_reducible refine Kd.C_alloc ?_ _) | (with_reducible refine Kd.C_drewN ?_ _) | (with_reducible refine Kd.C_drew ?_) | exact HR369_0.out)⟩, ⟨by repeat (first | (with_reducible exact HR371_1.out) | (with_reducible refine Kd.C_alloc ?_ _) | (with_reducible refine Kd.C_drewN ?_ _) | (with_reducible refine Kd.C_drew ?_) | exact HR371_1.out)⟩, ⟨by repeat (first | (with_reducible first | exact HB.out | apply below_alloc | apply pw_below_drewN | apply below_drew1) | exact HB.out)⟩⟩
                                  · replace c27 := Bool.eq_false_iff.mpr c27
                                    subst c27
                                    have H1 : (if 0 ≤ x8_3 then ((impl_AllNeeds.f t354 (rd ((rd_T37 t354 (rd (rd_L1 t357 x5_1) 0)).f1) x8_3)).bind fun t373 => (if 0 ≤ x5_1 then (if x5_1 < (t357.length : Int) then (if 1 < ((rd_L1 t357 x5_1).length : Int) then ((laws_isIn.f k3 t373 (rd (rd_L1 t357 x5_1) 1)).bind fun t378 => (laws_FnUselessNeeds.l1 k3 t354 t357 x5_1 ((rd_T37 t354 (rd (rd_L1 t357 x5_1) 0)).f1) t378 (wrap64 (x8_3 + 1)))) else (none)) else (none)) else (none))) else (none)) = some r := by rw [if_neg (show ¬ (false = true) by decide)] at H; exact H
                                    clear H
                                    have H := H1
                                    clear H1
                                    by_cases c29 : 0 ≤ x8_3
                                    · rw [if_pos c29] at H
                                      have c29b0 : decide (0 ≤ x8_3) = true := decide_eq_true c29
                                      clear c29
                                      replace H := Option.bind_eq_some_iff.mp H
                                      obtain ⟨t373, A300, H⟩ := H
                                      replace H : (if 0 ≤ x5_1 then (if x5_1 < (t357.length : Int) then (if 1 < ((rd_L1 t357 x5_1).length : Int) then ((laws_isIn.f k3 t373 (rd (rd_L1 t357 x5_1) 1)).bind fun t378 => (laws_FnUselessNeeds.l1 k3 t354 t357 x5_1 ((rd_T37 t354 (rd (rd_L1 t357 x5_1) 0)).f1) t378 (wrap64 (x8_3 + 1)))) else (none)) else (none)) else (none)) = some r := H
                                      have A30 := Aside0.mk A300
                                      clear A300
                                      by_cases c31 : 0 ≤ x5_1
                                      · rw [if_pos c31] at H
                                        have c31b0 : decide (0 ≤ x5_1) = true := decide_eq_true c31
                                        clear c31
                                        by_cases c32 : x5_1 < (t357.length : Int)
                                        · rw [if_pos c32] at H
                                          have c32b0 : decide (x5_1 < (t357.length : Int)) = true := decide_eq_true c32
                                          clear c32
                                          by_cases c33 : 1 < ((rd_L1 t357 x5_1).length : Int)
                                          · rw [if_pos c33] at H
                                            have c33b0 : decide (1 < ((rd_L1 t357 x5_1).length : Int)) = true := decide_eq_true c33
                                            have c33b1 : decide (1 < (rd_L1 t357 x5_1).length) = true := decide_eq_true (by omega)
                                            clear c33
                                            replace H := Option.bind_eq_some_iff.mp H
                                            obtain ⟨t378, A340, H⟩ := H
                                            replace H : (laws_FnUselessNeeds.l1 k3 t354 t357 x5_1 ((rd_T37 t354 (rd (rd_L1 t357 x5_1) 0)).f1) t378 (wrap64 (x8_3 + 1))) = some r := H
                                            have A34 := Aside0.mk A340
                                            clear A340
                                            have H' := Aside0.mk H
                                            clear H
                                            try go_wp2
                                            have n0_ := Aside0.mk (Kd.S_drew HO_3.out)
                                            have n1_ := Aside0.mk (Kd.S_drew HO_4.out)
                                            have n2_ := Aside0.mk (Kd.C_drew HR369_0.out)
                                            have n3_ := Aside0.mk (Kd.C_drew HR371_1.out)
                                            have n4_ := Aside0.mk (below_drew1 HB.out)
                                            clear HO_3
                                            clear HO_4
                                            clear HR369_0
                                            clear HR371_1
                                            clear HB
                                            have HO_3 := n0_
                                            have HO_4 := n1_
                                            have HR369_0 := n2_
                                            have HR371_1 := n3_
                                            have HB := n4_
                                            clear n0_ n1_ n2_ n3_ n4_
                                            have p372 : 0 ≤ (x8_3 : Int) := of_decide_eq_true (by first | (with_reducible assumption) | assumption)
                                            have q372 : x8_3 < (((rd_T37 t354 (rd (rd_L1 t357 x5_1) 0)).f1).length : Int) := of_decide_eq_true (by first | (with_reducible assumption) | assumption)
                                            obtain ⟨ad372, e372, hx372_0⟩ := Kd.at_int HR371_1.out x8_3 p372 q372
                                            have hw372_0 := hx372_0
                                            cases e372
                                            (try replace hx372_0 := (HB.out.cell (World.block_lt_of_cell? w _ hx372_0)).trans hx372_0)
                                            replace p372 := eq_true p372
                                            replace q372 := eq_true q372
                                            have p376 : 0 ≤ (x5_1 : Int) := of_decide_eq_true (by first | (with_reducible assumption) | assumption)
                                            have q376 : x5_1 < (t357.length : Int) := of_decide_eq_true (by first | (with_reducible assumption) | assumption)
                                            obtain ⟨ad376, A376_0, c376_0, e376, hx376_0, hl376_0, hi376_0⟩ := at_L1 (Kd.S_reads' HO_4.out).2.2 x5_1 p376 q376
                                            obtain rfl : ad369 = ad376 := (by injection e376)
                                            obtain ⟨ce376, hce376, hMe376, hcc376⟩ := Kd.S_get HO_4.out [] x5_1 p376 (by first | exact q376 | exact of_decide_eq_true (by first | (with_reducible assumption) | assumption) | (have e_ := (Kd.S_reads' HO_4.out).1; omega))
                                            obtain ⟨ve376_0, rfl, ge376_0⟩ := hMe376
                                            have hv376_0 := hcc376 0 _ rfl
                                            rw [Nat.add_zero, show ((Kd.slice 3 (Kd.int .i64))).sz = 1 from rfl, Nat.mul_one] at hv376_0
                                            replace hv376_0 := Option.some.inj (hv376_0.symm.trans hx376_0)
                                            rw [hv376_0] at ge376_0
                                            have HL376_0 := Aside0.mk (show Kd.R (Kd.int .i64) 3 _ _ _ _ (rd_L1 t357 x5_1) from ge376_0)
                                            clear hv376_0 ge376_0
                                            clear hcc376 hce376
                                            have HR376_0 := Aside0.mk hi376_0
                                            have HC376_0 := Aside0.mk hl376_0
                                            clear hi376_0 hl376_0
                                            replace p376 := eq_true p376
                                            replace q376 := eq_true q376
                                            have p377 : 0 ≤ (1 : Int) := (by omega)
                                            have q377 : 1 < ((rd_L1 t357 x5_1).length : Int) := of_decide_eq_true (by first | (with_reducible assumption) | assumption)
                                            obtain ⟨ad377, e377, hx377_0⟩ := Kd.at_int (by repeat (first | (with_reducible exact HR376_0.out) | (with_reducible refine Kd.C_alloc ?_ _) | (with_reducible refine Kd.C_drewN ?_ _) | (with_reducible refine Kd.C_drew ?_) | exact HR376_0.out)) 1 p377 q377
                                            cases e377
                                            (try simp only [show (1 : Int).toNat = 1 from rfl, Nat.reduceMul, Nat.reduceEqDiff, Go.Addr.add, ↓reduceIte] at hx377_0)
                                            have qi377 : (1 < (rd_L1 t357 x5_1).length) = True := eq_true (by omega)
                                            (try rw [show ((1 : Int)).toNat = 1 from rfl] at hx377_0)
                                            replace p377 := eq_true p377
                                            replace q377 := eq_true q377
                                            refine start_ (n := 17) (S := fun w' => w'.cell? (ad372.add (x8_3).toNat) = some (.int .i64 (rd ((rd_T37 t354 (rd (rd_L1 t357 x5_1) 0)).f1) x8_3)) ∧ w'.cell? (ad369.add (x5_1).toNat) = some (.slice (some ad377) (rd_L1 t357 x5_1).length c376_0) ∧ w'.cell? ⟨ad377.block, ad377.off + 1, none⟩ = some (.int .i64 (rd (rd_L1 t357 x5_1) 1))) (ds := []) #[false, false, false, false, false, false, false, false, false, false, false, false, false, false, false, false, false] (by kernel_rfl) rfl rfl ⟨(by first | exact ((HB.out.cell (World.block_lt_of_cell? w _ hw372_0)).trans hw372_0) | exact HS0_ | exact hHeld.1 | exact hw372_0), hx376_0, hx377_0⟩ (fun hHeld => ?_); refine with_tabW laws_FnUselessNeeds.tab17 laws_FnUselessNeeds.bits17 (fun HT_ HW_ => ?_)
                                            generalize wr.drew = w35 at HO_3 HO_4 HR369_0 HR371_1 HB HL376_0 HR376_0 hx372_0 hx376_0 hx377_0 hHeld ⊢
                                            refine pure_ (i := 0) (N := some 69) (v := ?_) (a' := ?_) #[true, false, false, false, false, false, false, false, false, false, false, false, false, false, false, false, false] rfl rfl (any_of HT_.out (by kernel_rfl)) (fun _ _ _ h => h) (Or.inl ⟨by rfl, ?_⟩) ?_ ?_
                                            rotate_left
                                            · intro w'
                                              go_simp
                                              with_reducible rfl
                                            rotate_left
                                            · simp only [Act.put, List.setIfInBounds_toArray, List.set_cons_zero, List.set_cons_succ, i64_w, i32_w]
                                              rfl
                                            refine pure_ (i := 1) (N := some 70) (v := ?_) (a' := ?_) #[true, true, false, false, false, false, false, false, false, false, false, false, false, false, false, false, false] rfl rfl (any_of HT_.out (by kernel_rfl)) (fun _ _ _ h => h) (Or.inl ⟨by rfl, ?_⟩) ?_ ?_
                                            rotate_left
                                            · intro w'
                                              go_simp
                                              with_reducible rfl
                                            rotate_left
                                            · simp only [Act.put, List.setIfInBounds_toArray, List.set_cons_zero, List.set_cons_succ, i64_w, i32_w]
                                              rfl
                                            refine pure_ (i := 2) (N := some 71) (v := ?_) (a' := ?_) #[true, true, true, false, false, false, false, false, false, false, false, false, false, false, false, false, false] rfl rfl (any_of HT_.out (by kernel_rfl)) (fun _ _ _ h => h) (Or.inl ⟨by rfl, ?_⟩) ?_ ?_
                                            rotate_left
                                            · intro w'
                                              go_simp
                                              with_reducible rfl
                                            rotate_left
                                            · simp only [Act.put, List.setIfInBounds_toArray, List.set_cons_zero, List.set_cons_succ, i64_w, i32_w]
                                              rfl
                                            refine pure_ (i := 3) (N := some 72) (v := ?_) (a' := ?_) #[true, true, true, true, false, false, false, false, false, false, false, false, false, false, false, false, false] rfl rfl (any_of HT_.out (by kernel_rfl)) (fun _ _ _ h => h) (Or.inl ⟨by rfl, ?_⟩) ?_ ?_
                                            rotate_left
                                            · intro w'
                                              go_simp
                                              with_reducible rfl
                                            rotate_left
                                            · simp only [Act.put, List.setIfInBounds_toArray, List.set_cons_zero, List.set_cons_succ, i64_w, i32_w]
                                              rfl
                                            refine pure_ (i := 4) (N := some 73) (v := ?_) (a' := ?_) #[true, true, true, true, true, false, false, false, false, false, false, false, false, false, false, false, false] rfl rfl (any_of HT_.out (by kernel_rfl)) (fun _ _ _ h => h) (Or.inl ⟨by rfl, ?_⟩) ?_ ?_
                                            rotate_left
                                            · intro w'
                                              go_simp
                                              with_reducible rfl
                                            rotate_left
                                            · simp only [Act.put, List.setIfInBounds_toArray, List.set_cons_zero, List.set_cons_succ, i64_w, i32_w]
                                              rfl
                                            refine pure_ (i := 5) (N := some 74) (v := ?_) (a' := ?_) #[true, true, true, true, true, true, false, false, false, false, false, false, false, false, false, false, false] rfl rfl (any_of HT_.out (by kernel_rfl)) (fun _ _ _ h => h) (Or.inl ⟨by rfl, ?_⟩) ?_ ?_
                                            rotate_left
                                            · intro w'
                                              go_simp
                                              with_reducible rfl
                                            rotate_left
                                            · simp only [Act.put, List.setIfInBounds_toArray, List.set_cons_zero, List.set_cons_succ, i64_w, i32_w]
                                              rfl
                                            refine pure_ (i := 8) (N := some 77) (v := ?_) (a' := ?_) #[true, true, true, true, true, true, false, false, true, false, false, false, false, false, false, false, false] rfl rfl (any_of HT_.out (by kernel_rfl)) (fun _ _ _ h => h) (Or.inl ⟨by rfl, ?_⟩) ?_ ?_
                                            rotate_left
                                            · intro w'
                                              go_simp
                                              with_reducible rfl
                                            rotate_left
                                            · simp only [Act.put, List.setIfInBounds_toArray, List.set_cons_zero, List.set_cons_succ, i64_w, i32_w]
                                              rfl
                                            refine pure_ (i := 9) (N := some 78) (v := ?_) (a' := ?_) #[true, true, true, true, true, true, false, false, true, true, false, false, false, false, false, false, false] rfl rfl (any_of HT_.out (by kernel_rfl)) (fun _ _ _ h => h) (Or.inl ⟨by rfl, ?_⟩) ?_ ?_
                                            rotate_left
                                            · intro w'
                                              go_simp
                                              with_reducible rfl
                                            rotate_left
                                            · simp only [Act.put, List.setIfInBounds_toArray, List.set_cons_zero, List.set_cons_succ, i64_w, i32_w]
                                              rfl
                                            refine pure_ (i := 10) (N := some 79) (v := ?_) (a' := ?_) #[true, true, true, true, true, true, false, false, true, true, true, false, false, false, false, false, false] rfl rfl (any_of HT_.out (by kernel_rfl)) (fun _ _ _ h => h) (Or.inl ⟨by rfl, ?_⟩) ?_ ?_
                                            rotate_left
                                            · intro w'
                                              go_simp
                                              with_reducible rfl
                                            rotate_left
                                            · simp only [Act.put, List.setIfInBounds_toArray, List.set_cons_zero, List.set_cons_succ, i64_w, i32_w]
                                              rfl
                                            refine take_ (i := 6) (N := some 75) (v := ?_) (a' := ?_) #[true, true, true, true, true, true, true, false, true, true, true, false, false, false, false, false, false] rfl rfl (take_ofW HT_.out HW_.out (by kernel_rfl)) (fun _ _ _ h => h) (Or.inl ⟨by rfl, ?_⟩) hHeld ?_ ?_
                                            rotate_left
                                            · rintro w' ⟨s0, s1, s2⟩
                                              go_simp
                                              with_reducible rfl
                                            rotate_left
                                            · simp only [Act.put, List.setIfInBounds_toArray, List.set_cons_zero, List.set_cons_succ, i64_w, i32_w]
                                              rfl
                                            refine take_ (i := 11) (N := some 80) (v := ?_) (a' := ?_) #[true, true, true, true, true, true, true, false, true, true, true, true, false, false, false, false, false] rfl rfl (take_ofW HT_.out HW_.out (by kernel_rfl)) (fun _ _ _ h => h) (Or.inl ⟨by rfl, ?_⟩) hHeld ?_ ?_
                                            rotate_left
                                            · rintro w' ⟨s0, s1, s2⟩
                                              go_simp
                                              with_reducible rfl
                                            rotate_left
                                            · simp only [Act.put, List.setIfInBounds_toArray, List.set_cons_zero, List.set_cons_succ, i64_w, i32_w]
                                              rfl
                                            refine pure_ (i := 12) (N := some 81) (v := ?_) (a' := ?_) #[true, true, true, true, true, true, true, false, true, true, true, true, true, false, false, false, false] rfl rfl (any_of HT_.out (by kernel_rfl)) (fun _ _ _ h => h) (Or.inl ⟨by rfl, ?_⟩) ?_ ?_
                                            rotate_left
                                            · intro w'
                                              go_simp
                                              with_reducible rfl
                                            rotate_left
                                            · simp only [Act.put, List.setIfInBounds_toArray, List.set_cons_zero, List.set_cons_succ, i64_w, i32_w]
                                              rfl
                                            refine take_ (i := 13) (N := some 82) (v := ?_) (a' := ?_) #[true, true, true, true, true, true, true, false, true, true, true, true, true, true, false, false, false] rfl rfl (take_ofW HT_.out HW_.out (by kernel_rfl)) (fun _ _ _ h => h) (Or.inl ⟨by rfl, ?_⟩) hHeld ?_ ?_
                                            rotate_left
                                            · rintro w' ⟨s0, s1, s2⟩
                                              go_simp
                                              with_reducible rfl
                                            rotate_left
                                            · simp only [Act.put, List.setIfInBounds_toArray, List.set_cons_zero, List.set_cons_succ, i64_w, i32_w]
                                              rfl
                                            refine one_ (i := 7) (N := some 76) #[true, true, true, true, true, true, true, true, true, true, true, true, true, true, false, false, false] rfl rfl (one_of HT_.out (by kernel_rfl)) (by decide) (fun K hK => ?_)
                                            refine goes_ Tryd.func27 (by kernel_rfl) rfl #[.slice (some ad371) t354.length co9, .int .i64 (rd ((rd_T37 t354 (rd (rd_L1 t357 x5_1) 0)).f1) x8_3)] (by rfl) rfl rfl (by (try simp only [List.map_toArray, List.map_cons, List.map_nil]); first | done | rfl | (simp only [List.length_drop, List.length_take]; rfl)) ?_
                                            with_reducible refine (impl_AllNeeds.calls _ _ t354 (rd ((rd_T37 t354 (rd (rd_L1 t357 x5_1) 0)).f1) x8_3) t373 _ ?side1 ?side2 ?side3 A30.out).mono ?_
                                            (case side1 => repeat (first | exact (Kd.S_reads' HO_3.out).2.2 | (with_reducible refine Kd.C_alloc ?_ _) | (with_reducible refine Kd.C_drewN ?_ _) | (with_reducible refine Kd.C_drew ?_)))
                                            (case side2 => exact (Kd.S_reads' HO_3.out).2.1)
                                            (case side3 => exact Tab.of HT.out (by repeat (first | (with_reducible first | exact HB.out | apply below_alloc | apply pw_below_drewN | apply below_drew1) | exact HB.out)))
                                            rintro e w36 ⟨v374, rfl, ho0, hb⟩
                                            (try have HS0_ := (hb.cell (World.block_lt_of_cell? _ _ (hHeld.1))).trans (hHeld.1))
                                            have HS1_ := (hb.cell (World.block_lt_of_cell? _ _ (hHeld.2.1))).trans (hHeld.2.1)
                                            have HS2_ := (hb.cell (World.block_lt_of_cell? _ _ (hHeld.2.2))).trans (hHeld.2.2)
                                            refine ⟨_, rfl, ?_⟩
                                            have n0_ := Aside0.mk (Kd.S_elder' (by (with_reducible repeat (first | apply Kd.S_alloc | apply Kd.S_drewN | apply Kd.S_drew)); exact HO_3.out) (Kd.R_base ho0) hb)
                                            have n1_ := Aside0.mk (Kd.S_elder' (by (with_reducible repeat (first | apply Kd.S_alloc | apply Kd.S_drewN | apply Kd.S_drew)); exact HO_4.out) (Kd.R_base ho0) hb)
                                            have n2_ := Aside0.mk (Kd.R_elder' (by (with_reducible repeat (first | apply Kd.Q_alloc | apply Kd.Q_drewN | apply Kd.Q_drew)); exact HL376_0.out) (Kd.R_base ho0) hb)
                                            have n3_ := Aside0.mk (Kd.R_lower (Kd.R_new' ho0 (Kd.R_lt (by (with_reducible repeat (first | apply Kd.Q_alloc | apply Kd.Q_drewN | apply Kd.Q_drew)); exact HL376_0.out))) (below_size (by repeat (first | (with_reducible first | exact HB.out | apply below_alloc | apply pw_below_drewN | apply below_drew1) | exact HB.out))))
                                            have n4_ := Aside0.mk (Kd.C_below (by repeat (first | (with_reducible exact HR369_0.out) | (with_reducible refine Kd.C_alloc ?_ _) | (with_reducible refine Kd.C_drewN ?_ _) | (with_reducible refine Kd.C_drew ?_) | exact HR369_0.out)) hb)
                                            have n5_ := Aside0.mk (Kd.C_below (by repeat (first | (with_reducible exact HR371_1.out) | (with_reducible refine Kd.C_alloc ?_ _) | (with_reducible refine Kd.C_drewN ?_ _) | (with_reducible refine Kd.C_drew ?_) | exact HR371_1.out)) hb)
                                            have n6_ := Aside0.mk (Kd.C_below (by repeat (first | (with_reducible exact HR376_0.out) | (with_reducible refine Kd.C_alloc ?_ _) | (with_reducible refine Kd.C_drewN ?_ _) | (with_reducible refine Kd.C_drew ?_) | exact HR376_0.out)) hb)
                                            have n7_ := Aside0.mk (below_step (by repeat (first | (with_reducible first | exact HB.out | apply below_alloc | apply pw_below_drewN | apply below_drew1) | exact HB.out)) hb)
                                            clear HO_3
                                            clear HO_4
                                            clear HL376_0
                                            clear HR369_0
                                            clear HR371_1
                                            clear HR376_0
                                            clear HB
                                            have HO_3 := n0_
                                            have HO_4 := n1_
                                            have HL376_0 := n2_
                                            have HO375 := n3_
                                            have HR369_0 := n4_
                                            have HR371_1 := n5_
                                            have HR376_0 := n6_
                                            have HB := n7_
                                            clear n0_ n1_ n2_ n3_ n4_ n5_ n6_ n7_
                                            (try clear hb)
                                            (try clear hb2)
                                            (try clear hk)
                                            (try clear hi)
                                            (try clear ho0)
                                            obtain ⟨Ao37, co37, eo37⟩ := Kd.R_slice HO375.out
                                            (first | subst eo37 | (injection eo37 with f1_ f2_ f3_; have f4_ := f1_.symm; have f5_ := f3_.symm; clear f1_ f2_ f3_; subst f4_; subst f5_))
                                            refine hK.out _ _ ⟨(by first | exact ((HB.out.cell (World.block_lt_of_cell? w _ hw372_0)).trans hw372_0) | exact HS0_ | exact hHeld.1), HS1_, HS2_⟩ (fun hHeld => ?_)
                                            clear hK K
                                            refine norm_ (a' := ?_) ?_ ?_
                                            rotate_left
                                            · show Act.put _ (some 76) _ = _
                                              simp only [Act.put, List.setIfInBounds_toArray, List.set_cons_zero, List.set_cons_succ, i64_w, i32_w]
                                              rfl
                                            refine one_ (i := 14) (N := some 83) #[true, true, true, true, true, true, true, true, true, true, true, true, true, true, true, false, false] rfl rfl (one_of HT_.out (by kernel_rfl)) (by decide) (fun K hK => ?_)
                                            refine goes_ Tryd.func26 (by kernel_rfl) rfl #[.slice Ao37 t373.length co37, .int .i64 (rd (rd_L1 t357 x5_1) 1)] (by rfl) rfl rfl (by (try simp only [List.map_toArray, List.map_cons, List.map_nil]); first | done | rfl | (simp only [List.length_drop, List.length_take]; rfl)) ?_
                                            with_reducible refine (laws_isIn.calls k3 _ _ t373 (rd (rd_L1 t357 x5_1) 1) t378 _ ?side1 ?side2 A34.out).mono ?_
                                            (case side1 => repeat (first | exact (Kd.R_reads' HO375.out).2.2 | (with_reducible refine Kd.C_alloc ?_ _) | (with_reducible refine Kd.C_drewN ?_ _) | (with_reducible refine Kd.C_drew ?_)))
                                            (case side2 => exact (Kd.R_reads' HO375.out).2.1)
                                            rintro e w' ⟨rfl, ⟨nd, rfl⟩⟩
                                            refine ⟨_, rfl, ?_⟩
                                            refine hK.out _ _ ⟨(by first | exact ((HB.out.cell (World.block_lt_of_cell? w _ hw372_0)).trans hw372_0) | exact HS0_ | exact hHeld.1), hHeld.2.1, hHeld.2.2⟩ (fun hHeld => ?_)
                                            clear hK K
                                            refine norm_ (a' := ?_) ?_ ?_
                                            rotate_left
                                            · show Act.put _ (some 83) _ = _
                                              simp only [Act.put, List.setIfInBounds_toArray, List.set_cons_zero, List.set_cons_succ, i64_w, i32_w]
                                              rfl
                                            refine pure_ (i := 15) (N := some 84) (v := ?_) (a' := ?_) #[true, true, true, true, true, true, true, true, true, true, true, true, true, true, true, true, false] rfl rfl (any_of HT_.out (by kernel_rfl)) (fun _ _ _ h => h) (Or.inl ⟨by rfl, ?_⟩) ?_ ?_
                                            rotate_left
                                            · intro w'
                                              go_simp
                                              with_reducible rfl
                                            rotate_left
                                            · simp only [Act.put, List.setIfInBounds_toArray, List.set_cons_zero, List.set_cons_succ, i64_w, i32_w]
                                              rfl
                                            refine pure_ (i := 16) (N := some 7) (v := ?_) (a' := ?_) #[true, true, true, true, true, true, true, true, true, true, true, true, true, true, true, true, true] rfl rfl (any_of HT_.out (by kernel_rfl)) (fun _ _ _ h => h) (Or.inl ⟨by rfl, ?_⟩) ?_ ?_
                                            rotate_left
                                            · intro w'
                                              go_simp
                                              with_reducible rfl
                                            rotate_left
                                            · simp only [Act.put, List.setIfInBounds_toArray, List.set_cons_zero, List.set_cons_succ, i64_w, i32_w]
                                              rfl
                                            refine done_ (done_of HT_.out (by kernel_rfl)) ?_
                                            try go_wp2
                                            go_roundg k3
                                            case measure => have := HK1.out; have := HJ14.out; have := HK3.out; omega
                                            case rel => exact ⟨(t378), (wrap64 (x8_3 + 1)), (by first | rfl | (simp; done) | (simp [*]; done)), (by first | rfl | (simp; done) | (simp [*]; done)), H', ⟨by have := HK1.out; have := HJ14.out; have := HK3.out; omega⟩, ⟨by (with_reducible repeat (first | apply Kd.S_alloc | apply Kd.S_drewN | apply Kd.S_drew)); exact Kd.S_mono HO_3.out (fun _ hk => trivial)⟩, ⟨by (with_reducible repeat (first | apply Kd.S_alloc | apply Kd.S_drewN | apply Kd.S_drew)); exact Kd.S_mono HO_4.out (fun _ hk => trivial)⟩, ⟨by repeat (first | (with_reducible exact HR369_0.out) | (with_reducible refine Kd.C_alloc ?_ _) | (with_reducible refine Kd.C_drewN ?_ _) | (with_reducible refine Kd.C_drew ?_) | exact HR369_0.out)⟩, ⟨by repeat (first | (with_reducible exact HR371_1.out) | (with_reducible refine Kd.C_alloc ?_ _) | (with_reducible refine Kd.C_drewN ?_ _) | (with_reducible refine Kd.C_drew ?_) | exact HR371_1.out)⟩, ⟨by repeat (first | (with_reducible first | exact HB.out | apply below_alloc | apply pw_below_drewN | apply below_drew1) | exact HB.out)⟩⟩
                                          · rw [if_neg c33] at H
                                            exact absurd H (by simp)
                                        · rw [if_neg c32] at H
                                          exact absurd H (by simp)
                                      · rw [if_neg c31] at H
                                        exact absurd H (by simp)
                                    · rw [if_neg c29] at H
                                      exact absurd H (by simp)
                                · rw [if_neg c26] at H
                                  have c26b0 : decide (x8_3 < (((rd_T37 t354 (rd (rd_L1 t357 x5_1) 0)).f1).length : Int)) = false := decide_eq_false c26
                                  clear c26
                                  by_cases c38 : x7_3 = true
                                  · subst c38
                                    have H1 : (if 0 ≤ x5_1 then (if x5_1 < (t357.length : Int) then (if 1 < ((rd_L1 t357 x5_1).length : Int) then ((laws_isIn.f k3 ((rd_T37 t354 (rd (rd_L1 t357 x5_1) 0)).f1) (rd (rd_L1 t357 x5_1) 1)).bind fun t381 => (if t381 = true then (laws_FnUselessNeeds.l0 k3 t354 t357 (wrap64 (x5_1 + 1))) else (some false))) else (none)) else (none)) else (none)) = some r := by rw [if_pos rfl] at H; exact H
                                    clear H
                                    have H := H1
                                    clear H1
                                    by_cases c39 : 0 ≤ x5_1
                                    · rw [if_pos c39] at H
                                      have c39b0 : decide (0 ≤ x5_1) = true := decide_eq_true c39
                                      clear c39
                                      by_cases c40 : x5_1 < (t357.length : Int)
                                      · rw [if_pos c40] at H
                                        have c40b0 : decide (x5_1 < (t357.length : Int)) = true := decide_eq_true c40
                                        clear c40
                                        by_cases c41 : 1 < ((rd_L1 t357 x5_1).length : Int)
                                        · rw [if_pos c41] at H
                                          have c41b0 : decide (1 < ((rd_L1 t357 x5_1).length : Int)) = true := decide_eq_true c41
                                          have c41b1 : decide (1 < (rd_L1 t357 x5_1).length) = true := decide_eq_true (by omega)
                                          clear c41
                                          replace H := Option.bind_eq_some_iff.mp H
                                          obtain ⟨t381, A420, H⟩ := H
                                          replace H : (if t381 = true then (laws_FnUselessNeeds.l0 k3 t354 t357 (wrap64 (x5_1 + 1))) else (some false)) = some r := H
                                          have A42 := Aside0.mk A420
                                          clear A420
                                          by_cases c43 : t381 = true
                                          · subst c43
                                            have H1 : (laws_FnUselessNeeds.l0 k3 t354 t357 (wrap64 (x5_1 + 1))) = some r := by rw [if_pos rfl] at H; exact H
                                            clear H
                                            have H := H1
                                            clear H1
                                            have H' := Aside0.mk H
                                            clear H
                                            have p379 : 0 ≤ (x5_1 : Int) := of_decide_eq_true (by first | (with_reducible assumption) | assumption)
                                            have q379 : x5_1 < (t357.length : Int) := of_decide_eq_true (by first | (with_reducible assumption) | assumption)
                                            obtain ⟨ad379, A379_0, c379_0, e379, hx379_0, hl379_0, hi379_0⟩ := at_L1 (Kd.S_reads' HO_4.out).2.2 x5_1 p379 q379
                                            obtain rfl : ad369 = ad379 := (by injection e379)
                                            obtain ⟨ce379, hce379, hMe379, hcc379⟩ := Kd.S_get HO_4.out [] x5_1 p379 (by first | exact q379 | exact of_decide_eq_true (by first | (with_reducible assumption) | assumption) | (have e_ := (Kd.S_reads' HO_4.out).1; omega))
                                            obtain ⟨ve379_0, rfl, ge379_0⟩ := hMe379
                                            have hv379_0 := hcc379 0 _ rfl
                                            rw [Nat.add_zero, show ((Kd.slice 3 (Kd.int .i64))).sz = 1 from rfl, Nat.mul_one] at hv379_0
                                            replace hv379_0 := Option.some.inj (hv379_0.symm.trans hx379_0)
                                            rw [hv379_0] at ge379_0
                                            have HL379_0 := Aside0.mk (show Kd.R (Kd.int .i64) 3 _ _ _ _ (rd_L1 t357 x5_1) from ge379_0)
                                            clear hv379_0 ge379_0
                                            clear hcc379 hce379
                                            have HR379_0 := Aside0.mk hi379_0
                                            have HC379_0 := Aside0.mk hl379_0
                                            clear hi379_0 hl379_0
                                            replace p379 := eq_true p379
                                            replace q379 := eq_true q379
                                            have p380 : 0 ≤ (1 : Int) := (by omega)
                                            have q380 : 1 < ((rd_L1 t357 x5_1).length : Int) := of_decide_eq_true (by first | (with_reducible assumption) | assumption)
                                            obtain ⟨ad380, e380, hx380_0⟩ := Kd.at_int (by repeat (first | (with_reducible exact HR379_0.out) | (with_reducible refine Kd.C_alloc ?_ _) | (with_reducible refine Kd.C_drewN ?_ _) | (with_reducible refine Kd.C_drew ?_) | exact HR379_0.out)) 1 p380 q380
                                            cases e380
                                            (try simp only [show (1 : Int).toNat = 1 from rfl, Nat.reduceMul, Nat.reduceEqDiff, Go.Addr.add, ↓reduceIte] at hx380_0)
                                            have qi380 : (1 < (rd_L1 t357 x5_1).length) = True := eq_true (by omega)
                                            (try rw [show ((1 : Int)).toNat = 1 from rfl] at hx380_0)
                                            replace p380 := eq_true p380
                                            replace q380 := eq_true q380
                                            go_wp2_with (first | (go_at_call 26; (with_reducible refine (laws_isIn.calls k3 _ _ ((rd_T37 t354 (rd (rd_L1 t357 x5_1) 0)).f1) (rd (rd_L1 t357 x5_1) 1) true _ ?side1 ?side2 A42.out).mono ?_); (case side1 => repeat (first | exact (Kd.C_below HR371_1.out HB.out) | exact HR371_1.out | (with_reducible refine Kd.C_alloc ?_ _) | (with_reducible refine Kd.C_drewN ?_ _) | (with_reducible refine Kd.C_drew ?_))); (case side2 => exact HC371_1.out); rintro e w' ⟨rfl, ⟨nd, rfl⟩⟩))
                                            go_roundg k3
                                            case measure => have := HK1.out; have := HJ14.out; have := HK3.out; omega
                                            case rel => exact ⟨(wrap64 (x5_1 + 1)), (by first | rfl | (simp; done) | (simp [*]; done)), H', ⟨by have := HK1.out; have := HJ14.out; have := HK3.out; omega⟩, ⟨by (with_reducible repeat (first | apply Kd.S_alloc | apply Kd.S_drewN | apply Kd.S_drew)); exact HO_3.out⟩, ⟨by (with_reducible repeat (first | apply Kd.S_alloc | apply Kd.S_drewN | apply Kd.S_drew)); exact HO_4.out⟩, ⟨by repeat (first | (with_reducible first | exact HB.out | apply below_alloc | apply pw_below_drewN | apply below_drew1) | exact HB.out)⟩⟩
                                          · replace c43 := Bool.eq_false_iff.mpr c43
                                            subst c43
                                            have H1 : (some false) = some r := by rw [if_neg (show ¬ (false = true) by decide)] at H; exact H
                                            clear H
                                            have H := H1
                                            clear H1
                                            obtain rfl := Option.some.inj H
                                            have p379 : 0 ≤ (x5_1 : Int) := of_decide_eq_true (by first | (with_reducible assumption) | assumption)
                                            have q379 : x5_1 < (t357.length : Int) := of_decide_eq_true (by first | (with_reducible assumption) | assumption)
                                            obtain ⟨ad379, A379_0, c379_0, e379, hx379_0, hl379_0, hi379_0⟩ := at_L1 (Kd.S_reads' HO_4.out).2.2 x5_1 p379 q379
                                            obtain rfl : ad369 = ad379 := (by injection e379)
                                            obtain ⟨ce379, hce379, hMe379, hcc379⟩ := Kd.S_get HO_4.out [] x5_1 p379 (by first | exact q379 | exact of_decide_eq_true (by first | (with_reducible assumption) | assumption) | (have e_ := (Kd.S_reads' HO_4.out).1; omega))
                                            obtain ⟨ve379_0, rfl, ge379_0⟩ := hMe379
                                            have hv379_0 := hcc379 0 _ rfl
                                            rw [Nat.add_zero, show ((Kd.slice 3 (Kd.int .i64))).sz = 1 from rfl, Nat.mul_one] at hv379_0
                                            replace hv379_0 := Option.some.inj (hv379_0.symm.trans hx379_0)
                                            rw [hv379_0] at ge379_0
                                            have HL379_0 := Aside0.mk (show Kd.R (Kd.int .i64) 3 _ _ _ _ (rd_L1 t357 x5_1) from ge379_0)
                                            clear hv379_0 ge379_0
                                            clear hcc379 hce379
                                            have HR379_0 := Aside0.mk hi379_0
                                            have HC379_0 := Aside0.mk hl379_0
                                            clear hi379_0 hl379_0
                                            replace p379 := eq_true p379
                                            replace q379 := eq_true q379
                                            have p380 : 0 ≤ (1 : Int) := (by omega)
                                            have q380 : 1 < ((rd_L1 t357 x5_1).length : Int) := of_decide_eq_true (by first | (with_reducible assumption) | assumption)
                                            obtain ⟨ad380, e380, hx380_0⟩ := Kd.at_int (by repeat (first | (with_reducible exact HR379_0.out) | (with_reducible refine Kd.C_alloc ?_ _) | (with_reducible refine Kd.C_drewN ?_ _) | (with_reducible refine Kd.C_drew ?_) | exact HR379_0.out)) 1 p380 q380
                                            cases e380
                                            (try simp only [show (1 : Int).toNat = 1 from rfl, Nat.reduceMul, Nat.reduceEqDiff, Go.Addr.add, ↓reduceIte] at hx380_0)
                                            have qi380 : (1 < (rd_L1 t357 x5_1).length) = True := eq_true (by omega)
                                            (try rw [show ((1 : Int)).toNat = 1 from rfl] at hx380_0)
                                            replace p380 := eq_true p380
                                            replace q380 := eq_true q380
                                            go_wp2_with (first | (go_at_call 26; (with_reducible refine (laws_isIn.calls k3 _ _ ((rd_T37 t354 (rd (rd_L1 t357 x5_1) 0)).f1) (rd (rd_L1 t357 x5_1) 1) false _ ?side1 ?side2 A42.out).mono ?_); (case side1 => repeat (first | exact (Kd.C_below HR371_1.out HB.out) | exact HR371_1.out | (with_reducible refine Kd.C_alloc ?_ _) | (with_reducible refine Kd.C_drewN ?_ _) | (with_reducible refine Kd.C_drew ?_))); (case side2 => exact HC371_1.out); rintro e w' ⟨rfl, ⟨nd, rfl⟩⟩))
                                            go_ret
                                            exact ⟨by first | rfl | (simp [errW_none, errW_some] <;> rfl) | (simp [*, errW_none, errW_some] <;> rfl), by repeat (first | (with_reducible first | exact HB.out | apply below_alloc | apply pw_below_drewN | apply below_drew1) | exact HB.out)⟩
                                        · rw [if_neg c41] at H
                                          exact absurd H (by simp)
                                      · rw [if_neg c40] at H
                                        exact absurd H (by simp)
                                    · rw [if_neg c39] at H
                                      exact absurd H (by simp)
                                  · replace c38 := Bool.eq_false_iff.mpr c38
                                    subst c38
                                    have H1 : (some false) = some r := by rw [if_neg (show ¬ (false = true) by decide)] at H; exact H
                                    clear H
                                    have H := H1
                                    clear H1
                                    obtain rfl := Option.some.inj H
                                    go_wp2
                                    go_ret
                                    exact ⟨by first | rfl | (simp [errW_none, errW_some] <;> rfl) | (simp [*, errW_none, errW_some] <;> rfl), by repeat (first | (with_reducible first | exact HB.out | apply below_alloc | apply pw_below_drewN | apply below_drew1) | exact HB.out)⟩
                          · rw [if_neg c25] at H
                            exact absurd H (by simp)
                        · rw [if_neg c24] at H
                          exact absurd H (by simp)
                      · rw [if_neg c23] at H
                        exact absurd H (by simp)
                    · rw [if_neg c22] at H
                      exact absurd H (by simp)
                  · rw [if_neg c21] at H
                    exact absurd H (by simp)
          · rw [if_neg c14] at H
            have c14b0 : decide (x5_1 < (t357.length : Int)) = false := decide_eq_false c14
            clear c14
            obtain rfl := Option.some.inj H
            go_wp2
            go_ret
            exact ⟨by first | rfl | (simp [errW_none, errW_some] <;> rfl) | (simp [*, errW_none, errW_some] <;> rfl), by repeat (first | (with_reducible first | exact HB.out | apply below_alloc | apply pw_below_drewN | apply below_drew1) | exact HB.out)⟩
    · replace c7 := Bool.eq_false_iff.mpr c7
      subst c7
      have H1 : (some false) = some r := by rw [if_neg (show ¬ (false = true) by decide)] at H; exact H
      clear H
      have H := H1
      clear H1
      obtain rfl := Option.some.inj H
      go_enter Tryd.func4, Tryd.ntmps4
      go_wp2_with (first | ((with_reducible refine gate_callee (f := 24) rfl ?_); refine goesL_ (some 13) rfl rfl Tryd.func24 (by kernel_rfl) rfl #[.slice A0 l0.length c0] rfl (by (try simp only [List.map_toArray, List.map_cons, List.map_nil]); first | done | rfl | (simp only [List.length_drop, List.length_take]; rfl)) ?_; (with_reducible refine (spec_DrawUselessNeeds.calls _ _ l0 t354 _ ?side1 ?side2 A3.out).mono ?_); (case side1 => repeat (first | exact HR0.out | (with_reducible refine Kd.C_alloc ?_ _) | (with_reducible refine Kd.C_drewN ?_ _) | (with_reducible refine Kd.C_drew ?_))); (case side2 => exact HC0.out); rintro e w44 ⟨v355, rfl, ho0, hb⟩; refine ⟨_, rfl, ?_⟩; have n0_ := Aside0.mk (Kd.S_lower ho0 (below_size (by repeat (first | (with_reducible first | exact HB.out | apply below_alloc | apply pw_below_drewN | apply below_drew1) | exact HB.out)))); have n1_ := Aside0.mk (below_step (by repeat (first | (with_reducible first | exact HB.out | apply below_alloc | apply pw_below_drewN | apply below_drew1) | exact HB.out)) hb); clear HB; have HO356 := n0_; have HB := n1_; clear n0_ n1_; (try clear hb); (try clear hb2); (try clear hk); (try clear hi); (try clear ho0); obtain ⟨Ao45, co45, eo45⟩ := Kd.S_slice HO356.out; subst eo45) | ((with_reducible refine gate_callee (f := 18) rfl ?_); refine goesL_ (some 15) rfl rfl Tryd.func18 (by kernel_rfl) rfl #[.slice Ao45 t354.length co45] rfl (by (try simp only [List.map_toArray, List.map_cons, List.map_nil]); first | done | rfl | (simp only [List.length_drop, List.length_take]; rfl)) ?_; (with_reducible refine (impl_UselessNeeds.calls _ _ t354 t357 _ ?side1 ?side2 ?side3 A4.out).mono ?_); (case side1 => repeat (first | exact (Kd.S_reads' HO356.out).2.2 | (with_reducible refine Kd.C_alloc ?_ _) | (with_reducible refine Kd.C_drewN ?_ _) | (with_reducible refine Kd.C_drew ?_))); (case side2 => exact (Kd.S_reads' HO356.out).2.1); (case side3 => exact Tab.of HT.out (by repeat (first | (with_reducible first | exact HB.out | apply below_alloc | apply pw_below_drewN | apply below_drew1) | exact HB.out))); rintro e w46 ⟨v358, rfl, ho0, hb⟩; refine ⟨_, rfl, ?_⟩; have n0_ := Aside0.mk (Kd.S_below (by (with_reducible repeat (first | apply Kd.S_alloc | apply Kd.S_drewN | apply Kd.S_drew)); exact HO356.out) hb); have n1_ := Aside0.mk (Kd.S_lower ho0 (below_size (by repeat (first | (with_reducible first | exact HB.out | apply below_alloc | apply pw_below_drewN | apply below_drew1) | exact HB.out)))); have n2_ := Aside0.mk (below_step (by repeat (first | (with_reducible first | exact HB.out | apply below_alloc | apply pw_below_drewN | apply below_drew1) | exact HB.out)) hb); clear HO356; clear HB; have HO356 := n0_; have HO359 := n1_; have HB := n2_; clear n0_ n1_ n2_; (try clear hb); (try clear hb2); (try clear hk); (try clear hi); (try clear ho0)) | ((with_reducible refine gate_callee (f := 16) rfl ?_); refine goesL_ (some 18) rfl rfl Tryd.func16 (by kernel_rfl) rfl #[.slice Ao45 t354.length co45] rfl (by (try simp only [List.map_toArray, List.map_cons, List.map_nil]); first | done | rfl | (simp only [List.length_drop, List.length_take]; rfl)) ?_; (with_reducible refine (spec_UselessNeeds.calls k _ _ t354 t360 _ ?side1 ?side2 A5.out).mono ?_); (case side1 => repeat (first | exact (Kd.S_reads' HO356.out).2.2 | (with_reducible refine Kd.C_alloc ?_ _) | (with_reducible refine Kd.C_drewN ?_ _) | (with_reducible refine Kd.C_drew ?_))); (case side2 => exact (Kd.S_reads' HO356.out).2.1); rintro e w47 ⟨v361, rfl, ho0, hb⟩; refine ⟨_, rfl, ?_⟩; have n0_ := Aside0.mk (Kd.S_below (by (with_reducible repeat (first | apply Kd.S_alloc | apply Kd.S_drewN | apply Kd.S_drew)); exact HO356.out) hb); have n1_ := Aside0.mk (Kd.S_elder' (by (with_reducible repeat (first | apply Kd.S_alloc | apply Kd.S_drewN | apply Kd.S_drew)); exact HO359.out) (Kd.S_base ho0) hb); have n2_ := Aside0.mk (Kd.S_lower (Kd.S_new' ho0 (Kd.S_lt (by (with_reducible repeat (first | apply Kd.S_alloc | apply Kd.S_drewN | apply Kd.S_drew)); exact HO359.out))) (below_size (by repeat (first | (with_reducible first | exact HB.out | apply below_alloc | apply pw_below_drewN | apply below_drew1) | exact HB.out)))); have n3_ := Aside0.mk (below_step (by repeat (first | (with_reducible first | exact HB.out | apply below_alloc | apply pw_below_drewN | apply below_drew1) | exact HB.out)) hb); clear HO356; clear HO359; clear HB; have HO356 := n0_; have HO359 := n1_; have HO362 := n2_; have HB := n3_; clear n0_ n1_ n2_ n3_; (try clear hb); (try clear hb2); (try clear hk); (try clear hi); (try clear ho0); obtain ⟨Ao48, co48, eo48⟩ := Kd.S_slice HO359.out; subst eo48; obtain ⟨Ao49, co49, eo49⟩ := Kd.S_slice HO362.out; subst eo49) | ((with_reducible refine gate_callee (f := 25) rfl ?_); refine goesL_ (some 19) rfl rfl Tryd.func25 (by kernel_rfl) rfl #[.slice Ao48 t357.length co48, .slice Ao49 t360.length co49] rfl (by (try simp only [List.map_toArray, List.map_cons, List.map_nil]); first | done | rfl | (simp only [List.length_drop, List.length_take]; rfl)) ?_; (with_reducible refine (laws_equalLists.calls k _ _ t357 _ _ t360 false _ ?side1 ?side2 ?side3 ?side4 A6.out).mono ?_); (case side1 => repeat (first | exact (Kd.S_reads' HO359.out).2.2 | (with_reducible refine Kd.C_alloc ?_ _) | (with_reducible refine Kd.C_drewN ?_ _) | (with_reducible refine Kd.C_drew ?_))); (case side2 => exact (Kd.S_reads' HO359.out).2.1); (case side3 => repeat (first | exact (Kd.S_reads' HO362.out).2.2 | (with_reducible refine Kd.C_alloc ?_ _) | (with_reducible refine Kd.C_drewN ?_ _) | (with_reducible refine Kd.C_drew ?_))); (case side4 => exact (Kd.S_reads' HO362.out).2.1); rintro e w' ⟨rfl, ⟨nd, rfl⟩⟩; refine ⟨_, rfl, ?_⟩))
      go_ret
      exact ⟨by first | rfl | (simp [errW_none, errW_some] <;> rfl) | (simp [*, errW_none, errW_some] <;> rfl), by repeat (first | (with_reducible first | exact HB.out | apply below_alloc | apply pw_below_drewN | apply below_drew1) | exact HB.out)⟩
end Go.Proofs.YtekajandipdlhaaDoor.P
end
