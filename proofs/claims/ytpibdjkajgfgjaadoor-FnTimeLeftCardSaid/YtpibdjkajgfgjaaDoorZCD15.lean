/- What the proofs of several laws use: words and contracts, part 5 of 7. -/
import Derived.Test.YtpibdjkajgfgjaaDoorZCD14
section
set_option linter.unusedVariables false
set_option linter.unusedSimpArgs false
namespace Go.Proofs.YtpibdjkajgfgjaaDoor.Core
open Go Go.RowKit Go.Proofs.YtpibdjkajgfgjaaDoorW.PrintWords Go.Proofs.YtpibdjkajgfgjaaDoorW.PrintMore Go.Proofs.YtpibdjkajgfgjaaDoor.P
theorem VG.list_bit {g : List Tk} {G : GD} (v : VG g G) {s : Nat} (hs : s < 2 ^ g.length) (i : Nat) : s.testBit i = true ↔ i ∈ elemsN s := by
  rw [mem_elemsN]
  refine ⟨fun h => ⟨?_, h⟩, fun h => h.2⟩
  have h1 := Nat.ge_two_pow_of_testBit h
  have h2 : 2 ^ i < 2 ^ g.length := Nat.lt_of_le_of_lt h1 hs
  have h3 := (Nat.pow_lt_pow_iff_right (by omega : 1 < 2)).1 h2
  have := v.n8
  omega
theorem ev_vdone_from {g : List Tk} (hg : Fits g) {N : List Nat} (hN : needsD g = some N) (L : List Nat) (d : Nat) (hL : L.length ≤ 100) (hd : d < 256) (hs : ∀ i, d.testBit i = true ↔ i ∈ L) (hLg : ∀ i ∈ L, i < g.length) :
    ∀ (r pre : List Nat), L = pre ++ r → Ev (fun k => spec_validDone.l0 k g (up L) (pre.length : Int)) (r.all fun i => decide (sub (N.getD i 0) d = 0))
  | [], pre, hp => by
    rw [List.append_nil] at hp
    refine Ev.succ ?_
    simp only [spec_validDone.l0]
    exact Ev.neg (by rw [up_length, hp]; omega) (Ev.const _)
  | i :: r, pre, hp => by
    have hlen : L.length = pre.length + (r.length + 1) := by rw [hp]; simp
    have hig : i < g.length := hLg i (by rw [hp]; simp)
    have hrd : rd (up L) (pre.length : Int) = (i : Int) := by rw [rd_up (i := pre.length) rfl, hp]; simp
    have hdn := ev_allDone (L := (g.getD i z48).f1) (M := up L) (hg.2 _ (getD_mem hig)) (by rw [up_length]; unfold big; omega)
    have e2 : decide (∀ x ∈ (g.getD i z48).f1, x ∈ up L) = decide (sub (N.getD i 0) d = 0) := by rw [decide_eq_decide]; exact done_iff hN hd hs hig
    rw [e2] at hdn
    have hw : wrap64 ((pre.length : Int) + 1) = ((pre ++ [i]).length : Int) := by rw [w64s (by unfold big; omega)]; simp
    refine Ev.succ ?_
    simp only [spec_validDone.l0, hrd, rdT_nat, hw]
    refine Ev.pos (by rw [up_length]; omega) (Ev.pos (by omega) (Ev.pos (by omega) (Ev.pos (by omega) (Ev.bind hdn ?_))))
    by_cases hz : sub (N.getD i 0) d = 0
    · have ih := ev_vdone_from hg hN L d hL hd hs hLg r (pre ++ [i]) (by rw [hp]; simp)
      exact Ev.pos (by rw [decide_eq_true hz]) (ih.conv (by rw [List.all_cons, decide_eq_true hz]; rfl))
    · exact Ev.neg (by rw [decide_eq_false hz]; simp) ((Ev.const false).conv (by rw [List.all_cons, decide_eq_false hz]; rfl))
theorem ev_validDone {g : List Tk} (hg : Fits g) {l : List Int} (hl : l.length < big) : Ev (fun k => spec_validDone.f k g l) (doneD g l).isSome := by
  unfold spec_validDone.f doneD
  refine Ev.bind (ev_validGraph hg) ?_
  cases hG : graphD g with
  | none =>
    refine Ev.neg (by simp) (Ev.succ ?_)
    simp only [spec_validDone.j0]
    exact Ev.pos (by first | rfl | trivial) (Ev.const _)
  | some G =>
    have v := vg_of hG
    have h8 := v.n8
    have hw : wrap64 ((g.length : Int) - 1) = (g.length : Int) - 1 := w64 (by omega) (by omega)
    refine Ev.pos (by first | rfl | trivial) (Ev.bind (ev_ascends hl) ?_)
    rw [hw]
    have hA := ev_allIn hl 0 ((g.length : Int) - 1)
    rcases set_cases g.length l with ⟨s, hs, hok⟩ | ⟨hs, hok⟩
    · rw [hs]
      simp only []
      refine Ev.pos hok.2 (Ev.bind hA ?_)
      rw [decide_eq_true hok.1]
      refine Ev.succ ?_
      simp only [spec_validDone.j0]
      refine Ev.neg (by simp) ?_
      have hsl := setD_lt hs
      have hsl2 := set_list h8 hs
      have key := ev_vdone_from hg v.needsD (elemsN s) s (by have := elemsN_length s; omega) (Nat.lt_of_lt_of_le hsl (pow8 h8)) (v.list_bit hsl) (fun i hi => elemsN_lt hsl hi) (elemsN s) [] rfl
      rw [hsl2] at key
      refine key.conv ?_
      show closedD G.needs s = _
      cases h : closedD G.needs s
      · simp
      · simp
    · rw [hs]
      simp only []
      cases ha : ascD l with
      | false =>
        refine Ev.neg (by simp) (Ev.succ ?_)
        simp only [spec_validDone.j0]
        exact Ev.pos (by first | rfl | trivial) (Ev.const _)
      | true =>
        refine Ev.pos (by first | rfl | trivial) (Ev.bind hA ?_)
        rw [decide_eq_false (fun h => hok ⟨h, ha⟩)]
        refine Ev.succ ?_
        simp only [spec_validDone.j0]
        exact Ev.pos (by first | rfl | trivial) (Ev.const _)
theorem ev_ready_from {g : List Tk} (hg : Fits g) {N : List Nat} (hN : needsD g = some N) (L : List Nat) (d : Nat) (hL : L.length ≤ 100) (hd : d < 256) (hs : ∀ i, d.testBit i = true ↔ i ∈ L) :
    ∀ (m i : Nat), i + m = g.length → Ev (fun k => spec_ready.l0 k g (up L) (up ((List.range i).filter (canNext N d))) (i : Int)) (up ((List.range g.length).filter (canNext N d)))
  | 0, i, hi => by
    have : i = g.length := by omega
    subst this
    refine Ev.succ ?_
    simp only [spec_ready.l0]
    exact Ev.neg (by omega) (Ev.const _)
  | m + 1, i, hi => by
    have hig : i < g.length := by omega
    have h8 := (needsD_spec hN).1
    have hin := ev_isIn (L := up L) (by rw [up_length]; unfold big; omega) (i : Int)
    have hdn := ev_allDone (L := (g.getD i z48).f1) (M := up L) (hg.2 _ (getD_mem hig)) (by rw [up_length]; unfold big; omega)
    have e1 : decide ((i : Int) ∈ up L) = d.testBit i := by rw [Bool.eq_iff_iff, decide_eq_true_eq, mem_up, hs]
    have e2 : decide (∀ x ∈ (g.getD i z48).f1, x ∈ up L) = decide (sub (N.getD i 0) d = 0) := by rw [decide_eq_decide]; exact done_iff hN hd hs hig
    rw [e1] at hin
    rw [e2] at hdn
    have hw : wrap64 ((i : Int) + 1) = ((i + 1 : Nat) : Int) := w64s (by unfold big; omega)
    have ih := ev_ready_from hg hN L d hL hd hs m (i + 1) (by omega)
    rw [List.range_succ, List.filter_append] at ih
    have hfl := List.length_filter_le (canNext N d) (List.range i)
    rw [List.length_range] at hfl
    refine Ev.succ ?_
    simp only [spec_ready.l0, rdT_nat, hw]
    refine Ev.pos (by omega) (Ev.bind hin ?_)
    cases hbit : d.testBit i with
    | true =>
      have hc : canNext N d i = false := by unfold canNext; rw [hbit]; rfl
      rw [List.filter_cons_of_neg (by rw [hc]; simp), List.filter_nil, List.append_nil] at ih
      exact Ev.pos (by first | rfl | trivial) ih
    | false =>
      refine Ev.neg (by simp) (Ev.pos (by omega) (Ev.bind hdn ?_))
      by_cases hz : sub (N.getD i 0) d = 0
      · have hc : canNext N d i = true := by unfold canNext; rw [hbit, decide_eq_true hz]; rfl
        rw [List.filter_cons_of_pos hc, List.filter_nil] at ih
        refine Ev.pos (by rw [decide_eq_true hz]) (Ev.pos (by rw [up_length]; omega) ?_)
        have e3 : up ((List.range i).filter (canNext N d) ++ [i]) = up ((List.range i).filter (canNext N d)) ++ [(i : Int)] := by simp [up]
        rw [← e3]
        exact ih
      · have hc : canNext N d i = false := by unfold canNext; rw [decide_eq_false hz, Bool.and_false]
        rw [List.filter_cons_of_neg (by rw [hc]; simp), List.filter_nil, List.append_nil] at ih
        exact Ev.neg (by rw [decide_eq_false hz]; simp) ih
theorem ev_ready {g : List Tk} (hg : Fits g) {G : GD} (v : VG g G) {s : Nat} (hs : s < 2 ^ g.length) : Ev (fun k => spec_ready.f k g (up (elemsN s))) (up (elemsN (G.ready s))) := by
  have h := ev_ready_from hg v.needsD (elemsN s) s (by have := elemsN_length s; omega) (Nat.lt_of_lt_of_le hs (pow8 v.n8)) (v.list_bit hs) g.length 0 (by omega)
  rw [elemsN_ready v.needs_len, v.nl]
  exact h
/-- What valid done tasks are, for the reference. -/
theorem done_list {g : List Tk} {l : List Int} {G : GD} {s : Nat} (h : doneD g l = some (G, s)) : VG g G ∧ graphD g = some G ∧ s < 2 ^ g.length ∧ l = up (elemsN s) ∧ setD g.length l = some s ∧ closedD G.needs s = true := by
  obtain ⟨hG, hs, hc⟩ := doneD_spec h
  have v := vg_of hG
  exact ⟨v, hG, setD_lt hs, (set_list v.n8 hs).symm, hs, hc⟩
end Go.Proofs.YtpibdjkajgfgjaaDoor.Core
end
