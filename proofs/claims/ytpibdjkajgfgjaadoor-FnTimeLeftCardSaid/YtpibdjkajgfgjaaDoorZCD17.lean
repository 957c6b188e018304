/- What the proofs of several laws use: words and contracts, part 7 of 7. -/
import Derived.Test.YtpibdjkajgfgjaaDoorZCD16
section
set_option linter.unusedVariables false
set_option linter.unusedSimpArgs false
namespace Go.Proofs.YtpibdjkajgfgjaaDoor.Core
open Go Go.RowKit Go.Proofs.YtpibdjkajgfgjaaDoor.P
def readyD (g : List Tk) (done : List Int) : List Int := match doneD g done with
  | none => []
  | some (G, s) => elems (G.ready s)
theorem done_facts {g : List Tk} {done : List Int} {G : GD} {s : Nat} (h : doneD g done = some (G, s)) : GOk G ∧ s < 2 ^ G.tasks.length ∧ s < 256 ∧ G.ready s < 2 ^ G.tasks.length ∧ G.ready s < 256 ∧ G.tasks = g := by
  obtain ⟨hg, hs, _⟩ := doneD_spec h
  have ok := graphD_ok hg
  have ht := graphD_tasks hg
  have hsl := setD_lt hs
  rw [← ht] at hsl
  have hr := ready_lt G s
  rw [ok.nl] at hr
  have := pow8 ok.n8
  exact ⟨ok, hsl, by omega, hr, by omega, ht⟩
end Go.Proofs.YtpibdjkajgfgjaaDoor.Core
namespace Go.Proofs.YtpibdjkajgfgjaaDoor.P
open Go Go.RowKit Go.Shelf Go.Proofs.YtpibdjkajgfgjaaDoorW.PrintWords Go.Proofs.YtpibdjkajgfgjaaDoorW.PrintMore Go.Proofs.YtpibdjkajgfgjaaDoor.Core
attribute [local go_sem] Oper.semAt_some wide_fn wide_depth
end Go.Proofs.YtpibdjkajgfgjaaDoor.P
end
section
set_option linter.unusedVariables false
set_option linter.unusedSimpArgs false
namespace Go.Proofs.YtpibdjkajgfgjaaDoor.Core
open Go Go.RowKit Go.Proofs.YtpibdjkajgfgjaaDoor.P
def finD (g : List Tk) (done : List Int) (x : Int) : List Int × Bool := match doneD g done with
  | none => ([], false)
  | some (G, s) => if (0 ≤ x ∧ x ≤ (G.tasks.length : Int) - 1) ∧ (G.ready s).testBit x.toNat = true then (elems (s ||| 2 ^ x.toNat), true) else ([], false)
end Go.Proofs.YtpibdjkajgfgjaaDoor.Core
namespace Go.Proofs.YtpibdjkajgfgjaaDoor.P
open Go Go.RowKit Go.Shelf Go.Proofs.YtpibdjkajgfgjaaDoorW.PrintWords Go.Proofs.YtpibdjkajgfgjaaDoorW.PrintLast Go.Proofs.YtpibdjkajgfgjaaDoorW.PrintMore Go.Proofs.YtpibdjkajgfgjaaDoor.Core
attribute [local go_sem] Oper.semAt_some wide_fn wide_depth
end Go.Proofs.YtpibdjkajgfgjaaDoor.P
end
section
set_option linter.unusedVariables false
set_option linter.unusedSimpArgs false
namespace Go.Proofs.YtpibdjkajgfgjaaDoor.Core
open Go Go.RowKit Go.Proofs.YtpibdjkajgfgjaaDoorW.PrintWords Go.Proofs.YtpibdjkajgfgjaaDoorW.PrintMore Go.Proofs.YtpibdjkajgfgjaaDoor.P
theorem ev_ReadyTasks {g : List Tk} (hg : Fits g) {l : List Int} (hl : l.length < big) : Ev (fun k => spec_ReadyTasks.f k g l) (readyD g l) := by
  unfold spec_ReadyTasks.f readyD
  refine Ev.bind (ev_validDone hg hl) ?_
  cases h : doneD g l with
  | none => exact Ev.neg (by simp) (Ev.const _)
  | some GS =>
    obtain ⟨G, s⟩ := GS
    obtain ⟨v, hG, hs, rfl, _, _⟩ := done_list h
    exact Ev.pos (by first | rfl | trivial) (Ev.bind (ev_ready hg v hs) (Ev.const _))
theorem elemsN_with {s x n : Nat} (hn : n ≤ 8) (hs : s < 2 ^ n) (hx : x < n) : elemsN (s ||| 2 ^ x) = (List.range n).filter (fun i => decide (i = x) || s.testBit i) := by
  have e8 : List.range 8 = List.range n ++ (List.range (8 - n)).map (n + ·) := by rw [← List.range_add]; congr 1; omega
  unfold elemsN
  rw [e8, List.filter_append]
  have e2 : ((List.range (8 - n)).map (n + ·)).filter (fun i => (s ||| 2 ^ x).testBit i) = [] := by
    rw [List.filter_eq_nil_iff]
    intro y hy hb
    obtain ⟨z, _, rfl⟩ := List.mem_map.1 hy
    rw [Nat.testBit_lt_two_pow (Nat.lt_of_lt_of_le (Nat.or_lt_two_pow hs (Nat.pow_lt_pow_right (by omega) hx)) (Nat.pow_le_pow_right (by omega) (by omega)))] at hb
    cases hb
  rw [e2, List.append_nil]
  refine List.filter_congr fun i _ => ?_
  rw [or_bit, Bool.or_comm]
  congr 1
  rw [decide_eq_decide]
  exact eq_comm
theorem ev_fin_from {g : List Tk} (h8 : g.length ≤ 8) (L : List Nat) (d : Nat) (hL : L.length ≤ 100) (hs : ∀ i, d.testBit i = true ↔ i ∈ L) (x : Nat) :
    ∀ (m i : Nat), i + m = g.length → Ev (fun k => spec_FinishTask.l0 k g (up L) (x : Int) (up ((List.range i).filter (fun i => decide (i = x) || d.testBit i))) (i : Int)) (up ((List.range g.length).filter (fun i => decide (i = x) || d.testBit i)), true)
  | 0, i, hi => by
    have : i = g.length := by omega
    subst this
    refine Ev.succ ?_
    simp only [spec_FinishTask.l0]
    exact Ev.neg (by omega) (Ev.const _)
  | m + 1, i, hi => by
    have hin := ev_isIn (L := up L) (by rw [up_length]; unfold big; omega) (i : Int)
    have e1 : decide ((i : Int) ∈ up L) = d.testBit i := by rw [Bool.eq_iff_iff, decide_eq_true_eq, mem_up, hs]
    rw [e1] at hin
    have hw : wrap64 ((i : Int) + 1) = ((i + 1 : Nat) : Int) := w64s (by unfold big; omega)
    have ih := ev_fin_from h8 L d hL hs x m (i + 1) (by omega)
    rw [List.range_succ, List.filter_append] at ih
    have hfl := List.length_filter_le (fun i => decide (i = x) || d.testBit i) (List.range i)
    rw [List.length_range] at hfl
    have e3 : up ((List.range i).filter (fun i => decide (i = x) || d.testBit i) ++ [i]) = up ((List.range i).filter (fun i => decide (i = x) || d.testBit i)) ++ [(i : Int)] := by simp [up]
    refine Ev.succ ?_
    simp only [spec_FinishTask.l0, hw]
    refine Ev.pos (by omega) ?_
    by_cases hx : i = x
    · rw [List.filter_cons_of_pos (by simp [hx]), List.filter_nil, e3] at ih
      exact Ev.pos (by omega) (Ev.pos (by rw [up_length]; omega) ih)
    · refine Ev.neg (by omega) (Ev.bind hin ?_)
      cases hb : d.testBit i with
      | true =>
        rw [List.filter_cons_of_pos (by simp [hb]), List.filter_nil, e3] at ih
        exact Ev.pos (by first | rfl | trivial) (Ev.pos (by rw [up_length]; omega) ih)
      | false =>
        rw [List.filter_cons_of_neg (by simp [hx, hb]), List.filter_nil, List.append_nil] at ih
        exact Ev.neg (by simp) ih
theorem ev_FinishTask {g : List Tk} (hg : Fits g) {l : List Int} (hl : l.length < big) (x : Int) : Ev (fun k => spec_FinishTask.f k g l x) (finD g l x) := by
  unfold spec_FinishTask.f finD
  refine Ev.bind (Ev.const _) (Ev.bind (ev_validDone hg hl) ?_)
  cases h : doneD g l with
  | none =>
    refine Ev.neg (by simp) (Ev.succ ?_)
    simp only [spec_FinishTask.j0]
    exact Ev.pos (by first | rfl | trivial) (Ev.const _)
  | some GS =>
    obtain ⟨G, s⟩ := GS
    obtain ⟨v, hG, hs, rfl, _, _⟩ := done_list h
    have h8 := v.n8
    have hrl := ready_lt G s
    rw [v.nl] at hrl
    have hmem : (x ∈ up (elemsN (G.ready s))) ↔ (0 ≤ x ∧ x ≤ (G.tasks.length : Int) - 1) ∧ (G.ready s).testBit x.toNat = true := by
      rw [v.tasks]
      constructor
      · intro hx
        obtain ⟨i, rfl, hi8, hb⟩ := mem_elems.1 hx
        have := elemsN_lt hrl (mem_elemsN.2 ⟨hi8, hb⟩)
        exact ⟨by omega, by rw [Int.toNat_natCast]; exact hb⟩
      · rintro ⟨h1, h2⟩
        exact mem_elems.2 ⟨x.toNat, by omega, by omega, h2⟩
    refine Ev.pos (by first | rfl | trivial) (Ev.bind (ev_ready hg v hs) (Ev.bind (ev_isIn (by rw [up_length]; have := elemsN_length (G.ready s); unfold big; omega) x) (Ev.succ ?_)))
    simp only [spec_FinishTask.j0]
    by_cases hx : x ∈ up (elemsN (G.ready s))
    · have hx2 := hmem.1 hx
      rw [decide_eq_true hx, if_pos hx2]
      obtain ⟨i, rfl⟩ := Int.eq_ofNat_of_zero_le hx2.1.1
      have hig : i < g.length := by have := hx2.1.2; rw [v.tasks] at this; omega
      refine Ev.neg (by simp) ?_
      have key := ev_fin_from h8 (elemsN s) s (by have := elemsN_length s; omega) (v.list_bit hs) i g.length 0 (by omega)
      rw [← elemsN_with h8 hs hig] at key
      rw [Int.toNat_natCast]
      exact key
    · rw [decide_eq_false hx, if_neg (fun h => hx (hmem.2 h))]
      exact Ev.pos (by first | rfl | trivial) (Ev.const _)
end Go.Proofs.YtpibdjkajgfgjaaDoor.Core
end
section
set_option linter.unusedVariables false
set_option linter.unusedSimpArgs false
namespace Go.Proofs.YtpibdjkajgfgjaaDoor.Core
open Go Go.RowKit Go.Proofs.YtpibdjkajgfgjaaDoorW.PrintWords Go.Proofs.YtpibdjkajgfgjaaDoorW.PrintMore Go.Proofs.YtpibdjkajgfgjaaDoor.P
theorem readyD_length (g : List Tk) (l : List Int) : (readyD g l).length ≤ 8 := by
  unfold readyD
  cases doneD g l with
  | none => simp
  | some GS => exact elems_length _
theorem finD_length (g : List Tk) (l : List Int) (x : Int) : (finD g l x).1.length ≤ 8 := by
  unfold finD
  cases doneD g l with
  | none => simp
  | some GS =>
    simp only []
    split
    · exact elems_length _
    · simp
end Go.Proofs.YtpibdjkajgfgjaaDoor.Core
end
section
set_option linter.unusedVariables false
set_option linter.unusedSimpArgs false
namespace Go.Proofs.YtpibdjkajgfgjaaDoor.Core
open Go Go.RowKit Go.Proofs.YtpibdjkajgfgjaaDoorW.PrintWords Go.Proofs.YtpibdjkajgfgjaaDoorW.PrintMore Go.Proofs.YtpibdjkajgfgjaaDoor.P
theorem ev_someDone {s0 : List Int} {N p : Int} (h : RS s0 N p) (hN : N + 100 < 100000) {g : List Tk} (hg : Fits g) (h16 : g.length ≤ 16) : EvP (fun k => spec_someDone.f k s0 p g) (fun r => r.1.length ≤ 9 ∧ RS s0 (N + 100) r.2) := by
  have key : ∀ (d : Nat) (L : List Int) (M p : Int), d ≤ 17 → L.length ≤ 8 → RS s0 M p → M + d ≤ N + 50 → EvP (fun k => spec_someDone.l0 k g L (d : Int) s0 p) (fun r => r.1.length ≤ 9 ∧ RS s0 (N + 100) r.2) := by
    intro d
    induction d with
    | zero =>
      intro L M p hd hL hp hM
      refine EvP.succ ?_
      simp only [spec_someDone.l0]
      refine EvP.neg (by omega) ?_
      refine (ev_spoil hp (by omega) L 8 (by omega)).bind fun a ha => ?_
      exact EvP.ret ⟨by have := ha.1; show a.1.length ≤ 9; omega, ha.2.mono (by omega) (by omega)⟩
    | succ d ih =>
      intro L M p hd hL hp hM
      have hw : wrap64 (((d + 1 : Nat) : Int) - 1) = (d : Int) := by rw [w64 (by omega) (by omega)]; omega
      refine EvP.succ ?_
      simp only [spec_someDone.l0, hw]
      refine EvP.pos (by omega) (Ev.bindP (ev_ReadyTasks hg (by unfold big; omega)) ?_)
      have hr8 := readyD_length g L
      refine EvP.ite (fun h0 => ?_) (fun _ => ih L M p (by omega) hL hp (by omega))
      refine (ev_pick hp (by omega)).bind fun a ha => ?_
      have hb := ha.2.1 (by omega)
      refine EvP.pos (by omega) (EvP.pos (by omega) (Ev.bindP (ev_FinishTask hg (by unfold big; omega) _) ?_))
      have hp2 : RS s0 (M + 1) a.2 := ha.2.2
      exact EvP.ite (fun _ => ih _ (M + 1) _ (by omega) (finD_length _ _ _) hp2 (by omega)) (fun _ => ih L (M + 1) _ (by omega) hL hp2 (by omega))
  unfold spec_someDone.f
  have hw : wrap64 ((g.length : Int) + 1) = ((g.length + 1 : Nat) : Int) := by rw [w64 (by omega) (by omega)]; omega
  rw [hw]
  refine (ev_pick h (by omega)).bind fun a ha => ?_
  have hb := ha.2.1 (by omega)
  obtain ⟨n, hn⟩ := Int.eq_ofNat_of_zero_le hb.1
  rw [hn]
  exact key n [] (N + 1) a.2 (by omega) (by simp) ha.2.2 (by omega)
end Go.Proofs.YtpibdjkajgfgjaaDoor.Core
end
section
set_option linter.unusedVariables false
set_option linter.unusedSimpArgs false
namespace Go.Proofs.YtpibdjkajgfgjaaDoor.Core
open Go Go.RowKit Go.Proofs.YtpibdjkajgfgjaaDoorW.PrintWords Go.Proofs.YtpibdjkajgfgjaaDoorW.PrintMore Go.Proofs.YtpibdjkajgfgjaaDoor.P
theorem VG.closed_iff {g : List Tk} {G : GD} (v : VG g G) {s : Nat} (hs : s < 2 ^ g.length) : closedD G.needs s = true ↔ ∀ i, s.testBit i = true → ∀ j, (G.needs.getD i 0).testBit j = true → s.testBit j = true := by
  unfold closedD
  rw [List.all_eq_true]
  constructor
  · intro h i hi j hj
    have := of_decide_eq_true (h i ((v.list_bit hs i).1 hi))
    exact (v.sub_iff' hs).1 this j hj
  · intro h i hi
    exact decide_eq_true ((v.sub_iff' hs).2 (h i ((v.list_bit hs i).2 hi)))
theorem VG.mem_rd {g : List Tk} {G : GD} (v : VG g G) {s x : Nat} : (G.ready s).testBit x = true ↔ x < g.length ∧ s.testBit x = false ∧ sub (G.needs.getD x 0) s = 0 := by
  rw [← v.mem_ready, mem_elemsN]
  refine ⟨fun h => ⟨?_, h⟩, fun h => h.2⟩
  have h1 := ready_lt G s
  rw [v.nl] at h1
  have h3 := (Nat.pow_lt_pow_iff_right (by omega : 1 < 2)).1 (Nat.lt_of_le_of_lt (Nat.ge_two_pow_of_testBit h) h1)
  have := v.n8
  omega
/-- A ready task can be done. -/
theorem VG.step {g : List Tk} {G : GD} (v : VG g G) {s x : Nat} (hs : s < 2 ^ g.length) (hc : closedD G.needs s = true) (hx : (G.ready s).testBit x = true) : s ||| 2 ^ x < 2 ^ g.length ∧ closedD G.needs (s ||| 2 ^ x) = true ∧ zb g.length (s ||| 2 ^ x) + 1 = zb g.length s := by
  obtain ⟨h1, h2, h3⟩ := v.mem_rd.1 hx
  have hlt : s ||| 2 ^ x < 2 ^ g.length := Nat.or_lt_two_pow hs (Nat.pow_lt_pow_right (by omega) h1)
  refine ⟨hlt, (v.closed_iff hlt).2 fun i hi j hj => ?_, ?_⟩
  · rw [or_bit, Bool.or_eq_true] at hi ⊢
    rcases hi with hi | hi
    · exact .inl ((v.closed_iff hs).1 hc i hi j hj)
    · have e : x = i := by simpa using hi
      subst e
      exact .inl ((v.sub_iff' hs).1 h3 j hj)
  · have := zb_step h2 h1; omega
end Go.Proofs.YtpibdjkajgfgjaaDoor.Core
end
