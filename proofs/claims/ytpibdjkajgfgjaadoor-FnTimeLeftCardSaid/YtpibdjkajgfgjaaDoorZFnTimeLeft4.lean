/- The law FnTimeLeft holds of the given program: the proof's own part, with its row and its card, part 4 of 7. -/
import Derived.Test.YtpibdjkajgfgjaaDoorZFnTimeLeft3
section
set_option linter.unusedVariables false
set_option linter.unusedSimpArgs false
namespace Go.Proofs.YtpibdjkajgfgjaaDoor.Core
open Go Go.RowKit Go.Proofs.YtpibdjkajgfgjaaDoor.P
end Go.Proofs.YtpibdjkajgfgjaaDoor.Core
namespace Go.Proofs.YtpibdjkajgfgjaaDoor.P
open Go Go.RowKit Go.Shelf Go.Proofs.YtpibdjkajgfgjaaDoorW.PrintWords Go.Proofs.YtpibdjkajgfgjaaDoorW.PrintMore Go.Proofs.YtpibdjkajgfgjaaDoor.Core
attribute [local go_sem] Oper.semAt_some wide_fn wide_depth
def impl_ReadyTasks.f (l0 : List S48) (l1 : List Int) : Option (List Int) := some (readyD l0 l1)
set_option maxRecDepth 100000 in
set_option maxHeartbeats 4000000 in
theorem impl_ReadyTasks.calls (A0 : Option Addr) (c0 : Nat) (l0 : List S48) (A1 : Option Addr) (c1 : Nat) (l1 : List Int) (r : List Int) (w : World) (hr0 : Kd.C k48 w A0 l0.length l0) (hc0 : l0.length ≤ c0) (hr1 : Kd.C (Kd.int .i64) w A1 l1.length l1) (hc1 : l1.length ≤ c1) (hT : Tab w) (h : impl_ReadyTasks.f l0 l1 = some r) :
    Calls Tryd.prog 28 #[.slice A0 l0.length c0, .slice A1 l1.length c1] w fun e w' => ∃ v0_ : Value, e = .returned (v0_) ∧ Kd.R (Kd.int .i64) 3 w' w.heap.size (fun _ => True) v0_ r ∧ Below w.heap.size w w' := by
  have hr : r = readyD l0 l1 := (Option.some.inj h).symm
  subst hr
  clear h
  cases hg : doneD l0 l1 with
  | none =>
    have hcd : readyD l0 l1 = [] := by unfold readyD; rw [hg]
    rw [hcd]
    have HG := Aside0.mk (doneIn_none A0 c0 l0 A1 c1 l1 w hT hr0 hc0 hr1 hc1 hg)
    clear hr0 hr1 hT hg hcd
    go_enter Tryd.func28, Tryd.ntmps28
    go_wp2_with (go_at_call 70; refine HG.out.mono ?_; rintro e w1 ⟨rfl, hB⟩)
    go_ret
    exact ⟨_, rfl, Kd.R_nil _ _ _ _ _, hB⟩
  | some GS =>
    obtain ⟨G, s⟩ := GS
    have hcd : readyD l0 l1 = elems (G.ready s) := by unfold readyD; rw [hg]
    rw [hcd]
    have HG := Aside0.mk (doneIn_some A0 c0 l0 A1 c1 l1 G s w hT hr0 hc0 hr1 hc1 hg)
    obtain ⟨ok, hsl, hs8, hrl, hr8, -⟩ := done_facts hg
    have HT := Aside0.mk hT
    clear hr0 hr1 hT hg hcd
    go_enter Tryd.func28, Tryd.ntmps28
    go_wp2_with (first | (go_at_call 70; refine HG.out.mono ?_; rintro e w1 ⟨b, rfl, hB, hgr⟩) | (go_at_call 75; refine (ready_calls b G s _ hgr ok hs8).mono ?_; rintro e w' ⟨rfl, rfl⟩) | (go_at_call 76; refine (list_calls (G.ready s) hr8 _ (HT.out.of hB)).mono ?_; rintro e w2 ⟨v, rfl, hR, hB2⟩))
    go_ret
    exact ⟨_, rfl, Kd.R_mono (Kd.R_lower hR hB.size) (fun _ _ => trivial), below_step hB hB2⟩
end Go.Proofs.YtpibdjkajgfgjaaDoor.P
end
section
set_option linter.unusedVariables false
set_option linter.unusedSimpArgs false
namespace Go.Proofs.YtpibdjkajgfgjaaDoor.Core
open Go Go.RowKit Go.Proofs.YtpibdjkajgfgjaaDoor.P
end Go.Proofs.YtpibdjkajgfgjaaDoor.Core
namespace Go.Proofs.YtpibdjkajgfgjaaDoor.P
open Go Go.RowKit Go.Shelf Go.Proofs.YtpibdjkajgfgjaaDoorW.PrintWords Go.Proofs.YtpibdjkajgfgjaaDoorW.PrintLast Go.Proofs.YtpibdjkajgfgjaaDoorW.PrintMore Go.Proofs.YtpibdjkajgfgjaaDoor.Core
attribute [local go_sem] Oper.semAt_some wide_fn wide_depth
def impl_FinishTask.f (l0 : List S48) (l1 : List Int) (a2 : Int) : Option (List Int × Bool) := some (finD l0 l1 a2)
set_option maxRecDepth 100000 in
set_option maxHeartbeats 1000000 in
theorem impl_FinishTask.calls (A0 : Option Addr) (c0 : Nat) (l0 : List S48) (A1 : Option Addr) (c1 : Nat) (l1 : List Int) (a2 : Int) (r1 : List Int) (r2 : Bool) (w : World) (hr0 : Kd.C k48 w A0 l0.length l0) (hc0 : l0.length ≤ c0) (hr1 : Kd.C (Kd.int .i64) w A1 l1.length l1) (hc1 : l1.length ≤ c1) (hT : Tab w) (h : impl_FinishTask.f l0 l1 a2 = some (r1, r2)) :
    Calls Tryd.prog 29 #[.slice A0 l0.length c0, .slice A1 l1.length c1, .int .i64 a2] w fun e w' => ∃ v0_ : Value, e = .returned (.tuple #[v0_, .bool r2]) ∧ Kd.R (Kd.int .i64) 3 w' w.heap.size (fun _ => True) v0_ r1 ∧ Below w.heap.size w w' := by
  have hr : finD l0 l1 a2 = (r1, r2) := Option.some.inj h
  clear h
  cases hg : doneD l0 l1 with
  | none =>
    obtain ⟨rfl, rfl⟩ : [] = r1 ∧ false = r2 := by unfold finD at hr; rw [hg] at hr; exact Prod.mk.inj hr
    have HG := Aside0.mk (doneIn_none A0 c0 l0 A1 c1 l1 w hT hr0 hc0 hr1 hc1 hg)
    clear hr0 hr1 hT hg hr
    go_enter Tryd.func29, Tryd.ntmps29
    go_wp2_with (go_at_call 70; refine HG.out.mono ?_; rintro e w1 ⟨rfl, hB⟩)
    refine bodyPost_ret (results_tmp2 rfl _ _ _) rfl ?_
    exact ⟨_, rfl, Kd.R_nil _ _ _ _ _, hB⟩
  | some GS =>
    obtain ⟨G, s⟩ := GS
    have HG := Aside0.mk (doneIn_some A0 c0 l0 A1 c1 l1 G s w hT hr0 hc0 hr1 hc1 hg)
    obtain ⟨ok, hsl, hs8, hrl, hr8, -⟩ := done_facts hg
    have h8 := ok.n8
    have OK := Aside0.mk ok
    have hcd : (if (0 ≤ a2 ∧ a2 ≤ (G.tasks.length : Int) - 1) ∧ (G.ready s).testBit a2.toNat = true then (elems (s ||| 2 ^ a2.toNat), true) else ([], false)) = (r1, r2) := by unfold finD at hr; rw [hg] at hr; exact hr
    have HT := Aside0.mk hT
    have HW := Aside0.mk (fun W (t : Bool) (ht : decide (0 ≤ a2 ∧ a2 ≤ (G.tasks.length : Int) - 1) = t) => within_is a2 0 ((G.tasks.length : Int) - 1) t W ht)
    have HRD := Aside0.mk (fun b W (hg : IsG W b G) => ready_calls b G s W hg OK.out hs8)
    clear hr0 hr1 hT hg hr ok
    have hw2 : wrap64 ((G.tasks.length : Int) - 1) = (G.tasks.length : Int) - 1 := w64 (by omega) (by omega)
    have hw1 : IntKind.i64.wrap ((G.tasks.length : Int) - 1) = (G.tasks.length : Int) - 1 := by rw [i64_w, w64 (by omega) (by omega)]
    by_cases hx : 0 ≤ a2 ∧ a2 ≤ (G.tasks.length : Int) - 1
    · obtain ⟨i, hi⟩ := Int.eq_ofNat_of_zero_le hx.1
      have hit : a2.toNat = i := by omega
      have hi8 : i < 8 := by omega
      have hwi := HW.out
      have HW2 := Aside0.mk (fun W => hwi W true (decide_eq_true hx))
      have HHAS := Aside0.mk (has_calls (G.ready s) i hr8 hi8)
      have HWITH := Aside0.mk (with_calls s i hs8 hi8)
      have hlt : s ||| 2 ^ i < 256 := Nat.or_lt_two_pow (n := 8) hs8 (Nat.pow_lt_pow_right (by omega) hi8)
      rw [hit] at hcd
      clear HW hwi hit
      rw [← hi] at HHAS HWITH
      generalize s ||| 2 ^ i = s2 at hcd HWITH hlt
      cases hbit : (G.ready s).testBit i with
      | true =>
        rw [hbit] at HHAS hcd
        rw [if_pos ⟨hx, rfl⟩] at hcd
        obtain ⟨rfl, rfl⟩ := Prod.mk.inj hcd
        clear hcd hbit hx hi
        go_enter Tryd.func29, Tryd.ntmps29
        go_wp2_with (first | (go_at_call 70; refine HG.out.mono ?_; rintro e w1 ⟨b, rfl, hB, hgr⟩) | (go_at_call 62; refine (size_calls b G _ hgr).mono ?_; rintro e w' ⟨rfl, rfl⟩) | (go_at_call 64; refine (HW2.out _).mono ?_; rintro e w2 ⟨rfl, hB2⟩; replace hgr := hgr.move hB2; replace hB := below_step hB hB2) | (go_at_call 75; refine (HRD.out b _ hgr).mono ?_; rintro e w' ⟨rfl, rfl⟩) | (go_at_call 65; refine (HHAS.out _).mono ?_; rintro e w' ⟨rfl, rfl⟩) | (go_at_call 66; refine (HWITH.out _).mono ?_; rintro e w' ⟨rfl, rfl⟩) | (go_at_call 76; refine (list_calls s2 hlt _ (HT.out.of hB)).mono ?_; rintro e w3 ⟨v, rfl, hR, hB3⟩))
        refine bodyPost_ret (results_tmp2 rfl _ _ _) rfl ?_
        exact ⟨_, rfl, Kd.R_mono (Kd.R_lower hR hB.size) (fun _ _ => trivial), below_step hB hB3⟩
      | false =>
        rw [hbit] at HHAS hcd
        rw [if_neg (by simp)] at hcd
        obtain ⟨rfl, rfl⟩ := Prod.mk.inj hcd
        clear hcd hbit hx hi
        go_enter Tryd.func29, Tryd.ntmps29
        go_wp2_with (first | (go_at_call 70; refine HG.out.mono ?_; rintro e w1 ⟨b, rfl, hB, hgr⟩) | (go_at_call 62; refine (size_calls b G _ hgr).mono ?_; rintro e w' ⟨rfl, rfl⟩) | (go_at_call 64; refine (HW2.out _).mono ?_; rintro e w2 ⟨rfl, hB2⟩; replace hgr := hgr.move hB2; replace hB := below_step hB hB2) | (go_at_call 75; refine (HRD.out b _ hgr).mono ?_; rintro e w' ⟨rfl, rfl⟩) | (go_at_call 65; refine (HHAS.out _).mono ?_; rintro e w' ⟨rfl, rfl⟩))
        refine bodyPost_ret (results_tmp2 rfl _ _ _) rfl ?_
        exact ⟨_, rfl, Kd.R_nil _ _ _ _ _, hB⟩
    · rw [if_neg (fun h => hx h.1)] at hcd
      obtain ⟨rfl, rfl⟩ := Prod.mk.inj hcd
      have hwi := HW.out
      have HW2 := Aside0.mk (fun W => hwi W false (decide_eq_false hx))
      clear hcd hx hwi HW
      go_enter Tryd.func29, Tryd.ntmps29
      go_wp2_with (first | (go_at_call 70; refine HG.out.mono ?_; rintro e w1 ⟨b, rfl, hB, hgr⟩) | (go_at_call 62; refine (size_calls b G _ hgr).mono ?_; rintro e w' ⟨rfl, rfl⟩) | (go_at_call 64; refine (HW2.out _).mono ?_; rintro e w2 ⟨rfl, hB2⟩; replace hB := below_step hB hB2))
      refine bodyPost_ret (results_tmp2 rfl _ _ _) rfl ?_
      exact ⟨_, rfl, Kd.R_nil _ _ _ _ _, hB⟩
end Go.Proofs.YtpibdjkajgfgjaaDoor.P
end
section
set_option linter.unusedVariables false
set_option linter.unusedSimpArgs false
namespace Go.Proofs.YtpibdjkajgfgjaaDoor.Core
open Go Go.RowKit Go.Proofs.YtpibdjkajgfgjaaDoorW.PrintWords Go.Proofs.YtpibdjkajgfgjaaDoorW.PrintMore Go.Proofs.YtpibdjkajgfgjaaDoor.P
theorem ev_DrawValidDone {l : List Int} (h : Bytes l) : EvP (fun k => spec_DrawValidDone.f k l) (fun r => GSmall 16 10 r.1 ∧ r.2.length ≤ 9) := by
  unfold spec_DrawValidDone.f
  refine (ev_newReader h).bind fun a ha => ?_
  refine (ev_anyGraph ha (by omega)).bind fun b hb => ?_
  refine (ev_someDone hb.2 (by omega) (hb.1.fits (by unfold big; omega) (by unfold big; omega)) hb.1.1).bind fun d hd => ?_
  exact EvP.ret ⟨hb.1, hd.1⟩
end Go.Proofs.YtpibdjkajgfgjaaDoor.Core
end
section
set_option linter.unusedVariables false
set_option linter.unusedSimpArgs false
namespace Go.Proofs.YtpibdjkajgfgjaaDoor.Core
open Go Go.RowKit Go.Proofs.YtpibdjkajgfgjaaDoorW.PrintWords Go.Proofs.YtpibdjkajgfgjaaDoorW.PrintMore Go.Proofs.YtpibdjkajgfgjaaDoor.P
theorem setD_elems {n s : Nat} (hn : n ≤ 8) (hs : s < 2 ^ n) : setD n (up (elemsN s)) = some s := by
  have hok : needsOk n (up (elemsN s)) := by
    refine ⟨fun x hx => ?_, asc_elems s⟩
    have := elems_lt hs hx
    omega
  obtain ⟨t, ht⟩ := setD_ok hok
  rw [ht]
  congr 1
  have h := set_list hn ht
  have e := up_inj h
  have hb := (setD_some ht).2
  refine Nat.eq_of_testBit_eq fun i => ?_
  rw [hb]
  by_cases hi : i < 8
  · cases hsb : s.testBit i with
    | true => exact decide_eq_true (mem_up.2 (mem_elemsN.2 ⟨hi, hsb⟩))
    | false => exact decide_eq_false (fun h => by have := (mem_elemsN.1 (mem_up.1 h)).2; rw [hsb] at this; cases this)
  · rw [Nat.testBit_lt_two_pow (Nat.lt_of_lt_of_le hs (Nat.pow_le_pow_right (by omega) (by omega)))]
    exact decide_eq_false (fun h => hi (mem_elemsN.1 (mem_up.1 h)).1)
theorem doneD_mk {g : List Tk} {G : GD} (hG : graphD g = some G) {s : Nat} (hs : s < 2 ^ g.length) (hc : closedD G.needs s = true) : doneD g (up (elemsN s)) = some (G, s) := by
  have v := vg_of hG
  unfold doneD
  rw [hG]
  simp only []
  rw [setD_elems v.n8 hs]
  simp only []
  rw [if_pos hc]
theorem elemsN_range' {s n : Nat} (hn : n ≤ 8) (hs : s < 2 ^ n) : elemsN s = (List.range n).filter (fun i => s.testBit i) := by
  have e8 : List.range 8 = List.range n ++ (List.range (8 - n)).map (n + ·) := by rw [← List.range_add]; congr 1; omega
  unfold elemsN
  rw [e8, List.filter_append]
  have e2 : ((List.range (8 - n)).map (n + ·)).filter (fun i => s.testBit i) = [] := by
    rw [List.filter_eq_nil_iff]
    intro y hy hb
    obtain ⟨z, _, rfl⟩ := List.mem_map.1 hy
    rw [Nat.testBit_lt_two_pow (Nat.lt_of_lt_of_le hs (Nat.pow_le_pow_right (by omega) (by omega)))] at hb
    cases hb
  rw [e2, List.append_nil]
theorem filter_split (p : Nat → Bool) : ∀ l : List Nat, (l.filter p).length + (l.filter (fun i => !p i)).length = l.length
  | [] => rfl
  | x :: l => by
    have := filter_split p l
    cases h : p x with
    | true =>
      rw [List.filter_cons_of_pos h, List.filter_cons_of_neg (by simp [h])]
      simp only [List.length_cons]
      omega
    | false =>
      rw [List.filter_cons_of_neg (by simp [h]), List.filter_cons_of_pos (by simp [h])]
      simp only [List.length_cons]
      omega
theorem elems_zb {s n : Nat} (hn : n ≤ 8) (hs : s < 2 ^ n) : (elemsN s).length + zb n s = n := by
  rw [elemsN_range' hn hs, zb_count, filter_split, List.length_range]
theorem full_zb {n p : Nat} (hp : p < 2 ^ n) : zb n p = 0 ↔ p = 2 ^ n - 1 := by
  constructor
  · intro h
    exact full_of_bits hp (zb_zero_full (n := 0) h)
  · intro h
    rw [h]; exact zb_full _ _ (Nat.le_refl _)
theorem readyD_some {g : List Tk} {l : List Int} {G : GD} {s : Nat} (h : doneD g l = some (G, s)) : readyD g l = up (elemsN (G.ready s)) := by
  unfold readyD; rw [h]; rfl
end Go.Proofs.YtpibdjkajgfgjaaDoor.Core
end
section
set_option linter.unusedVariables false
set_option linter.unusedSimpArgs false
namespace Go.Proofs.YtpibdjkajgfgjaaDoor.Core
open Go Go.RowKit Go.Proofs.YtpibdjkajgfgjaaDoorW.PrintWords Go.Proofs.YtpibdjkajgfgjaaDoorW.PrintMore Go.Proofs.YtpibdjkajgfgjaaDoor.P
theorem finD_yes {g : List Tk} {l : List Int} {G : GD} {s x : Nat} (h : doneD g l = some (G, s)) (hx : (G.ready s).testBit x = true) : finD g l (x : Int) = (up (elemsN (s ||| 2 ^ x)), true) ∧ doneD g (up (elemsN (s ||| 2 ^ x))) = some (G, s ||| 2 ^ x) := by
  obtain ⟨v, hG, hs, _, _, hc⟩ := done_list h
  obtain ⟨h1, h2, h3⟩ := v.mem_rd.1 hx
  obtain ⟨e1, e2, e3⟩ := v.step hs hc hx
  refine ⟨?_, doneD_mk hG e1 e2⟩
  unfold finD
  rw [h]
  simp only []
  rw [if_pos ⟨⟨by omega, by rw [v.tasks]; omega⟩, by rw [Int.toNat_natCast]; exact hx⟩, Int.toNat_natCast]
  rfl
end Go.Proofs.YtpibdjkajgfgjaaDoor.Core
end
section
set_option linter.unusedVariables false
set_option linter.unusedSimpArgs false
namespace Go.Proofs.YtpibdjkajgfgjaaDoor.Core
open Go Go.RowKit Go.Proofs.YtpibdjkajgfgjaaDoorW.PrintWords Go.Proofs.YtpibdjkajgfgjaaDoorW.PrintMore Go.Proofs.YtpibdjkajgfgjaaDoor.P
theorem VG.more {g : List Tk} {G : GD} (v : VG g G) {s : Nat} (hs : s < 2 ^ g.length) (hne : (elemsN s).length ≠ g.length) : 0 < (elemsN (G.ready s)).length := by
  obtain ⟨x, hx, b1, b2⟩ := v.next hs (fun e => hne (by have := elems_zb v.n8 hs; have := (full_zb hs).2 e; omega))
  exact List.length_pos_of_mem (v.mem_ready.2 ⟨hx, b1, b2⟩)
end Go.Proofs.YtpibdjkajgfgjaaDoor.Core
end
section
set_option linter.unusedVariables false
set_option linter.unusedSimpArgs false
namespace Go.Proofs.YtpibdjkajgfgjaaDoor.Core
open Go Go.RowKit Go.Proofs.YtpibdjkajgfgjaaDoor.P
/-- The greatest one of what a list of numbers tells, and of m. -/
def mxL (T : List Nat) (L : List Nat) (m : Nat) : Nat := L.foldl (fun m i => max m (T.getD i 0)) m
theorem mxL_snoc (T L : List Nat) (i : Nat) (m : Nat) : mxL T (L ++ [i]) m = max (mxL T L m) (T.getD i 0) := by unfold mxL; rw [List.foldl_append]; rfl
def leftD (g : List Tk) (done : List Int) : Int := match doneD g done with
  | none => -1
  | some (G, s) => ((mxL (tailsN G) (elemsN (G.ready s)) 0 : Nat) : Int)
end Go.Proofs.YtpibdjkajgfgjaaDoor.Core
namespace Go.Proofs.YtpibdjkajgfgjaaDoor.P
open Go Go.RowKit Go.Shelf Go.Proofs.YtpibdjkajgfgjaaDoorW.PrintWords Go.Proofs.YtpibdjkajgfgjaaDoorW.PrintLast Go.Proofs.YtpibdjkajgfgjaaDoorW.PrintMore Go.Proofs.YtpibdjkajgfgjaaDoor.Core
attribute [local go_sem] Oper.semAt_some wide_fn wide_depth max2_int max_two
def impl_TimeLeft.f (l0 : List S48) (l1 : List Int) : Option Int := some (leftD l0 l1)
set_option maxRecDepth 100000 in
set_option maxHeartbeats 2000000 in
theorem impl_TimeLeft.calls (A0 : Option Addr) (c0 : Nat) (l0 : List S48) (A1 : Option Addr) (c1 : Nat) (l1 : List Int) (r : Int) (w : World) (hr0 : Kd.C k48 w A0 l0.length l0) (hc0 : l0.length ≤ c0) (hr1 : Kd.C (Kd.int .i64) w A1 l1.length l1) (hc1 : l1.length ≤ c1) (hT : Tab w) (h : impl_TimeLeft.f l0 l1 = some r) :
    Calls Tryd.prog 37 #[.slice A0 l0.length c0, .slice A1 l1.length c1] w fun e w' => e = .returned (.int .i64 r) ∧ Below w.heap.size w w' := by
  have hr : r = leftD l0 l1 := (Option.some.inj h).symm
  subst hr
  clear h
  cases hg : doneD l0 l1 with
  | none =>
    have hcd : leftD l0 l1 = -1 := by unfold leftD; rw [hg]
    rw [hcd]
    have HG := Aside0.mk (doneIn_none A0 c0 l0 A1 c1 l1 w hT hr0 hc0 hr1 hc1 hg)
    clear hr0 hr1 hT hg hcd
    go_enter Tryd.func37, Tryd.ntmps37
    go_wp2_with (go_at_call 70; refine HG.out.mono ?_; rintro e w1 ⟨rfl, hB⟩)
    go_ret
    exact ⟨rfl, hB⟩
  | some GS =>
    obtain ⟨G, s⟩ := GS
    have hcd : leftD l0 l1 = ((mxL (tailsN G) (elemsN (G.ready s)) 0 : Nat) : Int) := by unfold leftD; rw [hg]
    rw [hcd]
    have HG := Aside0.mk (doneIn_some A0 c0 l0 A1 c1 l1 G s w hT hr0 hc0 hr1 hc1 hg)
    obtain ⟨ok, hsl, hs8, hrl, hr8, hgt⟩ := done_facts hg
    have htk : ∀ t ∈ G.tasks, taskOk t := by rw [hgt]; exact graphD_taskOk (doneD_spec hg).1
    have HTL := Aside0.mk (fun W b hT hg => (tails_row b G W hT hg ok htk).mono (R' := fun e w' => ∃ (ad : Addr) (p : Nat), e = .returned (.slice (some ad) G.tasks.length G.tasks.length) ∧ Aside0 (ad = ⟨p, 0, none⟩ ∧ W.heap.size ≤ p) ∧ Aside0 (w'.heap[p]? = some (.cells (icells (tailsN G)) 3 (0, 0))) ∧ Below W.heap.size W w') (fun e w' ⟨p, h1, h2, h3, h4⟩ => ⟨⟨p, 0, none⟩, p, h1, ⟨rfl, h2⟩, ⟨h3⟩, h4⟩))
    have HRD := Aside0.mk (fun b W (hg : IsG W b G) => ready_calls b G s W hg ok hs8)
    have hle := tailsN_le ok (tm20_of htk)
    have htl := tailsN_length G
    have HT := Aside0.mk hT
    clear hr0 hr1 hT hg hcd hgt ok htk hsl hs8
    generalize tailsN G = T at HTL hle htl ⊢
    generalize G.ready s = rs at HRD hrl hr8 ⊢
    refine calls_marks Tryd.func37 rfl ?_
    simp only [Tryd.ntmps37, List.size_toArray, List.length_cons, List.length_nil, Nat.reduceAdd, Nat.reduceSub, Array.replicate_succ, Array.replicate_zero, List.push_toArray, List.append_toArray, List.nil_append, List.cons_append]
    rw [← htl] at HTL hrl
    clear htl
    go_wp2_with (first | (go_at_call 70; refine HG.out.mono ?_; rintro e w1 ⟨b, rfl, hB, hgr⟩) | (go_at_call 78; refine (HTL.out _ b (HT.out.of hB) hgr).mono ?_; rintro e w2 ⟨ad, p, rfl, HP, HROW, hB2⟩; have HB2 := Aside0.mk (below_step hB hB2); have HB1 := Aside0.mk hB; have HGR := Aside0.mk ((hgr.move hB2).move (((Below.refl w2.heap.size w2).alloc (Nat.le_refl _) (.cells #[.slice (some ad) T.length T.length] 23)).alloc (by simp) (.cells #[.int .i64 0] 3))); clear hB hB2 hgr) | (go_at_call 75; refine (HRD.out b _ HGR.out).mono ?_; rintro e w' ⟨rfl, rfl⟩) | (go_at_call 79; refine (all_calls rs _).mono ?_; rintro e w' ⟨rfl, rfl⟩))
    have o1 : (w2.alloc (.cells #[.slice (some ad) T.length T.length] 23)).heap.size = w2.heap.size + 1 := by simp
    have o2 : ((w2.alloc (.cells #[.slice (some ad) T.length T.length] 23)).alloc (.cells #[.int .i64 0] 3)).heap.size = w2.heap.size + 1 + 1 := by simp
    have a1 := (Boxed.new w2 23 (.slice (some ad) T.length T.length)).alloc (.cells #[.int .i64 0] 3)
    have u1 := Boxed.new (w2.alloc (.cells #[.slice (some ad) T.length T.length] 23)) 3 (.int .i64 0)
    rw [o1] at u1
    have B1 := (HB2.out.alloc HB2.out.size (.cells #[.slice (some ad) T.length T.length] 23)).alloc (by rw [o1]; have := HB2.out.size; omega) (.cells #[.int .i64 0] 3)
    have r1 := cells_alloc (cells_alloc HROW.out (.cells #[.slice (some ad) T.length T.length] 23)) (.cells #[.int .i64 0] 3)
    revert o2 a1 u1 B1 r1
    clear HGR o1
    generalize ((w2.alloc (.cells #[.slice (some ad) T.length T.length] 23)).alloc (.cells #[.int .i64 0] 3)) = w4
    intro o2 a1 u1 B1 r1
    have s5 := Boxed.new w4 67 (.int .u16 (rs : Int))
    rw [o2] at s5
    have o5 : (w4.alloc (.cells #[.int .u16 (rs : Int)] 67)).heap.size = w2.heap.size + 1 + 1 + 1 := by simp [o2]
    have a5 := a1.alloc (.cells #[.int .u16 (rs : Int)] 67)
    have u5 := u1.alloc (.cells #[.int .u16 (rs : Int)] 67)
    have r5 := cells_alloc r1 (.cells #[.int .u16 (rs : Int)] 67)
    have B5 := B1.alloc B1.size (.cells #[.int .u16 (rs : Int)] 67)
    revert s5 o5 a5 u5 r5 B5
    clear o2 a1 u1 B1 r1
    generalize w4.alloc (.cells #[.int .u16 (rs : Int)] 67) = w5
    intro s5 o5 a5 u5 r5 B5
    have hle5 : w.heap.size ≤ w5.heap.size := B5.size
    have hw2 : w.heap.size ≤ w2.heap.size := HB2.out.size
    have hp2 := cells_lt HROW.out
    have HRES := Aside0.mk (show mxL T (elemsN rs) 0 = mxL T (elemsN rs) 0 from rfl)
    refine wp_rangeSet Tab.tame (w := w5) (w0 := w5) (p := 26) (d := 10) rfl (enters_of Tryd.func111 (by kernel_rfl) rfl)
      (all_seq (w2.heap.size + 1 + 1) rs hr8 w5 (HT.out.of B5) s5.cell) (Below.refl _ _) (by simp)
      (fun ys W' => ∃ zs : List Nat, ys = up zs ∧ Boxed W' (w2.heap.size + 1) 3 (.int .i64 ((mxL T zs 0 : Nat) : Int)) ∧ Boxed W' w2.heap.size 23 (.slice (some ad) T.length T.length) ∧ W'.heap[p]? = some (.cells (icells T) 3 (0, 0)) ∧ Below w.heap.size w W' ∧ w5.heap.size ≤ W'.heap.size) (fun _ _ _ => False)
      (ownFrom_tame (fun ys W' W'' ht ⟨zs, z, c1, c2, c3, c4, c5⟩ => ⟨zs, z, ht.boxed c1, ht.boxed c2, ht.cells c3, ht.below c4 (Nat.le_refl _) hle5, Nat.le_trans c5 ht.size⟩)) (fun _ => ownFrom_tame (fun _ _ _ _ h => h))
      ⟨[], rfl, u5, a5, r5, B5, Nat.le_refl _⟩ (fun ys W' ⟨_, _, _, _, _, h, _⟩ => HT.out.of h) ?body ?done (fun _ _ _ _ _ h _ => h.elim)
    case body =>
      rintro l pre1 x W1 hx ⟨zs, rfl, hu, ha, hrw, hB, hsz⟩ hlt1
      gi_wp2
      obtain ⟨k0, hxk, hk8, _⟩ := mem_elems.1 hx
      have hkn : k0 < T.length := by have := elems_lt hrl hx; omega
      refine wpIn_still_tail 6 rfl (by kernel_rfl) (by kernel_rfl) (fun ⟨_, _, h⟩ => h) ?_
      change wpStill _ _ W1.drew (fun a' => wpList _ _ _ _ a' W1.drew) _ _
      have hdr : Below W1.heap.size W1 W1.drew := below_drew (Below.refl _ _)
      have hko := KeepsOthers.drew W1
      revert hdr hko
      generalize W1.drew = Wd
      intro hdr hko
      have hu4 : Boxed Wd (w2.heap.size + 1) 3 (.int .i64 ((mxL T zs 0 : Nat) : Int)) := (hdr.block _ hu.lt).trans hu
      have ha4 : Boxed Wd w2.heap.size 23 (.slice (some ad) T.length T.length) := (hdr.block _ ha.lt).trans ha
      have hr4 : Wd.heap[p]? = some (.cells (icells T) 3 (0, 0)) := (hdr.block _ (cells_lt hrw)).trans hrw
      have hBd := below_step hB hdr
      have hLk := icell hr4 k0 hkn
      have hmx := wmax (mxL T zs 0) (T.getD k0 0)
      have hstep := mxL_snoc T zs k0 0
      rw [← hstep] at hmx
      have hkt : x.toNat = k0 := by omega
      rw [← add_own, ← HP.out.1, ← hkt] at hLk
      rw [hkt] at hLk
      rw [show ad.add k0 = ad.add x.toNat by rw [hkt]] at hLk
      have p2 : (0 ≤ x) = True := eq_true (by omega)
      have q2 : (x < (T.length : Int)) = True := eq_true (by omega)
      generalize hsK : ((T.getD k0 0 : Nat) : Int) = sK at hLk hmx
      generalize hsZ : ((mxL T zs 0 : Nat) : Int) = sZ at hu4 hmx
      have hcu := hu4.cell
      have hfu := hu4.frozen
      have hca := ha4.cell
      have HX := Aside0.mk hxk
      have HMX := Aside0.mk hmx
      have HKT := Aside0.mk hkt
      clear hxk hx hlt1 hmx hstep hkt hsK hsZ hkn
      simp only [List.take_succ_cons, List.take_zero, List.drop_succ_cons, List.drop_zero]
      repeat still_step
      rw [HMX.out]
      refine wpStill_nil ?_
      go_wp2
      have hgr := grownBy_setCell' Wd (w2.heap.size + 1) (.int .i64 ((mxL T (zs ++ [k0]) 0 : Nat) : Int))
      have hne : p ≠ w2.heap.size + 1 := by omega
      refine ⟨(hko.trans (KeepsOthers.setCell _ _ _)).from _, zs ++ [k0], ?_, ?_, ?_, ?_, ?_, ?_⟩
      · rw [HX.out]; simp [Core.up]
      · exact hu4.set _
      · exact ha4.kept hgr (fun e => by injection e with e; omega)
      · exact (hgr.block _ (cells_lt hr4) (fun e => by injection e with e; exact hne e)).trans hr4
      · exact below_put hgr hBd (Nat.le_refl _) (by omega)
      · have h1 := hgr.size; have h3 := hdr.size; omega
    case done =>
      rintro D W2 hD ⟨zs, hzs, hu, ha, hrw, hB, hsz⟩ hk
      obtain rfl : elemsN rs = zs := up_inj hzs
      have hm := (Marks.nil w.heap.size w5.heap.size W2).cons hD hle5 hk
      have hcu := hu.cell
      clear hzs hk
      go_wp2
      refine leave_ret hm (fun W => results_tmp rfl _ _ _) ?_
      intro W' ht
      exact ⟨rfl, ht.below hB (Nat.le_refl _) (Nat.le_refl _)⟩
end Go.Proofs.YtpibdjkajgfgjaaDoor.P
end
section
set_option linter.unusedVariables false
set_option linter.unusedSimpArgs false
namespace Go.Proofs.YtpibdjkajgfgjaaDoor.Core
open Go Go.RowKit Go.Proofs.YtpibdjkajgfgjaaDoorW.PrintWords Go.Proofs.YtpibdjkajgfgjaaDoorW.PrintMore Go.Proofs.YtpibdjkajgfgjaaDoor.P
theorem ev_timeLeft {g : List Tk} (hg : Fits g) {G : GD} (hG : graphD g = some G) {s : Nat} (hs : s < 2 ^ g.length) : Ev (fun k => spec_timeLeft.f k g (up (elemsN s))) ((mxL (tailsN G) (elemsN (G.ready s)) 0 : Nat) : Int) := by
  have v := vg_of hG
  have h8 := v.n8
  have hT := tails_ok v
  have hl : (up (tailsN G)).length = g.length := by rw [up_length, hT.1]
  have hrl := ready_lt G s
  rw [v.nl] at hrl
  unfold spec_timeLeft.f
  refine Ev.bind (ev_tails hg hG) (Ev.bind (ev_ready hg v hs) ?_)
  have hel := elemsN_length (G.ready s)
  have key : ∀ (r pre : List Nat), elemsN (G.ready s) = pre ++ r → Ev (fun k => spec_timeLeft.l0 k ((mxL (tailsN G) pre 0 : Nat) : Int) (up (tailsN G)) (up (elemsN (G.ready s))) (pre.length : Int)) ((mxL (tailsN G) (elemsN (G.ready s)) 0 : Nat) : Int) := by
    intro r
    induction r with
    | nil =>
      intro pre hp
      rw [List.append_nil] at hp
      refine Ev.succ ?_
      simp only [spec_timeLeft.l0]
      refine Ev.neg (by rw [up_length, hp]; omega) ((Ev.const _).conv ?_)
      rw [hp]
    | cons i r ih =>
      intro pre hp
      have hlen : (elemsN (G.ready s)).length = pre.length + (r.length + 1) := by rw [hp]; simp
      have hi : i < g.length := elemsN_lt hrl (by rw [hp]; simp)
      have hrd : rd (up (elemsN (G.ready s))) (pre.length : Int) = (i : Int) := by rw [rd_up (i := pre.length) rfl, hp]; simp
      have hrt : rd (up (tailsN G)) (i : Int) = (((tailsN G).getD i 0 : Nat) : Int) := rd_up rfl
      have hw : wrap64 ((pre.length : Int) + 1) = ((pre ++ [i]).length : Int) := by rw [w64s (by unfold big; omega)]; simp
      have h := ih (pre ++ [i]) (by rw [hp]; simp)
      rw [mxL_snoc] at h
      refine Ev.succ ?_
      simp only [spec_timeLeft.l0, hrd, hrt, hw, mx_nat]
      exact Ev.pos (by rw [up_length]; omega) (Ev.pos (by omega) (Ev.pos (by omega) (Ev.pos (by omega) h)))
  exact key (elemsN (G.ready s)) [] rfl
theorem ev_TimeLeft {g : List Tk} (hg : Fits g) {l : List Int} (hl : l.length < big) : Ev (fun k => spec_TimeLeft.f k g l) (leftD g l) := by
  unfold spec_TimeLeft.f leftD
  refine Ev.bind (ev_validDone hg hl) ?_
  cases h : doneD g l with
  | none => exact Ev.neg (by simp) (Ev.const _)
  | some GS =>
    obtain ⟨G, s⟩ := GS
    obtain ⟨v, hG, hs, rfl, _, _⟩ := done_list h
    exact Ev.pos (by first | rfl | trivial) (Ev.bind (ev_timeLeft hg hG hs) (Ev.const _))
end Go.Proofs.YtpibdjkajgfgjaaDoor.Core
end
section
set_option linter.unusedVariables false
set_option linter.unusedSimpArgs false
namespace Go.Proofs.YtpibdjkajgfgjaaDoor.Core
open Go Go.RowKit Go.Proofs.YtpibdjkajgfgjaaDoorW.PrintWords Go.Proofs.YtpibdjkajgfgjaaDoorW.PrintMore Go.Proofs.YtpibdjkajgfgjaaDoor.P
theorem ev_DrawTimeLeft {l : List Int} (h : Bytes l) : EvP (fun k => spec_DrawTimeLeft.f k l) (fun r => GSmall 16 10 r.1 ∧ r.2.length ≤ 9) := by
  unfold spec_DrawTimeLeft.f
  exact (ev_DrawValidDone h).bind fun a ha => EvP.ret ha
end Go.Proofs.YtpibdjkajgfgjaaDoor.Core
end
