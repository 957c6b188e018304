/- The law FnProgressOfMore holds of the given program: the proof's own part, with its row and its card, part 4 of 5. -/
import Derived.Test.YtpibdjkajgfgjaaDoorZFnProgressOfMore3
section
set_option linter.unusedVariables false
set_option linter.unusedSimpArgs false
namespace Go.Proofs.YtpibdjkajgfgjaaDoor.Core
open Go Go.RowKit Go.Proofs.YtpibdjkajgfgjaaDoor.P
end Go.Proofs.YtpibdjkajgfgjaaDoor.Core
namespace Go.Proofs.YtpibdjkajgfgjaaDoor.P
open Go Go.RowKit Go.Shelf Go.Proofs.YtpibdjkajgfgjaaDoorW.PrintWords Go.Proofs.YtpibdjkajgfgjaaDoorW.PrintMore Go.Proofs.YtpibdjkajgfgjaaDoor.Core
attribute [local go_sem] Oper.semAt_some wide_fn wide_depth
def impl_ReadyTasks.f (l0 : List S48) (l1 : List Int) : Option (List Int) := some (readyD l0 l1)
set_option maxRecDepth 100000 in
set_option maxHeartbeats 4000000 in
theorem impl_ReadyTasks.calls (A0 : Option Addr) (c0 : Nat) (l0 : List S48) (A1 : Option Addr) (c1 : Nat) (l1 : List Int) (r : List Int) (w : World) (hr0 : Kd.C k48 w A0 l0.length l0) (hc0 : l0.length ≤ c0) (hr1 : Kd.C (Kd.int .i64) w A1 l1.length l1) (hc1 : l1.length ≤ c1) (hT : Tab w) (h : impl_ReadyTasks.f l0 l1 = some r) :
    Calls Tryd.prog 28 #[.slice A0 l0.length c0, .slice A1 l1.length c1] w fun e w' => ∃ v0_ : Value, e = .returned (v0_) ∧ Kd.R (Kd.int .i64) 3 w' w.heap.size (fun _ => True) v0_ r ∧ Below w.heap.size w w' := by
  have hr : r = readyD l0 l1 := (Option.some.inj h).symm
  subst hr
  clear h
  cases hg : doneD l0 l1 with
  | none =>
    have hcd : readyD l0 l1 = [] := by unfold readyD; rw [hg]
    rw [hcd]
    have HG := Aside0.mk (doneIn_none A0 c0 l0 A1 c1 l1 w hT hr0 hc0 hr1 hc1 hg)
    clear hr0 hr1 hT hg hcd
    go_enter Tryd.func28, Tryd.ntmps28
    go_wp2_with (go_at_call 70; refine HG.out.mono ?_; rintro e w1 ⟨rfl, hB⟩)
    go_ret
    exact ⟨_, rfl, Kd.R_nil _ _ _ _ _, hB⟩
  | some GS =>
    obtain ⟨G, s⟩ := GS
    have hcd : readyD l0 l1 = elems (G.ready s) := by unfold readyD; rw [hg]
    rw [hcd]
    have HG := Aside0.mk (doneIn_some A0 c0 l0 A1 c1 l1 G s w hT hr0 hc0 hr1 hc1 hg)
    obtain ⟨ok, hsl, hs8, hrl, hr8, -⟩ := done_facts hg
    have HT := Aside0.mk hT
    clear hr0 hr1 hT hg hcd
    go_enter Tryd.func28, Tryd.ntmps28
    go_wp2_with (first | (go_at_call 70; refine HG.out.mono ?_; rintro e w1 ⟨b, rfl, hB, hgr⟩) | (go_at_call 75; refine (ready_calls b G s _ hgr ok hs8).mono ?_; rintro e w' ⟨rfl, rfl⟩) | (go_at_call 76; refine (list_calls (G.ready s) hr8 _ (HT.out.of hB)).mono ?_; rintro e w2 ⟨v, rfl, hR, hB2⟩))
    go_ret
    exact ⟨_, rfl, Kd.R_mono (Kd.R_lower hR hB.size) (fun _ _ => trivial), below_step hB hB2⟩
end Go.Proofs.YtpibdjkajgfgjaaDoor.P
end
section
set_option linter.unusedVariables false
set_option linter.unusedSimpArgs false
namespace Go.Proofs.YtpibdjkajgfgjaaDoor.Core
open Go Go.RowKit Go.Proofs.YtpibdjkajgfgjaaDoor.P
end Go.Proofs.YtpibdjkajgfgjaaDoor.Core
namespace Go.Proofs.YtpibdjkajgfgjaaDoor.P
open Go Go.RowKit Go.Shelf Go.Proofs.YtpibdjkajgfgjaaDoorW.PrintWords Go.Proofs.YtpibdjkajgfgjaaDoorW.PrintLast Go.Proofs.YtpibdjkajgfgjaaDoorW.PrintMore Go.Proofs.YtpibdjkajgfgjaaDoor.Core
attribute [local go_sem] Oper.semAt_some wide_fn wide_depth
def impl_FinishTask.f (l0 : List S48) (l1 : List Int) (a2 : Int) : Option (List Int × Bool) := some (finD l0 l1 a2)
set_option maxRecDepth 100000 in
set_option maxHeartbeats 1000000 in
theorem impl_FinishTask.calls (A0 : Option Addr) (c0 : Nat) (l0 : List S48) (A1 : Option Addr) (c1 : Nat) (l1 : List Int) (a2 : Int) (r1 : List Int) (r2 : Bool) (w : World) (hr0 : Kd.C k48 w A0 l0.length l0) (hc0 : l0.length ≤ c0) (hr1 : Kd.C (Kd.int .i64) w A1 l1.length l1) (hc1 : l1.length ≤ c1) (hT : Tab w) (h : impl_FinishTask.f l0 l1 a2 = some (r1, r2)) :
    Calls Tryd.prog 29 #[.slice A0 l0.length c0, .slice A1 l1.length c1, .int .i64 a2] w fun e w' => ∃ v0_ : Value, e = .returned (.tuple #[v0_, .bool r2]) ∧ Kd.R (Kd.int .i64) 3 w' w.heap.size (fun _ => True) v0_ r1 ∧ Below w.heap.size w w' := by
  have hr : finD l0 l1 a2 = (r1, r2) := Option.some.inj h
  clear h
  cases hg : doneD l0 l1 with
  | none =>
    obtain ⟨rfl, rfl⟩ : [] = r1 ∧ false = r2 := by unfold finD at hr; rw [hg] at hr; exact Prod.mk.inj hr
    have HG := Aside0.mk (doneIn_none A0 c0 l0 A1 c1 l1 w hT hr0 hc0 hr1 hc1 hg)
    clear hr0 hr1 hT hg hr
    go_enter Tryd.func29, Tryd.ntmps29
    go_wp2_with (go_at_call 70; refine HG.out.mono ?_; rintro e w1 ⟨rfl, hB⟩)
    refine bodyPost_ret (results_tmp2 rfl _ _ _) rfl ?_
    exact ⟨_, rfl, Kd.R_nil _ _ _ _ _, hB⟩
  | some GS =>
    obtain ⟨G, s⟩ := GS
    have HG := Aside0.mk (doneIn_some A0 c0 l0 A1 c1 l1 G s w hT hr0 hc0 hr1 hc1 hg)
    obtain ⟨ok, hsl, hs8, hrl, hr8, -⟩ := done_facts hg
    have h8 := ok.n8
    have OK := Aside0.mk ok
    have hcd : (if (0 ≤ a2 ∧ a2 ≤ (G.tasks.length : Int) - 1) ∧ (G.ready s).testBit a2.toNat = true then (elems (s ||| 2 ^ a2.toNat), true) else ([], false)) = (r1, r2) := by unfold finD at hr; rw [hg] at hr; exact hr
    have HT := Aside0.mk hT
    have HW := Aside0.mk (fun W (t : Bool) (ht : decide (0 ≤ a2 ∧ a2 ≤ (G.tasks.length : Int) - 1) = t) => within_is a2 0 ((G.tasks.length : Int) - 1) t W ht)
    have HRD := Aside0.mk (fun b W (hg : IsG W b G) => ready_calls b G s W hg OK.out hs8)
    clear hr0 hr1 hT hg hr ok
    have hw2 : wrap64 ((G.tasks.length : Int) - 1) = (G.tasks.length : Int) - 1 := w64 (by omega) (by omega)
    have hw1 : IntKind.i64.wrap ((G.tasks.length : Int) - 1) = (G.tasks.length : Int) - 1 := by rw [i64_w, w64 (by omega) (by omega)]
    by_cases hx : 0 ≤ a2 ∧ a2 ≤ (G.tasks.length : Int) - 1
    · obtain ⟨i, hi⟩ := Int.eq_ofNat_of_zero_le hx.1
      have hit : a2.toNat = i := by omega
      have hi8 : i < 8 := by omega
      have hwi := HW.out
      have HW2 := Aside0.mk (fun W => hwi W true (decide_eq_true hx))
      have HHAS := Aside0.mk (has_calls (G.ready s) i hr8 hi8)
      have HWITH := Aside0.mk (with_calls s i hs8 hi8)
      have hlt : s ||| 2 ^ i < 256 := Nat.or_lt_two_pow (n := 8) hs8 (Nat.pow_lt_pow_right (by omega) hi8)
      rw [hit] at hcd
      clear HW hwi hit
      rw [← hi] at HHAS HWITH
      generalize s ||| 2 ^ i = s2 at hcd HWITH hlt
      cases hbit : (G.ready s).testBit i with
      | true =>
        rw [hbit] at HHAS hcd
        rw [if_pos ⟨hx, rfl⟩] at hcd
        obtain ⟨rfl, rfl⟩ := Prod.mk.inj hcd
        clear hcd hbit hx hi
        go_enter Tryd.func29, Tryd.ntmps29
        go_wp2_with (first | (go_at_call 70; refine HG.out.mono ?_; rintro e w1 ⟨b, rfl, hB, hgr⟩) | (go_at_call 62; refine (size_calls b G _ hgr).mono ?_; rintro e w' ⟨rfl, rfl⟩) | (go_at_call 64; refine (HW2.out _).mono ?_; rintro e w2 ⟨rfl, hB2⟩; replace hgr := hgr.move hB2; replace hB := below_step hB hB2) | (go_at_call 75; refine (HRD.out b _ hgr).mono ?_; rintro e w' ⟨rfl, rfl⟩) | (go_at_call 65; refine (HHAS.out _).mono ?_; rintro e w' ⟨rfl, rfl⟩) | (go_at_call 66; refine (HWITH.out _).mono ?_; rintro e w' ⟨rfl, rfl⟩) | (go_at_call 76; refine (list_calls s2 hlt _ (HT.out.of hB)).mono ?_; rintro e w3 ⟨v, rfl, hR, hB3⟩))
        refine bodyPost_ret (results_tmp2 rfl _ _ _) rfl ?_
        exact ⟨_, rfl, Kd.R_mono (Kd.R_lower hR hB.size) (fun _ _ => trivial), below_step hB hB3⟩
      | false =>
        rw [hbit] at HHAS hcd
        rw [if_neg (by simp)] at hcd
        obtain ⟨rfl, rfl⟩ := Prod.mk.inj hcd
        clear hcd hbit hx hi
        go_enter Tryd.func29, Tryd.ntmps29
        go_wp2_with (first | (go_at_call 70; refine HG.out.mono ?_; rintro e w1 ⟨b, rfl, hB, hgr⟩) | (go_at_call 62; refine (size_calls b G _ hgr).mono ?_; rintro e w' ⟨rfl, rfl⟩) | (go_at_call 64; refine (HW2.out _).mono ?_; rintro e w2 ⟨rfl, hB2⟩; replace hgr := hgr.move hB2; replace hB := below_step hB hB2) | (go_at_call 75; refine (HRD.out b _ hgr).mono ?_; rintro e w' ⟨rfl, rfl⟩) | (go_at_call 65; refine (HHAS.out _).mono ?_; rintro e w' ⟨rfl, rfl⟩))
        refine bodyPost_ret (results_tmp2 rfl _ _ _) rfl ?_
        exact ⟨_, rfl, Kd.R_nil _ _ _ _ _, hB⟩
    · rw [if_neg (fun h => hx h.1)] at hcd
      obtain ⟨rfl, rfl⟩ := Prod.mk.inj hcd
      have hwi := HW.out
      have HW2 := Aside0.mk (fun W => hwi W false (decide_eq_false hx))
      clear hcd hx hwi HW
      go_enter Tryd.func29, Tryd.ntmps29
      go_wp2_with (first | (go_at_call 70; refine HG.out.mono ?_; rintro e w1 ⟨b, rfl, hB, hgr⟩) | (go_at_call 62; refine (size_calls b G _ hgr).mono ?_; rintro e w' ⟨rfl, rfl⟩) | (go_at_call 64; refine (HW2.out _).mono ?_; rintro e w2 ⟨rfl, hB2⟩; replace hB := below_step hB hB2))
      refine bodyPost_ret (results_tmp2 rfl _ _ _) rfl ?_
      exact ⟨_, rfl, Kd.R_nil _ _ _ _ _, hB⟩
end Go.Proofs.YtpibdjkajgfgjaaDoor.P
end
section
set_option linter.unusedVariables false
set_option linter.unusedSimpArgs false
namespace Go.Proofs.YtpibdjkajgfgjaaDoor.Core
open Go Go.RowKit Go.Proofs.YtpibdjkajgfgjaaDoorW.PrintWords Go.Proofs.YtpibdjkajgfgjaaDoorW.PrintMore Go.Proofs.YtpibdjkajgfgjaaDoor.P
theorem ev_DrawValidDone {l : List Int} (h : Bytes l) : EvP (fun k => spec_DrawValidDone.f k l) (fun r => GSmall 16 10 r.1 ∧ r.2.length ≤ 9) := by
  unfold spec_DrawValidDone.f
  refine (ev_newReader h).bind fun a ha => ?_
  refine (ev_anyGraph ha (by omega)).bind fun b hb => ?_
  refine (ev_someDone hb.2 (by omega) (hb.1.fits (by unfold big; omega) (by unfold big; omega)) hb.1.1).bind fun d hd => ?_
  exact EvP.ret ⟨hb.1, hd.1⟩
end Go.Proofs.YtpibdjkajgfgjaaDoor.Core
end
section
set_option linter.unusedVariables false
set_option linter.unusedSimpArgs false
namespace Go.Proofs.YtpibdjkajgfgjaaDoor.Core
open Go Go.RowKit Go.Proofs.YtpibdjkajgfgjaaDoorW.PrintWords Go.Proofs.YtpibdjkajgfgjaaDoorW.PrintMore Go.Proofs.YtpibdjkajgfgjaaDoor.P
theorem setD_elems {n s : Nat} (hn : n ≤ 8) (hs : s < 2 ^ n) : setD n (up (elemsN s)) = some s := by
  have hok : needsOk n (up (elemsN s)) := by
    refine ⟨fun x hx => ?_, asc_elems s⟩
    have := elems_lt hs hx
    omega
  obtain ⟨t, ht⟩ := setD_ok hok
  rw [ht]
  congr 1
  have h := set_list hn ht
  have e := up_inj h
  have hb := (setD_some ht).2
  refine Nat.eq_of_testBit_eq fun i => ?_
  rw [hb]
  by_cases hi : i < 8
  · cases hsb : s.testBit i with
    | true => exact decide_eq_true (mem_up.2 (mem_elemsN.2 ⟨hi, hsb⟩))
    | false => exact decide_eq_false (fun h => by have := (mem_elemsN.1 (mem_up.1 h)).2; rw [hsb] at this; cases this)
  · rw [Nat.testBit_lt_two_pow (Nat.lt_of_lt_of_le hs (Nat.pow_le_pow_right (by omega) (by omega)))]
    exact decide_eq_false (fun h => hi (mem_elemsN.1 (mem_up.1 h)).1)
theorem doneD_mk {g : List Tk} {G : GD} (hG : graphD g = some G) {s : Nat} (hs : s < 2 ^ g.length) (hc : closedD G.needs s = true) : doneD g (up (elemsN s)) = some (G, s) := by
  have v := vg_of hG
  unfold doneD
  rw [hG]
  simp only []
  rw [setD_elems v.n8 hs]
  simp only []
  rw [if_pos hc]
theorem readyD_some {g : List Tk} {l : List Int} {G : GD} {s : Nat} (h : doneD g l = some (G, s)) : readyD g l = up (elemsN (G.ready s)) := by
  unfold readyD; rw [h]; rfl
end Go.Proofs.YtpibdjkajgfgjaaDoor.Core
end
section
set_option linter.unusedVariables false
set_option linter.unusedSimpArgs false
namespace Go.Proofs.YtpibdjkajgfgjaaDoor.Core
open Go Go.RowKit Go.Proofs.YtpibdjkajgfgjaaDoorW.PrintWords Go.Proofs.YtpibdjkajgfgjaaDoorW.PrintMore Go.Proofs.YtpibdjkajgfgjaaDoor.P
theorem finD_yes {g : List Tk} {l : List Int} {G : GD} {s x : Nat} (h : doneD g l = some (G, s)) (hx : (G.ready s).testBit x = true) : finD g l (x : Int) = (up (elemsN (s ||| 2 ^ x)), true) ∧ doneD g (up (elemsN (s ||| 2 ^ x))) = some (G, s ||| 2 ^ x) := by
  obtain ⟨v, hG, hs, _, _, hc⟩ := done_list h
  obtain ⟨h1, h2, h3⟩ := v.mem_rd.1 hx
  obtain ⟨e1, e2, e3⟩ := v.step hs hc hx
  refine ⟨?_, doneD_mk hG e1 e2⟩
  unfold finD
  rw [h]
  simp only []
  rw [if_pos ⟨⟨by omega, by rw [v.tasks]; omega⟩, by rw [Int.toNat_natCast]; exact hx⟩, Int.toNat_natCast]
  rfl
end Go.Proofs.YtpibdjkajgfgjaaDoor.Core
end
section
set_option linter.unusedVariables false
set_option linter.unusedSimpArgs false
namespace Go.Proofs.YtpibdjkajgfgjaaDoor.Core
open Go Go.RowKit Go.Proofs.YtpibdjkajgfgjaaDoor.P
def progD (g : List Tk) (done : List Int) : Int := match doneD g done with
  | none => -1
  | some (G, s) => if G.tasks.length = 0 then 1000 else ((1000 * totalN G.tasks s / totalN G.tasks (2 ^ G.tasks.length - 1) : Nat) : Int)
end Go.Proofs.YtpibdjkajgfgjaaDoor.Core
namespace Go.Proofs.YtpibdjkajgfgjaaDoor.P
open Go Go.RowKit Go.Shelf Go.Proofs.YtpibdjkajgfgjaaDoorW.PrintWords Go.Proofs.YtpibdjkajgfgjaaDoorW.PrintLast Go.Proofs.YtpibdjkajgfgjaaDoorW.PrintMore Go.Proofs.YtpibdjkajgfgjaaDoor.Core
attribute [local go_sem] Oper.semAt_some wide_fn wide_depth
def impl_ProgressOf.f (l0 : List S48) (l1 : List Int) : Option Int := some (progD l0 l1)
set_option maxRecDepth 100000 in
set_option maxHeartbeats 1000000 in
theorem impl_ProgressOf.calls (A0 : Option Addr) (c0 : Nat) (l0 : List S48) (A1 : Option Addr) (c1 : Nat) (l1 : List Int) (r : Int) (w : World) (hr0 : Kd.C k48 w A0 l0.length l0) (hc0 : l0.length ≤ c0) (hr1 : Kd.C (Kd.int .i64) w A1 l1.length l1) (hc1 : l1.length ≤ c1) (hT : Tab w) (h : impl_ProgressOf.f l0 l1 = some r) :
    Calls Tryd.prog 26 #[.slice A0 l0.length c0, .slice A1 l1.length c1] w fun e w' => e = .returned (.int .i64 r) ∧ Below w.heap.size w w' := by
  have hr : r = progD l0 l1 := (Option.some.inj h).symm
  subst hr
  clear h
  cases hg : doneD l0 l1 with
  | none =>
    have hcd : progD l0 l1 = -1 := by unfold progD; rw [hg]
    rw [hcd]
    have HG := Aside0.mk (doneIn_none A0 c0 l0 A1 c1 l1 w hT hr0 hc0 hr1 hc1 hg)
    clear hr0 hr1 hT hg hcd
    go_enter Tryd.func26, Tryd.ntmps26
    go_wp2_with (go_at_call 70; refine HG.out.mono ?_; rintro e w1 ⟨rfl, hB⟩)
    go_ret
    exact ⟨rfl, hB⟩
  | some GS =>
    obtain ⟨G, s⟩ := GS
    have hcd : progD l0 l1 = if G.tasks.length = 0 then 1000 else ((1000 * totalN G.tasks s / totalN G.tasks (2 ^ G.tasks.length - 1) : Nat) : Int) := by unfold progD; rw [hg]
    have HG := Aside0.mk (doneIn_some A0 c0 l0 A1 c1 l1 G s w hT hr0 hc0 hr1 hc1 hg)
    obtain ⟨ok, hsl, hs8, -, -, hgt⟩ := done_facts hg
    have h8 := ok.n8
    have htk : ∀ t ∈ G.tasks, taskOk t := by rw [hgt]; exact graphD_taskOk (doneD_spec hg).1
    have HTOT := Aside0.mk (fun (W : World) (b s : Nat) (hT : Tab W) (hgr : IsG W b G) (hs : s < 2 ^ G.tasks.length) => total_calls b G s W hT hgr h8 htk hs)
    have HT := Aside0.mk hT
    have hEV := everything_calls G.tasks.length h8
    have hfl : 2 ^ G.tasks.length - 1 < 2 ^ G.tasks.length := by have := Nat.two_pow_pos G.tasks.length; omega
    clear hr0 hr1 hT hg hgt ok
    by_cases hn : G.tasks.length = 0
    · rw [hcd, if_pos hn]
      have hn2 : ((G.tasks.length : Int) == 0) = true := by simp [hn]
      clear hcd hn HTOT hEV hfl hsl h8 htk
      go_enter Tryd.func26, Tryd.ntmps26
      go_wp2_with (first | (go_at_call 70; refine HG.out.mono ?_; rintro e w1 ⟨b, rfl, hB, hgr⟩) | (go_at_call 62; refine (size_calls b G _ hgr).mono ?_; rintro e w' ⟨rfl, rfl⟩))
      go_ret
      exact ⟨rfl, hB⟩
    · rw [hcd, if_neg hn]
      have hn2 : ((G.tasks.length : Int) == 0) = false := beq_eq_false_iff_ne.2 (by omega)
      have hd : 1 ≤ totalN G.tasks (2 ^ G.tasks.length - 1) := by
        have hm : 0 ∈ elemsN (2 ^ G.tasks.length - 1) := mem_elemsN.2 ⟨by omega, by rw [Nat.testBit_two_pow_sub_one]; simp; omega⟩
        have h1 := (tm_int htk (i := 0) (by omega)).2.1
        have : ∀ L : List Nat, 0 ∈ L → 1 ≤ totL G.tasks L := by
          intro L
          induction L with
          | nil => intro h; cases h
          | cons a L ih =>
            intro h
            simp only [totL, List.map_cons, List.sum_cons] at *
            rcases List.mem_cons.1 h with rfl | h
            · omega
            · have := ih h; omega
        exact this _ hm
      have hb1 : totalN G.tasks s ≤ 160 := Nat.le_trans (totL_le (tm20_of htk) _) (by have := elemsN_length s; omega)
      have HF := Aside0.mk hfl
      have HSL := Aside0.mk hsl
      generalize 2 ^ G.tasks.length - 1 = full at hd hEV hfl HF ⊢
      have htd : Int.tdiv (wrap64 (1000 * ((totalN G.tasks s : Nat) : Int))) ((totalN G.tasks full : Nat) : Int) = ((1000 * totalN G.tasks s / totalN G.tasks full : Nat) : Int) := by
        rw [w64 (by omega) (by omega), Int.tdiv_eq_ediv_of_nonneg (by omega)]
        simp
      have hTS := fun W b hT hg => HTOT.out W b s hT hg hsl
      have hTF := fun W b hT hg => HTOT.out W b full hT hg hfl
      obtain ⟨ts, hts⟩ : ∃ x : Int, x = ((totalN G.tasks s : Nat) : Int) := ⟨_, rfl⟩
      obtain ⟨tf, htf⟩ : ∃ x : Int, x = ((totalN G.tasks full : Nat) : Int) := ⟨_, rfl⟩
      obtain ⟨q, hq⟩ : ∃ x : Int, x = ((1000 * totalN G.tasks s / totalN G.tasks full : Nat) : Int) := ⟨_, rfl⟩
      obtain ⟨fi, hfi⟩ : ∃ x : Int, x = ((full : Nat) : Int) := ⟨_, rfl⟩
      have htf1 : 1 ≤ tf := by omega
      have hq64 : wrap64 q = q := by
        have h1 : 1000 * totalN G.tasks s / totalN G.tasks full ≤ 1000 * totalN G.tasks s := Nat.div_le_self _ _
        rw [hq]
        generalize 1000 * totalN G.tasks s / totalN G.tasks full = z at h1 ⊢
        exact w64 (by omega) (by omega)
      have HQ := Aside0.mk hq64
      clear hq64
      obtain ⟨si, hsi⟩ : ∃ x : Int, x = ((s : Nat) : Int) := ⟨_, rfl⟩
      rw [← hsi] at hTS HG
      rw [← hts, ← htf, ← hq] at htd
      rw [← hts] at hTS
      rw [← htf, ← hfi] at hTF
      rw [← hfi] at hEV
      rw [← hq]
      have HTS := Aside0.mk hTS
      have HTF := Aside0.mk hTF
      have HEV := Aside0.mk hEV
      have hz : (tf == 0) = false := beq_eq_false_iff_ne.2 (by omega)
      have hz2 : (tf = 0) = False := eq_false (by omega)
      clear hcd hn hTS hTF hEV hfl hsl h8 htk HTOT hts htf hq hfi htf1 hd hb1 hsi HF HSL
      go_enter Tryd.func26, Tryd.ntmps26
      go_wp2_with (first | (go_at_call 70; refine HG.out.mono ?_; rintro e w1 ⟨b, rfl, hB, hgr⟩) | (go_at_call 62; refine (size_calls b G _ hgr).mono ?_; rintro e w' ⟨rfl, rfl⟩) | (go_at_call 71; refine (HTS.out _ b (HT.out.of hB) hgr).mono ?_; rintro e w2 ⟨rfl, hB2⟩; replace hgr := hgr.move hB2; replace hB := below_step hB hB2; clear HTS) | (go_at_call 72; refine (HEV.out _).mono ?_; rintro e w' ⟨rfl, rfl⟩) | (go_at_call 71; refine (HTF.out _ b (HT.out.of hB) hgr).mono ?_; rintro e w3 ⟨rfl, hB3⟩; replace hB := below_step hB hB3))
      go_ret
      exact ⟨by rw [HQ.out]; rfl, hB⟩
end Go.Proofs.YtpibdjkajgfgjaaDoor.P
end
section
namespace Go.Proofs.YtpibdjkajgfgjaaDoor.P
open Go.Proofs.YtpibdjkajgfgjaaDoor.Core (Tab Tab.of)
open Go.RowKit Go.Proofs.YtpibdjkajgfgjaaDoorW.PrintWords Go.Proofs.YtpibdjkajgfgjaaDoorW.PrintLast Go.Proofs.YtpibdjkajgfgjaaDoorW.PrintMore
attribute [local go_sem] max2_int min2_int max_two min_two max_three min_three max_four min_four   -- for this text's walks alone
set_option linter.unusedVariables false
set_option linter.unusedSimpArgs false
mutual
noncomputable def laws_FnProgressOfMore.j0 : Nat → List (S48) → List Int → Int → Bool → Option (Bool)
  | 0, _, _, _, _ => none
  | k + 1, x3, x4, x5, x29 => if x29 = true then ((spec_ProgressOf.f k x3 x4).bind fun t476 => (some (x5 == t476))) else ((impl_ReadyTasks.f x3 x4).bind fun t477 => (laws_FnProgressOfMore.l0 k x3 x4 x5 t477 0))
noncomputable def laws_FnProgressOfMore.l0 : Nat → List (S48) → List Int → Int → List Int → Int → Option (Bool)
  | 0, _, _, _, _, _ => none
  | k + 1, x3, x4, x5, x6, x7 => if x7 < (x6.length : Int) then (if 0 ≤ x7 then ((impl_FinishTask.f x3 x4 (rd x6 x7)).bind fun bt481 => (if bt481.2 = true then ((impl_ProgressOf.f x3 bt481.1).bind fun t485 => (if t485 ≤ x5 then (some false) else (laws_FnProgressOfMore.l0 k x3 x4 x5 x6 (wrap64 (x7 + 1))))) else (some false))) else (none)) else (some true)
end
noncomputable def laws_FnProgressOfMore.f (k : Nat) (l0 : List Int) : Option (Bool) := if (l0.length : Int) > 1048576 then (some true) else ((spec_DrawProgressOf.f k l0).bind fun bt468 => ((impl_ProgressOf.f bt468.1 bt468.2).bind fun t474 => ((spec_ProgressOf.f k bt468.1 bt468.2).bind fun t475 => (if t474 = t475 then (laws_FnProgressOfMore.j0 k bt468.1 bt468.2 t474 (decide (t474 < 0))) else (laws_FnProgressOfMore.j0 k bt468.1 bt468.2 t474 true)))))
theorem laws_FnProgressOfMore.mono_l : ∀ k, (∀ y0 y1 y2 y3, LeO (laws_FnProgressOfMore.j0 k y0 y1 y2 y3) (laws_FnProgressOfMore.j0 (k + 1) y0 y1 y2 y3)) ∧ (∀ y0 y1 y2 y3 y4, LeO (laws_FnProgressOfMore.l0 k y0 y1 y2 y3 y4) (laws_FnProgressOfMore.l0 (k + 1) y0 y1 y2 y3 y4))
  | 0 => ⟨fun _ _ _ _ r h => by simp [laws_FnProgressOfMore.j0] at h, fun _ _ _ _ _ r h => by simp [laws_FnProgressOfMore.l0] at h⟩
  | k + 1 => by
    obtain ⟨ih0, ih1⟩ := laws_FnProgressOfMore.mono_l k
    refine ⟨?_, ?_⟩
    · intro y0 y1 y2 y3
      unfold laws_FnProgressOfMore.j0
      repeat' first
      | (with_reducible exact ih0 _ _ _ _)
      | (with_reducible exact ih1 _ _ _ _ _)
      | (with_reducible exact spec_DrawProgressOf.mono _ _)
      | (with_reducible exact spec_ProgressOf.mono _ _ _)
      | (with_reducible exact LeO.refl _)
      | (with_reducible exact LeO.none _)
      | (with_reducible refine LeO.ite ?_ ?_)
      | (with_reducible refine LeO.bind ?_ (fun _ => ?_))
      | exact ih0 _ _ _ _
      | exact ih1 _ _ _ _ _
      | exact spec_DrawProgressOf.mono _ _
      | exact spec_ProgressOf.mono _ _ _
      | exact LeO.none _
      | refine LeO.ite ?_ ?_
      | refine LeO.bind ?_ (fun _ => ?_)
    · intro y0 y1 y2 y3 y4
      unfold laws_FnProgressOfMore.l0
      repeat' first
      | (with_reducible exact ih0 _ _ _ _)
      | (with_reducible exact ih1 _ _ _ _ _)
      | (with_reducible exact spec_DrawProgressOf.mono _ _)
      | (with_reducible exact spec_ProgressOf.mono _ _ _)
      | (with_reducible exact LeO.refl _)
      | (with_reducible exact LeO.none _)
      | (with_reducible refine LeO.ite ?_ ?_)
      | (with_reducible refine LeO.bind ?_ (fun _ => ?_))
      | exact ih0 _ _ _ _
      | exact ih1 _ _ _ _ _
      | exact spec_DrawProgressOf.mono _ _
      | exact spec_ProgressOf.mono _ _ _
      | exact LeO.none _
      | refine LeO.ite ?_ ?_
      | refine LeO.bind ?_ (fun _ => ?_)
theorem laws_FnProgressOfMore.mono : ∀ a0 k, LeO (laws_FnProgressOfMore.f k a0) (laws_FnProgressOfMore.f (k + 1) a0) := by
  intro a0 k
  obtain ⟨ih0, ih1⟩ := laws_FnProgressOfMore.mono_l k
  unfold laws_FnProgressOfMore.f
  repeat' first
      | (with_reducible exact ih0 _ _ _ _)
      | (with_reducible exact ih1 _ _ _ _ _)
      | (with_reducible exact spec_DrawProgressOf.mono _ _)
      | (with_reducible exact spec_ProgressOf.mono _ _ _)
      | (with_reducible exact LeO.refl _)
      | (with_reducible exact LeO.none _)
      | (with_reducible refine LeO.ite ?_ ?_)
      | (with_reducible refine LeO.bind ?_ (fun _ => ?_))
      | exact ih0 _ _ _ _
      | exact ih1 _ _ _ _ _
      | exact spec_DrawProgressOf.mono _ _
      | exact spec_ProgressOf.mono _ _ _
      | exact LeO.none _
      | refine LeO.ite ?_ ?_
      | refine LeO.bind ?_ (fun _ => ?_)
set_option maxHeartbeats 8000000 in
set_option maxRecDepth 100000 in
theorem laws_FnProgressOfMore.calls (k : Nat) (A0 : Option Addr) (c0 : Nat) (l0 : List Int) (r : Bool) (w : World) (hr0 : Kd.C (Kd.int .u8) w A0 l0.length l0) (hc0 : l0.length ≤ c0) (hT : Tab w) (h : laws_FnProgressOfMore.f k l0 = some r) :
    Calls Tryd.prog 4 #[.slice A0 l0.length c0] w fun e w' => e = .returned (.bool r) ∧ Below w.heap.size w w' := by
  have HT := Aside0.mk hT
  clear hT
  have HR0 := Aside0.mk hr0
  have HC0 := Aside0.mk hc0
  clear hr0 hc0
  have HB := Aside0.mk (Below.refl w.heap.size w)
  have H : (if (l0.length : Int) > 1048576 then (some true) else ((spec_DrawProgressOf.f k l0).bind fun bt468 => ((impl_ProgressOf.f bt468.1 bt468.2).bind fun t474 => ((spec_ProgressOf.f k bt468.1 bt468.2).bind fun t475 => (if t474 = t475 then (laws_FnProgressOfMore.j0 k bt468.1 bt468.2 t474 (decide (t474 < 0))) else (laws_FnProgressOfMore.j0 k bt468.1 bt468.2 t474 true)))))) = some r := h
  clear h
  by_cases c2 : (l0.length : Int) > 1048576
  · rw [if_pos c2] at H
    have c2b0 : decide (1048576 < (l0.length : Int)) = true := decide_eq_true c2
    have c2b1 : decide (1048576 < l0.length) = true := decide_eq_true (by omega)
    clear c2
    obtain rfl := Option.some.inj H
    go_enter Tryd.func4, Tryd.ntmps4
    go_wp2
    go_ret
    exact ⟨by first | rfl | (simp [errW_none, errW_some] <;> rfl) | (simp [*, errW_none, errW_some] <;> rfl), by repeat (first | (with_reducible first | exact HB.out | apply below_alloc | apply pw_below_drewN | apply below_drew1) | exact HB.out)⟩
  · rw [if_neg c2] at H
    have c2b0 : decide (1048576 < (l0.length : Int)) = false := decide_eq_false c2
    have c2b1 : decide (1048576 < l0.length) = false := decide_eq_false (by omega)
    clear c2
    replace H := Option.bind_eq_some_iff.mp H
    obtain ⟨⟨t468, t469⟩, A30, H⟩ := H
    replace H : ((impl_ProgressOf.f t468 t469).bind fun t474 => ((spec_ProgressOf.f k t468 t469).bind fun t475 => (if t474 = t475 then (laws_FnProgressOfMore.j0 k t468 t469 t474 (decide (t474 < 0))) else (laws_FnProgressOfMore.j0 k t468 t469 t474 true)))) = some r := H
    have A3 := Aside0.mk A30
    clear A30
    replace H := Option.bind_eq_some_iff.mp H
    obtain ⟨t474, A40, H⟩ := H
    replace H : ((spec_ProgressOf.f k t468 t469).bind fun t475 => (if t474 = t475 then (laws_FnProgressOfMore.j0 k t468 t469 t474 (decide (t474 < 0))) else (laws_FnProgressOfMore.j0 k t468 t469 t474 true))) = some r := H
    have A4 := Aside0.mk A40
    clear A40
    have HC5 := Aside0.mk H
    clear H
    go_enter Tryd.func4, Tryd.ntmps4
    go_upto_region 5 with (first | ((with_reducible refine gate_callee (f := 25) rfl ?_); refine goesL_ (some 15) rfl rfl Tryd.func25 (by kernel_rfl) rfl #[.slice A0 l0.length c0] rfl (by (try simp only [List.map_toArray, List.map_cons, List.map_nil]); first | done | rfl | (simp only [List.length_drop, List.length_take]; rfl)) ?_; (with_reducible refine (spec_DrawProgressOf.calls k _ _ l0 t468 t469 _ ?side1 ?side2 A3.out).mono ?_); (case side1 => repeat (first | exact HR0.out | (with_reducible refine Kd.C_alloc ?_ _) | (with_reducible refine Kd.C_drewN ?_ _) | (with_reducible refine Kd.C_drew ?_))); (case side2 => exact HC0.out); rintro e w6 ⟨v470, v472, rfl, ho0, ho1, hb⟩; refine ⟨_, rfl, ?_⟩; have n0_ := Aside0.mk (Kd.S_lower ho0 (below_size (by repeat (first | (with_reducible first | exact HB.out | apply below_alloc | apply pw_below_drewN | apply below_drew1) | exact HB.out)))); have n1_ := Aside0.mk (Kd.Q_lower ho1 (below_size (by repeat (first | (with_reducible first | exact HB.out | apply below_alloc | apply pw_below_drewN | apply below_drew1) | exact HB.out)))); have n2_ := Aside0.mk (below_step (by repeat (first | (with_reducible first | exact HB.out | apply below_alloc | apply pw_below_drewN | apply below_drew1) | exact HB.out)) hb); clear HB; have HO471 := n0_; have HO473 := n1_; have HB := n2_; clear n0_ n1_ n2_; (try clear hb); (try clear hb2); (try clear hk); (try clear hi); (try clear ho0); (try clear ho1); obtain ⟨Ao7, co7, eo7⟩ := Kd.S_slice HO471.out; subst eo7; obtain ⟨Ao8, co8, eo8, _⟩ := Kd.Q_slice HO473.out; subst eo8) | ((with_reducible refine gate_callee (f := 26) rfl ?_); refine goesL_ (some 20) rfl rfl Tryd.func26 (by kernel_rfl) rfl #[.slice Ao7 t468.length co7, .slice Ao8 t469.length co8] rfl (by (try simp only [List.map_toArray, List.map_cons, List.map_nil]); first | done | rfl | (simp only [List.length_drop, List.length_take]; rfl)) ?_; (with_reducible refine (impl_ProgressOf.calls _ _ t468 _ _ t469 t474 _ ?side1 ?side2 ?side3 ?side4 ?side5 A4.out).mono ?_); (case side1 => repeat (first | exact (Kd.S_reads' HO471.out).2.2 | (with_reducible refine Kd.C_alloc ?_ _) | (with_reducible refine Kd.C_drewN ?_ _) | (with_reducible refine Kd.C_drew ?_))); (case side2 => exact (Kd.S_reads' HO471.out).2.1); (case side3 => repeat (first | exact (Kd.Q_reads' HO473.out).2.2 | (with_reducible refine Kd.C_alloc ?_ _) | (with_reducible refine Kd.C_drewN ?_ _) | (with_reducible refine Kd.C_drew ?_))); (case side4 => exact (Kd.Q_reads' HO473.out).2.1); (case side5 => exact Tab.of HT.out (by repeat (first | (with_reducible first | exact HB.out | apply below_alloc | apply pw_below_drewN | apply below_drew1) | exact HB.out))); rintro e w9 ⟨rfl, hb⟩; refine ⟨_, rfl, ?_⟩; have n0_ := Aside0.mk (Kd.S_below (by (with_reducible repeat (first | apply Kd.S_alloc | apply Kd.S_drewN | apply Kd.S_drew)); exact HO471.out) hb); have n1_ := Aside0.mk (Kd.Q_below (by (with_reducible repeat (first | apply Kd.Q_alloc | apply Kd.Q_drewN | apply Kd.Q_drew)); exact HO473.out) hb); have n2_ := Aside0.mk (below_step (by repeat (first | (with_reducible first | exact HB.out | apply below_alloc | apply pw_below_drewN | apply below_drew1) | exact HB.out)) hb); clear HO471; clear HO473; clear HB; have HO471 := n0_; have HO473 := n1_; have HB := n2_; clear n0_ n1_ n2_; (try clear hb); (try clear hb2); (try clear hk); (try clear hi)))
    (try simp only [Act.put, List.setIfInBounds_toArray, List.set_cons_zero, List.set_cons_succ])
    go_cut [29] (fun v29 wc => ∃ (kq : Nat) (x29_4 : Bool), v29 = .bool x29_4 ∧ Aside0 (laws_FnProgressOfMore.j0 kq t468 t469 t474 x29_4 = some r) ∧ Aside0 (kq ≤ k) ∧ Aside0 (Kd.S k48 48 wc w.heap.size (fun k_ => some k_ ≠ ((.slice Ao8 t469.length co8) : Value).ownBlock) (.slice Ao7 t468.length co7) t468) ∧ Aside0 (Kd.Q (Kd.int .i64) 3 wc w.heap.size (fun _ => True) (.slice Ao8 t469.length co8) t469) ∧ Aside0 (Below w.heap.size w wc))
    case first =>
      have H := HC5.out
      clear HC5
      replace H := Option.bind_eq_some_iff.mp H
      obtain ⟨t475, A100, H⟩ := H
      replace H : (if t474 = t475 then (laws_FnProgressOfMore.j0 k t468 t469 t474 (decide (t474 < 0))) else (laws_FnProgressOfMore.j0 k t468 t469 t474 true)) = some r := H
      have A10 := Aside0.mk A100
      clear A100
      by_cases c11 : t474 = t475
      · rw [if_pos c11] at H
        have c11b0 : (t474 == t475) = true := beq_iff_eq.mpr c11
        have c11b1 : (t474 != t475) = false := bne_eq_false_iff_eq.mpr c11
        clear c11
        (first | rw [c11b0] | (simp only [i64_w, i32_w]; rw [c11b0]) | skip)
        have H' := Aside0.mk H
        clear H
        go_wp2_with (first | ((with_reducible refine gate_callee (f := 27) rfl ?_); refine goesL_ (some 24) rfl rfl Tryd.func27 (by kernel_rfl) rfl #[.slice Ao7 t468.length co7, .slice Ao8 t469.length co8] rfl (by (try simp only [List.map_toArray, List.map_cons, List.map_nil]); first | done | rfl | (simp only [List.length_drop, List.length_take]; rfl)) ?_; (with_reducible refine (spec_ProgressOf.calls k _ _ t468 _ _ t469 t475 _ ?side1 ?side2 ?side3 ?side4 A10.out).mono ?_); (case side1 => repeat (first | exact (Kd.S_reads' HO471.out).2.2 | (with_reducible refine Kd.C_alloc ?_ _) | (with_reducible refine Kd.C_drewN ?_ _) | (with_reducible refine Kd.C_drew ?_))); (case side2 => exact (Kd.S_reads' HO471.out).2.1); (case side3 => repeat (first | exact (Kd.Q_reads' HO473.out).2.2 | (with_reducible refine Kd.C_alloc ?_ _) | (with_reducible refine Kd.C_drewN ?_ _) | (with_reducible refine Kd.C_drew ?_))); (case side4 => exact (Kd.Q_reads' HO473.out).2.1); rintro e w12 ⟨rfl, hb⟩; refine ⟨_, rfl, ?_⟩; have n0_ := Aside0.mk (Kd.S_below (by (with_reducible repeat (first | apply Kd.S_alloc | apply Kd.S_drewN | apply Kd.S_drew)); exact HO471.out) hb); have n1_ := Aside0.mk (Kd.Q_below (by (with_reducible repeat (first | apply Kd.Q_alloc | apply Kd.Q_drewN | apply Kd.Q_drew)); exact HO473.out) hb); have n2_ := Aside0.mk (below_step (by repeat (first | (with_reducible first | exact HB.out | apply below_alloc | apply pw_below_drewN | apply below_drew1) | exact HB.out)) hb); clear HO471; clear HO473; clear HB; have HO471 := n0_; have HO473 := n1_; have HB := n2_; clear n0_ n1_ n2_; (try clear hb); (try clear hb2); (try clear hk); (try clear hi)))
        go_meet
        case rel => exact ⟨_, (decide (t474 < 0)), (by first | rfl | (simp; done) | (simp [*]; done)), H', ⟨by first | omega | exact Nat.le_refl _⟩, ⟨by (with_reducible repeat (first | apply Kd.S_alloc | apply Kd.S_drewN | apply Kd.S_drew)); exact HO471.out⟩, ⟨by (with_reducible repeat (first | apply Kd.Q_alloc | apply Kd.Q_drewN | apply Kd.Q_drew)); exact HO473.out⟩, ⟨by repeat (first | (with_reducible first | exact HB.out | apply below_alloc | apply pw_below_drewN | apply below_drew1) | exact HB.out)⟩⟩
      · rw [if_neg c11] at H
        have c11b0 : (t474 == t475) = false := beq_eq_false_iff_ne.mpr c11
        have c11b1 : (t474 != t475) = true := bne_iff_ne.mpr c11
        (first | rw [c11b0] | (simp only [i64_w, i32_w]; rw [c11b0]) | skip)
        have H' := Aside0.mk H
        clear H
        go_wp2_with (first | ((with_reducible refine gate_callee (f := 27) rfl ?_); refine goesL_ (some 24) rfl rfl Tryd.func27 (by kernel_rfl) rfl #[.slice Ao7 t468.length co7, .slice Ao8 t469.length co8] rfl (by (try simp only [List.map_toArray, List.map_cons, List.map_nil]); first | done | rfl | (simp only [List.length_drop, List.length_take]; rfl)) ?_; (with_reducible refine (spec_ProgressOf.calls k _ _ t468 _ _ t469 t475 _ ?side1 ?side2 ?side3 ?side4 A10.out).mono ?_); (case side1 => repeat (first | exact (Kd.S_reads' HO471.out).2.2 | (with_reducible refine Kd.C_alloc ?_ _) | (with_reducible refine Kd.C_drewN ?_ _) | (with_reducible refine Kd.C_drew ?_))); (case side2 => exact (Kd.S_reads' HO471.out).2.1); (case side3 => repeat (first | exact (Kd.Q_reads' HO473.out).2.2 | (with_reducible refine Kd.C_alloc ?_ _) | (with_reducible refine Kd.C_drewN ?_ _) | (with_reducible refine Kd.C_drew ?_))); (case side4 => exact (Kd.Q_reads' HO473.out).2.1); rintro e w13 ⟨rfl, hb⟩; refine ⟨_, rfl, ?_⟩; have n0_ := Aside0.mk (Kd.S_below (by (with_reducible repeat (first | apply Kd.S_alloc | apply Kd.S_drewN | apply Kd.S_drew)); exact HO471.out) hb); have n1_ := Aside0.mk (Kd.Q_below (by (with_reducible repeat (first | apply Kd.Q_alloc | apply Kd.Q_drewN | apply Kd.Q_drew)); exact HO473.out) hb); have n2_ := Aside0.mk (below_step (by repeat (first | (with_reducible first | exact HB.out | apply below_alloc | apply pw_below_drewN | apply below_drew1) | exact HB.out)) hb); clear HO471; clear HO473; clear HB; have HO471 := n0_; have HO473 := n1_; have HB := n2_; clear n0_ n1_ n2_; (try clear hb); (try clear hb2); (try clear hk); (try clear hi)))
        go_meet
        case rel => exact ⟨_, (true), (by first | rfl | (simp; done) | (simp [*]; done)), H', ⟨by first | omega | exact Nat.le_refl _⟩, ⟨by (with_reducible repeat (first | apply Kd.S_alloc | apply Kd.S_drewN | apply Kd.S_drew)); exact HO471.out⟩, ⟨by (with_reducible repeat (first | apply Kd.Q_alloc | apply Kd.Q_drewN | apply Kd.Q_drew)); exact HO473.out⟩, ⟨by repeat (first | (with_reducible first | exact HB.out | apply below_alloc | apply pw_below_drewN | apply below_drew1) | exact HB.out)⟩⟩
    case rest =>
      clear HC5
      try clear c1
      try clear c2
      try clear c2b0
      try clear c2b1
      try clear p2
      try clear c4
      try clear c11
      try clear c11b0
      try clear c11b1
      obtain ⟨kq, x29_4, rfl, HA, HJ4, HO_3, HO_4, HB⟩ := hcut
      cases kq with
      | zero => exact absurd HA.out (by simp [laws_FnProgressOfMore.j0])
      | succ kj4 =>
        have H := HA.out
        clear HA
        simp only [laws_FnProgressOfMore.j0] at H
        by_cases c14 : x29_4 = true
        · subst c14
          have H1 : ((spec_ProgressOf.f kj4 t468 t469).bind fun t476 => (some (t474 == t476))) = some r := by rw [if_pos rfl] at H; exact H
          clear H
          have H := H1
          clear H1
          replace H := Option.bind_eq_some_iff.mp H
          obtain ⟨t476, A150, H⟩ := H
          replace H : (some (t474 == t476)) = some r := H
          have A15 := Aside0.mk A150
          clear A150
          obtain rfl := Option.some.inj H
          go_wp2_with (first | ((with_reducible refine gate_callee (f := 27) rfl ?_); refine goesL_ (some 33) rfl rfl Tryd.func27 (by kernel_rfl) rfl #[.slice Ao7 t468.length co7, .slice Ao8 t469.length co8] rfl (by (try simp only [List.map_toArray, List.map_cons, List.map_nil]); first | done | rfl | (simp only [List.length_drop, List.length_take]; rfl)) ?_; (with_reducible refine (spec_ProgressOf.calls kj4 _ _ t468 _ _ t469 t476 _ ?side1 ?side2 ?side3 ?side4 A15.out).mono ?_); (case side1 => repeat (first | exact (Kd.S_reads' HO_3.out).2.2 | (with_reducible refine Kd.C_alloc ?_ _) | (with_reducible refine Kd.C_drewN ?_ _) | (with_reducible refine Kd.C_drew ?_))); (case side2 => exact (Kd.S_reads' HO_3.out).2.1); (case side3 => repeat (first | exact (Kd.Q_reads' HO_4.out).2.2 | (with_reducible refine Kd.C_alloc ?_ _) | (with_reducible refine Kd.C_drewN ?_ _) | (with_reducible refine Kd.C_drew ?_))); (case side4 => exact (Kd.Q_reads' HO_4.out).2.1); rintro e w16 ⟨rfl, hb⟩; refine ⟨_, rfl, ?_⟩; have n0_ := Aside0.mk (Kd.S_below (by (with_reducible repeat (first | apply Kd.S_alloc | apply Kd.S_drewN | apply Kd.S_drew)); exact HO_3.out) hb); have n1_ := Aside0.mk (Kd.Q_below (by (with_reducible repeat (first | apply Kd.Q_alloc | apply Kd.Q_drewN | apply Kd.Q_drew)); exact HO_4.out) hb); have n2_ := Aside0.mk (below_step (by repeat (first | (with_reducible first | exact HB.out | apply below_alloc | apply pw_below_drewN | apply below_drew1) | exact HB.out)) hb); clear HO_3; clear HO_4; clear HB; have HO_3 := n0_; have HO_4 := n1_; have HB := n2_; clear n0_ n1_ n2_; (try clear hb); (try clear hb2); (try clear hk); (try clear hi)))
          go_ret
          exact ⟨by first | rfl | (simp [errW_none, errW_some] <;> rfl) | (simp [*, errW_none, errW_some] <;> rfl), by repeat (first | (with_reducible first | exact HB.out | apply below_alloc | apply pw_below_drewN | apply below_drew1) | exact HB.out)⟩
        · replace c14 := Bool.eq_false_iff.mpr c14
          subst c14
          have H1 : ((impl_ReadyTasks.f t468 t469).bind fun t477 => (laws_FnProgressOfMore.l0 kj4 t468 t469 t474 t477 0)) = some r := by rw [if_neg (show ¬ (false = true) by decide)] at H; exact H
          clear H
          have H := H1
          clear H1
          replace H := Option.bind_eq_some_iff.mp H
          obtain ⟨t477, A170, H⟩ := H
          replace H : (laws_FnProgressOfMore.l0 kj4 t468 t469 t474 t477 0) = some r := H
          have A17 := Aside0.mk A170
          clear A170
          have H' := Aside0.mk H
          clear H
          go_wp2_with (first | ((with_reducible refine gate_callee (f := 28) rfl ?_); refine goesL_ (some 37) rfl rfl Tryd.func28 (by kernel_rfl) rfl #[.slice Ao7 t468.length co7, .slice Ao8 t469.length co8] rfl (by (try simp only [List.map_toArray, List.map_cons, List.map_nil]); first | done | rfl | (simp only [List.length_drop, List.length_take]; rfl)) ?_; (with_reducible refine (impl_ReadyTasks.calls _ _ t468 _ _ t469 t477 _ ?side1 ?side2 ?side3 ?side4 ?side5 A17.out).mono ?_); (case side1 => repeat (first | exact (Kd.S_reads' HO_3.out).2.2 | (with_reducible refine Kd.C_alloc ?_ _) | (with_reducible refine Kd.C_drewN ?_ _) | (with_reducible refine Kd.C_drew ?_))); (case side2 => exact (Kd.S_reads' HO_3.out).2.1); (case side3 => repeat (first | exact (Kd.Q_reads' HO_4.out).2.2 | (with_reducible refine Kd.C_alloc ?_ _) | (with_reducible refine Kd.C_drewN ?_ _) | (with_reducible refine Kd.C_drew ?_))); (case side4 => exact (Kd.Q_reads' HO_4.out).2.1); (case side5 => exact Tab.of HT.out (by repeat (first | (with_reducible first | exact HB.out | apply below_alloc | apply pw_below_drewN | apply below_drew1) | exact HB.out))); rintro e w18 ⟨v478, rfl, ho0, hb⟩; refine ⟨_, rfl, ?_⟩; have n0_ := Aside0.mk (Kd.S_elder' (by (with_reducible repeat (first | apply Kd.S_alloc | apply Kd.S_drewN | apply Kd.S_drew)); exact HO_3.out) (Kd.R_base ho0) hb); have n1_ := Aside0.mk (Kd.Q_elder' (by (with_reducible repeat (first | apply Kd.Q_alloc | apply Kd.Q_drewN | apply Kd.Q_drew)); exact HO_4.out) (Kd.R_base ho0) hb); have n2_ := Aside0.mk (Kd.R_lower (Kd.R_new' ho0 (Kd.Q_lt (by (with_reducible repeat (first | apply Kd.Q_alloc | apply Kd.Q_drewN | apply Kd.Q_drew)); exact HO_4.out))) (below_size (by repeat (first | (with_reducible first | exact HB.out | apply below_alloc | apply pw_below_drewN | apply below_drew1) | exact HB.out)))); have n3_ := Aside0.mk (below_step (by repeat (first | (with_reducible first | exact HB.out | apply below_alloc | apply pw_below_drewN | apply below_drew1) | exact HB.out)) hb); clear HO_3; clear HO_4; clear HB; have HO_3 := n0_; have HO_4 := n1_; have HO479 := n2_; have HB := n3_; clear n0_ n1_ n2_ n3_; (try clear hb); (try clear hb2); (try clear hk); (try clear hi); (try clear ho0)))
          go_loopg [7] kj4 (fun kq v7 w' => ∃ (x7_2 : Int), v7 = .int .i64 x7_2 ∧ Aside0 (laws_FnProgressOfMore.l0 kq t468 t469 t474 t477 x7_2 = some r) ∧ Aside0 (kq ≤ kj4) ∧ Aside0 (Kd.S k48 48 w' w.heap.size (fun k_ => some k_ ≠ ((.slice Ao8 t469.length co8) : Value).ownBlock ∧ some k_ ≠ (v478 : Value).ownBlock) (.slice Ao7 t468.length co7) t468) ∧ Aside0 (Kd.Q (Kd.int .i64) 3 w' w.heap.size (fun k_ => some k_ ≠ (v478 : Value).ownBlock) (.slice Ao8 t469.length co8) t469) ∧ Aside0 (Kd.R (Kd.int .i64) 3 w' w.heap.size (fun k_ => some k_ ≠ ((.slice Ao8 t469.length co8) : Value).ownBlock) v478 t477) ∧ Aside0 (Below w.heap.size w w'))
          case atStart => exact ⟨(0), (by first | rfl | (simp; done) | (simp [*]; done)), H', ⟨Nat.le_refl _⟩, ⟨by (with_reducible repeat (first | apply Kd.S_alloc | apply Kd.S_drewN | apply Kd.S_drew)); exact HO_3.out⟩, ⟨by (with_reducible repeat (first | apply Kd.Q_alloc | apply Kd.Q_drewN | apply Kd.Q_drew)); exact Kd.Q_mono HO_4.out (fun _ hk => hk.2)⟩, ⟨by (with_reducible repeat (first | apply Kd.R_alloc | apply Kd.R_drewN | apply Kd.R_drew)); exact Kd.R_mono HO479.out (fun _ hk => hk.2)⟩, ⟨by repeat (first | (with_reducible first | exact HB.out | apply below_alloc | apply pw_below_drewN | apply below_drew1) | exact HB.out)⟩⟩
          case round =>
            clear H'
            try clear c1
            try clear c2
            try clear c2b0
            try clear c2b1
            try clear p2
            try clear c4
            try clear c11
            try clear c11b0
            try clear c11b1
            try clear c14
            try clear p2
            obtain ⟨x7_2, rfl, HA, HK2, HO_3, HO_4, HO_6, HB⟩ := hrel
            cases gk with
            | zero => exact absurd HA.out (by simp [laws_FnProgressOfMore.l0])
            | succ k2 =>
              have H := HA.out
              clear HA
              simp only [laws_FnProgressOfMore.l0] at H
              by_cases c19 : x7_2 < (t477.length : Int)
              · rw [if_pos c19] at H
                have c19b0 : decide (x7_2 < (t477.length : Int)) = true := decide_eq_true c19
                clear c19
                by_cases c20 : 0 ≤ x7_2
                · rw [if_pos c20] at H
                  have c20b0 : decide (0 ≤ x7_2) = true := decide_eq_true c20
                  clear c20
                  replace H := Option.bind_eq_some_iff.mp H
                  obtain ⟨⟨t481, t482⟩, A210, H⟩ := H
                  replace H : (if t482 = true then ((impl_ProgressOf.f t468 t481).bind fun t485 => (if t485 ≤ t474 then (some false) else (laws_FnProgressOfMore.l0 k2 t468 t469 t474 t477 (wrap64 (x7_2 + 1))))) else (some false)) = some r := H
                  have A21 := Aside0.mk A210
                  clear A210
                  by_cases c22 : t482 = true
                  · subst c22
                    have H1 : ((impl_ProgressOf.f t468 t481).bind fun t485 => (if t485 ≤ t474 then (some false) else (laws_FnProgressOfMore.l0 k2 t468 t469 t474 t477 (wrap64 (x7_2 + 1))))) = some r := by rw [if_pos rfl] at H; exact H
                    clear H
                    have H := H1
                    clear H1
                    replace H := Option.bind_eq_some_iff.mp H
                    obtain ⟨t485, A230, H⟩ := H
                    replace H : (if t485 ≤ t474 then (some false) else (laws_FnProgressOfMore.l0 k2 t468 t469 t474 t477 (wrap64 (x7_2 + 1)))) = some r := H
                    have A23 := Aside0.mk A230
                    clear A230
                    by_cases c24 : t485 ≤ t474
                    · rw [if_pos c24] at H
                      have c24b0 : decide (t485 ≤ t474) = true := decide_eq_true c24
                      clear c24
                      obtain rfl := Option.some.inj H
                      obtain ⟨Ao25, co25, eo25⟩ := Kd.R_slice HO_6.out
                      subst eo25
                      have p480 : 0 ≤ (x7_2 : Int) := of_decide_eq_true (by first | (with_reducible assumption) | assumption)
                      have q480 : x7_2 < (t477.length : Int) := of_decide_eq_true (by first | (with_reducible assumption) | assumption)
                      obtain ⟨ad480, e480, hx480_0⟩ := Kd.at_int (Kd.R_reads' HO_6.out).2.2 x7_2 p480 q480
                      cases e480
                      replace p480 := eq_true p480
                      replace q480 := eq_true q480
                      go_wp2_with (first | ((with_reducible refine gate_callee (f := 29) rfl ?_); refine goesL_ (some 51) rfl rfl Tryd.func29 (by kernel_rfl) rfl #[.slice Ao7 t468.length co7, .slice Ao8 t469.length co8, .int .i64 (rd t477 x7_2)] rfl (by (try simp only [List.map_toArray, List.map_cons, List.map_nil]); first | done | rfl | (simp only [List.length_drop, List.length_take]; rfl)) ?_; (with_reducible refine (impl_FinishTask.calls _ _ t468 _ _ t469 (rd t477 x7_2) t481 true _ ?side1 ?side2 ?side3 ?side4 ?side5 A21.out).mono ?_); (case side1 => repeat (first | exact (Kd.S_reads' HO_3.out).2.2 | (with_reducible refine Kd.C_alloc ?_ _) | (with_reducible refine Kd.C_drewN ?_ _) | (with_reducible refine Kd.C_drew ?_))); (case side2 => exact (Kd.S_reads' HO_3.out).2.1); (case side3 => repeat (first | exact (Kd.Q_reads' HO_4.out).2.2 | (with_reducible refine Kd.C_alloc ?_ _) | (with_reducible refine Kd.C_drewN ?_ _) | (with_reducible refine Kd.C_drew ?_))); (case side4 => exact (Kd.Q_reads' HO_4.out).2.1); (case side5 => exact Tab.of HT.out (by repeat (first | (with_reducible first | exact HB.out | apply below_alloc | apply pw_below_drewN | apply below_drew1) | exact HB.out))); rintro e w26 ⟨v483, rfl, ho0, hb⟩; refine ⟨_, rfl, ?_⟩; have n0_ := Aside0.mk (Kd.S_elder' (by (with_reducible repeat (first | apply Kd.S_alloc | apply Kd.S_drewN | apply Kd.S_drew)); exact HO_3.out) (Kd.R_base ho0) hb); have n1_ := Aside0.mk (Kd.Q_elder' (by (with_reducible repeat (first | apply Kd.Q_alloc | apply Kd.Q_drewN | apply Kd.Q_drew)); exact HO_4.out) (Kd.R_base ho0) hb); have n2_ := Aside0.mk (Kd.R_elder' (by (with_reducible repeat (first | apply Kd.R_alloc | apply Kd.R_drewN | apply Kd.R_drew)); exact HO_6.out) (Kd.R_base ho0) hb); have n3_ := Aside0.mk (Kd.R_lower (Kd.R_new' (Kd.R_new' ho0 (Kd.Q_lt (by (with_reducible repeat (first | apply Kd.Q_alloc | apply Kd.Q_drewN | apply Kd.Q_drew)); exact HO_4.out))) (Kd.R_lt (by (with_reducible repeat (first | apply Kd.R_alloc | apply Kd.R_drewN | apply Kd.R_drew)); exact HO_6.out))) (below_size (by repeat (first | (with_reducible first | exact HB.out | apply below_alloc | apply pw_below_drewN | apply below_drew1) | exact HB.out)))); have n4_ := Aside0.mk (below_step (by repeat (first | (with_reducible first | exact HB.out | apply below_alloc | apply pw_below_drewN | apply below_drew1) | exact HB.out)) hb); clear HO_3; clear HO_4; clear HO_6; clear HB; have HO_3 := n0_; have HO_4 := n1_; have HO_6 := n2_; have HO484 := n3_; have HB := n4_; clear n0_ n1_ n2_ n3_ n4_; (try clear hb); (try clear hb2); (try clear hk); (try clear hi); (try clear ho0); obtain ⟨Ao27, co27, eo27⟩ := Kd.R_slice HO484.out; subst eo27) | (go_at_call 26; (with_reducible refine (impl_ProgressOf.calls _ _ t468 _ _ t481 t485 _ ?side1 ?side2 ?side3 ?side4 ?side5 A23.out).mono ?_); (case side1 => repeat (first | exact (Kd.S_reads' HO_3.out).2.2 | (with_reducible refine Kd.C_alloc ?_ _) | (with_reducible refine Kd.C_drewN ?_ _) | (with_reducible refine Kd.C_drew ?_))); (case side2 => exact (Kd.S_reads' HO_3.out).2.1); (case side3 => repeat (first | exact (Kd.R_reads' HO484.out).2.2 | (with_reducible refine Kd.C_alloc ?_ _) | (with_reducible refine Kd.C_drewN ?_ _) | (with_reducible refine Kd.C_drew ?_))); (case side4 => exact (Kd.R_reads' HO484.out).2.1); (case side5 => exact Tab.of HT.out (by repeat (first | (with_reducible first | exact HB.out | apply below_alloc | apply pw_below_drewN | apply below_drew1) | exact HB.out))); rintro e w28 ⟨rfl, hb⟩; have n0_ := Aside0.mk (Kd.S_below (by (with_reducible repeat (first | apply Kd.S_alloc | apply Kd.S_drewN | apply Kd.S_drew)); exact HO_3.out) hb); have n1_ := Aside0.mk (Kd.Q_below (by (with_reducible repeat (first | apply Kd.Q_alloc | apply Kd.Q_drewN | apply Kd.Q_drew)); exact HO_4.out) hb); have n2_ := Aside0.mk (Kd.R_below (by (with_reducible repeat (first | apply Kd.R_alloc | apply Kd.R_drewN | apply Kd.R_drew)); exact HO_6.out) hb); have n3_ := Aside0.mk (Kd.R_below (by (with_reducible repeat (first | apply Kd.R_alloc | apply Kd.R_drewN | apply Kd.R_drew)); exact HO484.out) hb); have n4_ := Aside0.mk (below_step (by repeat (first | (with_reducible first | exact HB.out | apply below_alloc | apply pw_below_drewN | apply below_drew1) | exact HB.out)) hb); clear HO_3; clear HO_4; clear HO_6; clear HO484; clear HB; have HO_3 := n0_; have HO_4 := n1_; have HO_6 := n2_; have HO484 := n3_; have HB := n4_; clear n0_ n1_ n2_ n3_ n4_; (try clear hb); (try clear hb2); (try clear hk); (try clear hi)))
                      go_ret
                      exact ⟨by first | rfl | (simp [errW_none, errW_some] <;> rfl) | (simp [*, errW_none, errW_some] <;> rfl), by repeat (first | (with_reducible first | exact HB.out | apply below_alloc | apply pw_below_drewN | apply below_drew1) | exact HB.out)⟩
                    · rw [if_neg c24] at H
                      have c24b0 : decide (t485 ≤ t474) = false := decide_eq_false c24
                      clear c24
                      have H' := Aside0.mk H
                      clear H
                      obtain ⟨Ao29, co29, eo29⟩ := Kd.R_slice HO_6.out
                      subst eo29
                      have p480 : 0 ≤ (x7_2 : Int) := of_decide_eq_true (by first | (with_reducible assumption) | assumption)
                      have q480 : x7_2 < (t477.length : Int) := of_decide_eq_true (by first | (with_reducible assumption) | assumption)
                      obtain ⟨ad480, e480, hx480_0⟩ := Kd.at_int (Kd.R_reads' HO_6.out).2.2 x7_2 p480 q480
                      cases e480
                      replace p480 := eq_true p480
                      replace q480 := eq_true q480
                      go_wp2_with (first | ((with_reducible refine gate_callee (f := 29) rfl ?_); refine goesL_ (some 51) rfl rfl Tryd.func29 (by kernel_rfl) rfl #[.slice Ao7 t468.length co7, .slice Ao8 t469.length co8, .int .i64 (rd t477 x7_2)] rfl (by (try simp only [List.map_toArray, List.map_cons, List.map_nil]); first | done | rfl | (simp only [List.length_drop, List.length_take]; rfl)) ?_; (with_reducible refine (impl_FinishTask.calls _ _ t468 _ _ t469 (rd t477 x7_2) t481 true _ ?side1 ?side2 ?side3 ?side4 ?side5 A21.out).mono ?_); (case side1 => repeat (first | exact (Kd.S_reads' HO_3.out).2.2 | (with_reducible refine Kd.C_alloc ?_ _) | (with_reducible refine Kd.C_drewN ?_ _) | (with_reducible refine Kd.C_drew ?_))); (case side2 => exact (Kd.S_reads' HO_3.out).2.1); (case side3 => repeat (first | exact (Kd.Q_reads' HO_4.out).2.2 | (with_reducible refine Kd.C_alloc ?_ _) | (with_reducible refine Kd.C_drewN ?_ _) | (with_reducible refine Kd.C_drew ?_))); (case side4 => exact (Kd.Q_reads' HO_4.out).2.1); (case side5 => exact Tab.of HT.out (by repeat (first | (with_reducible first | exact HB.out | apply below_alloc | apply pw_below_drewN | apply below_drew1) | exact HB.out))); rintro e w30 ⟨v483, rfl, ho0, hb⟩; refine ⟨_, rfl, ?_⟩; have n0_ := Aside0.mk (Kd.S_elder' (by (with_reducible repeat (first | apply Kd.S_alloc | apply Kd.S_drewN | apply Kd.S_drew)); exact HO_3.out) (Kd.R_base ho0) hb); have n1_ := Aside0.mk (Kd.Q_elder' (by (with_reducible repeat (first | apply Kd.Q_alloc | apply Kd.Q_drewN | apply Kd.Q_drew)); exact HO_4.out) (Kd.R_base ho0) hb); have n2_ := Aside0.mk (Kd.R_elder' (by (with_reducible repeat (first | apply Kd.R_alloc | apply Kd.R_drewN | apply Kd.R_drew)); exact HO_6.out) (Kd.R_base ho0) hb); have n3_ := Aside0.mk (Kd.R_lower (Kd.R_new' (Kd.R_new' ho0 (Kd.Q_lt (by (with_reducible repeat (first | apply Kd.Q_alloc | apply Kd.Q_drewN | apply Kd.Q_drew)); exact HO_4.out))) (Kd.R_lt (by (with_reducible repeat (first | apply Kd.R_alloc | apply Kd.R_drewN | apply Kd.R_drew)); exact HO_6.out))) (below_size (by repeat (first | (with_reducible first | exact HB.out | apply below_alloc | apply pw_below_drewN | apply below_drew1) | exact HB.out)))); have n4_ := Aside0.mk (below_step (by repeat (first | (with_reducible first | exact HB.out | apply below_alloc | apply pw_below_drewN | apply below_drew1) | exact HB.out)) hb); clear HO_3; clear HO_4; clear HO_6; clear HB; have HO_3 := n0_; have HO_4 := n1_; have HO_6 := n2_; have HO484 := n3_; have HB := n4_; clear n0_ n1_ n2_ n3_ n4_; (try clear hb); (try clear hb2); (try clear hk); (try clear hi); (try clear ho0); obtain ⟨Ao31, co31, eo31⟩ := Kd.R_slice HO484.out; subst eo31) | (go_at_call 26; (with_reducible refine (impl_ProgressOf.calls _ _ t468 _ _ t481 t485 _ ?side1 ?side2 ?side3 ?side4 ?side5 A23.out).mono ?_); (case side1 => repeat (first | exact (Kd.S_reads' HO_3.out).2.2 | (with_reducible refine Kd.C_alloc ?_ _) | (with_reducible refine Kd.C_drewN ?_ _) | (with_reducible refine Kd.C_drew ?_))); (case side2 => exact (Kd.S_reads' HO_3.out).2.1); (case side3 => repeat (first | exact (Kd.R_reads' HO484.out).2.2 | (with_reducible refine Kd.C_alloc ?_ _) | (with_reducible refine Kd.C_drewN ?_ _) | (with_reducible refine Kd.C_drew ?_))); (case side4 => exact (Kd.R_reads' HO484.out).2.1); (case side5 => exact Tab.of HT.out (by repeat (first | (with_reducible first | exact HB.out | apply below_alloc | apply pw_below_drewN | apply below_drew1) | exact HB.out))); rintro e w32 ⟨rfl, hb⟩; have n0_ := Aside0.mk (Kd.S_below (by (with_reducible repeat (first | apply Kd.S_alloc | apply Kd.S_drewN | apply Kd.S_drew)); exact HO_3.out) hb); have n1_ := Aside0.mk (Kd.Q_below (by (with_reducible repeat (first | apply Kd.Q_alloc | apply Kd.Q_drewN | apply Kd.Q_drew)); exact HO_4.out) hb); have n2_ := Aside0.mk (Kd.R_below (by (with_reducible repeat (first | apply Kd.R_alloc | apply Kd.R_drewN | apply Kd.R_drew)); exact HO_6.out) hb); have n3_ := Aside0.mk (Kd.R_below (by (with_reducible repeat (first | apply Kd.R_alloc | apply Kd.R_drewN | apply Kd.R_drew)); exact HO484.out) hb); have n4_ := Aside0.mk (below_step (by repeat (first | (with_reducible first | exact HB.out | apply below_alloc | apply pw_below_drewN | apply below_drew1) | exact HB.out)) hb); clear HO_3; clear HO_4; clear HO_6; clear HO484; clear HB; have HO_3 := n0_; have HO_4 := n1_; have HO_6 := n2_; have HO484 := n3_; have HB := n4_; clear n0_ n1_ n2_ n3_ n4_; (try clear hb); (try clear hb2); (try clear hk); (try clear hi)))
                      go_roundg k2
                      case measure => have := HJ4.out; have := HK2.out; omega
                      case rel => exact ⟨(wrap64 (x7_2 + 1)), (by first | rfl | (simp; done) | (simp [*]; done)), H', ⟨by have := HJ4.out; have := HK2.out; omega⟩, ⟨by (with_reducible repeat (first | apply Kd.S_alloc | apply Kd.S_drewN | apply Kd.S_drew)); exact Kd.S_mono HO_3.out (fun _ hk => ⟨hk.1.1, hk.1.2⟩)⟩, ⟨by (with_reducible repeat (first | apply Kd.Q_alloc | apply Kd.Q_drewN | apply Kd.Q_drew)); exact Kd.Q_mono HO_4.out (fun _ hk => hk.1)⟩, ⟨by (with_reducible repeat (first | apply Kd.R_alloc | apply Kd.R_drewN | apply Kd.R_drew)); exact Kd.R_mono HO_6.out (fun _ hk => hk.1)⟩, ⟨by repeat (first | (with_reducible first | exact HB.out | apply below_alloc | apply pw_below_drewN | apply below_drew1) | exact HB.out)⟩⟩
                  · replace c22 := Bool.eq_false_iff.mpr c22
                    subst c22
                    have H1 : (some false) = some r := by rw [if_neg (show ¬ (false = true) by decide)] at H; exact H
                    clear H
                    have H := H1
                    clear H1
                    obtain rfl := Option.some.inj H
                    obtain ⟨Ao33, co33, eo33⟩ := Kd.R_slice HO_6.out
                    subst eo33
                    have p480 : 0 ≤ (x7_2 : Int) := of_decide_eq_true (by first | (with_reducible assumption) | assumption)
                    have q480 : x7_2 < (t477.length : Int) := of_decide_eq_true (by first | (with_reducible assumption) | assumption)
                    obtain ⟨ad480, e480, hx480_0⟩ := Kd.at_int (Kd.R_reads' HO_6.out).2.2 x7_2 p480 q480
                    cases e480
                    replace p480 := eq_true p480
                    replace q480 := eq_true q480
                    go_wp2_with (first | ((with_reducible refine gate_callee (f := 29) rfl ?_); refine goesL_ (some 51) rfl rfl Tryd.func29 (by kernel_rfl) rfl #[.slice Ao7 t468.length co7, .slice Ao8 t469.length co8, .int .i64 (rd t477 x7_2)] rfl (by (try simp only [List.map_toArray, List.map_cons, List.map_nil]); first | done | rfl | (simp only [List.length_drop, List.length_take]; rfl)) ?_; (with_reducible refine (impl_FinishTask.calls _ _ t468 _ _ t469 (rd t477 x7_2) t481 false _ ?side1 ?side2 ?side3 ?side4 ?side5 A21.out).mono ?_); (case side1 => repeat (first | exact (Kd.S_reads' HO_3.out).2.2 | (with_reducible refine Kd.C_alloc ?_ _) | (with_reducible refine Kd.C_drewN ?_ _) | (with_reducible refine Kd.C_drew ?_))); (case side2 => exact (Kd.S_reads' HO_3.out).2.1); (case side3 => repeat (first | exact (Kd.Q_reads' HO_4.out).2.2 | (with_reducible refine Kd.C_alloc ?_ _) | (with_reducible refine Kd.C_drewN ?_ _) | (with_reducible refine Kd.C_drew ?_))); (case side4 => exact (Kd.Q_reads' HO_4.out).2.1); (case side5 => exact Tab.of HT.out (by repeat (first | (with_reducible first | exact HB.out | apply below_alloc | apply pw_below_drewN | apply below_drew1) | exact HB.out))); rintro e w34 ⟨v483, rfl, ho0, hb⟩; refine ⟨_, rfl, ?_⟩; have n0_ := Aside0.mk (Kd.S_elder' (by (with_reducible repeat (first | apply Kd.S_alloc | apply Kd.S_drewN | apply Kd.S_drew)); exact HO_3.out) (Kd.R_base ho0) hb); have n1_ := Aside0.mk (Kd.Q_elder' (by (with_reducible repeat (first | apply Kd.Q_alloc | apply Kd.Q_drewN | apply Kd.Q_drew)); exact HO_4.out) (Kd.R_base ho0) hb); have n2_ := Aside0.mk (Kd.R_elder' (by (with_reducible repeat (first | apply Kd.R_alloc | apply Kd.R_drewN | apply Kd.R_drew)); exact HO_6.out) (Kd.R_base ho0) hb); have n3_ := Aside0.mk (Kd.R_lower (Kd.R_new' (Kd.R_new' ho0 (Kd.Q_lt (by (with_reducible repeat (first | apply Kd.Q_alloc | apply Kd.Q_drewN | apply Kd.Q_drew)); exact HO_4.out))) (Kd.R_lt (by (with_reducible repeat (first | apply Kd.R_alloc | apply Kd.R_drewN | apply Kd.R_drew)); exact HO_6.out))) (below_size (by repeat (first | (with_reducible first | exact HB.out | apply below_alloc | apply pw_below_drewN | apply below_drew1) | exact HB.out)))); have n4_ := Aside0.mk (below_step (by repeat (first | (with_reducible first | exact HB.out | apply below_alloc | apply pw_below_drewN | apply below_drew1) | exact HB.out)) hb); clear HO_3; clear HO_4; clear HO_6; clear HB; have HO_3 := n0_; have HO_4 := n1_; have HO_6 := n2_; have HO484 := n3_; have HB := n4_; clear n0_ n1_ n2_ n3_ n4_; (try clear hb); (try clear hb2); (try clear hk); (try clear hi); (try clear ho0)))
                    go_ret
                    exact ⟨by first | rfl | (simp [errW_none, errW_some] <;> rfl) | (simp [*, errW_none, errW_some] <;> rfl), by repeat (first | (with_reducible first | exact HB.out | apply below_alloc | apply pw_below_drewN | apply below_drew1) | exact HB.out)⟩
                · rw [if_neg c20] at H
                  exact absurd H (by simp)
              · rw [if_neg c19] at H
                have c19b0 : decide (x7_2 < (t477.length : Int)) = false := decide_eq_false c19
                clear c19
                obtain rfl := Option.some.inj H
                obtain ⟨Ao35, co35, eo35⟩ := Kd.R_slice HO_6.out
                subst eo35
                go_wp2
                go_ret
                exact ⟨by first | rfl | (simp [errW_none, errW_some] <;> rfl) | (simp [*, errW_none, errW_some] <;> rfl), by repeat (first | (with_reducible first | exact HB.out | apply below_alloc | apply pw_below_drewN | apply below_drew1) | exact HB.out)⟩
end Go.Proofs.YtpibdjkajgfgjaaDoor.P
end
section
set_option linter.unusedVariables false
set_option linter.unusedSimpArgs false
namespace Go.Proofs.YtpibdjkajgfgjaaDoor.Core
open Go Go.RowKit Go.Proofs.YtpibdjkajgfgjaaDoorW.PrintWords Go.Proofs.YtpibdjkajgfgjaaDoorW.PrintMore Go.Proofs.YtpibdjkajgfgjaaDoor.P
theorem toInt_eq (b : Bool) : spec_toInt.f b = some (if b then 1 else 0) := by unfold spec_toInt.f; cases b <;> rfl
/-- The sum of the times of a set's tasks among the first n. -/
def sumTo (g : List Tk) (d n : Nat) : Nat := totL g ((List.range n).filter (fun i => d.testBit i))
theorem sumTo_succ (g : List Tk) (d n : Nat) : sumTo g d (n + 1) = sumTo g d n + if d.testBit n then tmN g n else 0 := by
  unfold sumTo
  rw [List.range_succ, List.filter_append]
  cases h : d.testBit n with
  | true => rw [List.filter_cons_of_pos (by simpa using h), List.filter_nil, totL_snoc]; simp
  | false => rw [List.filter_cons_of_neg (by simp [h]), List.filter_nil, List.append_nil]; simp
theorem elemsN_range {s n : Nat} (hn : n ≤ 8) (hs : s < 2 ^ n) : elemsN s = (List.range n).filter (fun i => s.testBit i) := by
  have e8 : List.range 8 = List.range n ++ (List.range (8 - n)).map (n + ·) := by rw [← List.range_add]; congr 1; omega
  unfold elemsN
  rw [e8, List.filter_append]
  have e2 : ((List.range (8 - n)).map (n + ·)).filter (fun i => s.testBit i) = [] := by
    rw [List.filter_eq_nil_iff]
    intro y hy hb
    obtain ⟨z, _, rfl⟩ := List.mem_map.1 hy
    rw [Nat.testBit_lt_two_pow (Nat.lt_of_lt_of_le hs (Nat.pow_le_pow_right (by omega) (by omega)))] at hb
    cases hb
  rw [e2, List.append_nil]
theorem sumTo_full {g : List Tk} {s : Nat} (h8 : g.length ≤ 8) (hs : s < 2 ^ g.length) : sumTo g s g.length = totalN g s := by
  unfold sumTo totalN
  rw [elemsN_range h8 hs]
theorem sumTo_le {g : List Tk} (ht : tm20 g) (d n : Nat) : sumTo g d n ≤ n * 20 := by
  unfold sumTo
  have h1 := totL_le ht ((List.range n).filter (fun i => d.testBit i))
  have h2 := List.length_filter_le (fun i => d.testBit i) (List.range n)
  rw [List.length_range] at h2
  exact Nat.le_trans h1 (Nat.mul_le_mul_right 20 h2)
theorem total_pos {g : List Tk} (ht : ∀ t ∈ g, taskOk t) {s i : Nat} (h8 : g.length ≤ 8) (hi : i < g.length) (hb : s.testBit i = true) : 1 ≤ totalN g s := by
  have hm : i ∈ elemsN s := mem_elemsN.2 ⟨by omega, hb⟩
  have h1 := (tm_int ht hi).2.1
  have : ∀ L : List Nat, i ∈ L → 1 ≤ totL g L := by
    intro L
    induction L with
    | nil => intro h; cases h
    | cons a L ih =>
      intro h
      simp only [totL, List.map_cons, List.sum_cons] at *
      rcases List.mem_cons.1 h with rfl | h
      · omega
      · have := ih h; omega
  exact this _ hm
theorem pr_reckon {a b : Nat} (ha : a ≤ 160) (hb : 0 < b) : wrap64 (Int.tdiv (wrap64 (1000 * (a : Int))) (b : Int)) = ((1000 * a / b : Nat) : Int) := by
  rw [w64 (n := 1000 * (a : Int)) (by omega) (by omega), Int.tdiv_eq_ediv_of_nonneg (by omega)]
  have e : (1000 * (a : Int)) / (b : Int) = ((1000 * a / b : Nat) : Int) := by simp
  rw [e]
  have h1 : 1000 * a / b ≤ 1000 * a := Nat.div_le_self _ _
  generalize 1000 * a / b = z at *
  exact w64 (by omega) (by omega)
theorem pr_add {a b i : Nat} {t : Bool} (ha : a ≤ i * 20) (hb : b ≤ 20) (hi : i ≤ 8) : wrap64 ((a : Int) + wrap64 ((b : Int) * (if t = true then 1 else 0))) = ((a + (if t = true then b else 0) : Nat) : Int) := by
  have e : wrap64 ((b : Int) * (if t = true then 1 else 0)) = ((if t = true then b else 0 : Nat) : Int) := by
    cases t
    · simp only [Bool.false_eq_true, if_false, Int.mul_zero]; rw [w64 (by omega) (by omega)]; rfl
    · simp only [if_true, Int.mul_one]; rw [w64 (by omega) (by omega)]
  rw [e]
  exact (wadd (by omega) (by split <;> omega)).1
theorem ev_ProgressOf {g : List Tk} (hg : Fits g) {l : List Int} (hl : l.length < big) : Ev (fun k => spec_ProgressOf.f k g l) (progD g l) := by
  unfold spec_ProgressOf.f progD
  refine Ev.bind (ev_validDone hg hl) ?_
  cases h : doneD g l with
  | none => exact Ev.neg (by simp) (Ev.const _)
  | some GS =>
    obtain ⟨G, s⟩ := GS
    obtain ⟨v, hG, hs, rfl, _, _⟩ := done_list h
    have h8 := v.n8
    have htk : ∀ t ∈ g, taskOk t := fun t ht => (v.fine.1 t ht).1
    have ht20 := tm20_of htk
    refine Ev.pos (by first | rfl | trivial) ?_
    simp only [v.tasks]
    have hfull : 2 ^ g.length - 1 < 2 ^ g.length := by have := Nat.two_pow_pos g.length; omega
    have key : ∀ (m i : Nat), i + m = g.length → Ev (fun k => spec_ProgressOf.l0 k g (up (elemsN s)) ((sumTo g s i : Nat) : Int) ((sumTo g (2 ^ g.length - 1) i : Nat) : Int) (i : Int)) (if g.length = 0 then 1000 else ((1000 * totalN g s / totalN g (2 ^ g.length - 1) : Nat) : Int)) := by
      intro m
      induction m with
      | zero =>
        intro i hi
        have : i = g.length := by omega
        subst this
        rw [sumTo_full h8 hs, sumTo_full h8 hfull]
        refine Ev.succ ?_
        simp only [spec_ProgressOf.l0]
        refine Ev.neg (by omega) ?_
        by_cases h0 : g.length = 0
        · rw [if_pos h0]
          have e0 : totalN g (2 ^ g.length - 1) = 0 := by rw [h0]; rfl
          exact Ev.pos (by rw [e0]; rfl) (Ev.const _)
        · rw [if_neg h0]
          have hp := total_pos htk (s := 2 ^ g.length - 1) (i := 0) h8 (by omega) (by rw [Nat.testBit_two_pow_sub_one]; simp; omega)
          have ha : totalN g s ≤ 160 := by rw [← sumTo_full h8 hs]; have := sumTo_le ht20 s g.length; omega
          refine Ev.neg (by omega) ((Ev.const _).conv ?_)
          exact pr_reckon ha (by omega)
      | succ m ih =>
        intro i hi
        have hin := ev_isIn (L := up (elemsN s)) (by rw [up_length]; have := elemsN_length s; unfold big; omega) (i : Int)
        have e1 : decide ((i : Int) ∈ up (elemsN s)) = s.testBit i := by rw [Bool.eq_iff_iff, decide_eq_true_eq, mem_up, ← v.list_bit hs]
        rw [e1] at hin
        have hw : wrap64 ((i : Int) + 1) = ((i + 1 : Nat) : Int) := w64s (by unfold big; omega)
        have htm := tm_int htk (i := i) (by omega)
        have hf : (2 ^ g.length - 1).testBit i = true := by rw [Nat.testBit_two_pow_sub_one]; simp; omega
        have h := ih (i + 1) (by omega)
        rw [sumTo_succ, sumTo_succ, hf, if_pos rfl] at h
        have b1 := sumTo_le ht20 s i
        have b2 := sumTo_le ht20 (2 ^ g.length - 1) i
        generalize sumTo g (2 ^ g.length - 1) i = sf at h b2 ⊢
        generalize sumTo g s i = ss at h b1 ⊢
        have hw2 := (wadd (a := sf) (b := tmN g i) (by omega) (by omega)).1
        refine Ev.succ ?_
        simp only [spec_ProgressOf.l0, rdT_nat, hw, htm.1, hw2]
        refine Ev.pos (by omega) (Ev.pos (by omega) (Ev.bind hin ?_))
        rw [toInt_eq]
        refine Ev.sb ?_
        rw [pr_add b1 htm.2.2 (by omega)]
        exact h
    exact key g.length 0 (by omega)
end Go.Proofs.YtpibdjkajgfgjaaDoor.Core
end
section
set_option linter.unusedVariables false
set_option linter.unusedSimpArgs false
namespace Go.Proofs.YtpibdjkajgfgjaaDoor.Core
open Go Go.RowKit Go.Proofs.YtpibdjkajgfgjaaDoorW.PrintWords Go.Proofs.YtpibdjkajgfgjaaDoorW.PrintMore Go.Proofs.YtpibdjkajgfgjaaDoor.P
/-- One more task is done: its time is added. -/
theorem sumTo_or {g : List Tk} {s i : Nat} (hs : s.testBit i = false) : ∀ n, sumTo g (s ||| 2 ^ i) n = sumTo g s n + if i < n then tmN g i else 0
  | 0 => by simp [sumTo, totL]
  | n + 1 => by
    rw [sumTo_succ, sumTo_succ, sumTo_or hs n, or_bit]
    by_cases e : i = n
    · subst e
      rw [hs]
      simp
    · have e2 : decide (i = n) = false := decide_eq_false e
      rw [e2, Bool.or_false]
      by_cases h : i < n
      · rw [if_pos h, if_pos (show i < n + 1 by omega)]
        omega
      · rw [if_neg h, if_neg (show ¬ i < n + 1 by omega)]
        omega
theorem total_or {g : List Tk} {s i : Nat} (h8 : g.length ≤ 8) (hs : s < 2 ^ g.length) (hl : s ||| 2 ^ i < 2 ^ g.length) (hi : i < g.length) (hb : s.testBit i = false) : totalN g (s ||| 2 ^ i) = totalN g s + tmN g i := by
  rw [← sumTo_full h8 hs, ← sumTo_full h8 hl, sumTo_or hb, if_pos hi]
/-- More progress. -/
theorem more_pm {a t b : Nat} (ht : 1 ≤ t) (hb : 0 < b) (hb2 : b ≤ 1000) : 1000 * a / b < 1000 * (a + t) / b := by
  have h1 : 1000 * a + b ≤ 1000 * (a + t) := by omega
  have h2 := Nat.div_le_div_right (c := b) h1
  rw [Nat.add_div_right _ hb] at h2
  omega
end Go.Proofs.YtpibdjkajgfgjaaDoor.Core
end
section
set_option linter.unusedVariables false
set_option linter.unusedSimpArgs false
namespace Go.Proofs.YtpibdjkajgfgjaaDoor.Core
open Go Go.RowKit Go.Proofs.YtpibdjkajgfgjaaDoorW.PrintWords Go.Proofs.YtpibdjkajgfgjaaDoorW.PrintMore Go.Proofs.YtpibdjkajgfgjaaDoor.P
theorem ev_DrawProgressOf {l : List Int} (h : Bytes l) : EvP (fun k => spec_DrawProgressOf.f k l) (fun r => GSmall 16 10 r.1 ∧ r.2.length ≤ 9) := by
  unfold spec_DrawProgressOf.f
  exact (ev_DrawValidDone h).bind fun a ha => EvP.ret ha
end Go.Proofs.YtpibdjkajgfgjaaDoor.Core
end
section
set_option linter.unusedVariables false
set_option linter.unusedSimpArgs false
namespace Go.Proofs.YtpibdjkajgfgjaaDoor.Core
open Go Go.RowKit Go.Proofs.YtpibdjkajgfgjaaDoorW.PrintWords Go.Proofs.YtpibdjkajgfgjaaDoorW.PrintMore Go.Proofs.YtpibdjkajgfgjaaDoor.P
theorem FnProgressOfMore_pure (l0 : List Int) (hW : Bytes l0) : ∃ k, laws_FnProgressOfMore.f k l0 = some true := by
  refine Ev.one (f := fun k => laws_FnProgressOfMore.f k l0) (EvP.ev ?_)
  unfold laws_FnProgressOfMore.f
  refine EvP.ite (fun _ => EvP.ret rfl) (fun hlen => ?_)
  refine (ev_DrawProgressOf hW).bind fun ⟨g, l⟩ hg => ?_
  obtain ⟨hg, hl⟩ := hg
  dsimp only at hg hl ⊢
  have hf := hg.fits (by unfold big; omega) (by unfold big; omega)
  have hs := ev_ProgressOf hf (l := l) (by unfold big; omega)
  refine Ev.bindP (Ev.const (progD g l)) (Ev.bindP hs (EvP.pos rfl ?_))
  refine EvP.succ ?_
  simp only [laws_FnProgressOfMore.j0]
  cases hd : doneD g l with
  | none =>
    have e : progD g l = -1 := by unfold progD; rw [hd]
    rw [e] at hs ⊢
    exact EvP.pos (by first | rfl | trivial) (Ev.bindP hs (EvP.ret rfl))
  | some GS =>
    obtain ⟨G, s⟩ := GS
    obtain ⟨v, hG, hsl, hll, _, hc⟩ := done_list hd
    have h8 := v.n8
    have htk : ∀ t ∈ g, taskOk t := fun t ht => (v.fine.1 t ht).1
    have hn0 : ¬ progD g l < 0 := by
      unfold progD
      rw [hd]
      simp only []
      split
      · decide
      · exact Int.not_lt.2 (Int.natCast_nonneg _)
    rw [decide_eq_false hn0]
    refine EvP.neg (by simp) (Ev.bindP (Ev.const (readyD g l)) ?_)
    rw [readyD_some hd]
    have hel := elemsN_length (G.ready s)
    have key : ∀ (r pre : List Nat), elemsN (G.ready s) = pre ++ r → EvP (fun k => laws_FnProgressOfMore.l0 k g l (progD g l) (up (elemsN (G.ready s))) (pre.length : Int)) (fun x => x = true) := by
      intro r
      induction r with
      | nil =>
        intro pre hp
        rw [List.append_nil] at hp
        refine EvP.succ ?_
        simp only [laws_FnProgressOfMore.l0]
        exact EvP.neg (by rw [up_length, hp]; omega) (EvP.ret rfl)
      | cons i r ih =>
        intro pre hp
        have hl2 : (elemsN (G.ready s)).length = pre.length + (r.length + 1) := by rw [hp]; simp
        have hrd : rd (up (elemsN (G.ready s))) (pre.length : Int) = (i : Int) := by rw [rd_up (i := pre.length) rfl, hp]; simp
        have hw : wrap64 ((pre.length : Int) + 1) = ((pre ++ [i]).length : Int) := by rw [w64s (by unfold big; omega)]; simp
        have hri : (G.ready s).testBit i = true := (mem_elemsN.1 (show i ∈ elemsN (G.ready s) by rw [hp]; simp)).2
        obtain ⟨hi, hsi, _⟩ := v.mem_rd.1 hri
        obtain ⟨e1, e2⟩ := finD_yes hd hri
        obtain ⟨e3, e4, e5⟩ := v.step hsl hc hri
        have hn := ih (pre ++ [i]) (by rw [hp]; simp)
        have hgt : ¬ progD g (up (elemsN (s ||| 2 ^ i))) ≤ progD g l := by
          have h0 : ¬ G.tasks.length = 0 := by rw [v.tasks]; omega
          unfold progD
          rw [hd, e2]
          simp only []
          rw [if_neg h0, if_neg h0]
          have ht := (tm_int htk hi).2.1
          have hfl : 2 ^ g.length - 1 < 2 ^ g.length := by have := Nat.two_pow_pos g.length; omega
          have hbt : (2 ^ g.length - 1).testBit i = true := by rw [Nat.testBit_two_pow_sub_one]; simpa using hi
          have hpos := total_pos htk h8 hi hbt
          have hle : totalN g (2 ^ g.length - 1) ≤ 160 := by
            rw [← sumTo_full h8 hfl]
            exact Nat.le_trans (sumTo_le (tm20_of htk) _ _) (by omega)
          have hGt : G.tasks = g := graphD_tasks hG
          rw [hGt, total_or h8 hsl e3 hi hsi]
          have := more_pm (a := totalN g s) ht hpos (Nat.le_trans hle (by decide))
          intro h
          exact Nat.lt_irrefl _ (Nat.lt_of_lt_of_le this (Int.ofNat_le.1 h))
        refine EvP.succ ?_
        simp only [laws_FnProgressOfMore.l0, hrd, hw]
        refine EvP.pos (by rw [up_length]; omega) (EvP.pos (by omega) (Ev.bindP (Ev.const (finD g l (i : Int))) ?_))
        rw [e1]
        exact EvP.pos rfl (Ev.bindP (Ev.const (progD g (up (elemsN (s ||| 2 ^ i))))) (EvP.neg hgt hn))
    exact key (elemsN (G.ready s)) [] rfl
end Go.Proofs.YtpibdjkajgfgjaaDoor.Core
end
