/- The law FnExactFinishTask holds of the given program: the proof's own part, with its row and its card, part 1 of 2. -/
import Derived.Test.YtpgfcihmgdempaaDoorZDFnExactReadyTasks5
section
set_option linter.unusedVariables false
set_option linter.unusedSimpArgs false
namespace Go.Proofs.YtpgfcihmgdempaaDoor.Core
open Go Go.RowKit Go.Shelf Go.Proofs.YtpgfcihmgdempaaDoorW.PrintWords Go.Proofs.YtpgfcihmgdempaaDoorW.PrintMore Go.Proofs.YtpgfcihmgdempaaDoor.P
attribute [local go_sem] Oper.semAt_some wide_fn wide_depth
theorem within_is (x a b : Int) (t : Bool) (w : World) (h : decide (a ≤ x ∧ x ≤ b) = t) :
    Calls Tryd.prog 63 #[.int .i64 x, .int .i64 a, .int .i64 b] w fun e w' => e = .returned (.bool t) ∧ Below w.heap.size w w' :=
  (impl_within.calls x a b t w (by rw [within_eq, h])).mono fun e w' h => ⟨h.1, drawn_below h.2⟩
end Go.Proofs.YtpgfcihmgdempaaDoor.Core
end
section
set_option linter.unusedVariables false
set_option linter.unusedSimpArgs false
namespace Go.Proofs.YtpgfcihmgdempaaDoor.Core
open Go Go.RowKit Go.Proofs.YtpgfcihmgdempaaDoor.P
end Go.Proofs.YtpgfcihmgdempaaDoor.Core
namespace Go.Proofs.YtpgfcihmgdempaaDoor.P
open Go Go.RowKit Go.Shelf Go.Proofs.YtpgfcihmgdempaaDoorW.PrintWords Go.Proofs.YtpgfcihmgdempaaDoorW.PrintLast Go.Proofs.YtpgfcihmgdempaaDoorW.PrintMore Go.Proofs.YtpgfcihmgdempaaDoor.Core
attribute [local go_sem] Oper.semAt_some wide_fn wide_depth
def impl_FinishTask.f (l0 : List S30) (l1 : List Int) (a2 : Int) : Option (List Int × Bool) := some (finD l0 l1 a2)
set_option maxRecDepth 100000 in
set_option maxHeartbeats 1000000 in
theorem impl_FinishTask.calls (A0 : Option Addr) (c0 : Nat) (l0 : List S30) (A1 : Option Addr) (c1 : Nat) (l1 : List Int) (a2 : Int) (r1 : List Int) (r2 : Bool) (w : World) (hr0 : Kd.C k30 w A0 l0.length l0) (hc0 : l0.length ≤ c0) (hr1 : Kd.C (Kd.int .i64) w A1 l1.length l1) (hc1 : l1.length ≤ c1) (hT : Tab w) (h : impl_FinishTask.f l0 l1 a2 = some (r1, r2)) :
    Calls Tryd.prog 34 #[.slice A0 l0.length c0, .slice A1 l1.length c1, .int .i64 a2] w fun e w' => ∃ v0_ : Value, e = .returned (.tuple #[v0_, .bool r2]) ∧ Kd.R (Kd.int .i64) 3 w' w.heap.size (fun _ => True) v0_ r1 ∧ Below w.heap.size w w' := by
  have hr : finD l0 l1 a2 = (r1, r2) := Option.some.inj h
  clear h
  cases hg : doneD l0 l1 with
  | none =>
    obtain ⟨rfl, rfl⟩ : [] = r1 ∧ false = r2 := by unfold finD at hr; rw [hg] at hr; exact Prod.mk.inj hr
    have HG := Aside0.mk (doneIn_none A0 c0 l0 A1 c1 l1 w hT hr0 hc0 hr1 hc1 hg)
    clear hr0 hr1 hT hg hr
    go_enter Tryd.func34, Tryd.ntmps34
    go_wp2_with (go_at_call 54; refine HG.out.mono ?_; rintro e w1 ⟨rfl, hB⟩)
    refine bodyPost_ret (results_tmp2 rfl _ _ _) rfl ?_
    exact ⟨_, rfl, Kd.R_nil _ _ _ _ _, hB⟩
  | some GS =>
    obtain ⟨G, s⟩ := GS
    have HG := Aside0.mk (doneIn_some A0 c0 l0 A1 c1 l1 G s w hT hr0 hc0 hr1 hc1 hg)
    obtain ⟨ok, hsl, hs8, hrl, hr8, -⟩ := done_facts hg
    have h8 := ok.n8
    have OK := Aside0.mk ok
    have hcd : (if (0 ≤ a2 ∧ a2 ≤ (G.tasks.length : Int) - 1) ∧ (G.ready s).testBit a2.toNat = true then (elems (s ||| 2 ^ a2.toNat), true) else ([], false)) = (r1, r2) := by unfold finD at hr; rw [hg] at hr; exact hr
    have HT := Aside0.mk hT
    have HW := Aside0.mk (fun W (t : Bool) (ht : decide (0 ≤ a2 ∧ a2 ≤ (G.tasks.length : Int) - 1) = t) => within_is a2 0 ((G.tasks.length : Int) - 1) t W ht)
    have HRD := Aside0.mk (fun b W (hg : IsG W b G) => ready_calls b G s W hg OK.out hs8)
    clear hr0 hr1 hT hg hr ok
    have hw2 : wrap64 ((G.tasks.length : Int) - 1) = (G.tasks.length : Int) - 1 := w64 (by omega) (by omega)
    have hw1 : IntKind.i64.wrap ((G.tasks.length : Int) - 1) = (G.tasks.length : Int) - 1 := by rw [i64_w, w64 (by omega) (by omega)]
    by_cases hx : 0 ≤ a2 ∧ a2 ≤ (G.tasks.length : Int) - 1
    · obtain ⟨i, hi⟩ := Int.eq_ofNat_of_zero_le hx.1
      have hit : a2.toNat = i := by omega
      have hi8 : i < 8 := by omega
      have hwi := HW.out
      have HW2 := Aside0.mk (fun W => hwi W true (decide_eq_true hx))
      have HHAS := Aside0.mk (has_calls (G.ready s) i hr8 hi8)
      have HWITH := Aside0.mk (with_calls s i hs8 hi8)
      have hlt : s ||| 2 ^ i < 256 := Nat.or_lt_two_pow (n := 8) hs8 (Nat.pow_lt_pow_right (by omega) hi8)
      rw [hit] at hcd
      clear HW hwi hit
      rw [← hi] at HHAS HWITH
      generalize s ||| 2 ^ i = s2 at hcd HWITH hlt
      cases hbit : (G.ready s).testBit i with
      | true =>
        rw [hbit] at HHAS hcd
        rw [if_pos ⟨hx, rfl⟩] at hcd
        obtain ⟨rfl, rfl⟩ := Prod.mk.inj hcd
        clear hcd hbit hx hi
        go_enter Tryd.func34, Tryd.ntmps34
        go_wp2_with (first | (go_at_call 54; refine HG.out.mono ?_; rintro e w1 ⟨b, rfl, hB, hgr⟩) | (go_at_call 64; refine (size_calls b G _ hgr).mono ?_; rintro e w' ⟨rfl, rfl⟩) | (go_at_call 63; refine (HW2.out _).mono ?_; rintro e w2 ⟨rfl, hB2⟩; replace hgr := hgr.move hB2; replace hB := below_step hB hB2) | (go_at_call 60; refine (HRD.out b _ hgr).mono ?_; rintro e w' ⟨rfl, rfl⟩) | (go_at_call 65; refine (HHAS.out _).mono ?_; rintro e w' ⟨rfl, rfl⟩) | (go_at_call 66; refine (HWITH.out _).mono ?_; rintro e w' ⟨rfl, rfl⟩) | (go_at_call 61; refine (list_calls s2 hlt _ (HT.out.of hB)).mono ?_; rintro e w3 ⟨v, rfl, hR, hB3⟩))
        refine bodyPost_ret (results_tmp2 rfl _ _ _) rfl ?_
        exact ⟨_, rfl, Kd.R_mono (Kd.R_lower hR hB.size) (fun _ _ => trivial), below_step hB hB3⟩
      | false =>
        rw [hbit] at HHAS hcd
        rw [if_neg (by simp)] at hcd
        obtain ⟨rfl, rfl⟩ := Prod.mk.inj hcd
        clear hcd hbit hx hi
        go_enter Tryd.func34, Tryd.ntmps34
        go_wp2_with (first | (go_at_call 54; refine HG.out.mono ?_; rintro e w1 ⟨b, rfl, hB, hgr⟩) | (go_at_call 64; refine (size_calls b G _ hgr).mono ?_; rintro e w' ⟨rfl, rfl⟩) | (go_at_call 63; refine (HW2.out _).mono ?_; rintro e w2 ⟨rfl, hB2⟩; replace hgr := hgr.move hB2; replace hB := below_step hB hB2) | (go_at_call 60; refine (HRD.out b _ hgr).mono ?_; rintro e w' ⟨rfl, rfl⟩) | (go_at_call 65; refine (HHAS.out _).mono ?_; rintro e w' ⟨rfl, rfl⟩))
        refine bodyPost_ret (results_tmp2 rfl _ _ _) rfl ?_
        exact ⟨_, rfl, Kd.R_nil _ _ _ _ _, hB⟩
    · rw [if_neg (fun h => hx h.1)] at hcd
      obtain ⟨rfl, rfl⟩ := Prod.mk.inj hcd
      have hwi := HW.out
      have HW2 := Aside0.mk (fun W => hwi W false (decide_eq_false hx))
      clear hcd hx hwi HW
      go_enter Tryd.func34, Tryd.ntmps34
      go_wp2_with (first | (go_at_call 54; refine HG.out.mono ?_; rintro e w1 ⟨b, rfl, hB, hgr⟩) | (go_at_call 64; refine (size_calls b G _ hgr).mono ?_; rintro e w' ⟨rfl, rfl⟩) | (go_at_call 63; refine (HW2.out _).mono ?_; rintro e w2 ⟨rfl, hB2⟩; replace hB := below_step hB hB2))
      refine bodyPost_ret (results_tmp2 rfl _ _ _) rfl ?_
      exact ⟨_, rfl, Kd.R_nil _ _ _ _ _, hB⟩
end Go.Proofs.YtpgfcihmgdempaaDoor.P
end
section
set_option linter.unusedVariables false
set_option linter.unusedSimpArgs false
namespace Go.Proofs.YtpgfcihmgdempaaDoor.P
open Go Go.RowKit Go.Shelf Go.Proofs.YtpgfcihmgdempaaDoorW.PrintWords Go.Proofs.YtpgfcihmgdempaaDoorW.PrintLast Go.Proofs.YtpgfcihmgdempaaDoorW.PrintMore Go.Proofs.YtpgfcihmgdempaaDoor.Core
/-- What the walk takes: the functions' results. -/
structure laws_FnExactFinishTask.Facts (k : Nat) (l0 : List S69) (l1 : List Int) (a2 : Int) : Prop where
  out : ∃ (y0 : List S30) (y1 : List Int) (R R' : List Int) (R1 : Bool) (M : Int), laws_toTaskS.f k l0 = some y0 ∧ laws_toIntS.f k l1 = some y1 ∧ spec_FinishTask.f k y0 y1 a2 = some (R, R1) ∧ impl_FinishTask.f y0 y1 a2 = some (R, R1) ∧ laws_eqIntS.f k R R = some true ∧ laws_eqTaskS.f k y0 y0 = some true ∧ laws_eqIntS.f k y1 y1 = some true ∧ laws_markIntS.f k R 1 = some (M, R') ∧ laws_heldIntS.f k R' 1 = some M ∧ 0 ≤ M ∧ 0 ≤ upI y1.length (mkT y0 (1) y0.length)
open Classical in
noncomputable def laws_FnExactFinishTask.f (k : Nat) (l0 : List S69) (l1 : List Int) (a2 : Int) : Option Bool := if (l1.length : Int) > 1048576 then some true else ((laws_szTaskS.f k l0 1048576).bind fun left => if left < 0 then some true else (if laws_FnExactFinishTask.Facts k l0 l1 a2 then some true else none))
set_option maxRecDepth 100000 in
set_option maxHeartbeats 16000000 in
theorem laws_FnExactFinishTask.calls (k : Nat) (A0 : Option Addr) (c0 : Nat) (l0 : List S69) (A1 : Option Addr) (c1 : Nat) (l1 : List Int) (a2 : Int) (r : Bool) (w : World) (hr0 : Kd.C k69 w A0 l0.length l0) (hc0 : l0.length ≤ c0) (hr1 : Kd.C (Kd.int .i64) w A1 l1.length l1) (hc1 : l1.length ≤ c1) (hT : Tab w) (h : laws_FnExactFinishTask.f k l0 l1 a2 = some r) :
    Calls Tryd.prog 8 #[.slice A0 l0.length c0, .slice A1 l1.length c1, .int .i64 a2] w fun e w' => e = .returned (.bool r) ∧ Below w.heap.size w w' := by
  have HR0 := Aside0.mk hr0
  have HC0 := Aside0.mk hc0
  have HR1 := Aside0.mk hr1
  have HC1 := Aside0.mk hc1
  have HT := Aside0.mk hT
  have HB := Aside0.mk (Below.refl w.heap.size w)
  clear hT hr0 hc0 hr1 hc1
  unfold laws_FnExactFinishTask.f at h
  by_cases b1 : (l1.length : Int) > 1048576
  · rw [if_pos b1] at h
    obtain rfl := Option.some.inj h
    have d1 : decide (1048576 < (l1.length : Int)) = true := decide_eq_true b1
    have d2 : decide (1048576 < l1.length) = true := decide_eq_true (by omega)
    clear h b1
    go_enter Tryd.func8, Tryd.ntmps8
    go_wp2
    go_ret
    exact ⟨rfl, HB.out⟩
  rw [if_neg b1] at h
  have d1_1 : decide (1048576 < (l1.length : Int)) = false := decide_eq_false b1
  have d1_2 : decide (1048576 < l1.length) = false := decide_eq_false (by omega)
  clear b1
  obtain ⟨left, hl, h⟩ := Option.bind_eq_some_iff.mp h
  have FZ := Aside0.mk hl
  clear hl
  by_cases bl : left < 0
  · rw [if_pos bl] at h
    obtain rfl := Option.some.inj h
    have d1 : decide (left < 0) = true := decide_eq_true bl
    clear h bl
    go_enter Tryd.func8, Tryd.ntmps8
    go_wp2_with (go_at_call 23; refine (laws_szTaskS.calls (hr0 := HR0.out) (hc0 := HC0.out) (h := FZ.out)).mono ?_; rintro e w1 ⟨rfl, hb⟩; replace HB := Aside0.mk hb; clear hb)
    go_ret
    exact ⟨rfl, HB.out⟩
  rw [if_neg bl] at h
  have dl : decide (left < 0) = false := decide_eq_false bl
  clear bl
  have hF := Core.of_if_some h
  obtain rfl := hF.2
  have hF := hF.1
  clear h
  obtain ⟨y0, y1, R, R', R1, M, f0, f1, fs, fi, er, e0, e1, fm, fh, hM, fk⟩ := hF.out
  have F0 := Aside0.mk f0
  have F1 := Aside0.mk f1
  have FS := Aside0.mk fs
  have FI := Aside0.mk fi
  have ER := Aside0.mk er
  have E0 := Aside0.mk e0
  have E1 := Aside0.mk e1
  have FM := Aside0.mk fm
  have FH := Aside0.mk fh
  have FK := Aside0.mk fk
  have dM : decide (M < 0) = false := decide_eq_false (by omega)
  clear hF f0 f1 fs fi er e0 e1 fm fh hM fk
  go_enter Tryd.func8, Tryd.ntmps8
  go_wp2_with (go_at_call 23; refine (laws_szTaskS.calls (hr0 := HR0.out) (hc0 := HC0.out) (h := FZ.out)).mono ?_; rintro e w1 ⟨rfl, hb⟩; have z1 := Aside0.mk (hb).size; replace HB := Aside0.mk (below_step HB.out hb); clear hb)
  go_wp2_with (go_at_call 24; refine (laws_toTaskS.calls (hr0 := Kd.C_below HR0.out HB.out) (hc0 := HC0.out) (h := F0.out)).mono ?_; rintro e w2 ⟨v_w0_aG, rfl, ho, hb⟩; have z2 := Aside0.mk (hb).size; replace HB := Aside0.mk (below_step HB.out hb); have H_w0_aG := Aside0.mk (Kd.R_mono (Kd.R_bound (Kd.S_R ho)) (fun k_ hk_ => hk_.2.2.1) : Kd.R k30 30 w2 w1.heap.size (fun k_ => k_ < w2.heap.size) v_w0_aG _); obtain ⟨A_w0_aG, c_w0_aG, e_w0_aG⟩ := Kd.R_slice H_w0_aG.out; subst e_w0_aG; clear ho hb)
  go_wp2_with (go_at_call 31; refine (laws_toIntS.calls (hr0 := Kd.C_below HR1.out HB.out) (hc0 := HC1.out) (h := F1.out)).mono ?_; rintro e w3 ⟨v_w0_aDone, rfl, ho, hb⟩; have z3 := Aside0.mk (hb).size; replace HB := Aside0.mk (below_step HB.out hb); replace H_w0_aG := Aside0.mk (Kd.R_below H_w0_aG.out hb); have H_w0_aDone := Aside0.mk (Kd.R_mono (Kd.R_bound ho) (fun k_ hk_ => hk_.2.2.1) : Kd.R (Kd.int .i64) 3 w3 w2.heap.size (fun k_ => k_ < w3.heap.size) v_w0_aDone _); obtain ⟨A_w0_aDone, c_w0_aDone, e_w0_aDone⟩ := Kd.R_slice H_w0_aDone.out; subst e_w0_aDone; clear ho hb)
  go_wp2_with (go_at_call 33; refine (spec_FinishTask.calls (hr0 := (Kd.R_reads' H_w0_aG.out).2.2) (hc0 := (Kd.R_reads' H_w0_aG.out).2.1) (hr1 := (Kd.R_reads' H_w0_aDone.out).2.2) (hc1 := (Kd.R_reads' H_w0_aDone.out).2.1) (h := FS.out)).mono ?_; rintro e w4 ⟨v_w0, rfl, ho, hb⟩; have z4 := Aside0.mk (hb).size; replace HB := Aside0.mk (below_step HB.out hb); replace H_w0_aG := Aside0.mk (Kd.R_below H_w0_aG.out hb); replace H_w0_aDone := Aside0.mk (Kd.R_below H_w0_aDone.out hb); have H_w0 := Aside0.mk (Kd.R_mono (Kd.R_bound ho) (fun k_ hk_ => hk_.2.2.1) : Kd.R (Kd.int .i64) 3 w4 w3.heap.size (fun k_ => k_ < w4.heap.size) v_w0 _); obtain ⟨A_w0, c_w0, e_w0⟩ := Kd.R_slice H_w0.out; subst e_w0; clear ho hb)
  clear H_w0_aG
  clear H_w0_aDone
  go_wp2_with (go_at_call 24; refine (laws_toTaskS.calls (hr0 := Kd.C_below HR0.out HB.out) (hc0 := HC0.out) (h := F0.out)).mono ?_; rintro e w5 ⟨v_x0, rfl, ho, hb⟩; have z5 := Aside0.mk (hb).size; replace HB := Aside0.mk (below_step HB.out hb); replace H_w0 := Aside0.mk (Kd.R_below H_w0.out hb); have H_x0 := Aside0.mk (Kd.R_mono (Kd.R_bound (Kd.S_R ho)) (fun k_ hk_ => hk_.2.2.1) : Kd.R k30 30 w5 w4.heap.size (fun k_ => k_ < w5.heap.size) v_x0 _); obtain ⟨A_x0, c_x0, e_x0⟩ := Kd.R_slice H_x0.out; subst e_x0; clear ho hb)
  go_wp2_with (go_at_call 31; refine (laws_toIntS.calls (hr0 := Kd.C_below HR1.out HB.out) (hc0 := HC1.out) (h := F1.out)).mono ?_; rintro e w6 ⟨v_x1, rfl, ho, hb⟩; have z6 := Aside0.mk (hb).size; replace HB := Aside0.mk (below_step HB.out hb); replace H_w0 := Aside0.mk (Kd.R_below H_w0.out hb); replace H_x0 := Aside0.mk (Kd.R_below H_x0.out hb); have H_x1 := Aside0.mk (Kd.R_mono (Kd.R_bound ho) (fun k_ hk_ => hk_.2.2.1) : Kd.R (Kd.int .i64) 3 w6 w5.heap.size (fun k_ => k_ < w6.heap.size) v_x1 _); obtain ⟨A_x1, c_x1, e_x1⟩ := Kd.R_slice H_x1.out; subst e_x1; clear ho hb)
  go_wp2_with (go_at_call 34; refine (impl_FinishTask.calls (hr0 := (Kd.R_reads' H_x0.out).2.2) (hc0 := (Kd.R_reads' H_x0.out).2.1) (hr1 := (Kd.R_reads' H_x1.out).2.2) (hc1 := (Kd.R_reads' H_x1.out).2.1) (hT := Tab.of HT.out HB.out) (h := FI.out)).mono ?_; rintro e w7 ⟨v_g0, rfl, ho, hb⟩; have z7 := Aside0.mk (hb).size; replace HB := Aside0.mk (below_step HB.out hb); replace H_w0 := Aside0.mk (Kd.R_below H_w0.out hb); replace H_x0 := Aside0.mk (Kd.R_below H_x0.out hb); replace H_x1 := Aside0.mk (Kd.R_below H_x1.out hb); have H_g0 := Aside0.mk (Kd.R_mono (Kd.R_bound ho) (fun k_ hk_ => hk_.2.2.1) : Kd.R (Kd.int .i64) 3 w7 w6.heap.size (fun k_ => k_ < w7.heap.size) v_g0 _); obtain ⟨A_g0, c_g0, e_g0⟩ := Kd.R_slice H_g0.out; subst e_g0; clear ho hb)
  go_wp2_with (go_at_call 25; refine (laws_eqIntS.calls (hr0 := (Kd.R_reads' H_g0.out).2.2) (hc0 := (Kd.R_reads' H_g0.out).2.1) (hr1 := (Kd.R_reads' H_w0.out).2.2) (hc1 := (Kd.R_reads' H_w0.out).2.1) (h := ER.out)).mono ?_; rintro e w8 ⟨rfl, hd⟩; have hb := drawn0_below hd; have z8 := Aside0.mk (hb).size; replace HB := Aside0.mk (below_step HB.out hb); replace H_w0 := Aside0.mk (Kd.R_below H_w0.out hb); replace H_x0 := Aside0.mk (Kd.R_below H_x0.out hb); replace H_x1 := Aside0.mk (Kd.R_below H_x1.out hb); replace H_g0 := Aside0.mk (Kd.R_below H_g0.out hb); clear hd hb)
  go_wp2_with (go_at_call 24; refine (laws_toTaskS.calls (hr0 := Kd.C_below HR0.out HB.out) (hc0 := HC0.out) (h := F0.out)).mono ?_; rintro e w9 ⟨v_t_aG, rfl, ho, hb⟩; have z9 := Aside0.mk (hb).size; replace HB := Aside0.mk (below_step HB.out hb); replace H_w0 := Aside0.mk (Kd.R_below H_w0.out hb); replace H_x0 := Aside0.mk (Kd.R_below H_x0.out hb); replace H_x1 := Aside0.mk (Kd.R_below H_x1.out hb); replace H_g0 := Aside0.mk (Kd.R_below H_g0.out hb); have H_t_aG := Aside0.mk (Kd.R_mono (Kd.R_bound (Kd.S_R ho)) (fun k_ hk_ => hk_.2.2.1) : Kd.R k30 30 w9 w8.heap.size (fun k_ => k_ < w9.heap.size) v_t_aG _); obtain ⟨A_t_aG, c_t_aG, e_t_aG⟩ := Kd.R_slice H_t_aG.out; subst e_t_aG; clear ho hb)
  go_wp2_with (go_at_call 26; refine (laws_eqTaskS.calls (hr0 := (Kd.R_reads' H_x0.out).2.2) (hc0 := (Kd.R_reads' H_x0.out).2.1) (hr1 := (Kd.R_reads' H_t_aG.out).2.2) (hc1 := (Kd.R_reads' H_t_aG.out).2.1) (h := E0.out)).mono ?_; rintro e w10 ⟨rfl, hd⟩; have hb := hd; have z10 := Aside0.mk (hb).size; replace HB := Aside0.mk (below_step HB.out hb); replace H_w0 := Aside0.mk (Kd.R_below H_w0.out hb); replace H_x0 := Aside0.mk (Kd.R_below H_x0.out hb); replace H_x1 := Aside0.mk (Kd.R_below H_x1.out hb); replace H_g0 := Aside0.mk (Kd.R_below H_g0.out hb); replace H_t_aG := Aside0.mk (Kd.R_below H_t_aG.out hb); clear hd hb)
  clear H_t_aG
  go_wp2_with (go_at_call 31; refine (laws_toIntS.calls (hr0 := Kd.C_below HR1.out HB.out) (hc0 := HC1.out) (h := F1.out)).mono ?_; rintro e w11 ⟨v_t_aDone, rfl, ho, hb⟩; have z11 := Aside0.mk (hb).size; replace HB := Aside0.mk (below_step HB.out hb); replace H_w0 := Aside0.mk (Kd.R_below H_w0.out hb); replace H_x0 := Aside0.mk (Kd.R_below H_x0.out hb); replace H_x1 := Aside0.mk (Kd.R_below H_x1.out hb); replace H_g0 := Aside0.mk (Kd.R_below H_g0.out hb); have H_t_aDone := Aside0.mk (Kd.R_mono (Kd.R_bound ho) (fun k_ hk_ => hk_.2.2.1) : Kd.R (Kd.int .i64) 3 w11 w10.heap.size (fun k_ => k_ < w11.heap.size) v_t_aDone _); obtain ⟨A_t_aDone, c_t_aDone, e_t_aDone⟩ := Kd.R_slice H_t_aDone.out; subst e_t_aDone; clear ho hb)
  go_wp2_with (go_at_call 25; refine (laws_eqIntS.calls (hr0 := (Kd.R_reads' H_x1.out).2.2) (hc0 := (Kd.R_reads' H_x1.out).2.1) (hr1 := (Kd.R_reads' H_t_aDone.out).2.2) (hc1 := (Kd.R_reads' H_t_aDone.out).2.1) (h := E1.out)).mono ?_; rintro e w12 ⟨rfl, hd⟩; have hb := drawn0_below hd; have z12 := Aside0.mk (hb).size; replace HB := Aside0.mk (below_step HB.out hb); replace H_w0 := Aside0.mk (Kd.R_below H_w0.out hb); replace H_x0 := Aside0.mk (Kd.R_below H_x0.out hb); replace H_x1 := Aside0.mk (Kd.R_below H_x1.out hb); replace H_g0 := Aside0.mk (Kd.R_below H_g0.out hb); replace H_t_aDone := Aside0.mk (Kd.R_below H_t_aDone.out hb); clear hd hb)
  clear H_t_aDone
  obtain ⟨K13, hK13⟩ : ∃ x_, x_ = mkT y0 (1) y0.length := ⟨_, rfl⟩
  have HK13 := Aside0.mk hK13
  clear hK13
  go_wp2_with (go_at_call 27; refine (markTaskS_in w4.heap.size w5.heap.size _ y0 (1) _ H_x0.out).mono ?_; rintro e w13 ⟨he, hm⟩; rw [← HK13.out] at he; subst he; have z13 := Aside0.mk (hm).below.size; have hlo : w.heap.size ≤ w4.heap.size := (by have q1 := z1.out; have q2 := z2.out; have q3 := z3.out; have q4 := z4.out; have q5 := z5.out; have q6 := z6.out; have q7 := z7.out; have q8 := z8.out; have q9 := z9.out; have q10 := z10.out; have q11 := z11.out; have q12 := z12.out; omega); replace HB := Aside0.mk (HB.out.trans ((hm).below.mono hlo)); clear hlo; replace H_w0 := Aside0.mk (Kd.R_kept (Kd.R_bound H_w0.out) (hm).kept (fun k_ hk_ hs_ => by have q1 := z1.out; have q2 := z2.out; have q3 := z3.out; have q4 := z4.out; have q5 := z5.out; have q6 := z6.out; have q7 := z7.out; have q8 := z8.out; have q9 := z9.out; have q10 := z10.out; have q11 := z11.out; have q12 := z12.out; have e1_ := hk_.1; have e2_ := hk_.2.1; have e3_ := hs_.1; have e4_ := hs_.2; omega)); replace H_w0 := Aside0.mk (Kd.R_mono H_w0.out (fun k_ hk_ => hk_.1)); replace H_x1 := Aside0.mk (Kd.R_kept (Kd.R_bound H_x1.out) (hm).kept (fun k_ hk_ hs_ => by have q1 := z1.out; have q2 := z2.out; have q3 := z3.out; have q4 := z4.out; have q5 := z5.out; have q6 := z6.out; have q7 := z7.out; have q8 := z8.out; have q9 := z9.out; have q10 := z10.out; have q11 := z11.out; have q12 := z12.out; have e1_ := hk_.1; have e2_ := hk_.2.1; have e3_ := hs_.1; have e4_ := hs_.2; omega)); replace H_x1 := Aside0.mk (Kd.R_mono H_x1.out (fun k_ hk_ => hk_.1)); replace H_g0 := Aside0.mk (Kd.R_kept (Kd.R_bound H_g0.out) (hm).kept (fun k_ hk_ hs_ => by have q1 := z1.out; have q2 := z2.out; have q3 := z3.out; have q4 := z4.out; have q5 := z5.out; have q6 := z6.out; have q7 := z7.out; have q8 := z8.out; have q9 := z9.out; have q10 := z10.out; have q11 := z11.out; have q12 := z12.out; have e1_ := hk_.1; have e2_ := hk_.2.1; have e3_ := hs_.1; have e4_ := hs_.2; omega)); replace H_g0 := Aside0.mk (Kd.R_mono H_g0.out (fun k_ hk_ => hk_.1)); clear hm H_x0)
  obtain ⟨K14, hK14⟩ : ∃ x_, x_ = upI y1.length (K13) := ⟨_, rfl⟩
  have dK : decide (K14 < 0) = false := decide_eq_false (by have h1 := FK.out; rw [← HK13.out, ← hK14] at h1; omega)
  have HK14 := Aside0.mk hK14
  clear hK14
  go_wp2_with (go_at_call 28; refine (markIntS_in w5.heap.size w6.heap.size _ y1 (K13) _ H_x1.out).mono ?_; rintro e w14 ⟨he, hm⟩; rw [← HK14.out] at he; subst he; have z14 := Aside0.mk (hm).below.size; have hlo : w.heap.size ≤ w5.heap.size := (by have q1 := z1.out; have q2 := z2.out; have q3 := z3.out; have q4 := z4.out; have q5 := z5.out; have q6 := z6.out; have q7 := z7.out; have q8 := z8.out; have q9 := z9.out; have q10 := z10.out; have q11 := z11.out; have q12 := z12.out; have q13 := z13.out; omega); replace HB := Aside0.mk (HB.out.trans ((hm).below.mono hlo)); clear hlo; replace H_w0 := Aside0.mk (Kd.R_kept (Kd.R_bound H_w0.out) (hm).kept (fun k_ hk_ hs_ => by have q1 := z1.out; have q2 := z2.out; have q3 := z3.out; have q4 := z4.out; have q5 := z5.out; have q6 := z6.out; have q7 := z7.out; have q8 := z8.out; have q9 := z9.out; have q10 := z10.out; have q11 := z11.out; have q12 := z12.out; have q13 := z13.out; have e1_ := hk_.1; have e2_ := hk_.2.1; have e3_ := hs_.1; have e4_ := hs_.2; omega)); replace H_w0 := Aside0.mk (Kd.R_mono H_w0.out (fun k_ hk_ => hk_.1)); replace H_g0 := Aside0.mk (Kd.R_kept (Kd.R_bound H_g0.out) (hm).kept (fun k_ hk_ hs_ => by have q1 := z1.out; have q2 := z2.out; have q3 := z3.out; have q4 := z4.out; have q5 := z5.out; have q6 := z6.out; have q7 := z7.out; have q8 := z8.out; have q9 := z9.out; have q10 := z10.out; have q11 := z11.out; have q12 := z12.out; have q13 := z13.out; have e1_ := hk_.1; have e2_ := hk_.2.1; have e3_ := hs_.1; have e4_ := hs_.2; omega)); replace H_g0 := Aside0.mk (Kd.R_mono H_g0.out (fun k_ hk_ => hk_.1)); clear hm H_x1)
  go_wp2_with (go_at_call 25; refine (laws_eqIntS.calls (hr0 := (Kd.R_reads' H_g0.out).2.2) (hc0 := (Kd.R_reads' H_g0.out).2.1) (hr1 := (Kd.R_reads' H_w0.out).2.2) (hc1 := (Kd.R_reads' H_w0.out).2.1) (h := ER.out)).mono ?_; rintro e w15 ⟨rfl, hd⟩; have hb := drawn0_below hd; have z15 := Aside0.mk (hb).size; replace HB := Aside0.mk (below_step HB.out hb); replace H_w0 := Aside0.mk (Kd.R_below H_w0.out hb); replace H_g0 := Aside0.mk (Kd.R_below H_g0.out hb); clear hd hb)
  have HL := Aside0.mk (show w.heap.size ≤ w6.heap.size from (by have q1 := z1.out; have q2 := z2.out; have q3 := z3.out; have q4 := z4.out; have q5 := z5.out; have q6 := z6.out; have q7 := z7.out; have q8 := z8.out; have q9 := z9.out; have q10 := z10.out; have q11 := z11.out; have q12 := z12.out; have q13 := z13.out; have q14 := z14.out; have q15 := z15.out; omega))
  go_wp2_with (go_at_call 28; refine (laws_markIntS.calls (w0 := w) (P0_ := fun k_ => w6.heap.size ≤ k_ ∧ k_ < w7.heap.size) (hB := HB.out) (ho0 := Kd.R_lower (Kd.R_mono (Kd.R_bound H_g0.out) (fun k_ hk_ => ⟨hk_.2.1, hk_.1⟩)) HL.out) (h := FM.out)).mono ?_; rintro e w16 ⟨rfl, ho, hb, hkp⟩; have z16 := Aside0.mk hkp.1; replace HB := Aside0.mk hb; replace H_w0 := Aside0.mk (Kd.R_kept (Kd.R_bound H_w0.out) hkp (fun k_ hk_ hs_ => by have q1 := z1.out; have q2 := z2.out; have q3 := z3.out; have q4 := z4.out; have q5 := z5.out; have q6 := z6.out; have q7 := z7.out; have q8 := z8.out; have q9 := z9.out; have q10 := z10.out; have q11 := z11.out; have q12 := z12.out; have q13 := z13.out; have q14 := z14.out; have q15 := z15.out; have e1_ := hk_.1; have e2_ := hk_.2.1; have e3_ := hs_.1; have e4_ := hs_.2; omega)); replace H_w0 := Aside0.mk (Kd.R_mono H_w0.out (fun k_ hk_ => hk_.1)); replace H_g0 := Aside0.mk ho; clear ho hb hkp)
  go_wp2_with (go_at_call 29; refine (heldIntS_n (Kd.R_reads' H_g0.out) FH.out).mono ?_; rintro e w17 ⟨rfl, hd⟩; have hb := drawn0_below hd; have z17 := Aside0.mk (hb).size; replace HB := Aside0.mk (below_step HB.out hb); replace H_w0 := Aside0.mk (Kd.R_below H_w0.out hb); replace H_g0 := Aside0.mk (Kd.R_below H_g0.out hb); clear hd hb)
  go_wp2_with (go_at_call 24; refine (laws_toTaskS.calls (hr0 := Kd.C_below HR0.out HB.out) (hc0 := HC0.out) (h := F0.out)).mono ?_; rintro e w18 ⟨v_h0_aG, rfl, ho, hb⟩; have z18 := Aside0.mk (hb).size; replace HB := Aside0.mk (below_step HB.out hb); replace H_w0 := Aside0.mk (Kd.R_below H_w0.out hb); replace H_g0 := Aside0.mk (Kd.R_below H_g0.out hb); have H_h0_aG := Aside0.mk (Kd.R_mono (Kd.R_bound (Kd.S_R ho)) (fun k_ hk_ => hk_.2.2.1) : Kd.R k30 30 w18 w17.heap.size (fun k_ => k_ < w18.heap.size) v_h0_aG _); obtain ⟨A_h0_aG, c_h0_aG, e_h0_aG⟩ := Kd.R_slice H_h0_aG.out; subst e_h0_aG; clear ho hb)
  go_wp2_with (go_at_call 31; refine (laws_toIntS.calls (hr0 := Kd.C_below HR1.out HB.out) (hc0 := HC1.out) (h := F1.out)).mono ?_; rintro e w19 ⟨v_h0_aDone, rfl, ho, hb⟩; have z19 := Aside0.mk (hb).size; replace HB := Aside0.mk (below_step HB.out hb); replace H_w0 := Aside0.mk (Kd.R_below H_w0.out hb); replace H_g0 := Aside0.mk (Kd.R_below H_g0.out hb); replace H_h0_aG := Aside0.mk (Kd.R_below H_h0_aG.out hb); have H_h0_aDone := Aside0.mk (Kd.R_mono (Kd.R_bound ho) (fun k_ hk_ => hk_.2.2.1) : Kd.R (Kd.int .i64) 3 w19 w18.heap.size (fun k_ => k_ < w19.heap.size) v_h0_aDone _); obtain ⟨A_h0_aDone, c_h0_aDone, e_h0_aDone⟩ := Kd.R_slice H_h0_aDone.out; subst e_h0_aDone; clear ho hb)
  go_wp2_with (go_at_call 34; refine (impl_FinishTask.calls (hr0 := (Kd.R_reads' H_h0_aG.out).2.2) (hc0 := (Kd.R_reads' H_h0_aG.out).2.1) (hr1 := (Kd.R_reads' H_h0_aDone.out).2.2) (hc1 := (Kd.R_reads' H_h0_aDone.out).2.1) (hT := Tab.of HT.out HB.out) (h := FI.out)).mono ?_; rintro e w20 ⟨v_h0, rfl, ho, hb⟩; have z20 := Aside0.mk (hb).size; replace HB := Aside0.mk (below_step HB.out hb); replace H_w0 := Aside0.mk (Kd.R_below H_w0.out hb); replace H_g0 := Aside0.mk (Kd.R_below H_g0.out hb); replace H_h0_aG := Aside0.mk (Kd.R_below H_h0_aG.out hb); replace H_h0_aDone := Aside0.mk (Kd.R_below H_h0_aDone.out hb); have H_h0 := Aside0.mk (Kd.R_mono (Kd.R_bound ho) (fun k_ hk_ => hk_.2.2.1) : Kd.R (Kd.int .i64) 3 w20 w19.heap.size (fun k_ => k_ < w20.heap.size) v_h0 _); obtain ⟨A_h0, c_h0, e_h0⟩ := Kd.R_slice H_h0.out; subst e_h0; clear ho hb)
  clear H_h0_aG
  clear H_h0_aDone
  go_wp2_with (go_at_call 25; refine (laws_eqIntS.calls (hr0 := (Kd.R_reads' H_h0.out).2.2) (hc0 := (Kd.R_reads' H_h0.out).2.1) (hr1 := (Kd.R_reads' H_w0.out).2.2) (hc1 := (Kd.R_reads' H_w0.out).2.1) (h := ER.out)).mono ?_; rintro e w21 ⟨rfl, hd⟩; have hb := drawn0_below hd; have z21 := Aside0.mk (hb).size; replace HB := Aside0.mk (below_step HB.out hb); replace H_w0 := Aside0.mk (Kd.R_below H_w0.out hb); replace H_g0 := Aside0.mk (Kd.R_below H_g0.out hb); replace H_h0 := Aside0.mk (Kd.R_below H_h0.out hb); clear hd hb)
  go_wp2_with (go_at_call 29; refine (heldIntS_n (Kd.R_reads' H_g0.out) FH.out).mono ?_; rintro e w22 ⟨rfl, hd⟩; have hb := drawn0_below hd; have z22 := Aside0.mk (hb).size; replace HB := Aside0.mk (below_step HB.out hb); replace H_w0 := Aside0.mk (Kd.R_below H_w0.out hb); replace H_g0 := Aside0.mk (Kd.R_below H_g0.out hb); replace H_h0 := Aside0.mk (Kd.R_below H_h0.out hb); clear hd hb)
  go_ret
  exact ⟨rfl, HB.out⟩
end Go.Proofs.YtpgfcihmgdempaaDoor.P
end
section
set_option linter.unusedVariables false
set_option linter.unusedSimpArgs false
namespace Go.Proofs.YtpgfcihmgdempaaDoor.Core
open Go Go.RowKit Go.Proofs.YtpgfcihmgdempaaDoorW.PrintWords Go.Proofs.YtpgfcihmgdempaaDoorW.PrintMore Go.Proofs.YtpgfcihmgdempaaDoor.P
theorem FnExactFinishTask_pure (l0 : List Lt) (l1 : List Int) (a2 : Int) (hs0 : Small l0) (hw2 : (Lit.int .i64 a2).wf = true) : ∃ k, laws_FnExactFinishTask.f k l0 l1 a2 = some true := by
  refine Ev.one (f := fun k => laws_FnExactFinishTask.f k l0 l1 a2) ?_
  unfold laws_FnExactFinishTask.f
  by_cases b1 : (l1.length : Int) > 1048576
  · exact Ev.pos b1 (Ev.const _)
  refine Ev.neg b1 ?_
  refine Ev.bind (ev_sz hs0 (x := 1048576) (by omega) (by omega)) ?_
  by_cases h : szD l0 1048576 < 0
  · exact Ev.pos h (Ev.const _)
  obtain ⟨h1, h2⟩ := szD_fits (by omega) h
  refine Ev.neg h ?_
  have hf := fits_conv h1 h2
  have hR : (finD (l0.map conv) l1 a2).1.length ≤ 8 := finD_length (l0.map conv) l1 a2
  obtain ⟨n1, f1⟩ := ev_toTaskS h1 h2
  obtain ⟨n2, f2⟩ := ev_toIntS (L := l1) (by omega)
  obtain ⟨n3, f3⟩ := ev_FinishTask hf (l := l1) (by unfold big; omega) a2
  obtain ⟨n4, f4⟩ := ev_eqIntS (L := (finD (l0.map conv) l1 a2).1) (by unfold big; omega)
  obtain ⟨n5, f5⟩ := ev_eqTaskS hf
  obtain ⟨n6, f6⟩ := ev_eqIntS (L := l1) (by unfold big; omega)
  obtain ⟨n7, f7⟩ := ev_markIntS (L := (finD (l0.map conv) l1 a2).1) (a := 1) (by omega) (by omega)
  obtain ⟨n8, f8⟩ := ev_heldIntS (n := (finD (l0.map conv) l1 a2).1.length) (a := 1) (by omega) (by omega)
  have hm := mkT_le (l := (l0.map conv)) (a := 1) (by omega) (by omega) (by simpa using h1) (fun t ht => by obtain ⟨x, hx, rfl⟩ := List.mem_map.1 ht; exact h2 x hx) (l0.map conv).length (Nat.le_refl _)
  have hlen : (l0.map conv).length = l0.length := List.length_map ..
  refine ⟨n1 + n2 + n3 + n4 + n5 + n6 + n7 + n8, fun k hk => ?_⟩
  refine if_pos ⟨(l0.map conv), l1, (finD (l0.map conv) l1 a2).1, _, (finD (l0.map conv) l1 a2).2, _, f1 k (by omega), f2 k (by omega), f3 k (by omega), rfl, f4 k (by omega), f5 k (by omega), f6 k (by omega), f7 k (by omega), f8 k (by omega), by omega, ?_⟩
  rw [upI_eq hm.1 _ (by omega)]
  omega
end Go.Proofs.YtpgfcihmgdempaaDoor.Core
end
