/- The law FnExactLatestStarts holds of the given program: the proof's own part, with its row and its card, part 4 of 7. -/
import Derived.Test.YtpgfcihmgdempaaDoorZFnExactLatestStarts3
section
set_option linter.unusedVariables false
set_option linter.unusedSimpArgs false
namespace Go.Proofs.YtpgfcihmgdempaaDoor.Core
open Go Go.RowKit Go.Proofs.YtpgfcihmgdempaaDoorW.PrintWords Go.Proofs.YtpgfcihmgdempaaDoorW.PrintMore Go.Proofs.YtpgfcihmgdempaaDoor.P
theorem ev_latest {g : List Tk} (hg : Fits g) {G : GD} (hG : graphD g = some G) {dl : Int} (hd : 0 ≤ dl ∧ dl ≤ 200) : Ev (fun k => spec_latest.f k g dl) ((up (tailsN G)).map (dl - ·)) := by
  have v := vg_of hG
  have h8 := v.n8
  have hT := tails_ok v
  have htm := tm20_of (fun t ht => (v.fine.1 t ht).1)
  have hle := tailsN_le (graphD_ok hG) (by rw [v.tasks]; exact htm)
  have hl : (up (tailsN G)).length = g.length := by rw [up_length, hT.1]
  unfold spec_latest.f
  refine Ev.bind (ev_tails hg hG) ?_
  have key : ∀ (m i : Nat), i + m = g.length → Ev (fun k => spec_latest.l0 k g dl (((up (tailsN G)).take i).map (dl - ·)) (up (tailsN G)) (i : Int)) ((up (tailsN G)).map (dl - ·)) := by
    intro m
    induction m with
    | zero =>
      intro i hi
      refine Ev.succ ?_
      simp only [spec_latest.l0]
      refine Ev.neg (by omega) ((Ev.const _).conv ?_)
      rw [List.take_of_length_le (by omega)]
    | succ m ih =>
      intro i hi
      have hw : wrap64 ((i : Int) + 1) = ((i + 1 : Nat) : Int) := w64s (by unfold big; omega)
      have hr : rd (up (tailsN G)) (i : Int) = (((tailsN G).getD i 0 : Nat) : Int) := rd_up rfl
      have hb := hle i
      have hw2 : wrap64 (dl - (((tailsN G).getD i 0 : Nat) : Int)) = dl - (((tailsN G).getD i 0 : Nat) : Int) := w64 (by omega) (by omega)
      have h := ih (i + 1) (by omega)
      have et : ((up (tailsN G)).take (i + 1)).map (dl - ·) = ((up (tailsN G)).take i).map (dl - ·) ++ [dl - (((tailsN G).getD i 0 : Nat) : Int)] := by
        have hi2 : i < (tailsN G).length := by rw [hT.1]; omega
        rw [List.take_add_one, List.map_append]
        congr 1
        simp [up, hi2]
      rw [et] at h
      refine Ev.succ ?_
      simp only [spec_latest.l0, hr, hw, hw2]
      exact Ev.pos (by omega) (Ev.pos (by omega) (Ev.pos (by omega) (Ev.pos (by rw [List.length_map, List.length_take]; omega) h)))
  exact key g.length 0 (by omega)
theorem ev_LatestStarts {g : List Tk} (hg : Fits g) (dl : Int) : Ev (fun k => spec_LatestStarts.f k g dl) (latestD g dl) := by
  unfold spec_LatestStarts.f latestD
  refine Ev.bind (ev_validGraph hg) ?_
  cases hG : graphD g with
  | none => exact Ev.neg (by simp) (Ev.const _)
  | some G =>
    refine Ev.pos (by first | rfl | trivial) ?_
    rw [inRange_eq]
    refine Ev.sb ?_
    simp only []
    by_cases hd : 0 ≤ dl ∧ dl ≤ 200
    · rw [if_pos hd]
      exact Ev.pos (by rw [decide_eq_true hd]) (Ev.bind (ev_latest hg hG hd) (Ev.const _))
    · rw [if_neg hd]
      exact Ev.neg (by rw [decide_eq_false hd]; simp) (Ev.const _)
end Go.Proofs.YtpgfcihmgdempaaDoor.Core
end
section
set_option linter.unusedVariables false
set_option linter.unusedSimpArgs false
namespace Go.Proofs.YtpgfcihmgdempaaDoor.P
open Go Go.RowKit Go.Shelf Go.Proofs.YtpgfcihmgdempaaDoorW.PrintWords Go.Proofs.YtpgfcihmgdempaaDoorW.PrintLast Go.Proofs.YtpgfcihmgdempaaDoorW.PrintMore Go.Proofs.YtpgfcihmgdempaaDoor.Core
/-- What the walk takes: the functions' results. -/
structure laws_FnExactLatestStarts.Facts (k : Nat) (l0 : List S69) (a1 : Int) : Prop where
  out : ∃ (y0 : List S30) (R R' : List Int) (M : Int), laws_toTaskS.f k l0 = some y0 ∧ spec_LatestStarts.f k y0 a1 = some R ∧ impl_LatestStarts.f y0 a1 = some R ∧ laws_eqIntS.f k R R = some true ∧ laws_eqTaskS.f k y0 y0 = some true ∧ laws_markIntS.f k R 1 = some (M, R') ∧ laws_heldIntS.f k R' 1 = some M ∧ 0 ≤ M ∧ 0 ≤ mkT y0 (1) y0.length
open Classical in
noncomputable def laws_FnExactLatestStarts.f (k : Nat) (l0 : List S69) (a1 : Int) : Option Bool := (laws_szTaskS.f k l0 1048576).bind fun left => if left < 0 then some true else (if laws_FnExactLatestStarts.Facts k l0 a1 then some true else none)
set_option maxRecDepth 100000 in
set_option maxHeartbeats 16000000 in
theorem laws_FnExactLatestStarts.calls (k : Nat) (A0 : Option Addr) (c0 : Nat) (l0 : List S69) (a1 : Int) (r : Bool) (w : World) (hr0 : Kd.C k69 w A0 l0.length l0) (hc0 : l0.length ≤ c0) (hT : Tab w) (h : laws_FnExactLatestStarts.f k l0 a1 = some r) :
    Calls Tryd.prog 6 #[.slice A0 l0.length c0, .int .i64 a1] w fun e w' => e = .returned (.bool r) ∧ Below w.heap.size w w' := by
  have HR0 := Aside0.mk hr0
  have HC0 := Aside0.mk hc0
  have HT := Aside0.mk hT
  have HB := Aside0.mk (Below.refl w.heap.size w)
  clear hT hr0 hc0
  unfold laws_FnExactLatestStarts.f at h
  obtain ⟨left, hl, h⟩ := Option.bind_eq_some_iff.mp h
  have FZ := Aside0.mk hl
  clear hl
  by_cases bl : left < 0
  · rw [if_pos bl] at h
    obtain rfl := Option.some.inj h
    have d1 : decide (left < 0) = true := decide_eq_true bl
    clear h bl
    go_enter Tryd.func6, Tryd.ntmps6
    go_wp2_with (go_at_call 23; refine (laws_szTaskS.calls (hr0 := HR0.out) (hc0 := HC0.out) (h := FZ.out)).mono ?_; rintro e w1 ⟨rfl, hb⟩; replace HB := Aside0.mk hb; clear hb)
    go_ret
    exact ⟨rfl, HB.out⟩
  rw [if_neg bl] at h
  have dl : decide (left < 0) = false := decide_eq_false bl
  clear bl
  have hF := Core.of_if_some h
  obtain rfl := hF.2
  have hF := hF.1
  clear h
  obtain ⟨y0, R, R', M, f0, fs, fi, er, e0, fm, fh, hM, fk⟩ := hF.out
  have F0 := Aside0.mk f0
  have FS := Aside0.mk fs
  have FI := Aside0.mk fi
  have ER := Aside0.mk er
  have E0 := Aside0.mk e0
  have FM := Aside0.mk fm
  have FH := Aside0.mk fh
  have FK := Aside0.mk fk
  have dM : decide (M < 0) = false := decide_eq_false (by omega)
  clear hF f0 fs fi er e0 fm fh hM fk
  go_enter Tryd.func6, Tryd.ntmps6
  go_wp2_with (go_at_call 23; refine (laws_szTaskS.calls (hr0 := HR0.out) (hc0 := HC0.out) (h := FZ.out)).mono ?_; rintro e w1 ⟨rfl, hb⟩; have z1 := Aside0.mk (hb).size; replace HB := Aside0.mk (below_step HB.out hb); clear hb)
  go_wp2_with (go_at_call 24; refine (laws_toTaskS.calls (hr0 := Kd.C_below HR0.out HB.out) (hc0 := HC0.out) (h := F0.out)).mono ?_; rintro e w2 ⟨v_w0_aG, rfl, ho, hb⟩; have z2 := Aside0.mk (hb).size; replace HB := Aside0.mk (below_step HB.out hb); have H_w0_aG := Aside0.mk (Kd.R_mono (Kd.R_bound (Kd.S_R ho)) (fun k_ hk_ => hk_.2.2.1) : Kd.R k30 30 w2 w1.heap.size (fun k_ => k_ < w2.heap.size) v_w0_aG _); obtain ⟨A_w0_aG, c_w0_aG, e_w0_aG⟩ := Kd.R_slice H_w0_aG.out; subst e_w0_aG; clear ho hb)
  go_wp2_with (go_at_call 18; refine (spec_LatestStarts.calls (hr0 := (Kd.R_reads' H_w0_aG.out).2.2) (hc0 := (Kd.R_reads' H_w0_aG.out).2.1) (h := FS.out)).mono ?_; rintro e w3 ⟨v_w0, rfl, ho, hb⟩; have z3 := Aside0.mk (hb).size; replace HB := Aside0.mk (below_step HB.out hb); replace H_w0_aG := Aside0.mk (Kd.R_below H_w0_aG.out hb); have H_w0 := Aside0.mk (Kd.R_mono (Kd.R_bound ho) (fun k_ hk_ => hk_.2.2.1) : Kd.R (Kd.int .i64) 3 w3 w2.heap.size (fun k_ => k_ < w3.heap.size) v_w0 _); obtain ⟨A_w0, c_w0, e_w0⟩ := Kd.R_slice H_w0.out; subst e_w0; clear ho hb)
  clear H_w0_aG
  go_wp2_with (go_at_call 24; refine (laws_toTaskS.calls (hr0 := Kd.C_below HR0.out HB.out) (hc0 := HC0.out) (h := F0.out)).mono ?_; rintro e w4 ⟨v_x0, rfl, ho, hb⟩; have z4 := Aside0.mk (hb).size; replace HB := Aside0.mk (below_step HB.out hb); replace H_w0 := Aside0.mk (Kd.R_below H_w0.out hb); have H_x0 := Aside0.mk (Kd.R_mono (Kd.R_bound (Kd.S_R ho)) (fun k_ hk_ => hk_.2.2.1) : Kd.R k30 30 w4 w3.heap.size (fun k_ => k_ < w4.heap.size) v_x0 _); obtain ⟨A_x0, c_x0, e_x0⟩ := Kd.R_slice H_x0.out; subst e_x0; clear ho hb)
  go_wp2_with (go_at_call 16; refine (impl_LatestStarts.calls (hr0 := (Kd.R_reads' H_x0.out).2.2) (hc0 := (Kd.R_reads' H_x0.out).2.1) (hT := Tab.of HT.out HB.out) (h := FI.out)).mono ?_; rintro e w5 ⟨v_g0, rfl, ho, hb⟩; have z5 := Aside0.mk (hb).size; replace HB := Aside0.mk (below_step HB.out hb); replace H_w0 := Aside0.mk (Kd.R_below H_w0.out hb); replace H_x0 := Aside0.mk (Kd.R_below H_x0.out hb); have H_g0 := Aside0.mk (Kd.R_mono (Kd.R_bound ho) (fun k_ hk_ => hk_.2.2.1) : Kd.R (Kd.int .i64) 3 w5 w4.heap.size (fun k_ => k_ < w5.heap.size) v_g0 _); obtain ⟨A_g0, c_g0, e_g0⟩ := Kd.R_slice H_g0.out; subst e_g0; clear ho hb)
  go_wp2_with (go_at_call 25; refine (laws_eqIntS.calls (hr0 := (Kd.R_reads' H_g0.out).2.2) (hc0 := (Kd.R_reads' H_g0.out).2.1) (hr1 := (Kd.R_reads' H_w0.out).2.2) (hc1 := (Kd.R_reads' H_w0.out).2.1) (h := ER.out)).mono ?_; rintro e w6 ⟨rfl, hd⟩; have hb := drawn0_below hd; have z6 := Aside0.mk (hb).size; replace HB := Aside0.mk (below_step HB.out hb); replace H_w0 := Aside0.mk (Kd.R_below H_w0.out hb); replace H_x0 := Aside0.mk (Kd.R_below H_x0.out hb); replace H_g0 := Aside0.mk (Kd.R_below H_g0.out hb); clear hd hb)
  go_wp2_with (go_at_call 24; refine (laws_toTaskS.calls (hr0 := Kd.C_below HR0.out HB.out) (hc0 := HC0.out) (h := F0.out)).mono ?_; rintro e w7 ⟨v_t_aG, rfl, ho, hb⟩; have z7 := Aside0.mk (hb).size; replace HB := Aside0.mk (below_step HB.out hb); replace H_w0 := Aside0.mk (Kd.R_below H_w0.out hb); replace H_x0 := Aside0.mk (Kd.R_below H_x0.out hb); replace H_g0 := Aside0.mk (Kd.R_below H_g0.out hb); have H_t_aG := Aside0.mk (Kd.R_mono (Kd.R_bound (Kd.S_R ho)) (fun k_ hk_ => hk_.2.2.1) : Kd.R k30 30 w7 w6.heap.size (fun k_ => k_ < w7.heap.size) v_t_aG _); obtain ⟨A_t_aG, c_t_aG, e_t_aG⟩ := Kd.R_slice H_t_aG.out; subst e_t_aG; clear ho hb)
  go_wp2_with (go_at_call 26; refine (laws_eqTaskS.calls (hr0 := (Kd.R_reads' H_x0.out).2.2) (hc0 := (Kd.R_reads' H_x0.out).2.1) (hr1 := (Kd.R_reads' H_t_aG.out).2.2) (hc1 := (Kd.R_reads' H_t_aG.out).2.1) (h := E0.out)).mono ?_; rintro e w8 ⟨rfl, hd⟩; have hb := hd; have z8 := Aside0.mk (hb).size; replace HB := Aside0.mk (below_step HB.out hb); replace H_w0 := Aside0.mk (Kd.R_below H_w0.out hb); replace H_x0 := Aside0.mk (Kd.R_below H_x0.out hb); replace H_g0 := Aside0.mk (Kd.R_below H_g0.out hb); replace H_t_aG := Aside0.mk (Kd.R_below H_t_aG.out hb); clear hd hb)
  clear H_t_aG
  obtain ⟨K9, hK9⟩ : ∃ x_, x_ = mkT y0 (1) y0.length := ⟨_, rfl⟩
  have dK : decide (K9 < 0) = false := decide_eq_false (by have h1 := FK.out; rw [← hK9] at h1; omega)
  have HK9 := Aside0.mk hK9
  clear hK9
  go_wp2_with (go_at_call 27; refine (markTaskS_in w3.heap.size w4.heap.size _ y0 (1) _ H_x0.out).mono ?_; rintro e w9 ⟨he, hm⟩; rw [← HK9.out] at he; subst he; have z9 := Aside0.mk (hm).below.size; have hlo : w.heap.size ≤ w3.heap.size := (by have q1 := z1.out; have q2 := z2.out; have q3 := z3.out; have q4 := z4.out; have q5 := z5.out; have q6 := z6.out; have q7 := z7.out; have q8 := z8.out; omega); replace HB := Aside0.mk (HB.out.trans ((hm).below.mono hlo)); clear hlo; replace H_w0 := Aside0.mk (Kd.R_kept (Kd.R_bound H_w0.out) (hm).kept (fun k_ hk_ hs_ => by have q1 := z1.out; have q2 := z2.out; have q3 := z3.out; have q4 := z4.out; have q5 := z5.out; have q6 := z6.out; have q7 := z7.out; have q8 := z8.out; have e1_ := hk_.1; have e2_ := hk_.2.1; have e3_ := hs_.1; have e4_ := hs_.2; omega)); replace H_w0 := Aside0.mk (Kd.R_mono H_w0.out (fun k_ hk_ => hk_.1)); replace H_g0 := Aside0.mk (Kd.R_kept (Kd.R_bound H_g0.out) (hm).kept (fun k_ hk_ hs_ => by have q1 := z1.out; have q2 := z2.out; have q3 := z3.out; have q4 := z4.out; have q5 := z5.out; have q6 := z6.out; have q7 := z7.out; have q8 := z8.out; have e1_ := hk_.1; have e2_ := hk_.2.1; have e3_ := hs_.1; have e4_ := hs_.2; omega)); replace H_g0 := Aside0.mk (Kd.R_mono H_g0.out (fun k_ hk_ => hk_.1)); clear hm H_x0)
  go_wp2_with (go_at_call 25; refine (laws_eqIntS.calls (hr0 := (Kd.R_reads' H_g0.out).2.2) (hc0 := (Kd.R_reads' H_g0.out).2.1) (hr1 := (Kd.R_reads' H_w0.out).2.2) (hc1 := (Kd.R_reads' H_w0.out).2.1) (h := ER.out)).mono ?_; rintro e w10 ⟨rfl, hd⟩; have hb := drawn0_below hd; have z10 := Aside0.mk (hb).size; replace HB := Aside0.mk (below_step HB.out hb); replace H_w0 := Aside0.mk (Kd.R_below H_w0.out hb); replace H_g0 := Aside0.mk (Kd.R_below H_g0.out hb); clear hd hb)
  have HL := Aside0.mk (show w.heap.size ≤ w4.heap.size from (by have q1 := z1.out; have q2 := z2.out; have q3 := z3.out; have q4 := z4.out; have q5 := z5.out; have q6 := z6.out; have q7 := z7.out; have q8 := z8.out; have q9 := z9.out; have q10 := z10.out; omega))
  go_wp2_with (go_at_call 28; refine (laws_markIntS.calls (w0 := w) (P0_ := fun k_ => w4.heap.size ≤ k_ ∧ k_ < w5.heap.size) (hB := HB.out) (ho0 := Kd.R_lower (Kd.R_mono (Kd.R_bound H_g0.out) (fun k_ hk_ => ⟨hk_.2.1, hk_.1⟩)) HL.out) (h := FM.out)).mono ?_; rintro e w11 ⟨rfl, ho, hb, hkp⟩; have z11 := Aside0.mk hkp.1; replace HB := Aside0.mk hb; replace H_w0 := Aside0.mk (Kd.R_kept (Kd.R_bound H_w0.out) hkp (fun k_ hk_ hs_ => by have q1 := z1.out; have q2 := z2.out; have q3 := z3.out; have q4 := z4.out; have q5 := z5.out; have q6 := z6.out; have q7 := z7.out; have q8 := z8.out; have q9 := z9.out; have q10 := z10.out; have e1_ := hk_.1; have e2_ := hk_.2.1; have e3_ := hs_.1; have e4_ := hs_.2; omega)); replace H_w0 := Aside0.mk (Kd.R_mono H_w0.out (fun k_ hk_ => hk_.1)); replace H_g0 := Aside0.mk ho; clear ho hb hkp)
  go_wp2_with (go_at_call 29; refine (heldIntS_n (Kd.R_reads' H_g0.out) FH.out).mono ?_; rintro e w12 ⟨rfl, hd⟩; have hb := drawn0_below hd; have z12 := Aside0.mk (hb).size; replace HB := Aside0.mk (below_step HB.out hb); replace H_w0 := Aside0.mk (Kd.R_below H_w0.out hb); replace H_g0 := Aside0.mk (Kd.R_below H_g0.out hb); clear hd hb)
  go_wp2_with (go_at_call 24; refine (laws_toTaskS.calls (hr0 := Kd.C_below HR0.out HB.out) (hc0 := HC0.out) (h := F0.out)).mono ?_; rintro e w13 ⟨v_h0_aG, rfl, ho, hb⟩; have z13 := Aside0.mk (hb).size; replace HB := Aside0.mk (below_step HB.out hb); replace H_w0 := Aside0.mk (Kd.R_below H_w0.out hb); replace H_g0 := Aside0.mk (Kd.R_below H_g0.out hb); have H_h0_aG := Aside0.mk (Kd.R_mono (Kd.R_bound (Kd.S_R ho)) (fun k_ hk_ => hk_.2.2.1) : Kd.R k30 30 w13 w12.heap.size (fun k_ => k_ < w13.heap.size) v_h0_aG _); obtain ⟨A_h0_aG, c_h0_aG, e_h0_aG⟩ := Kd.R_slice H_h0_aG.out; subst e_h0_aG; clear ho hb)
  go_wp2_with (go_at_call 16; refine (impl_LatestStarts.calls (hr0 := (Kd.R_reads' H_h0_aG.out).2.2) (hc0 := (Kd.R_reads' H_h0_aG.out).2.1) (hT := Tab.of HT.out HB.out) (h := FI.out)).mono ?_; rintro e w14 ⟨v_h0, rfl, ho, hb⟩; have z14 := Aside0.mk (hb).size; replace HB := Aside0.mk (below_step HB.out hb); replace H_w0 := Aside0.mk (Kd.R_below H_w0.out hb); replace H_g0 := Aside0.mk (Kd.R_below H_g0.out hb); replace H_h0_aG := Aside0.mk (Kd.R_below H_h0_aG.out hb); have H_h0 := Aside0.mk (Kd.R_mono (Kd.R_bound ho) (fun k_ hk_ => hk_.2.2.1) : Kd.R (Kd.int .i64) 3 w14 w13.heap.size (fun k_ => k_ < w14.heap.size) v_h0 _); obtain ⟨A_h0, c_h0, e_h0⟩ := Kd.R_slice H_h0.out; subst e_h0; clear ho hb)
  clear H_h0_aG
  go_wp2_with (go_at_call 25; refine (laws_eqIntS.calls (hr0 := (Kd.R_reads' H_h0.out).2.2) (hc0 := (Kd.R_reads' H_h0.out).2.1) (hr1 := (Kd.R_reads' H_w0.out).2.2) (hc1 := (Kd.R_reads' H_w0.out).2.1) (h := ER.out)).mono ?_; rintro e w15 ⟨rfl, hd⟩; have hb := drawn0_below hd; have z15 := Aside0.mk (hb).size; replace HB := Aside0.mk (below_step HB.out hb); replace H_w0 := Aside0.mk (Kd.R_below H_w0.out hb); replace H_g0 := Aside0.mk (Kd.R_below H_g0.out hb); replace H_h0 := Aside0.mk (Kd.R_below H_h0.out hb); clear hd hb)
  go_wp2_with (go_at_call 29; refine (heldIntS_n (Kd.R_reads' H_g0.out) FH.out).mono ?_; rintro e w16 ⟨rfl, hd⟩; have hb := drawn0_below hd; have z16 := Aside0.mk (hb).size; replace HB := Aside0.mk (below_step HB.out hb); replace H_w0 := Aside0.mk (Kd.R_below H_w0.out hb); replace H_g0 := Aside0.mk (Kd.R_below H_g0.out hb); replace H_h0 := Aside0.mk (Kd.R_below H_h0.out hb); clear hd hb)
  go_ret
  exact ⟨rfl, HB.out⟩
end Go.Proofs.YtpgfcihmgdempaaDoor.P
end
