/- The law FnExactFormatGraph holds of the given program: the proof's own part, with its row and its card, part 4 of 5. -/
import Derived.Test.YtfehecoebkbgeaaDoorZFnExactFormatGraph3
section
set_option linter.unusedVariables false
set_option linter.unusedSimpArgs false
namespace Go.Proofs.YtfehecoebkbgeaaDoor.P
open Go Go.RowKit Go.Shelf Go.Proofs.YtfehecoebkbgeaaDoorW.PrintWords Go.Proofs.YtfehecoebkbgeaaDoorW.PrintLast Go.Proofs.YtfehecoebkbgeaaDoorW.PrintMore Go.Proofs.YtfehecoebkbgeaaDoor.Core
/-- What the walk takes: the functions' results. -/
structure laws_FnExactFormatGraph.Facts (k : Nat) (l0 : List S36) : Prop where
 out : ∃ (y0 : List S33) (R : ByteArray), laws_toTaskS.f k l0 = some y0 ∧ spec_FormatGraph.f k y0 = some R ∧ impl_FormatGraph.f y0 = some R ∧ laws_eqTaskS.f k y0 y0 = some true
open Classical in
noncomputable def laws_FnExactFormatGraph.f (k : Nat) (l0 : List S36) : Option Bool := (laws_szTaskS.f k l0 1048576).bind fun left => if left < 0 then some true else (if laws_FnExactFormatGraph.Facts k l0 then some true else none)
set_option maxRecDepth 100000 in
set_option maxHeartbeats 16000000 in
theorem laws_FnExactFormatGraph.calls (k : Nat) (A0 : Option Addr) (c0 : Nat) (l0 : List S36) (r : Bool) (w : World) (hr0 : Kd.C k36 w A0 l0.length l0) (hc0 : l0.length ≤ c0) (hT : Tab w) (h : laws_FnExactFormatGraph.f k l0 = some r) :
  Calls Tryd.prog 3 #[.slice A0 l0.length c0] w fun e w' => e = .returned (.bool r) ∧ Below w.heap.size w w' := by
 have HR0 := Aside0.mk hr0
 have HC0 := Aside0.mk hc0
 have HT := Aside0.mk hT
 have HB := Aside0.mk (Below.refl w.heap.size w)
 clear hT hr0 hc0
 unfold laws_FnExactFormatGraph.f at h
 obtain ⟨left, hl, h⟩ := Option.bind_eq_some_iff.mp h
 have FZ := Aside0.mk hl
 clear hl
 by_cases bl : left < 0
 ·rw [if_pos bl] at h
  obtain rfl := Option.some.inj h
  have d1 : decide (left < 0) = true := decide_eq_true bl
  clear h bl
  go_enter Tryd.func3, Tryd.ntmps3
  have g1 := Aside0.mk trivial
  go_wp2_with (go_at_call 6; clear g1; refine (laws_szTaskS.calls (hr0 := HR0.out) (hc0 := HC0.out) (h := FZ.out)).mono ?_; rintro e w1 ⟨rfl, hb⟩; replace HB := Aside0.mk hb; clear hb)
  go_ret
  exact ⟨rfl, HB.out⟩
 rw [if_neg bl] at h
 have dl : decide (left < 0) = false := decide_eq_false bl
 clear bl
 have hF := Core.of_if_someF h
 obtain rfl := hF.2
 have hF := hF.1
 clear h
 obtain ⟨y0, R, f0, fs, fi, e0⟩ := hF.out
 have F0 := Aside0.mk f0
 have FS := Aside0.mk fs
 have FI := Aside0.mk fi
 have E0 := Aside0.mk e0
 clear hF f0 fs fi e0
 go_enter Tryd.func3, Tryd.ntmps3
 have g2 := Aside0.mk trivial
 go_wp2_with (go_at_call 6; clear g2; refine (laws_szTaskS.calls (hr0 := HR0.out) (hc0 := HC0.out) (h := FZ.out)).mono ?_; rintro e w1 ⟨rfl, hb⟩; have z1 := Aside0.mk (hb).size; replace HB := Aside0.mk (below_step HB.out hb); clear hb)
 have g3 := Aside0.mk trivial
 go_wp2_with (go_at_call 8; clear g3; refine (laws_toTaskS.calls (hr0 := Kd.C_below HR0.out HB.out) (hc0 := HC0.out) (h := F0.out)).mono ?_; rintro e w2 ⟨v_w0_aG, rfl, ho, hb⟩; have z2 := Aside0.mk (hb).size; replace HB := Aside0.mk (below_step HB.out hb); have H_w0_aG := Aside0.mk (Kd.R_mono (Kd.R_bound (Kd.S_R ho)) (fun k_ hk_ => hk_.2.2.1) : Kd.R k33 33 w2 w1.heap.size (fun k_ => k_ < w2.heap.size) v_w0_aG _); obtain ⟨A_w0_aG, c_w0_aG, e_w0_aG⟩ := Kd.R_slice H_w0_aG.out; subst e_w0_aG; clear ho hb)
 have g4 := Aside0.mk trivial
 go_wp2_with (go_at_call 7; clear g4; refine (spec_FormatGraph.calls (hr0 := (Kd.R_reads' H_w0_aG.out).2.2) (hc0 := (Kd.R_reads' H_w0_aG.out).2.1) (h := FS.out)).mono ?_; rintro e w3 ⟨rfl, hb⟩; have z3 := Aside0.mk (hb).size; replace HB := Aside0.mk (below_step HB.out hb); replace H_w0_aG := Aside0.mk (Kd.R_below H_w0_aG.out hb); clear hb)
 clear H_w0_aG
 have g5 := Aside0.mk trivial
 go_wp2_with (go_at_call 8; clear g5; refine (laws_toTaskS.calls (hr0 := Kd.C_below HR0.out HB.out) (hc0 := HC0.out) (h := F0.out)).mono ?_; rintro e w4 ⟨v_x0, rfl, ho, hb⟩; have z4 := Aside0.mk (hb).size; replace HB := Aside0.mk (below_step HB.out hb); have H_x0 := Aside0.mk (Kd.R_mono (Kd.R_bound (Kd.S_R ho)) (fun k_ hk_ => hk_.2.2.1) : Kd.R k33 33 w4 w3.heap.size (fun k_ => k_ < w4.heap.size) v_x0 _); obtain ⟨A_x0, c_x0, e_x0⟩ := Kd.R_slice H_x0.out; subst e_x0; clear ho hb)
 have g6 := Aside0.mk trivial
 go_wp2_with (go_at_call 9; clear g6; refine (impl_FormatGraph.calls (hr0 := (Kd.R_reads' H_x0.out).2.2) (hc0 := (Kd.R_reads' H_x0.out).2.1) (hT := Tab.of HT.out HB.out) (h := FI.out)).mono ?_; rintro e w5 ⟨rfl, hb⟩; have z5 := Aside0.mk (hb).size; replace HB := Aside0.mk (below_step HB.out hb); replace H_x0 := Aside0.mk (Kd.R_below H_x0.out hb); clear hb)
 have g7 := Aside0.mk trivial
 go_wp2_with (go_at_call 8; clear g7; refine (laws_toTaskS.calls (hr0 := Kd.C_below HR0.out HB.out) (hc0 := HC0.out) (h := F0.out)).mono ?_; rintro e w6 ⟨v_t_aG, rfl, ho, hb⟩; have z6 := Aside0.mk (hb).size; replace HB := Aside0.mk (below_step HB.out hb); replace H_x0 := Aside0.mk (Kd.R_below H_x0.out hb); have H_t_aG := Aside0.mk (Kd.R_mono (Kd.R_bound (Kd.S_R ho)) (fun k_ hk_ => hk_.2.2.1) : Kd.R k33 33 w6 w5.heap.size (fun k_ => k_ < w6.heap.size) v_t_aG _); obtain ⟨A_t_aG, c_t_aG, e_t_aG⟩ := Kd.R_slice H_t_aG.out; subst e_t_aG; clear ho hb)
 have g8 := Aside0.mk trivial
 go_wp2_with (go_at_call 10; clear g8; refine (laws_eqTaskS.calls (hr0 := (Kd.R_reads' H_x0.out).2.2) (hc0 := (Kd.R_reads' H_x0.out).2.1) (hr1 := (Kd.R_reads' H_t_aG.out).2.2) (hc1 := (Kd.R_reads' H_t_aG.out).2.1) (h := E0.out)).mono ?_; rintro e w7 ⟨rfl, hd⟩; have hb := hd; have z7 := Aside0.mk (hb).size; replace HB := Aside0.mk (below_step HB.out hb); replace H_x0 := Aside0.mk (Kd.R_below H_x0.out hb); replace H_t_aG := Aside0.mk (Kd.R_below H_t_aG.out hb); clear hd hb)
 clear H_t_aG
 go_ret
 exact ⟨rfl, HB.out⟩
end Go.Proofs.YtfehecoebkbgeaaDoor.P
end
section
set_option linter.unusedVariables false
set_option linter.unusedSimpArgs false
namespace Go.Proofs.YtfehecoebkbgeaaDoor.Core
open Go Go.RowKit Go.Proofs.YtfehecoebkbgeaaDoorW.PrintWords Go.Proofs.YtfehecoebkbgeaaDoorW.PrintMore Go.Proofs.YtfehecoebkbgeaaDoor.P
theorem FnExactFormatGraph_pure (l0 : List Lt) (hs0 : Small l0)  : ∃ k, laws_FnExactFormatGraph.f k l0 = some true := by
 refine Ev.one (f := fun k => laws_FnExactFormatGraph.f k l0) ?_
 unfold laws_FnExactFormatGraph.f
 refine Ev.bind (ev_sz hs0 (x := 1048576) (by omega) (by omega)) ?_
 by_cases h : szD l0 1048576 < 0
 ·exact Ev.pos h (Ev.const _)
 obtain ⟨h1, h2⟩ := szD_fits (by omega) h
 refine Ev.neg h ?_
 have hf := fits_conv h1 h2
 obtain ⟨n1, f1⟩ := ev_toTaskS h1 h2
 obtain ⟨n2, f2⟩ := ev_FormatGraph hf
 obtain ⟨n3, f3⟩ := ev_eqTaskS hf
 have hlen : (l0.map conv).length = l0.length := List.length_map ..
 refine ⟨n1 + n2 + n3, fun k hk => ?_⟩
 refine if_pos ⟨(l0.map conv), (formatB (l0.map conv)), f1 k (by omega), f2 k (by omega), rfl, f3 k (by omega)⟩
end Go.Proofs.YtfehecoebkbgeaaDoor.Core
end
