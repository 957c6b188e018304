/- The law FnWaitsFor holds of the given program: the proof's own part, with its row and its card, part 6 of 7. -/
import Derived.Test.YtpibdjkajgfgjaaDoorZFnWaitsFor5
section
set_option linter.unusedVariables false
set_option linter.unusedSimpArgs false
namespace Go.Proofs.YtpibdjkajgfgjaaDoor.Core
open Go Go.RowKit Go.Proofs.YtpibdjkajgfgjaaDoorW.PrintWords Go.Proofs.YtpibdjkajgfgjaaDoorW.PrintMore Go.Proofs.YtpibdjkajgfgjaaDoor.P
theorem FnWaitsFor_pure (l0 : List Int) (hW : Bytes l0) : ∃ k, laws_FnWaitsFor.f k l0 = some true := by
  refine Ev.one (f := fun k => laws_FnWaitsFor.f k l0) (EvP.ev ?_)
  unfold laws_FnWaitsFor.f
  refine EvP.ite (fun _ => EvP.ret rfl) (fun hlen => ?_)
  refine (ev_DrawWaitsFor hW).bind fun ⟨g, l, x⟩ hg => ?_
  obtain ⟨hg, hl, hx1, hx2⟩ := hg
  dsimp only at hg hl hx1 hx2 ⊢
  have hf := hg.fits (by unfold big; omega) (by unfold big; omega)
  have hs := ev_WaitsFor hf (l := l) (by unfold big; omega) x
  have hl8 := waitsD_length g l x
  have he := ev_equalInts (a := waitsD g l x) (b := waitsD g l x) (by omega)
  rw [decide_eq_true rfl] at he
  have hno : EvP (fun k => laws_FnWaitsFor.j0 k g l x (waitsD g l x) true) (fun x => x = true) := by
    refine EvP.succ ?_
    simp only [laws_FnWaitsFor.j0]
    exact EvP.pos (by first | rfl | trivial) (Ev.bindP hs (Ev.bindP he (EvP.ret rfl)))
  refine Ev.bindP (Ev.const (waitsD g l x)) (Ev.bindP hs (Ev.bindP he (EvP.pos rfl (Ev.bindP (Ev.const (doneD g l).isSome) ?_))))
  cases hd : doneD g l with
  | none => exact EvP.neg (by simp) hno
  | some GS =>
    obtain ⟨G, s⟩ := GS
    refine EvP.pos (by first | rfl | trivial) (EvP.ite (fun _ => hno) (fun hx0 => ?_))
    by_cases hxg : x ≥ (g.length : Int)
    · rw [decide_eq_true hxg]; exact hno
    rw [decide_eq_false hxg]
    obtain ⟨v, hG, hsl, hll, _, hc⟩ := done_list hd
    have h8 := v.n8
    obtain ⟨i, rfl⟩ := Int.eq_ofNat_of_zero_le (show 0 ≤ x by omega)
    have hi : i < g.length := by omega
    have h256 := pow8 h8
    have hnb := getD_lt v.nb i
    have hrl := v.ready_lt' s
    have hw0 := waitsD_some hd hi
    rw [elemsN_sub (Nat.lt_of_lt_of_le hnb h256) (Nat.lt_of_lt_of_le hsl h256)] at hw0
    have hin1 (j : Nat) := ev_lawsIsIn (L := (g.getD i z48).f1) (by rw [v.list hi, up_length]; have := elemsN_length (G.needs.getD i 0); unfold big; omega) (j : Int)
    have hin2 (j : Nat) := ev_lawsIsIn (L := l) (by unfold big; omega) (j : Int)
    have hin3 := ev_lawsIsIn (L := readyD g l) (by rw [readyD_some hd, up_length]; have := elemsN_length (G.ready s); unfold big; omega) (i : Int)
    have d1 (j : Nat) : decide ((j : Int) ∈ (g.getD i z48).f1) = (G.needs.getD i 0).testBit j := by rw [v.list hi]; exact v.in_dec hnb j
    have d2 (j : Nat) : decide ((j : Int) ∈ l) = s.testBit j := by rw [hll]; exact v.in_dec hsl j
    have d3 : decide ((i : Int) ∈ readyD g l) = (G.ready s).testBit i := by rw [readyD_some hd]; exact v.in_dec hrl i
    have hmr := v.mem_rd (s := s) (x := i)
    have hsub := v.sub_iff' (i := i) hsl
    have hcl := (v.closed_iff hsl).1 hc i
    have hnl (j : Nat) (hj : (G.needs.getD i 0).testBit j = true) : j ∈ elemsN (G.needs.getD i 0) := mem_elemsN.2 ⟨by have := v.need_lt hj; omega, hj⟩
    simp only [d1] at hin1
    simp only [d2] at hin2
    rw [d3] at hin3
    rw [hw0]
    have hel := elemsN_length (G.needs.getD i 0)
    have hempty : (elemsN (G.needs.getD i 0)).filter (fun j => !s.testBit j) = [] ↔ ∀ j, (G.needs.getD i 0).testBit j = true → s.testBit j = true := by
      rw [List.filter_eq_nil_iff]
      constructor
      · intro h j hj
        simpa using h j (hnl j hj)
      · intro h a ha
        rw [h a (mem_elemsN.1 ha).2]
        simp
    have hWm (j : Nat) : j ∈ (elemsN (G.needs.getD i 0)).filter (fun j => !s.testBit j) → (G.needs.getD i 0).testBit j = true ∧ s.testBit j = false := by
      intro h
      obtain ⟨h1, h2⟩ := List.mem_filter.1 h
      exact ⟨(mem_elemsN.1 h1).2, by simpa using h2⟩
    have hWl : ((elemsN (G.needs.getD i 0)).filter (fun j => !s.testBit j)).length ≤ 8 := Nat.le_trans (List.length_filter_le _ _) hel
    clear h256 hnb hrl hw0 he hs hno hl8 hel
    generalize (elemsN (G.needs.getD i 0)).filter (fun j => !s.testBit j) = W at hempty hWm hWl ⊢
    have key : ∀ (r pre : List Nat), W = pre ++ r → EvP (fun k => laws_FnWaitsFor.l0 k g l ((i : Nat) : Int) (up W) (pre.length : Int)) (fun x => x = true) := by
      intro r
      induction r with
      | nil =>
        intro pre hp
        rw [List.append_nil] at hp
        have hz : ((((up W).length : Nat) : Int) == 0) = decide (W = []) := by
          rw [up_length, Bool.eq_iff_iff, beq_iff_eq, decide_eq_true_eq, ← List.length_eq_zero_iff]
          omega
        refine EvP.succ ?_
        simp only [laws_FnWaitsFor.l0]
        refine EvP.neg (by rw [up_length, hp]; omega) (Ev.bindP (hin2 i) ?_)
        cases hsi : s.testBit i with
        | true =>
          refine EvP.pos (by first | rfl | trivial) (EvP.ret ?_)
          rw [hz, decide_eq_true (hempty.2 (hcl hsi))]
          rfl
        | false =>
          refine EvP.neg (by simp) (Ev.bindP (Ev.const (readyD g l)) (Ev.bindP hin3 (EvP.ret ?_)))
          rw [hz, beq_iff_eq, Bool.eq_iff_iff, decide_eq_true_eq, hempty, hmr, hsub]
          exact ⟨fun h => ⟨hi, hsi, h⟩, fun h => h.2.2⟩
      | cons j r ih =>
        intro pre hp
        have hl2 : W.length = pre.length + (r.length + 1) := by rw [hp]; simp
        have hrd : rd (up W) (pre.length : Int) = (j : Int) := by rw [rd_up (i := pre.length) rfl, hp]; simp
        have hw : wrap64 ((pre.length : Int) + 1) = ((pre ++ [j]).length : Int) := by rw [w64s (by unfold big; omega)]; simp
        obtain ⟨hj1, hj2⟩ := hWm j (by rw [hp]; simp)
        have h1 := hin1 j
        have h2 := hin2 j
        rw [hj1] at h1
        rw [hj2] at h2
        have hn := ih (pre ++ [j]) (by rw [hp]; simp)
        refine EvP.succ ?_
        simp only [laws_FnWaitsFor.l0, hrd, hw, rdT_nat]
        exact EvP.pos (by rw [up_length]; omega) (EvP.pos (by omega) (EvP.pos (by omega) (EvP.pos (by omega) (Ev.bindP h1 (EvP.pos rfl (Ev.bindP h2 (EvP.neg (by simp) hn)))))))
    refine EvP.succ ?_
    simp only [laws_FnWaitsFor.j0]
    exact EvP.neg (by simp) (key W [] rfl)
end Go.Proofs.YtpibdjkajgfgjaaDoor.Core
end
