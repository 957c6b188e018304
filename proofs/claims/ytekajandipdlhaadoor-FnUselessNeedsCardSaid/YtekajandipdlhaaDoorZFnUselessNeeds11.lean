/- The law FnUselessNeeds holds of the given program: the proof's own part, with its row and its card, part 11 of 12. -/
import Derived.Test.YtekajandipdlhaaDoorZFnUselessNeeds10
section
set_option linter.unusedVariables false
set_option linter.unusedSimpArgs false
namespace Go.Proofs.YtekajandipdlhaaDoor.Core
open Go Go.RowKit Go.Proofs.YtekajandipdlhaaDoorW.PrintWords Go.Proofs.YtekajandipdlhaaDoorW.PrintMore Go.Proofs.YtekajandipdlhaaDoor.P
theorem uTo_mem (G : GD) : ∀ (n : Nat) (x : List Int), x ∈ uTo G n → ∃ i k : Nat, i < n ∧ x = uRow i k ∧ (uselessD G i).testBit k = true
  | 0, x, h => by cases h
  | n + 1, x, h => by
    rw [uTo, List.mem_append] at h
    rcases h with h | h
    · obtain ⟨i, k, h1, h2⟩ := uTo_mem G n x h
      exact ⟨i, k, by omega, h2⟩
    · obtain ⟨k, hk, rfl⟩ := List.mem_map.1 h
      exact ⟨n, k, by omega, rfl, (mem_elemsN.1 hk).2⟩
theorem uselessND_small {g : List Tk} : (uselessND g).length < 4611686018427387904 ∧ ∀ x ∈ uselessND g, x.length < 4611686018427387904 := by
  unfold uselessND
  cases hG : graphD g with
  | none => simp
  | some G =>
    have h8 := (vg_of hG).n8
    have := uTo_length G g.length
    refine ⟨by simp only []; omega, fun x hx => ?_⟩
    obtain ⟨i, k, _, rfl, _⟩ := uTo_mem G g.length x hx
    show (2 : Nat) < _
    decide
theorem FnUselessNeeds_pure (l0 : List Int) (hW : Bytes l0) : ∃ k, laws_FnUselessNeeds.f k l0 = some true := by
  refine Ev.one (f := fun k => laws_FnUselessNeeds.f k l0) (EvP.ev ?_)
  unfold laws_FnUselessNeeds.f
  refine EvP.ite (fun _ => EvP.ret rfl) (fun hlen => ?_)
  have hd : EvP (fun (k : Nat) => spec_DrawUselessNeeds.f l0) (fun r => GSmall 16 10 r) := by
    unfold spec_DrawUselessNeeds.f
    exact (ev_newReader hW).bind fun a ha => (ev_anyGraph ha (by omega)).bind fun c hc => EvP.ret hc.1
  refine hd.bind fun g hg => ?_
  have hf := hg.fits (by unfold big; omega) (by unfold big; omega)
  obtain ⟨n1, n2⟩ := uselessND_small (g := g)
  have he := ev_equalLists n1 n2
  refine Ev.bindP (Ev.const (uselessND g)) (Ev.bindP (ev_UselessNeeds hf) (Ev.bindP he (EvP.pos rfl ?_)))
  cases hG : graphD g with
  | none =>
    have : uselessND g = [] := by unfold uselessND; rw [hG]
    rw [this]
    refine EvP.succ ?_
    simp only [laws_FnUselessNeeds.l0]
    exact EvP.neg (by simp) (EvP.ret rfl)
  | some G =>
    have v := vg_of hG
    have h8 := v.n8
    have hR : uselessND g = uTo G g.length := by unfold uselessND; rw [hG]
    have hRl := uTo_length G g.length
    have hmem := uTo_mem G g.length
    rw [hR]
    clear he n1 n2 hR
    generalize uTo G g.length = R at hRl hmem ⊢
    have key : ∀ (m q : Nat), q + m = R.length → EvP (fun k => laws_FnUselessNeeds.l0 k g R (q : Int)) (fun x => x = true) := by
      intro m
      induction m with
      | zero =>
        intro q hq
        refine EvP.succ ?_
        simp only [laws_FnUselessNeeds.l0]
        exact EvP.neg (by omega) (EvP.ret rfl)
      | succ m ih =>
        intro q hq
        have hnext := ih (q + 1) (by omega)
        have hw : wrap64 ((q : Int) + 1) = ((q + 1 : Nat) : Int) := w64s (by unfold big; omega)
        have hqR : q < R.length := by omega
        obtain ⟨i, k0, hi, hx, hu⟩ := hmem R[q] (List.getElem_mem hqR)
        have hrow : rd_L1 R (q : Int) = uRow i k0 := by
          unfold rd_L1
          rw [Int.toNat_natCast, List.getD_eq_getElem?_getD, List.getElem?_eq_getElem hqR, Option.getD_some, hx]
        have hr0 : rd (uRow i k0) 0 = (i : Int) := rfl
        have hr1 : rd (uRow i k0) 1 = (k0 : Int) := rfl
        have hrl : (uRow i k0).length = 2 := rfl
        obtain ⟨hk, m0, hm0, hb⟩ := (v.useless_bit i k0).1 hu
        have hel := elemsN_length (G.needs.getD i 0)
        have hfin := ev_lawsIsIn (L := up (elemsN (G.needs.getD i 0))) (by rw [up_length]; unfold big; omega) (k0 : Int)
        rw [v.in_dec (getD_lt v.nb i), hk] at hfin
        have inner : ∀ (r pre : List Nat) (b : Bool), elemsN (G.needs.getD i 0) = pre ++ r → (b = true ∨ m0 ∈ r) → EvP (fun k => laws_FnUselessNeeds.l1 k g R (q : Int) (up (elemsN (G.needs.getD i 0))) b (pre.length : Int)) (fun x => x = true) := by
          intro r
          induction r with
          | nil =>
            intro pre b hp hbm
            rw [List.append_nil] at hp
            obtain rfl : b = true := hbm.resolve_right (by simp)
            refine EvP.succ ?_
            simp only [laws_FnUselessNeeds.l1, hrow, hr1, hw]
            exact EvP.neg (by rw [up_length, hp]; omega) (EvP.pos (by first | rfl | trivial) (EvP.pos (by omega) (EvP.pos (by omega) (EvP.pos (by rw [hrl]; omega) (Ev.bindP hfin (EvP.pos rfl hnext))))))
          | cons a r ihr =>
            intro pre b hp hbm
            have hl : (elemsN (G.needs.getD i 0)).length = pre.length + (r.length + 1) := by rw [hp]; simp
            have hwp : wrap64 ((pre.length : Int) + 1) = ((pre ++ [a]).length : Int) := by rw [w64s (by unfold big; omega)]; simp
            have hrd : rd (up (elemsN (G.needs.getD i 0))) (pre.length : Int) = (a : Int) := by rw [rd_up (i := pre.length) rfl, hp]; simp
            have hal : a < g.length := v.need_lt (mem_elemsN.1 (show a ∈ elemsN (G.needs.getD i 0) by rw [hp]; simp)).2
            refine EvP.succ ?_
            simp only [laws_FnUselessNeeds.l1, hrow, hr1, hwp, hrd]
            refine EvP.pos (by rw [up_length]; omega) ?_
            cases b with
            | true => exact EvP.pos (by first | rfl | trivial) (ihr (pre ++ [a]) true (by rw [hp]; simp) (.inl rfl))
            | false =>
              have ha : allNeedsD g (a : Int) = up (elemsN (G.below.getD a 0)) := by
                unfold allNeedsD
                rw [hG]
                simp only []
                rw [if_pos ⟨by omega, by omega⟩, Int.toNat_natCast]
                rfl
              have hbl := elemsN_length (G.below.getD a 0)
              have hin := ev_lawsIsIn (L := up (elemsN (G.below.getD a 0))) (by rw [up_length]; unfold big; omega) (k0 : Int)
              rw [v.in_dec (v.below_all hG a)] at hin
              refine EvP.neg (by simp) (EvP.pos (by omega) (Ev.bindP (Ev.const (allNeedsD g (a : Int))) ?_))
              rw [ha]
              refine EvP.pos (by omega) (EvP.pos (by omega) (EvP.pos (by rw [hrl]; omega) (Ev.bindP hin ?_)))
              refine ihr (pre ++ [a]) _ (by rw [hp]; simp) ?_
              rcases hbm with h | h
              · cases h
              · rcases List.mem_cons.1 h with rfl | h
                · exact .inl hb
                · exact .inr h
        have hst := inner (elemsN (G.needs.getD i 0)) [] false rfl (.inr (mem_elemsN.2 ⟨by have := v.need_lt hm0; omega, hm0⟩))
        have hj : EvP (fun k => laws_FnUselessNeeds.j1 k g R (q : Int) false) (fun x => x = true) := by
          refine EvP.succ ?_
          simp only [laws_FnUselessNeeds.j1, hrow, hr0, rdT_nat, v.list hi]
          exact EvP.neg (by simp) (EvP.pos (by omega) (EvP.pos (by omega) (EvP.pos (by rw [hrl]; omega) (EvP.pos (by omega) (EvP.pos (by omega) hst)))))
        refine EvP.succ ?_
        simp only [laws_FnUselessNeeds.l0, hrow, hr0]
        refine EvP.pos (by omega) (EvP.pos (by omega) (EvP.pos (by rw [hrl]; rfl) (EvP.pos (by rw [hrl]; omega) (EvP.neg (by omega) ?_))))
        rw [show decide ((i : Int) ≥ (g.length : Int)) = false from decide_eq_false (by omega)]
        exact hj
    exact key R.length 0 (Nat.zero_add _)
end Go.Proofs.YtekajandipdlhaaDoor.Core
end
