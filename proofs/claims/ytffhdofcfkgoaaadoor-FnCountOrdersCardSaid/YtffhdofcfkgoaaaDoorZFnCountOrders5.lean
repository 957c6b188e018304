/- The law FnCountOrders holds of the given program: part 5: words and contracts that the proof uses. -/
import Derived.Test.YtffhdofcfkgoaaaDoorZFnCountOrders4
section
set_option linter.unusedVariables false
set_option linter.unusedSimpArgs false
namespace Go.Proofs.YtffhdofcfkgoaaaDoor.Core
open Go Go.RowKit Go.Proofs.YtffhdofcfkgoaaaDoorW.PrintWords Go.Proofs.YtffhdofcfkgoaaaDoorW.PrintMore Go.Proofs.YtffhdofcfkgoaaaDoor.P
theorem ev_DrawCountOrders {l : List Int} (h : Bytes l) : EvP (fun k => spec_DrawCountOrders.f k l) (fun r => GSmall 16 10 r) := by
  unfold spec_DrawCountOrders.f
  refine (ev_newReader h).bind fun a ha => ?_
  have hs : EvP (fun k => spec_smallGraph.f k a.1 a.2) (fun r => GSmall 16 10 r.1) := by
    unfold spec_smallGraph.f
    refine (ev_pick ha (by omega)).bind fun b hb => ?_
    refine EvP.ite (fun _ => (ev_anyGraph hb.2.2 (by omega)).bind fun c hc => EvP.ret hc.1) (fun _ => ?_)
    refine (ev_someGraph hb.2.2 (by omega) 5 (by omega)).bind fun c hc => EvP.ret ⟨by have := hc.1.1; show c.1.length ≤ 16; omega, fun t ht => by have := hc.1.2 t ht; omega⟩
  exact hs.bind fun b hb => EvP.ret hb
/-- The tasks without their needs. -/
def freeT (t : Tk) : Tk := ⟨t.f0, [], t.f2, t.f3⟩
theorem free_needs (n : Nat) : ∀ (r : List Tk), (∀ t ∈ r, taskOk t) → needsGo n (r.map freeT) = some (List.replicate r.length 0)
  | [], _ => rfl
  | t :: r, h => by
    have ht := h t List.mem_cons_self
    have ih := free_needs n r (fun u hu => h u (List.mem_cons_of_mem _ hu))
    rw [List.map_cons, needsGo]
    rw [show setD n (freeT t).f1 = some 0 from rfl]
    simp only []
    rw [if_pos (show taskOk (freeT t) from ht), ih]
    rfl
theorem count_free {g : List Tk} {G : GD} (hG : graphD g = some G) (h5 : g.length ≤ 5) : countD (g.map freeT) = ((factN g.length : Nat) : Int) := by
  have v := vg_of hG
  have h8 := v.n8
  have hN : needsD (g.map freeT) = some (List.replicate g.length 0) := by
    unfold needsD
    rw [List.length_map, if_pos h8]
    exact free_needs _ g (fun t ht => (v.fine.1 t ht).1)
  have hz : ∀ i, (List.replicate g.length 0).getD i 0 = 0 := fun i => by
    rw [List.getD_eq_getElem?_getD, List.getElem?_replicate]
    split <;> rfl
  have hF : graphD (g.map freeT) = some (mkG (g.map freeT) (List.replicate g.length 0)) := by
    refine graphD_of_next hN fun d hd hne => ?_
    rw [List.length_map] at hd hne ⊢
    obtain ⟨i, hi, h1, _⟩ := v.next hd hne
    exact ⟨i, hi, h1, by rw [hz]; simp [sub]⟩
  have v2 := vg_of hF
  have := v2.orders_free hz 9 0 (Nat.two_pow_pos _) (by rw [zb_zero, List.length_map]; omega)
  unfold countD
  rw [hF]
  simp only []
  rw [if_neg (by rw [List.length_map]; omega), this, zb_zero, List.length_map]
theorem factN_le {n : Nat} (h : n ≤ 5) : factN n ≤ 120 := by
  have : n = 0 ∨ n = 1 ∨ n = 2 ∨ n = 3 ∨ n = 4 ∨ n = 5 := by omega
  rcases this with rfl | rfl | rfl | rfl | rfl | rfl <;> decide
theorem FnCountOrders_pure (l0 : List Int) (hW : Bytes l0) : ∃ k, laws_FnCountOrders.f k l0 = some true := by
  refine Ev.one (f := fun k => laws_FnCountOrders.f k l0) (EvP.ev ?_)
  unfold laws_FnCountOrders.f
  refine EvP.ite (fun _ => EvP.ret rfl) (fun hlen => ?_)
  refine (ev_DrawCountOrders hW).bind fun g hg => ?_
  have hf := hg.fits (by unfold big; omega) (by unfold big; omega)
  have hs := ev_CountOrders hf
  refine Ev.bindP (Ev.const (countD g)) (Ev.bindP hs (EvP.pos rfl ?_))
  refine EvP.succ ?_
  simp only [laws_FnCountOrders.j0]
  refine EvP.ite (fun _ => Ev.bindP hs (EvP.ret (by simp))) (fun hneg => ?_)
  have hn : ¬ countD g < 0 := fun h => hneg (by simp [h])
  obtain ⟨G, hG, h5, hc⟩ : ∃ G, graphD g = some G ∧ g.length ≤ 5 ∧ countD g = ((ordersF G 9 0 : Nat) : Int) := by
    unfold countD at hn ⊢
    cases hG : graphD g with
    | none => rw [hG] at hn; simp at hn
    | some G =>
      rw [hG] at hn
      simp only [] at hn ⊢
      by_cases h5 : g.length > 5
      · rw [if_pos h5] at hn; simp at hn
      · exact ⟨G, rfl, by omega, by rw [if_neg h5]⟩
  have v := vg_of hG
  have hz9 : zb g.length 0 < 9 := by rw [zb_zero]; omega
  have hpos := v.orders_pos 9 0 (Nat.two_pow_pos _) hz9
  have hle := v.orders_le 9 0 (Nat.two_pow_pos _) hz9
  rw [zb_zero] at hle
  have key : ∀ (d i : Nat), i + d = g.length → EvP (fun k => laws_FnCountOrders.l0 k g (countD g) ((g.take i).map freeT) ((factN i : Nat) : Int) (i : Int)) (fun x => x = true) := by
    intro d
    induction d with
    | zero =>
      intro i h
      have hi : i = g.length := by omega
      subst hi
      refine EvP.succ ?_
      simp only [laws_FnCountOrders.l0, List.take_length]
      refine EvP.neg (by omega) (EvP.pos (by rw [hc]; omega) (EvP.pos (by rw [hc]; omega) ?_))
      refine Ev.bindP (Ev.const (countD (g.map freeT))) (EvP.ret ?_)
      rw [count_free hG h5]
      simp
    | succ d ih =>
      intro i h
      have hfi := factN_le (n := i) (by omega)
      refine EvP.succ ?_
      simp only [laws_FnCountOrders.l0]
      rw [w64 (n := (i : Int) + 1) (by omega) (by omega)]
      have e1 : wrap64 (((factN i : Nat) : Int) * ((i : Int) + 1)) = ((factN (i + 1) : Nat) : Int) := by
        have e : ((factN i : Nat) : Int) * ((i : Int) + 1) = ((factN (i + 1) : Nat) : Int) := by
          rw [show factN (i + 1) = (i + 1) * factN i from rfl, Int.natCast_mul, Int.mul_comm]
          simp
        rw [e]
        have := factN_le (n := i + 1) (by omega)
        exact w64 (by omega) (by omega)
      rw [e1]
      have e2 : (g.take i).map freeT ++ [(⟨(rd_T33 g (i : Int)).f0, [], (rd_T33 g (i : Int)).f2, (rd_T33 g (i : Int)).f3⟩ : Tk)] = (g.take (i + 1)).map freeT := by
        rw [rdT_nat, List.take_succ_eq_append_getElem (by omega), List.map_append, List.getD_eq_getElem?_getD, List.getElem?_eq_getElem (by omega)]
        rfl
      have := ih (i + 1) (by omega)
      rw [← e2] at this
      exact EvP.pos (by omega) (EvP.pos (by omega) (EvP.pos (by simp; omega) (by simpa using this)))
  exact key g.length 0 (by omega)
end Go.Proofs.YtffhdofcfkgoaaaDoor.Core
end
