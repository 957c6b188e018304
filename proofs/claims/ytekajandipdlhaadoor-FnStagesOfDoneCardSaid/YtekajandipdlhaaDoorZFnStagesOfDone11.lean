/- The law FnStagesOfDone holds of the given program: the proof's own part, with its row and its card, part 11 of 12. -/
import Derived.Test.YtekajandipdlhaaDoorZFnStagesOfDone10
section
set_option linter.unusedVariables false
set_option linter.unusedSimpArgs false
namespace Go.Proofs.YtekajandipdlhaaDoor.Core
open Go Go.RowKit Go.Proofs.YtekajandipdlhaaDoorW.PrintWords Go.Proofs.YtekajandipdlhaaDoorW.PrintMore Go.Proofs.YtekajandipdlhaaDoor.P
/-- The tasks of the stages before s. -/
def beforeN (S : List Nat) (s n : Nat) : List Nat := (List.range n).filter (fun i => decide (S.getD i 0 < s))
theorem beforeN_succ (S : List Nat) (s n : Nat) : beforeN S s (n + 1) = if S.getD n 0 < s then beforeN S s n ++ [n] else beforeN S s n := by
  unfold beforeN
  rw [List.range_succ, List.filter_append]
  by_cases h : S.getD n 0 < s
  · rw [if_pos h, List.filter_cons_of_pos (p := fun i => decide (S.getD i 0 < s)) (decide_eq_true h), List.filter_nil]
  · rw [if_neg h, List.filter_cons_of_neg (p := fun i => decide (S.getD i 0 < s)) (fun e => h (of_decide_eq_true e)), List.filter_nil, List.append_nil]
theorem beforeN_length (S : List Nat) (s n : Nat) : (beforeN S s n).length ≤ n := by
  have := List.length_filter_le (fun i => decide (S.getD i 0 < s)) (List.range n)
  rwa [List.length_range] at this
theorem mem_beforeN {S : List Nat} {s n i : Nat} : i ∈ beforeN S s n ↔ i < n ∧ S.getD i 0 < s := by
  unfold beforeN
  rw [List.mem_filter, List.mem_range, decide_eq_true_eq]
theorem VG.stage_done {g : List Tk} {G : GD} (v : VG g G) (hG : graphD g = some G) (s : Nat) : ∃ t, doneD g (up (beforeN (stagesN G) s g.length)) = some (G, t) ∧ ∀ i, i < g.length → (stagesN G).getD i 0 = s → (G.ready t).testBit i = true := by
  have hok : needsOk g.length (up (beforeN (stagesN G) s g.length)) := by
    refine ⟨fun x hx => ?_, ?_⟩
    · obtain ⟨i, hi, hxi⟩ := List.mem_map.1 hx
      have := (mem_beforeN.1 hi).1
      have hxi' : ((i : Nat) : Int) = x := hxi
      omega
    · have := (asc_filter (fun i => decide ((stagesN G).getD i 0 < s)) g.length 0).1
      rw [← List.range_eq_range'] at this
      exact this
  obtain ⟨t, ht⟩ := setD_ok hok
  have htl := setD_lt ht
  have hb := (setD_some ht).2
  have hbit : ∀ i, t.testBit i = true ↔ i < g.length ∧ (stagesN G).getD i 0 < s := by
    intro i
    rw [hb, decide_eq_true_eq, mem_up, mem_beforeN]
  have hd := doneD_mk hG htl ((v.closed_iff htl).2 fun i hi j hj => by
    have h1 := (hbit i).1 hi
    have h2 := (v.stage h1.1).1 j hj
    exact (hbit j).2 ⟨v.need_lt hj, by have := h1.2; omega⟩)
  rw [set_list v.n8 ht] at hd
  refine ⟨t, hd, fun i hi hs => v.mem_rd.2 ⟨hi, ?_, (v.sub_iff' htl).2 fun j hj => ?_⟩⟩
  · refine Bool.eq_false_iff.2 fun e => ?_
    have := ((hbit i).1 e).2
    omega
  · exact (hbit j).2 ⟨v.need_lt hj, by have := (v.stage hi).1 j hj; omega⟩
theorem FnStagesOfDone_pure (l0 : List Int) (hW : Bytes l0) : ∃ k, laws_FnStagesOfDone.f k l0 = some true := by
  refine Ev.one (f := fun k => laws_FnStagesOfDone.f k l0) (EvP.ev ?_)
  unfold laws_FnStagesOfDone.f
  refine EvP.ite (fun _ => EvP.ret rfl) (fun hlen => ?_)
  have hd : EvP (fun (k : Nat) => spec_DrawStagesOf.f l0) (fun r => GSmall 16 10 r) := by
    unfold spec_DrawStagesOf.f
    exact (ev_newReader hW).bind fun a ha => (ev_anyGraph ha (by omega)).bind fun c hc => EvP.ret hc.1
  refine hd.bind fun g hg => ?_
  have hf := hg.fits (by unfold big; omega) (by unfold big; omega)
  obtain ⟨n1, n2⟩ := stages_small g
  have hs := (ev_StagesOf hf).conv (stages_same g).symm
  have he := ev_equalLists n1 n2
  have hno : EvP (fun k => laws_FnStagesOfDone.j0 k g (stagesOfD g) true) (fun x => x = true) := by
    refine EvP.succ ?_
    simp only [laws_FnStagesOfDone.j0]
    exact EvP.pos (by first | rfl | trivial) (Ev.bindP hs (Ev.bindP he (EvP.ret rfl)))
  refine Ev.bindP (Ev.const (stagesOfD g)) (Ev.bindP hs (Ev.bindP he (EvP.pos rfl ?_)))
  by_cases h0 : (stagesOfD g).length = 0
  · rw [h0]; exact hno
  rw [show (((stagesOfD g).length : Int) == 0) = false from by rw [beq_eq_false_iff_ne]; omega]
  refine EvP.succ ?_
  simp only [laws_FnStagesOfDone.j0]
  cases hG : graphD g with
  | none => exact absurd (by unfold stagesOfD; rw [hG]; rfl) h0
  | some G =>
    have v := vg_of hG
    have h8 := v.n8
    have hS : (stagesN G).length = g.length := by unfold stagesN; rw [stTo_length, v.tasks]
    have hst : stageOfD g = up (stagesN G) := by unfold stageOfD; rw [hG]
    have hms := v.mS_le
    rw [stages_rows hG]
    refine EvP.neg (by simp) (Ev.bindP (Ev.const (stageOfD g)) ?_)
    rw [hst]
    have hrl : (rowsS (stagesN G) g.length (mS (stagesN G) g.length)).length = mS (stagesN G) g.length := by simp [rowsS]
    have hrow : ∀ s, s < mS (stagesN G) g.length → rd_L1 (rowsS (stagesN G) g.length (mS (stagesN G) g.length)) (s : Int) = up (partN (stagesN G) s g.length) := by
      intro s hs
      unfold rd_L1 rowsS
      rw [Int.toNat_natCast, List.getD_eq_getElem?_getD, List.getElem?_map, List.getElem?_range hs]
      rfl
    generalize rowsS (stagesN G) g.length (mS (stagesN G) g.length) = R at hrl hrow ⊢
    have key : ∀ (m s : Nat), s + m = mS (stagesN G) g.length → EvP (fun k => laws_FnStagesOfDone.l0 k g R (up (stagesN G)) (s : Int)) (fun x => x = true) := by
      intro m
      induction m with
      | zero =>
        intro s hs
        refine EvP.succ ?_
        simp only [laws_FnStagesOfDone.l0]
        exact EvP.neg (by omega) (EvP.ret rfl)
      | succ m ih =>
        intro s hs
        have hsm : s < mS (stagesN G) g.length := by omega
        have hw : wrap64 ((s : Int) + 1) = ((s + 1 : Nat) : Int) := w64s (by unfold big; omega)
        have hnext := ih (s + 1) (by omega)
        obtain ⟨t, hdt, hrt⟩ := v.stage_done hG s
        have hpl := partN_length (stagesN G) s g.length
        have htl := v.ready_lt' t
        have inner : ∀ (r pre : List Nat), partN (stagesN G) s g.length = pre ++ r → EvP (fun k => laws_FnStagesOfDone.l2 k g R (up (stagesN G)) (s : Int) (up (elemsN (G.ready t))) (pre.length : Int)) (fun x => x = true) := by
          intro r
          induction r with
          | nil =>
            intro pre hp
            rw [List.append_nil] at hp
            refine EvP.succ ?_
            simp only [laws_FnStagesOfDone.l2, hrow s hsm, hw]
            exact EvP.pos (by omega) (EvP.pos (by omega) (EvP.neg (by rw [up_length, hp]; omega) hnext))
          | cons i r ihr =>
            intro pre hp
            have hlen2 : (partN (stagesN G) s g.length).length = pre.length + (r.length + 1) := by rw [hp]; simp
            have hrd : rd (up (partN (stagesN G) s g.length)) (pre.length : Int) = (i : Int) := by rw [rd_up (i := pre.length) rfl, hp]; simp
            have him : i ∈ partN (stagesN G) s g.length := by rw [hp]; simp
            unfold partN at him
            rw [List.mem_filter, List.mem_range, decide_eq_true_eq] at him
            have hin := ev_lawsIsIn (L := up (elemsN (G.ready t))) (by rw [up_length]; have := elemsN_length (G.ready t); unfold big; omega) (i : Int)
            rw [v.in_dec htl, hrt i him.1 him.2] at hin
            have hwp : wrap64 ((pre.length : Int) + 1) = ((pre ++ [i]).length : Int) := by rw [w64s (by unfold big; omega)]; simp
            have hn2 := ihr (pre ++ [i]) (by rw [hp]; simp)
            refine EvP.succ ?_
            simp only [laws_FnStagesOfDone.l2, hrow s hsm, hrd, hwp]
            exact EvP.pos (by omega) (EvP.pos (by omega) (EvP.pos (by rw [up_length]; omega) (EvP.pos (by omega) (Ev.bindP hin (EvP.pos rfl hn2)))))
        clear htl
        have mid : ∀ (d i : Nat), i + d = g.length → EvP (fun k => laws_FnStagesOfDone.l1 k g R (up (stagesN G)) (s : Int) (up (beforeN (stagesN G) s i)) (i : Int)) (fun x => x = true) := by
          intro d
          induction d with
          | zero =>
            intro i hi
            have : i = g.length := by omega
            subst this
            refine EvP.succ ?_
            simp only [laws_FnStagesOfDone.l1]
            refine EvP.neg (by rw [up_length, hS]; omega) (Ev.bindP (Ev.const (readyD g (up (beforeN (stagesN G) s g.length)))) ?_)
            rw [readyD_some hdt]
            exact inner (partN (stagesN G) s g.length) [] rfl
          | succ d ihd =>
            intro i hi
            have hwi : wrap64 ((i : Int) + 1) = ((i + 1 : Nat) : Int) := w64s (by unfold big; omega)
            have hrd : rd (up (stagesN G)) (i : Int) = (((stagesN G).getD i 0 : Nat) : Int) := rd_up rfl
            have hn3 := ihd (i + 1) (by omega)
            rw [beforeN_succ] at hn3
            have hig : i < g.length := by omega
            have hbl : (beforeN (stagesN G) s i).length < 17592186044416 := Nat.lt_of_le_of_lt (beforeN_length (stagesN G) s i) (Nat.lt_trans hig (Nat.lt_of_le_of_lt h8 (by decide)))
            refine EvP.succ ?_
            simp only [laws_FnStagesOfDone.l1, hrd, hwi]
            have hig2 : (i : Int) < ((up (stagesN G)).length : Int) := by rw [up_length, hS]; exact Int.ofNat_lt.2 hig
            refine EvP.pos hig2 (EvP.pos (Int.natCast_nonneg _) ?_)
            by_cases hlt : (stagesN G).getD i 0 < s
            · rw [if_pos hlt] at hn3
              have e3 : up (beforeN (stagesN G) s i ++ [i]) = up (beforeN (stagesN G) s i) ++ [(i : Int)] := by simp [up]
              rw [e3] at hn3
              exact EvP.pos (Int.ofNat_lt.2 hlt) (EvP.pos (by rw [up_length]; exact hbl) hn3)
            · rw [if_neg hlt] at hn3
              exact EvP.neg (fun h => hlt (Int.ofNat_lt.1 h)) hn3
        refine EvP.succ ?_
        simp only [laws_FnStagesOfDone.l0]
        exact EvP.pos (by omega) (mid g.length 0 (by omega))
    exact key (mS (stagesN G) g.length) 0 (Nat.zero_add _)
end Go.Proofs.YtekajandipdlhaaDoor.Core
end
