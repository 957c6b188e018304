/- The law FnStagesOfDone holds of the given program: the proof's own part, with its row and its card, part 7 of 12. -/
import Derived.Test.YtekajandipdlhaaDoorZFnStagesOfDone6
section
set_option linter.unusedVariables false
set_option linter.unusedSimpArgs false
namespace Go.Proofs.YtekajandipdlhaaDoor.Core
open Go Go.RowKit Go.Proofs.YtekajandipdlhaaDoorW.PrintWords Go.Proofs.YtekajandipdlhaaDoorW.PrintMore Go.Proofs.YtekajandipdlhaaDoor.P
theorem ord_split {L : List Nat} {j : Nat} (hj : j < L.length) : L = L.take j ++ L[j] :: L.drop (j + 1) := by
  rw [← List.drop_eq_getElem_cons hj, List.take_append_drop]
theorem VG.need_before {g : List Tk} {G : GD} (v : VG g G) {j m : Nat} (hj : j < G.order.length) (hm : (G.needs.getD G.order[j] 0).testBit m = true) : ∃ q, ∃ h : q < G.order.length, q < j ∧ G.order[q] = m := by
  have := v.ord.needs _ _ _ (ord_split hj) m hm
  obtain ⟨q, hq, e⟩ := List.mem_iff_getElem.1 this
  rw [List.length_take] at hq
  refine ⟨q, by omega, by omega, ?_⟩
  rw [← e, List.getElem_take]
theorem VG.stage_le {g : List Tk} {G : GD} (v : VG g G) : ∀ (b j : Nat) (hj : j < G.order.length), j ≤ b → (stagesN G).getD G.order[j] 0 ≤ j
  | b, j, hj, hb => by
    rcases (v.stage (v.mem.1 (List.getElem_mem hj))).2 with h | ⟨m, hm, h⟩
    · omega
    · obtain ⟨q, hq, hqj, e⟩ := v.need_before hj hm
      match b, hb with
      | 0, hb => omega
      | b + 1, hb =>
        have := v.stage_le b q hq (by omega)
        rw [e] at this
        omega
theorem VG.mS_le {g : List Tk} {G : GD} (v : VG g G) : mS (stagesN G) g.length ≤ g.length := by
  by_cases h0 : 0 < mS (stagesN G) g.length
  · obtain ⟨i, hi, e⟩ := mS_at (stagesN G) h0
    obtain ⟨j, hj, ej⟩ := List.mem_iff_getElem.1 (v.mem.2 hi)
    have := v.stage_le j j hj (Nat.le_refl _)
    rw [ej] at this
    have := v.len
    omega
  · omega
theorem ev_equalLists {a : List (List Int)} (ha : a.length < 4611686018427387904) (hr : ∀ x ∈ a, x.length < 4611686018427387904) : Ev (fun k => laws_equalLists.f k a a) true := by
  have key : ∀ (d i : Nat), i + d = a.length → Ev (fun k => laws_equalLists.l0 k a a (i : Int)) true := by
    intro d
    induction d with
    | zero =>
      intro i h
      refine Ev.succ ((Ev.const _).of fun k => ?_)
      rw [laws_equalLists.l0, if_neg (by omega)]
    | succ d ih =>
      intro i h
      have hx : (rd_L1 a (i : Int)).length < 4611686018427387904 := by
        unfold rd_L1
        rw [Int.toNat_natCast, List.getD_eq_getElem?_getD, List.getElem?_eq_getElem (by omega), Option.getD_some]
        exact hr _ (List.getElem_mem _)
      have he := (ev_equalInts (a := rd_L1 a (i : Int)) (b := rd_L1 a (i : Int)) hx).conv (decide_eq_true rfl)
      have ih' := ih (i + 1) (by omega)
      refine Ev.succ ?_
      simp only [laws_equalLists.l0]
      rw [w64 (n := (i : Int) + 1) (by omega) (by omega)]
      refine Ev.pos (by omega) (Ev.pos (by omega) (Ev.pos (by omega) (Ev.bind he (Ev.pos rfl ?_))))
      simpa using ih'
  unfold laws_equalLists.f
  exact Ev.pos rfl (key a.length 0 (by omega))
theorem stages_same (g : List Tk) : stagesOfD g = specStages g := by
  unfold stagesOfD specStages
  cases hG : graphD g with
  | none => rfl
  | some G =>
    have v := vg_of hG
    have hS : (stagesN G).length = g.length := by unfold stagesN; rw [stTo_length, v.tasks]
    simp only []
    rw [parts_rows (stagesN G) g.length (fun s hs => v.part_ne hs), show min g.length (mS (stagesN G) g.length) = mS (stagesN G) g.length by have := v.mS_le; omega]
    have := soGo_rows (stagesN G) (stagesN G) [] rfl
    rw [hS] at this
    exact this
theorem stages_rows {g : List Tk} {G : GD} (hG : graphD g = some G) : stagesOfD g = rowsS (stagesN G) g.length (mS (stagesN G) g.length) := by
  have v := vg_of hG
  have hS : (stagesN G).length = g.length := by unfold stagesN; rw [stTo_length, v.tasks]
  unfold stagesOfD
  rw [hG]
  have := soGo_rows (stagesN G) (stagesN G) [] rfl
  rw [hS] at this
  exact this
theorem stages_small (g : List Tk) : (stagesOfD g).length < 4611686018427387904 ∧ ∀ x ∈ stagesOfD g, x.length < 4611686018427387904 := by
  cases hG : graphD g with
  | none =>
    have : stagesOfD g = [] := by unfold stagesOfD; rw [hG]
    rw [this]
    simp
  | some G =>
    have v := vg_of hG
    have h8 := v.n8
    rw [stages_rows hG]
    refine ⟨by have := v.mS_le; simp [rowsS]; omega, fun x hx => ?_⟩
    obtain ⟨s, _, rfl⟩ := List.mem_map.1 hx
    have := partN_length (stagesN G) s g.length
    rw [up_length]
    omega
end Go.Proofs.YtekajandipdlhaaDoor.Core
end
