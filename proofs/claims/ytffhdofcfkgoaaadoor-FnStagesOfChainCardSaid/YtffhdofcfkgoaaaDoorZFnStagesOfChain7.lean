/- The law FnStagesOfChain holds of the given program: part 7: words and contracts that the proof uses. -/
import Derived.Test.YtffhdofcfkgoaaaDoorZFnStagesOfChain6
section
set_option linter.unusedVariables false
set_option linter.unusedSimpArgs false
namespace Go.Proofs.YtffhdofcfkgoaaaDoor.Core
open Go Go.RowKit Go.Proofs.YtffhdofcfkgoaaaDoorW.PrintWords Go.Proofs.YtffhdofcfkgoaaaDoorW.PrintMore Go.Proofs.YtffhdofcfkgoaaaDoor.P
theorem ord_split {L : List Nat} {j : Nat} (hj : j < L.length) : L = L.take j ++ L[j] :: L.drop (j + 1) := by
  rw [← List.drop_eq_getElem_cons hj, List.take_append_drop]
theorem VG.need_before {g : List Tk} {G : GD} (v : VG g G) {j m : Nat} (hj : j < G.order.length) (hm : (G.needs.getD G.order[j] 0).testBit m = true) : ∃ q, ∃ h : q < G.order.length, q < j ∧ G.order[q] = m := by
  have := v.ord.needs _ _ _ (ord_split hj) m hm
  obtain ⟨q, hq, e⟩ := List.mem_iff_getElem.1 this
  rw [List.length_take] at hq
  refine ⟨q, by omega, by omega, ?_⟩
  rw [← e, List.getElem_take]
theorem VG.stage_le {g : List Tk} {G : GD} (v : VG g G) : ∀ (b j : Nat) (hj : j < G.order.length), j ≤ b → (stagesN G).getD G.order[j] 0 ≤ j
  | b, j, hj, hb => by
    rcases (v.stage (v.mem.1 (List.getElem_mem hj))).2 with h | ⟨m, hm, h⟩
    · omega
    · obtain ⟨q, hq, hqj, e⟩ := v.need_before hj hm
      match b, hb with
      | 0, hb => omega
      | b + 1, hb =>
        have := v.stage_le b q hq (by omega)
        rw [e] at this
        omega
theorem VG.mS_le {g : List Tk} {G : GD} (v : VG g G) : mS (stagesN G) g.length ≤ g.length := by
  by_cases h0 : 0 < mS (stagesN G) g.length
  · obtain ⟨i, hi, e⟩ := mS_at (stagesN G) h0
    obtain ⟨j, hj, ej⟩ := List.mem_iff_getElem.1 (v.mem.2 hi)
    have := v.stage_le j j hj (Nat.le_refl _)
    rw [ej] at this
    have := v.len
    omega
  · omega
theorem VG.stages_chain {g : List Tk} {G : GD} (v : VG g G) : mS (stagesN G) g.length = g.length ↔ chainN G.needs G.order := by
  have hol := v.len
  constructor
  · intro hM
    have key : ∀ (d s : Nat), s + d + 1 = G.order.length → ∃ hs : s < G.order.length, (stagesN G).getD G.order[s] 0 = s ∧ ∀ h2 : s + 1 < G.order.length, (G.needs.getD G.order[s + 1] 0).testBit G.order[s] = true := by
      intro d
      induction d with
      | zero =>
        intro s hs
        obtain ⟨i, hi, e⟩ := mS_at (stagesN G) (n := g.length) (by omega)
        obtain ⟨j, hj, ej⟩ := List.mem_iff_getElem.1 (v.mem.2 hi)
        have hle := v.stage_le j j hj (Nat.le_refl _)
        rw [ej] at hle
        have hjs : j = s := by omega
        subst hjs
        refine ⟨hj, by rw [ej]; omega, fun h2 => by omega⟩
      | succ d ih =>
        intro s hs
        obtain ⟨h1, h2, _⟩ := ih (s + 1) (by omega)
        rcases (v.stage (v.mem.1 (List.getElem_mem h1))).2 with h | ⟨m, hm, h⟩
        · omega
        · obtain ⟨q, hq, hqj, e⟩ := v.need_before h1 hm
          have hle := v.stage_le q q hq (Nat.le_refl _)
          rw [e] at hle
          have hqs : q = s := by omega
          subst hqs
          exact ⟨hq, by rw [e]; omega, fun _ => by rw [e]; exact hm⟩
    intro pre x y suf ho
    have hl : G.order.length = pre.length + (suf.length + 2) := by rw [ho]; simp
    obtain ⟨hs, _, h3⟩ := key (suf.length + 1) pre.length (by omega)
    have h4 := h3 (by omega)
    have ex : G.order[pre.length] = x := by simp [ho]
    have ey : G.order[pre.length + 1]'(by omega) = y := by simp [ho]
    rwa [ex, ey] at h4
  · intro hc
    have key : ∀ (j : Nat) (hj : j < G.order.length), j ≤ (stagesN G).getD G.order[j] 0 := by
      intro j
      induction j with
      | zero => intro hj; omega
      | succ j ih =>
        intro hj
        have h1 := ih (by omega)
        have ho : G.order = G.order.take j ++ G.order[j]'(by omega) :: G.order[j + 1] :: G.order.drop (j + 2) := by
          rw [← List.drop_eq_getElem_cons hj, ← List.drop_eq_getElem_cons (by omega), List.take_append_drop]
        have := (v.stage (v.mem.1 (List.getElem_mem hj))).1 _ (hc _ _ _ _ ho)
        omega
    have hle := v.mS_le
    by_cases h0 : g.length = 0
    · omega
    · have hj : g.length - 1 < G.order.length := by omega
      have h1 := key (g.length - 1) hj
      have h2 := mS_lt (stagesN G) (n := g.length) (v.mem.1 (List.getElem_mem hj))
      omega
theorem ev_equalLists {a : List (List Int)} (ha : a.length < 4611686018427387904) (hr : ∀ x ∈ a, x.length < 4611686018427387904) : Ev (fun k => laws_equalLists.f k a a) true := by
  have key : ∀ (d i : Nat), i + d = a.length → Ev (fun k => laws_equalLists.l0 k a a (i : Int)) true := by
    intro d
    induction d with
    | zero =>
      intro i h
      refine Ev.succ ((Ev.const _).of fun k => ?_)
      rw [laws_equalLists.l0, if_neg (by omega)]
    | succ d ih =>
      intro i h
      have hx : (rd_L1 a (i : Int)).length < 4611686018427387904 := by
        unfold rd_L1
        rw [Int.toNat_natCast, List.getD_eq_getElem?_getD, List.getElem?_eq_getElem (by omega), Option.getD_some]
        exact hr _ (List.getElem_mem _)
      have he := (ev_equalInts (a := rd_L1 a (i : Int)) (b := rd_L1 a (i : Int)) hx).conv (decide_eq_true rfl)
      have ih' := ih (i + 1) (by omega)
      refine Ev.succ ?_
      simp only [laws_equalLists.l0]
      rw [w64 (n := (i : Int) + 1) (by omega) (by omega)]
      refine Ev.pos (by omega) (Ev.pos (by omega) (Ev.pos (by omega) (Ev.bind he (Ev.pos rfl ?_))))
      simpa using ih'
  unfold laws_equalLists.f
  exact Ev.pos rfl (key a.length 0 (by omega))
theorem stages_same (g : List Tk) : stagesOfD g = specStages g := by
  unfold stagesOfD specStages
  cases hG : graphD g with
  | none => rfl
  | some G =>
    have v := vg_of hG
    have hS : (stagesN G).length = g.length := by unfold stagesN; rw [stTo_length, v.tasks]
    simp only []
    rw [parts_rows (stagesN G) g.length (fun s hs => v.part_ne hs), show min g.length (mS (stagesN G) g.length) = mS (stagesN G) g.length by have := v.mS_le; omega]
    have := soGo_rows (stagesN G) (stagesN G) [] rfl
    rw [hS] at this
    exact this
theorem stages_rows {g : List Tk} {G : GD} (hG : graphD g = some G) : stagesOfD g = rowsS (stagesN G) g.length (mS (stagesN G) g.length) := by
  have v := vg_of hG
  have hS : (stagesN G).length = g.length := by unfold stagesN; rw [stTo_length, v.tasks]
  unfold stagesOfD
  rw [hG]
  have := soGo_rows (stagesN G) (stagesN G) [] rfl
  rw [hS] at this
  exact this
theorem stages_small (g : List Tk) : (stagesOfD g).length < 4611686018427387904 ∧ ∀ x ∈ stagesOfD g, x.length < 4611686018427387904 := by
  cases hG : graphD g with
  | none =>
    have : stagesOfD g = [] := by unfold stagesOfD; rw [hG]
    rw [this]
    simp
  | some G =>
    have v := vg_of hG
    have h8 := v.n8
    rw [stages_rows hG]
    refine ⟨by have := v.mS_le; simp [rowsS]; omega, fun x hx => ?_⟩
    obtain ⟨s, _, rfl⟩ := List.mem_map.1 hx
    have := partN_length (stagesN G) s g.length
    rw [up_length]
    omega
theorem FnStagesOfChain_pure (l0 : List Int) (hW : Bytes l0) : ∃ k, laws_FnStagesOfChain.f k l0 = some true := by
  refine Ev.one (f := fun k => laws_FnStagesOfChain.f k l0) (EvP.ev ?_)
  unfold laws_FnStagesOfChain.f
  refine EvP.ite (fun _ => EvP.ret rfl) (fun hlen => ?_)
  have hd : EvP (fun (k : Nat) => spec_DrawStagesOf.f l0) (fun r => GSmall 16 10 r) := by
    unfold spec_DrawStagesOf.f
    exact (ev_newReader hW).bind fun a ha => (ev_anyGraph ha (by omega)).bind fun c hc => EvP.ret hc.1
  refine hd.bind fun g hg => ?_
  have hf := hg.fits (by unfold big; omega) (by unfold big; omega)
  obtain ⟨n1, n2⟩ := stages_small g
  have hs := (ev_StagesOf hf).conv (stages_same g).symm
  have he := ev_equalLists n1 n2
  refine Ev.bindP (Ev.const (stagesOfD g)) (Ev.bindP hs (Ev.bindP he (EvP.pos rfl (Ev.bindP (Ev.const (countD g)) ?_))))
  refine EvP.succ ?_
  simp only [laws_FnStagesOfChain.j0]
  refine EvP.ite (fun _ => Ev.bindP hs (Ev.bindP he (EvP.ret rfl))) (fun hneg => ?_)
  have hn : ¬ countD g < 0 := fun h => hneg (by simp [h])
  obtain ⟨G, hG, hc⟩ : ∃ G, graphD g = some G ∧ countD g = ((ordersF G 9 0 : Nat) : Int) := by
    unfold countD at hn ⊢
    cases hG : graphD g with
    | none => rw [hG] at hn; simp at hn
    | some G =>
      rw [hG] at hn
      simp only [] at hn ⊢
      by_cases h5 : g.length > 5
      · rw [if_pos h5] at hn; simp at hn
      · exact ⟨G, rfl, by rw [if_neg h5]⟩
  have v := vg_of hG
  refine Ev.bindP (Ev.const (countD g)) (EvP.ret ?_)
  rw [stages_rows hG, hc]
  have hl : (rowsS (stagesN G) g.length (mS (stagesN G) g.length)).length = mS (stagesN G) g.length := by simp [rowsS]
  rw [hl]
  have e1 : (((mS (stagesN G) g.length : Nat) : Int) == ((g.length : Nat) : Int)) = decide (mS (stagesN G) g.length = g.length) := by
    rw [Bool.beq_eq_decide_eq, decide_eq_decide]; omega
  have e2 : (((ordersF G 9 0 : Nat) : Int) == 1) = decide (ordersF G 9 0 = 1) := by
    rw [Bool.beq_eq_decide_eq, decide_eq_decide]; omega
  rw [e1, e2, Bool.beq_eq_decide_eq, decide_eq_true_iff, decide_eq_decide, v.stages_chain, v.chain_iff]
end Go.Proofs.YtffhdofcfkgoaaaDoor.Core
end
