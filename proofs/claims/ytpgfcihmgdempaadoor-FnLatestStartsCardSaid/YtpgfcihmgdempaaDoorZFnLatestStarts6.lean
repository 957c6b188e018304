/- The law FnLatestStarts holds of the given program: the proof's own part, with its row and its card, part 6 of 7. -/
import Derived.Test.YtpgfcihmgdempaaDoorZFnLatestStarts5
section
set_option linter.unusedVariables false
set_option linter.unusedSimpArgs false
namespace Go.Proofs.YtpgfcihmgdempaaDoor.Core
open Go Go.RowKit Go.Proofs.YtpgfcihmgdempaaDoorW.PrintWords Go.Proofs.YtpgfcihmgdempaaDoorW.PrintMore Go.Proofs.YtpgfcihmgdempaaDoor.P
theorem FnLatestStarts_pure (l0 : List Int) (hW : Bytes l0) : ∃ k, laws_FnLatestStarts.f k l0 = some true := by
  refine Ev.one (f := fun k => laws_FnLatestStarts.f k l0) (EvP.ev ?_)
  unfold laws_FnLatestStarts.f
  refine EvP.ite (fun _ => EvP.ret rfl) (fun hlen => ?_)
  refine (ev_DrawLatestStarts hW).bind fun ⟨g, dl⟩ hg => ?_
  obtain ⟨hg, hd1, hd2⟩ := hg
  dsimp only at hg hd1 hd2 ⊢
  have hf := hg.fits (by unfold big; omega) (by unfold big; omega)
  have hs := ev_LatestStarts hf dl
  have hll := latestD_length g dl
  have he := ev_equalInts (a := latestD g dl) (b := latestD g dl) (by omega)
  rw [decide_eq_true rfl] at he
  refine Ev.bindP (Ev.const (latestD g dl)) (Ev.bindP hs (Ev.bindP he (EvP.pos (by first | rfl | trivial) ?_)))
  have hyes : EvP (fun k => laws_FnLatestStarts.j0 k g dl (latestD g dl) true) (fun x => x = true) := by
    refine EvP.succ ?_
    simp only [laws_FnLatestStarts.j0]
    exact EvP.pos (by trivial) (Ev.bindP hs (Ev.bindP he (EvP.ret rfl)))
  by_cases hl : (latestD g dl).length = g.length
  rotate_left
  · rw [show (((latestD g dl).length : Int) != (g.length : Int)) = true from bne_iff_ne.2 (by omega)]
    exact hyes
  rw [show (((latestD g dl).length : Int) != (g.length : Int)) = false by rw [hl]; simp]
  refine EvP.succ ?_
  simp only [laws_FnLatestStarts.j0]
  refine EvP.neg (by simp) ?_
  rcases latestD_cases g dl with h | ⟨G, hG, hd, h⟩
  · refine EvP.succ ?_
    simp only [laws_FnLatestStarts.l0]
    have : g.length = 0 := by rw [← hl, h]; rfl
    exact EvP.neg (by omega) (EvP.ret rfl)
  have v := vg_of hG
  have h8 := v.n8
  have hT := tails_ok v
  have htk : ∀ t ∈ g, taskOk t := fun t ht => (v.fine.1 t ht).1
  have hle := tailsN_le (graphD_ok hG) (by rw [v.tasks]; exact tm20_of htk)
  rw [h] at hl ⊢
  have inner : ∀ (i : Nat) (hi : i < g.length), EvP (fun k => laws_FnLatestStarts.l0 k g dl ((up (tailsN G)).map (dl - ·)) ((i + 1 : Nat) : Int)) (fun x => x = true) → ∀ (r pre : List Nat), elemsN (G.needs.getD i 0) = pre ++ r → EvP (fun k => laws_FnLatestStarts.l1 k g dl ((up (tailsN G)).map (dl - ·)) (i : Int) (pre.length : Int)) (fun x => x = true) := by
    intro i hi hnext r
    have hw : wrap64 ((i : Int) + 1) = ((i + 1 : Nat) : Int) := w64s (by unfold big; omega)
    induction r with
    | nil =>
      intro pre hp
      rw [List.append_nil] at hp
      refine EvP.succ ?_
      simp only [laws_FnLatestStarts.l1, rdT_nat, hw]
      refine EvP.pos (by omega) (EvP.pos (by omega) (EvP.neg ?_ hnext))
      rw [v.list hi, up_length, hp]; omega
    | cons n r ih =>
      intro pre hp
      have hL : (g.getD i z30).f1.length = pre.length + (r.length + 1) := by rw [v.list hi, up_length, hp]; simp
      have hb : (G.needs.getD i 0).testBit n = true := (mem_elemsN.1 (show n ∈ elemsN (G.needs.getD i 0) by rw [hp]; simp)).2
      have hn := v.need_lt hb
      have hr : rd (g.getD i z30).f1 (pre.length : Int) = (n : Int) := by rw [v.list hi, rd_up (i := pre.length) rfl, hp]; simp
      have hel := elemsN_length (G.needs.getD i 0)
      have hpl : pre.length < 8 := by rw [hp] at hel; simp at hel; omega
      have hw2 : wrap64 ((pre.length : Int) + 1) = ((pre ++ [n]).length : Int) := by rw [w64s (by unfold big; omega)]; simp
      have htm := tm_int htk hn
      have h1 := (hT.2 n hn).1 i hi hb
      have b1 := hle n
      have b2 := hle i
      refine EvP.succ ?_
      simp only [laws_FnLatestStarts.l1, rdT_nat, hw, hr, hw2, rd_late dl (show n < (tailsN G).length by rw [hT.1]; exact hn), rd_late dl (show i < (tailsN G).length by rw [hT.1]; exact hi), htm.1]
      have h2 := ih (pre ++ [n]) (by rw [hp]; simp)
      refine EvP.pos (by omega) (EvP.pos (by omega) (EvP.pos (by rw [hL]; omega) (EvP.pos (by omega) (EvP.pos (by omega) (EvP.pos (by omega) (EvP.pos (by omega) (EvP.pos (by omega) (EvP.neg ?_ h2))))))))
      rw [w64 (by omega) (by omega)]
      omega
  have outer : ∀ (m i : Nat), i + m = g.length → EvP (fun k => laws_FnLatestStarts.l0 k g dl ((up (tailsN G)).map (dl - ·)) (i : Int)) (fun x => x = true) := by
    intro m
    induction m with
    | zero =>
      intro i hi
      refine EvP.succ ?_
      simp only [laws_FnLatestStarts.l0]
      exact EvP.neg (by omega) (EvP.ret rfl)
    | succ m ih =>
      intro i hi
      have hig : i < g.length := by omega
      have htm := tm_int htk hig
      have h1 := hT.self hig
      have b2 := hle i
      refine EvP.succ ?_
      simp only [laws_FnLatestStarts.l0, rdT_nat, rd_late dl (show i < (tailsN G).length by rw [hT.1]; exact hig), htm.1]
      refine EvP.pos (by omega) (EvP.pos (by omega) (EvP.pos (by omega) (EvP.neg ?_ ?_)))
      · rw [w64 (by omega) (by omega)]; omega
      · exact inner i hig (ih (i + 1) (by omega)) (elemsN (G.needs.getD i 0)) [] rfl
  exact outer g.length 0 (by omega)
end Go.Proofs.YtpgfcihmgdempaaDoor.Core
end
