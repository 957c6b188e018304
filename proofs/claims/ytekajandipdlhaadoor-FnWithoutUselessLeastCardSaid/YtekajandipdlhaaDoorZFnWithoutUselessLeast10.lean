/- The law FnWithoutUselessLeast holds of the given program: the proof's own part, with its row and its card, part 10 of 11. -/
import Derived.Test.YtekajandipdlhaaDoorZFnWithoutUselessLeast9
section
set_option linter.unusedVariables false
set_option linter.unusedSimpArgs false
namespace Go.Proofs.YtekajandipdlhaaDoor.Core
open Go Go.RowKit Go.Proofs.YtekajandipdlhaaDoorW.PrintWords Go.Proofs.YtekajandipdlhaaDoorW.PrintMore Go.Proofs.YtekajandipdlhaaDoor.P
/-- A task without its first need. -/
def lessT (t : Tk) : Tk := ⟨t.f0, t.f1.drop 1, t.f2, t.f3⟩
theorem elemsN_nodup (s : Nat) : (elemsN s).Nodup := by
 unfold elemsN
 exact List.nodup_range.filter _
/-- A need that is not useless is not below without it. -/
theorem less_below {g2 : List Tk} {G2 : GD} (hG2 : graphD g2 = some G2) (hno : ∀ i, i < g2.length → uselessD G2 i = 0) {i k0 : Nat} {rest : List Nat} (hi : i < g2.length) (hk : elemsN (G2.needs.getD i 0) = k0 :: rest) : ∃ G3, graphD (g2.set i (lessT (g2.getD i z37))) = some G3 ∧ (G3.below.getD i 0).testBit k0 = false := by
 have v2 := vg_of hG2
 have hl : (g2.set i (lessT (g2.getD i z37))).length = g2.length := List.length_set
 have hmem : g2.getD i z37 ∈ g2 := getD_mem hi
 have hfi := v2.fine.1 _ hmem
 have hlist := v2.list hi
 rw [hk] at hlist
 have hdrop : (lessT (g2.getD i z37)).f1 = up rest := by
  show (g2.getD i z37).f1.drop 1 = _
  rw [hlist]; rfl
 have hget : ∀ a, a < g2.length → (g2.set i (lessT (g2.getD i z37))).getD a z37 = if a = i then lessT (g2.getD i z37) else g2.getD a z37 := by
  intro a ha
  by_cases e : a = i
  ·subst e
   rw [if_pos rfl, List.getD_eq_getElem?_getD, List.getElem?_set_self hi, Option.getD_some]
  ·rw [if_neg e, List.getD_eq_getElem?_getD, List.getElem?_set_ne (Ne.symm e), ← List.getD_eq_getElem?_getD]
 obtain ⟨G3, hG3, v3, hin⟩ := fewer_graph v2 hl (fun t ht => by
  rcases List.mem_or_eq_of_mem_set ht with h | rfl
  ·exact v2.fine.1 t h
  ·refine ⟨hfi.1, ?_⟩
   rw [hdrop]
   have h1 := hfi.2
   rw [hlist] at h1
   exact ⟨fun x hx => h1.1 x (List.mem_cons_of_mem _ hx), (asc_lt h1.2).1⟩) (fun a ha j hj => by
  rw [hget a ha] at hj
  by_cases e : a = i
  ·subst e
   rw [if_pos rfl, hdrop] at hj
   rw [hlist]
   exact List.mem_cons_of_mem _ hj
  ·rwa [if_neg e] at hj)
 refine ⟨G3, hG3, Bool.eq_false_iff.2 fun hb => ?_⟩
 have hi3 : i < (g2.set i (lessT (g2.getD i z37))).length := by rw [hl]; exact hi
 obtain ⟨m, hm, h⟩ := (below_bits hG3 hi3 k0).1 hb
 have hm2 := hin i hi m hm
 have hmr : m ∈ rest := by
  rw [v3.bits i hi3, decide_eq_true_eq, hget i hi, if_pos rfl, hdrop, mem_up] at hm
  exact hm
 have hnd := elemsN_nodup (G2.needs.getD i 0)
 rw [hk, List.nodup_cons] at hnd
 rcases h with rfl | h
 ·exact hnd.1 hmr
 ·have h2 := below_mono v2 v3 hG2 hG3 hl hin m (by rw [hl]; exact v2.need_lt hm2) k0 h
  have hk0 : (G2.needs.getD i 0).testBit k0 = true := (mem_elemsN.1 (show k0 ∈ elemsN (G2.needs.getD i 0) by rw [hk]; exact List.mem_cons_self)).2
  have := (v2.useless_bit i k0).2 ⟨hk0, m, hm2, h2⟩
  rw [hno i hi] at this
  simp at this
theorem FnWithoutUselessLeast_pure (l0 : List Int) (hW : Bytes l0) : ∃ k, laws_FnWithoutUselessLeast.f k l0 = some true := by
 refine Ev.one (f := fun k => laws_FnWithoutUselessLeast.f k l0) (EvP.ev ?_)
 unfold laws_FnWithoutUselessLeast.f
 refine EvP.ite (fun _ => EvP.ret rfl) (fun hlen => ?_)
 have hd : EvP (fun (k : Nat) => spec_DrawWithoutUseless.f l0) (fun r => GSmall 16 10 r) := by
  unfold spec_DrawWithoutUseless.f
  exact (ev_newReader hW).bind fun a ha => (ev_anyGraph ha (by omega)).bind fun c hc => EvP.ret hc.1
 refine hd.bind fun g hg => ?_
 have hf := hg.fits (by unfold big; omega) (by unfold big; omega)
 have hs := ev_WithoutUseless hf
 have he := ev_equalTasks (withoutD_fits g)
 have hyes : EvP (fun k => laws_FnWithoutUselessLeast.j0 k g (withoutD g) true) (fun x => x = true) := by
  refine EvP.succ ?_
  simp only [laws_FnWithoutUselessLeast.j0]
  exact EvP.pos (by first | rfl | trivial) (Ev.bindP hs (Ev.bindP he (EvP.ret rfl)))
 refine Ev.bindP (Ev.const (withoutD g)) (Ev.bindP hs (Ev.bindP he (EvP.pos rfl ?_)))
 by_cases h0 : (withoutD g).length = 0
 ·rw [h0]; exact hyes
 rw [show (((withoutD g).length : Int) == 0) = false from by rw [beq_eq_false_iff_ne]; omega]
 obtain ⟨G, hG⟩ := withoutD_none h0
 have v := vg_of hG
 have h8 := v.n8
 obtain ⟨hl, G2, hG2, hb⟩ := without_graph hG
 have hno := without_none hG hG2
 rw [← hl] at h8 hno
 clear hs he hyes h0 hb hf hg
 generalize withoutD g = g2 at h8 hno hl hG2 ⊢
 have v2 := vg_of hG2
 refine EvP.succ ?_
 simp only [laws_FnWithoutUselessLeast.j0]
 refine EvP.neg (by simp) ?_
 have key : ∀ (m i : Nat), i + m = g2.length → EvP (fun k => laws_FnWithoutUselessLeast.l0 k g2 (i : Int)) (fun x => x = true) := by
  intro m
  induction m with
  | zero =>
   intro i hi
   refine EvP.succ ?_
   simp only [laws_FnWithoutUselessLeast.l0]
   exact EvP.neg (by omega) (EvP.ret rfl)
  | succ m ih =>
   intro i hi
   have hn := ih (i + 1) (by omega)
   have hw : wrap64 ((i : Int) + 1) = ((i + 1 : Nat) : Int) := w64s (by unfold big; omega)
   have hig : i < g2.length := by omega
   have hlist := v2.list hig
   refine EvP.succ ?_
   simp only [laws_FnWithoutUselessLeast.l0, hw, rdT_nat, Option.bind_some, List.nil_append, List.length_nil]
   refine EvP.pos (by omega) (EvP.pos (by omega) ?_)
   cases hk : elemsN (G2.needs.getD i 0) with
   | nil =>
    rw [hk] at hlist
    exact EvP.pos (by rw [hlist]; rfl) hn
   | cons k0 rest =>
    rw [hk] at hlist
    obtain ⟨G3, hG3, hb3⟩ := less_below hG2 hno hig hk
    have hl3 : (g2.set i (lessT (g2.getD i z37))).length = g2.length := List.length_set
    have v3 := vg_of hG3
    have hnl : ((g2.getD i z37).f1.length : Int) = (rest.length : Int) + 1 := by rw [hlist, up_length]; simp
    have hr0 : rd (g2.getD i z37).f1 0 = (k0 : Int) := by rw [hlist]; rfl
    have ha : allNeedsD (g2.set i (lessT (g2.getD i z37))) (i : Int) = up (elemsN (G3.below.getD i 0)) := by
     unfold allNeedsD
     rw [hG3, hl3]
     simp only []
     rw [if_pos ⟨by omega, by omega⟩, Int.toNat_natCast]
     rfl
    have hbl := elemsN_length (G3.below.getD i 0)
    have hin := ev_lawsIsIn (L := up (elemsN (G3.below.getD i 0))) (by rw [up_length]; unfold big; omega) (k0 : Int)
    have hdec : decide ((k0 : Int) ∈ up (elemsN (G3.below.getD i 0))) = false := decide_eq_false (by rw [mem_up, mem_elemsN, hb3]; simp)
    rw [hdec] at hin
    refine EvP.neg (by rw [hnl]; omega) (EvP.pos (by omega) (EvP.pos (by rw [hnl]; omega) (EvP.pos (by omega) (Ev.bindP (Ev.const (allNeedsD (g2.set ((i : Int)).toNat (lessT (g2.getD i z37))) (i : Int))) ?_))))
    rw [Int.toNat_natCast, ha, hr0]
    exact EvP.pos (by rw [hnl]; omega) (Ev.bindP hin (EvP.neg (by simp) hn))
 exact key g2.length 0 (by omega)
end Go.Proofs.YtekajandipdlhaaDoor.Core
end
