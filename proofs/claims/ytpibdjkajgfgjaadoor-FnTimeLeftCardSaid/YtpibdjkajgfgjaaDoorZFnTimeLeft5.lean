/- The law FnTimeLeft holds of the given program: the proof's own part, with its row and its card, part 5 of 7. -/
import Derived.Test.YtpibdjkajgfgjaaDoorZFnTimeLeft4
section
set_option linter.unusedVariables false
set_option linter.unusedSimpArgs false
namespace Go.Proofs.YtpibdjkajgfgjaaDoor.Core
open Go Go.RowKit Go.Proofs.YtpibdjkajgfgjaaDoorW.PrintWords Go.Proofs.YtpibdjkajgfgjaaDoorW.PrintMore Go.Proofs.YtpibdjkajgfgjaaDoor.P
def maxN (L : List Nat) : Nat := L.foldl max 0
theorem max_natL (a b : Nat) : mx (a : Int) (b : Int) = ((max a b : Nat) : Int) := by unfold mx; split <;> omega
theorem ev_longest_from (L : List Nat) (hL : L.length ≤ 1000) : ∀ (r pre : List Nat) (m : Nat), L = pre ++ r → Ev (fun k => impl_longest.l0 k (m : Int) (up L) ((up L).length : Int) (pre.length : Int)) ((r.foldl max m : Nat) : Int)
  | [], pre, m, hp => by
    rw [List.append_nil] at hp
    refine Ev.succ ((Ev.const _).of fun k => ?_)
    rw [impl_longest.l0, if_neg (by rw [up_length, hp]; omega)]
    rfl
  | a :: r, pre, m, hp => by
    have hl : L.length = pre.length + (r.length + 1) := by rw [hp]; simp
    have hrd : rd (up L) (pre.length : Int) = (a : Int) := by rw [rd_up (i := pre.length) rfl, hp]; simp
    have hw : wrap64 ((pre.length : Int) + 1) = ((pre ++ [a]).length : Int) := by rw [w64 (by omega) (by omega)]; simp
    have ih := ev_longest_from L hL r (pre ++ [a]) (max m a) (by rw [hp]; simp)
    refine Ev.succ (ih.of fun k => ?_)
    rw [impl_longest.l0, if_pos (by rw [up_length]; omega), if_pos (by omega), if_pos (by rw [up_length]; omega), hrd, hw, max_natL]
theorem ev_longest {L : List Nat} (hL : L.length ≤ 1000) : Ev (fun k => impl_longest.f k (up L)) ((maxN L : Nat) : Int) := by
  unfold impl_longest.f
  exact ev_longest_from L hL L [] 0 rfl
theorem longest_calls (L : List Nat) (hL : L.length ≤ 1000) (A0 : Option Addr) (c0 : Nat) (w : World) (hr0 : Kd.C (Kd.int .i64) w A0 (up L).length (up L)) (hc0 : (up L).length ≤ c0) :
    Calls Tryd.prog 95 #[.slice A0 (up L).length c0] w fun e w' => e = .returned (.int .i64 ((maxN L : Nat) : Int)) ∧ Below w.heap.size w w' := by
  obtain ⟨k, hk⟩ := ev_longest hL
  exact impl_longest.calls k A0 c0 (up L) _ w hr0 hc0 (hk k (Nat.le_refl _))
def longD (g : List Tk) : Int := match graphD g with
  | none => -1
  | some G => ((maxN (tailsN G) : Nat) : Int)
end Go.Proofs.YtpibdjkajgfgjaaDoor.Core
namespace Go.Proofs.YtpibdjkajgfgjaaDoor.P
open Go Go.RowKit Go.Shelf Go.Proofs.YtpibdjkajgfgjaaDoorW.PrintWords Go.Proofs.YtpibdjkajgfgjaaDoorW.PrintMore Go.Proofs.YtpibdjkajgfgjaaDoor.Core
attribute [local go_sem] Oper.semAt_some wide_fn wide_depth
def impl_LongestTime.f (l0 : List S48) : Option Int := some (longD l0)
set_option maxRecDepth 100000 in
set_option maxHeartbeats 1000000 in
theorem impl_LongestTime.calls (A0 : Option Addr) (c0 : Nat) (l0 : List S48) (r : Int) (w : World) (hr0 : Kd.C k48 w A0 l0.length l0) (hc0 : l0.length ≤ c0) (hT : Tab w) (h : impl_LongestTime.f l0 = some r) :
    Calls Tryd.prog 48 #[.slice A0 l0.length c0] w fun e w' => e = .returned (.int .i64 r) ∧ Below w.heap.size w w' := by
  have hr : r = longD l0 := (Option.some.inj h).symm
  subst hr
  clear h
  cases hg : graphD l0 with
  | none =>
    have hcd : longD l0 = -1 := by unfold longD; rw [hg]
    rw [hcd]
    have HG := Aside0.mk (graphOf_none A0 c0 l0 w hT hr0 hc0 hg)
    clear hr0 hT hg hcd
    go_enter Tryd.func48, Tryd.ntmps48
    go_wp2_with (go_at_call 60; refine HG.out.mono ?_; rintro e w' ⟨rfl, hB⟩)
    go_ret
    exact ⟨rfl, hB⟩
  | some G =>
    have hcd : longD l0 = ((maxN (tailsN G) : Nat) : Int) := by unfold longD; rw [hg]
    rw [hcd]
    have HG := Aside0.mk (graphOf_some A0 c0 l0 G w hT hr0 hc0 hg)
    have ok := graphD_ok hg
    have htl := tailsN_length G
    have hL8 : (tailsN G).length ≤ 1000 := by have := ok.n8; omega
    have HM := Aside0.mk (fun b W hT hgr => tails_calls b G W hT hgr ok (by rw [graphD_tasks hg]; exact graphD_taskOk hg))
    have HL := Aside0.mk (fun A c W hr hc => longest_calls (tailsN G) hL8 A c W hr hc)
    have HT := Aside0.mk hT
    clear hr0 hT hg hcd ok hL8 htl
    generalize tailsN G = T at HM HL ⊢
    generalize ((maxN T : Nat) : Int) = mI at HL ⊢
    go_enter Tryd.func48, Tryd.ntmps48
    go_wp2_with (first | (go_at_call 60; refine HG.out.mono ?_; rintro e w1 ⟨b, rfl, hB, hgr⟩) | (go_at_call 78; refine (HM.out b _ (HT.out.of hB) hgr).mono ?_; rintro e w2 ⟨v, rfl, hR, hB2⟩; obtain ⟨A2, c2, e2, hl2, hC2⟩ := Kd.R_reads hR; subst e2; have HC2 := Aside0.mk hC2; have HL2 := Aside0.mk hl2; have HB2 := Aside0.mk (below_step hB hB2); clear hR hC2 hl2 hB hB2 hgr) | (go_at_call 95; refine (HL.out A2 c2 _ HC2.out HL2.out).mono ?_; rintro e w3 ⟨rfl, hB3⟩))
    go_ret
    exact ⟨rfl, below_step HB2.out hB3⟩
end Go.Proofs.YtpibdjkajgfgjaaDoor.P
end
