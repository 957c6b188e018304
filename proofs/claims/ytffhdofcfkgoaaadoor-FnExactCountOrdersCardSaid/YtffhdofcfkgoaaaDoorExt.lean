/- CountOrders: its contract, in the form in which the printed texts call it. -/
import Derived.Test.YtffhdofcfkgoaaaDoorGraphD
set_option linter.unusedVariables false
set_option linter.unusedSimpArgs false
namespace Go.Proofs.YtffhdofcfkgoaaaDoor.Core
open Go Go.RowKit Go.Shelf Go.Proofs.YtffhdofcfkgoaaaDoorW.PrintWords Go.Proofs.YtffhdofcfkgoaaaDoor.P
attribute [local go_sem] Oper.semAt_some wide_fn wide_depth
def countD (g : List Tk) : Int := match graphD g with
  | none => -1
  | some G => if g.length > 5 then -1 else ((ordersF G 9 0 : Nat) : Int)
end Go.Proofs.YtffhdofcfkgoaaaDoor.Core
namespace Go.Proofs.YtffhdofcfkgoaaaDoor.P
open Go Go.RowKit Go.Shelf Go.Proofs.YtffhdofcfkgoaaaDoorW.PrintWords Go.Proofs.YtffhdofcfkgoaaaDoor.Core
attribute [local go_sem] Oper.semAt_some wide_fn wide_depth
def impl_CountOrders.f (l0 : List S33) : Option Int := some (countD l0)
set_option maxRecDepth 100000 in
set_option maxHeartbeats 4000000 in
theorem impl_CountOrders.calls (A0 : Option Addr) (c0 : Nat) (l0 : List S33) (r : Int) (w : World) (hr0 : Kd.C k33 w A0 l0.length l0) (hc0 : l0.length ≤ c0) (hT : Tab w) (h : impl_CountOrders.f l0 = some r) :
    Calls Tryd.prog 18 #[.slice A0 l0.length c0] w fun e w' => e = .returned (.int .i64 r) ∧ Below w.heap.size w w' := by
  have hr : r = countD l0 := (Option.some.inj h).symm
  subst hr
  have HG := Aside0.mk (graphOf_calls A0 c0 l0 w hT hr0 hc0)
  cases hg : graphD l0 with
  | none =>
    have hcd : countD l0 = -1 := by unfold countD; rw [hg]
    rw [hcd]
    have HG2 := Aside0.mk (HG.out.mono (R' := fun e w' => e = .returned (.tuple #[.pointer none, .bool false]) ∧ Below w.heap.size w w') (fun e w' h => by unfold graphPost at h; rw [hg] at h; exact h))
    clear h HG hr0 hc0 hcd hg
    go_enter Tryd.func18, Tryd.ntmps18
    go_wp2_with (go_at_call 47; refine HG2.out.mono ?_; rintro e w' ⟨rfl, hB⟩)
    go_ret
    exact ⟨rfl, hB⟩
  | some G =>
    have ok := graphD_ok hg
    have htk := graphD_tasks hg
    have HG2 := Aside0.mk (HG.out.mono (R' := fun e w' => ∃ (b : Nat) (v : Value), e = .returned (.tuple #[.pointer (some ⟨b, 0, none⟩), .bool true]) ∧ Below w.heap.size w w' ∧ w.heap.size ≤ b ∧ IsG w' b G ∧ w'.cell? ⟨b, 2, none⟩ = some v ∧ (Kd.int .i64).R 3 w' w.heap.size (fun _ => True) v (up G.order)) (fun e w' h => by unfold graphPost at h; rw [hg] at h; exact h))
    have hlen : countD l0 = if l0.length > 5 then -1 else ((ordersF G 9 0 : Nat) : Int) := by unfold countD; rw [hg]
    have HD := Aside0.mk hlen
    have HK := Aside0.mk (show G.tasks.length = l0.length by rw [htk])
    clear h HG hr0 hc0 hlen hg htk
    by_cases h5 : l0.length > 5
    · have h5' : decide ((l0.length : Int) > 5) = true := by simp; omega
      have hz : (0 < l0.length) = True := eq_true (by omega)
      go_enter Tryd.func18, Tryd.ntmps18
      go_wp2_with (go_at_call 47; refine HG2.out.mono ?_; rintro e w' ⟨b, v, rfl, hB, hb, hG, _, _⟩)
      go_ret
      exact ⟨by rw [HD.out, if_pos h5]; rfl, hB⟩
    · have h5' : decide ((l0.length : Int) > 5) = false := by simp; omega
      go_enter Tryd.func18, Tryd.ntmps18
      go_wp2_with (first | (go_at_call 47; refine HG2.out.mono ?_; rintro e w1 ⟨b, v, rfl, hB, hb, hG, _, _⟩) | (go_at_call 48; refine (orders_calls b G ok 9 (by omega) 0 w1 (Nat.two_pow_pos _) (by rw [zb_zero]; have := ok.n8; omega) (hT.of hB) hG).mono ?_; rintro e w2 ⟨rfl, hB2⟩))
      go_ret
      exact ⟨by rw [HD.out, if_neg h5]; rfl, below_step hB hB2⟩
end Go.Proofs.YtffhdofcfkgoaaaDoor.P

/- The contracts of the exported functions that the printed texts call. -/
