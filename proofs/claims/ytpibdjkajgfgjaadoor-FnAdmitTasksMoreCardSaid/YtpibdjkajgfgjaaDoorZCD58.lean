/- What the proofs of several laws use: words and contracts, part 8 of 9. -/
import Derived.Test.YtpibdjkajgfgjaaDoorZCD57
section
set_option linter.unusedVariables false
set_option linter.unusedSimpArgs false
namespace Go.Proofs.YtpibdjkajgfgjaaDoor.Core
open Go Go.RowKit Go.Proofs.YtpibdjkajgfgjaaDoorW.PrintWords Go.Proofs.YtpibdjkajgfgjaaDoorW.PrintMore Go.Proofs.YtpibdjkajgfgjaaDoor.P
theorem VG.closed_iff {g : List Tk} {G : GD} (v : VG g G) {s : Nat} (hs : s < 2 ^ g.length) : closedD G.needs s = true ↔ ∀ i, s.testBit i = true → ∀ j, (G.needs.getD i 0).testBit j = true → s.testBit j = true := by
 unfold closedD
 rw [List.all_eq_true]
 constructor
 ·intro h i hi j hj
  have := of_decide_eq_true (h i ((v.list_bit hs i).1 hi))
  exact (v.sub_iff' hs).1 this j hj
 ·intro h i hi
  exact decide_eq_true ((v.sub_iff' hs).2 (h i ((v.list_bit hs i).2 hi)))
theorem VG.mem_rd {g : List Tk} {G : GD} (v : VG g G) {s x : Nat} : (G.ready s).testBit x = true ↔ x < g.length ∧ s.testBit x = false ∧ sub (G.needs.getD x 0) s = 0 := by
 rw [← v.mem_ready, mem_elemsN]
 refine ⟨fun h => ⟨?_, h⟩, fun h => h.2⟩
 have h1 := ready_lt G s
 rw [v.nl] at h1
 have h3 := (Nat.pow_lt_pow_iff_right (by omega : 1 < 2)).1 (Nat.lt_of_le_of_lt (Nat.ge_two_pow_of_testBit h) h1)
 have := v.n8
 omega
/-- A ready task can be done. -/
theorem VG.step {g : List Tk} {G : GD} (v : VG g G) {s x : Nat} (hs : s < 2 ^ g.length) (hc : closedD G.needs s = true) (hx : (G.ready s).testBit x = true) : s ||| 2 ^ x < 2 ^ g.length ∧ closedD G.needs (s ||| 2 ^ x) = true ∧ zb g.length (s ||| 2 ^ x) + 1 = zb g.length s := by
 obtain ⟨h1, h2, h3⟩ := v.mem_rd.1 hx
 have hlt : s ||| 2 ^ x < 2 ^ g.length := Nat.or_lt_two_pow hs (Nat.pow_lt_pow_right (by omega) h1)
 refine ⟨hlt, (v.closed_iff hlt).2 fun i hi j hj => ?_, ?_⟩
 ·rw [or_bit, Bool.or_eq_true] at hi ⊢
  rcases hi with hi | hi
  ·exact .inl ((v.closed_iff hs).1 hc i hi j hj)
  ·have e : x = i := by simpa using hi
   subst e
   exact .inl ((v.sub_iff' hs).1 h3 j hj)
 ·have := zb_step h2 h1; omega
end Go.Proofs.YtpibdjkajgfgjaaDoor.Core
end
section
set_option linter.unusedVariables false
set_option linter.unusedSimpArgs false
namespace Go.Proofs.YtpibdjkajgfgjaaDoor.Core
open Go Go.RowKit Go.Proofs.YtpibdjkajgfgjaaDoorW.PrintWords Go.Proofs.YtpibdjkajgfgjaaDoorW.PrintMore Go.Proofs.YtpibdjkajgfgjaaDoor.P
theorem usedN_filt (g : List Tk) (p : Int) (a b : Nat → Bool) (i : Nat) (ha : a i = false) (hb : ∀ j, b j = (a j || decide (i = j))) : ∀ R : List Nat, R.Nodup →
  usedN g p (R.filter b) = usedN g p (R.filter a) + (if i ∈ R then (if (g.getD i z48).f2 = p then (g.getD i z48).f3 else 0) else 0) ∧ (R.filter b).length = (R.filter a).length + (if i ∈ R then 1 else 0)
 | [], _ => by simp [usedN]
 | j :: R, hn => by
  obtain ⟨hj, hR⟩ := List.nodup_cons.1 hn
  obtain ⟨h1, h2⟩ := usedN_filt g p a b i ha hb R hR
  by_cases e : i = j
  ·subst e
   have hbi : b i = true := by rw [hb]; simp
   rw [if_neg hj, Int.add_zero] at h1
   rw [if_neg hj, Nat.add_zero] at h2
   rw [List.filter_cons_of_pos hbi, List.filter_cons_of_neg (by rw [ha]; simp), if_pos List.mem_cons_self, if_pos List.mem_cons_self]
   refine ⟨?_, ?_⟩
   ·rw [usedN, h1]; omega
   ·rw [List.length_cons, h2]
  ·have hm : (i ∈ j :: R) ↔ i ∈ R := by simp [e]
   have hbj : b j = a j := by rw [hb, decide_eq_false e, Bool.or_false]
   simp only [hm]
   cases haj : a j with
   | true =>
    rw [List.filter_cons_of_pos (by rw [hbj]; exact haj), List.filter_cons_of_pos haj]
    refine ⟨?_, ?_⟩
    ·rw [usedN, usedN, h1]; omega
    ·rw [List.length_cons, List.length_cons, h2]; omega
   | false =>
    rw [List.filter_cons_of_neg (by rw [hbj, haj]; simp), List.filter_cons_of_neg (by rw [haj]; simp)]
    exact ⟨h1, h2⟩
theorem usedN_or (g : List Tk) (p : Int) {t i : Nat} (hi : i < 8) (ht : t.testBit i = false) : usedN g p (elemsN (t ||| 2 ^ i)) = usedN g p (elemsN t) + (if (g.getD i z48).f2 = p then (g.getD i z48).f3 else 0) ∧ (elemsN (t ||| 2 ^ i)).length = (elemsN t).length + 1 := by
 have h := usedN_filt g p (fun j => t.testBit j) (fun j => (t ||| 2 ^ i).testBit j) i ht (fun j => or_bit t i j) (List.range 8) List.nodup_range
 rw [if_pos (List.mem_range.2 hi), if_pos (List.mem_range.2 hi)] at h
 exact h
/-- A counter that tells a set of tasks. -/
structure GoodS (g : List Tk) (c : Cn) (st : Nat) : Prop where
 t : c.t = ((elemsN st).length : Int)
 u : ∀ p : Int, 0 ≤ p → p ≤ 2 → c.u p = usedN g p (elemsN st)
theorem GoodS.step {g : List Tk} (hpo : PoolOk g) (h8 : g.length ≤ 8) {c : Cn} {t i : Nat} (h : GoodS g c t) (ht : t < 2 ^ g.length) (hi : i < g.length) (hb : t.testBit i = false) : GoodS g (c.add (g.getD i z48).f2 (g.getD i z48).f3 1) (t ||| 2 ^ i) := by
 have hl := elemsN_length t
 have hu : UOk g (elemsN t) := fun j hj => (hpo j (by
  have h2 := (mem_elemsN.1 hj).2
  have h3 := Nat.ge_two_pow_of_testBit h2
  have h4 : 2 ^ j < 2 ^ g.length := Nat.lt_of_le_of_lt h3 ht
  exact (Nat.pow_lt_pow_iff_right (by omega)).1 h4)).2
 have hp3 := (hpo i hi).2
 have b (p : Int) := usedN_bd (p := p) hu
 have e0 := h.u 0 (by omega) (by omega)
 have e1 := h.u 1 (by omega) (by omega)
 have e2 := h.u 2 (by omega) (by omega)
 have b0 := b 0
 have b1 := b 1
 have b2 := b 2
 simp only [Cn.u, if_true, show ¬ ((1 : Int) = 0) by decide, show ¬ ((2 : Int) = 0) by decide, show ¬ ((2 : Int) = 1) by decide, if_false] at e0 e1 e2
 refine ⟨?_, fun p h0 h2 => ?_⟩
 ·rw [(usedN_or g 0 (by omega) hb).2]
  simp only [Cn.add]
  rw [h.t, w64 (by omega) (by omega)]
  omega
 ·rw [(usedN_or g p (by omega) hb).1]
  have hp : p = 0 ∨ p = 1 ∨ p = 2 := by omega
  rcases hp with rfl | rfl | rfl
  ·simp only [Cn.add, Cn.u, if_true]; split <;> (first | (rw [w64 (n := 1 * _) (by omega) (by omega), w64 (by omega) (by omega)]; omega) | omega)
  ·simp only [Cn.add, Cn.u, if_true, show ¬ ((1 : Int) = 0) by decide, if_false]; split <;> (first | (rw [w64 (n := 1 * _) (by omega) (by omega), w64 (by omega) (by omega)]; omega) | omega)
  ·simp only [Cn.add, Cn.u, if_true, show ¬ ((2 : Int) = 0) by decide, show ¬ ((2 : Int) = 1) by decide, if_false]; split <;> (first | (rw [w64 (n := 1 * _) (by omega) (by omega), w64 (by omega) (by omega)]; omega) | omega)
theorem admGo_ext {g : List Tk} {room : List Int} {wk : Int} : ∀ (r : List Int) (c : Cn) (out : List Int), ∃ D, admGo g room wk r c out = out ++ D
 | [], c, out => ⟨[], by simp [admGo]⟩
 | x :: r, c, out => by
  unfold admGo
  cases takesI g c x room wk with
  | true =>
   obtain ⟨D, e⟩ := admGo_ext (g := g) (room := room) (wk := wk) r (afterI g c x true) (out ++ [x])
   exact ⟨x :: D, by show admGo g room wk r (afterI g c x true) (out ++ [x]) = _; rw [e, List.append_assoc]; rfl⟩
  | false => exact admGo_ext r _ out
end Go.Proofs.YtpibdjkajgfgjaaDoor.Core
end
