/- What the proofs of several laws use: words and contracts, part 7 of 8. -/
import Derived.Test.YtpibdjkajgfgjaaDoorZCD66
section
set_option linter.unusedVariables false
set_option linter.unusedSimpArgs false
namespace Go.Proofs.YtpibdjkajgfgjaaDoor.Core
open Go Go.RowKit Go.Proofs.YtpibdjkajgfgjaaDoorW.PrintWords Go.Proofs.YtpibdjkajgfgjaaDoorW.PrintMore Go.Proofs.YtpibdjkajgfgjaaDoor.P
theorem VG.closed_iff {g : List Tk} {G : GD} (v : VG g G) {s : Nat} (hs : s < 2 ^ g.length) : closedD G.needs s = true ↔ ∀ i, s.testBit i = true → ∀ j, (G.needs.getD i 0).testBit j = true → s.testBit j = true := by
 unfold closedD
 rw [List.all_eq_true]
 constructor
 ·intro h i hi j hj
  have := of_decide_eq_true (h i ((v.list_bit hs i).1 hi))
  exact (v.sub_iff' hs).1 this j hj
 ·intro h i hi
  exact decide_eq_true ((v.sub_iff' hs).2 (h i ((v.list_bit hs i).2 hi)))
theorem setD_elems {n s : Nat} (hn : n ≤ 8) (hs : s < 2 ^ n) : setD n (up (elemsN s)) = some s := by
 have hok : needsOk n (up (elemsN s)) := by
  refine ⟨fun x hx => ?_, asc_elems s⟩
  have := elems_lt hs hx
  omega
 obtain ⟨t, ht⟩ := setD_ok hok
 rw [ht]
 congr 1
 have h := set_list hn ht
 have e := up_inj h
 have hb := (setD_some ht).2
 refine Nat.eq_of_testBit_eq fun i => ?_
 rw [hb]
 by_cases hi : i < 8
 ·cases hsb : s.testBit i with
  | true => exact decide_eq_true (mem_up.2 (mem_elemsN.2 ⟨hi, hsb⟩))
  | false => exact decide_eq_false (fun h => by have := (mem_elemsN.1 (mem_up.1 h)).2; rw [hsb] at this; cases this)
 ·rw [Nat.testBit_lt_two_pow (Nat.lt_of_lt_of_le hs (Nat.pow_le_pow_right (by omega) (by omega)))]
  exact decide_eq_false (fun h => hi (mem_elemsN.1 (mem_up.1 h)).1)
theorem VG.mem_rd {g : List Tk} {G : GD} (v : VG g G) {s x : Nat} : (G.ready s).testBit x = true ↔ x < g.length ∧ s.testBit x = false ∧ sub (G.needs.getD x 0) s = 0 := by
 rw [← v.mem_ready, mem_elemsN]
 refine ⟨fun h => ⟨?_, h⟩, fun h => h.2⟩
 have h1 := ready_lt G s
 rw [v.nl] at h1
 have h3 := (Nat.pow_lt_pow_iff_right (by omega : 1 < 2)).1 (Nat.lt_of_le_of_lt (Nat.ge_two_pow_of_testBit h) h1)
 have := v.n8
 omega
/-- A ready task can be done. -/
theorem VG.step {g : List Tk} {G : GD} (v : VG g G) {s x : Nat} (hs : s < 2 ^ g.length) (hc : closedD G.needs s = true) (hx : (G.ready s).testBit x = true) : s ||| 2 ^ x < 2 ^ g.length ∧ closedD G.needs (s ||| 2 ^ x) = true ∧ zb g.length (s ||| 2 ^ x) + 1 = zb g.length s := by
 obtain ⟨h1, h2, h3⟩ := v.mem_rd.1 hx
 have hlt : s ||| 2 ^ x < 2 ^ g.length := Nat.or_lt_two_pow hs (Nat.pow_lt_pow_right (by omega) h1)
 refine ⟨hlt, (v.closed_iff hlt).2 fun i hi j hj => ?_, ?_⟩
 ·rw [or_bit, Bool.or_eq_true] at hi ⊢
  rcases hi with hi | hi
  ·exact .inl ((v.closed_iff hs).1 hc i hi j hj)
  ·have e : x = i := by simpa using hi
   subst e
   exact .inl ((v.sub_iff' hs).1 h3 j hj)
 ·have := zb_step h2 h1; omega
end Go.Proofs.YtpibdjkajgfgjaaDoor.Core
end
section
set_option linter.unusedVariables false
set_option linter.unusedSimpArgs false
namespace Go.Proofs.YtpibdjkajgfgjaaDoor.Core
open Go Go.RowKit Go.Proofs.YtpibdjkajgfgjaaDoorW.PrintWords Go.Proofs.YtpibdjkajgfgjaaDoorW.PrintMore Go.Proofs.YtpibdjkajgfgjaaDoor.P
theorem usedN_filt (g : List Tk) (p : Int) (a b : Nat → Bool) (i : Nat) (ha : a i = false) (hb : ∀ j, b j = (a j || decide (i = j))) : ∀ R : List Nat, R.Nodup →
  usedN g p (R.filter b) = usedN g p (R.filter a) + (if i ∈ R then (if (g.getD i z48).f2 = p then (g.getD i z48).f3 else 0) else 0) ∧ (R.filter b).length = (R.filter a).length + (if i ∈ R then 1 else 0)
 | [], _ => by simp [usedN]
 | j :: R, hn => by
  obtain ⟨hj, hR⟩ := List.nodup_cons.1 hn
  obtain ⟨h1, h2⟩ := usedN_filt g p a b i ha hb R hR
  by_cases e : i = j
  ·subst e
   have hbi : b i = true := by rw [hb]; simp
   rw [if_neg hj, Int.add_zero] at h1
   rw [if_neg hj, Nat.add_zero] at h2
   rw [List.filter_cons_of_pos hbi, List.filter_cons_of_neg (by rw [ha]; simp), if_pos List.mem_cons_self, if_pos List.mem_cons_self]
   refine ⟨?_, ?_⟩
   ·rw [usedN, h1]; omega
   ·rw [List.length_cons, h2]
  ·have hm : (i ∈ j :: R) ↔ i ∈ R := by simp [e]
   have hbj : b j = a j := by rw [hb, decide_eq_false e, Bool.or_false]
   simp only [hm]
   cases haj : a j with
   | true =>
    rw [List.filter_cons_of_pos (by rw [hbj]; exact haj), List.filter_cons_of_pos haj]
    refine ⟨?_, ?_⟩
    ·rw [usedN, usedN, h1]; omega
    ·rw [List.length_cons, List.length_cons, h2]; omega
   | false =>
    rw [List.filter_cons_of_neg (by rw [hbj, haj]; simp), List.filter_cons_of_neg (by rw [haj]; simp)]
    exact ⟨h1, h2⟩
theorem usedN_or (g : List Tk) (p : Int) {t i : Nat} (hi : i < 8) (ht : t.testBit i = false) : usedN g p (elemsN (t ||| 2 ^ i)) = usedN g p (elemsN t) + (if (g.getD i z48).f2 = p then (g.getD i z48).f3 else 0) ∧ (elemsN (t ||| 2 ^ i)).length = (elemsN t).length + 1 := by
 have h := usedN_filt g p (fun j => t.testBit j) (fun j => (t ||| 2 ^ i).testBit j) i ht (fun j => or_bit t i j) (List.range 8) List.nodup_range
 rw [if_pos (List.mem_range.2 hi), if_pos (List.mem_range.2 hi)] at h
 exact h
theorem or_lt {n t i : Nat} (ht : t < 2 ^ n) (hi : i < n) : t ||| 2 ^ i < 2 ^ n := Nat.or_lt_two_pow ht (Nat.pow_lt_pow_right (by omega) hi)
/-- A counter that tells a set of tasks. -/
structure GoodS (g : List Tk) (c : Cn) (st : Nat) : Prop where
 t : c.t = ((elemsN st).length : Int)
 u : ∀ p : Int, 0 ≤ p → p ≤ 2 → c.u p = usedN g p (elemsN st)
theorem goodS_set {g : List Tk} {s : Nat} (h : UOk g (elemsN s)) : GoodS g (countSet g s) s := by
 have hg := good_set h
 exact ⟨hg.t, fun p h0 h2 => hg.u ⟨h0, h2⟩⟩
theorem GoodS.step {g : List Tk} (hpo : PoolOk g) (h8 : g.length ≤ 8) {c : Cn} {t i : Nat} (h : GoodS g c t) (ht : t < 2 ^ g.length) (hi : i < g.length) (hb : t.testBit i = false) : GoodS g (c.add (g.getD i z48).f2 (g.getD i z48).f3 1) (t ||| 2 ^ i) := by
 have hl := elemsN_length t
 have hu : UOk g (elemsN t) := fun j hj => (hpo j (by
  have h2 := (mem_elemsN.1 hj).2
  have h3 := Nat.ge_two_pow_of_testBit h2
  have h4 : 2 ^ j < 2 ^ g.length := Nat.lt_of_le_of_lt h3 ht
  exact (Nat.pow_lt_pow_iff_right (by omega)).1 h4)).2
 have hp3 := (hpo i hi).2
 have b (p : Int) := usedN_bd (p := p) hu
 have e0 := h.u 0 (by omega) (by omega)
 have e1 := h.u 1 (by omega) (by omega)
 have e2 := h.u 2 (by omega) (by omega)
 have b0 := b 0
 have b1 := b 1
 have b2 := b 2
 simp only [Cn.u, if_true, show ¬ ((1 : Int) = 0) by decide, show ¬ ((2 : Int) = 0) by decide, show ¬ ((2 : Int) = 1) by decide, if_false] at e0 e1 e2
 refine ⟨?_, fun p h0 h2 => ?_⟩
 ·rw [(usedN_or g 0 (by omega) hb).2]
  simp only [Cn.add]
  rw [h.t, w64 (by omega) (by omega)]
  omega
 ·rw [(usedN_or g p (by omega) hb).1]
  have hp : p = 0 ∨ p = 1 ∨ p = 2 := by omega
  rcases hp with rfl | rfl | rfl
  ·simp only [Cn.add, Cn.u, if_true]; split <;> (first | (rw [w64 (n := 1 * _) (by omega) (by omega), w64 (by omega) (by omega)]; omega) | omega)
  ·simp only [Cn.add, Cn.u, if_true, show ¬ ((1 : Int) = 0) by decide, if_false]; split <;> (first | (rw [w64 (n := 1 * _) (by omega) (by omega), w64 (by omega) (by omega)]; omega) | omega)
  ·simp only [Cn.add, Cn.u, if_true, show ¬ ((2 : Int) = 0) by decide, show ¬ ((2 : Int) = 1) by decide, if_false]; split <;> (first | (rw [w64 (n := 1 * _) (by omega) (by omega), w64 (by omega) (by omega)]; omega) | omega)
theorem set_uok {g : List Tk} (hpo : PoolOk g) {t : Nat} (ht : t < 2 ^ g.length) : UOk g (elemsN t) := fun j hj => (hpo j (by
  have h2 := (mem_elemsN.1 hj).2
  have h4 : 2 ^ j < 2 ^ g.length := Nat.lt_of_le_of_lt (Nat.ge_two_pow_of_testBit h2) ht
  exact (Nat.pow_lt_pow_iff_right (by omega)).1 h4)).2
/-- What is let in of a list of different tasks. -/
theorem admGo_spec {g : List Tk} (hpo : PoolOk g) (h8 : g.length ≤ 8) {room : List Int} {wk : Int} : ∀ (r : List Nat) (t : Nat) (c : Cn) (out : List Int), GoodS g c t → t < 2 ^ g.length → (∀ i ∈ r, i < g.length) → (∀ i ∈ r, t.testBit i = false) → r.Nodup →
  ∃ (O : List Nat) (T : Nat), admGo g room wk (up r) c out = out ++ up O ∧ (∀ i ∈ O, i ∈ r) ∧ T < 2 ^ g.length ∧ (∀ j, T.testBit j = (t.testBit j || decide (j ∈ O))) ∧ (∀ p : Int, usedN g p (elemsN t) ≤ usedN g p (elemsN T)) ∧ (∀ p : Int, 0 ≤ p → p ≤ 2 → usedN g p (elemsN t) ≤ rd room p → usedN g p (elemsN T) ≤ rd room p) ∧ (elemsN T).length = (elemsN t).length + O.length ∧ (O ≠ [] → ((elemsN T).length : Int) ≤ wk) ∧ (∀ i ∈ r, i ∉ O → ((elemsN T).length : Int) < wk → rd room (g.getD i z48).f2 < usedN g (g.getD i z48).f2 (elemsN T) + (g.getD i z48).f3)
 | [], t, c, out, hg, ht, hr, hb, hn => ⟨[], t, by simp [up, admGo], by simp, ht, by simp, fun p => Int.le_refl _, fun p _ _ h => h, by simp, by simp, by simp⟩
 | x :: r, t, c, out, hg, ht, hr, hb, hn => by
  obtain ⟨hx, hR⟩ := List.nodup_cons.1 hn
  have hxg := hr x List.mem_cons_self
  have hxb := hb x List.mem_cons_self
  obtain ⟨hp2, hp3⟩ := hpo x hxg
  have hu := set_uok hpo ht
  have hl := elemsN_length t
  have hbd := usedN_bd (p := (g.getD x z48).f2) hu
  have hcu := hg.u _ hp2.1 hp2.2
  have hti : takesI g c (x : Int) room wk = (decide (c.t < wk) && decide (usedN g (g.getD x z48).f2 (elemsN t) + (g.getD x z48).f3 ≤ rd room (g.getD x z48).f2)) := by
   show takesB c (g.getD ((x : Nat) : Int).toNat z48).f2 (g.getD ((x : Nat) : Int).toNat z48).f3 room wk = _
   rw [Int.toNat_natCast]
   unfold takesB
   rw [hcu, w64 (by omega) (by omega)]
  have hstep : admGo g room wk (up (x :: r)) c out = admGo g room wk (up r) (afterI g c (x : Int) (takesI g c (x : Int) room wk)) (putIf out (x : Int) (takesI g c (x : Int) room wk)) := rfl
  cases htk : takesI g c (x : Int) room wk with
  | true =>
   rw [htk] at hstep hti
   have hti2 := (Bool.and_eq_true _ _).mp hti.symm
   have hw := of_decide_eq_true hti2.1
   have hfit := of_decide_eq_true hti2.2
   have ha : afterI g c (x : Int) true = c.add (g.getD x z48).f2 (g.getD x z48).f3 1 := by
    show c.add (g.getD ((x : Nat) : Int).toNat z48).f2 (g.getD ((x : Nat) : Int).toNat z48).f3 1 = _
    rw [Int.toNat_natCast]
   rw [ha] at hstep
   have hor (p : Int) := usedN_or g p (show x < 8 by omega) hxb
   obtain ⟨O, T, q1, q2, q3, q4, q5, q6, q7, q8, q9⟩ := admGo_spec hpo h8 (room := room) (wk := wk) r (t ||| 2 ^ x) _ (out ++ [(x : Int)]) (hg.step hpo h8 ht hxg hxb) (or_lt ht hxg) (fun i hi => hr i (List.mem_cons_of_mem _ hi)) (fun i hi => by
    rw [or_bit, hb i (List.mem_cons_of_mem _ hi), Bool.false_or]
    exact decide_eq_false (fun e => hx (by rw [e]; exact hi))) hR
   have hlen := (hor 0).2
   refine ⟨x :: O, T, ?_, ?_, q3, ?_, ?_, ?_, ?_, ?_, ?_⟩
   ·rw [hstep]
    show admGo g room wk (up r) _ (out ++ [(x : Int)]) = _
    rw [q1, List.append_assoc]
    rfl
   ·intro i hi
    rcases List.mem_cons.1 hi with rfl | hi
    ·exact List.mem_cons_self
    ·exact List.mem_cons_of_mem _ (q2 i hi)
   ·intro j
    rw [q4, or_bit, Bool.or_assoc]
    congr 1
    rw [Bool.eq_iff_iff]
    simp only [Bool.or_eq_true, decide_eq_true_eq, List.mem_cons]
    exact ⟨fun h => h.elim (fun e => .inl e.symm) .inr, fun h => h.elim (fun e => .inl e.symm) .inr⟩
   ·intro p
    have h1 := (hor p).1
    have h2 := q5 p
    split at h1 <;> omega
   ·intro p h0 h2 h
    refine q6 p h0 h2 ?_
    rw [(hor p).1]
    split
    ·rename_i e; subst e; exact hfit
    ·omega
   ·rw [q7, hlen, List.length_cons]; omega
   ·intro _
    by_cases hO : O = []
    ·subst hO
     rw [q7, hlen, List.length_nil]
     have := hg.t
     omega
    ·exact q8 hO
   ·intro i hi hiO hlt
    rcases List.mem_cons.1 hi with rfl | hi
    ·exact absurd List.mem_cons_self hiO
    ·exact q9 i hi (fun h => hiO (List.mem_cons_of_mem _ h)) hlt
  | false =>
   rw [htk] at hstep hti
   obtain ⟨O, T, q1, q2, q3, q4, q5, q6, q7, q8, q9⟩ := admGo_spec hpo h8 (room := room) (wk := wk) r t c out hg ht (fun i hi => hr i (List.mem_cons_of_mem _ hi)) (fun i hi => hb i (List.mem_cons_of_mem _ hi)) hR
   refine ⟨O, T, ?_, fun i hi => List.mem_cons_of_mem _ (q2 i hi), q3, q4, q5, q6, q7, q8, ?_⟩
   ·rw [hstep]; exact q1
   ·intro i hi hiO hlt
    rcases List.mem_cons.1 hi with rfl | hi
    ·have h1 : c.t < wk := by rw [hg.t]; omega
     rw [decide_eq_true h1, Bool.true_and] at hti
     have h2 := of_decide_eq_false hti.symm
     have h3 := q5 (g.getD i z48).f2
     omega
    ·exact q9 i hi hiO hlt
theorem fresh_nat {n : Nat} : ∀ (l : List Int) (s : Nat), freshOk n l s = true → ∃ L : List Nat, l = up L ∧ (∀ i ∈ L, i < n) ∧ (∀ i ∈ L, s.testBit i = false) ∧ L.Nodup
 | [], s, _ => ⟨[], rfl, by simp, by simp, List.nodup_nil⟩
 | y :: r, s, h => by
  unfold freshOk at h
  by_cases hc : (0 ≤ y ∧ y ≤ (n : Int) - 1) ∧ s.testBit y.toNat = false
  ·rw [if_pos hc] at h
   obtain ⟨L, e, h1, h2, h3⟩ := fresh_nat r _ h
   refine ⟨y.toNat :: L, ?_, ?_, ?_, List.nodup_cons.2 ⟨?_, h3⟩⟩
   ·show y :: r = ((y.toNat : Nat) : Int) :: up L
    rw [Int.toNat_of_nonneg hc.1.1, e]
   ·intro i hi
    rcases List.mem_cons.1 hi with rfl | hi
    ·omega
    ·exact h1 i hi
   ·intro i hi
    rcases List.mem_cons.1 hi with rfl | hi
    ·exact hc.2
    ·have := h2 i hi
     rw [or_bit] at this
     exact ((Bool.or_eq_false_iff).1 this).1
   ·intro hm
    have := h2 _ hm
    rw [or_bit, decide_eq_true rfl, Bool.or_true] at this
    cases this
  ·rw [if_neg hc] at h; cases h
theorem fresh_zero {n : Nat} : ∀ (L : List Nat) (s : Nat), (∀ i ∈ L, i < n) → (∀ i ∈ L, s.testBit i = false) → L.Nodup → freshOk n (up L) s = true
 | [], _, _, _, _ => rfl
 | i :: L, s, h1, h2, h3 => by
  obtain ⟨hi, hL⟩ := List.nodup_cons.1 h3
  have hin := h1 i List.mem_cons_self
  show freshOk n ((i : Int) :: up L) s = true
  unfold freshOk
  rw [if_pos ⟨⟨by omega, by omega⟩, by rw [Int.toNat_natCast]; exact h2 i List.mem_cons_self⟩, Int.toNat_natCast]
  exact fresh_zero L _ (fun j hj => h1 j (List.mem_cons_of_mem _ hj)) (fun j hj => by
   rw [or_bit, h2 j (List.mem_cons_of_mem _ hj), Bool.false_or]
   exact decide_eq_false (fun e => hi (by rw [e]; exact hj))) hL
/-- What AdmitTasks' answer says where it is not empty. -/
theorem admitD_some {g : List Tk} {room running list : List Int} {wk : Int} (h : admitD g room running list wk ≠ []) : ∃ (G : GD) (s : Nat) (L : List Nat), graphD g = some G ∧ roomOk room ∧ 1 ≤ wk ∧ wk ≤ 4 ∧ s < 2 ^ g.length ∧ running = up (elemsN s) ∧ list = up L ∧ (∀ i ∈ L, i < g.length) ∧ (∀ i ∈ L, s.testBit i = false) ∧ L.Nodup ∧ (∀ p : Int, 0 ≤ p → p ≤ 2 → usedN g p (elemsN s) ≤ rd room p) ∧ admitD g room running list wk = admGo g room wk (up L) (countSet g s) [] := by
 have hd : admitD g room running list wk = if (1 ≤ wk ∧ wk ≤ 4) ∧ runsD g room running = true then (match setD g.length running with | none => [] | some s => if freshOk g.length list s = true then admGo g room wk list (countSet g s) [] else []) else [] := rfl
 by_cases hc : (1 ≤ wk ∧ wk ≤ 4) ∧ runsD g room running = true
 ·rw [if_pos hc] at hd
  obtain ⟨G, s, hG, hroom, hs, hfit⟩ := runsD_some hc.2
  have v := vg_of hG
  rw [hs] at hd
  simp only [] at hd
  by_cases hf : freshOk g.length list s = true
  ·rw [if_pos hf] at hd
   obtain ⟨L, rfl, h1, h2, h3⟩ := fresh_nat list s hf
   obtain ⟨hu, hL⟩ := graphD_uok hG s (setD_lt hs)
   have hg := goodS_set hu
   refine ⟨G, s, L, hG, hroom, hc.1.1, hc.1.2, setD_lt hs, (set_list v.n8 hs).symm, rfl, h1, h2, h3, ?_, hd⟩
   obtain ⟨e0, e1, e2⟩ := countSet_used hu
   simp only [fitsD, e0, e1, e2, Bool.and_eq_true, decide_eq_true_eq] at hfit
   intro p p0 p2
   have hp : p = 0 ∨ p = 1 ∨ p = 2 := by omega
   rcases hp with rfl | rfl | rfl
   ·exact hfit.1.1
   ·exact hfit.1.2
   ·exact hfit.2
  ·rw [if_neg hf] at hd
   exact absurd hd h
 ·rw [if_neg hc] at hd
  exact absurd hd h
/-- Sets that fit run together. -/
theorem runsD_set {g : List Tk} {G : GD} (hG : graphD g = some G) {room : List Int} (hr : roomOk room) {t : Nat} (ht : t < 2 ^ g.length) : runsD g room (up (elemsN t)) = true ↔ ∀ p : Int, 0 ≤ p → p ≤ 2 → usedN g p (elemsN t) ≤ rd room p := by
 have v := vg_of hG
 obtain ⟨e0, e1, e2⟩ := countSet_used (graphD_uok hG t ht).1
 have hd : runsD g room (up (elemsN t)) = fitsD (countSet g t) room := by
  unfold runsD
  rw [hG]
  simp only []
  rw [if_pos hr, setD_elems v.n8 ht]
 rw [hd]
 simp only [fitsD, e0, e1, e2, Bool.and_eq_true, decide_eq_true_eq]
 constructor
 ·intro h p p0 p2
  have hp : p = 0 ∨ p = 1 ∨ p = 2 := by omega
  rcases hp with rfl | rfl | rfl
  ·exact h.1.1
  ·exact h.1.2
  ·exact h.2
 ·intro h
  exact ⟨⟨h 0 (by omega) (by omega), h 1 (by omega) (by omega)⟩, h 2 (by omega) (by omega)⟩
end Go.Proofs.YtpibdjkajgfgjaaDoor.Core
end
