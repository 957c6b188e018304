/- The law FnOrderStartsFirst holds of the given program: the proof's own part, with its row and its card, part 8 of 9. -/
import Derived.Test.YtnhkajanbfgbiaaDoorZFnOrderStartsFirst7
section
set_option linter.unusedVariables false
set_option linter.unusedSimpArgs false
namespace Go.Proofs.YtnhkajanbfgbiaaDoor.Core
open Go Go.RowKit Go.Proofs.YtnhkajanbfgbiaaDoorW.PrintWords Go.Proofs.YtnhkajanbfgbiaaDoorW.PrintMore Go.Proofs.YtnhkajanbfgbiaaDoor.P
/-- What a list of beginnings that is not empty comes from. -/
theorem startsD_some {g : List Tk} {room list : List Int} {wk : Int} (h : startsD g room wk list ≠ []) : ∃ G, fewD g room wk = some G ∧ list.length = g.length ∧ ordOk g.length G.needs list 0 = true ∧ startsD g room wk list = up (startGo g G.needs room wk list 0 (List.replicate g.length 0)) := by
 have hd : startsD g room wk list = (match fewD g room wk with
  | none => []
  | some G => if list.length = g.length ∧ ordOk g.length G.needs list 0 = true then up (startGo g G.needs room wk list 0 (List.replicate g.length 0)) else []) := rfl
 cases hf : fewD g room wk with
 | none => rw [hf] at hd; exact absurd hd h
 | some G =>
  rw [hf] at hd
  simp only [] at hd
  by_cases hc : list.length = g.length ∧ ordOk g.length G.needs list 0 = true
  ·rw [if_pos hc] at hd
   exact ⟨G, rfl, hc.1, hc.2, hd⟩
  ·rw [if_neg hc] at hd
   exact absurd hd h
theorem ord_all {n : Nat} {N : List Nat} : ∀ (r : List Int) (s : Nat), ordOk n N r s = true → s < 2 ^ n → zb n s ≤ r.length → ∀ i, i < n → s.testBit i = false → ∃ y ∈ r, y.toNat = i
 | [], s, _, hs, hz, i, hi, hb => by
  exfalso
  have h0 : zb n s = 0 := by simpa using hz
  have := (full_zb hs).1 h0
  rw [this, Nat.testBit_two_pow_sub_one] at hb
  simp [hi] at hb
 | y :: r, s, h, hs, hz, i, hi, hb => by
  unfold ordOk at h
  by_cases hc : (0 ≤ y ∧ y ≤ (n : Int) - 1) ∧ s.testBit y.toNat = false ∧ sub (N.getD y.toNat 0) s = 0
  ·rw [if_pos hc] at h
   by_cases e : y.toNat = i
   ·exact ⟨y, List.mem_cons_self, e⟩
   ·have hyn : y.toNat < n := by have := hc.1; omega
    have hz2 := zb_orO hyn hc.2.1
    rw [List.length_cons] at hz
    obtain ⟨z, h1, h2⟩ := ord_all r _ h (Nat.or_lt_two_pow hs (Nat.pow_lt_pow_right (by omega) hyn)) (by omega) i hi (by rw [or_bit, hb, decide_eq_false e]; rfl)
    exact ⟨z, List.mem_cons_of_mem _ h1, h2⟩
  ·rw [if_neg hc] at h; cases h
theorem ord_first {n : Nat} {N : List Nat} {y : Int} {r : List Int} {s : Nat} (h : ordOk n N (y :: r) s = true) : (0 ≤ y ∧ y ≤ (n : Int) - 1) ∧ s.testBit y.toNat = false ∧ sub (N.getD y.toNat 0) s = 0 ∧ ordOk n N r (s ||| 2 ^ y.toNat) = true := by
 unfold ordOk at h
 by_cases hc : (0 ≤ y ∧ y ≤ (n : Int) - 1) ∧ s.testBit y.toNat = false ∧ sub (N.getD y.toNat 0) s = 0
 ·rw [if_pos hc] at h
  exact ⟨hc.1, hc.2.1, hc.2.2, h⟩
 ·rw [if_neg hc] at h; cases h
theorem FnOrderStartsFirst_pure (l0 : List Int) (hW : Bytes l0) : ∃ k, laws_FnOrderStartsFirst.f k l0 = some true := by
 refine Ev.one (f := fun k => laws_FnOrderStartsFirst.f k l0) (EvP.ev ?_)
 unfold laws_FnOrderStartsFirst.f
 refine EvP.ite (fun _ => EvP.ret rfl) (fun hlen => ?_)
 refine (ev_DrawOrderStarts hW).bind fun ⟨g, room, wk, lst⟩ hg => ?_
 obtain ⟨hg, hr, hl⟩ := hg
 dsimp only at hg hr hl ⊢
 have hfit := hg.fits (by unfold big; omega) (by unfold big; omega)
 have hs := ev_OrderStarts' hfit (room := room) (list := lst) (wk := wk) (by unfold big; omega) (by unfold big; omega)
 have hl8 := startsD_length g room wk lst
 have he := ev_equalInts (a := startsD g room wk lst) (b := startsD g room wk lst) (by omega)
 rw [decide_eq_true rfl] at he
 have hno : EvP (fun k => laws_FnOrderStartsFirst.j0 k g room wk lst (startsD g room wk lst) true) (fun x => x = true) := by
  refine EvP.succ ?_
  simp only [laws_FnOrderStartsFirst.j0]
  exact EvP.pos (by first | rfl | trivial) (Ev.bindP hs (Ev.bindP he (EvP.ret rfl)))
 refine Ev.bindP (Ev.const (startsD g room wk lst)) (Ev.bindP hs (Ev.bindP he (EvP.pos rfl ?_)))
 by_cases hz : ((startsD g room wk lst).length : Int) = 0
 ·rw [show ((((startsD g room wk lst).length : Nat) : Int) == 0) = true from beq_iff_eq.2 hz]; exact hno
 rw [show ((((startsD g room wk lst).length : Nat) : Int) == 0) = false from beq_eq_false_iff_ne.2 hz]
 obtain ⟨G, hfew, hll, hord, hd⟩ := startsD_some (fun e => hz (by rw [e]; rfl))
 obtain ⟨h5, hp⟩ := fewD_some hfew
 obtain ⟨hG, hroom, hw1, hw4⟩ := placeD_some hp
 have v := vg_of hG
 have h8 := v.n8
 have hf := fine_of hG hroom hw1
 have htok := graphD_taskOk hG
 have h256 := pow8 h8
 have hnb : ∀ x, G.needs.getD x 0 < 256 := fun x => Nat.lt_of_lt_of_le (getD_lt v.nb x) h256
 have hA0 : AtEnds g (List.replicate g.length 0) 0 := fun i hi => by rw [Nat.zero_testBit] at hi; cases hi
 obtain ⟨P, -, hPm, hPe, -⟩ := startGo_ends hnb hf h8 lst 0 0 (List.replicate g.length 0) hord (st_zero g) (by omega) (Nat.two_pow_pos _) hA0
 have hlenL := startGo_length g G.needs room wk lst 0 (List.replicate g.length 0)
 rw [List.length_replicate] at hlenL
 have hz0 : zb g.length 0 ≤ lst.length := by
  rw [zb_count, hll]
  have := List.length_filter_le (fun i => !(0 : Nat).testBit i) (List.range g.length)
  rw [List.length_range] at this
  exact this
 have hall : ∀ i, i < g.length → P.testBit i = true := fun i hi => by
  obtain ⟨y, h1, h2⟩ := ord_all lst 0 hord (Nat.two_pow_pos _) hz0 i hi (Nat.zero_testBit i)
  rw [← h2]
  exact hPm y h1
 rw [hd, up_length, hlenL] at hz
 -- the first one
 have hfirst : ∃ x : Nat, rd lst 0 = (x : Int) ∧ x < g.length ∧ (startGo g G.needs room wk lst 0 (List.replicate g.length 0)).getD x 0 = 0 := by
  cases lst with
  | nil => rw [List.length_nil] at hll; omega
  | cons y r =>
   obtain ⟨hin, hsk, hsz, hord2⟩ := ord_first hord
   obtain ⟨x, rfl⟩ := Int.eq_ofNat_of_zero_le hin.1
   rw [Int.toNat_natCast] at hsk hsz hord2
   have hx : x < g.length := by omega
   have hsubs := sub_none (hnb x) (by decide : (0 : Nat) < 256) hsz
   have hst := st_zero g
   have he0 := (earlD_le hf hx (L := List.replicate g.length 0) (B := 0) (s := G.needs.getD x 0) hst.over (by omega) hsubs).1
   obtain ⟨hst2, -⟩ := hst.step hf hx (by omega) hsubs hsk
   have hA1 : AtEnds g ((List.replicate g.length 0).set x (earlD g (List.replicate g.length 0) (G.needs.getD x 0) 0 x room wk)) (0 ||| 2 ^ x) := by
    intro i hi
    rw [or_bit, Nat.zero_testBit, Bool.false_or] at hi
    have e := of_decide_eq_true hi
    subst e
    left
    rw [List.getD_eq_getElem?_getD, List.getElem?_set_self (by rw [List.length_replicate]; exact hx), Option.getD_some]
    omega
   obtain ⟨-, -, -, -, hkeep⟩ := startGo_ends hnb hf h8 r (0 ||| 2 ^ x) 1 _ hord2 hst2 (by rw [List.length_cons] at hll; omega) (Nat.or_lt_two_pow (Nat.two_pow_pos _) (Nat.pow_lt_pow_right (by omega) hx)) hA1
   refine ⟨x, rfl, hx, ?_⟩
   have hk := hkeep x (by rw [or_bit, decide_eq_true rfl, Bool.or_true])
   show (startGo g G.needs room wk r (0 ||| 2 ^ ((x : Nat) : Int).toNat) ((List.replicate g.length 0).set ((x : Nat) : Int).toNat (earlD g (List.replicate g.length 0) (G.needs.getD ((x : Nat) : Int).toNat 0) 0 ((x : Nat) : Int).toNat room wk))).getD x 0 = 0
   rw [Int.toNat_natCast, hk, List.getD_eq_getElem?_getD, List.getElem?_set_self (by rw [List.length_replicate]; exact hx), Option.getD_some]
   omega
 rw [hd]
 -- bounds of the beginnings
 have hbd : leB 200 (startGo g G.needs room wk lst 0 (List.replicate g.length 0)) := by
  have key : ∀ (r : List Int) (pl j : Nat) (L : List Nat), ordOk g.length G.needs r pl = true → StOk g L pl j → j + r.length ≤ 8 → pl < 2 ^ g.length → leB 200 (startGo g G.needs room wk r pl L) := by
   intro r
   induction r with
   | nil => intro pl j L _ hst hj _; exact leB_mono hst.le (by rw [List.length_nil] at hj; omega)
   | cons y r ih =>
    intro pl j L h hst hj hpl
    obtain ⟨hin, hsk, hsz, hord2⟩ := ord_first h
    rw [List.length_cons] at hj
    have hx : y.toNat < g.length := by omega
    have hsubs := sub_none (hnb y.toNat) (Nat.lt_of_lt_of_le hpl h256) hsz
    obtain ⟨hst2, -⟩ := hst.step hf hx (by omega) hsubs hsk
    exact ih _ (j + 1) _ hord2 hst2 (by omega) (Nat.or_lt_two_pow hpl (Nat.pow_lt_pow_right (by omega) hx))
  exact key lst 0 0 _ hord (st_zero g) (by omega) (Nat.two_pow_pos _)
 clear hs he hno hd hA0 hPm hz0 hord
 generalize startGo g G.needs room wk lst 0 (List.replicate g.length 0) = L at hPe hlenL hfirst hbd
 have hrdL (j : Nat) : rd (up L) (j : Int) = ((L.getD j 0 : Nat) : Int) := rd_up rfl
 refine EvP.succ ?_
 simp only [laws_FnOrderStartsFirst.j0]
 refine EvP.neg (by simp) ?_
 have hgi : ∀ i, i < g.length → L.getD i 0 = 0 ∨ ∃ k, k < g.length ∧ L.getD k 0 + tmN g k = L.getD i 0 := fun i hi => by
  rcases hPe i (hall i hi) with h | ⟨k, h1, h2⟩
  ·exact .inl h
  ·by_cases hk : k < g.length
   ·exact .inr ⟨k, hk, h2⟩
   ·left
    have e1 : L.getD k 0 = 0 := by rw [List.getD_eq_getElem?_getD, List.getElem?_eq_none (by omega)]; rfl
    have e2 : tmN g k = 0 := by unfold tmN; rw [List.getD_eq_getElem?_getD, List.getElem?_eq_none (by omega)]; rfl
    unfold endN at h2
    omega
 have inner : ∀ (d i : Nat) (b : Bool), i < g.length → ∀ q, q + d = g.length → (b = true ∨ ∃ k, q ≤ k ∧ k < g.length ∧ L.getD k 0 + tmN g k = L.getD i 0) → EvP (fun k => laws_FnOrderStartsFirst.l0 k g lst (up L) ((i + 1 : Nat) : Int)) (fun x => x = true) → EvP (fun k => laws_FnOrderStartsFirst.l1 k g lst (up L) (i : Int) b (q : Int)) (fun x => x = true) := by
  intro d
  induction d with
  | zero =>
   intro i b hi q hq hb hnext
   have hw : wrap64 ((i : Int) + 1) = ((i + 1 : Nat) : Int) := w64s (by unfold big; omega)
   refine EvP.succ ?_
   simp only [laws_FnOrderStartsFirst.l1, up_length, hlenL, hw]
   have hqn : q = g.length := hq
   refine EvP.neg (by rw [hqn]; exact Int.lt_irrefl _) ?_
   rcases hb with hb | ⟨k, h1, h2, _⟩
   ·rw [hb]; exact EvP.pos rfl hnext
   ·exact absurd (Nat.lt_of_le_of_lt h1 h2) (by rw [hqn]; exact Nat.lt_irrefl _)
  | succ d ih =>
   intro i b hi q hq hb hnext
   have hqg : q < g.length := by rw [← hq]; exact Nat.lt_add_of_pos_right (Nat.succ_pos d)
   have hq1 : q + 1 + d = g.length := by rw [← hq, Nat.add_assoc, Nat.add_comm 1 d]
   have hw : wrap64 ((q : Int) + 1) = ((q + 1 : Nat) : Int) := w64s (by unfold big; omega)
   have htq := tm_int htok hqg
   have hbq := hbd q
   have hadd := (wadd (a := L.getD q 0) (b := tmN g q) (by omega) (by omega)).1
   refine EvP.succ ?_
   simp only [laws_FnOrderStartsFirst.l1, up_length, hlenL, hw, hrdL, rdT_nat, htq.1, hadd]
   refine EvP.pos (Int.ofNat_lt.2 hqg) ?_
   cases b with
   | true => exact EvP.pos rfl (ih i true hi (q + 1) hq1 (.inl rfl) hnext)
   | false =>
    refine EvP.neg Bool.false_ne_true (EvP.pos (Int.natCast_nonneg q) (EvP.pos (Int.ofNat_lt.2 hqg) (EvP.pos (Int.natCast_nonneg i) (EvP.pos (Int.ofNat_lt.2 hi) ?_))))
    refine ih i _ hi (q + 1) hq1 ?_ hnext
    rcases hb with hb | ⟨k, h1, h2, h3⟩
    ·cases hb
    ·by_cases e : q = k
     ·subst e
      left
      rw [h3]
      exact beq_iff_eq.2 rfl
     ·exact .inr ⟨k, Nat.lt_of_le_of_ne h1 e, h2, h3⟩
 have outer : ∀ (d i : Nat), i + d = g.length → EvP (fun k => laws_FnOrderStartsFirst.l0 k g lst (up L) (i : Int)) (fun x => x = true) := by
  intro d
  induction d with
  | zero =>
   intro i hi
   obtain ⟨x, hx1, hx2, hx3⟩ := hfirst
   refine EvP.succ ?_
   simp only [laws_FnOrderStartsFirst.l0, up_length, hlenL, hx1, hrdL, hx3]
   have hin : i = g.length := hi
   exact EvP.neg (by rw [hin]; exact Int.lt_irrefl _) (EvP.pos (by rw [hll]; exact Int.ofNat_lt.2 (Nat.lt_of_le_of_lt (Nat.zero_le x) hx2)) (EvP.pos (Int.natCast_nonneg x) (EvP.pos (Int.ofNat_lt.2 hx2) (EvP.ret rfl))))
  | succ d ih =>
   intro i hi
   have hig : i < g.length := by rw [← hi]; exact Nat.lt_add_of_pos_right (Nat.succ_pos d)
   have hi1 : i + 1 + d = g.length := by rw [← hi, Nat.add_assoc, Nat.add_comm 1 d]
   refine EvP.succ ?_
   simp only [laws_FnOrderStartsFirst.l0, up_length, hlenL, hrdL]
   refine EvP.pos (Int.ofNat_lt.2 hig) (EvP.pos (Int.natCast_nonneg i) ?_)
   refine inner g.length i _ hig 0 (Nat.zero_add _) ?_ (ih (i + 1) hi1)
   rcases hgi i hig with h | ⟨k, h1, h2⟩
   ·left
    rw [h]
    rfl
   ·exact .inr ⟨k, Nat.zero_le _, h1, h2⟩
 exact outer g.length 0 (Nat.zero_add _)
end Go.Proofs.YtnhkajanbfgbiaaDoor.Core
end
