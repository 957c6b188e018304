/- The law FnGraphTextParts holds of the given program: the proof's own part, with its row and its card, part 3 of 4. -/
import Derived.Test.YtfehecoebkbgeaaDoorZFnGraphTextParts2
section
set_option linter.unusedVariables false
set_option linter.unusedSimpArgs false
namespace Go.Proofs.YtfehecoebkbgeaaDoor.Core
open Go Go.RowKit Go.Proofs.YtfehecoebkbgeaaDoorW.PrintWords Go.Proofs.YtfehecoebkbgeaaDoorW.PrintMore Go.Proofs.YtfehecoebkbgeaaDoor.P
/-- A reader's state: few bytes, not far read. -/
def RS (s0 : List Int) (N p : Int) : Prop := s0.length ≤ 2000 ∧ (∀ x ∈ s0, 0 ≤ x ∧ x ≤ 255) ∧ 0 ≤ p ∧ p ≤ N ∧ N ≤ 100000
theorem RS.mono {s0 : List Int} {N M p : Int} (h : RS s0 N p) (hM : N ≤ M) (h2 : M ≤ 100000) : RS s0 M p := ⟨h.1, h.2.1, h.2.2.1, by have := h.2.2.2.1; omega, h2⟩
theorem rd_byte {s0 : List Int} {N p i : Int} (h : RS s0 N p) (h0 : 0 ≤ i) (h1 : i < (s0.length : Int)) : 0 ≤ rd s0 i ∧ rd s0 i ≤ 255 := by
 refine h.2.1 _ ?_
 unfold rd
 rw [List.getD_eq_getElem?_getD, List.getElem?_eq_getElem (by omega), Option.getD_some]
 exact List.getElem_mem _
/-- What pick answers. -/
def PickOk (n : Int) (s0 : List Int) (N : Int) (r : Int × Int) : Prop := (n < 1 → r.1 = 0) ∧ (1 ≤ n → 0 ≤ r.1 ∧ r.1 < n) ∧ RS s0 (N + 1) r.2
theorem ev_pick {s0 : List Int} {N p n : Int} (h : RS s0 N p) (hN : N < 100000) : EvP (fun k => spec_reader_pick.f k s0 p n) (PickOk n s0 N) := by
 obtain ⟨hl, hb, h0, h1, _⟩ := h
 have hp : wrap64 (p + 1) = p + 1 := w64 (by omega) (by omega)
 have hp1 : wrap64 (p + 1 - 1) = p := by rw [Int.add_sub_cancel]; exact w64 (by omega) (by omega)
 have hRS : RS s0 (N + 1) (p + 1) := ⟨hl, hb, by omega, by omega, by omega⟩
 have hz : EvP (fun k => spec_reader_pick.j0 k n true s0 (p + 1)) (fun r => r = (0, p + 1)) := by
  refine EvP.succ ?_
  simp only [spec_reader_pick.j0, if_true]
  exact EvP.ret rfl
 unfold spec_reader_pick.f
 rw [hp]
 refine EvP.ite (fun hn => hz.mono fun a e => ?_) (fun hn => ?_)
 ·subst e; exact ⟨fun _ => rfl, fun _ => by omega, hRS⟩
 by_cases he : s0.length = 0
 ·rw [show ((s0.length : Int) == 0) = true by simp [he]]
  exact hz.mono fun a e => by subst e; exact ⟨fun _ => rfl, fun _ => by omega, hRS⟩
 rw [show ((s0.length : Int) == 0) = false from beq_eq_false_iff_ne.2 (by omega)]
 refine EvP.succ ?_
 simp only [spec_reader_pick.j0, hp1, Bool.false_eq_true, if_false]
 refine EvP.ite (fun hlt => ?_) (fun hge => ?_)
 ·have hr := hb (rd s0 p) (by
   unfold rd
   rw [List.getD_eq_getElem?_getD, List.getElem?_eq_getElem (by omega), Option.getD_some]
   exact List.getElem_mem _)
  refine EvP.pos h0 (EvP.neg (by omega) (EvP.ret ?_))
  rw [w64 (n := rd s0 p) (by omega) (by omega)]
  exact ⟨fun _ => by omega, fun _ => tmod_lt hr.1 (by omega), hRS⟩
 ·have hpos : (0 : Int) < s0.length := by omega
  have hm1 := tmod_lt h0 hpos
  have h7 : wrap64 (p * 7) = p * 7 := w64 (by omega) (by omega)
  have h73 : wrap64 (p * 7 + 3) = p * 7 + 3 := w64 (by omega) (by omega)
  have hm2 := tmod_lt (a := p * 7 + 3) (by omega) hpos
  have hd := tdiv_le h0 hpos
  have hr1 := rd_byte ⟨hl, hb, h0, h1, by omega⟩ hm1.1 hm1.2
  have hr2 := rd_byte ⟨hl, hb, h0, h1, by omega⟩ hm2.1 hm2.2
  rw [h7, h73]
  refine EvP.neg (by omega) (EvP.pos hm1.1 (EvP.pos hm1.2 (EvP.pos hm2.1 (EvP.pos hm2.2 (EvP.neg (by omega) (EvP.ret ?_))))))
  generalize rd s0 (Int.tmod p s0.length) = x1 at *
  generalize rd s0 (Int.tmod (p * 7 + 3) s0.length) = x2 at *
  generalize Int.tdiv p s0.length = dd at *
  have e : wrap64 (wrap64 (wrap64 (wrap64 (wrap64 x1 * 131) + wrap64 (wrap64 x2 * 1117)) + wrap64 (p * 29)) + wrap64 (wrap64 dd * 53)) = x1 * 131 + x2 * 1117 + p * 29 + dd * 53 := by
   rw [w64 (n := x1) (by omega) (by omega), w64 (n := x2) (by omega) (by omega), w64 (n := dd) (by omega) (by omega), w64 (n := x1 * 131) (by omega) (by omega), w64 (n := x2 * 1117) (by omega) (by omega), w64 (n := x1 * 131 + x2 * 1117) (by omega) (by omega), w64 (n := p * 29) (by omega) (by omega), w64 (n := x1 * 131 + x2 * 1117 + p * 29) (by omega) (by omega), w64 (n := dd * 53) (by omega) (by omega), w64 (by omega) (by omega)]
  rw [e]
  generalize hy : x1 * 131 + x2 * 1117 + p * 29 + dd * 53 = y at *
  have hq := tdiv_le (a := y) (n := 64) (by omega) (by omega)
  rw [w64 (n := Int.tdiv y 64) (by omega) (by omega)]
  have hx := i64_xor y (Int.tdiv y 64) (by omega) (by omega) (by omega) (by omega)
  exact ⟨fun _ => by omega, fun _ => tmod_lt hx.1 (by omega), hRS⟩
theorem ev_one {s0 : List Int} {N p : Int} (h : RS s0 N p) (hN : N < 100000) (L : List Int) (hL : 0 < L.length) : EvP (fun k => spec_reader_one.f k s0 p L) (fun r => r.1 ∈ L ∧ RS s0 (N + 1) r.2) := by
 unfold spec_reader_one.f
 refine (ev_pick h hN).bind fun a ha => ?_
 have h2 := ha.2.1 (by omega)
 refine EvP.pos h2.1 (EvP.pos h2.2 (EvP.ret ⟨?_, ha.2.2⟩))
 show rd L a.1 ∈ L
 unfold rd
 rw [List.getD_eq_getElem?_getD, List.getElem?_eq_getElem (by omega), Option.getD_some]
 exact List.getElem_mem _
theorem ev_spoil {s0 : List Int} {N p : Int} (h : RS s0 N p) (hN : N + 2 < 100000) (L : List Int) (n : Int) (hL : L.length ≤ 10000) : EvP (fun k => spec_reader_spoil.f k s0 p L n) (fun r => r.1.length ≤ L.length + 1 ∧ RS s0 (N + 3) r.2) := by
 unfold spec_reader_spoil.f
 rw [show spec_copyInts.f L = some L from copyInts_eq (by unfold big; omega) (by omega)]
 refine EvP.sb ?_
 refine (ev_pick h (by omega)).bind fun a ha => ?_
 have hm := ha.2.2.mono (M := N + 3) (by omega) (by omega)
 refine EvP.ite (fun _ => EvP.pos (by omega) (EvP.ret ⟨by simp, hm⟩)) (fun _ => ?_)
 refine EvP.ite (fun _ => EvP.ite (fun h0 => EvP.pos (by omega) (EvP.ret ⟨by simp; omega, hm⟩)) (fun _ => EvP.ret ⟨by show L.length ≤ _; omega, hm⟩)) (fun _ => ?_)
 refine EvP.ite (fun _ => EvP.ite (fun h0 => ?_) (fun _ => EvP.ret ⟨by show L.length ≤ _; omega, hm⟩)) (fun _ => EvP.ret ⟨by show L.length ≤ _; omega, hm⟩)
 refine (ev_pick ha.2.2 (by omega)).bind fun b hb => ?_
 refine (ev_one hb.2.2 (by omega) _ (by simp)).bind fun c hc => ?_
 have h2 := hb.2.1 (by omega)
 exact EvP.pos h2.1 (EvP.pos h2.2 (EvP.ret ⟨by simp, hc.2.mono (by omega) (by omega)⟩))
/-- A graph of few tasks, whose lists of needs are short. -/
def GSmall (n m : Nat) (g : List Tk) : Prop := g.length ≤ n ∧ ∀ t ∈ g, t.f1.length ≤ m
theorem GSmall.fits {n m : Nat} {g : List Tk} (h : GSmall n m g) (hn : n < big) (hm : m < big) : Fits g := ⟨by have := h.1; omega, fun t ht => by have := h.2 t ht; omega⟩
theorem ev_turned_in (x0 : List Tk) (x3 : List Tk) (x4 x5 : Int) (f0 f2 f3 : Int) (L : List Int) (hL : L.length ≤ 10000) (R : List Tk → Prop) (hx3 : x3.length ≤ 100) (hk : ∀ L2 : List Int, L2.length = L.length → EvP (fun k => spec_turned.l0 k x0 (x3 ++ [⟨f0, L2, f2, f3⟩]) x4 (wrap64 (x5 - 1))) R) :
  ∀ (m : Nat) (x7 : List Int), m ≤ L.length → x7.length + m = L.length → EvP (fun k => spec_turned.l1 k x0 x3 x4 x5 x7 ((m : Int) - 1) f0 L f2 f3) R
 | 0, x7, _, h => by
  refine EvP.succ ?_
  simp only [spec_turned.l1]
  exact EvP.neg (by omega) (EvP.pos (by omega) (hk x7 (by omega)))
 | m + 1, x7, hm, h => by
  refine EvP.succ ?_
  simp only [spec_turned.l1]
  refine EvP.pos (by omega) (EvP.pos (by omega) (EvP.pos (by omega) (EvP.pos (by omega) ?_)))
  have := ev_turned_in x0 x3 x4 x5 f0 f2 f3 L hL R hx3 hk m (x7 ++ [wrap64 (x4 - rd L (((m + 1 : Nat) : Int) - 1))]) (by omega) (by simp; omega)
  rw [show wrap64 (((m + 1 : Nat) : Int) - 1 - 1) = (m : Int) - 1 by rw [w64 (by omega) (by omega)]; omega]
  exact this
theorem ev_turned {n m : Nat} {g : List Tk} (hg : GSmall n m g) (hn : n ≤ 100) (hm : m ≤ 10000) : EvP (fun k => spec_turned.f k g) (fun r => r.length = g.length ∧ GSmall n m r) := by
 have key : ∀ (j : Nat) (x3 : List Tk) (x4 : Int), j ≤ g.length → x3.length + j = g.length → (∀ t ∈ x3, t.f1.length ≤ m) → EvP (fun k => spec_turned.l0 k g x3 x4 ((j : Int) - 1)) (fun r => r.length = g.length ∧ GSmall n m r) := by
  intro j
  induction j with
  | zero =>
   intro x3 x4 hj hl ht
   refine EvP.succ ?_
   simp only [spec_turned.l0]
   exact EvP.neg (by omega) (EvP.ret ⟨by show x3.length = _; omega, by have := hg.1; show x3.length ≤ n; omega, ht⟩)
  | succ j ih =>
   intro x3 x4 hj hl ht
   have hgl := hg.1
   refine EvP.succ ?_
   simp only [spec_turned.l0]
   refine EvP.pos (by omega) (EvP.pos (by omega) (EvP.pos (by omega) ?_))
   have hmem : rd_T33 g (((j + 1 : Nat) : Int) - 1) ∈ g := by
    unfold rd_T33
    rw [List.getD_eq_getElem?_getD, List.getElem?_eq_getElem (by omega), Option.getD_some]
    exact List.getElem_mem _
   have hlen := hg.2 _ hmem
   generalize rd_T33 g (((j + 1 : Nat) : Int) - 1) = t at *
   rw [show wrap64 ((t.f1.length : Int) - 1) = (t.f1.length : Int) - 1 from w64 (by omega) (by omega)]
   refine ev_turned_in g x3 x4 (((j + 1 : Nat) : Int) - 1) t.f0 t.f2 t.f3 t.f1 (by omega) _ (by omega) (fun L2 h2 => ?_) t.f1.length [] (Nat.le_refl _) (by simp)
   rw [show wrap64 (((j + 1 : Nat) : Int) - 1 - 1) = (j : Int) - 1 by rw [w64 (by omega) (by omega)]; omega]
   refine ih _ _ (by omega) (by simp; omega) (fun u hu => ?_)
   rcases List.mem_append.1 hu with hu | hu
   ·exact ht u hu
   ·rw [List.mem_singleton.1 hu]; show L2.length ≤ m; omega
 have hgl := hg.1
 unfold spec_turned.f
 rw [show wrap64 ((g.length : Int) - 1) = (g.length : Int) - 1 from w64 (by omega) (by omega)]
 exact key g.length [] _ (Nat.le_refl _) (by simp) (by simp)
theorem ev_some_in (g : List Tk) (x6 : Int) (s0 : List Int) (f0 f2 f3 : Int) (N : Int) (hg : g.length ≤ 8) (hN : N + 8 < 100000) (R : List Tk × Int → Prop)
  (hk : ∀ (L : List Int) (p : Int), L.length ≤ 8 → RS s0 (N + 8) p → EvP (fun k => spec_someGraph.l0 k (g ++ [⟨f0, L, f2, f3⟩]) (wrap64 (x6 - 1)) s0 p) R) :
  ∀ (d i : Nat) (L : List Int) (p : Int), i + d = g.length → L.length ≤ i → RS s0 (N + i) p → EvP (fun k => spec_someGraph.l1 k g x6 (i : Int) s0 p f0 L f2 f3) R
 | 0, i, L, p, h, hL, hp => by
  refine EvP.succ ?_
  simp only [spec_someGraph.l1]
  exact EvP.neg (by omega) (EvP.pos (by omega) (hk L p (by omega) (hp.mono (by omega) (by omega))))
 | d + 1, i, L, p, h, hL, hp => by
  refine EvP.succ ?_
  simp only [spec_someGraph.l1]
  refine EvP.pos (by omega) ?_
  refine (ev_pick hp (by omega)).bind fun a ha => ?_
  have hp2 : RS s0 (N + ((i + 1 : Nat) : Int)) a.2 := ha.2.2.mono (by omega) (by omega)
  rw [show wrap64 ((i : Int) + 1) = ((i + 1 : Nat) : Int) by rw [w64 (by omega) (by omega)]; omega]
  refine EvP.ite (fun _ => EvP.pos (by omega) ?_) (fun _ => ?_)
  ·exact ev_some_in g x6 s0 f0 f2 f3 N hg hN R hk d (i + 1) _ _ (by omega) (by simp; omega) hp2
  ·exact ev_some_in g x6 s0 f0 f2 f3 N hg hN R hk d (i + 1) _ _ (by omega) (by omega) hp2
theorem ev_some_out (s0 : List Int) : ∀ (j : Nat) (g : List Tk) (N p : Int), g.length + j ≤ 8 → N + j * 11 + 1 < 100000 → (∀ t ∈ g, t.f1.length ≤ 8) → RS s0 N p →
  EvP (fun k => spec_someGraph.l0 k g (j : Int) s0 p) (fun r => GSmall 8 8 r.1 ∧ RS s0 (N + j * 11 + 1) r.2)
 | 0, g, N, p, hg, hN, ht, hp => by
  refine EvP.succ ?_
  simp only [spec_someGraph.l0]
  refine EvP.neg (by omega) ?_
  refine EvP.ite (fun h1 => ?_) (fun _ => EvP.ret ⟨⟨by show g.length ≤ 8; omega, ht⟩, hp.mono (by omega) (by omega)⟩)
  refine (ev_pick hp (by omega)).bind fun a ha => ?_
  refine EvP.ite (fun _ => ?_) (fun _ => EvP.ret ⟨⟨by show g.length ≤ 8; omega, ht⟩, ha.2.2.mono (by omega) (by omega)⟩)
  refine (ev_turned (n := 8) (m := 8) ⟨by omega, ht⟩ (by omega) (by omega)).bind fun r hr => ?_
  exact EvP.ret ⟨hr.2, ha.2.2.mono (by omega) (by omega)⟩
 | j + 1, g, N, p, hg, hN, ht, hp => by
  refine EvP.succ ?_
  simp only [spec_someGraph.l0]
  refine EvP.pos (by omega) ?_
  refine (ev_one hp (by omega) _ (by simp)).bind fun a ha => ?_
  refine (ev_pick ha.2 (by omega)).bind fun b hb => ?_
  refine (ev_pick hb.2.2 (by omega)).bind fun c hc => ?_
  refine ev_some_in g ((j + 1 : Nat) : Int) s0 a.1 b.1 (wrap64 (1 + c.1)) (N + 1 + 1 + 1) (by omega) (by omega) _ (fun L q hL hq => ?_) g.length 0 [] _ (by omega) (by simp) (hc.2.2.mono (by omega) (by omega))
  rw [show wrap64 (((j + 1 : Nat) : Int) - 1) = (j : Int) by rw [w64 (by omega) (by omega)]; omega]
  refine (ev_some_out s0 j _ (N + 11) q (by simp; omega) (by omega) (fun u hu => ?_) (hq.mono (by omega) (by omega))).mono fun r hr => ⟨hr.1, hr.2.mono (by omega) (by omega)⟩
  rcases List.mem_append.1 hu with hu | hu
  ·exact ht u hu
  ·rw [List.mem_singleton.1 hu]; exact hL
theorem ev_someGraph {s0 : List Int} {N p : Int} (h : RS s0 N p) (hN : N + 100 < 100000) (a : Int) (ha : 0 ≤ a) : EvP (fun k => spec_someGraph.f k s0 p a) (fun r => GSmall 8 8 r.1 ∧ RS s0 (N + 100) r.2) := by
 unfold spec_someGraph.f
 refine (ev_one h (by omega) _ (by simp)).bind fun b hb => ?_
 have hb8 : 0 ≤ mn a b.1 ∧ mn a b.1 ≤ 8 := by
  have := hb.1
  simp at this
  unfold mn
  split <;> omega
 generalize mn a b.1 = c at *
 obtain ⟨j, rfl⟩ := Int.eq_ofNat_of_zero_le hb8.1
 exact (ev_some_out s0 j [] (N + 1) b.2 (by simp; omega) (by omega) (by simp) hb.2).mono fun r hr => ⟨hr.1, hr.2.mono (by omega) (by omega)⟩
theorem lim_evP {α : Type} {f : Nat → Option α} {Q : α → Prop} (hm : ∀ k, LeO (f k) (f (k + 1))) (h : EvP f Q) : EvP (fun _ => lim f) Q := by
 obtain ⟨r, h, q⟩ := h
 obtain ⟨k, hk⟩ := h.one
 exact ⟨r, ⟨0, fun _ _ => lim_of hm hk⟩, q⟩
theorem rdT_small {n m : Nat} {g : List Tk} (h : GSmall n m g) {i : Int} (h0 : 0 ≤ i) (h1 : i < (g.length : Int)) : (rd_T33 g i).f1.length ≤ m := by
 refine h.2 _ ?_
 unfold rd_T33
 rw [List.getD_eq_getElem?_getD, List.getElem?_eq_getElem (by omega), Option.getD_some]
 exact List.getElem_mem _
theorem small_set {n m m2 : Nat} {g : List Tk} (h : GSmall n m g) (i : Nat) (t : Tk) (ht : t.f1.length ≤ m2) (hm : m ≤ m2) {n2 : Nat} (hn : n ≤ n2) : GSmall n2 m2 (g.set i t) := by
 refine ⟨by rw [List.length_set]; have := h.1; omega, fun u hu => ?_⟩
 rcases List.mem_or_eq_of_mem_set hu with h1 | h1
 ·have := h.2 u h1; omega
 ·rw [h1]; exact ht
theorem ev_anyGraph {s0 : List Int} {N p : Int} (h : RS s0 N p) (hN : N + 210 < 100000) : EvP (fun _ => spec_anyGraph.f s0 p) (fun r => GSmall 16 10 r.1 ∧ RS s0 (N + 210) r.2) := by
 unfold spec_anyGraph.f
 refine lim_evP (fun k => spec_anyGraph.mono s0 p k) ?_
 unfold spec_anyGraph.fk
 refine (ev_someGraph h (by omega) 8 (by omega)).bind fun a ha => ?_
 have hs : GSmall 16 10 a.1 := ⟨by have := ha.1.1; omega, fun t ht => by have := ha.1.2 t ht; omega⟩
 refine EvP.ite (fun _ => EvP.ret ⟨hs, ha.2.mono (by omega) (by omega)⟩) (fun hne => ?_)
 refine (ev_pick ha.2 (by omega)).bind fun b hb => ?_
 refine (ev_pick hb.2.2 (by omega)).bind fun c hc => ?_
 have hb2 := hb.2.1 (by omega)
 refine EvP.neg (fun hh => hh hb2) ?_
 have hl := rdT_small ha.1 hb2.1 hb2.2
 generalize rd_T33 a.1 b.1 = tk at hl
 refine EvP.ite (fun _ => (ev_one hc.2.2 (by omega) _ (by simp)).bind fun d hd => EvP.ret ⟨small_set ha.1 _ _ (by show tk.f1.length ≤ 10; omega) (by omega) (by omega), hd.2.mono (by omega) (by omega)⟩) (fun _ => ?_)
 refine EvP.ite (fun _ => ?_) (fun _ => ?_)
 ·refine (ev_pick hc.2.2 (by omega)).bind fun d hd => ?_
  refine EvP.pos (by omega) ?_
  refine (ev_spoil hd.2.2 (by omega) _ 8 (by simp; omega)).bind fun e he => ?_
  have := he.1
  simp only [List.length_append, List.length_cons, List.length_nil] at this
  exact EvP.ret ⟨small_set ha.1 _ _ (by show e.1.length ≤ 10; omega) (by omega) (by omega), he.2.mono (by omega) (by omega)⟩
 refine EvP.ite (fun _ => (ev_one hc.2.2 (by omega) _ (by simp)).bind fun d hd => EvP.ret ⟨small_set ha.1 _ _ (by show tk.f1.length ≤ 10; omega) (by omega) (by omega), hd.2.mono (by omega) (by omega)⟩) (fun _ => ?_)
 refine EvP.ite (fun _ => (ev_one hc.2.2 (by omega) _ (by simp)).bind fun d hd => EvP.ret ⟨small_set ha.1 _ _ (by show tk.f1.length ≤ 10; omega) (by omega) (by omega), hd.2.mono (by omega) (by omega)⟩) (fun _ => ?_)
 refine EvP.ite (fun _ => ?_) (fun _ => EvP.ret ⟨hs, hc.2.2.mono (by omega) (by omega)⟩)
 refine (ev_someGraph hc.2.2 (by omega) 8 (by omega)).bind fun d hd => ?_
 have h1 := ha.1.1
 have h2 := hd.1.1
 refine EvP.pos (by omega) (EvP.ret ⟨⟨by simp; omega, fun t ht => ?_⟩, hd.2.mono (by omega) (by omega)⟩)
 rcases List.mem_append.1 ht with ht | ht
 ·have := ha.1.2 t ht; omega
 ·have := hd.1.2 t ht; omega
/-- The bytes of a code. -/
def Bytes (l : List Int) : Prop := ∀ x ∈ l, (Lit.int .u8 x).wf = true
theorem byte_of_wf {x : Int} (h : (Lit.int .u8 x).wf = true) : 0 ≤ x ∧ x ≤ 255 := by
 simp only [Lit.wf, IntKind.min, IntKind.max, IntKind.signed, IntKind.bits, Bool.and_eq_true, decide_eq_true_eq] at h
 simp at h
 omega
theorem ev_newReader {l : List Int} (h : Bytes l) : EvP (fun _ => spec_newReader.f l) (fun r => RS r.1 0 r.2) := by
 have hb : ∀ x ∈ l, 0 ≤ x ∧ x ≤ 255 := fun x hx => byte_of_wf (h x hx)
 unfold spec_newReader.f
 refine EvP.ite (fun h1 => EvP.pos (by omega) (EvP.ret ⟨by simp; omega, fun x hx => hb x (List.mem_of_mem_take hx), by omega, by omega, by omega⟩)) (fun h1 => EvP.ret ⟨by show l.length ≤ 2000; omega, hb, by show (0 : Int) ≤ 0; omega, by show (0 : Int) ≤ 0; omega, by omega⟩)
end Go.Proofs.YtfehecoebkbgeaaDoor.Core
end
section
set_option linter.unusedVariables false
set_option linter.unusedSimpArgs false
namespace Go.Proofs.YtfehecoebkbgeaaDoor.Core
open Go Go.RowKit Go.Proofs.YtfehecoebkbgeaaDoorW.PrintWords Go.Proofs.YtfehecoebkbgeaaDoorW.PrintMore Go.Proofs.YtfehecoebkbgeaaDoor.P
theorem digit_no : ∀ x : Nat, x < 10 → UInt8.ofNat (48 + x) ≠ 32 ∧ UInt8.ofNat (48 + x) ≠ 59 := by decide
theorem dec_no {u : Nat} (hu : u < 100) : (Lib.decDigits u).count 32 = 0 ∧ (Lib.decDigits u).count 59 = 0 := by
 have one : ∀ x : Nat, x < 10 → ([UInt8.ofNat (48 + x)] : List UInt8).count 32 = 0 ∧ ([UInt8.ofNat (48 + x)] : List UInt8).count 59 = 0 := by
  intro x hx
  obtain ⟨h1, h2⟩ := digit_no x hx
  exact ⟨List.count_eq_zero.2 (by simpa using Ne.symm h1), List.count_eq_zero.2 (by simpa using Ne.symm h2)⟩
 unfold Lib.decDigits
 split
 ·rename_i h
  exact one u h
 ·have e : Lib.decDigits (u / 10) = [UInt8.ofNat (48 + u / 10)] := by unfold Lib.decDigits; rw [dif_pos (by omega)]
  rw [e, List.count_append, List.count_append, (one (u / 10) (by omega)).1, (one (u / 10) (by omega)).2, (one (u % 10) (by omega)).1, (one (u % 10) (by omega)).2]
  exact ⟨rfl, rfl⟩
theorem tail_count (b : UInt8) (sep : List UInt8) : ∀ r : List (List UInt8), (Lib.joinTail sep r).count b = (r.map fun y => sep.count b + y.count b).sum
 | [] => by simp [Lib.joinTail]
 | y :: r => by
  have e : Lib.joinTail sep (y :: r) = (sep ++ y) ++ Lib.joinTail sep r := by simp [Lib.joinTail]
  rw [e, List.count_append, List.count_append, tail_count b sep r, List.map_cons, List.sum_cons]
theorem join_count (b : UInt8) (sep x : List UInt8) (r : List (List UInt8)) : (Lib.join (x :: r) sep).count b = x.count b + (r.map fun y => sep.count b + y.count b).sum := by
 rw [Lib.join_cons, List.count_append, tail_count]
theorem sum_const {α : Type} {f : α → Nat} {c : Nat} : ∀ (l : List α), (∀ x ∈ l, f x = c) → (l.map f).sum = l.length * c
 | [], _ => by simp
 | x :: l, h => by
  rw [List.map_cons, List.sum_cons, h x List.mem_cons_self, sum_const l (fun y hy => h y (List.mem_cons_of_mem _ hy)), List.length_cons, Nat.succ_mul]
  omega
theorem joinD_count {l : List Int} (hs : ∀ x ∈ l, 0 ≤ x ∧ x < 100) (hl : l ≠ []) : (joinD l).count 32 + 1 = l.length ∧ (joinD l).count 59 = 0 := by
 cases l with
 | nil => exact absurd rfl hl
 | cons a r =>
  have ha := hs a List.mem_cons_self
  have hd : ∀ x ∈ a :: r, (decD x).count 32 = 0 ∧ (decD x).count 59 = 0 := fun x hx => dec_no (by have := hs x hx; omega)
  have e : joinD (a :: r) = Lib.join (decD a :: r.map decD) [32] := rfl
  rw [e, join_count, join_count, (hd a List.mem_cons_self).1, (hd a List.mem_cons_self).2]
  rw [sum_const (c := 1) (r.map decD) (fun y hy => by
   obtain ⟨x, hx, rfl⟩ := List.mem_map.1 hy
   rw [(hd x (List.mem_cons_of_mem _ hx)).1]; rfl)]
  rw [sum_const (c := 0) (r.map decD) (fun y hy => by
   obtain ⟨x, hx, rfl⟩ := List.mem_map.1 hy
   rw [(hd x (List.mem_cons_of_mem _ hx)).2]; rfl)]
  rw [List.length_map, List.length_cons]
  omega
/-- How many numbers a graph has. -/
def numsD (g : List Tk) : Nat := (g.map fun t => 3 + t.f1.length).sum
theorem wordsD_len2 (t : Tk) : (wordsD t).length = 3 + t.f1.length := by unfold wordsD; rw [List.length_append]; rfl
theorem wordsD_ne (t : Tk) : wordsD t ≠ [] := by intro h; have := congrArg List.length h; rw [wordsD_len2] at this; simp at this
theorem text_count {g : List Tk} (hs : ∀ t ∈ g, (∀ x ∈ wordsD t, 0 ≤ x ∧ x < 100)) (hg : g ≠ []) : (Lib.join (textsD g) [59, 32]).count 32 + 1 = numsD g ∧ (Lib.join (textsD g) [59, 32]).count 59 + 1 = g.length := by
 cases g with
 | nil => exact absurd rfl hg
 | cons a r =>
  have hc := fun t ht => joinD_count (hs t ht) (wordsD_ne t)
  have e : textsD (a :: r) = joinD (wordsD a) :: textsD r := rfl
  rw [e, join_count, join_count]
  have h0 := hc a List.mem_cons_self
  have l0 := wordsD_len2 a
  have e32 : ((textsD r).map fun y => ([59, 32] : List UInt8).count 32 + y.count 32).sum = numsD r := by
   unfold textsD numsD
   rw [List.map_map]
   congr 1
   refine List.map_congr_left fun t ht => ?_
   have h1 := (hc t (List.mem_cons_of_mem _ ht)).1
   have l1 := wordsD_len2 t
   show ([59, 32] : List UInt8).count 32 + (joinD (wordsD t)).count 32 = 3 + t.f1.length
   rw [show ([59, 32] : List UInt8).count 32 = 1 from rfl]
   omega
  have e59 : ((textsD r).map fun y => ([59, 32] : List UInt8).count 59 + y.count 59).sum = r.length := by
   rw [sum_const (c := 1) (textsD r) (fun y hy => by
    obtain ⟨t, ht, rfl⟩ := List.mem_map.1 hy
    rw [(hc t (List.mem_cons_of_mem _ ht)).2]; rfl)]
   unfold textsD
   rw [List.length_map, Nat.mul_one]
  rw [e32, e59]
  have e2 : numsD (a :: r) = (3 + a.f1.length) + numsD r := by unfold numsD; rw [List.map_cons, List.sum_cons]
  rw [e2, List.length_cons]
  omega
theorem bt_at_list (L : List UInt8) {i : Nat} (hi : i < L.length) : bt (⟨L.toArray⟩ : ByteArray) (i : Int) = ((L[i]).toNat : Int) := by
 have hs : ((i : Nat) : Int).toNat < (⟨L.toArray⟩ : ByteArray).size := by rw [byte_size, Int.toNat_natCast]; exact hi
 unfold bt
 rw [dif_pos hs]
 show (((L.toArray)[((i : Nat) : Int).toNat]'_).toNat : Int) = _
 simp
theorem byte_is (b : UInt8) (n : Nat) (hn : n < 256) : ((b.toNat : Nat) : Int) = (n : Int) ↔ b = UInt8.ofNat n := by
 constructor
 ·intro h
  have h2 : b.toNat = n := by omega
  rw [← h2]
  simp
 ·intro h
  rw [h]
  simp
  omega
theorem empty_list : (⟨([] : List UInt8).toArray⟩ : ByteArray).toList = [] := by
 unfold ByteArray.toList ByteArray.toList.loop
 rfl
/-- What is not empty is a valid graph's. -/
theorem formatD_ne {g : List Tk} (h : formatD g ≠ []) : ∃ G, graphD g = some G ∧ g ≠ [] ∧ formatD g = Lib.join (textsD g) [59, 32] := by
 unfold formatD at h ⊢
 cases hG : graphD g with
 | none => rw [hG] at h; exact absurd rfl h
 | some G =>
  rw [hG] at h
  refine ⟨G, rfl, fun e => h ?_, rfl⟩
  subst e
  rfl
theorem ev_DrawFormatGraph {l : List Int} (h : Bytes l) : EvP (fun _ => spec_DrawFormatGraph.f l) (fun r => GSmall 16 10 r) := by
 unfold spec_DrawFormatGraph.f
 exact (ev_newReader h).bind fun a ha => (ev_anyGraph ha (by omega)).bind fun c hc => EvP.ret hc.1
end Go.Proofs.YtfehecoebkbgeaaDoor.Core
end
section
set_option linter.unusedVariables false
set_option linter.unusedSimpArgs false
namespace Go.Proofs.YtfehecoebkbgeaaDoor.Core
open Go Go.RowKit Go.Proofs.YtfehecoebkbgeaaDoorW.PrintWords Go.Proofs.YtfehecoebkbgeaaDoorW.PrintMore Go.Proofs.YtfehecoebkbgeaaDoor.P
theorem parts_l0 (g : List Tk) (L : List UInt8) (hL : L.length ≤ 1000) (hg : g.length ≤ 8) : ∀ (m i w : Nat), i + m = L.length → w ≤ i →
  Ev (fun k => laws_FnGraphTextParts.l0 k g ⟨L.toArray⟩ (w : Int) (i : Int)) ((((w + (L.drop i).count 59 : Nat) : Int)) == ((g.length : Int) - 1))
 | 0, i, w, hi, hw => by
  refine Ev.succ ?_
  simp only [laws_FnGraphTextParts.l0]
  refine Ev.neg (by rw [byte_size]; omega) ?_
  rw [List.drop_eq_nil_of_le (by omega), w64 (by omega) (by omega)]
  exact Ev.const _
 | m + 1, i, w, hi, hw => by
  have hlt : i < L.length := by omega
  have hd : L.drop i = L[i] :: L.drop (i + 1) := List.drop_eq_getElem_cons hlt
  refine Ev.succ ?_
  simp only [laws_FnGraphTextParts.l0]
  refine Ev.pos (by rw [byte_size]; omega) (Ev.pos (by omega) ?_)
  rw [bt_at_list L hlt, w64 (n := ((i : Nat) : Int) + 1) (by omega) (by omega), show ((i : Nat) : Int) + 1 = ((i + 1 : Nat) : Int) by omega, hd]
  generalize L[i] = b
  by_cases hb : b = UInt8.ofNat 59
  ·refine Ev.pos ((byte_is b 59 (by decide)).2 hb) ?_
   rw [w64 (by omega) (by omega), show ((w : Nat) : Int) + 1 = ((w + 1 : Nat) : Int) by omega]
   have h := parts_l0 g L hL hg m (i + 1) (w + 1) (by omega) (by omega)
   rw [hb, show (UInt8.ofNat 59 :: L.drop (i + 1)).count 59 = (L.drop (i + 1)).count 59 + 1 from List.count_cons_self, show w + ((L.drop (i + 1)).count 59 + 1) = w + 1 + (L.drop (i + 1)).count 59 by omega]
   exact h
  ·refine Ev.neg (fun h => hb ((byte_is b 59 (by decide)).1 h)) ?_
   have h := parts_l0 g L hL hg m (i + 1) w (by omega) (by omega)
   rw [List.count_cons_of_ne (fun e => hb (by rw [e]; rfl))]
   exact h
theorem FnGraphTextParts_pure (l0 : List Int) (hW : Bytes l0) : ∃ k, laws_FnGraphTextParts.f k l0 = some true := by
 refine Ev.one (f := fun k => laws_FnGraphTextParts.f k l0) (EvP.ev ?_)
 unfold laws_FnGraphTextParts.f
 refine EvP.ite (fun _ => EvP.ret rfl) (fun hlen => ?_)
 refine (ev_DrawFormatGraph hW).bind fun g hg => ?_
 have hfit := hg.fits (by unfold big; omega) (by unfold big; omega)
 have hs := ev_FormatGraph hfit
 have hself : EvP (fun k => laws_FnGraphTextParts.j0 k g ⟨(formatD g).toArray⟩ true) (fun x => x = true) := by
  refine EvP.succ ?_
  simp only [laws_FnGraphTextParts.j0]
  exact EvP.pos (by first | rfl | trivial) (Ev.bindP hs (EvP.ret (beq_iff_eq.2 rfl)))
 refine Ev.bindP (Ev.const (⟨(formatD g).toArray⟩ : ByteArray)) (Ev.bindP hs (EvP.pos rfl ?_))
 cases hb : ((⟨(formatD g).toArray⟩ : ByteArray).toList == ([] : List UInt8)) with
 | true => exact hself
 | false =>
  have hf : formatD g ≠ [] := by
   intro hf
   rw [hf, empty_list] at hb
   cases hb
  obtain ⟨G, hG, hne, he⟩ := formatD_ne hf
  have h8 := (vg_of hG).n8
  have hwo := fun t ht => wordsD_ok hG (t := t) ht
  have hcnt := text_count (fun t ht => (hwo t ht).1) hne
  have hln := texts_len hwo
  refine EvP.succ ?_
  simp only [laws_FnGraphTextParts.j0]
  refine EvP.neg Bool.false_ne_true ?_
  have h := parts_l0 g (formatD g) (by rw [he]; omega) h8 (formatD g).length 0 0 (by omega) (Nat.le_refl _)
  refine ⟨_, h, ?_⟩
  rw [List.drop_zero, he]
  exact beq_iff_eq.2 (by omega)
end Go.Proofs.YtfehecoebkbgeaaDoor.Core
end
