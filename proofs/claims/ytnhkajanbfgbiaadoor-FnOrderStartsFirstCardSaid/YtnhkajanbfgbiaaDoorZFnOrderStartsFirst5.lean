/- The law FnOrderStartsFirst holds of the given program: the proof's own part, with its row and its card, part 5 of 9. -/
import Derived.Test.YtnhkajanbfgbiaaDoorZFnOrderStartsFirst4
import Derived.Laws.Bits64
namespace Go.Proofs.YtnhkajanbfgbiaaDoor.P
abbrev T5q : Bool := true
abbrev F5q : Bool := false
end Go.Proofs.YtnhkajanbfgbiaaDoor.P
section
set_option linter.unusedVariables false
set_option linter.unusedSimpArgs false
namespace Go.Proofs.YtnhkajanbfgbiaaDoor.Core
open Go Go.RowKit Go.Proofs.YtnhkajanbfgbiaaDoorW.PrintWords Go.Proofs.YtnhkajanbfgbiaaDoorW.PrintMore Go.Proofs.YtnhkajanbfgbiaaDoor.P
/-- From some number on, f says r. -/
def Ev {α : Type} (f : Nat → Option α) (r : α) : Prop := ∃ K, ∀ k, K ≤ k → f k = some r
theorem Ev.const {α : Type} (r : α) : Ev (fun _ => some r) r := ⟨0, fun _ _ => rfl⟩
theorem Ev.bind {α β : Type} {f : Nat → Option α} {g : Nat → α → Option β} {a : α} {b : β} (h : Ev f a) (h2 : Ev (fun k => g k a) b) : Ev (fun k => (f k).bind (g k)) b := by
 obtain ⟨K, h⟩ := h
 obtain ⟨K2, h2⟩ := h2
 exact ⟨max K K2, fun k hk => by show (f k).bind (g k) = some b; rw [h k (by omega)]; exact h2 k (by omega)⟩
theorem Ev.succ {α : Type} {f : Nat → Option α} {r : α} (h : Ev (fun k => f (k + 1)) r) : Ev f r := by
 obtain ⟨K, h⟩ := h
 refine ⟨K + 1, fun k hk => ?_⟩
 obtain ⟨m, rfl⟩ : ∃ m, k = m + 1 := ⟨k - 1, by omega⟩
 exact h m (by omega)
theorem Ev.of {α : Type} {f g : Nat → Option α} {r : α} (h : Ev f r) (e : ∀ k, g k = f k) : Ev g r := by
 obtain ⟨K, h⟩ := h
 exact ⟨K, fun k hk => (e k).trans (h k hk)⟩
theorem Ev.both {α β : Type} {f : Nat → Option α} {g : Nat → Option β} {a : α} {b : β} (h : Ev f a) (h2 : Ev g b) : ∃ k, f k = some a ∧ g k = some b := by
 obtain ⟨K, h⟩ := h
 obtain ⟨K2, h2⟩ := h2
 exact ⟨max K K2, h _ (by omega), h2 _ (by omega)⟩
theorem Ev.one {α : Type} {f : Nat → Option α} {a : α} (h : Ev f a) : ∃ k, f k = some a := by
 obtain ⟨K, h⟩ := h
 exact ⟨K, h _ (by omega)⟩
theorem w64 {n : Int} (h0 : -9223372036854775808 ≤ n) (h1 : n ≤ 9223372036854775807) : wrap64 n = n := by unfold wrap64; omega
theorem rd_mid {pre r : List Int} {x : Int} {i : Int} (hi : i = (pre.length : Int)) : rd (pre ++ x :: r) i = x := by
 subst hi
 simp [rd]
theorem within_eq (x a b : Int) : impl_within.f x a b = some (decide (a ≤ x ∧ x ≤ b)) := by
 unfold impl_within.f
 by_cases h : x ≥ a
 ·rw [if_pos h]; simp; omega
 ·rw [if_neg h]; simp; omega
theorem setwith_eq {s k : Nat} (hs : s < 256) (hk : k < 8) : impl_set_with.f (s : Int) (k : Int) = some ((s ||| 2 ^ k : Nat) : Int) := by
 unfold impl_set_with.f
 rw [if_pos (by omega)]
 have : shl .u16 1 (k : Int) = IntKind.u16.wrap (2 ^ k) := by
  unfold shl
  rw [Int.toNat_natCast, Nat.min_eq_left (by show k ≤ 16; omega), Int.one_mul]
 rw [this, with_eq hs hk]
theorem sethas_eq {s k : Nat} (hs : s < 256) (hk : k < 8) : impl_set_has.f (s : Int) (k : Int) = some (s.testBit k) := by
 unfold impl_set_has.f
 rw [if_pos (by omega)]
 have : shr .u16 (s : Int) (k : Int) = (s : Int) / 2 ^ k := by
  unfold shr
  rw [Int.toNat_natCast, Nat.min_eq_left (by show k ≤ 16; omega)]
 rw [this, has_eq hs]
/-- The set of ascending numbers below n. -/
def setGo (n : Nat) : List Int → Nat → Int → Option Nat
 | [], s, _ => some s
 | x :: r, s, last => if last + 1 ≤ x ∧ x ≤ (n : Int) - 1 then setGo n r (s ||| 2 ^ x.toNat) x else none
def setD (n : Nat) (L : List Int) : Option Nat := setGo n L 0 (-1)
def setR (o : Option Nat) : Int × Bool := match o with | some s => ((s : Int), true) | none => (0, false)
theorem ev_setGo {n : Nat} (hn : n ≤ 8) (L : List Int) : ∀ (r pre : List Int) (s : Nat) (last : Int), L = pre ++ r → s < 2 ^ n → (pre.length : Int) ≤ last + 1 → last ≤ (n : Int) - 1 →
  Ev (fun k => impl_setOf.l0 k (n : Int) (s : Int) last L (L.length : Int) (pre.length : Int)) (setR (setGo n r s last))
 | [], pre, s, last, hL, hs, h1, h2 => by
  refine Ev.succ ((Ev.const _).of fun k => ?_)
  rw [List.append_nil] at hL
  subst hL
  simp only [impl_setOf.l0]
  rw [if_neg (by omega)]
  rfl
 | x :: r, pre, s, last, hL, hs, h1, h2 => by
  have hlen : L.length = pre.length + (r.length + 1) := by rw [hL]; simp
  have hw1 : wrap64 (last + 1) = last + 1 := w64 (by omega) (by omega)
  have hw2 : wrap64 ((n : Int) - 1) = (n : Int) - 1 := w64 (by omega) (by omega)
  have hrd : rd L (pre.length : Int) = x := by rw [hL]; exact rd_mid rfl
  refine Ev.succ ?_
  by_cases hx : last + 1 ≤ x ∧ x ≤ (n : Int) - 1
  ·have hx0 : 0 ≤ x := by omega
   obtain ⟨m, rfl⟩ : ∃ m : Nat, x = (m : Int) := ⟨x.toNat, by omega⟩
   have hs8 : s < 256 := Nat.lt_of_lt_of_le hs (pow8 hn)
   have ih := ev_setGo hn L r (pre ++ [(m : Int)]) (s ||| 2 ^ m) m (by rw [hL]; simp) (Nat.or_lt_two_pow hs (Nat.pow_lt_pow_right (by omega) (by omega))) (by simp; omega) (by omega)
   have hg : setGo n ((m : Int) :: r) s last = setGo n r (s ||| 2 ^ m) m := by
    rw [setGo, if_pos hx, Int.toNat_natCast]
   rw [hg]
   refine ih.of fun k => ?_
   simp only [impl_setOf.l0]
   rw [if_pos (by omega), if_pos (by omega), if_pos (by omega), hrd, hw1, hw2, within_eq, decide_eq_true hx]
   simp only [Option.bind_some, if_true]
   rw [setwith_eq hs8 (by omega)]
   simp only [Option.bind_some, List.length_append, List.length_cons, List.length_nil]
   rw [w64 (by omega) (by omega)]
   rfl
  ·have hg : setGo n (x :: r) s last = none := by rw [setGo, if_neg hx]
   rw [hg]
   refine (Ev.const _).of fun k => ?_
   simp only [impl_setOf.l0]
   rw [if_pos (by omega), if_pos (by omega), if_pos (by omega), hrd, hw1, hw2, within_eq, decide_eq_false hx]
   rfl
theorem ev_setOf {n : Nat} (hn : n ≤ 8) (L : List Int) : Ev (fun k => impl_setOf.f k L (n : Int)) (setR (setD n L)) :=
 ev_setGo hn L L [] 0 (-1) rfl (Nat.two_pow_pos n) (by simp) (by omega)
theorem setGo_lt {n : Nat} : ∀ {r : List Int} {s : Nat} {last : Int} {t : Nat}, setGo n r s last = some t → s < 2 ^ n → -1 ≤ last → t < 2 ^ n
 | [], s, last, t, h, hs, hl => by rw [setGo] at h; cases h; exact hs
 | x :: r, s, last, t, h, hs, hl => by
  rw [setGo] at h
  by_cases hx : last + 1 ≤ x ∧ x ≤ (n : Int) - 1
  ·rw [if_pos hx] at h
   exact setGo_lt h (Nat.or_lt_two_pow hs (Nat.pow_lt_pow_right (by omega) (by omega))) (by omega)
  ·rw [if_neg hx] at h; cases h
theorem setD_lt {n : Nat} {L : List Int} {t : Nat} (h : setD n L = some t) : t < 2 ^ n := setGo_lt h (Nat.two_pow_pos n) (by omega)
def taskOk (t : Tk) : Prop := (1 ≤ t.f0 ∧ t.f0 ≤ 20) ∧ (0 ≤ t.f2 ∧ t.f2 ≤ 2) ∧ (1 ≤ t.f3 ∧ t.f3 ≤ 4)
instance (t : Tk) : Decidable (taskOk t) := by unfold taskOk; infer_instance
def needsGo (n : Nat) : List Tk → Option (List Nat)
 | [] => some []
 | t :: r => match setD n t.f1 with
  | none => none
  | some s => if taskOk t then (needsGo n r).map (s :: ·) else none
def needsD (g : List Tk) : Option (List Nat) := if g.length ≤ 8 then needsGo g.length g else none
def needsR (o : Option (List Nat)) : List Int × Bool := match o with | some N => (up N, true) | none => ([], false)
theorem rdT_mid {pre r : List Tk} {x : Tk} {i : Int} (hi : i = (pre.length : Int)) : rd_T38 (pre ++ x :: r) i = x := by
 subst hi
 simp [rd_T38]
theorem ev_needsGo (G : List Tk) (h8 : G.length ≤ 8) : ∀ (r pre : List Tk) (N : List Nat), G = pre ++ r → N.length = pre.length →
  Ev (fun k => impl_needsOf.l0 k G (up N) G (G.length : Int) (pre.length : Int)) (needsR ((needsGo G.length r).map (N ++ ·)))
 | [], pre, N, hG, hN => by
  refine Ev.succ ((Ev.const _).of fun k => ?_)
  rw [List.append_nil] at hG
  subst hG
  simp only [impl_needsOf.l0]
  rw [if_neg (by omega)]
  simp [needsGo, needsR]
 | t :: r, pre, N, hG, hN => by
  have hlen : G.length = pre.length + (r.length + 1) := by rw [hG]; simp
  have hrd : rd_T38 G (pre.length : Int) = t := by rw [hG]; exact rdT_mid rfl
  have hs := ev_setOf h8 t.f1
  refine Ev.succ ?_
  cases he : setD G.length t.f1 with
  | none =>
   rw [he] at hs
   have hg : needsGo G.length (t :: r) = none := by rw [needsGo, he]
   rw [hg]
   obtain ⟨K, h2⟩ := hs
   dsimp only at h2
   refine ⟨K, fun k hk => ?_⟩
   show impl_needsOf.l0 (k + 1) _ _ _ _ _ = _
   simp only [impl_needsOf.l0]
   rw [if_pos (by omega), if_pos (by omega), if_pos (by omega), hrd, h2 k hk]
   rfl
  | some s =>
   rw [he] at hs
   by_cases hok : taskOk t
   ·have hg : needsGo G.length (t :: r) = (needsGo G.length r).map (s :: ·) := by rw [needsGo, he]; simp [hok]
    have ih := ev_needsGo G h8 r (pre ++ [t]) (N ++ [s]) (by rw [hG]; simp) (by simp [hN])
    have e1 : ((needsGo G.length r).map (s :: ·)).map (N ++ ·) = (needsGo G.length r).map ((N ++ [s]) ++ ·) := by cases needsGo G.length r <;> simp
    rw [hg, e1]
    obtain ⟨K, h2⟩ := hs
    dsimp only at h2
    obtain ⟨K2, h3⟩ := ih
    dsimp only at h3
    refine ⟨max K K2, fun k hk => ?_⟩
    show impl_needsOf.l0 (k + 1) _ _ _ _ _ = _
    simp only [impl_needsOf.l0]
    rw [if_pos (by omega), if_pos (by omega), if_pos (by omega), hrd, h2 k (by omega)]
    simp only [setR, Option.bind_some, if_true]
    rw [within_eq, decide_eq_true hok.1]
    simp only [Option.bind_some, if_true]
    rw [within_eq, decide_eq_true hok.2.1]
    simp only [Option.bind_some, if_true]
    rw [within_eq, decide_eq_true hok.2.2]
    simp only [Option.bind_some, if_true]
    rw [if_pos (by rw [up_length]; omega), w64 (by omega) (by omega)]
    have := h3 k (by omega)
    simpa [up] using this
   ·have hg : needsGo G.length (t :: r) = none := by rw [needsGo, he]; simp [hok]
    rw [hg]
    obtain ⟨K, h2⟩ := hs
    dsimp only at h2
    refine ⟨K, fun k hk => ?_⟩
    show impl_needsOf.l0 (k + 1) _ _ _ _ _ = _
    simp only [impl_needsOf.l0]
    rw [if_pos (by omega), if_pos (by omega), if_pos (by omega), hrd, h2 k (by omega)]
    simp only [setR, Option.bind_some, if_true]
    rw [within_eq, within_eq, within_eq]
    simp only [Option.bind_some]
    by_cases h1 : 1 ≤ t.f0 ∧ t.f0 ≤ 20
    ·by_cases h2 : 0 ≤ t.f2 ∧ t.f2 ≤ 2
     ·by_cases h3 : 1 ≤ t.f3 ∧ t.f3 ≤ 4
      ·exact absurd ⟨h1, h2, h3⟩ hok
      ·simp [h1, h2, h3, needsR]
     ·simp [h1, h2, needsR]
    ·simp [h1, needsR]
theorem ev_needsOf (G : List Tk) : Ev (fun k => impl_needsOf.f k G) (needsR (needsD G)) := by
 unfold needsD
 by_cases h : G.length ≤ 8
 ·rw [if_pos h]
  have h2 := ev_needsGo G h G [] [] rfl rfl
  have e : (needsGo G.length G).map (([] : List Nat) ++ ·) = needsGo G.length G := by cases needsGo G.length G <;> simp
  rw [e] at h2
  refine h2.of fun k => ?_
  unfold impl_needsOf.f
  rw [if_neg (by omega), if_pos (by omega), if_pos (by omega)]
  rfl
 ·rw [if_neg h]
  refine (Ev.const _).of fun k => ?_
  unfold impl_needsOf.f
  rw [if_pos (by omega)]
  rfl
theorem needsGo_spec {n : Nat} : ∀ {r : List Tk} {N : List Nat}, needsGo n r = some N → N.length = r.length ∧ below1 n N
 | [], N, h => by rw [needsGo] at h; cases h; exact ⟨rfl, fun x hx => by cases hx⟩
 | t :: r, N, h => by
  rw [needsGo] at h
  cases he : setD n t.f1 with
  | none => rw [he] at h; cases h
  | some s =>
   rw [he] at h
   by_cases hok : taskOk t
   ·simp only [hok, if_true] at h
    cases hg : needsGo n r with
    | none => rw [hg] at h; cases h
    | some M =>
     rw [hg] at h
     cases h
     have := needsGo_spec hg
     refine ⟨by simp [this.1], fun x hx => ?_⟩
     rcases List.mem_cons.1 hx with rfl | hx
     ·exact setD_lt he
     ·exact this.2 x hx
   ·simp [hok] at h
theorem needsD_spec {g : List Tk} {N : List Nat} (h : needsD g = some N) : g.length ≤ 8 ∧ N.length = g.length ∧ below1 g.length N := by
 unfold needsD at h
 by_cases h8 : g.length ≤ 8
 ·rw [if_pos h8] at h
  exact ⟨h8, needsGo_spec h⟩
 ·rw [if_neg h8] at h; cases h
end Go.Proofs.YtnhkajanbfgbiaaDoor.Core
namespace Go.Proofs.YtnhkajanbfgbiaaDoor.Core
open Go Go.RowKit Go.Shelf Go.Proofs.YtnhkajanbfgbiaaDoorW.PrintWords Go.Proofs.YtnhkajanbfgbiaaDoorW.PrintMore Go.Proofs.YtnhkajanbfgbiaaDoor.P
attribute [local go_sem] Oper.semAt_some wide_fn wide_depth
def nextFrom (N : List Nat) (d : Nat) : Nat → Nat → Option Nat
 | _, 0 => none
 | i, m + 1 => if d.testBit i = false ∧ sub (N.getD i 0) d = 0 then some i else nextFrom N d (i + 1) m
def nextD (N : List Nat) (d : Nat) : Option Nat := nextFrom N d 0 N.length
def orderGo (N : List Nat) : Nat → List Nat → Nat → List Nat × Nat
 | 0, L, d => (L, d)
 | m + 1, L, d => match nextD N d with
  | some i => orderGo N m (L ++ [i]) (d ||| 2 ^ i)
  | none => orderGo N m L d
def orderD (N : List Nat) : List Nat × Nat := orderGo N N.length [] 0
theorem nextFrom_spec {N : List Nat} {d : Nat} : ∀ {m i j : Nat}, nextFrom N d i m = some j → i ≤ j ∧ j < i + m ∧ d.testBit j = false ∧ sub (N.getD j 0) d = 0
 | 0, i, j, h => by rw [nextFrom] at h; cases h
 | m + 1, i, j, h => by
  rw [nextFrom] at h
  by_cases hc : d.testBit i = false ∧ sub (N.getD i 0) d = 0
  ·rw [if_pos hc] at h
   cases h
   exact ⟨by omega, by omega, hc⟩
  ·rw [if_neg hc] at h
   have := nextFrom_spec h
   exact ⟨by omega, by omega, this.2.2⟩
theorem nextD_spec {N : List Nat} {d j : Nat} (h : nextD N d = some j) : j < N.length ∧ d.testBit j = false ∧ sub (N.getD j 0) d = 0 := by
 have := nextFrom_spec h
 exact ⟨by omega, this.2.2⟩
def ordR (x : List Nat × Nat) : List Int × Int := (up x.1, (x.2 : Int))
theorem order_step {N : List Nat} {n : Nat} (hN : N.length = n) (hn : n ≤ 8) (L : List Nat) (d i j k : Nat) (hd8 : d < 256) (hNi : N.getD i 0 < 256) (hi : i < n) (hj : j ≤ 8) (hL : L.length ≤ j) : impl_order.l1 (k + 1) (up N) (up L) (d : Int) (n : Int) (j : Int) (up N) (n : Int) (i : Int) = (if d.testBit i = true then impl_order.l1 k (up N) (up L) (d : Int) (n : Int) (j : Int) (up N) (n : Int) ((i + 1 : Nat) : Int) else if ((sub (N.getD i 0) d : Nat) : Int) = 0 then impl_order.l0 k (up N) (up (L ++ [i])) ((d ||| 2 ^ i : Nat) : Int) (n : Int) ((j + 1 : Nat) : Int) else impl_order.l1 k (up N) (up L) (d : Int) (n : Int) (j : Int) (up N) (n : Int) ((i + 1 : Nat) : Int)) := by
 have h8 : up (L ++ [i]) = up L ++ [(i : Int)] := by simp [up]
 have hwj : ((j + 1 : Nat) : Int) = wrap64 ((j : Int) + 1) := by rw [w64 (by omega) (by omega)]; omega
 have hw : ((i + 1 : Nat) : Int) = wrap64 ((i : Int) + 1) := by rw [w64 (by omega) (by omega)]; omega
 rw [h8, hwj, hw, ← andNot_eq hNi hd8, impl_order.l1, if_pos (by omega), if_pos (by omega), if_pos (by rw [up_length, hN]; omega), sethas_eq hd8 (by omega), Option.bind_some, rd_up (L := N) (i := i) rfl]
 congr 1
 congr 1
 rw [if_pos (by rw [up_length]; omega), setwith_eq hd8 (by omega), Option.bind_some]
theorem ev_next {N : List Nat} {n : Nat} (hN : N.length = n) (hn : n ≤ 8) (hb : below1 n N) (L : List Nat) (d : Nat) (hd : d < 2 ^ n) (j : Nat) (hL : L.length ≤ j) (hj : j ≤ 8) (R : List Nat → Nat → List Int × Int)
  (ho : ∀ (L' : List Nat) (d' : Nat), d' < 2 ^ n → L'.length ≤ j + 1 → Ev (fun k => impl_order.l0 k (up N) (up L') (d' : Int) (n : Int) ((j + 1 : Nat) : Int)) (R L' d')) (m : Nat) : ∀ i, i + m = n →
  Ev (fun k => impl_order.l1 k (up N) (up L) (d : Int) (n : Int) (j : Int) (up N) (n : Int) (i : Int)) (match nextFrom N d i m with | some i => R (L ++ [i]) (d ||| 2 ^ i) | none => R L d) := by
 induction m with
 | zero =>
  intro i hi
  have hwj : wrap64 ((j : Int) + 1) = ((j + 1 : Nat) : Int) := by rw [w64 (by omega) (by omega)]; omega
  have hg : nextFrom N d i 0 = none := by rw [nextFrom]
  have h0 := ho L d hd (by omega)
  rw [hg]
  refine Ev.succ (h0.of fun k => ?_)
  rw [impl_order.l1, if_neg (by omega), hwj]
 | succ m ih =>
  intro i hi
  have h256 := pow8 hn
  have hd8 : d < 256 := Nat.lt_of_lt_of_le hd h256
  have hNi : N.getD i 0 < 256 := Nat.lt_of_lt_of_le (getD_lt hb i) h256
  have hstep := fun k => order_step hN hn L d i j k hd8 hNi (by omega) hj hL
  have ih := ih (i + 1) (by omega)
  refine Ev.succ ?_
  cases hbit : d.testBit i with
  | true =>
   have hg : nextFrom N d i (m + 1) = nextFrom N d (i + 1) m := by rw [nextFrom, if_neg (by simp [hbit])]
   rw [hg]
   refine ih.of fun k => ?_
   rw [hstep, if_pos hbit]
  | false =>
   by_cases hz : sub (N.getD i 0) d = 0
   ·have hg : nextFrom N d i (m + 1) = some i := by rw [nextFrom, if_pos ⟨hbit, hz⟩]
    rw [hg]
    have h0 := ho (L ++ [i]) (d ||| 2 ^ i) (Nat.or_lt_two_pow hd (Nat.pow_lt_pow_right (by omega) (by omega))) (by simp; omega)
    refine h0.of fun k => ?_
    rw [hstep, if_neg (by simp [hbit]), if_pos (by omega)]
   ·have hg : nextFrom N d i (m + 1) = nextFrom N d (i + 1) m := by rw [nextFrom, if_neg (fun h => hz h.2)]
    rw [hg]
    refine ih.of fun k => ?_
    rw [hstep, if_neg (by simp [hbit]), if_neg (by omega)]
theorem ev_orderGo {N : List Nat} {n : Nat} (hN : N.length = n) (hn : n ≤ 8) (hb : below1 n N) : ∀ (m j : Nat) (L : List Nat) (d : Nat), j + m = n → d < 2 ^ n → L.length ≤ j →
  Ev (fun k => impl_order.l0 k (up N) (up L) (d : Int) (n : Int) (j : Int)) (ordR (orderGo N m L d))
 | 0, j, L, d, hj, hd, hL => by
  refine Ev.succ ((Ev.const _).of fun k => ?_)
  simp only [impl_order.l0]
  rw [if_neg (by omega)]
  rfl
 | m + 1, j, L, d, hj, hd, hL => by
  refine Ev.succ ?_
  have h := ev_next hN hn hb L d hd j hL (by omega) (fun L' d' => ordR (orderGo N m L' d')) (fun L' d' hd' hL' => ev_orderGo hN hn hb m (j + 1) L' d' (by omega) hd' hL') N.length 0 (by omega)
  have e : (match nextFrom N d 0 N.length with | some i => ordR (orderGo N m (L ++ [i]) (d ||| 2 ^ i)) | none => ordR (orderGo N m L d)) = ordR (orderGo N (m + 1) L d) := by
   rw [orderGo, nextD]
   cases he : nextFrom N d 0 N.length <;> rfl
  rw [← e]
  refine h.of fun k => ?_
  simp only [impl_order.l0]
  rw [if_pos (by omega), up_length, hN]
  rfl
theorem ev_order {N : List Nat} (hn : N.length ≤ 8) (hb : below1 N.length N) : Ev (fun k => impl_order.f k (up N)) (ordR (orderD N)) := by
 have h := ev_orderGo rfl hn hb N.length 0 [] 0 (by omega) (Nat.two_pow_pos _) (by simp)
 refine h.of fun k => ?_
 unfold impl_order.f
 rw [up_length]
 rfl
/-- What an order (as far as it goes) and its set have. -/
structure OrdOk (N : List Nat) (L : List Nat) (d : Nat) : Prop where
 lt : ∀ i ∈ L, i < N.length
 set : ∀ i, d.testBit i = true ↔ i ∈ L
 dlt : d < 2 ^ N.length
 nodup : L.Nodup
 len : L.length + zb N.length d = N.length
 needs : ∀ pre i suf, L = pre ++ i :: suf → ∀ k, (N.getD i 0).testBit k = true → k ∈ pre
theorem zb_step {p i : Nat} (hp : p.testBit i = false) : ∀ {n : Nat}, i < n → zb n (p ||| 2 ^ i) + 1 = zb n p
 | 0, h => by omega
 | n + 1, h => by
  simp only [zb, or_bit]
  by_cases hi : i = n
  ·subst hi
   have : ∀ m, m ≤ i → zb m (p ||| 2 ^ i) = zb m p := by
    intro m
    induction m with
    | zero => intro _; rfl
    | succ m ih =>
     intro hm
     simp only [zb, or_bit, ih (by omega)]
     have : i ≠ m := by omega
     simp [this]
   rw [this i (Nat.le_refl _)]
   simp [hp]
  ·have := zb_step hp (n := n) (by omega)
   cases p.testBit n <;> simp [hi] <;> omega
theorem zb_zero : ∀ n, zb n 0 = n
 | 0 => rfl
 | n + 1 => by simp [zb, zb_zero n]
theorem zb_full (n : Nat) : ∀ m, m ≤ n → zb m (2 ^ n - 1) = 0
 | 0, _ => rfl
 | m + 1, h => by
  simp only [zb, zb_full n m (by omega), Nat.testBit_two_pow_sub_one]
  simp; omega
theorem OrdOk.step {N L : List Nat} {d i : Nat} (hn : N.length ≤ 8) (hb : below1 N.length N) (h : OrdOk N L d) (hi : i < N.length) (h1 : d.testBit i = false) (h2 : sub (N.getD i 0) d = 0) : OrdOk N (L ++ [i]) (d ||| 2 ^ i) where
 lt := by
  intro k hk
  rcases List.mem_append.1 hk with hk | hk
  ·exact h.lt k hk
  ·rw [List.mem_singleton.1 hk]; exact hi
 set := by
  intro k
  rw [or_bit, List.mem_append, List.mem_singleton, Bool.or_eq_true, h.set, decide_eq_true_eq]
  constructor
  ·rintro (h | h)
   ·exact .inl h
   ·exact .inr h.symm
  ·rintro (h | h)
   ·exact .inl h
   ·exact .inr h.symm
 dlt := Nat.or_lt_two_pow h.dlt (Nat.pow_lt_pow_right (by omega) hi)
 nodup := by
  rw [List.nodup_append]
  refine ⟨h.nodup, by simp, fun a ha b hb => ?_⟩
  rw [List.mem_singleton.1 hb]
  rintro rfl
  have := (h.set a).2 ha
  rw [this] at h1
  cases h1
 len := by
  have := zb_step h1 hi
  have := h.len
  simp
  omega
 needs := by
  intro pre k suf he m hm
  rcases List.eq_nil_or_concat suf with rfl | ⟨s2, x, rfl⟩
  ·have h3 : pre = L ∧ k = i := by
    have := List.append_inj' he (by simp)
    simpa [eq_comm] using this
   obtain ⟨rfl, rfl⟩ := h3
   have hd8 : d < 256 := Nat.lt_of_lt_of_le h.dlt (pow8 hn)
   have h4 := sub_testBit (i := m) (Nat.lt_of_lt_of_le (getD_lt hb k) (pow8 hn)) hd8
   rw [h2, hm] at h4
   simp at h4
   exact (h.set m).1 h4
  ·have h3 : L = pre ++ k :: s2 := by
    have e2 : L ++ [i] = (pre ++ k :: s2) ++ [x] := by rw [he]; simp
    exact (List.append_inj' e2 (by simp)).1
   exact h.needs pre k s2 h3 m hm
theorem orderGo_ok {N : List Nat} (hn : N.length ≤ 8) (hb : below1 N.length N) : ∀ {m : Nat} {L : List Nat} {d : Nat}, OrdOk N L d → OrdOk N (orderGo N m L d).1 (orderGo N m L d).2
 | 0, L, d, h => h
 | m + 1, L, d, h => by
  rw [orderGo]
  cases he : nextD N d with
  | none => exact orderGo_ok hn hb h
  | some i =>
   have := nextD_spec he
   exact orderGo_ok hn hb (h.step hn hb this.1 this.2.1 this.2.2)
theorem orderD_ok {N : List Nat} (hn : N.length ≤ 8) (hb : below1 N.length N) : OrdOk N (orderD N).1 (orderD N).2 :=
 orderGo_ok hn hb ⟨by simp, by simp, Nat.two_pow_pos _, by simp, by rw [zb_zero]; simp, by simp⟩
/-- What is known of a valid graph. -/
def mkG (g : List Tk) (N : List Nat) : GD := ⟨g, N, (orderD N).1, (reach N (orderD N).1 g.length).1, (reach N (orderD N).1 g.length).2⟩
def graphD (g : List Tk) : Option GD := match needsD g with
 | none => none
 | some N => if (orderD N).2 = 2 ^ g.length - 1 then some (mkG g N) else none
theorem graphD_spec {g : List Tk} {G : GD} (h : graphD g = some G) : ∃ N, needsD g = some N ∧ (orderD N).2 = 2 ^ g.length - 1 ∧ G = mkG g N := by
 unfold graphD at h
 cases he : needsD g with
 | none => rw [he] at h; cases h
 | some N =>
  rw [he] at h
  simp only [] at h
  by_cases hf : (orderD N).2 = 2 ^ g.length - 1
  ·rw [if_pos hf] at h
   cases h
   exact ⟨N, rfl, hf, rfl⟩
  ·rw [if_neg hf] at h; cases h
theorem graphD_tasks {g : List Tk} {G : GD} (h : graphD g = some G) : G.tasks = g := by
 obtain ⟨N, _, _, rfl⟩ := graphD_spec h
 rfl
theorem graphD_ok {g : List Tk} {G : GD} (h : graphD g = some G) : GOk G := by
 obtain ⟨N, h1, h2, rfl⟩ := graphD_spec h
 obtain ⟨h8, hl, hb⟩ := needsD_spec h1
 have hb' : below1 N.length N := by rw [hl]; exact hb
 have ok := orderD_ok (by omega) hb'
 have hob : ∀ i ∈ (orderD N).1, i < g.length := fun i hi => by have := ok.lt i hi; omega
 have hr := reach_below hb hob
 refine ⟨h8, hl, hb, ?_, hob, reach_len1 _ _ _, hr.1, reach_len2 _ _ _, hr.2⟩
 have := ok.len
 rw [h2, hl, zb_full _ _ (Nat.le_refl _)] at this
 exact this
set_option maxRecDepth 100000 in
set_option maxHeartbeats 4000000 in
theorem graphOf_no2 (k : Nat) (A0 : Option Addr) (c0 : Nat) (l0 : List Tk) (N O : List Nat) (d : Nat) (w : World) (hr0 : k38.C w A0 l0.length l0) (hc0 : l0.length ≤ c0) (h8 : l0.length ≤ 8) (hne : d ≠ 2 ^ l0.length - 1)
  (h : impl_needsOf.f k l0 = some (up N, true)) (ho : impl_order.f k (up N) = some (up O, (d : Int))) :
  Calls Tryd.prog 55 #[.slice A0 l0.length c0] w fun e w' => e = .returned (.tuple #[.pointer none, .bool false]) ∧ Below w.heap.size w w' := by
 have h' := Lib.hid h
 have ho' := Lib.hid ho
 clear h ho
 have hev := everything_calls l0.length h8
 generalize 2 ^ l0.length - 1 = full at hne hev
 generalize hfi : ((full : Nat) : Int) = fi at hev
 generalize hdi : ((d : Nat) : Int) = di at ho'
 have hne1 : (di != fi) = true := by simp; omega
 clear hfi hdi
 refine calls_marks Tryd.func55 rfl ?_
 simp only [Tryd.ntmps55, List.size_toArray, List.length_cons, List.length_nil, Nat.reduceAdd, Nat.reduceSub, Array.replicate_succ, Array.replicate_zero, List.push_toArray, List.append_toArray, List.nil_append, List.cons_append]
 go_wp2_with (first | (go_at_call 62; refine (impl_needsOf.calls k A0 c0 l0 _ _ _ hr0 hc0 h'.out).mono ?_; rintro e w1 ⟨v0, rfl, hR1, hB1⟩; obtain ⟨A1, c1, rfl, hl1', hC1⟩ := Kd.R_reads hR1; have hz1 := Lib.hid (up_length N)) | (go_at_call 63; refine (impl_order.calls k _ _ (up N) _ _ _ hC1 hl1' ho'.out).mono ?_; rintro e w2 ⟨v1, rfl, hR2, hB2⟩) | (go_at_call 64; refine (hev _).mono ?_; rintro e w3 ⟨rfl, rfl⟩))
 refine leave_ret (Marks.nil w.heap.size w.heap.size _) (fun W => results_tmp2 rfl _ _ _) ?_
 intro W' ht
 exact ⟨rfl, ht.below (below_step hB1 hB2) (Nat.le_refl _) (Nat.le_refl _)⟩
/-- What graphOf hands back. -/
def graphPost (A0 : Option Addr) (g : List Tk) (w : World) (e : Ending) (w' : World) : Prop := match graphD g with
 | none => e = .returned (.tuple #[.pointer none, .bool false]) ∧ Below w.heap.size w w'
 | some G => ∃ (b : Nat) (v : Value), e = .returned (.tuple #[.pointer (some ⟨b, 0, none⟩), .bool true]) ∧ Below w.heap.size w w' ∧ w.heap.size ≤ b ∧ IsG w' b G ∧ w'.cell? ⟨b, 2, none⟩ = some v ∧ (Kd.int .i64).R 3 w' w.heap.size (fun _ => True) v (up G.order) ∧ (∀ W2 : World, k38.C W2 A0 g.length g → (∀ k, w.heap.size ≤ k → k < w'.heap.size → W2.heap[k]? = w'.heap[k]?) → IsG W2 b G)
theorem graphOf_calls (A0 : Option Addr) (c0 : Nat) (l0 : List Tk) (w : World) (hT : Tab w) (hr0 : k38.C w A0 l0.length l0) (hc0 : l0.length ≤ c0) :
  Calls Tryd.prog 55 #[.slice A0 l0.length c0] w (graphPost A0 l0 w) := by
 have hn := ev_needsOf l0
 cases he : needsD l0 with
 | none =>
  rw [he] at hn
  obtain ⟨k, hk⟩ := hn.one
  refine (graphOf_no1 k A0 c0 l0 [] w hr0 hc0 hk).mono ?_
  intro e w' h
  have hg : graphD l0 = none := by unfold graphD; rw [he]
  unfold graphPost
  rw [hg]
  exact h
 | some N =>
  rw [he] at hn
  obtain ⟨h8, hl, hb⟩ := needsD_spec he
  have hb' : below1 N.length N := by rw [hl]; exact hb
  have ho := ev_order (N := N) (by omega) hb'
  have ok := orderD_ok (N := N) (by omega) hb'
  obtain ⟨k, h1, h2⟩ := hn.both ho
  by_cases hf : (orderD N).2 = 2 ^ l0.length - 1
  ·have hg : graphD l0 = some (mkG l0 N) := by unfold graphD; rw [he]; simp only []; rw [if_pos hf]
   have h2' : impl_order.f k (up N) = some (up (orderD N).1, ((2 ^ l0.length - 1 : Nat) : Int)) := by rw [← hf]; exact h2
   have gok := graphD_ok hg
   refine (graphOf_yes k A0 c0 l0 N (orderD N).1 w hT hr0 hc0 h8 hl hb gok.ob (by have := gok.ol; have := gok.n8; show (orderD N).1.length ≤ 8; simp only [mkG] at *; omega) h1 h2').mono ?_
   intro e w' h
   unfold graphPost
   rw [hg]
   exact h
  ·have hg : graphD l0 = none := by unfold graphD; rw [he]; simp only []; rw [if_neg hf]
   refine (graphOf_no2 k A0 c0 l0 N (orderD N).1 (orderD N).2 w hr0 hc0 h8 hf h1 h2).mono ?_
   intro e w' h
   unfold graphPost
   rw [hg]
   exact h
end Go.Proofs.YtnhkajanbfgbiaaDoor.Core
end
section
set_option linter.unusedVariables false
set_option linter.unusedSimpArgs false
namespace Go.Proofs.YtnhkajanbfgbiaaDoor.Core
open Go Go.RowKit Go.Proofs.YtnhkajanbfgbiaaDoorW.PrintWords Go.Proofs.YtnhkajanbfgbiaaDoorW.PrintMore Go.Proofs.YtnhkajanbfgbiaaDoor.P
theorem Ev.pos {α : Type} {c : Prop} [Decidable c] {f g : Nat → Option α} {r : α} (hc : c) (h : Ev f r) : Ev (fun k => if c then f k else g k) r := h.of fun k => if_pos hc
theorem Ev.neg {α : Type} {c : Prop} [Decidable c] {f g : Nat → Option α} {r : α} (hc : ¬ c) (h : Ev g r) : Ev (fun k => if c then f k else g k) r := h.of fun k => if_neg hc
theorem Ev.sb {α β : Type} {g : Nat → α → Option β} {a : α} {b : β} (h : Ev (fun k => g k a) b) : Ev (fun k => (some a).bind (g k)) b := h.of fun k => rfl
theorem Ev.conv {α : Type} {f : Nat → Option α} {a b : α} (h : Ev f a) (e : a = b) : Ev f b := e ▸ h
def EvP {α : Type} (f : Nat → Option α) (Q : α → Prop) : Prop := ∃ r, Ev f r ∧ Q r
theorem EvP.ret {α : Type} {Q : α → Prop} {a : α} (h : Q a) : EvP (fun _ => some a) Q := ⟨a, Ev.const a, h⟩
theorem EvP.bind {α β : Type} {f : Nat → Option α} {g : Nat → α → Option β} {Q : α → Prop} {R : β → Prop} (h : EvP f Q) (h2 : ∀ a, Q a → EvP (fun k => g k a) R) : EvP (fun k => (f k).bind (g k)) R := by
 obtain ⟨a, h, q⟩ := h
 obtain ⟨b, h2, q2⟩ := h2 a q
 exact ⟨b, h.bind h2, q2⟩
theorem EvP.sb {α β : Type} {g : Nat → α → Option β} {a : α} {R : β → Prop} (h : EvP (fun k => g k a) R) : EvP (fun k => (some a).bind (g k)) R := h
theorem EvP.pos {α : Type} {c : Prop} [Decidable c] {f g : Nat → Option α} {Q : α → Prop} (hc : c) (h : EvP f Q) : EvP (fun k => if c then f k else g k) Q := by
 obtain ⟨r, h, q⟩ := h
 exact ⟨r, h.pos hc, q⟩
theorem EvP.neg {α : Type} {c : Prop} [Decidable c] {f g : Nat → Option α} {Q : α → Prop} (hc : ¬ c) (h : EvP g Q) : EvP (fun k => if c then f k else g k) Q := by
 obtain ⟨r, h, q⟩ := h
 exact ⟨r, h.neg hc, q⟩
theorem EvP.ite {α : Type} {c : Prop} [Decidable c] {f g : Nat → Option α} {Q : α → Prop} (h1 : c → EvP f Q) (h2 : ¬ c → EvP g Q) : EvP (fun k => if c then f k else g k) Q :=
 if hc : c then EvP.pos hc (h1 hc) else EvP.neg hc (h2 hc)
theorem EvP.succ {α : Type} {f : Nat → Option α} {Q : α → Prop} (h : EvP (fun k => f (k + 1)) Q) : EvP f Q := by
 obtain ⟨r, h, q⟩ := h
 exact ⟨r, h.succ, q⟩
theorem EvP.of {α : Type} {f g : Nat → Option α} {Q : α → Prop} (h : EvP f Q) (e : ∀ k, g k = f k) : EvP g Q := by
 obtain ⟨r, h, q⟩ := h
 exact ⟨r, h.of e, q⟩
theorem EvP.mono {α : Type} {f : Nat → Option α} {Q R : α → Prop} (h : EvP f Q) (hq : ∀ a, Q a → R a) : EvP f R := by
 obtain ⟨r, h, q⟩ := h
 exact ⟨r, h, hq r q⟩
theorem Ev.p {α : Type} {f : Nat → Option α} {r : α} {Q : α → Prop} (h : Ev f r) (q : Q r) : EvP f Q := ⟨r, h, q⟩
theorem EvP.ev {α : Type} {f : Nat → Option α} {r : α} (h : EvP f (fun x => x = r)) : Ev f r := by
 obtain ⟨r, h, rfl⟩ := h
 exact h
theorem Ev.bindP {α β : Type} {f : Nat → Option α} {g : Nat → α → Option β} {a : α} {R : β → Prop} (h : Ev f a) (h2 : EvP (fun k => g k a) R) : EvP (fun k => (f k).bind (g k)) R := by
 obtain ⟨b, h2, q2⟩ := h2
 exact ⟨b, h.bind h2, q2⟩
theorem i64_xor_nat (a b : Nat) (ha : a < 4611686018427387904) (hb : b < 4611686018427387904) : bits .xor .i64 (a : Int) (b : Int) = ((a ^^^ b : Nat) : Int) := by
 have hx : a ^^^ b < 2 ^ 62 := Nat.xor_lt_two_pow (by omega) (by omega)
 have h1 : (BitVec.ofInt 64 (a : Int)).toNat = a := by
  rw [BitVec.ofInt_natCast, BitVec.toNat_ofNat]; exact Nat.mod_eq_of_lt (by omega)
 have h2 : (BitVec.ofInt 64 (b : Int)).toNat = b := by
  rw [BitVec.ofInt_natCast, BitVec.toNat_ofNat]; exact Nat.mod_eq_of_lt (by omega)
 show IntKind.i64.wrap ((BitVec.ofInt 64 (a : Int) ^^^ BitVec.ofInt 64 (b : Int)).toNat : Int) = _
 rw [BitVec.toNat_xor, h1, h2, IntKind.wrap_i64]
 omega
theorem i64_xor (a b : Int) (ha : 0 ≤ a) (ha2 : a < 4294967296) (hb : 0 ≤ b) (hb2 : b < 4294967296) : 0 ≤ bits .xor .i64 a b ∧ bits .xor .i64 a b < 4294967296 := by
 obtain ⟨m, rfl⟩ := Int.eq_ofNat_of_zero_le ha
 obtain ⟨n, rfl⟩ := Int.eq_ofNat_of_zero_le hb
 rw [i64_xor_nat m n (by omega) (by omega)]
 have hx : m ^^^ n < 2 ^ 32 := Nat.xor_lt_two_pow (by omega) (by omega)
 omega
theorem tmod_lt {a n : Int} (ha : 0 ≤ a) (hn : 0 < n) : 0 ≤ Int.tmod a n ∧ Int.tmod a n < n := by
 rw [Int.tmod_eq_emod_of_nonneg ha]
 exact ⟨Int.emod_nonneg _ (by omega), Int.emod_lt_of_pos _ hn⟩
theorem tdiv_le {a n : Int} (ha : 0 ≤ a) (hn : 0 < n) : 0 ≤ Int.tdiv a n ∧ Int.tdiv a n ≤ a := by
 rw [Int.tdiv_eq_ediv_of_nonneg ha]
 exact ⟨Int.ediv_nonneg ha (by omega), Int.ediv_le_self _ ha⟩
end Go.Proofs.YtnhkajanbfgbiaaDoor.Core
end
section
set_option linter.unusedVariables false
set_option linter.unusedSimpArgs false
namespace Go.Proofs.YtnhkajanbfgbiaaDoor.Core
open Go Go.RowKit Go.Shelf Go.Proofs.YtnhkajanbfgbiaaDoorW.PrintWords Go.Proofs.YtnhkajanbfgbiaaDoorW.PrintLast Go.Proofs.YtnhkajanbfgbiaaDoorW.PrintMore Go.Proofs.YtnhkajanbfgbiaaDoor.P
attribute [local go_sem] Oper.semAt_some wide_fn wide_depth
/-- The answer that some number of rounds gives. -/
noncomputable def lim {α : Type} (f : Nat → Option α) : Option α := open Classical in if h : ∃ k r, f k = some r then some h.choose_spec.choose else none
theorem lim_some {α : Type} {f : Nat → Option α} {r : α} (h : lim f = some r) : ∃ k, f k = some r := by
 unfold lim at h
 by_cases hh : ∃ k r, f k = some r
 ·rw [dif_pos hh] at h
  cases h
  exact ⟨_, hh.choose_spec.choose_spec⟩
 ·rw [dif_neg hh] at h; cases h
theorem lim_of {α : Type} {f : Nat → Option α} (hm : ∀ k, LeO (f k) (f (k + 1))) {k : Nat} {r : α} (h : f k = some r) : lim f = some r := by
 have hh : ∃ k r, f k = some r := ⟨k, r, h⟩
 have h2 := hh.choose_spec.choose_spec
 unfold lim
 rw [dif_pos hh]
 rcases Nat.le_total k hh.choose with hle | hle
 ·have := at_rounds hm hle h
  rw [h2] at this; exact this
 ·have := at_rounds hm hle h2
  rw [h] at this; exact this.symm
theorem mkQ (w : World) (base : Nat) (ok : Nat → Prop) (x : Tk) {v1 : Value} (g1 : (Kd.int .i64).Q 3 w base ok v1 x.f1) : k38.M w base ok x [.int .i64 x.f0, v1, .int .i64 x.f2, .int .i64 x.f3] :=
 ⟨[.int .i64 x.f0], [v1, .int .i64 x.f2, .int .i64 x.f3], rfl, rfl, ⟨[v1], [.int .i64 x.f2, .int .i64 x.f3], rfl, ⟨v1, rfl, g1⟩, ⟨[.int .i64 x.f2], [.int .i64 x.f3], rfl, rfl, rfl⟩⟩⟩
theorem S_put0 {W : World} {base gb n cap : Nat} {ok : Nat → Prop} {xs : List Tk} (h : Kd.S k38 38 W base ok (.slice (some ⟨gb, 0, none⟩) n cap) xs) (i : Int) (h0 : 0 ≤ i) (h1 : i < n) :
  (∃ u, W.cell? ⟨gb, i.toNat * 4, none⟩ = some (.int .i64 u)) ∧ W.frozen? ⟨gb, i.toNat * 4, none⟩ = false ∧ ∀ t : Int,
   Kd.S k38 38 (W.setCell ⟨gb, i.toNat * 4, none⟩ (.int .i64 t)) base ok (.slice (some ⟨gb, 0, none⟩) n cap) (xs.set i.toNat { rd_T38 xs i with f0 := t }) ∧ W.grownBy (W.setCell ⟨gb, i.toNat * 4, none⟩ (.int .i64 t)) (some gb) := by
 obtain ⟨oki, c, hcl, hM, hcc, hfr, hoki, hH⟩ := Kd.S_elem (Kd.S_mono (ok' := fun k => ok k ∧ ¬ False) h (fun k hk => ⟨hk, id⟩)) z38 i h0 h1
 obtain ⟨v1, rfl, g1⟩ := k38_openM hM
 refine ⟨⟨_, hcc 0 _ rfl⟩, hfr 0, fun t => ?_⟩
 exact Kd.S_seg (okg := fun _ => False) hH h0 h1 (seg := [.int .i64 t]) (j := 0) (show 0 + 1 ≤ 4 from by decide) (x' := { rd_T38 xs i with f0 := t }) (mkQ _ _ _ { rd_T38 xs i with f0 := t } g1) (fun k hk => .inl hk) (fun k hk => hk.elim)
theorem S_put2 {W : World} {base gb n cap : Nat} {ok : Nat → Prop} {xs : List Tk} (h : Kd.S k38 38 W base ok (.slice (some ⟨gb, 0, none⟩) n cap) xs) (i : Int) (h0 : 0 ≤ i) (h1 : i < n) :
  (∃ u, W.cell? ⟨gb, i.toNat * 4 + 2, none⟩ = some (.int .i64 u)) ∧ W.frozen? ⟨gb, i.toNat * 4 + 2, none⟩ = false ∧ ∀ t : Int,
   Kd.S k38 38 (W.setCell ⟨gb, i.toNat * 4 + 2, none⟩ (.int .i64 t)) base ok (.slice (some ⟨gb, 0, none⟩) n cap) (xs.set i.toNat { rd_T38 xs i with f2 := t }) ∧ W.grownBy (W.setCell ⟨gb, i.toNat * 4 + 2, none⟩ (.int .i64 t)) (some gb) := by
 obtain ⟨oki, c, hcl, hM, hcc, hfr, hoki, hH⟩ := Kd.S_elem (Kd.S_mono (ok' := fun k => ok k ∧ ¬ False) h (fun k hk => ⟨hk, id⟩)) z38 i h0 h1
 obtain ⟨v1, rfl, g1⟩ := k38_openM hM
 refine ⟨⟨_, hcc 2 _ rfl⟩, hfr 2, fun t => ?_⟩
 exact Kd.S_seg (okg := fun _ => False) hH h0 h1 (seg := [.int .i64 t]) (j := 2) (show 2 + 1 ≤ 4 from by decide) (x' := { rd_T38 xs i with f2 := t }) (mkQ _ _ _ { rd_T38 xs i with f2 := t } g1) (fun k hk => .inl hk) (fun k hk => hk.elim)
theorem S_put3 {W : World} {base gb n cap : Nat} {ok : Nat → Prop} {xs : List Tk} (h : Kd.S k38 38 W base ok (.slice (some ⟨gb, 0, none⟩) n cap) xs) (i : Int) (h0 : 0 ≤ i) (h1 : i < n) :
  (∃ u, W.cell? ⟨gb, i.toNat * 4 + 3, none⟩ = some (.int .i64 u)) ∧ W.frozen? ⟨gb, i.toNat * 4 + 3, none⟩ = false ∧ ∀ t : Int,
   Kd.S k38 38 (W.setCell ⟨gb, i.toNat * 4 + 3, none⟩ (.int .i64 t)) base ok (.slice (some ⟨gb, 0, none⟩) n cap) (xs.set i.toNat { rd_T38 xs i with f3 := t }) ∧ W.grownBy (W.setCell ⟨gb, i.toNat * 4 + 3, none⟩ (.int .i64 t)) (some gb) := by
 obtain ⟨oki, c, hcl, hM, hcc, hfr, hoki, hH⟩ := Kd.S_elem (Kd.S_mono (ok' := fun k => ok k ∧ ¬ False) h (fun k hk => ⟨hk, id⟩)) z38 i h0 h1
 obtain ⟨v1, rfl, g1⟩ := k38_openM hM
 refine ⟨⟨_, hcc 3 _ rfl⟩, hfr 3, fun t => ?_⟩
 exact Kd.S_seg (okg := fun _ => False) hH h0 h1 (seg := [.int .i64 t]) (j := 3) (show 3 + 1 ≤ 4 from by decide) (x' := { rd_T38 xs i with f3 := t }) (mkQ _ _ _ { rd_T38 xs i with f3 := t } g1) (fun k hk => .inl hk) (fun k hk => hk.elim)
def spec_anyGraph.fk (k : Nat) (s0 : List Int) (s1 : Int) : Option (List Tk × Int) :=
 (spec_someGraph.f k s0 s1 8).bind fun a =>
 if a.1.length = 0 then some (a.1, a.2) else
 (spec_reader_pick.f k s0 a.2 (a.1.length : Int)).bind fun p =>
 (spec_reader_pick.f k s0 p.2 24).bind fun q =>
 if ¬ (0 ≤ p.1 ∧ p.1 < (a.1.length : Int)) then none else
 if q.1 = 0 then (spec_reader_one.f k s0 q.2 [0, 21, 20]).bind fun t => some (a.1.set p.1.toNat { rd_T38 a.1 p.1 with f0 := t.1 }, t.2)
 else if q.1 = 1 then (spec_reader_pick.f k s0 q.2 (a.1.length : Int)).bind fun b =>
  if (rd_T38 a.1 p.1).f1.length < 1000 then (spec_reader_spoil.f k s0 b.2 ((rd_T38 a.1 p.1).f1 ++ [b.1]) 8).bind fun c => some (a.1.set p.1.toNat { rd_T38 a.1 p.1 with f1 := c.1 }, c.2) else none
 else if q.1 = 2 then (spec_reader_one.f k s0 q.2 [-1, 3]).bind fun t => some (a.1.set p.1.toNat { rd_T38 a.1 p.1 with f2 := t.1 }, t.2)
 else if q.1 = 3 then (spec_reader_one.f k s0 q.2 [0, 5]).bind fun t => some (a.1.set p.1.toNat { rd_T38 a.1 p.1 with f3 := t.1 }, t.2)
 else if q.1 = 4 then (spec_someGraph.f k s0 q.2 8).bind fun b => if a.1.length + b.1.length < 1000 then some (a.1 ++ b.1, b.2) else none
 else some (a.1, q.2)
theorem spec_anyGraph.mono : ∀ a0 a1 k, LeO (spec_anyGraph.fk k a0 a1) (spec_anyGraph.fk (k + 1) a0 a1) := by
 intro a0 a1 k
 unfold spec_anyGraph.fk
 repeat' first
   | (with_reducible exact spec_someGraph.mono _ _ _ _)
   | (with_reducible exact spec_reader_pick.mono _ _ _ _)
   | (with_reducible exact spec_reader_one.mono _ _ _ _)
   | (with_reducible exact spec_reader_spoil.mono _ _ _ _ _)
   | (with_reducible exact LeO.refl _)
   | (with_reducible exact LeO.none _)
   | (with_reducible refine LeO.ite ?_ ?_)
   | (with_reducible refine LeO.bind ?_ (fun _ => ?_))
   | exact LeO.none _
   | refine LeO.ite ?_ ?_
   | refine LeO.bind ?_ (fun _ => ?_)
/-- What anyGraph leaves. -/
def anyPost (w0 w : World) (g : Nat) (s0 : List Int) (r1 : List Tk) (r2 : Int) (e : Ending) (w' : World) : Prop :=
 ∃ v0_ : Value, e = .returned (v0_) ∧ Kd.S k38 38 w' w.heap.size (fun _ => True) v0_ r1 ∧ IsS79 w0 w' g s0 r2 ∧ Below w0.heap.size w0 w' ∧ KeepBut w w' g none
theorem R_lits {w : World} {b base t : Nat} {l : List Int} (h : w.heap[b]? = some (.cells (l.map (Value.int .i64)).toArray t (0, 0))) (hb : base ≤ b) (hl : l.length ≤ maxLen) : (Kd.int .i64).R t w base (fun _ => True) (.slice (some ⟨b, 0, none⟩) l.length l.length) l :=
 row_R (k := .i64) ⟨by simp, .inr ⟨b, l.length, _, rfl, hb, h, Nat.le_refl _, hl, by simp, by simp [List.take_of_length_le]⟩⟩
theorem C_lits {w : World} {b t : Nat} {l : List Int} (h : w.heap[b]? = some (.cells (l.map (Value.int .i64)).toArray t (0, 0))) (hl : l.length ≤ maxLen) : (Kd.int .i64).C w (some ⟨b, 0, none⟩) l.length l :=
 (Kd.R_reads' (R_lits (base := 0) h (Nat.zero_le _) hl)).2.2
set_option maxRecDepth 100000 in
set_option maxHeartbeats 4000000 in
theorem any_empty (k g : Nat) (s0 : List Int) (s1 : Int) (w0 w : World) (hI : IsS79 w0 w g s0 s1) (hB : Below w0.heap.size w0 w) (a2 : Int) (h1 : spec_someGraph.f k s0 s1 8 = some ([], a2)) : Calls Tryd.prog 46 #[.pointer (some ⟨g, 0, none⟩)] w (anyPost w0 w g s0  [] a2) := by
 have A1 := Aside0.mk h1
 clear h1
 obtain ⟨a, ha⟩ : ∃ a : List Tk, a = [] := ⟨_, rfl⟩
 rw [← ha] at A1
 have hlen : (a.length : Int) = 0 := by rw [ha]; rfl
 have HA := Aside0.mk ha
 clear ha
 have hz : ((a.length : Int) == 0) = true := by simp [hlen]
 have HL := Aside0.mk hlen
 clear hlen
 go_enter Tryd.func46, Tryd.ntmps46
 go_wp2_with (go_at_call 47; refine (spec_someGraph.calls k g s0 s1 8 a a2 w0 _ hI hB A1.out).mono ?_; rintro e w1 ⟨v1, rfl, hS1, hI1, hB1, hK1⟩; clear hI hB; obtain ⟨A, c, rfl⟩ := Kd.S_slice hS1)
 go_ret
 exact ⟨_, rfl, by rw [← HA.out]; exact hS1, hI1, hB1, hK1⟩
set_option maxRecDepth 100000 in
set_option maxHeartbeats 4000000 in
theorem any_same (k g : Nat) (s0 : List Int) (s1 : Int) (w0 w : World) (hI : IsS79 w0 w g s0 s1) (hB : Below w0.heap.size w0 w) (a : List Tk) (a2 p p2 q q2 : Int) (hpos : 0 < a.length) (hp0 : 0 ≤ p) (hp1 : p < (a.length : Int)) (h1 : spec_someGraph.f k s0 s1 8 = some (a, a2)) (h2 : spec_reader_pick.f k s0 a2 (a.length : Int) = some (p, p2)) (h3 : spec_reader_pick.f k s0 p2 24 = some (q, q2)) (hq : q ≠ 0 ∧ q ≠ 1 ∧ q ≠ 2 ∧ q ≠ 3 ∧ q ≠ 4) : Calls Tryd.prog 46 #[.pointer (some ⟨g, 0, none⟩)] w (anyPost w0 w g s0  a q2) := by
 have A1 := Aside0.mk h1
 have A2 := Aside0.mk h2
 have A3 := Aside0.mk h3
 clear h1 h2 h3
 have hz : ((a.length : Int) == 0) = false := beq_eq_false_iff_ne.2 (by omega)
 have hglt : g < w.heap.size := hI.lt
 have hq0 : (q == 0) = false := beq_eq_false_iff_ne.2 (by omega)
 have hq1 : (q == 1) = false := beq_eq_false_iff_ne.2 (by omega)
 have hq2 : (q == 2) = false := beq_eq_false_iff_ne.2 (by omega)
 have hq3 : (q == 3) = false := beq_eq_false_iff_ne.2 (by omega)
 have hq4 : (q == 4) = false := beq_eq_false_iff_ne.2 (by omega)
 go_enter Tryd.func46, Tryd.ntmps46
 go_wp2_with (first | (go_at_call 47; refine (spec_someGraph.calls k g s0 s1 8 a a2 w0 _ hI hB A1.out).mono ?_; rintro e w1 ⟨v1, rfl, hS1, hI1, hB1, hK1⟩; clear hI hB; obtain ⟨gb, cap, rfl, hgb, hgl, cells, hcells⟩ := Kd.S_form hS1 hpos) | (go_at_call 35; refine (spec_reader_pick.calls k g s0 a2 (a.length : Int) p p2 w0 _ hI1 hB1 A2.out).mono ?_; rintro e w2 ⟨rfl, hI2, hB2, hK2⟩; clear hI1 hB1) | (go_at_call 35; refine (spec_reader_pick.calls k g s0 p2 24 q q2 w0 _ hI2 hB2 A3.out).mono ?_; rintro e w3 ⟨rfl, hI3, hB3, hK3⟩; clear hI2 hB2))
 have hS3 : Kd.S k38 38 w3 w.heap.size (fun k => k ≠ g) (.slice (some ⟨gb, 0, none⟩) a.length cap) a := Kd.S_keep (Kd.S_keep (Kd.S_mono (Kd.S_bound hS1) (fun k hk => Nat.ne_of_gt (Nat.lt_of_lt_of_le hglt hk.2.1))) hK2 (fun k hk => hk)) hK3 (fun k hk => hk)
 have hK4 := (hK1.trans hK2 (.inl rfl)).trans hK3 (.inl rfl)
 clear hS1 hK1 hK2 hK3
 go_ret
 exact ⟨_, rfl, Kd.S_mono hS3 (fun _ _ => trivial), hI3, hB3, hK4⟩
set_option maxRecDepth 100000 in
set_option maxHeartbeats 4000000 in
theorem any_case0 (k g : Nat) (s0 : List Int) (s1 : Int) (w0 w : World) (hI : IsS79 w0 w g s0 s1) (hB : Below w0.heap.size w0 w) (a : List Tk) (a2 p p2 q q2 : Int) (hpos : 0 < a.length) (hp0 : 0 ≤ p) (hp1 : p < (a.length : Int)) (h1 : spec_someGraph.f k s0 s1 8 = some (a, a2)) (h2 : spec_reader_pick.f k s0 a2 (a.length : Int) = some (p, p2)) (h3 : spec_reader_pick.f k s0 p2 24 = some (q, q2)) (hq : q = 0) (t t2 : Int) (h4 : spec_reader_one.f k s0 q2 [0, 21, 20] = some (t, t2)) : Calls Tryd.prog 46 #[.pointer (some ⟨g, 0, none⟩)] w (anyPost w0 w g s0  (a.set p.toNat { rd_T38 a p with f0 := t }) t2) := by
 have A1 := Aside0.mk h1
 have A2 := Aside0.mk h2
 have A3 := Aside0.mk h3
 clear h1 h2 h3
 have hz : ((a.length : Int) == 0) = false := beq_eq_false_iff_ne.2 (by omega)
 have hglt : g < w.heap.size := hI.lt
 have A4 := Aside0.mk h4
 clear h4
 have hq0 : (q == 0) = true := by simp [hq]
 have hp0' := eq_true hp0
 have hp1' := eq_true hp1
 go_enter Tryd.func46, Tryd.ntmps46
 go_wp2_with (first | (go_at_call 47; refine (spec_someGraph.calls k g s0 s1 8 a a2 w0 _ hI hB A1.out).mono ?_; rintro e w1 ⟨v1, rfl, hS1, hI1, hB1, hK1⟩; clear hI hB; obtain ⟨gb, cap, rfl, hgb, hgl, cells, hcells⟩ := Kd.S_form hS1 hpos) | (go_at_call 35; refine (spec_reader_pick.calls k g s0 a2 (a.length : Int) p p2 w0 _ hI1 hB1 A2.out).mono ?_; rintro e w2 ⟨rfl, hI2, hB2, hK2⟩; clear hI1 hB1) | (go_at_call 35; refine (spec_reader_pick.calls k g s0 p2 24 q q2 w0 _ hI2 hB2 A3.out).mono ?_; rintro e w3 ⟨rfl, hI3, hB3, hK3⟩; clear hI2 hB2) | (go_at_call 48; have hS3 : Kd.S k38 38 w3 w.heap.size (fun k => k ≠ g) (.slice (some ⟨gb, 0, none⟩) a.length cap) a := Kd.S_keep (Kd.S_keep (Kd.S_mono (Kd.S_bound hS1) (fun k hk => Nat.ne_of_gt (Nat.lt_of_lt_of_le hglt hk.2.1))) hK2 (fun k hk => hk)) hK3 (fun k hk => hk); have hK4 := (hK1.trans hK2 (.inl rfl)).trans hK3 (.inl rfl); clear hS1 hK1 hK2 hK3; have hN4 := cells_new w3 (.cells #[.int .i64 0, .int .i64 21, .int .i64 20] 3); have hI4 := hI3.alloc (.cells #[.int .i64 0, .int .i64 21, .int .i64 20] 3); have hB4 := hB3.alloc hB3.size (.cells #[.int .i64 0, .int .i64 21, .int .i64 20] 3); have hS4 := Kd.S_alloc hS3 (.cells #[.int .i64 0, .int .i64 21, .int .i64 20] 3); have hK5 := keep_alloc hK4 (.cells #[.int .i64 0, .int .i64 21, .int .i64 20] 3); have hsz := hI3.lt; refine (spec_reader_one.calls k g s0 q2 _ _ [0, 21, 20] t t2 w0 _ hI4 hB4 (C_lits (l := [0, 21, 20]) hN4 (by decide)) (by decide) (fun ad e _ => by cases e; show w3.heap.size ≠ g; omega) A4.out).mono ?_; rintro e w5 ⟨rfl, hI5, hB5, hK6⟩; have hS5 := Kd.S_keep hS4 hK6 (fun k hk => hk); obtain ⟨⟨u, hcu⟩, hfu, hput⟩ := S_put0 hS5 p hp0 hp1; have hK7 := hK5.trans hK6 (.inl rfl); have HPUT := Aside0.mk hput; have hI6 := Aside0.mk hI5; clear hS4 hS3 hI3 hB3 hK4 hI4 hB4 hN4 hK5 hK6 hput hI5))
 go_ret
 obtain ⟨hS6, hg6⟩ := HPUT.out t
 exact ⟨_, rfl, Kd.S_mono hS6 (fun _ _ => trivial), hI6.out.grown hg6 (fun e => by injection e with e; omega), below_put hg6 hB5 (Nat.le_refl _) (by have := hI6.out.ge; omega), hK7.trans (KeepBut.of_grown hg6 g) (.inr ⟨gb, rfl, hgb⟩)⟩
set_option maxRecDepth 100000 in
set_option maxHeartbeats 4000000 in
theorem any_case2 (k g : Nat) (s0 : List Int) (s1 : Int) (w0 w : World) (hI : IsS79 w0 w g s0 s1) (hB : Below w0.heap.size w0 w) (a : List Tk) (a2 p p2 q q2 : Int) (hpos : 0 < a.length) (hp0 : 0 ≤ p) (hp1 : p < (a.length : Int)) (h1 : spec_someGraph.f k s0 s1 8 = some (a, a2)) (h2 : spec_reader_pick.f k s0 a2 (a.length : Int) = some (p, p2)) (h3 : spec_reader_pick.f k s0 p2 24 = some (q, q2)) (hq : q = 2) (t t2 : Int) (h4 : spec_reader_one.f k s0 q2 [-1, 3] = some (t, t2)) : Calls Tryd.prog 46 #[.pointer (some ⟨g, 0, none⟩)] w (anyPost w0 w g s0  (a.set p.toNat { rd_T38 a p with f2 := t }) t2) := by
 have A1 := Aside0.mk h1
 have A2 := Aside0.mk h2
 have A3 := Aside0.mk h3
 clear h1 h2 h3
 have hz : ((a.length : Int) == 0) = false := beq_eq_false_iff_ne.2 (by omega)
 have hglt : g < w.heap.size := hI.lt
 have A4 := Aside0.mk h4
 clear h4
 have hq0 : (q == 0) = false := beq_eq_false_iff_ne.2 (by omega)
 have hq1 : (q == 1) = false := beq_eq_false_iff_ne.2 (by omega)
 have hq2 : (q == 2) = true := by simp [hq]
 have hp0' := eq_true hp0
 have hp1' := eq_true hp1
 go_enter Tryd.func46, Tryd.ntmps46
 go_wp2_with (first | (go_at_call 47; refine (spec_someGraph.calls k g s0 s1 8 a a2 w0 _ hI hB A1.out).mono ?_; rintro e w1 ⟨v1, rfl, hS1, hI1, hB1, hK1⟩; clear hI hB; obtain ⟨gb, cap, rfl, hgb, hgl, cells, hcells⟩ := Kd.S_form hS1 hpos) | (go_at_call 35; refine (spec_reader_pick.calls k g s0 a2 (a.length : Int) p p2 w0 _ hI1 hB1 A2.out).mono ?_; rintro e w2 ⟨rfl, hI2, hB2, hK2⟩; clear hI1 hB1) | (go_at_call 35; refine (spec_reader_pick.calls k g s0 p2 24 q q2 w0 _ hI2 hB2 A3.out).mono ?_; rintro e w3 ⟨rfl, hI3, hB3, hK3⟩; clear hI2 hB2) | (go_at_call 48; have hS3 : Kd.S k38 38 w3 w.heap.size (fun k => k ≠ g) (.slice (some ⟨gb, 0, none⟩) a.length cap) a := Kd.S_keep (Kd.S_keep (Kd.S_mono (Kd.S_bound hS1) (fun k hk => Nat.ne_of_gt (Nat.lt_of_lt_of_le hglt hk.2.1))) hK2 (fun k hk => hk)) hK3 (fun k hk => hk); have hK4 := (hK1.trans hK2 (.inl rfl)).trans hK3 (.inl rfl); clear hS1 hK1 hK2 hK3; have hN4 := cells_new w3 (.cells #[.int .i64 (-1), .int .i64 3] 3); have hI4 := hI3.alloc (.cells #[.int .i64 (-1), .int .i64 3] 3); have hB4 := hB3.alloc hB3.size (.cells #[.int .i64 (-1), .int .i64 3] 3); have hS4 := Kd.S_alloc hS3 (.cells #[.int .i64 (-1), .int .i64 3] 3); have hK5 := keep_alloc hK4 (.cells #[.int .i64 (-1), .int .i64 3] 3); have hsz := hI3.lt; refine (spec_reader_one.calls k g s0 q2 _ _ [-1, 3] t t2 w0 _ hI4 hB4 (C_lits (l := [-1, 3]) hN4 (by decide)) (by decide) (fun ad e _ => by cases e; show w3.heap.size ≠ g; omega) A4.out).mono ?_; rintro e w5 ⟨rfl, hI5, hB5, hK6⟩; have hS5 := Kd.S_keep hS4 hK6 (fun k hk => hk); obtain ⟨⟨u, hcu⟩, hfu, hput⟩ := S_put2 hS5 p hp0 hp1; have hK7 := hK5.trans hK6 (.inl rfl); have HPUT := Aside0.mk hput; have hI6 := Aside0.mk hI5; clear hS4 hS3 hI3 hB3 hK4 hI4 hB4 hN4 hK5 hK6 hput hI5))
 go_ret
 obtain ⟨hS6, hg6⟩ := HPUT.out t
 exact ⟨_, rfl, Kd.S_mono hS6 (fun _ _ => trivial), hI6.out.grown hg6 (fun e => by injection e with e; omega), below_put hg6 hB5 (Nat.le_refl _) (by have := hI6.out.ge; omega), hK7.trans (KeepBut.of_grown hg6 g) (.inr ⟨gb, rfl, hgb⟩)⟩
set_option maxRecDepth 100000 in
set_option maxHeartbeats 4000000 in
theorem any_case3 (k g : Nat) (s0 : List Int) (s1 : Int) (w0 w : World) (hI : IsS79 w0 w g s0 s1) (hB : Below w0.heap.size w0 w) (a : List Tk) (a2 p p2 q q2 : Int) (hpos : 0 < a.length) (hp0 : 0 ≤ p) (hp1 : p < (a.length : Int)) (h1 : spec_someGraph.f k s0 s1 8 = some (a, a2)) (h2 : spec_reader_pick.f k s0 a2 (a.length : Int) = some (p, p2)) (h3 : spec_reader_pick.f k s0 p2 24 = some (q, q2)) (hq : q = 3) (t t2 : Int) (h4 : spec_reader_one.f k s0 q2 [0, 5] = some (t, t2)) : Calls Tryd.prog 46 #[.pointer (some ⟨g, 0, none⟩)] w (anyPost w0 w g s0  (a.set p.toNat { rd_T38 a p with f3 := t }) t2) := by
 have A1 := Aside0.mk h1
 have A2 := Aside0.mk h2
 have A3 := Aside0.mk h3
 clear h1 h2 h3
 have hz : ((a.length : Int) == 0) = false := beq_eq_false_iff_ne.2 (by omega)
 have hglt : g < w.heap.size := hI.lt
 have A4 := Aside0.mk h4
 clear h4
 have hq0 : (q == 0) = false := beq_eq_false_iff_ne.2 (by omega)
 have hq1 : (q == 1) = false := beq_eq_false_iff_ne.2 (by omega)
 have hq2 : (q == 2) = false := beq_eq_false_iff_ne.2 (by omega)
 have hq3 : (q == 3) = true := by simp [hq]
 have hp0' := eq_true hp0
 have hp1' := eq_true hp1
 go_enter Tryd.func46, Tryd.ntmps46
 go_wp2_with (first | (go_at_call 47; refine (spec_someGraph.calls k g s0 s1 8 a a2 w0 _ hI hB A1.out).mono ?_; rintro e w1 ⟨v1, rfl, hS1, hI1, hB1, hK1⟩; clear hI hB; obtain ⟨gb, cap, rfl, hgb, hgl, cells, hcells⟩ := Kd.S_form hS1 hpos) | (go_at_call 35; refine (spec_reader_pick.calls k g s0 a2 (a.length : Int) p p2 w0 _ hI1 hB1 A2.out).mono ?_; rintro e w2 ⟨rfl, hI2, hB2, hK2⟩; clear hI1 hB1) | (go_at_call 35; refine (spec_reader_pick.calls k g s0 p2 24 q q2 w0 _ hI2 hB2 A3.out).mono ?_; rintro e w3 ⟨rfl, hI3, hB3, hK3⟩; clear hI2 hB2) | (go_at_call 48; have hS3 : Kd.S k38 38 w3 w.heap.size (fun k => k ≠ g) (.slice (some ⟨gb, 0, none⟩) a.length cap) a := Kd.S_keep (Kd.S_keep (Kd.S_mono (Kd.S_bound hS1) (fun k hk => Nat.ne_of_gt (Nat.lt_of_lt_of_le hglt hk.2.1))) hK2 (fun k hk => hk)) hK3 (fun k hk => hk); have hK4 := (hK1.trans hK2 (.inl rfl)).trans hK3 (.inl rfl); clear hS1 hK1 hK2 hK3; have hN4 := cells_new w3 (.cells #[.int .i64 0, .int .i64 5] 3); have hI4 := hI3.alloc (.cells #[.int .i64 0, .int .i64 5] 3); have hB4 := hB3.alloc hB3.size (.cells #[.int .i64 0, .int .i64 5] 3); have hS4 := Kd.S_alloc hS3 (.cells #[.int .i64 0, .int .i64 5] 3); have hK5 := keep_alloc hK4 (.cells #[.int .i64 0, .int .i64 5] 3); have hsz := hI3.lt; refine (spec_reader_one.calls k g s0 q2 _ _ [0, 5] t t2 w0 _ hI4 hB4 (C_lits (l := [0, 5]) hN4 (by decide)) (by decide) (fun ad e _ => by cases e; show w3.heap.size ≠ g; omega) A4.out).mono ?_; rintro e w5 ⟨rfl, hI5, hB5, hK6⟩; have hS5 := Kd.S_keep hS4 hK6 (fun k hk => hk); obtain ⟨⟨u, hcu⟩, hfu, hput⟩ := S_put3 hS5 p hp0 hp1; have hK7 := hK5.trans hK6 (.inl rfl); have HPUT := Aside0.mk hput; have hI6 := Aside0.mk hI5; clear hS4 hS3 hI3 hB3 hK4 hI4 hB4 hN4 hK5 hK6 hput hI5))
 go_ret
 obtain ⟨hS6, hg6⟩ := HPUT.out t
 exact ⟨_, rfl, Kd.S_mono hS6 (fun _ _ => trivial), hI6.out.grown hg6 (fun e => by injection e with e; omega), below_put hg6 hB5 (Nat.le_refl _) (by have := hI6.out.ge; omega), hK7.trans (KeepBut.of_grown hg6 g) (.inr ⟨gb, rfl, hgb⟩)⟩
theorem infoTask : (Tryd.prog.info? 38).map (fun i => (i.zero, i.size, i.bytes)) = some (some (.agg #[.int .i64 0, .slice none 0 0, .int .i64 0, .int .i64 0]), 4, 48) := by kernel_rfl
theorem zip_app (xs ys : List Tk) : (xs ++ ys).zipIdx = xs.zipIdx ++ ys.zipIdx xs.length := by rw [List.zipIdx_append]; simp
/-- Two rows' elements behind each other: the owners of the second one's rows are told anew. -/
theorem S_two {W : World} {b1 N : Nat} {ok : Nat → Prop} {v v2 : Value} {xs ys : List Tk} (h1 : Kd.S k38 38 W b1 (fun k => ok k ∧ k < N) v xs) (h2 : Kd.S k38 38 W N (fun _ => True) v2 ys) (hb : b1 ≤ N) :
  ∃ f A c, v2 = .slice A ys.length c ∧ (Kd.tag f k38).R 38 W b1 (fun k => ok k ∧ k < N) v xs.zipIdx ∧ ReadsRow ((Kd.tag f k38).M W b1 (fun k => N ≤ k)) 4 W A ys.length (ys.zipIdx xs.length) := by
 obtain ⟨f1, hf1⟩ := h1
 obtain ⟨f2, hf2⟩ := h2
 refine ⟨fun k => if k < N then f1 k else f2 k + xs.length, ?_⟩
 have hR2 := Kd.R_bound hf2
 obtain ⟨A, c, rfl, hl, hr⟩ := OwnRow.reads hR2.2
 rw [List.length_zipIdx] at hr
 refine ⟨A, c, by rw [List.length_zipIdx], Kd.R_tag hf1 (fun k hk _ => if_pos hk.2), by simp, hr.2.1, fun hn => ?_⟩
 obtain ⟨ad, e, hc⟩ := hr.2.2 hn
 refine ⟨ad, e, fun j p hj => ?_⟩
 rw [List.getElem?_zipIdx] at hj
 obtain ⟨x, hx, rfl⟩ := Option.map_eq_some_iff.1 hj
 obtain ⟨cs, h3, h4, h5⟩ := hc j (x, j) (by rw [List.getElem?_zipIdx, hx]; simp)
 refine ⟨cs, h3, ?_, h5⟩
 refine Kd.M_lower k38 hb (Kd.M_mono k38 (fun k hk => ?_) h4)
 have hk1 := hk.1.1.2.1
 have hk2 : f2 k = j := hk.2
 refine ⟨hk1, ?_⟩
 show (if k < N then f1 k else f2 k + xs.length) = xs.length + j
 rw [if_neg (by omega), hk2]
 omega
set_option maxRecDepth 100000 in
set_option maxHeartbeats 4000000 in
theorem any_case4 (k g : Nat) (s0 : List Int) (s1 : Int) (w0 w : World) (hI : IsS79 w0 w g s0 s1) (hB : Below w0.heap.size w0 w) (a : List Tk) (a2 p p2 q q2 : Int) (hpos : 0 < a.length) (hp0 : 0 ≤ p) (hp1 : p < (a.length : Int)) (h1 : spec_someGraph.f k s0 s1 8 = some (a, a2)) (h2 : spec_reader_pick.f k s0 a2 (a.length : Int) = some (p, p2)) (h3 : spec_reader_pick.f k s0 p2 24 = some (q, q2)) (hq : q = 4) (c : List Tk) (c2 : Int) (hlen : a.length + c.length < 1000) (h4 : spec_someGraph.f k s0 q2 8 = some (c, c2)) : Calls Tryd.prog 46 #[.pointer (some ⟨g, 0, none⟩)] w (anyPost w0 w g s0  (a ++ c) c2) := by
 have A1 := Aside0.mk h1
 have A2 := Aside0.mk h2
 have A3 := Aside0.mk h3
 clear h1 h2 h3
 have hz : ((a.length : Int) == 0) = false := beq_eq_false_iff_ne.2 (by omega)
 have hglt : g < w.heap.size := hI.lt
 have A4 := Aside0.mk h4
 clear h4
 have hq0 : (q == 0) = false := beq_eq_false_iff_ne.2 (by omega)
 have hq1 : (q == 1) = false := beq_eq_false_iff_ne.2 (by omega)
 have hq2 : (q == 2) = false := beq_eq_false_iff_ne.2 (by omega)
 have hq3 : (q == 3) = false := beq_eq_false_iff_ne.2 (by omega)
 have hq4 : (q == 4) = true := by simp [hq]
 go_enter Tryd.func46, Tryd.ntmps46
 go_wp2_with (first | (go_at_call 47; refine (spec_someGraph.calls k g s0 s1 8 a a2 w0 _ hI hB A1.out).mono ?_; rintro e w1 ⟨v1, rfl, hS1, hI1, hB1, hK1⟩; clear hI hB; obtain ⟨gb, cap, rfl, hgb, hgl, cells, hcells⟩ := Kd.S_form hS1 hpos) | (go_at_call 35; refine (spec_reader_pick.calls k g s0 a2 (a.length : Int) p p2 w0 _ hI1 hB1 A2.out).mono ?_; rintro e w2 ⟨rfl, hI2, hB2, hK2⟩; clear hI1 hB1) | (go_at_call 35; refine (spec_reader_pick.calls k g s0 p2 24 q q2 w0 _ hI2 hB2 A3.out).mono ?_; rintro e w3 ⟨rfl, hI3, hB3, hK3⟩; clear hI2 hB2) | (go_at_call 47; have hS3 : Kd.S k38 38 w3 w.heap.size (fun k => k ≠ g) (.slice (some ⟨gb, 0, none⟩) a.length cap) a := Kd.S_keep (Kd.S_keep (Kd.S_mono (Kd.S_bound hS1) (fun k hk => Nat.ne_of_gt (Nat.lt_of_lt_of_le hglt hk.2.1))) hK2 (fun k hk => hk)) hK3 (fun k hk => hk); have hK4 := (hK1.trans hK2 (.inl rfl)).trans hK3 (.inl rfl); clear hS1 hK1 hK2 hK3; have HGL3 := Aside0.mk hI3.lt; have HGB3 := Aside0.mk (Kd.S_lt hS3 gb (by simp [Value.ownBlock])); have hK4s := hK4.1; refine (spec_someGraph.calls k g s0 q2 8 c c2 w0 _ hI3 hB3 A4.out).mono ?_; rintro e w5 ⟨v2, rfl, hS5, hI5, hB5, hK5⟩; have hS4 : Kd.S k38 38 w5 w.heap.size (fun k => k ≠ g ∧ k < w3.heap.size) _ a := Kd.S_keep (Kd.S_mono (Kd.S_bound hS3) (fun k hk => ⟨hk.1, hk.2.2.1⟩)) hK5 (fun k hk => hk.1); obtain ⟨f, A, cc, rfl, hR6, hRR⟩ := S_two hS4 hS5 hK4s; have hK6 := hK4.trans hK5 (.inl rfl); have HR6 := Aside0.mk hR6; have HRR := Aside0.mk hRR; have HI5 := Aside0.mk hI5; have HB5 := Aside0.mk hB5; have HK6 := Aside0.mk hK6; have HLE := Aside0.mk hK5.1; clear hS3 hS4 hS5 hI3 hB3 hK4 hK5 hR6 hRR hI5 hB5 hK6 hK4s) | ((with_reducible refine gate_builtin (b := .append) (xs := #[.tmp 65, .tmp 67]) rfl ?_); go_loud (at_builtin; have hgb3 : gb < w3.heap.size := HGB3.out; have hle5 : w.heap.size ≤ w5.heap.size := HK6.out.1; refine Kd.R_append_rows (Kd.tag f k38) (w0 := w5) w.heap.size rfl (.tmp 65) (.tmp 67) 26 38 (.agg #[.int .i64 0, .slice none 0 0, .int .i64 0, .int .i64 0]) 48 rfl Tryd.underlying26 infoTask rfl (show 0 < 4 from by decide) (by decide) (.slice (some ⟨gb, 0, none⟩) a.length cap) a.zipIdx (c.zipIdx a.length) A c.length cc (fun k => k ≠ g) (fun k => w3.heap.size ≤ k) rfl rfl (Kd.R_mono HR6.out (fun _ hk => hk.1)) HRR.out (fun _ _ h => h) (fun k (hk : w3.heap.size ≤ k) => ⟨Nat.ne_of_gt (Nat.lt_of_lt_of_le HGL3.out hk), fun e => by have e2 : k = gb := (by simpa [Value.ownBlock] using e); omega⟩) (fun k hk => Nat.ne_of_gt (Nat.lt_of_lt_of_le HI5.out.lt hk)) (Below.refl _ _) hle5 (by simp; omega) ?_; intro v6 w6 ho hb hg hat)))
 go_ret
 have hS6 : Kd.S k38 38 w6 w.heap.size (fun k => k ≠ g) v6 (a ++ c) := ⟨f, by rw [zip_app]; exact ho⟩
 have hg' : w5.grownBy w6 (some gb) := by simpa [Value.ownBlock] using hg
 have hI6 := HI5.out.grown hg' (fun e => by injection e with e; omega)
 exact ⟨_, rfl, Kd.S_mono hS6 (fun _ _ => trivial), hI6, below_put hg' HB5.out (Nat.le_refl _) (by have := HI5.out.ge; omega), HK6.out.trans (KeepBut.of_grown hg' g) (.inr ⟨gb, rfl, hgb⟩)⟩
theorem infoInt_ : (Tryd.prog.info? 3).map (fun i => (i.zero, i.size, i.bytes)) = some (some (.int .i64 0), 1, 8) := by kernel_rfl
set_option maxRecDepth 100000 in
set_option maxHeartbeats 4000000 in
theorem any_case1 (k g : Nat) (s0 : List Int) (s1 : Int) (w0 w : World) (hI : IsS79 w0 w g s0 s1) (hB : Below w0.heap.size w0 w) (a : List Tk) (a2 p p2 q q2 : Int) (hpos : 0 < a.length) (hp0 : 0 ≤ p) (hp1 : p < (a.length : Int)) (h1 : spec_someGraph.f k s0 s1 8 = some (a, a2)) (h2 : spec_reader_pick.f k s0 a2 (a.length : Int) = some (p, p2)) (h3 : spec_reader_pick.f k s0 p2 24 = some (q, q2)) (hq : q = 1) (b b2 : Int) (r : List Int) (r2 : Int) (h4 : spec_reader_pick.f k s0 q2 (a.length : Int) = some (b, b2)) (hlen : (rd_T38 a p).f1.length < 1000) (h5 : spec_reader_spoil.f k s0 b2 ((rd_T38 a p).f1 ++ [b]) 8 = some (r, r2)) : Calls Tryd.prog 46 #[.pointer (some ⟨g, 0, none⟩)] w (anyPost w0 w g s0  (a.set p.toNat { rd_T38 a p with f1 := r }) r2) := by
 have A1 := Aside0.mk h1
 have A2 := Aside0.mk h2
 have A3 := Aside0.mk h3
 clear h1 h2 h3
 have hz : ((a.length : Int) == 0) = false := beq_eq_false_iff_ne.2 (by omega)
 have hglt : g < w.heap.size := hI.lt
 have A4 := Aside0.mk h4
 have A5 := Aside0.mk h5
 clear h4 h5
 have hq0 : (q == 0) = false := beq_eq_false_iff_ne.2 (by omega)
 have hq1 : (q == 1) = true := by simp [hq]
 go_enter Tryd.func46, Tryd.ntmps46
 go_wp2_with (first | (go_at_call 47; refine (spec_someGraph.calls k g s0 s1 8 a a2 w0 _ hI hB A1.out).mono ?_; rintro e w1 ⟨v1, rfl, hS1, hI1, hB1, hK1⟩; clear hI hB; obtain ⟨gb, cap, rfl, hgb, hgl, cells, hcells⟩ := Kd.S_form hS1 hpos) | (go_at_call 35; refine (spec_reader_pick.calls k g s0 a2 (a.length : Int) p p2 w0 _ hI1 hB1 A2.out).mono ?_; rintro e w2 ⟨rfl, hI2, hB2, hK2⟩; clear hI1 hB1) | (go_at_call 35; refine (spec_reader_pick.calls k g s0 p2 24 q q2 w0 _ hI2 hB2 A3.out).mono ?_; rintro e w3 ⟨rfl, hI3, hB3, hK3⟩; clear hI2 hB2))
 have hS3 : Kd.S k38 38 w3 w.heap.size (fun k => k ≠ g) (.slice (some ⟨gb, 0, none⟩) a.length cap) a := Kd.S_keep (Kd.S_keep (Kd.S_mono (Kd.S_bound hS1) (fun k hk => Nat.ne_of_gt (Nat.lt_of_lt_of_le hglt hk.2.1))) hK2 (fun k hk => hk)) hK3 (fun k hk => hk)
 have hK4 := (hK1.trans hK2 (.inl rfl)).trans hK3 (.inl rfl)
 clear hS1 hK1 hK2 hK3
 have hp0' := eq_true hp0
 have hp1' := eq_true hp1
 have hS3b : Kd.S k38 38 w3 w.heap.size (fun k => k ≠ g ∧ k < w3.heap.size) (.slice (some ⟨gb, 0, none⟩) a.length cap) a := Kd.S_mono (Kd.S_bound hS3) (fun k hk => ⟨hk.1, hk.2.2.1⟩)
 obtain ⟨oki, c, hcl, hM, hcc, hfr, hoki, hH⟩ := Kd.S_elem hS3b z38 p hp0 hp1
 obtain ⟨v4, rfl, g4⟩ := k38_openM hM
 clear hS3b
 have hx1 : w3.cell? ⟨gb, p.toNat * 4 + 1, none⟩ = some v4 := hcc 1 _ rfl
 have hgb3 : gb < w3.heap.size := Kd.S_lt hS3 gb (by simp [Value.ownBlock])
 clear hcc hfr hM hcl hS3
 have hI4 : IsS79 w0 w3.drew g s0 q2 := hI3.drew
 have hB4 : Below w0.heap.size w0 w3.drew := below_drew1 hB3
 have hK4' : KeepBut w w3.drew g none := keep_drew hK4
 have hH4 := Kd.H_drew hH
 have g4' := Kd.Q_drew g4
 have hsz4 : w3.drew.heap.size = w3.heap.size := rfl
 have hd4 : Below w3.heap.size w3 w3.drew := below_drew (Below.refl _ _)
 refine start_ (n := 18) (S := fun w' => w'.cell? ⟨gb, p.toNat * 4 + 1, none⟩ = some v4) (ds := [13, 14, 15, 16, 17]) #[F5q,F5q,F5q,F5q,F5q,F5q,F5q,F5q,F5q,F5q,F5q,F5q,F5q,F5q,F5q,F5q,F5q,F5q] rfl (by kernel_rfl) rfl ((hd4.cell hgb3).trans hx1) (fun hHeld => ?_)
 revert hI4 hB4 hK4' hH4 g4' hsz4 hHeld
 generalize w3.drew = w4
 intro hI4 hB4 hK4' hH4 g4' hsz4 hHeld
 clear hI3 hB3 hK4 hH g4 hx1 hd4
 refine pure_ (i := 0) (N := some 28) (v := ?_) (a' := ?_) #[T5q,F5q,F5q,F5q,F5q,F5q,F5q,F5q,F5q,F5q,F5q,F5q,F5q,F5q,F5q,F5q,F5q,F5q] rfl rfl (by kernel_rfl) (fun _ _ _ h => h) (Or.inl ⟨by rfl, ?_⟩) ?_ ?_
 rotate_left
 ·intro w'
  go_simp
  with_reducible rfl
 rotate_left
 ·simp only [Act.put, List.setIfInBounds_toArray, List.set_cons_zero, List.set_cons_succ, i64_w, i32_w]
  rfl
 refine pure_ (i := 1) (N := some 29) (v := ?_) (a' := ?_) #[T5q,T5q,F5q,F5q,F5q,F5q,F5q,F5q,F5q,F5q,F5q,F5q,F5q,F5q,F5q,F5q,F5q,F5q] rfl rfl (by kernel_rfl) (fun _ _ _ h => h) (Or.inl ⟨by rfl, ?_⟩) ?_ ?_
 rotate_left
 ·intro w'
  go_simp
  with_reducible rfl
 rotate_left
 ·simp only [Act.put, List.setIfInBounds_toArray, List.set_cons_zero, List.set_cons_succ, i64_w, i32_w]
  rfl
 refine pure_ (i := 2) (N := some 30) (v := ?_) (a' := ?_) #[T5q,T5q,T5q,F5q,F5q,F5q,F5q,F5q,F5q,F5q,F5q,F5q,F5q,F5q,F5q,F5q,F5q,F5q] rfl rfl (by kernel_rfl) (fun _ _ _ h => h) (Or.inl ⟨by rfl, ?_⟩) ?_ ?_
 rotate_left
 ·intro w'
  go_simp
  with_reducible rfl
 rotate_left
 ·simp only [Act.put, List.setIfInBounds_toArray, List.set_cons_zero, List.set_cons_succ, i64_w, i32_w]
  rfl
 refine pure_ (i := 3) (N := some 31) (v := ?_) (a' := ?_) #[T5q,T5q,T5q,T5q,F5q,F5q,F5q,F5q,F5q,F5q,F5q,F5q,F5q,F5q,F5q,F5q,F5q,F5q] rfl rfl (by kernel_rfl) (fun _ _ _ h => h) (Or.inl ⟨by rfl, ?_⟩) ?_ ?_
 rotate_left
 ·intro w'
  go_simp
  with_reducible rfl
 rotate_left
 ·simp only [Act.put, List.setIfInBounds_toArray, List.set_cons_zero, List.set_cons_succ, i64_w, i32_w]
  rfl
 refine pure_ (i := 4) (N := some 32) (v := ?_) (a' := ?_) #[T5q,T5q,T5q,T5q,T5q,F5q,F5q,F5q,F5q,F5q,F5q,F5q,F5q,F5q,F5q,F5q,F5q,F5q] rfl rfl (by kernel_rfl) (fun _ _ _ h => h) (Or.inl ⟨by rfl, ?_⟩) ?_ ?_
 rotate_left
 ·intro w'
  go_simp
  with_reducible rfl
 rotate_left
 ·simp only [Act.put, List.setIfInBounds_toArray, List.set_cons_zero, List.set_cons_succ, i64_w, i32_w]
  rfl
 refine pure_ (i := 5) (N := some 33) (v := ?_) (a' := ?_) #[T5q,T5q,T5q,T5q,T5q,T5q,F5q,F5q,F5q,F5q,F5q,F5q,F5q,F5q,F5q,F5q,F5q,F5q] rfl rfl (by kernel_rfl) (fun _ _ _ h => h) (Or.inl ⟨by rfl, ?_⟩) ?_ ?_
 rotate_left
 ·intro w'
  go_simp
  with_reducible rfl
 rotate_left
 ·simp only [Act.put, List.setIfInBounds_toArray, List.set_cons_zero, List.set_cons_succ, i64_w, i32_w]
  rfl
 refine pure_ (i := 6) (N := some 34) (v := ?_) (a' := ?_) #[T5q,T5q,T5q,T5q,T5q,T5q,T5q,F5q,F5q,F5q,F5q,F5q,F5q,F5q,F5q,F5q,F5q,F5q] rfl rfl (by kernel_rfl) (fun _ _ _ h => h) (Or.inl ⟨by rfl, ?_⟩) ?_ ?_
 rotate_left
 ·intro w'
  go_simp
  with_reducible rfl
 rotate_left
 ·simp only [Act.put, List.setIfInBounds_toArray, List.set_cons_zero, List.set_cons_succ, i64_w, i32_w]
  rfl
 refine take_ (i := 7) (N := some 35) (v := ?_) (a' := ?_) #[T5q,T5q,T5q,T5q,T5q,T5q,T5q,T5q,F5q,F5q,F5q,F5q,F5q,F5q,F5q,F5q,F5q,F5q] rfl rfl (by kernel_rfl) (fun _ _ _ h => h) (Or.inl ⟨by rfl, ?_⟩) hHeld ?_ ?_
 rotate_left
 ·rintro w' hc
  go_simp
  with_reducible rfl
 rotate_left
 ·simp only [Act.put, List.setIfInBounds_toArray, List.set_cons_zero, List.set_cons_succ, i64_w, i32_w]
  rfl
 refine pure_ (i := 8) (N := some 36) (v := ?_) (a' := ?_) #[T5q,T5q,T5q,T5q,T5q,T5q,T5q,T5q,T5q,F5q,F5q,F5q,F5q,F5q,F5q,F5q,F5q,F5q] rfl rfl (by kernel_rfl) (fun _ _ _ h => h) (Or.inl ⟨by rfl, ?_⟩) ?_ ?_
 rotate_left
 ·intro w'
  go_simp
  with_reducible rfl
 rotate_left
 ·simp only [Act.put, List.setIfInBounds_toArray, List.set_cons_zero, List.set_cons_succ, i64_w, i32_w]
  rfl
 refine pure_ (i := 9) (N := some 37) (v := ?_) (a' := ?_) #[T5q,T5q,T5q,T5q,T5q,T5q,T5q,T5q,T5q,T5q,F5q,F5q,F5q,F5q,F5q,F5q,F5q,F5q] rfl rfl (by kernel_rfl) (fun _ _ _ h => h) (Or.inl ⟨by rfl, ?_⟩) ?_ ?_
 rotate_left
 ·intro w'
  go_simp
  with_reducible rfl
 rotate_left
 ·simp only [Act.put, List.setIfInBounds_toArray, List.set_cons_zero, List.set_cons_succ, i64_w, i32_w]
  rfl
 refine pure_ (i := 10) (N := some 38) (v := ?_) (a' := ?_) #[T5q,T5q,T5q,T5q,T5q,T5q,T5q,T5q,T5q,T5q,T5q,F5q,F5q,F5q,F5q,F5q,F5q,F5q] rfl rfl (by kernel_rfl) (fun _ _ _ h => h) (Or.inl ⟨by rfl, ?_⟩) ?_ ?_
 rotate_left
 ·intro w'
  go_simp
  with_reducible rfl
 rotate_left
 ·simp only [Act.put, List.setIfInBounds_toArray, List.set_cons_zero, List.set_cons_succ, i64_w, i32_w]
  rfl
 refine one_ (i := 11) (N := some 39) #[T5q,T5q,T5q,T5q,T5q,T5q,T5q,T5q,T5q,T5q,T5q,T5q,F5q,F5q,F5q,F5q,F5q,F5q] rfl rfl (by kernel_rfl) (by decide) (fun K hK => ?_)
 refine goes_ Tryd.func35 (by kernel_rfl) rfl #[.pointer (some ⟨g, 0, none⟩), .int .i64 (a.length : Int)] (by rfl) rfl rfl (by (try simp only [List.map_toArray, List.map_cons, List.map_nil]); rfl) ?_
 refine (spec_reader_pick.calls k g s0 q2 (a.length : Int) b b2 w0 _ hI4 hB4 A4.out).mono ?_
 rintro e w5 ⟨rfl, hI5, hB5, hK5⟩
 have hgb4 : gb < w4.heap.size := by omega
 have hne : gb ≠ g := by have := Nat.lt_of_lt_of_le hglt hgb; omega
 refine ⟨_, rfl, hK.out _ _ (keep_cell hK5 hHeld hne) (fun hHeld5 => ?_)⟩
 clear hK K
 refine norm_ (a' := ?_) ?_ ?_
 rotate_left
 ·show Act.put _ (some 39) _ = _
  simp only [Act.put, List.setIfInBounds_toArray, List.set_cons_zero, List.set_cons_succ, i64_w, i32_w]
  rfl
 have hH5 := Kd.H_keep hH4 hK5 (fun k hk => hk.1)
 have g5 := Kd.Q_keep g4' hK5 (fun k hk => (hoki k hk).1.1)
 have hg5lt := hI5.lt
 have hK6 := hK4'.trans hK5 (.inl rfl)
 have hsz5 : w3.heap.size ≤ w5.heap.size := by rw [← hsz4]; exact hK5.1
 clear hH4 g4' hK5 hK4' hI4 hB4 hHeld hsz4
 refine one_ (i := 12) (N := some 40) #[T5q,T5q,T5q,T5q,T5q,T5q,T5q,T5q,T5q,T5q,T5q,T5q,T5q,F5q,F5q,F5q,F5q,F5q] rfl rfl (by kernel_rfl) (by decide) (fun K hK => ?_)
 refine value_ (w1 := w5.alloc (.cells #[.int .i64 b] 3)) (v := .slice (some ⟨w5.heap.size, 0, none⟩) 1 1) (by rfl) rfl ?_ ?_
 ·go_simp; try rfl
 refine hK.out _ _ ((((Below.refl w5.heap.size w5).alloc (Nat.le_refl _) (.cells #[.int .i64 b] 3)).cell (show gb < w5.heap.size by omega)).trans hHeld5) (fun hHeld6 => ?_)
 clear hK K
 refine norm_ (a' := ?_) ?_ ?_
 rotate_left
 ·simp only [Act.put, List.setIfInBounds_toArray, List.set_cons_zero, List.set_cons_succ, i64_w, i32_w]
  rfl
 refine last_ (i := 13) (N := some 41) #[T5q,T5q,T5q,T5q,T5q,T5q,T5q,T5q,T5q,T5q,T5q,T5q,T5q,T5q,F5q,F5q,F5q,F5q] rfl rfl (by kernel_rfl) (by decide) (fun K hK => ?_)
 refine Kd.Q_append_step (Kd.int .i64) (w0 := w5) w.heap.size (by rfl) (.tmp 35) (.tmp 40) 23 3 (.int .i64 0) 8 rfl Tryd.underlying23 infoInt_ rfl (by decide) (by decide) v4 (rd_T38 a p).f1 b [.int .i64 b] (fun k => oki k ∨ w5.heap.size ≤ k) (fun _ => False) rfl rfl rfl (fun _ h => h.elim) (fun _ hk => .inr hk) (Kd.Q_mono g5 (fun _ hk => .inl hk)) (Below.refl _ _) hK6.1 (by omega) ?_
 intro v7 w7 hQ7 hB7 hg7 hat7
 refine hK.out _ _ ?_
 clear hK K
 refine norm_ (a' := ?_) ?_ ?_
 rotate_left
 ·simp only [Act.put, List.setIfInBounds_toArray, List.set_cons_zero, List.set_cons_succ, i64_w, i32_w]
  rfl
 have hvo : ∀ k, v4.ownBlock = some k → oki k := fun k hk => g5.1 k hk
 have hH7 := Kd.H_grown hH5 hg7 hvo
 have hI7 := hI5.grown hg7 (fun e => (hoki g (hvo g e.symm)).1.1 rfl)
 have hB8 : Below w0.heap.size w0 w7 := by
  refine ⟨hg7.os.trans hB5.os, hg7.tape.trans hB5.tape, hg7.output.trans hB5.output, Nat.le_trans hB5.size hg7.size, fun k hk => (hg7.block k (Nat.lt_of_lt_of_le hk hB5.size) (fun e => ?_)).trans (hB5.block k hk)⟩
  have h1 := Kd.Q_base g5 k e.symm
  have h2 := hI5.ge
  omega
 have hK8 : KeepBut w w7 g none := ⟨Nat.le_trans hK6.1 hg7.size, fun k hk hkg hn => (hg7.block k (Nat.lt_of_lt_of_le hk hK6.1) (fun e => by have := Kd.Q_base g5 k e.symm; omega)).trans (hK6.2 k hk hkg hn)⟩
 have hsz7 := hg7.size
 obtain ⟨A7, c7, rfl, hl7, hC7⟩ := Kd.Q_reads hQ7
 have hlen7 : ((rd_T38 a p).f1 ++ [b]).length = (rd_T38 a p).f1.length + 1 := by simp
 have hQg := hQ7.1
 clear hH5 g5 hI5 hB5 hK6 hHeld5 hHeld6
 refine last_ (i := 14) (N := some 42) #[T5q,T5q,T5q,T5q,T5q,T5q,T5q,T5q,T5q,T5q,T5q,T5q,T5q,T5q,T5q,F5q,F5q,F5q] rfl rfl (by kernel_rfl) (by decide) (fun K hK => ?_)
 refine goes_ Tryd.func36 (by kernel_rfl) rfl #[.pointer (some ⟨g, 0, none⟩), .slice A7 ((rd_T38 a p).f1 ++ [b]).length c7, .int .i64 8] (by rfl) rfl rfl (by (try simp only [List.map_toArray, List.map_cons, List.map_nil]); rfl) ?_
 refine (spec_reader_spoil.calls k g s0 b2 A7 c7 ((rd_T38 a p).f1 ++ [b]) 8 r r2 w0 _ hI7 hB8 hC7 hl7 (fun ad e hpos7 => ?_) A5.out).mono ?_
 ·subst e
  rcases hQg ad.block (by simp [Value.ownBlock]) with h | h
  ·exact (hoki _ h).1.1
  ·exact Nat.ne_of_gt (Nat.lt_of_lt_of_le hg5lt h)
 rintro e w9 ⟨v9, rfl, hQ9, hI9, hB9, hK9⟩
 refine ⟨_, rfl, hK.out _ _ ?_⟩
 clear hK K
 refine norm_ (a' := ?_) ?_ ?_
 rotate_left
 ·simp only [Act.put, List.setIfInBounds_toArray, List.set_cons_zero, List.set_cons_succ, i64_w, i32_w]
  rfl
 have hH9 := Kd.H_keep hH7 hK9 (fun k hk => hk.1)
 have hH10 := Kd.H_mono (ok' := fun k => k ≠ g ∧ ¬ (w7.heap.size ≤ k)) hH9 (fun k hk => ⟨hk.1, by omega⟩)
 obtain ⟨hS11, hg11⟩ := Kd.S_seg (okg := fun k => w7.heap.size ≤ k) hH10 hp0 hp1 (seg := [v9]) (j := 1) (show 1 + 1 ≤ 4 from by decide) (x' := { rd_T38 a p with f1 := r }) (mkQ _ _ _ { rd_T38 a p with f1 := r } (Kd.Q_mono (Kd.Q_lower (Kd.Q_bound hQ9) (show w.heap.size ≤ w7.heap.size by have := hK8.1; omega)) (fun k hk => hk.2.1))) (fun k hk => .inr hk) (fun k hk => ⟨Nat.ne_of_gt (Nat.lt_of_lt_of_le hI7.lt hk), by omega⟩)
 obtain ⟨rows, _, hraw, _, _, hcc9, _⟩ := Kd.H_raw hH10 hp0 hp1
 have hcell9 : w9.cell? ⟨gb, p.toNat * 4 + 1, none⟩ = some v4 := hcc9 1 _ rfl
 obtain ⟨cs9, hcs9⟩ := Kd.R_typed hraw gb (by simp [Value.ownBlock])
 have hfz9 : w9.frozen? ⟨gb, p.toNat * 4 + 1, none⟩ = false := by simp [World.frozen?, hcs9]
 clear hraw hcc9 hcs9 hH10 hH9
 have hsl9 := Kd.Q_slice hQ9
 refine pure_ (i := 15) (N := some 43) (v := ?_) (a' := ?_) #[T5q,T5q,T5q,T5q,T5q,T5q,T5q,T5q,T5q,T5q,T5q,T5q,T5q,T5q,T5q,T5q,F5q,F5q] rfl rfl (by kernel_rfl) (fun _ _ _ h => h) (Or.inl ⟨by rfl, ?_⟩) ?_ ?_
 rotate_left
 ·intro w'
  go_simp
  with_reducible rfl
 rotate_left
 ·simp only [Act.put, List.setIfInBounds_toArray, List.set_cons_zero, List.set_cons_succ, i64_w, i32_w]
  rfl
 refine pure_ (i := 16) (N := some 44) (v := ?_) (a' := ?_) #[T5q,T5q,T5q,T5q,T5q,T5q,T5q,T5q,T5q,T5q,T5q,T5q,T5q,T5q,T5q,T5q,T5q,F5q] rfl rfl (by kernel_rfl) (fun _ _ _ h => h) (Or.inl ⟨by rfl, ?_⟩) ?_ ?_
 rotate_left
 ·intro w'
  go_simp
  with_reducible rfl
 rotate_left
 ·simp only [Act.put, List.setIfInBounds_toArray, List.set_cons_zero, List.set_cons_succ, i64_w, i32_w]
  rfl
 obtain ⟨A9, c9, hv9, _⟩ := hsl9
 refine last_ (i := 17) (N := none) #[T5q,T5q,T5q,T5q,T5q,T5q,T5q,T5q,T5q,T5q,T5q,T5q,T5q,T5q,T5q,T5q,T5q,T5q] rfl rfl (by kernel_rfl) (by decide) (fun K hK => ?_)
 refine skip_ (w1 := w9.setCell ⟨gb, p.toNat * 4 + 1, none⟩ v9) (by rfl) rfl ?_ ?_
 ·subst hv9; go_simp
 refine hK.out _ _ ?_
 clear hK K
 refine done_ (by kernel_rfl) ?_
 have hS12 : Kd.S k38 38 (w9.setCell ⟨gb, p.toNat * 4 + 1, none⟩ v9) w.heap.size (fun k => k ≠ g) _ _ := hS11
 have hg12 : w9.grownBy (w9.setCell ⟨gb, p.toNat * 4 + 1, none⟩ v9) (some gb) := hg11
 have hI12 := hI9.grown hg12 (fun e => by injection e with e; have := Nat.lt_of_lt_of_le hglt hgb; omega)
 have hB12 := below_put hg12 hB9 (Nat.le_refl _) (by have := hI9.ge; omega)
 have hK12 := (hK8.trans hK9 (.inl rfl)).trans (KeepBut.of_grown hg12 g) (.inr ⟨gb, rfl, hgb⟩)
 revert hS12 hI12 hB12 hK12
 generalize w9.setCell ⟨gb, p.toNat * 4 + 1, none⟩ v9 = w13
 intro hS12 hI12 hB12 hK12
 clear hS11 hg11 hg12
 go_wp2
 go_ret
 exact ⟨_, rfl, Kd.S_mono hS12 (fun _ _ => trivial), hI12, hB12, hK12⟩
end Go.Proofs.YtnhkajanbfgbiaaDoor.Core
namespace Go.Proofs.YtnhkajanbfgbiaaDoor.P
open Go Go.RowKit Go.Shelf Go.Proofs.YtnhkajanbfgbiaaDoorW.PrintWords Go.Proofs.YtnhkajanbfgbiaaDoorW.PrintMore Go.Proofs.YtnhkajanbfgbiaaDoor.Core
noncomputable def spec_anyGraph.f (s0_0 : List Int) (s0_1 : Int) : Option (List S38 × Int) := lim (fun k => spec_anyGraph.fk k s0_0 s0_1)
theorem spec_anyGraph.calls (g : Nat) (s0_0 : List Int) (s0_1 : Int) (r1 : List S38) (r2 : Int) (w0 w : World) (hI : IsS79 w0 w g s0_0 s0_1) (hB : Below w0.heap.size w0 w) (h : spec_anyGraph.f s0_0 s0_1 = some (r1, r2)) :
  Calls Tryd.prog 46 #[.pointer (some ⟨g, 0, none⟩)] w fun e w' => ∃ v0_ : Value, e = .returned (v0_) ∧ Kd.S k38 38 w' w.heap.size (fun _ => True) v0_ r1 ∧ IsS79 w0 w' g s0_0 r2 ∧ Below w0.heap.size w0 w' ∧ KeepBut w w' g none := by
 obtain ⟨k, hk⟩ := lim_some h
 clear h
 unfold spec_anyGraph.fk at hk
 obtain ⟨⟨a, a2⟩, h1, hk⟩ := Option.bind_eq_some_iff.1 hk
 by_cases hl : a.length = 0
 ·rw [if_pos hl] at hk
  cases hk
  obtain rfl := List.eq_nil_of_length_eq_zero hl
  exact any_empty k g s0_0 s0_1 w0 w hI hB _ h1
 ·rw [if_neg hl] at hk
  obtain ⟨⟨p, p2⟩, h2, hk⟩ := Option.bind_eq_some_iff.1 hk
  obtain ⟨⟨q, q2⟩, h3, hk⟩ := Option.bind_eq_some_iff.1 hk
  by_cases hp : ¬ (0 ≤ p ∧ p < (a.length : Int))
  ·rw [if_pos hp] at hk; cases hk
  ·rw [if_neg hp] at hk
   obtain ⟨hp0, hp1⟩ := Decidable.not_not.1 hp
   have hpos : 0 < a.length := by omega
   by_cases e0 : q = 0
   ·rw [if_pos e0] at hk
    obtain ⟨⟨t, t2⟩, h4, hk⟩ := Option.bind_eq_some_iff.1 hk
    cases hk
    exact any_case0 k g s0_0 s0_1 w0 w hI hB a a2 p p2 q q2 hpos hp0 hp1 h1 h2 h3 e0 t _ h4
   ·rw [if_neg e0] at hk
    by_cases e1 : q = 1
    ·rw [if_pos e1] at hk
     obtain ⟨⟨b, b2⟩, h4, hk⟩ := Option.bind_eq_some_iff.1 hk
     by_cases hlen : (rd_T38 a p).f1.length < 1000
     ·simp only [hlen, if_true] at hk
      obtain ⟨⟨c, c2⟩, h5, hk⟩ := Option.bind_eq_some_iff.1 hk
      cases hk
      exact any_case1 k g s0_0 s0_1 w0 w hI hB a a2 p p2 q q2 hpos hp0 hp1 h1 h2 h3 e1 b b2 c _ h4 hlen h5
     ·simp only [hlen, if_false] at hk; cases hk
    ·rw [if_neg e1] at hk
     by_cases e2 : q = 2
     ·rw [if_pos e2] at hk
      obtain ⟨⟨t, t2⟩, h4, hk⟩ := Option.bind_eq_some_iff.1 hk
      cases hk
      exact any_case2 k g s0_0 s0_1 w0 w hI hB a a2 p p2 q q2 hpos hp0 hp1 h1 h2 h3 e2 t _ h4
     ·rw [if_neg e2] at hk
      by_cases e3 : q = 3
      ·rw [if_pos e3] at hk
       obtain ⟨⟨t, t2⟩, h4, hk⟩ := Option.bind_eq_some_iff.1 hk
       cases hk
       exact any_case3 k g s0_0 s0_1 w0 w hI hB a a2 p p2 q q2 hpos hp0 hp1 h1 h2 h3 e3 t _ h4
      ·rw [if_neg e3] at hk
       by_cases e4 : q = 4
       ·rw [if_pos e4] at hk
        obtain ⟨⟨c, c2⟩, h4, hk⟩ := Option.bind_eq_some_iff.1 hk
        by_cases hlen : a.length + c.length < 1000
        ·simp only [hlen, if_true] at hk
         cases hk
         exact any_case4 k g s0_0 s0_1 w0 w hI hB a a2 p p2 q q2 hpos hp0 hp1 h1 h2 h3 e4 c _ hlen h4
        ·simp only [hlen, if_false] at hk; cases hk
       ·rw [if_neg e4] at hk
        cases hk
        exact any_same k g s0_0 s0_1 w0 w hI hB a a2 p p2 q _ hpos hp0 hp1 h1 h2 h3 ⟨e0, e1, e2, e3, e4⟩
end Go.Proofs.YtnhkajanbfgbiaaDoor.P
namespace Go.Proofs.YtnhkajanbfgbiaaDoor.Core
end Go.Proofs.YtnhkajanbfgbiaaDoor.Core
end
section
namespace Go.Proofs.YtnhkajanbfgbiaaDoor.P
open Go.RowKit Go.Proofs.YtnhkajanbfgbiaaDoorW.PrintWords Go.Proofs.YtnhkajanbfgbiaaDoorW.PrintLast Go.Proofs.YtnhkajanbfgbiaaDoorW.PrintMore
attribute [local go_sem] max2_int min2_int max_two min_two max_three min_three max_four min_four   -- for this text's walks alone
set_option linter.unusedVariables false
set_option linter.unusedSimpArgs false
noncomputable def spec_smallGraph.f (k : Nat) (s0_0 : List Int) (s0_1 : Int) : Option ((List (S38)) × Int) := (spec_reader_pick.f k s0_0 s0_1 10).bind fun bt391 => (if bt391.1 = 0 then ((spec_anyGraph.f s0_0 bt391.2).bind fun bt393 => (some (bt393.1, bt393.2))) else ((spec_someGraph.f k s0_0 bt391.2 5).bind fun bt397 => (some (bt397.1, bt397.2))))
theorem spec_smallGraph.mono : ∀ a0 a1 k, LeO (spec_smallGraph.f k a0 a1) (spec_smallGraph.f (k + 1) a0 a1) := by
 intro a0 a1 k
 unfold spec_smallGraph.f
 repeat' first
   | (with_reducible exact spec_reader_pick.mono _ _ _ _)
   | (with_reducible exact spec_someGraph.mono _ _ _ _)
   | (with_reducible exact LeO.refl _)
   | (with_reducible exact LeO.none _)
   | (with_reducible refine LeO.ite ?_ ?_)
   | (with_reducible refine LeO.bind ?_ (fun _ => ?_))
   | exact spec_reader_pick.mono _ _ _ _
   | exact spec_someGraph.mono _ _ _ _
   | exact LeO.none _
   | refine LeO.ite ?_ ?_
   | refine LeO.bind ?_ (fun _ => ?_)
set_option maxHeartbeats 8000000 in
set_option maxRecDepth 100000 in
theorem spec_smallGraph.calls (k : Nat) (g : Nat) (s0_0 : List Int) (s0_1 : Int) (r1 : List (S38)) (r2 : Int) (w0 w : World) (hI : IsS79 w0 w g s0_0 s0_1) (hB : Below w0.heap.size w0 w) (h : spec_smallGraph.f k s0_0 s0_1 = some (r1, r2)) :
  Calls Tryd.prog 30 #[.pointer (some ⟨g, 0, none⟩)] w fun e w' => ∃ v0_ : Value, e = .returned (v0_) ∧ Kd.S k38 38 w' w.heap.size (fun _ => True) v0_ r1 ∧ IsS79 w0 w' g s0_0 r2 ∧ Below w0.heap.size w0 w' ∧ KeepBut w w' g none := by
 have HI0 := Aside0.mk hI
 have HK := Aside0.mk (KeepBut.refl w g none)
 have HL := Aside0.mk hB.size
 clear hI
 have HW0 := Aside0.mk hB.size
 have HB := Aside0.mk hB
 clear hB
 have H : ((spec_reader_pick.f k s0_0 s0_1 10).bind fun bt391 => (if bt391.1 = 0 then ((spec_anyGraph.f s0_0 bt391.2).bind fun bt393 => (some (bt393.1, bt393.2))) else ((spec_someGraph.f k s0_0 bt391.2 5).bind fun bt397 => (some (bt397.1, bt397.2))))) = some (r1, r2) := h
 clear h
 replace H := Option.bind_eq_some_iff.mp H
 obtain ⟨⟨t391, t392⟩, A20, H⟩ := H
 replace H : (if t391 = 0 then ((spec_anyGraph.f s0_0 t392).bind fun bt393 => (some (bt393.1, bt393.2))) else ((spec_someGraph.f k s0_0 t392 5).bind fun bt397 => (some (bt397.1, bt397.2)))) = some (r1, r2) := H
 have A2 := Aside0.mk A20
 clear A20
 by_cases c3 : t391 = 0
 ·rw [if_pos c3] at H
  have c3b0 : (t391 == 0) = true := beq_iff_eq.mpr c3
  have c3b1 : (t391 != 0) = false := bne_eq_false_iff_eq.mpr c3
  clear c3
  replace H := Option.bind_eq_some_iff.mp H
  obtain ⟨⟨t393, t396⟩, A40, H⟩ := H
  replace H : (some (t393, t396)) = some (r1, r2) := H
  have A4 := Aside0.mk A40
  clear A40
  simp only [Option.some.injEq, Prod.mk.injEq] at H
  obtain ⟨rfl, rfl⟩ := H
  go_enter Tryd.func30, Tryd.ntmps30
  go_wp2_with (first | ((with_reducible refine gate_callee (f := 35) rfl ?_); refine goesL_ (some 4) rfl rfl Tryd.func35 (by kernel_rfl) rfl #[.pointer (some ⟨g, 0, none⟩), .int .i64 10] rfl (by (try simp only [List.map_toArray, List.map_cons, List.map_nil]); first | done | rfl | (simp only [List.length_drop, List.length_take]; rfl)) ?_; (with_reducible refine (spec_reader_pick.calls k g s0_0 s0_1 10 t391 t392 w0 _ ?side1 ?side2 A2.out).mono ?_); (case side1 => repeat (first | (with_reducible first | exact HI0.out | apply IsS79.alloc | apply IsS79.drewN | apply IsS79.drew | apply IsS79.set_1) | exact HI0.out)); (case side2 => repeat (first | (with_reducible first | exact HB.out | apply below_alloc | apply pw_below_drewN | apply below_drew1 | refine below_set ?_ (IsS79.ge HI0.out)) | exact HB.out)); rintro e w5 ⟨rfl, hi, hb, hk⟩; refine ⟨_, rfl, ?_⟩; have n0_ := Aside0.mk (KeepBut.trans (by repeat (first | (with_reducible first | exact HK.out | apply KeepBut.set_ | apply keep_drewN | apply keep_drew | apply keep_alloc) | exact HK.out)) hk (.inl rfl)); have n1_ := Aside0.mk (hb); have n2_ := Aside0.mk (hi); clear HK; clear HB; clear HI0; have HK := n0_; have HB := n1_; have HI0 := n2_; clear n0_ n1_ n2_; (try clear hb); (try clear hb2); (try clear hk); (try clear hi)) | ((with_reducible refine gate_callee (f := 46) rfl ?_); refine goesL_ (some 7) rfl rfl Tryd.func46 (by kernel_rfl) rfl #[.pointer (some ⟨g, 0, none⟩)] rfl (by (try simp only [List.map_toArray, List.map_cons, List.map_nil]); first | done | rfl | (simp only [List.length_drop, List.length_take]; rfl)) ?_; (with_reducible refine (spec_anyGraph.calls g s0_0 t392 t393 t396 w0 _ ?side1 ?side2 A4.out).mono ?_); (case side1 => repeat (first | (with_reducible first | exact HI0.out | apply IsS79.alloc | apply IsS79.drewN | apply IsS79.drew | apply IsS79.set_1) | exact HI0.out)); (case side2 => repeat (first | (with_reducible first | exact HB.out | apply below_alloc | apply pw_below_drewN | apply below_drew1 | refine below_set ?_ (IsS79.ge HI0.out)) | exact HB.out)); rintro e w6 ⟨v394, rfl, ho0, hi, hb, hk⟩; refine ⟨_, rfl, ?_⟩; have n0_ := Aside0.mk (Kd.S_lower ho0 (keep_size (w := w) (g := g) (row := none) (by repeat (first | (with_reducible first | exact HK.out | apply KeepBut.set_ | apply keep_drewN | apply keep_drew | apply keep_alloc) | exact HK.out)))); have n1_ := Aside0.mk (KeepBut.trans (by repeat (first | (with_reducible first | exact HK.out | apply KeepBut.set_ | apply keep_drewN | apply keep_drew | apply keep_alloc) | exact HK.out)) hk (.inl rfl)); have n2_ := Aside0.mk (hb); have n3_ := Aside0.mk (hi); clear HK; clear HB; clear HI0; have HO395 := n0_; have HK := n1_; have HB := n2_; have HI0 := n3_; clear n0_ n1_ n2_ n3_; (try clear hb); (try clear hb2); (try clear hk); (try clear hi); (try clear ho0)))
  go_ret
  exact ⟨_, by first | rfl | (simp [errW_none, errW_some] <;> rfl) | (simp [*, errW_none, errW_some] <;> rfl), by (with_reducible repeat (first | apply Kd.S_alloc | apply Kd.S_drewN | apply Kd.S_drew)); exact HO395.out, by repeat (first | (with_reducible first | exact HI0.out | apply IsS79.alloc | apply IsS79.drewN | apply IsS79.drew | apply IsS79.set_1) | exact HI0.out), by repeat (first | (with_reducible first | exact HB.out | apply below_alloc | apply pw_below_drewN | apply below_drew1 | refine below_set ?_ (IsS79.ge HI0.out)) | exact HB.out), by repeat (first | (with_reducible first | exact HK.out | apply KeepBut.set_ | apply keep_drewN | apply keep_drew | apply keep_alloc) | exact HK.out)⟩
 ·rw [if_neg c3] at H
  have c3b0 : (t391 == 0) = false := beq_eq_false_iff_ne.mpr c3
  have c3b1 : (t391 != 0) = true := bne_iff_ne.mpr c3
  replace H := Option.bind_eq_some_iff.mp H
  obtain ⟨⟨t397, t400⟩, A70, H⟩ := H
  replace H : (some (t397, t400)) = some (r1, r2) := H
  have A7 := Aside0.mk A70
  clear A70
  simp only [Option.some.injEq, Prod.mk.injEq] at H
  obtain ⟨rfl, rfl⟩ := H
  go_enter Tryd.func30, Tryd.ntmps30
  go_wp2_with (first | ((with_reducible refine gate_callee (f := 35) rfl ?_); refine goesL_ (some 4) rfl rfl Tryd.func35 (by kernel_rfl) rfl #[.pointer (some ⟨g, 0, none⟩), .int .i64 10] rfl (by (try simp only [List.map_toArray, List.map_cons, List.map_nil]); first | done | rfl | (simp only [List.length_drop, List.length_take]; rfl)) ?_; (with_reducible refine (spec_reader_pick.calls k g s0_0 s0_1 10 t391 t392 w0 _ ?side1 ?side2 A2.out).mono ?_); (case side1 => repeat (first | (with_reducible first | exact HI0.out | apply IsS79.alloc | apply IsS79.drewN | apply IsS79.drew | apply IsS79.set_1) | exact HI0.out)); (case side2 => repeat (first | (with_reducible first | exact HB.out | apply below_alloc | apply pw_below_drewN | apply below_drew1 | refine below_set ?_ (IsS79.ge HI0.out)) | exact HB.out)); rintro e w8 ⟨rfl, hi, hb, hk⟩; refine ⟨_, rfl, ?_⟩; have n0_ := Aside0.mk (KeepBut.trans (by repeat (first | (with_reducible first | exact HK.out | apply KeepBut.set_ | apply keep_drewN | apply keep_drew | apply keep_alloc) | exact HK.out)) hk (.inl rfl)); have n1_ := Aside0.mk (hb); have n2_ := Aside0.mk (hi); clear HK; clear HB; clear HI0; have HK := n0_; have HB := n1_; have HI0 := n2_; clear n0_ n1_ n2_; (try clear hb); (try clear hb2); (try clear hk); (try clear hi)) | ((with_reducible refine gate_callee (f := 47) rfl ?_); refine goesL_ (some 9) rfl rfl Tryd.func47 (by kernel_rfl) rfl #[.pointer (some ⟨g, 0, none⟩), .int .i64 5] rfl (by (try simp only [List.map_toArray, List.map_cons, List.map_nil]); first | done | rfl | (simp only [List.length_drop, List.length_take]; rfl)) ?_; (with_reducible refine (spec_someGraph.calls k g s0_0 t392 5 t397 t400 w0 _ ?side1 ?side2 A7.out).mono ?_); (case side1 => repeat (first | (with_reducible first | exact HI0.out | apply IsS79.alloc | apply IsS79.drewN | apply IsS79.drew | apply IsS79.set_1) | exact HI0.out)); (case side2 => repeat (first | (with_reducible first | exact HB.out | apply below_alloc | apply pw_below_drewN | apply below_drew1 | refine below_set ?_ (IsS79.ge HI0.out)) | exact HB.out)); rintro e w9 ⟨v398, rfl, ho0, hi, hb, hk⟩; refine ⟨_, rfl, ?_⟩; have n0_ := Aside0.mk (Kd.S_lower ho0 (keep_size (w := w) (g := g) (row := none) (by repeat (first | (with_reducible first | exact HK.out | apply KeepBut.set_ | apply keep_drewN | apply keep_drew | apply keep_alloc) | exact HK.out)))); have n1_ := Aside0.mk (KeepBut.trans (by repeat (first | (with_reducible first | exact HK.out | apply KeepBut.set_ | apply keep_drewN | apply keep_drew | apply keep_alloc) | exact HK.out)) hk (.inl rfl)); have n2_ := Aside0.mk (hb); have n3_ := Aside0.mk (hi); clear HK; clear HB; clear HI0; have HO399 := n0_; have HK := n1_; have HB := n2_; have HI0 := n3_; clear n0_ n1_ n2_ n3_; (try clear hb); (try clear hb2); (try clear hk); (try clear hi); (try clear ho0)))
  go_ret
  exact ⟨_, by first | rfl | (simp [errW_none, errW_some] <;> rfl) | (simp [*, errW_none, errW_some] <;> rfl), by (with_reducible repeat (first | apply Kd.S_alloc | apply Kd.S_drewN | apply Kd.S_drew)); exact HO399.out, by repeat (first | (with_reducible first | exact HI0.out | apply IsS79.alloc | apply IsS79.drewN | apply IsS79.drew | apply IsS79.set_1) | exact HI0.out), by repeat (first | (with_reducible first | exact HB.out | apply below_alloc | apply pw_below_drewN | apply below_drew1 | refine below_set ?_ (IsS79.ge HI0.out)) | exact HB.out), by repeat (first | (with_reducible first | exact HK.out | apply KeepBut.set_ | apply keep_drewN | apply keep_drew | apply keep_alloc) | exact HK.out)⟩
end Go.Proofs.YtnhkajanbfgbiaaDoor.P
end
section
namespace Go.Proofs.YtnhkajanbfgbiaaDoor.P
open Go.RowKit Go.Proofs.YtnhkajanbfgbiaaDoorW.PrintWords Go.Proofs.YtnhkajanbfgbiaaDoorW.PrintLast Go.Proofs.YtnhkajanbfgbiaaDoorW.PrintMore
attribute [local go_sem] max2_int min2_int max_two min_two max_three min_three max_four min_four   -- for this text's walks alone
set_option linter.unusedVariables false
set_option linter.unusedSimpArgs false
mutual
noncomputable def spec_DrawOrderStarts.l0 : Nat → List (S38) → List Int → Int → List Int → List Int → Int → Option ((List (S38)) × List Int × Int × List Int)
 | 0, _, _, _, _, _, _ => none
 | k + 1, x7, x8, x9, x10, x431000, x431001 => if (x10.length : Int) < (x7.length : Int) then (spec_DrawOrderStarts.l1 k x7 x8 x9 x10 (([] : List Int)) 0 x431000 x431001) else ((spec_reader_spoil.f k x431000 x431001 x10 5).bind fun bt444 => (some (x7, x8, x9, bt444.1)))
noncomputable def spec_DrawOrderStarts.l1 : Nat → List (S38) → List Int → Int → List Int → List Int → Int → List Int → Int → Option ((List (S38)) × List Int × Int × List Int)
 | 0, _, _, _, _, _, _, _, _ => none
 | k + 1, x7, x8, x9, x10, x11, x12, x431000, x431001 => if x12 < (x7.length : Int) then ((spec_isIn.f k x10 x12).bind fun t461 => (if t461 = true then (spec_DrawOrderStarts.l1 k x7 x8 x9 x10 x11 (wrap64 (x12 + 1)) x431000 x431001) else (if 0 ≤ x12 then ((spec_allDone.f k ((rd_T38 x7 x12).f1) x10).bind fun t463 => (if t463 = true then (if x11.length < 17592186044416 then (spec_DrawOrderStarts.l1 k x7 x8 x9 x10 (x11 ++ [x12]) (wrap64 (x12 + 1)) x431000 x431001) else (none)) else (spec_DrawOrderStarts.l1 k x7 x8 x9 x10 x11 (wrap64 (x12 + 1)) x431000 x431001))) else (none)))) else (if (x11.length : Int) = 0 then ((spec_reader_spoil.f k x431000 x431001 x10 5).bind fun bt451 => (some (x7, x8, x9, bt451.1))) else ((spec_reader_pick.f k x431000 x431001 (x11.length : Int)).bind fun bt455 => (if 0 ≤ bt455.1 then (if bt455.1 < (x11.length : Int) then (if x10.length < 17592186044416 then (spec_DrawOrderStarts.l0 k x7 x8 x9 (x10 ++ [rd x11 bt455.1]) x431000 bt455.2) else (none)) else (none)) else (none))))
end
noncomputable def spec_DrawOrderStarts.f (k : Nat) (l0 : List Int) : Option ((List (S38)) × List Int × Int × List Int) := (spec_newReader.f l0).bind fun bt428 => ((spec_smallGraph.f k bt428.1 bt428.2).bind fun bt431 => ((spec_someRoom.f k bt428.1 bt431.2).bind fun bt435 => ((spec_someWorkers.f k bt428.1 bt435.2).bind fun bt439 => (spec_DrawOrderStarts.l0 k bt431.1 bt435.1 bt439.1 (([] : List Int)) bt428.1 bt439.2))))
theorem spec_DrawOrderStarts.mono_l : ∀ k, (∀ y0 y1 y2 y3 y4 y5, LeO (spec_DrawOrderStarts.l0 k y0 y1 y2 y3 y4 y5) (spec_DrawOrderStarts.l0 (k + 1) y0 y1 y2 y3 y4 y5)) ∧ (∀ y0 y1 y2 y3 y4 y5 y6 y7, LeO (spec_DrawOrderStarts.l1 k y0 y1 y2 y3 y4 y5 y6 y7) (spec_DrawOrderStarts.l1 (k + 1) y0 y1 y2 y3 y4 y5 y6 y7))
 | 0 => ⟨fun _ _ _ _ _ _ r h => by simp [spec_DrawOrderStarts.l0] at h, fun _ _ _ _ _ _ _ _ r h => by simp [spec_DrawOrderStarts.l1] at h⟩
 | k + 1 => by
  obtain ⟨ih0, ih1⟩ := spec_DrawOrderStarts.mono_l k
  refine ⟨?_, ?_⟩
  ·intro y0 y1 y2 y3 y4 y5
   unfold spec_DrawOrderStarts.l0
   repeat' first
   | (with_reducible exact ih0 _ _ _ _ _ _)
   | (with_reducible exact ih1 _ _ _ _ _ _ _ _)
   | (with_reducible exact spec_allDone.mono _ _ _)
   | (with_reducible exact spec_isIn.mono _ _ _)
   | (with_reducible exact spec_reader_pick.mono _ _ _ _)
   | (with_reducible exact spec_reader_spoil.mono _ _ _ _ _)
   | (with_reducible exact spec_smallGraph.mono _ _ _)
   | (with_reducible exact spec_someRoom.mono _ _ _)
   | (with_reducible exact spec_someWorkers.mono _ _ _)
   | (with_reducible exact LeO.refl _)
   | (with_reducible exact LeO.none _)
   | (with_reducible refine LeO.ite ?_ ?_)
   | (with_reducible refine LeO.bind ?_ (fun _ => ?_))
   | exact ih0 _ _ _ _ _ _
   | exact ih1 _ _ _ _ _ _ _ _
   | exact spec_allDone.mono _ _ _
   | exact spec_isIn.mono _ _ _
   | exact spec_reader_pick.mono _ _ _ _
   | exact spec_reader_spoil.mono _ _ _ _ _
   | exact spec_smallGraph.mono _ _ _
   | exact spec_someRoom.mono _ _ _
   | exact spec_someWorkers.mono _ _ _
   | exact LeO.none _
   | refine LeO.ite ?_ ?_
   | refine LeO.bind ?_ (fun _ => ?_)
  ·intro y0 y1 y2 y3 y4 y5 y6 y7
   unfold spec_DrawOrderStarts.l1
   repeat' first
   | (with_reducible exact ih0 _ _ _ _ _ _)
   | (with_reducible exact ih1 _ _ _ _ _ _ _ _)
   | (with_reducible exact spec_allDone.mono _ _ _)
   | (with_reducible exact spec_isIn.mono _ _ _)
   | (with_reducible exact spec_reader_pick.mono _ _ _ _)
   | (with_reducible exact spec_reader_spoil.mono _ _ _ _ _)
   | (with_reducible exact spec_smallGraph.mono _ _ _)
   | (with_reducible exact spec_someRoom.mono _ _ _)
   | (with_reducible exact spec_someWorkers.mono _ _ _)
   | (with_reducible exact LeO.refl _)
   | (with_reducible exact LeO.none _)
   | (with_reducible refine LeO.ite ?_ ?_)
   | (with_reducible refine LeO.bind ?_ (fun _ => ?_))
   | exact ih0 _ _ _ _ _ _
   | exact ih1 _ _ _ _ _ _ _ _
   | exact spec_allDone.mono _ _ _
   | exact spec_isIn.mono _ _ _
   | exact spec_reader_pick.mono _ _ _ _
   | exact spec_reader_spoil.mono _ _ _ _ _
   | exact spec_smallGraph.mono _ _ _
   | exact spec_someRoom.mono _ _ _
   | exact spec_someWorkers.mono _ _ _
   | exact LeO.none _
   | refine LeO.ite ?_ ?_
   | refine LeO.bind ?_ (fun _ => ?_)
theorem spec_DrawOrderStarts.mono : ∀ a0 k, LeO (spec_DrawOrderStarts.f k a0) (spec_DrawOrderStarts.f (k + 1) a0) := by
 intro a0 k
 obtain ⟨ih0, ih1⟩ := spec_DrawOrderStarts.mono_l k
 unfold spec_DrawOrderStarts.f
 repeat' first
   | (with_reducible exact ih0 _ _ _ _ _ _)
   | (with_reducible exact ih1 _ _ _ _ _ _ _ _)
   | (with_reducible exact spec_allDone.mono _ _ _)
   | (with_reducible exact spec_isIn.mono _ _ _)
   | (with_reducible exact spec_reader_pick.mono _ _ _ _)
   | (with_reducible exact spec_reader_spoil.mono _ _ _ _ _)
   | (with_reducible exact spec_smallGraph.mono _ _ _)
   | (with_reducible exact spec_someRoom.mono _ _ _)
   | (with_reducible exact spec_someWorkers.mono _ _ _)
   | (with_reducible exact LeO.refl _)
   | (with_reducible exact LeO.none _)
   | (with_reducible refine LeO.ite ?_ ?_)
   | (with_reducible refine LeO.bind ?_ (fun _ => ?_))
   | exact ih0 _ _ _ _ _ _
   | exact ih1 _ _ _ _ _ _ _ _
   | exact spec_allDone.mono _ _ _
   | exact spec_isIn.mono _ _ _
   | exact spec_reader_pick.mono _ _ _ _
   | exact spec_reader_spoil.mono _ _ _ _ _
   | exact spec_smallGraph.mono _ _ _
   | exact spec_someRoom.mono _ _ _
   | exact spec_someWorkers.mono _ _ _
   | exact LeO.none _
   | refine LeO.ite ?_ ?_
   | refine LeO.bind ?_ (fun _ => ?_)
set_option maxHeartbeats 8000000 in
set_option maxRecDepth 100000 in
theorem spec_DrawOrderStarts.calls (k : Nat) (A0 : Option Addr) (c0 : Nat) (l0 : List Int) (r1 : List (S38)) (r2 : List Int) (r3 : Int) (r4 : List Int) (w : World) (hr0 : Kd.C (Kd.int .u8) w A0 l0.length l0) (hc0 : l0.length ≤ c0) (h : spec_DrawOrderStarts.f k l0 = some (r1, r2, r3, r4)) :
  Calls Tryd.prog 15 #[.slice A0 l0.length c0] w fun e w' => ∃ v0_ v1_ v3_ : Value, e = .returned (.tuple #[v0_, v1_, .int .i64 r3, v3_]) ∧ Kd.S k38 38 w' w.heap.size (fun k_ => some k_ ≠ (v1_ : Value).ownBlock ∧ some k_ ≠ (v3_ : Value).ownBlock) v0_ r1 ∧ Kd.Q (Kd.int .i64) 3 w' w.heap.size (fun k_ => some k_ ≠ (v3_ : Value).ownBlock) v1_ r2 ∧ Kd.Q (Kd.int .i64) 3 w' w.heap.size (fun k_ => some k_ ≠ (v1_ : Value).ownBlock) v3_ r4 ∧ Below w.heap.size w w' := by
 have HR0 := Aside0.mk hr0
 have HC0 := Aside0.mk hc0
 clear hr0 hc0
 have HB := Aside0.mk (Below.refl w.heap.size w)
 have H : ((spec_newReader.f l0).bind fun bt428 => ((spec_smallGraph.f k bt428.1 bt428.2).bind fun bt431 => ((spec_someRoom.f k bt428.1 bt431.2).bind fun bt435 => ((spec_someWorkers.f k bt428.1 bt435.2).bind fun bt439 => (spec_DrawOrderStarts.l0 k bt431.1 bt435.1 bt439.1 (([] : List Int)) bt428.1 bt439.2))))) = some (r1, r2, r3, r4) := h
 clear h
 replace H := Option.bind_eq_some_iff.mp H
 obtain ⟨⟨t428, t429⟩, A20, H⟩ := H
 replace H : ((spec_smallGraph.f k t428 t429).bind fun bt431 => ((spec_someRoom.f k t428 bt431.2).bind fun bt435 => ((spec_someWorkers.f k t428 bt435.2).bind fun bt439 => (spec_DrawOrderStarts.l0 k bt431.1 bt435.1 bt439.1 (([] : List Int)) t428 bt439.2)))) = some (r1, r2, r3, r4) := H
 have A2 := Aside0.mk A20
 clear A20
 replace H := Option.bind_eq_some_iff.mp H
 obtain ⟨⟨t431, t434⟩, A30, H⟩ := H
 replace H : ((spec_someRoom.f k t428 t434).bind fun bt435 => ((spec_someWorkers.f k t428 bt435.2).bind fun bt439 => (spec_DrawOrderStarts.l0 k t431 bt435.1 bt439.1 (([] : List Int)) t428 bt439.2))) = some (r1, r2, r3, r4) := H
 have A3 := Aside0.mk A30
 clear A30
 replace H := Option.bind_eq_some_iff.mp H
 obtain ⟨⟨t435, t438⟩, A40, H⟩ := H
 replace H : ((spec_someWorkers.f k t428 t438).bind fun bt439 => (spec_DrawOrderStarts.l0 k t431 t435 bt439.1 (([] : List Int)) t428 bt439.2)) = some (r1, r2, r3, r4) := H
 have A4 := Aside0.mk A40
 clear A40
 replace H := Option.bind_eq_some_iff.mp H
 obtain ⟨⟨t439, t440⟩, A50, H⟩ := H
 replace H : (spec_DrawOrderStarts.l0 k t431 t435 t439 (([] : List Int)) t428 t440) = some (r1, r2, r3, r4) := H
 have A5 := Aside0.mk A50
 clear A50
 obtain ⟨y441, hy441⟩ : ∃ y_ : List Int, y_ = (([] : List Int)) := ⟨_, rfl⟩
 replace H : (spec_DrawOrderStarts.l0 k t431 t435 t439 y441 t428 t440) = some (r1, r2, r3, r4) := by first | (rw [hy441]; with_reducible exact H) | (have H2_ := (Option.bind_some _ _).symm.trans H; rw [hy441]; with_reducible exact H2_) | (have H2_ := (Option.bind_some _ _).symm.trans H; with_reducible exact H2_) | with_reducible exact H | (rw [hy441]; exact H) | exact H
 have Ny441 := Aside0.mk hy441
 clear hy441
 have H' := Aside0.mk H
 clear H
 go_enter Tryd.func15, Tryd.ntmps15
 go_wp2_with (first | ((with_reducible refine gate_callee (f := 29) rfl ?_); refine goesL_ (some 14) rfl rfl Tryd.func29 (by kernel_rfl) rfl #[.slice A0 l0.length c0] rfl (by (try simp only [List.map_toArray, List.map_cons, List.map_nil]); first | done | rfl | (simp only [List.length_drop, List.length_take]; rfl)) ?_; (with_reducible refine (spec_newReader.calls _ _ l0 t428 t429 w _ ?side1 ?side2 ?side3 A2.out).mono ?_); (case side1 => exact HB.out); (case side2 => exact HR0.out); (case side3 => exact HC0.out); rintro e w6 ⟨g430, rfl, hi, hb, hb2⟩; refine ⟨_, rfl, ?_⟩; have n0_ := Aside0.mk (hb); have n1_ := Aside0.mk (hi); clear HB; have HB := n0_; have HI430 := n1_; clear n0_ n1_; (try clear hb); (try clear hb2); (try clear hk); (try clear hi)) | ((with_reducible refine gate_callee (f := 30) rfl ?_); refine goesL_ (some 16) rfl rfl Tryd.func30 (by kernel_rfl) rfl #[.pointer (some ⟨g430, 0, none⟩)] rfl (by (try simp only [List.map_toArray, List.map_cons, List.map_nil]); first | done | rfl | (simp only [List.length_drop, List.length_take]; rfl)) ?_; (with_reducible refine (spec_smallGraph.calls k g430 t428 t429 t431 t434 w _ ?side1 ?side2 A3.out).mono ?_); (case side1 => exact HI430.out); (case side2 => exact HB.out); rintro e w7 ⟨v432, rfl, ho0, hi, hb, hk⟩; refine ⟨_, rfl, ?_⟩; have n0_ := Aside0.mk (Kd.S_lower ho0 (below_size HB.out)); have n1_ := Aside0.mk (hb); have n2_ := Aside0.mk (hi); clear HB; clear HI430; have HO433 := n0_; have HB := n1_; have HI430 := n2_; clear n0_ n1_ n2_; (try clear hb); (try clear hb2); (try clear hk); (try clear hi); (try clear ho0)) | ((with_reducible refine gate_callee (f := 31) rfl ?_); refine goesL_ (some 18) rfl rfl Tryd.func31 (by kernel_rfl) rfl #[.pointer (some ⟨g430, 0, none⟩)] rfl (by (try simp only [List.map_toArray, List.map_cons, List.map_nil]); first | done | rfl | (simp only [List.length_drop, List.length_take]; rfl)) ?_; (with_reducible refine (spec_someRoom.calls k g430 t428 t434 t435 t438 w _ ?side1 ?side2 A4.out).mono ?_); (case side1 => exact HI430.out); (case side2 => exact HB.out); rintro e w8 ⟨v436, rfl, ho0, hi, hb, hk⟩; refine ⟨_, rfl, ?_⟩; have n0_ := Aside0.mk (Kd.S_mono (Kd.S_told (Kd.S_oldK (IsS79.apartS (show IsS79 w _ g430 t428 t434 from HI430.out) HO433.out (by decide)) hk) (Kd.Q_base ho0)) (fun _ h_ => h_.1)); have n1_ := Aside0.mk (Kd.Q_lower ho0 (below_size HB.out)); have n2_ := Aside0.mk (hb); have n3_ := Aside0.mk (hi); clear HO433; clear HB; clear HI430; have HO433 := n0_; have HO437 := n1_; have HB := n2_; have HI430 := n3_; clear n0_ n1_ n2_ n3_; (try clear hb); (try clear hb2); (try clear hk); (try clear hi); (try clear ho0)) | ((with_reducible refine gate_callee (f := 32) rfl ?_); refine goesL_ (some 20) rfl rfl Tryd.func32 (by kernel_rfl) rfl #[.pointer (some ⟨g430, 0, none⟩)] rfl (by (try simp only [List.map_toArray, List.map_cons, List.map_nil]); first | done | rfl | (simp only [List.length_drop, List.length_take]; rfl)) ?_; (with_reducible refine (spec_someWorkers.calls k g430 t428 t438 t439 t440 w _ ?side1 ?side2 A5.out).mono ?_); (case side1 => exact HI430.out); (case side2 => exact HB.out); rintro e w9 ⟨rfl, hi, hb, hk⟩; refine ⟨_, rfl, ?_⟩; have n0_ := Aside0.mk (Kd.S_mono (Kd.S_keep (IsS79.apartS (show IsS79 w _ g430 t428 t438 from HI430.out) HO433.out (by decide)) hk (fun _ h => h.2)) (fun _ h => h.1)); have n1_ := Aside0.mk (Kd.Q_mono (Kd.Q_keep (IsS79.apartQ (show IsS79 w _ g430 t428 t438 from HI430.out) HO437.out (by decide)) hk (fun _ h => h.2)) (fun _ h => h.1)); have n2_ := Aside0.mk (hb); have n3_ := Aside0.mk (hi); clear HO433; clear HO437; clear HB; clear HI430; have HO433 := n0_; have HO437 := n1_; have HB := n2_; have HI430 := n3_; clear n0_ n1_ n2_ n3_; (try clear hb); (try clear hb2); (try clear hk); (try clear hi)) | ((with_reducible refine gate_dst (N := 21) rfl ?_); refine Kd.R_lit (Kd.int .i64) _ 3 ?hg (N := 21) ?hd (xs := ([] : List Int)) (inner := []) (ok := fun _ => True) (okp := fun _ => True) ?hr ?hp (fun _ hk => hk) trivial (Below.refl _ _) (Nat.le_refl _) (by simp) ?_; (case hd => rfl); (case hg => rfl); (case hr => first | (go_simp; done) | (go_simp; rfl)); (case hp => exact (Reps.none _ _)); intro v442 w10 ho11 hb hg_ hnew_; clear hg_ hnew_; (first | rw [← Ny441.out] at ho11 | (simp only [Int.reduceToNat] at ho11; rw [← Ny441.out] at ho11)); have n0_ := Aside0.mk (Kd.S_elder' HO433.out (Kd.R_base ho11) hb); have n1_ := Aside0.mk (Kd.Q_elder' HO437.out (Kd.R_base ho11) hb); have n2_ := Aside0.mk (Kd.R_lower (Kd.R_new' ho11 (Kd.Q_lt HO437.out)) (below_size HB.out)); have n3_ := Aside0.mk (IsS79.below HI430.out hb); have n4_ := Aside0.mk (below_step HB.out hb); clear HO433; clear HO437; clear HI430; clear HB; have HO433 := n0_; have HO437 := n1_; have HO443 := n2_; have HI430 := n3_; have HB := n4_; clear n0_ n1_ n2_ n3_ n4_; clear hb ho11))
 go_loopg [10] k (fun kq v10 w' => ∃ (x10_1 : List Int) (x431001_1 : Int), Aside0 (spec_DrawOrderStarts.l0 kq t431 t435 t439 x10_1 t428 x431001_1 = some (r1, r2, r3, r4)) ∧ Aside0 (kq ≤ k) ∧ Aside0 (Kd.S k38 38 w' w.heap.size (fun k_ => some k_ ≠ (v436 : Value).ownBlock ∧ some k_ ≠ (v10 : Value).ownBlock) v432 t431) ∧ Aside0 (Kd.Q (Kd.int .i64) 3 w' w.heap.size (fun k_ => some k_ ≠ (v10 : Value).ownBlock) v436 t435) ∧ Aside0 (Kd.R (Kd.int .i64) 3 w' w.heap.size (fun k_ => some k_ ≠ (v436 : Value).ownBlock) v10 x10_1) ∧ Aside0 (IsS79 w w' g430 t428 x431001_1) ∧ Aside0 (Below w.heap.size w w'))
 case atStart => exact ⟨(y441), (t440), H', ⟨Nat.le_refl _⟩, ⟨by (with_reducible repeat (first | apply Kd.S_alloc | apply Kd.S_drewN | apply Kd.S_drew)); exact Kd.S_mono HO433.out (fun _ hk => ⟨hk.1.2, hk.2⟩)⟩, ⟨by (with_reducible repeat (first | apply Kd.Q_alloc | apply Kd.Q_drewN | apply Kd.Q_drew)); exact Kd.Q_mono HO437.out (fun _ hk => hk.2)⟩, ⟨by (with_reducible repeat (first | apply Kd.R_alloc | apply Kd.R_drewN | apply Kd.R_drew)); exact Kd.R_mono HO443.out (fun _ hk => hk.2)⟩, ⟨HI430.out⟩, ⟨HB.out⟩⟩
 case round =>
  clear H'
  try clear c1
  try clear c2
  try clear p2
  try clear c3
  obtain ⟨x10_1, x431001_1, HA, HK1, HO_7, HO_8, HO_10, HI430, HB⟩ := hrel
  cases gk with
  | zero => exact absurd HA.out (by simp [spec_DrawOrderStarts.l0])
  | succ k1 =>
   have H := HA.out
   clear HA
   simp only [spec_DrawOrderStarts.l0] at H
   by_cases c12 : (x10_1.length : Int) < (t431.length : Int)
   ·rw [if_pos c12] at H
    have c12b0 : decide ((x10_1.length : Int) < (t431.length : Int)) = true := decide_eq_true c12
    have c12b1 : decide (x10_1.length < t431.length) = true := decide_eq_true (Int.ofNat_lt.mp c12)
    clear c12
    obtain ⟨y448, hy448⟩ : ∃ y_ : List Int, y_ = (([] : List Int)) := ⟨_, rfl⟩
    replace H : (spec_DrawOrderStarts.l1 k1 t431 t435 t439 x10_1 y448 0 t428 x431001_1) = some (r1, r2, r3, r4) := by first | (rw [hy448]; with_reducible exact H) | (have H2_ := (Option.bind_some _ _).symm.trans H; rw [hy448]; with_reducible exact H2_) | (have H2_ := (Option.bind_some _ _).symm.trans H; with_reducible exact H2_) | with_reducible exact H | (rw [hy448]; exact H) | exact H
    have Ny448 := Aside0.mk hy448
    clear hy448
    have H' := Aside0.mk H
    clear H
    obtain ⟨Ao13, co13, eo13⟩ := Kd.R_slice HO_10.out
    subst eo13
    obtain ⟨Ao14, co14, eo14⟩ := Kd.S_slice HO_7.out
    subst eo14
    go_wp2_with (first | ((with_reducible refine gate_dst (N := 27) rfl ?_); refine Kd.R_lit (Kd.int .i64) _ 3 ?hg (N := 27) ?hd (xs := ([] : List Int)) (inner := []) (ok := fun _ => True) (okp := fun _ => True) ?hr ?hp (fun _ hk => hk) trivial (Below.refl _ _) (Nat.le_refl _) (by simp) ?_; (case hd => rfl); (case hg => rfl); (case hr => first | (go_simp; done) | (go_simp; rfl)); (case hp => exact (Reps.none _ _)); intro v449 w15 ho16 hb hg_ hnew_; clear hg_ hnew_; (first | rw [← Ny448.out] at ho16 | (simp only [Int.reduceToNat] at ho16; rw [← Ny448.out] at ho16)); have n0_ := Aside0.mk (Kd.S_elder' HO_7.out (Kd.R_base ho16) hb); have n1_ := Aside0.mk (Kd.Q_elder' HO_8.out (Kd.R_base ho16) hb); have n2_ := Aside0.mk (Kd.R_elder' HO_10.out (Kd.R_base ho16) hb); have n3_ := Aside0.mk (Kd.R_lower (Kd.R_new' (Kd.R_new' ho16 (Kd.Q_lt HO_8.out)) (Kd.R_lt HO_10.out)) (below_size HB.out)); have n4_ := Aside0.mk (IsS79.below HI430.out hb); have n5_ := Aside0.mk (below_step HB.out hb); clear HO_7; clear HO_8; clear HO_10; clear HI430; clear HB; have HO_7 := n0_; have HO_8 := n1_; have HO_10 := n2_; have HO450 := n3_; have HI430 := n4_; have HB := n5_; clear n0_ n1_ n2_ n3_ n4_ n5_; clear hb ho16))
    go_loopg [11, 12] k1 (fun kq v11 v12 w' => ∃ (x11_2 : List Int) (x12_2 : Int), v12 = .int .i64 x12_2 ∧ Aside0 (spec_DrawOrderStarts.l1 kq t431 t435 t439 x10_1 x11_2 x12_2 t428 x431001_1 = some (r1, r2, r3, r4)) ∧ Aside0 (kq ≤ k1) ∧ Aside0 (Kd.S k38 38 w' w.heap.size (fun k_ => some k_ ≠ (v436 : Value).ownBlock ∧ some k_ ≠ ((.slice Ao13 x10_1.length co13) : Value).ownBlock ∧ some k_ ≠ (v11 : Value).ownBlock) (.slice Ao14 t431.length co14) t431) ∧ Aside0 (Kd.Q (Kd.int .i64) 3 w' w.heap.size (fun k_ => some k_ ≠ ((.slice Ao13 x10_1.length co13) : Value).ownBlock ∧ some k_ ≠ (v11 : Value).ownBlock) v436 t435) ∧ Aside0 (Kd.R (Kd.int .i64) 3 w' w.heap.size (fun k_ => some k_ ≠ (v436 : Value).ownBlock ∧ some k_ ≠ (v11 : Value).ownBlock) (.slice Ao13 x10_1.length co13) x10_1) ∧ Aside0 (Kd.R (Kd.int .i64) 3 w' w.heap.size (fun k_ => some k_ ≠ (v436 : Value).ownBlock ∧ some k_ ≠ ((.slice Ao13 x10_1.length co13) : Value).ownBlock) v11 x11_2) ∧ Aside0 (IsS79 w w' g430 t428 x431001_1) ∧ Aside0 (Below w.heap.size w w'))
    case atStart => exact ⟨(y448), (0), (by first | rfl | (simp; done) | (simp [*]; done)), H', ⟨Nat.le_refl _⟩, ⟨by (with_reducible repeat (first | apply Kd.S_alloc | apply Kd.S_drewN | apply Kd.S_drew)); exact Kd.S_mono HO_7.out (fun _ hk => ⟨hk.1.1, ⟨hk.1.2, hk.2⟩⟩)⟩, ⟨HO_8.out⟩, ⟨HO_10.out⟩, ⟨by (with_reducible repeat (first | apply Kd.R_alloc | apply Kd.R_drewN | apply Kd.R_drew)); exact Kd.R_mono HO450.out (fun _ hk => ⟨hk.1.2, hk.2⟩)⟩, ⟨HI430.out⟩, ⟨HB.out⟩⟩
    case round =>
     clear H'
     try clear c1
     try clear c2
     try clear p2
     try clear c3
     try clear c12
     try clear c12b0
     try clear c12b1
     try clear c15
     try clear p2
     obtain ⟨x11_2, x12_2, rfl, HA, HK2, HO_7, HO_8, HO_10, HO_11, HI430, HB⟩ := hrel
     cases gk with
     | zero => exact absurd HA.out (by simp [spec_DrawOrderStarts.l1])
     | succ k2 =>
      have H := HA.out
      clear HA
      simp only [spec_DrawOrderStarts.l1] at H
      by_cases c17 : x12_2 < (t431.length : Int)
      ·rw [if_pos c17] at H
       have c17b0 : decide (x12_2 < (t431.length : Int)) = true := decide_eq_true c17
       clear c17
       replace H := Option.bind_eq_some_iff.mp H
       obtain ⟨t461, A180, H⟩ := H
       replace H : (if t461 = true then (spec_DrawOrderStarts.l1 k2 t431 t435 t439 x10_1 x11_2 (wrap64 (x12_2 + 1)) t428 x431001_1) else (if 0 ≤ x12_2 then ((spec_allDone.f k2 ((rd_T38 t431 x12_2).f1) x10_1).bind fun t463 => (if t463 = true then (if x11_2.length < 17592186044416 then (spec_DrawOrderStarts.l1 k2 t431 t435 t439 x10_1 (x11_2 ++ [x12_2]) (wrap64 (x12_2 + 1)) t428 x431001_1) else (none)) else (spec_DrawOrderStarts.l1 k2 t431 t435 t439 x10_1 x11_2 (wrap64 (x12_2 + 1)) t428 x431001_1))) else (none))) = some (r1, r2, r3, r4) := H
       have A18 := Aside0.mk A180
       clear A180
       by_cases c19 : t461 = true
       ·subst c19
        have H1 : (spec_DrawOrderStarts.l1 k2 t431 t435 t439 x10_1 x11_2 (wrap64 (x12_2 + 1)) t428 x431001_1) = some (r1, r2, r3, r4) := by rw [if_pos rfl] at H; exact H
        clear H
        have H := H1
        clear H1
        have H' := Aside0.mk H
        clear H
        go_wp2_with (first | ((with_reducible refine gate_callee (f := 33) rfl ?_); refine goesL_ (some 36) rfl rfl Tryd.func33 (by kernel_rfl) rfl #[.slice Ao13 x10_1.length co13, .int .i64 x12_2] rfl (by (try simp only [List.map_toArray, List.map_cons, List.map_nil]); first | done | rfl | (simp only [List.length_drop, List.length_take]; rfl)) ?_; (with_reducible refine (spec_isIn.calls k2 _ _ x10_1 x12_2 true _ ?side1 ?side2 A18.out).mono ?_); (case side1 => exact (Kd.R_reads' HO_10.out).2.2); (case side2 => exact (Kd.R_reads' HO_10.out).2.1); rintro e w' ⟨rfl, ⟨nd, rfl⟩⟩; refine ⟨_, rfl, ?_⟩))
        go_roundg k2
        case measure => have := HK1.out; have := HK2.out; omega
        case rel => exact ⟨(x11_2), (wrap64 (x12_2 + 1)), (by first | rfl | (simp; done) | (simp [*]; done)), H', ⟨by have := HK1.out; have := HK2.out; omega⟩, ⟨by (with_reducible repeat (first | apply Kd.S_alloc | apply Kd.S_drewN | apply Kd.S_drew)); exact HO_7.out⟩, ⟨by (with_reducible repeat (first | apply Kd.Q_alloc | apply Kd.Q_drewN | apply Kd.Q_drew)); exact HO_8.out⟩, ⟨by (with_reducible repeat (first | apply Kd.R_alloc | apply Kd.R_drewN | apply Kd.R_drew)); exact HO_10.out⟩, ⟨by (with_reducible repeat (first | apply Kd.R_alloc | apply Kd.R_drewN | apply Kd.R_drew)); exact HO_11.out⟩, ⟨by repeat (first | (with_reducible first | exact HI430.out | apply IsS79.alloc | apply IsS79.drewN | apply IsS79.drew | apply IsS79.set_1) | exact HI430.out)⟩, ⟨by repeat (first | (with_reducible first | exact HB.out | apply below_alloc | apply pw_below_drewN | apply below_drew1 | refine below_set ?_ (IsS79.ge HI430.out)) | exact HB.out)⟩⟩
       ·replace c19 := Bool.eq_false_iff.mpr c19
        subst c19
        have H1 : (if 0 ≤ x12_2 then ((spec_allDone.f k2 ((rd_T38 t431 x12_2).f1) x10_1).bind fun t463 => (if t463 = true then (if x11_2.length < 17592186044416 then (spec_DrawOrderStarts.l1 k2 t431 t435 t439 x10_1 (x11_2 ++ [x12_2]) (wrap64 (x12_2 + 1)) t428 x431001_1) else (none)) else (spec_DrawOrderStarts.l1 k2 t431 t435 t439 x10_1 x11_2 (wrap64 (x12_2 + 1)) t428 x431001_1))) else (none)) = some (r1, r2, r3, r4) := by rw [if_neg (show ¬ (false = true) by decide)] at H; exact H
        clear H
        have H := H1
        clear H1
        by_cases c20 : 0 ≤ x12_2
        ·rw [if_pos c20] at H
         have c20b0 : decide (0 ≤ x12_2) = true := decide_eq_true c20
         clear c20
         replace H := Option.bind_eq_some_iff.mp H
         obtain ⟨t463, A210, H⟩ := H
         replace H : (if t463 = true then (if x11_2.length < 17592186044416 then (spec_DrawOrderStarts.l1 k2 t431 t435 t439 x10_1 (x11_2 ++ [x12_2]) (wrap64 (x12_2 + 1)) t428 x431001_1) else (none)) else (spec_DrawOrderStarts.l1 k2 t431 t435 t439 x10_1 x11_2 (wrap64 (x12_2 + 1)) t428 x431001_1)) = some (r1, r2, r3, r4) := H
         have A21 := Aside0.mk A210
         clear A210
         by_cases c22 : t463 = true
         ·subst c22
          have H1 : (if x11_2.length < 17592186044416 then (spec_DrawOrderStarts.l1 k2 t431 t435 t439 x10_1 (x11_2 ++ [x12_2]) (wrap64 (x12_2 + 1)) t428 x431001_1) else (none)) = some (r1, r2, r3, r4) := by rw [if_pos rfl] at H; exact H
          clear H
          have H := H1
          clear H1
          by_cases c23 : x11_2.length < 17592186044416
          ·rw [if_pos c23] at H
           have LMc23 := Aside0.mk c23
           clear c23
           obtain ⟨y464, hy464⟩ : ∃ y_ : List Int, y_ = (x11_2 ++ [x12_2]) := ⟨_, rfl⟩
           replace H : (spec_DrawOrderStarts.l1 k2 t431 t435 t439 x10_1 y464 (wrap64 (x12_2 + 1)) t428 x431001_1) = some (r1, r2, r3, r4) := by first | (rw [hy464]; with_reducible exact H) | (have H2_ := (Option.bind_some _ _).symm.trans H; rw [hy464]; with_reducible exact H2_) | (have H2_ := (Option.bind_some _ _).symm.trans H; with_reducible exact H2_) | with_reducible exact H | (rw [hy464]; exact H) | exact H
           have Ny464 := Aside0.mk hy464
           clear hy464
           have H' := Aside0.mk H
           clear H
           go_wp2_with (first | ((with_reducible refine gate_callee (f := 33) rfl ?_); refine goesL_ (some 36) rfl rfl Tryd.func33 (by kernel_rfl) rfl #[.slice Ao13 x10_1.length co13, .int .i64 x12_2] rfl (by (try simp only [List.map_toArray, List.map_cons, List.map_nil]); first | done | rfl | (simp only [List.length_drop, List.length_take]; rfl)) ?_; (with_reducible refine (spec_isIn.calls k2 _ _ x10_1 x12_2 false _ ?side1 ?side2 A18.out).mono ?_); (case side1 => repeat (first | exact (Kd.R_reads' HO_10.out).2.2 | (with_reducible refine Kd.C_alloc ?_ _) | (with_reducible refine Kd.C_drewN ?_ _) | (with_reducible refine Kd.C_drew ?_))); (case side2 => exact (Kd.R_reads' HO_10.out).2.1); rintro e w' ⟨rfl, ⟨nd, rfl⟩⟩; refine ⟨_, rfl, ?_⟩; have p462 : 0 ≤ (x12_2 : Int) := of_decide_eq_true (by first | (with_reducible assumption) | assumption); have q462 : x12_2 < (t431.length : Int) := of_decide_eq_true (by first | (with_reducible assumption) | assumption); obtain ⟨ad462, A462_1, c462_1, e462, hx462_0, hx462_1, hx462_2, hx462_3, hl462_1, hi462_1⟩ := at_T38 (Kd.S_reads' HO_7.out).2.2 x12_2 p462 q462; cases e462; obtain ⟨ce462, hce462, hMe462, hcc462⟩ := Kd.S_get HO_7.out z38 x12_2 p462 (by first | exact q462 | exact of_decide_eq_true (by first | (with_reducible assumption) | assumption) | (have e_ := (Kd.S_reads' HO_7.out).1; omega)); obtain ⟨ve462_1, rfl, ge462_1⟩ := k38_openM hMe462; have hv462_1 := hcc462 1 _ rfl; rw [add_field _ _ 1 (by omega)] at hv462_1; replace hv462_1 := Option.some.inj (hv462_1.symm.trans hx462_1); rw [hv462_1] at ge462_1; have HL462_1 := Aside0.mk (show Kd.Q (Kd.int .i64) 3 _ _ _ _ ((rd_T38 t431 x12_2).f1) from ge462_1); clear hv462_1 ge462_1; clear hcc462 hce462; have HR462_1 := Aside0.mk hi462_1; have HC462_1 := Aside0.mk hl462_1; clear hi462_1 hl462_1; replace p462 := eq_true p462; replace q462 := eq_true q462) | (go_at_call 34; (with_reducible refine (spec_allDone.calls k2 _ _ ((rd_T38 t431 x12_2).f1) _ _ x10_1 true _ ?side1 ?side2 ?side3 ?side4 A21.out).mono ?_); (case side1 => repeat (first | exact (by repeat (first | (with_reducible exact HR462_1.out) | (with_reducible refine Kd.C_alloc ?_ _) | (with_reducible refine Kd.C_drewN ?_ _) | (with_reducible refine Kd.C_drew ?_) | exact HR462_1.out)) | (with_reducible refine Kd.C_alloc ?_ _) | (with_reducible refine Kd.C_drewN ?_ _) | (with_reducible refine Kd.C_drew ?_))); (case side2 => exact HC462_1.out); (case side3 => repeat (first | exact (Kd.R_reads' HO_10.out).2.2 | (with_reducible refine Kd.C_alloc ?_ _) | (with_reducible refine Kd.C_drewN ?_ _) | (with_reducible refine Kd.C_drew ?_))); (case side4 => exact (Kd.R_reads' HO_10.out).2.1); rintro e w' ⟨rfl, ⟨nd, rfl⟩⟩) | ((with_reducible refine gate_builtin (b := .append) (xs := #[.tmp 47, .tmp 49]) rfl ?_); at_builtin; refine Kd.R_append (Kd.int .i64) (w0 := w) w.heap.size rfl (.tmp 47) (.tmp 49) 23 3 (.int .i64 0) 8 rfl Tryd.underlying23 info3 rfl (by decide) (by omega) u11 x11_2 x12_2 [.int .i64 x12_2] (fun k_ => some k_ ≠ (v436 : Value).ownBlock ∧ some k_ ≠ (.slice Ao13 x10_1.length co13 : Value).ownBlock) (fun _ => False) rfl rfl ?aP (fun _ hk => hk.elim) ?aF ?aO ?aB ?aS ?aL ?_; (case aP => exact rfl); (case aB => exact (by repeat (first | (with_reducible first | exact HB.out | apply below_alloc | apply pw_below_drewN | apply below_drew1 | refine below_set ?_ (IsS79.ge HI430.out)) | exact HB.out))); (case aF => exact (fun k_ hk => ⟨Kd.fresh' (Kd.Q_lt (by (with_reducible repeat (first | apply Kd.Q_alloc | apply Kd.Q_drewN | apply Kd.Q_drew)); exact HO_8.out)) k_ hk, Kd.fresh' (Kd.R_lt (by (with_reducible repeat (first | apply Kd.Q_alloc | apply Kd.Q_drewN | apply Kd.Q_drew)); exact HO_10.out)) k_ hk⟩)); (case aO => exact (by (with_reducible repeat (first | apply Kd.Q_alloc | apply Kd.Q_drewN | apply Kd.Q_drew)); exact HO_11.out)); (case aS => exact (below_size (by repeat (first | (with_reducible first | exact HB.out | apply below_alloc | apply pw_below_drewN | apply below_drew1 | refine below_set ?_ (IsS79.ge HI430.out)) | exact HB.out)))); (case aL => have := LMc23.out; omega); intro v465 w24 ho hb hg hat; rw [← Ny464.out] at ho; have n0_ := Aside0.mk (Kd.S_after (ok := (fun k_ => some k_ ≠ (v436 : Value).ownBlock ∧ some k_ ≠ (.slice Ao13 x10_1.length co13 : Value).ownBlock)) (by (with_reducible repeat (first | apply Kd.S_alloc | apply Kd.S_drewN | apply Kd.S_drew)); exact Kd.S_mono HO_7.out (fun _ hk => ⟨⟨hk.1, hk.2.1⟩, hk.2.2⟩)) hg hat); have n1_ := Aside0.mk (Kd.Q_after (ok := (fun k_ => some k_ ≠ (.slice Ao13 x10_1.length co13 : Value).ownBlock)) (by (with_reducible repeat (first | apply Kd.Q_alloc | apply Kd.Q_drewN | apply Kd.Q_drew)); exact HO_8.out) hg hat); have n2_ := Aside0.mk (Kd.R_after (ok := (fun k_ => some k_ ≠ (v436 : Value).ownBlock)) (by (with_reducible repeat (first | apply Kd.R_alloc | apply Kd.R_drewN | apply Kd.R_drew)); exact HO_10.out) hg hat); have n3_ := Aside0.mk (IsS79.grown (by repeat (first | (with_reducible first | exact HI430.out | apply IsS79.alloc | apply IsS79.drewN | apply IsS79.drew | apply IsS79.set_1) | exact HI430.out)) hg (IsS79.own_ne HI430.out HO_11.out (by decide))); have n4_ := Aside0.mk (Kd.Q_after (ok := (fun k_ => some k_ ≠ (.slice (some ad462) t431.length co14 : Value).ownBlock ∧ some k_ ≠ (v436 : Value).ownBlock ∧ some k_ ≠ (.slice Ao13 x10_1.length co13 : Value).ownBlock)) (by (with_reducible repeat (first | apply Kd.Q_alloc | apply Kd.Q_drewN | apply Kd.Q_drew)); exact Kd.Q_mono HL462_1.out (fun _ hk => ⟨⟨hk.2, ⟨hk.1.1, hk.1.2.1⟩⟩, hk.1.2.2⟩)) hg hat); have n5_ := Aside0.mk (hb); have n6_ := Aside0.mk (ho); clear HO_7; clear HO_8; clear HO_10; clear HI430; clear HL462_1; clear HB; clear HO_11; have HO_7 := n0_; have HO_8 := n1_; have HO_10 := n2_; have HI430 := n3_; have HL462_1 := n4_; have HB := n5_; have HO466 := n6_; clear n0_ n1_ n2_ n3_ n4_ n5_ n6_; clear ho hb hg hat))
           go_roundg k2
           case measure => have := HK1.out; have := HK2.out; omega
           case rel => exact ⟨(y464), (wrap64 (x12_2 + 1)), (by first | rfl | (simp; done) | (simp [*]; done)), H', ⟨by have := HK1.out; have := HK2.out; omega⟩, ⟨by (with_reducible repeat (first | apply Kd.S_alloc | apply Kd.S_drewN | apply Kd.S_drew)); exact Kd.S_mono HO_7.out (fun _ hk => ⟨hk.1.1, ⟨hk.1.2, hk.2⟩⟩)⟩, ⟨HO_8.out⟩, ⟨HO_10.out⟩, ⟨HO466.out⟩, ⟨HI430.out⟩, ⟨HB.out⟩⟩
          ·rw [if_neg c23] at H
           exact absurd H (by simp)
         ·replace c22 := Bool.eq_false_iff.mpr c22
          subst c22
          have H1 : (spec_DrawOrderStarts.l1 k2 t431 t435 t439 x10_1 x11_2 (wrap64 (x12_2 + 1)) t428 x431001_1) = some (r1, r2, r3, r4) := by rw [if_neg (show ¬ (false = true) by decide)] at H; exact H
          clear H
          have H := H1
          clear H1
          have H' := Aside0.mk H
          clear H
          go_wp2_with (first | ((with_reducible refine gate_callee (f := 33) rfl ?_); refine goesL_ (some 36) rfl rfl Tryd.func33 (by kernel_rfl) rfl #[.slice Ao13 x10_1.length co13, .int .i64 x12_2] rfl (by (try simp only [List.map_toArray, List.map_cons, List.map_nil]); first | done | rfl | (simp only [List.length_drop, List.length_take]; rfl)) ?_; (with_reducible refine (spec_isIn.calls k2 _ _ x10_1 x12_2 false _ ?side1 ?side2 A18.out).mono ?_); (case side1 => exact (Kd.R_reads' HO_10.out).2.2); (case side2 => exact (Kd.R_reads' HO_10.out).2.1); rintro e w' ⟨rfl, ⟨nd, rfl⟩⟩; refine ⟨_, rfl, ?_⟩; have p462 : 0 ≤ (x12_2 : Int) := of_decide_eq_true (by first | (with_reducible assumption) | assumption); have q462 : x12_2 < (t431.length : Int) := of_decide_eq_true (by first | (with_reducible assumption) | assumption); obtain ⟨ad462, A462_1, c462_1, e462, hx462_0, hx462_1, hx462_2, hx462_3, hl462_1, hi462_1⟩ := at_T38 (Kd.S_reads' HO_7.out).2.2 x12_2 p462 q462; cases e462; obtain ⟨ce462, hce462, hMe462, hcc462⟩ := Kd.S_get HO_7.out z38 x12_2 p462 (by first | exact q462 | exact of_decide_eq_true (by first | (with_reducible assumption) | assumption) | (have e_ := (Kd.S_reads' HO_7.out).1; omega)); obtain ⟨ve462_1, rfl, ge462_1⟩ := k38_openM hMe462; have hv462_1 := hcc462 1 _ rfl; rw [add_field _ _ 1 (by omega)] at hv462_1; replace hv462_1 := Option.some.inj (hv462_1.symm.trans hx462_1); rw [hv462_1] at ge462_1; have HL462_1 := Aside0.mk (show Kd.Q (Kd.int .i64) 3 _ _ _ _ ((rd_T38 t431 x12_2).f1) from ge462_1); clear hv462_1 ge462_1; clear hcc462 hce462; have HR462_1 := Aside0.mk hi462_1; have HC462_1 := Aside0.mk hl462_1; clear hi462_1 hl462_1; replace p462 := eq_true p462; replace q462 := eq_true q462) | (go_at_call 34; (with_reducible refine (spec_allDone.calls k2 _ _ ((rd_T38 t431 x12_2).f1) _ _ x10_1 false _ ?side1 ?side2 ?side3 ?side4 A21.out).mono ?_); (case side1 => repeat (first | exact (by repeat (first | (with_reducible exact HR462_1.out) | (with_reducible refine Kd.C_alloc ?_ _) | (with_reducible refine Kd.C_drewN ?_ _) | (with_reducible refine Kd.C_drew ?_) | exact HR462_1.out)) | (with_reducible refine Kd.C_alloc ?_ _) | (with_reducible refine Kd.C_drewN ?_ _) | (with_reducible refine Kd.C_drew ?_))); (case side2 => exact HC462_1.out); (case side3 => exact (Kd.R_reads' HO_10.out).2.2); (case side4 => exact (Kd.R_reads' HO_10.out).2.1); rintro e w' ⟨rfl, ⟨nd, rfl⟩⟩))
          go_roundg k2
          case measure => have := HK1.out; have := HK2.out; omega
          case rel => exact ⟨(x11_2), (wrap64 (x12_2 + 1)), (by first | rfl | (simp; done) | (simp [*]; done)), H', ⟨by have := HK1.out; have := HK2.out; omega⟩, ⟨by (with_reducible repeat (first | apply Kd.S_alloc | apply Kd.S_drewN | apply Kd.S_drew)); exact HO_7.out⟩, ⟨by (with_reducible repeat (first | apply Kd.Q_alloc | apply Kd.Q_drewN | apply Kd.Q_drew)); exact HO_8.out⟩, ⟨by (with_reducible repeat (first | apply Kd.R_alloc | apply Kd.R_drewN | apply Kd.R_drew)); exact HO_10.out⟩, ⟨by (with_reducible repeat (first | apply Kd.R_alloc | apply Kd.R_drewN | apply Kd.R_drew)); exact HO_11.out⟩, ⟨by repeat (first | (with_reducible first | exact HI430.out | apply IsS79.alloc | apply IsS79.drewN | apply IsS79.drew | apply IsS79.set_1) | exact HI430.out)⟩, ⟨by repeat (first | (with_reducible first | exact HB.out | apply below_alloc | apply pw_below_drewN | apply below_drew1 | refine below_set ?_ (IsS79.ge HI430.out)) | exact HB.out)⟩⟩
        ·rw [if_neg c20] at H
         exact absurd H (by simp)
      ·rw [if_neg c17] at H
       have c17b0 : decide (x12_2 < (t431.length : Int)) = false := decide_eq_false c17
       clear c17
       by_cases c25 : (x11_2.length : Int) = 0
       ·rw [if_pos c25] at H
        have c25b0 : ((x11_2.length : Int) == 0) = true := beq_iff_eq.mpr c25
        have c25b1 : ((x11_2.length : Int) != 0) = false := bne_eq_false_iff_eq.mpr c25
        clear c25
        replace H := Option.bind_eq_some_iff.mp H
        obtain ⟨⟨t451, t454⟩, A260, H⟩ := H
        replace H : (some (t431, t435, t439, t451)) = some (r1, r2, r3, r4) := H
        have A26 := Aside0.mk A260
        clear A260
        simp only [Option.some.injEq, Prod.mk.injEq] at H
        obtain ⟨rfl, rfl, rfl, rfl⟩ := H
        obtain ⟨Ao27, co27, eo27⟩ := Kd.R_slice HO_11.out
        subst eo27
        go_wp2_with (first | ((with_reducible refine gate_callee (f := 36) rfl ?_); refine goesL_ (some 69) rfl rfl Tryd.func36 (by kernel_rfl) rfl #[.pointer (some ⟨g430, 0, none⟩), .slice Ao13 x10_1.length co13, .int .i64 5] rfl (by (try simp only [List.map_toArray, List.map_cons, List.map_nil]); first | done | rfl | (simp only [List.length_drop, List.length_take]; rfl)) ?_; (with_reducible refine (spec_reader_spoil.calls k2 g430 t428 x431001_1 _ _ x10_1 5 t451 t454 w _ ?side1 ?side2 ?side3 ?side4 ?side5 A26.out).mono ?_); (case side1 => exact HI430.out); (case side2 => exact HB.out); (case side3 => exact (Kd.R_reads' HO_10.out).2.2); (case side4 => exact (Kd.R_reads' HO_10.out).2.1); (case side5 => exact far_slice (IsS79.own_ne HI430.out HO_10.out (by decide))); rintro e w28 ⟨v452, rfl, ho0, hi, hb, hk⟩; refine ⟨_, rfl, ?_⟩; have n0_ := Aside0.mk (Kd.S_mono (Kd.S_told (Kd.S_oldK (IsS79.apartS (show IsS79 w _ g430 t428 x431001_1 from HI430.out) HO_7.out (by decide)) hk) (Kd.Q_base ho0)) (fun _ h_ => h_.1)); have n1_ := Aside0.mk (Kd.Q_mono (Kd.Q_told (Kd.Q_oldK (IsS79.apartQ (show IsS79 w _ g430 t428 x431001_1 from HI430.out) HO_8.out (by decide)) hk) (Kd.Q_base ho0)) (fun _ h_ => h_.1)); have n2_ := Aside0.mk (Kd.R_mono (Kd.R_told (Kd.R_oldK (IsS79.apart (show IsS79 w _ g430 t428 x431001_1 from HI430.out) HO_10.out (by decide)) hk) (Kd.Q_base ho0)) (fun _ h_ => h_.1)); have n3_ := Aside0.mk (Kd.R_mono (Kd.R_told (Kd.R_oldK (IsS79.apart (show IsS79 w _ g430 t428 x431001_1 from HI430.out) HO_11.out (by decide)) hk) (Kd.Q_base ho0)) (fun _ h_ => h_.1)); have n4_ := Aside0.mk (Kd.Q_lower (Kd.Q_new' (Kd.Q_new' (Kd.Q_new' ho0 (Kd.Q_lt HO_8.out)) (Kd.R_lt HO_10.out)) (Kd.R_lt HO_11.out)) (below_size HB.out)); have n5_ := Aside0.mk (hb); have n6_ := Aside0.mk (hi); clear HO_7; clear HO_8; clear HO_10; clear HO_11; clear HB; clear HI430; have HO_7 := n0_; have HO_8 := n1_; have HO_10 := n2_; have HO_11 := n3_; have HO453 := n4_; have HB := n5_; have HI430 := n6_; clear n0_ n1_ n2_ n3_ n4_ n5_ n6_; (try clear hb); (try clear hb2); (try clear hk); (try clear hi); (try clear ho0)))
        refine bodyPost_ret (results_list (rs := [.tmp 2, .tmp 3, .tmp 4, .tmp 5]) rfl (by simp) (.tmp (.tmp (.tmp (.tmp .nil))))) rfl ?_
        exact ⟨_, _, _, by first | rfl | (simp [errW_none, errW_some] <;> rfl) | (simp [*, errW_none, errW_some] <;> rfl), by (with_reducible repeat (first | apply Kd.S_alloc | apply Kd.S_drewN | apply Kd.S_drew)); exact Kd.S_mono HO_7.out (fun _ hk => ⟨hk.1.1, hk.2⟩), by (with_reducible repeat (first | apply Kd.Q_alloc | apply Kd.Q_drewN | apply Kd.Q_drew)); exact Kd.Q_mono HO_8.out (fun _ hk => hk.2), by (with_reducible repeat (first | apply Kd.Q_alloc | apply Kd.Q_drewN | apply Kd.Q_drew)); exact Kd.Q_mono HO453.out (fun _ hk => hk.1.1.2), HB.out⟩
       ·rw [if_neg c25] at H
        have c25b0 : ((x11_2.length : Int) == 0) = false := beq_eq_false_iff_ne.mpr c25
        have c25b1 : ((x11_2.length : Int) != 0) = true := bne_iff_ne.mpr c25
        have c25b2 : ¬ (x11_2 = []) := fun h_ => c25 (by rw [h_]; rfl)
        replace H := Option.bind_eq_some_iff.mp H
        obtain ⟨⟨t455, t456⟩, A290, H⟩ := H
        replace H : (if 0 ≤ t455 then (if t455 < (x11_2.length : Int) then (if x10_1.length < 17592186044416 then (spec_DrawOrderStarts.l0 k2 t431 t435 t439 (x10_1 ++ [rd x11_2 t455]) t428 t456) else (none)) else (none)) else (none)) = some (r1, r2, r3, r4) := H
        have A29 := Aside0.mk A290
        clear A290
        by_cases c30 : 0 ≤ t455
        ·rw [if_pos c30] at H
         have c30b0 : decide (0 ≤ t455) = true := decide_eq_true c30
         clear c30
         by_cases c31 : t455 < (x11_2.length : Int)
         ·rw [if_pos c31] at H
          have c31b0 : decide (t455 < (x11_2.length : Int)) = true := decide_eq_true c31
          clear c31
          by_cases c32 : x10_1.length < 17592186044416
          ·rw [if_pos c32] at H
           have LMc32 := Aside0.mk c32
           clear c32
           obtain ⟨y458, hy458⟩ : ∃ y_ : List Int, y_ = (x10_1 ++ [rd x11_2 t455]) := ⟨_, rfl⟩
           replace H : (spec_DrawOrderStarts.l0 k2 t431 t435 t439 y458 t428 t456) = some (r1, r2, r3, r4) := by first | (rw [hy458]; with_reducible exact H) | (have H2_ := (Option.bind_some _ _).symm.trans H; rw [hy458]; with_reducible exact H2_) | (have H2_ := (Option.bind_some _ _).symm.trans H; with_reducible exact H2_) | with_reducible exact H | (rw [hy458]; exact H) | exact H
           have Ny458 := Aside0.mk hy458
           clear hy458
           have H' := Aside0.mk H
           clear H
           obtain ⟨Ao33, co33, eo33⟩ := Kd.R_slice HO_11.out
           subst eo33
           go_wp2_with (first | ((with_reducible refine gate_callee (f := 35) rfl ?_); refine goesL_ (some 59) rfl rfl Tryd.func35 (by kernel_rfl) rfl #[.pointer (some ⟨g430, 0, none⟩), .int .i64 (x11_2.length : Int)] rfl (by (try simp only [List.map_toArray, List.map_cons, List.map_nil]); first | done | rfl | (simp only [List.length_drop, List.length_take]; rfl)) ?_; (with_reducible refine (spec_reader_pick.calls k2 g430 t428 x431001_1 (x11_2.length : Int) t455 t456 w _ ?side1 ?side2 A29.out).mono ?_); (case side1 => exact HI430.out); (case side2 => exact HB.out); rintro e w34 ⟨rfl, hi, hb, hk⟩; refine ⟨_, rfl, ?_⟩; have n0_ := Aside0.mk (Kd.S_mono (Kd.S_keep (IsS79.apartS (show IsS79 w _ g430 t428 x431001_1 from HI430.out) HO_7.out (by decide)) hk (fun _ h => h.2)) (fun _ h => h.1)); have n1_ := Aside0.mk (Kd.Q_mono (Kd.Q_keep (IsS79.apartQ (show IsS79 w _ g430 t428 x431001_1 from HI430.out) HO_8.out (by decide)) hk (fun _ h => h.2)) (fun _ h => h.1)); have n2_ := Aside0.mk (Kd.R_mono (Kd.R_keep (IsS79.apart (show IsS79 w _ g430 t428 x431001_1 from HI430.out) HO_10.out (by decide)) hk (fun _ h => h.2)) (fun _ h => h.1)); have n3_ := Aside0.mk (Kd.R_mono (Kd.R_keep (IsS79.apart (show IsS79 w _ g430 t428 x431001_1 from HI430.out) HO_11.out (by decide)) hk (fun _ h => h.2)) (fun _ h => h.1)); have n4_ := Aside0.mk (hb); have n5_ := Aside0.mk (hi); clear HO_7; clear HO_8; clear HO_10; clear HO_11; clear HB; clear HI430; have HO_7 := n0_; have HO_8 := n1_; have HO_10 := n2_; have HO_11 := n3_; have HB := n4_; have HI430 := n5_; clear n0_ n1_ n2_ n3_ n4_ n5_; (try clear hb); (try clear hb2); (try clear hk); (try clear hi); have p457 : 0 ≤ (t455 : Int) := of_decide_eq_true (by first | (with_reducible assumption) | assumption); have q457 : t455 < (x11_2.length : Int) := of_decide_eq_true (by first | (with_reducible assumption) | assumption); obtain ⟨ad457, e457, hx457_0⟩ := Kd.at_int (Kd.R_reads' HO_11.out).2.2 t455 p457 q457; cases e457; replace p457 := eq_true p457; replace q457 := eq_true q457) | ((with_reducible refine gate_builtin (b := .append) (xs := #[.tmp 54, .tmp 62]) rfl ?_); at_builtin; refine Kd.R_append (Kd.int .i64) (w0 := w) w.heap.size rfl (.tmp 54) (.tmp 62) 23 3 (.int .i64 0) 8 rfl Tryd.underlying23 info3 rfl (by decide) (by omega) (.slice Ao13 x10_1.length co13) x10_1 (rd x11_2 t455) [.int .i64 (rd x11_2 t455)] (fun k_ => some k_ ≠ (v436 : Value).ownBlock ∧ some k_ ≠ (.slice (some ad457) x11_2.length co33 : Value).ownBlock) (fun _ => False) rfl rfl ?aP (fun _ hk => hk.elim) ?aF ?aO ?aB ?aS ?aL ?_; (case aP => exact rfl); (case aB => exact HB.out); (case aF => exact (fun k_ hk => ⟨Kd.fresh' (Kd.Q_lt HO_8.out) k_ hk, Kd.fresh' (Kd.R_lt HO_11.out) k_ hk⟩)); (case aO => exact HO_10.out); (case aS => exact (below_size HB.out)); (case aL => have := LMc32.out; omega); intro v459 w35 ho hb hg hat; rw [← Ny458.out] at ho; have n0_ := Aside0.mk (Kd.S_after (ok := (fun k_ => some k_ ≠ (v436 : Value).ownBlock ∧ some k_ ≠ (.slice (some ad457) x11_2.length co33 : Value).ownBlock)) (Kd.S_mono HO_7.out (fun _ hk => ⟨⟨hk.1, hk.2.2⟩, hk.2.1⟩)) hg hat); have n1_ := Aside0.mk (Kd.Q_after (ok := (fun k_ => some k_ ≠ (.slice (some ad457) x11_2.length co33 : Value).ownBlock)) (Kd.Q_mono HO_8.out (fun _ hk => ⟨hk.2, hk.1⟩)) hg hat); have n2_ := Aside0.mk (Kd.R_after (ok := (fun k_ => some k_ ≠ (v436 : Value).ownBlock)) HO_11.out hg hat); have n3_ := Aside0.mk (IsS79.grown HI430.out hg (IsS79.own_ne HI430.out HO_10.out (by decide))); have n4_ := Aside0.mk (hb); have n5_ := Aside0.mk (ho); clear HO_7; clear HO_8; clear HO_11; clear HI430; clear HB; clear HO_10; have HO_7 := n0_; have HO_8 := n1_; have HO_11 := n2_; have HI430 := n3_; have HB := n4_; have HO460 := n5_; clear n0_ n1_ n2_ n3_ n4_ n5_; clear ho hb hg hat))
           go_roundg k2
           case measure => have := HK1.out; have := HK2.out; omega
           case rel => exact ⟨(y458), (t456), H', ⟨by have := HK1.out; have := HK2.out; omega⟩, ⟨by (with_reducible repeat (first | apply Kd.S_alloc | apply Kd.S_drewN | apply Kd.S_drew)); exact Kd.S_mono HO_7.out (fun _ hk => ⟨hk.1.1, hk.2⟩)⟩, ⟨by (with_reducible repeat (first | apply Kd.Q_alloc | apply Kd.Q_drewN | apply Kd.Q_drew)); exact Kd.Q_mono HO_8.out (fun _ hk => hk.2)⟩, ⟨by (with_reducible repeat (first | apply Kd.R_alloc | apply Kd.R_drewN | apply Kd.R_drew)); exact Kd.R_mono HO460.out (fun _ hk => hk.1)⟩, ⟨HI430.out⟩, ⟨HB.out⟩⟩
          ·rw [if_neg c32] at H
           exact absurd H (by simp)
         ·rw [if_neg c31] at H
          exact absurd H (by simp)
        ·rw [if_neg c30] at H
         exact absurd H (by simp)
   ·rw [if_neg c12] at H
    have c12b0 : decide ((x10_1.length : Int) < (t431.length : Int)) = false := decide_eq_false c12
    have c12b1 : decide (x10_1.length < t431.length) = false := decide_eq_false (fun h => c12 (Int.ofNat_lt.mpr h))
    clear c12
    replace H := Option.bind_eq_some_iff.mp H
    obtain ⟨⟨t444, t447⟩, A360, H⟩ := H
    replace H : (some (t431, t435, t439, t444)) = some (r1, r2, r3, r4) := H
    have A36 := Aside0.mk A360
    clear A360
    simp only [Option.some.injEq, Prod.mk.injEq] at H
    obtain ⟨rfl, rfl, rfl, rfl⟩ := H
    obtain ⟨Ao37, co37, eo37⟩ := Kd.R_slice HO_10.out
    subst eo37
    obtain ⟨Ao38, co38, eo38⟩ := Kd.S_slice HO_7.out
    subst eo38
    go_wp2_with (first | ((with_reducible refine gate_callee (f := 36) rfl ?_); refine goesL_ (some 69) rfl rfl Tryd.func36 (by kernel_rfl) rfl #[.pointer (some ⟨g430, 0, none⟩), .slice Ao37 x10_1.length co37, .int .i64 5] rfl (by (try simp only [List.map_toArray, List.map_cons, List.map_nil]); first | done | rfl | (simp only [List.length_drop, List.length_take]; rfl)) ?_; (with_reducible refine (spec_reader_spoil.calls k1 g430 t428 x431001_1 _ _ x10_1 5 t444 t447 w _ ?side1 ?side2 ?side3 ?side4 ?side5 A36.out).mono ?_); (case side1 => exact HI430.out); (case side2 => exact HB.out); (case side3 => exact (Kd.R_reads' HO_10.out).2.2); (case side4 => exact (Kd.R_reads' HO_10.out).2.1); (case side5 => exact far_slice (IsS79.own_ne HI430.out HO_10.out (by decide))); rintro e w39 ⟨v445, rfl, ho0, hi, hb, hk⟩; refine ⟨_, rfl, ?_⟩; have n0_ := Aside0.mk (Kd.S_mono (Kd.S_told (Kd.S_oldK (IsS79.apartS (show IsS79 w _ g430 t428 x431001_1 from HI430.out) HO_7.out (by decide)) hk) (Kd.Q_base ho0)) (fun _ h_ => h_.1)); have n1_ := Aside0.mk (Kd.Q_mono (Kd.Q_told (Kd.Q_oldK (IsS79.apartQ (show IsS79 w _ g430 t428 x431001_1 from HI430.out) HO_8.out (by decide)) hk) (Kd.Q_base ho0)) (fun _ h_ => h_.1)); have n2_ := Aside0.mk (Kd.R_mono (Kd.R_told (Kd.R_oldK (IsS79.apart (show IsS79 w _ g430 t428 x431001_1 from HI430.out) HO_10.out (by decide)) hk) (Kd.Q_base ho0)) (fun _ h_ => h_.1)); have n3_ := Aside0.mk (Kd.Q_lower (Kd.Q_new' (Kd.Q_new' ho0 (Kd.Q_lt HO_8.out)) (Kd.R_lt HO_10.out)) (below_size HB.out)); have n4_ := Aside0.mk (hb); have n5_ := Aside0.mk (hi); clear HO_7; clear HO_8; clear HO_10; clear HB; clear HI430; have HO_7 := n0_; have HO_8 := n1_; have HO_10 := n2_; have HO446 := n3_; have HB := n4_; have HI430 := n5_; clear n0_ n1_ n2_ n3_ n4_ n5_; (try clear hb); (try clear hb2); (try clear hk); (try clear hi); (try clear ho0)))
    refine bodyPost_ret (results_list (rs := [.tmp 2, .tmp 3, .tmp 4, .tmp 5]) rfl (by simp) (.tmp (.tmp (.tmp (.tmp .nil))))) rfl ?_
    exact ⟨_, _, _, by first | rfl | (simp [errW_none, errW_some] <;> rfl) | (simp [*, errW_none, errW_some] <;> rfl), by (with_reducible repeat (first | apply Kd.S_alloc | apply Kd.S_drewN | apply Kd.S_drew)); exact Kd.S_mono HO_7.out (fun _ hk => ⟨hk.1.1, hk.2⟩), by (with_reducible repeat (first | apply Kd.Q_alloc | apply Kd.Q_drewN | apply Kd.Q_drew)); exact Kd.Q_mono HO_8.out (fun _ hk => hk.2), by (with_reducible repeat (first | apply Kd.Q_alloc | apply Kd.Q_drewN | apply Kd.Q_drew)); exact Kd.Q_mono HO446.out (fun _ hk => hk.1.2), HB.out⟩
end Go.Proofs.YtnhkajanbfgbiaaDoor.P
end
section
set_option linter.unusedVariables false
set_option linter.unusedSimpArgs false
namespace Go.Proofs.YtnhkajanbfgbiaaDoor.Core
open Go Go.RowKit Go.Proofs.YtnhkajanbfgbiaaDoorW.PrintWords Go.Proofs.YtnhkajanbfgbiaaDoorW.PrintMore Go.Proofs.YtnhkajanbfgbiaaDoor.P
abbrev big : Nat := 4611686018427387904
theorem w64s {n : Nat} (h : n < big) : wrap64 ((n : Int) + 1) = ((n + 1 : Nat) : Int) := by rw [w64 (by omega) (by unfold big at h; omega)]; omega
theorem inRange_eq (x a b : Int) : spec_inRange.f x a b = some (decide (a ≤ x ∧ x ≤ b)) := by
 unfold spec_inRange.f
 by_cases h : a ≤ x
 ·rw [if_pos h]; simp; omega
 ·rw [if_neg h]; simp; omega
theorem copyInts_eq {l : List Int} (h : l.length < big) (h2 : l.length < 17592186044416) : spec_copyInts.f l = some l := by
 unfold spec_copyInts.f
 simp [h2]
theorem ev_isIn_from (L : List Int) (x : Int) (hL : L.length < big) : ∀ (r pre : List Int), L = pre ++ r → Ev (fun k => spec_isIn.l0 k L x (pre.length : Int)) (decide (x ∈ r))
 | [], pre, hp => by
  refine Ev.succ ((Ev.const _).of fun k => ?_)
  rw [List.append_nil] at hp
  subst hp
  rw [spec_isIn.l0, if_neg (by omega)]
  simp
 | y :: r, pre, hp => by
  have hlen : L.length = pre.length + (r.length + 1) := by rw [hp]; simp
  have hrd : rd L (pre.length : Int) = y := by rw [hp]; exact rd_mid rfl
  refine Ev.succ ?_
  by_cases hy : y = x
  ·refine (Ev.const _).of fun k => ?_
   rw [spec_isIn.l0, if_pos (by omega), if_pos (by omega), hrd, if_pos hy]
   simp [hy]
  ·have ih := ev_isIn_from L x hL r (pre ++ [y]) (by rw [hp]; simp)
   have e : decide (x ∈ y :: r) = decide (x ∈ r) := by
    have : x ≠ y := fun h => hy h.symm
    simp [this]
   rw [e]
   refine ih.of fun k => ?_
   rw [spec_isIn.l0, if_pos (by omega), if_pos (by omega), hrd, if_neg hy, w64s (by omega)]
   simp
theorem ev_isIn {L : List Int} (hL : L.length < big) (x : Int) : Ev (fun k => spec_isIn.f k L x) (decide (x ∈ L)) := ev_isIn_from L x hL L [] rfl
theorem ev_allIn_from (L : List Int) (a b : Int) (hL : L.length < big) : ∀ (r pre : List Int), L = pre ++ r → Ev (fun k => spec_allIn.l0 k L a b (pre.length : Int)) (decide (∀ x ∈ r, a ≤ x ∧ x ≤ b))
 | [], pre, hp => by
  refine Ev.succ ((Ev.const _).of fun k => ?_)
  rw [List.append_nil] at hp
  subst hp
  rw [spec_allIn.l0, if_neg (by omega)]
  simp
 | y :: r, pre, hp => by
  have hlen : L.length = pre.length + (r.length + 1) := by rw [hp]; simp
  have hrd : rd L (pre.length : Int) = y := by rw [hp]; exact rd_mid rfl
  refine Ev.succ ?_
  by_cases hy : a ≤ y ∧ y ≤ b
  ·have ih := ev_allIn_from L a b hL r (pre ++ [y]) (by rw [hp]; simp)
   have e : decide (∀ x ∈ y :: r, a ≤ x ∧ x ≤ b) = decide (∀ x ∈ r, a ≤ x ∧ x ≤ b) := by simp [hy]
   rw [e]
   refine ih.of fun k => ?_
   rw [spec_allIn.l0, if_pos (by omega), if_pos (by omega), hrd, inRange_eq, decide_eq_true hy, Option.bind_some, if_pos rfl, w64s (by omega)]
   simp
  ·refine (Ev.const _).of fun k => ?_
   rw [spec_allIn.l0, if_pos (by omega), if_pos (by omega), hrd, inRange_eq, decide_eq_false hy, Option.bind_some, if_neg (by simp)]
   simp only [Option.some.injEq]
   rw [eq_comm, decide_eq_false_iff_not]
   exact fun h => hy (h y List.mem_cons_self)
theorem ev_allIn {L : List Int} (hL : L.length < big) (a b : Int) : Ev (fun k => spec_allIn.f k L a b) (decide (∀ x ∈ L, a ≤ x ∧ x ≤ b)) := ev_allIn_from L a b hL L [] rfl
def ascD : List Int → Bool
 | [] => true
 | [_] => true
 | x :: y :: r => decide (x < y) && ascD (y :: r)
theorem ev_asc_from (L : List Int) (hL : L.length < big) : ∀ (r pre : List Int) (x : Int), L = pre ++ x :: r → Ev (fun k => spec_ascends.l0 k L ((pre.length + 1 : Nat) : Int)) (ascD (x :: r))
 | [], pre, x, hp => by
  have hlen : L.length = pre.length + 1 := by rw [hp]; simp
  refine Ev.succ ((Ev.const _).of fun k => ?_)
  rw [spec_ascends.l0, if_neg (by omega)]
  rfl
 | y :: r, pre, x, hp => by
  have hlen : L.length = pre.length + (r.length + 1 + 1) := by rw [hp]; simp
  have hw : wrap64 (((pre.length + 1 : Nat) : Int) - 1) = (pre.length : Int) := by rw [w64 (by omega) (by unfold big at hL; omega)]; omega
  have hrd : rd L (pre.length : Int) = x := by rw [hp]; exact rd_mid rfl
  have hrd2 : rd L ((pre.length + 1 : Nat) : Int) = y := by
   have : L = (pre ++ [x]) ++ y :: r := by rw [hp]; simp
   rw [this]; exact rd_mid (by simp)
  refine Ev.succ ?_
  by_cases hy : x < y
  ·have ih := ev_asc_from L hL r (pre ++ [x]) y (by rw [hp]; simp)
   have e : ascD (x :: y :: r) = ascD (y :: r) := by simp [ascD, hy]
   rw [e]
   refine ih.of fun k => ?_
   rw [spec_ascends.l0, if_pos (by omega), if_pos (by omega), hw, if_pos (by omega), if_pos (by omega), hrd, hrd2, if_neg (by omega), w64s (by omega)]
   simp
  ·have e : ascD (x :: y :: r) = false := by simp [ascD, hy]
   rw [e]
   refine (Ev.const _).of fun k => ?_
   rw [spec_ascends.l0, if_pos (by omega), if_pos (by omega), hw, if_pos (by omega), if_pos (by omega), hrd, hrd2, if_pos (by omega)]
theorem ev_ascends {L : List Int} (hL : L.length < big) : Ev (fun k => spec_ascends.f k L) (ascD L) := by
 cases L with
 | nil =>
  refine Ev.of (Ev.succ ((Ev.const true).of (g := fun k => spec_ascends.l0 (k + 1) [] 1) fun k => ?_)) (fun k => rfl)
  rw [spec_ascends.l0, if_neg (by simp)]
 | cons x r => exact ev_asc_from (x :: r) hL r [] x rfl
theorem ev_allDone_from (L M : List Int) (hL : L.length < big) (hM : M.length < big) : ∀ (r pre : List Int), L = pre ++ r → Ev (fun k => spec_allDone.l0 k L M (pre.length : Int)) (decide (∀ x ∈ r, x ∈ M))
 | [], pre, hp => by
  refine Ev.succ ((Ev.const _).of fun k => ?_)
  rw [List.append_nil] at hp
  subst hp
  rw [spec_allDone.l0, if_neg (by omega)]
  simp
 | y :: r, pre, hp => by
  have hlen : L.length = pre.length + (r.length + 1) := by rw [hp]; simp
  have hrd : rd L (pre.length : Int) = y := by rw [hp]; exact rd_mid rfl
  have hi := ev_isIn hM y
  refine Ev.succ ?_
  by_cases hy : y ∈ M
  ·have ih := ev_allDone_from L M hL hM r (pre ++ [y]) (by rw [hp]; simp)
   have e : decide (∀ x ∈ y :: r, x ∈ M) = decide (∀ x ∈ r, x ∈ M) := by simp [hy]
   rw [e]
   rw [decide_eq_true hy] at hi
   refine (hi.bind (g := fun k t => if t = true then spec_allDone.l0 k L M ((pre ++ [y]).length : Int) else some false) (ih.of fun k => if_pos rfl)).of fun k => ?_
   rw [spec_allDone.l0, if_pos (by omega), if_pos (by omega), hrd, w64s (by omega)]
   simp
  ·have e : decide (∀ x ∈ y :: r, x ∈ M) = false := by
    rw [decide_eq_false_iff_not]
    exact fun h => hy (h y List.mem_cons_self)
   rw [e]
   rw [decide_eq_false hy] at hi
   refine (hi.bind (g := fun k t => if t = true then spec_allDone.l0 k L M ((pre ++ [y]).length : Int) else some false) ((Ev.const false).of fun k => if_neg (by simp))).of fun k => ?_
   rw [spec_allDone.l0, if_pos (by omega), if_pos (by omega), hrd, w64s (by omega)]
   simp
theorem ev_allDone {L M : List Int} (hL : L.length < big) (hM : M.length < big) : Ev (fun k => spec_allDone.f k L M) (decide (∀ x ∈ L, x ∈ M)) := ev_allDone_from L M hL hM L [] rfl
def needsOk (n : Nat) (l : List Int) : Prop := (∀ x ∈ l, 0 ≤ x ∧ x ≤ (n : Int) - 1) ∧ ascD l = true
instance (n : Nat) (l : List Int) : Decidable (needsOk n l) := by unfold needsOk; infer_instance
theorem ev_validTask {t : Tk} (ht : t.f1.length < big) {n : Nat} (hn : n < big) : Ev (fun k => spec_validTask.f k t.f0 t.f1 t.f2 t.f3 (n : Int)) (decide (taskOk t ∧ needsOk n t.f1)) := by
 have hw : wrap64 ((n : Int) - 1) = (n : Int) - 1 := w64 (by omega) (by unfold big at hn; omega)
 have hA := ev_allIn ht 0 ((n : Int) - 1)
 have hB := ev_ascends ht
 by_cases h1 : 1 ≤ t.f0 ∧ t.f0 ≤ 20
 ·by_cases h2 : 0 ≤ t.f2 ∧ t.f2 ≤ 2
  ·by_cases h3 : 1 ≤ t.f3 ∧ t.f3 ≤ 4
   ·have hok : taskOk t := ⟨h1, h2, h3⟩
    have hu : ∀ k, spec_validTask.f k t.f0 t.f1 t.f2 t.f3 (n : Int) = (spec_allIn.f k t.f1 0 ((n : Int) - 1)).bind fun t113 => (if t113 = true then ((spec_ascends.f k t.f1).bind fun t114 => (some t114)) else (some false)) := by
     intro k
     unfold spec_validTask.f
     rw [inRange_eq, inRange_eq, inRange_eq, decide_eq_true h1, decide_eq_true h2, decide_eq_true h3, hw]
     rfl
    refine Ev.of ?_ hu
    refine (hA.bind (g := fun k t113 => if t113 = true then ((spec_ascends.f k t.f1).bind fun t114 => (some t114)) else (some false)) (b := decide (taskOk t ∧ needsOk n t.f1)) ?_)
    by_cases h4 : ∀ x ∈ t.f1, 0 ≤ x ∧ x ≤ (n : Int) - 1
    ·rw [decide_eq_true h4]
     have e : decide (taskOk t ∧ needsOk n t.f1) = ascD t.f1 := by
      cases h5 : ascD t.f1
      ·rw [decide_eq_false_iff_not]; intro h; have := h.2.2; rw [h5] at this; cases this
      ·rw [decide_eq_true_eq]; exact ⟨hok, h4, h5⟩
     rw [e]
     refine (hB.bind (g := fun _ t114 => some t114) (Ev.const _)).of fun k => ?_
     rw [if_pos rfl]
    ·rw [decide_eq_false h4]
     have e : decide (taskOk t ∧ needsOk n t.f1) = false := by rw [decide_eq_false_iff_not]; exact fun h => h4 h.2.1
     rw [e]
     exact (Ev.const false).of fun k => if_neg (by simp)
   ·have e : decide (taskOk t ∧ needsOk n t.f1) = false := by rw [decide_eq_false_iff_not]; exact fun h => h3 h.1.2.2
    rw [e]
    refine (Ev.const false).of fun k => ?_
    unfold spec_validTask.f
    rw [inRange_eq, inRange_eq, inRange_eq, decide_eq_true h1, decide_eq_true h2, decide_eq_false h3]
    rfl
  ·have e : decide (taskOk t ∧ needsOk n t.f1) = false := by rw [decide_eq_false_iff_not]; exact fun h => h2 h.1.2.1
   rw [e]
   refine (Ev.const false).of fun k => ?_
   unfold spec_validTask.f
   rw [inRange_eq, inRange_eq, decide_eq_true h1, decide_eq_false h2]
   rfl
 ·have e : decide (taskOk t ∧ needsOk n t.f1) = false := by rw [decide_eq_false_iff_not]; exact fun h => h1 h.1.1
  rw [e]
  refine (Ev.const false).of fun k => ?_
  unfold spec_validTask.f
  rw [inRange_eq, decide_eq_false h1]
  rfl
/-- All lists are of a size that fits. -/
def Fits (g : List Tk) : Prop := g.length < big ∧ ∀ t ∈ g, t.f1.length < big
theorem ev_tasksFine_from (g : List Tk) (hg : Fits g) : ∀ (r pre : List Tk), g = pre ++ r → Ev (fun k => spec_tasksFine.l0 k g (pre.length : Int)) (decide ((∀ t ∈ r, taskOk t ∧ needsOk g.length t.f1) ∧ g.length ≤ 8))
 | [], pre, hp => by
  refine Ev.succ ((Ev.const _).of fun k => ?_)
  rw [List.append_nil] at hp
  subst hp
  rw [spec_tasksFine.l0, if_neg (by omega)]
  congr 1
  rw [decide_eq_decide]
  constructor
  ·intro h; exact ⟨by simp, by omega⟩
  ·intro h; omega
 | t :: r, pre, hp => by
  have hlen : g.length = pre.length + (r.length + 1) := by rw [hp]; simp
  have hbig := hg.1
  have hrd : rd_T38 g (pre.length : Int) = t := by rw [hp]; exact rdT_mid rfl
  have hv := ev_validTask (hg.2 t (by rw [hp]; simp)) hg.1
  refine Ev.succ ?_
  by_cases hy : taskOk t ∧ needsOk g.length t.f1
  ·have ih := ev_tasksFine_from g hg r (pre ++ [t]) (by rw [hp]; simp)
   have e : decide ((∀ t' ∈ t :: r, taskOk t' ∧ needsOk g.length t'.f1) ∧ g.length ≤ 8) = decide ((∀ t ∈ r, taskOk t ∧ needsOk g.length t.f1) ∧ g.length ≤ 8) := by simp [hy]
   rw [e]
   rw [decide_eq_true hy] at hv
   refine (hv.bind (g := fun k b => if b = true then spec_tasksFine.l0 k g ((pre ++ [t]).length : Int) else some false) (ih.of fun k => if_pos rfl)).of fun k => ?_
   rw [spec_tasksFine.l0, if_pos (by omega), if_pos (by omega), hrd, w64s (by omega)]
   simp
  ·have e : decide ((∀ t' ∈ t :: r, taskOk t' ∧ needsOk g.length t'.f1) ∧ g.length ≤ 8) = false := by
    rw [decide_eq_false_iff_not]
    exact fun h => hy (h.1 t List.mem_cons_self)
   rw [e]
   rw [decide_eq_false hy] at hv
   refine (hv.bind (g := fun k b => if b = true then spec_tasksFine.l0 k g ((pre ++ [t]).length : Int) else some false) ((Ev.const false).of fun k => if_neg (by simp))).of fun k => ?_
   rw [spec_tasksFine.l0, if_pos (by omega), if_pos (by omega), hrd, w64s (by omega)]
   simp
def fineD (g : List Tk) : Prop := (∀ t ∈ g, taskOk t ∧ needsOk g.length t.f1) ∧ g.length ≤ 8
instance (g : List Tk) : Decidable (fineD g) := by unfold fineD; infer_instance
theorem ev_tasksFine {g : List Tk} (hg : Fits g) : Ev (fun k => spec_tasksFine.f k g) (decide (fineD g)) := ev_tasksFine_from g hg g [] rfl
end Go.Proofs.YtnhkajanbfgbiaaDoor.Core
end
section
set_option linter.unusedVariables false
set_option linter.unusedSimpArgs false
namespace Go.Proofs.YtnhkajanbfgbiaaDoor.Core
open Go Go.RowKit Go.Proofs.YtnhkajanbfgbiaaDoorW.PrintWords Go.Proofs.YtnhkajanbfgbiaaDoorW.PrintMore Go.Proofs.YtnhkajanbfgbiaaDoor.P
/-- A reader's state: few bytes, not far read. -/
def RS (s0 : List Int) (N p : Int) : Prop := s0.length ≤ 2000 ∧ (∀ x ∈ s0, 0 ≤ x ∧ x ≤ 255) ∧ 0 ≤ p ∧ p ≤ N ∧ N ≤ 100000
theorem RS.mono {s0 : List Int} {N M p : Int} (h : RS s0 N p) (hM : N ≤ M) (h2 : M ≤ 100000) : RS s0 M p := ⟨h.1, h.2.1, h.2.2.1, by have := h.2.2.2.1; omega, h2⟩
theorem rd_byte {s0 : List Int} {N p i : Int} (h : RS s0 N p) (h0 : 0 ≤ i) (h1 : i < (s0.length : Int)) : 0 ≤ rd s0 i ∧ rd s0 i ≤ 255 := by
 refine h.2.1 _ ?_
 unfold rd
 rw [List.getD_eq_getElem?_getD, List.getElem?_eq_getElem (by omega), Option.getD_some]
 exact List.getElem_mem _
/-- What pick answers. -/
def PickOk (n : Int) (s0 : List Int) (N : Int) (r : Int × Int) : Prop := (n < 1 → r.1 = 0) ∧ (1 ≤ n → 0 ≤ r.1 ∧ r.1 < n) ∧ RS s0 (N + 1) r.2
theorem ev_pick {s0 : List Int} {N p n : Int} (h : RS s0 N p) (hN : N < 100000) : EvP (fun k => spec_reader_pick.f k s0 p n) (PickOk n s0 N) := by
 obtain ⟨hl, hb, h0, h1, _⟩ := h
 have hp : wrap64 (p + 1) = p + 1 := w64 (by omega) (by omega)
 have hp1 : wrap64 (p + 1 - 1) = p := by rw [Int.add_sub_cancel]; exact w64 (by omega) (by omega)
 have hRS : RS s0 (N + 1) (p + 1) := ⟨hl, hb, by omega, by omega, by omega⟩
 have hz : EvP (fun k => spec_reader_pick.j0 k n true s0 (p + 1)) (fun r => r = (0, p + 1)) := by
  refine EvP.succ ?_
  simp only [spec_reader_pick.j0, if_true]
  exact EvP.ret rfl
 unfold spec_reader_pick.f
 rw [hp]
 refine EvP.ite (fun hn => hz.mono fun a e => ?_) (fun hn => ?_)
 ·subst e; exact ⟨fun _ => rfl, fun _ => by omega, hRS⟩
 by_cases he : s0.length = 0
 ·rw [show ((s0.length : Int) == 0) = true by simp [he]]
  exact hz.mono fun a e => by subst e; exact ⟨fun _ => rfl, fun _ => by omega, hRS⟩
 rw [show ((s0.length : Int) == 0) = false from beq_eq_false_iff_ne.2 (by omega)]
 refine EvP.succ ?_
 simp only [spec_reader_pick.j0, hp1, Bool.false_eq_true, if_false]
 refine EvP.ite (fun hlt => ?_) (fun hge => ?_)
 ·have hr := hb (rd s0 p) (by
   unfold rd
   rw [List.getD_eq_getElem?_getD, List.getElem?_eq_getElem (by omega), Option.getD_some]
   exact List.getElem_mem _)
  refine EvP.pos h0 (EvP.neg (by omega) (EvP.ret ?_))
  rw [w64 (n := rd s0 p) (by omega) (by omega)]
  exact ⟨fun _ => by omega, fun _ => tmod_lt hr.1 (by omega), hRS⟩
 ·have hpos : (0 : Int) < s0.length := by omega
  have hm1 := tmod_lt h0 hpos
  have h7 : wrap64 (p * 7) = p * 7 := w64 (by omega) (by omega)
  have h73 : wrap64 (p * 7 + 3) = p * 7 + 3 := w64 (by omega) (by omega)
  have hm2 := tmod_lt (a := p * 7 + 3) (by omega) hpos
  have hd := tdiv_le h0 hpos
  have hr1 := rd_byte ⟨hl, hb, h0, h1, by omega⟩ hm1.1 hm1.2
  have hr2 := rd_byte ⟨hl, hb, h0, h1, by omega⟩ hm2.1 hm2.2
  rw [h7, h73]
  refine EvP.neg (by omega) (EvP.pos hm1.1 (EvP.pos hm1.2 (EvP.pos hm2.1 (EvP.pos hm2.2 (EvP.neg (by omega) (EvP.ret ?_))))))
  generalize rd s0 (Int.tmod p s0.length) = x1 at *
  generalize rd s0 (Int.tmod (p * 7 + 3) s0.length) = x2 at *
  generalize Int.tdiv p s0.length = dd at *
  have e : wrap64 (wrap64 (wrap64 (wrap64 (wrap64 x1 * 131) + wrap64 (wrap64 x2 * 1117)) + wrap64 (p * 29)) + wrap64 (wrap64 dd * 53)) = x1 * 131 + x2 * 1117 + p * 29 + dd * 53 := by
   rw [w64 (n := x1) (by omega) (by omega), w64 (n := x2) (by omega) (by omega), w64 (n := dd) (by omega) (by omega), w64 (n := x1 * 131) (by omega) (by omega), w64 (n := x2 * 1117) (by omega) (by omega), w64 (n := x1 * 131 + x2 * 1117) (by omega) (by omega), w64 (n := p * 29) (by omega) (by omega), w64 (n := x1 * 131 + x2 * 1117 + p * 29) (by omega) (by omega), w64 (n := dd * 53) (by omega) (by omega), w64 (by omega) (by omega)]
  rw [e]
  generalize hy : x1 * 131 + x2 * 1117 + p * 29 + dd * 53 = y at *
  have hq := tdiv_le (a := y) (n := 64) (by omega) (by omega)
  rw [w64 (n := Int.tdiv y 64) (by omega) (by omega)]
  have hx := i64_xor y (Int.tdiv y 64) (by omega) (by omega) (by omega) (by omega)
  exact ⟨fun _ => by omega, fun _ => tmod_lt hx.1 (by omega), hRS⟩
theorem ev_one {s0 : List Int} {N p : Int} (h : RS s0 N p) (hN : N < 100000) (L : List Int) (hL : 0 < L.length) : EvP (fun k => spec_reader_one.f k s0 p L) (fun r => r.1 ∈ L ∧ RS s0 (N + 1) r.2) := by
 unfold spec_reader_one.f
 refine (ev_pick h hN).bind fun a ha => ?_
 have h2 := ha.2.1 (by omega)
 refine EvP.pos h2.1 (EvP.pos h2.2 (EvP.ret ⟨?_, ha.2.2⟩))
 show rd L a.1 ∈ L
 unfold rd
 rw [List.getD_eq_getElem?_getD, List.getElem?_eq_getElem (by omega), Option.getD_some]
 exact List.getElem_mem _
theorem ev_spoil {s0 : List Int} {N p : Int} (h : RS s0 N p) (hN : N + 2 < 100000) (L : List Int) (n : Int) (hL : L.length ≤ 10000) : EvP (fun k => spec_reader_spoil.f k s0 p L n) (fun r => r.1.length ≤ L.length + 1 ∧ RS s0 (N + 3) r.2) := by
 unfold spec_reader_spoil.f
 rw [show spec_copyInts.f L = some L from copyInts_eq (by unfold big; omega) (by omega)]
 refine EvP.sb ?_
 refine (ev_pick h (by omega)).bind fun a ha => ?_
 have hm := ha.2.2.mono (M := N + 3) (by omega) (by omega)
 refine EvP.ite (fun _ => EvP.pos (by omega) (EvP.ret ⟨by simp, hm⟩)) (fun _ => ?_)
 refine EvP.ite (fun _ => EvP.ite (fun h0 => EvP.pos (by omega) (EvP.ret ⟨by simp; omega, hm⟩)) (fun _ => EvP.ret ⟨by show L.length ≤ _; omega, hm⟩)) (fun _ => ?_)
 refine EvP.ite (fun _ => EvP.ite (fun h0 => ?_) (fun _ => EvP.ret ⟨by show L.length ≤ _; omega, hm⟩)) (fun _ => EvP.ret ⟨by show L.length ≤ _; omega, hm⟩)
 refine (ev_pick ha.2.2 (by omega)).bind fun b hb => ?_
 refine (ev_one hb.2.2 (by omega) _ (by simp)).bind fun c hc => ?_
 have h2 := hb.2.1 (by omega)
 exact EvP.pos h2.1 (EvP.pos h2.2 (EvP.ret ⟨by simp, hc.2.mono (by omega) (by omega)⟩))
/-- A graph of few tasks, whose lists of needs are short. -/
def GSmall (n m : Nat) (g : List Tk) : Prop := g.length ≤ n ∧ ∀ t ∈ g, t.f1.length ≤ m
theorem GSmall.fits {n m : Nat} {g : List Tk} (h : GSmall n m g) (hn : n < big) (hm : m < big) : Fits g := ⟨by have := h.1; omega, fun t ht => by have := h.2 t ht; omega⟩
theorem ev_turned_in (x0 : List Tk) (x3 : List Tk) (x4 x5 : Int) (f0 f2 f3 : Int) (L : List Int) (hL : L.length ≤ 10000) (R : List Tk → Prop) (hx3 : x3.length ≤ 100) (hk : ∀ L2 : List Int, L2.length = L.length → EvP (fun k => spec_turned.l0 k x0 (x3 ++ [⟨f0, L2, f2, f3⟩]) x4 (wrap64 (x5 - 1))) R) :
  ∀ (m : Nat) (x7 : List Int), m ≤ L.length → x7.length + m = L.length → EvP (fun k => spec_turned.l1 k x0 x3 x4 x5 x7 ((m : Int) - 1) f0 L f2 f3) R
 | 0, x7, _, h => by
  refine EvP.succ ?_
  simp only [spec_turned.l1]
  exact EvP.neg (by omega) (EvP.pos (by omega) (hk x7 (by omega)))
 | m + 1, x7, hm, h => by
  refine EvP.succ ?_
  simp only [spec_turned.l1]
  refine EvP.pos (by omega) (EvP.pos (by omega) (EvP.pos (by omega) (EvP.pos (by omega) ?_)))
  have := ev_turned_in x0 x3 x4 x5 f0 f2 f3 L hL R hx3 hk m (x7 ++ [wrap64 (x4 - rd L (((m + 1 : Nat) : Int) - 1))]) (by omega) (by simp; omega)
  rw [show wrap64 (((m + 1 : Nat) : Int) - 1 - 1) = (m : Int) - 1 by rw [w64 (by omega) (by omega)]; omega]
  exact this
theorem ev_turned {n m : Nat} {g : List Tk} (hg : GSmall n m g) (hn : n ≤ 100) (hm : m ≤ 10000) : EvP (fun k => spec_turned.f k g) (fun r => r.length = g.length ∧ GSmall n m r) := by
 have key : ∀ (j : Nat) (x3 : List Tk) (x4 : Int), j ≤ g.length → x3.length + j = g.length → (∀ t ∈ x3, t.f1.length ≤ m) → EvP (fun k => spec_turned.l0 k g x3 x4 ((j : Int) - 1)) (fun r => r.length = g.length ∧ GSmall n m r) := by
  intro j
  induction j with
  | zero =>
   intro x3 x4 hj hl ht
   refine EvP.succ ?_
   simp only [spec_turned.l0]
   exact EvP.neg (by omega) (EvP.ret ⟨by show x3.length = _; omega, by have := hg.1; show x3.length ≤ n; omega, ht⟩)
  | succ j ih =>
   intro x3 x4 hj hl ht
   have hgl := hg.1
   refine EvP.succ ?_
   simp only [spec_turned.l0]
   refine EvP.pos (by omega) (EvP.pos (by omega) (EvP.pos (by omega) ?_))
   have hmem : rd_T38 g (((j + 1 : Nat) : Int) - 1) ∈ g := by
    unfold rd_T38
    rw [List.getD_eq_getElem?_getD, List.getElem?_eq_getElem (by omega), Option.getD_some]
    exact List.getElem_mem _
   have hlen := hg.2 _ hmem
   generalize rd_T38 g (((j + 1 : Nat) : Int) - 1) = t at *
   rw [show wrap64 ((t.f1.length : Int) - 1) = (t.f1.length : Int) - 1 from w64 (by omega) (by omega)]
   refine ev_turned_in g x3 x4 (((j + 1 : Nat) : Int) - 1) t.f0 t.f2 t.f3 t.f1 (by omega) _ (by omega) (fun L2 h2 => ?_) t.f1.length [] (Nat.le_refl _) (by simp)
   rw [show wrap64 (((j + 1 : Nat) : Int) - 1 - 1) = (j : Int) - 1 by rw [w64 (by omega) (by omega)]; omega]
   refine ih _ _ (by omega) (by simp; omega) (fun u hu => ?_)
   rcases List.mem_append.1 hu with hu | hu
   ·exact ht u hu
   ·rw [List.mem_singleton.1 hu]; show L2.length ≤ m; omega
 have hgl := hg.1
 unfold spec_turned.f
 rw [show wrap64 ((g.length : Int) - 1) = (g.length : Int) - 1 from w64 (by omega) (by omega)]
 exact key g.length [] _ (Nat.le_refl _) (by simp) (by simp)
theorem ev_some_in (g : List Tk) (x6 : Int) (s0 : List Int) (f0 f2 f3 : Int) (N : Int) (hg : g.length ≤ 8) (hN : N + 8 < 100000) (R : List Tk × Int → Prop)
  (hk : ∀ (L : List Int) (p : Int), L.length ≤ 8 → RS s0 (N + 8) p → EvP (fun k => spec_someGraph.l0 k (g ++ [⟨f0, L, f2, f3⟩]) (wrap64 (x6 - 1)) s0 p) R) :
  ∀ (d i : Nat) (L : List Int) (p : Int), i + d = g.length → L.length ≤ i → RS s0 (N + i) p → EvP (fun k => spec_someGraph.l1 k g x6 (i : Int) s0 p f0 L f2 f3) R
 | 0, i, L, p, h, hL, hp => by
  refine EvP.succ ?_
  simp only [spec_someGraph.l1]
  exact EvP.neg (by omega) (EvP.pos (by omega) (hk L p (by omega) (hp.mono (by omega) (by omega))))
 | d + 1, i, L, p, h, hL, hp => by
  refine EvP.succ ?_
  simp only [spec_someGraph.l1]
  refine EvP.pos (by omega) ?_
  refine (ev_pick hp (by omega)).bind fun a ha => ?_
  have hp2 : RS s0 (N + ((i + 1 : Nat) : Int)) a.2 := ha.2.2.mono (by omega) (by omega)
  rw [show wrap64 ((i : Int) + 1) = ((i + 1 : Nat) : Int) by rw [w64 (by omega) (by omega)]; omega]
  refine EvP.ite (fun _ => EvP.pos (by omega) ?_) (fun _ => ?_)
  ·exact ev_some_in g x6 s0 f0 f2 f3 N hg hN R hk d (i + 1) _ _ (by omega) (by simp; omega) hp2
  ·exact ev_some_in g x6 s0 f0 f2 f3 N hg hN R hk d (i + 1) _ _ (by omega) (by omega) hp2
theorem ev_some_out (s0 : List Int) : ∀ (j : Nat) (g : List Tk) (N p : Int), g.length + j ≤ 8 → N + j * 11 + 1 < 100000 → (∀ t ∈ g, t.f1.length ≤ 8) → RS s0 N p →
  EvP (fun k => spec_someGraph.l0 k g (j : Int) s0 p) (fun r => GSmall 8 8 r.1 ∧ RS s0 (N + j * 11 + 1) r.2)
 | 0, g, N, p, hg, hN, ht, hp => by
  refine EvP.succ ?_
  simp only [spec_someGraph.l0]
  refine EvP.neg (by omega) ?_
  refine EvP.ite (fun h1 => ?_) (fun _ => EvP.ret ⟨⟨by show g.length ≤ 8; omega, ht⟩, hp.mono (by omega) (by omega)⟩)
  refine (ev_pick hp (by omega)).bind fun a ha => ?_
  refine EvP.ite (fun _ => ?_) (fun _ => EvP.ret ⟨⟨by show g.length ≤ 8; omega, ht⟩, ha.2.2.mono (by omega) (by omega)⟩)
  refine (ev_turned (n := 8) (m := 8) ⟨by omega, ht⟩ (by omega) (by omega)).bind fun r hr => ?_
  exact EvP.ret ⟨hr.2, ha.2.2.mono (by omega) (by omega)⟩
 | j + 1, g, N, p, hg, hN, ht, hp => by
  refine EvP.succ ?_
  simp only [spec_someGraph.l0]
  refine EvP.pos (by omega) ?_
  refine (ev_one hp (by omega) _ (by simp)).bind fun a ha => ?_
  refine (ev_pick ha.2 (by omega)).bind fun b hb => ?_
  refine (ev_pick hb.2.2 (by omega)).bind fun c hc => ?_
  refine ev_some_in g ((j + 1 : Nat) : Int) s0 a.1 b.1 (wrap64 (1 + c.1)) (N + 1 + 1 + 1) (by omega) (by omega) _ (fun L q hL hq => ?_) g.length 0 [] _ (by omega) (by simp) (hc.2.2.mono (by omega) (by omega))
  rw [show wrap64 (((j + 1 : Nat) : Int) - 1) = (j : Int) by rw [w64 (by omega) (by omega)]; omega]
  refine (ev_some_out s0 j _ (N + 11) q (by simp; omega) (by omega) (fun u hu => ?_) (hq.mono (by omega) (by omega))).mono fun r hr => ⟨hr.1, hr.2.mono (by omega) (by omega)⟩
  rcases List.mem_append.1 hu with hu | hu
  ·exact ht u hu
  ·rw [List.mem_singleton.1 hu]; exact hL
theorem ev_someGraph {s0 : List Int} {N p : Int} (h : RS s0 N p) (hN : N + 100 < 100000) (a : Int) (ha : 0 ≤ a) : EvP (fun k => spec_someGraph.f k s0 p a) (fun r => GSmall 8 8 r.1 ∧ RS s0 (N + 100) r.2) := by
 unfold spec_someGraph.f
 refine (ev_one h (by omega) _ (by simp)).bind fun b hb => ?_
 have hb8 : 0 ≤ mn a b.1 ∧ mn a b.1 ≤ 8 := by
  have := hb.1
  simp at this
  unfold mn
  split <;> omega
 generalize mn a b.1 = c at *
 obtain ⟨j, rfl⟩ := Int.eq_ofNat_of_zero_le hb8.1
 exact (ev_some_out s0 j [] (N + 1) b.2 (by simp; omega) (by omega) (by simp) hb.2).mono fun r hr => ⟨hr.1, hr.2.mono (by omega) (by omega)⟩
theorem lim_evP {α : Type} {f : Nat → Option α} {Q : α → Prop} (hm : ∀ k, LeO (f k) (f (k + 1))) (h : EvP f Q) : EvP (fun _ => lim f) Q := by
 obtain ⟨r, h, q⟩ := h
 obtain ⟨k, hk⟩ := h.one
 exact ⟨r, ⟨0, fun _ _ => lim_of hm hk⟩, q⟩
theorem rdT_small {n m : Nat} {g : List Tk} (h : GSmall n m g) {i : Int} (h0 : 0 ≤ i) (h1 : i < (g.length : Int)) : (rd_T38 g i).f1.length ≤ m := by
 refine h.2 _ ?_
 unfold rd_T38
 rw [List.getD_eq_getElem?_getD, List.getElem?_eq_getElem (by omega), Option.getD_some]
 exact List.getElem_mem _
theorem small_set {n m m2 : Nat} {g : List Tk} (h : GSmall n m g) (i : Nat) (t : Tk) (ht : t.f1.length ≤ m2) (hm : m ≤ m2) {n2 : Nat} (hn : n ≤ n2) : GSmall n2 m2 (g.set i t) := by
 refine ⟨by rw [List.length_set]; have := h.1; omega, fun u hu => ?_⟩
 rcases List.mem_or_eq_of_mem_set hu with h1 | h1
 ·have := h.2 u h1; omega
 ·rw [h1]; exact ht
theorem ev_anyGraph {s0 : List Int} {N p : Int} (h : RS s0 N p) (hN : N + 210 < 100000) : EvP (fun _ => spec_anyGraph.f s0 p) (fun r => GSmall 16 10 r.1 ∧ RS s0 (N + 210) r.2) := by
 unfold spec_anyGraph.f
 refine lim_evP (fun k => spec_anyGraph.mono s0 p k) ?_
 unfold spec_anyGraph.fk
 refine (ev_someGraph h (by omega) 8 (by omega)).bind fun a ha => ?_
 have hs : GSmall 16 10 a.1 := ⟨by have := ha.1.1; omega, fun t ht => by have := ha.1.2 t ht; omega⟩
 refine EvP.ite (fun _ => EvP.ret ⟨hs, ha.2.mono (by omega) (by omega)⟩) (fun hne => ?_)
 refine (ev_pick ha.2 (by omega)).bind fun b hb => ?_
 refine (ev_pick hb.2.2 (by omega)).bind fun c hc => ?_
 have hb2 := hb.2.1 (by omega)
 refine EvP.neg (fun hh => hh hb2) ?_
 have hl := rdT_small ha.1 hb2.1 hb2.2
 generalize rd_T38 a.1 b.1 = tk at hl
 refine EvP.ite (fun _ => (ev_one hc.2.2 (by omega) _ (by simp)).bind fun d hd => EvP.ret ⟨small_set ha.1 _ _ (by show tk.f1.length ≤ 10; omega) (by omega) (by omega), hd.2.mono (by omega) (by omega)⟩) (fun _ => ?_)
 refine EvP.ite (fun _ => ?_) (fun _ => ?_)
 ·refine (ev_pick hc.2.2 (by omega)).bind fun d hd => ?_
  refine EvP.pos (by omega) ?_
  refine (ev_spoil hd.2.2 (by omega) _ 8 (by simp; omega)).bind fun e he => ?_
  have := he.1
  simp only [List.length_append, List.length_cons, List.length_nil] at this
  exact EvP.ret ⟨small_set ha.1 _ _ (by show e.1.length ≤ 10; omega) (by omega) (by omega), he.2.mono (by omega) (by omega)⟩
 refine EvP.ite (fun _ => (ev_one hc.2.2 (by omega) _ (by simp)).bind fun d hd => EvP.ret ⟨small_set ha.1 _ _ (by show tk.f1.length ≤ 10; omega) (by omega) (by omega), hd.2.mono (by omega) (by omega)⟩) (fun _ => ?_)
 refine EvP.ite (fun _ => (ev_one hc.2.2 (by omega) _ (by simp)).bind fun d hd => EvP.ret ⟨small_set ha.1 _ _ (by show tk.f1.length ≤ 10; omega) (by omega) (by omega), hd.2.mono (by omega) (by omega)⟩) (fun _ => ?_)
 refine EvP.ite (fun _ => ?_) (fun _ => EvP.ret ⟨hs, hc.2.2.mono (by omega) (by omega)⟩)
 refine (ev_someGraph hc.2.2 (by omega) 8 (by omega)).bind fun d hd => ?_
 have h1 := ha.1.1
 have h2 := hd.1.1
 refine EvP.pos (by omega) (EvP.ret ⟨⟨by simp; omega, fun t ht => ?_⟩, hd.2.mono (by omega) (by omega)⟩)
 rcases List.mem_append.1 ht with ht | ht
 ·have := ha.1.2 t ht; omega
 ·have := hd.1.2 t ht; omega
/-- The bytes of a code. -/
def Bytes (l : List Int) : Prop := ∀ x ∈ l, (Lit.int .u8 x).wf = true
theorem byte_of_wf {x : Int} (h : (Lit.int .u8 x).wf = true) : 0 ≤ x ∧ x ≤ 255 := by
 simp only [Lit.wf, IntKind.min, IntKind.max, IntKind.signed, IntKind.bits, Bool.and_eq_true, decide_eq_true_eq] at h
 simp at h
 omega
theorem ev_newReader {l : List Int} (h : Bytes l) : EvP (fun _ => spec_newReader.f l) (fun r => RS r.1 0 r.2) := by
 have hb : ∀ x ∈ l, 0 ≤ x ∧ x ≤ 255 := fun x hx => byte_of_wf (h x hx)
 unfold spec_newReader.f
 refine EvP.ite (fun h1 => EvP.pos (by omega) (EvP.ret ⟨by simp; omega, fun x hx => hb x (List.mem_of_mem_take hx), by omega, by omega, by omega⟩)) (fun h1 => EvP.ret ⟨by show l.length ≤ 2000; omega, hb, by show (0 : Int) ≤ 0; omega, by show (0 : Int) ≤ 0; omega, by omega⟩)
end Go.Proofs.YtnhkajanbfgbiaaDoor.Core
end
section
set_option linter.unusedVariables false
namespace Go.Proofs.YtnhkajanbfgbiaaDoor.Core
open Go Go.RowKit Go.Proofs.YtnhkajanbfgbiaaDoorW.PrintWords Go.Proofs.YtnhkajanbfgbiaaDoorW.PrintMore Go.Proofs.YtnhkajanbfgbiaaDoor.P
theorem ev_someRoomA {s0 : List Int} {N p : Int} (h : RS s0 N p) (hN : N + 100 < 100000) : EvP (fun k => spec_someRoom.f k s0 p) (fun r => r.1.length ≤ 4 ∧ RS s0 (N + 100) r.2) := by
 unfold spec_someRoom.f
 refine (ev_one h (by omega) _ (by simp)).bind fun a ha => ?_
 refine (ev_one ha.2 (by omega) _ (by simp)).bind fun b hb => ?_
 refine (ev_one hb.2 (by omega) _ (by simp)).bind fun c hc => ?_
 refine (ev_spoil hc.2 (by omega) _ 9 (by simp)).bind fun d hd => ?_
 exact EvP.ret ⟨by simpa using hd.1, hd.2.mono (by omega) (by omega)⟩
end Go.Proofs.YtnhkajanbfgbiaaDoor.Core
end
section
set_option linter.unusedVariables false
set_option linter.unusedSimpArgs false
namespace Go.Proofs.YtnhkajanbfgbiaaDoor.Core
open Go Go.RowKit Go.Proofs.YtnhkajanbfgbiaaDoorW.PrintWords Go.Proofs.YtnhkajanbfgbiaaDoorW.PrintMore Go.Proofs.YtnhkajanbfgbiaaDoor.P
theorem asc_lt : ∀ {r : List Int} {x : Int}, ascD (x :: r) = true → ascD r = true ∧ ∀ y ∈ r, x < y
 | [], x, _ => ⟨rfl, by simp⟩
 | y :: r, x, h => by
  simp only [ascD, Bool.and_eq_true, decide_eq_true_eq] at h
  have h2 := asc_lt h.2
  refine ⟨h.2, fun z hz => ?_⟩
  rcases List.mem_cons.1 hz with rfl | hz
  ·exact h.1
  ·have := h2.2 z hz; omega
theorem asc_mk {r : List Int} {x : Int} (h : ascD r = true) (h2 : ∀ y ∈ r, x < y) : ascD (x :: r) = true := by
 cases r with
 | nil => rfl
 | cons y r => simp [ascD, h, h2 y List.mem_cons_self]
theorem setGo_some {n : Nat} : ∀ {r : List Int} {s : Nat} {last : Int} {t : Nat}, -1 ≤ last → setGo n r s last = some t → (∀ x ∈ r, last + 1 ≤ x ∧ x ≤ (n : Int) - 1) ∧ ascD r = true ∧ ∀ i : Nat, t.testBit i = (s.testBit i || decide ((i : Int) ∈ r))
 | [], s, last, t, hl, h => by
  rw [setGo] at h
  cases h
  exact ⟨by simp, rfl, by simp⟩
 | x :: r, s, last, t, hl, h => by
  rw [setGo] at h
  by_cases hx : last + 1 ≤ x ∧ x ≤ (n : Int) - 1
  ·rw [if_pos hx] at h
   obtain ⟨h1, h2, h3⟩ := setGo_some (by omega) h
   refine ⟨fun y hy => ?_, asc_mk h2 (fun y hy => by have := h1 y hy; omega), fun i => ?_⟩
   ·rcases List.mem_cons.1 hy with rfl | hy
    ·exact hx
    ·have := h1 y hy; omega
   ·rw [h3, or_bit]
    have : decide (x.toNat = i) = decide ((i : Int) = x) := by rw [decide_eq_decide]; omega
    rw [this]
    by_cases e : (i : Int) = x
    ·simp [e]
    ·simp [e]
  ·rw [if_neg hx] at h; cases h
theorem setGo_ok {n : Nat} : ∀ {r : List Int} (s : Nat) {last : Int}, (∀ x ∈ r, last + 1 ≤ x ∧ x ≤ (n : Int) - 1) → ascD r = true → ∃ t, setGo n r s last = some t
 | [], s, last, _, _ => ⟨s, rfl⟩
 | x :: r, s, last, h, ha => by
  have h2 := asc_lt ha
  have hx := h x List.mem_cons_self
  rw [setGo, if_pos hx]
  exact setGo_ok _ (fun y hy => ⟨by have := h2.2 y hy; omega, (h y (List.mem_cons_of_mem _ hy)).2⟩) h2.1
theorem setD_some {n : Nat} {l : List Int} {t : Nat} (h : setD n l = some t) : needsOk n l ∧ ∀ i : Nat, t.testBit i = decide ((i : Int) ∈ l) := by
 obtain ⟨h1, h2, h3⟩ := setGo_some (by omega) h
 exact ⟨⟨fun x hx => by have := h1 x hx; omega, h2⟩, fun i => by rw [h3]; simp⟩
theorem setD_ok {n : Nat} {l : List Int} (h : needsOk n l) : ∃ t, setD n l = some t := setGo_ok 0 (fun x hx => by have := h.1 x hx; omega) h.2
theorem needsGo_ok {n : Nat} : ∀ {r : List Tk}, (∀ t ∈ r, taskOk t ∧ needsOk n t.f1) → ∃ N, needsGo n r = some N
 | [], _ => ⟨[], rfl⟩
 | t :: r, h => by
  obtain ⟨s, hs⟩ := setD_ok (h t List.mem_cons_self).2
  obtain ⟨N, hN⟩ := needsGo_ok (fun t' ht => h t' (List.mem_cons_of_mem _ ht))
  rw [needsGo, hs]
  simp only [(h t List.mem_cons_self).1, if_true, hN]
  exact ⟨_, rfl⟩
theorem needsGo_fine {n : Nat} : ∀ {r : List Tk} {N : List Nat}, needsGo n r = some N → (∀ t ∈ r, taskOk t ∧ needsOk n t.f1) ∧ ∀ i, i < r.length → ∀ j : Nat, (N.getD i 0).testBit j = decide ((j : Int) ∈ (r.getD i z38).f1)
 | [], N, h => ⟨by simp, by intro i hi; simp at hi⟩
 | t :: r, N, h => by
  rw [needsGo] at h
  cases he : setD n t.f1 with
  | none => rw [he] at h; cases h
  | some s =>
   rw [he] at h
   by_cases hok : taskOk t
   ·simp only [hok, if_true] at h
    cases hg : needsGo n r with
    | none => rw [hg] at h; cases h
    | some M =>
     rw [hg] at h
     cases h
     have ih := needsGo_fine hg
     have hs := setD_some he
     refine ⟨fun t' ht => ?_, fun i hi j => ?_⟩
     ·rcases List.mem_cons.1 ht with rfl | ht
      ·exact ⟨hok, hs.1⟩
      ·exact ih.1 t' ht
     ·cases i with
      | zero => simpa using hs.2 j
      | succ i => simpa using ih.2 i (by simpa using hi) j
   ·simp [hok] at h
theorem needsD_fine {g : List Tk} {N : List Nat} (h : needsD g = some N) : fineD g ∧ ∀ i, i < g.length → ∀ j : Nat, (N.getD i 0).testBit j = decide ((j : Int) ∈ (g.getD i z38).f1) := by
 have h8 := (needsD_spec h).1
 unfold needsD at h
 rw [if_pos h8] at h
 have := needsGo_fine h
 exact ⟨⟨this.1, h8⟩, this.2⟩
theorem fineD_needs {g : List Tk} (h : fineD g) : ∃ N, needsD g = some N := by
 unfold needsD
 rw [if_pos h.2]
 exact needsGo_ok h.1
theorem sub_zero {a b : Nat} (ha : a < 256) (hb : b < 256) : sub a b = 0 ↔ ∀ j, a.testBit j = true → b.testBit j = true := by
 constructor
 ·intro h j hj
  have := sub_testBit (i := j) ha hb
  rw [h, hj] at this
  simpa using this
 ·intro h
  apply Nat.eq_of_testBit_eq
  intro j
  rw [sub_testBit ha hb, Nat.zero_testBit]
  cases e : a.testBit j
  ·rfl
  ·rw [h j e]; rfl
theorem mem_up {L : List Nat} {i : Nat} : (i : Int) ∈ up L ↔ i ∈ L := by
 unfold up
 rw [List.mem_map]
 constructor
 ·rintro ⟨a, ha, e⟩
  have : a = i := Int.ofNat.inj e
  exact this ▸ ha
 ·intro h
  exact ⟨i, h, rfl⟩
/-- All needs of a task are among some, said both ways. -/
theorem done_iff {g : List Tk} {N : List Nat} (hN : needsD g = some N) {L : List Nat} {d : Nat} (hd : d < 256) (hs : ∀ i, d.testBit i = true ↔ i ∈ L) {i : Nat} (hi : i < g.length) : (∀ x ∈ (g.getD i z38).f1, x ∈ up L) ↔ sub (N.getD i 0) d = 0 := by
 obtain ⟨h8, hl, hb⟩ := needsD_spec hN
 obtain ⟨hf, hbit⟩ := needsD_fine hN
 rw [sub_zero (Nat.lt_of_lt_of_le (getD_lt hb i) (pow8 h8)) hd]
 constructor
 ·intro h j hj
  rw [hbit i hi j, decide_eq_true_eq] at hj
  exact (hs j).2 (mem_up.1 (h _ hj))
 ·intro h x hx
  have hmem : g.getD i z38 ∈ g := by
   rw [List.getD_eq_getElem?_getD, List.getElem?_eq_getElem hi]
   exact List.getElem_mem hi
  have h0 := (hf.1 _ hmem).2.1 x hx
  obtain ⟨j, rfl⟩ : ∃ j : Nat, x = (j : Int) := ⟨x.toNat, by omega⟩
  refine mem_up.2 ((hs j).1 (h j ?_))
  rw [hbit i hi j, decide_eq_true_eq]
  exact hx
theorem rdT_nat (g : List Tk) (i : Nat) : rd_T38 g (i : Int) = g.getD i z38 := by simp [rd_T38]
theorem getD_mem {g : List Tk} {i : Nat} (hi : i < g.length) : g.getD i z38 ∈ g := by
 rw [List.getD_eq_getElem?_getD, List.getElem?_eq_getElem hi]
 exact List.getElem_mem hi
theorem ev_top_found {g : List Tk} (hg : Fits g) (L : List Nat) (hL : L.length ≤ 100) (j : Nat) (i : Int) (R : List Int) (h : Ev (fun k => spec_topOrder.l0 k g (up (L ++ [j]))) R) : Ev (fun k => spec_topOrder.l1 k g (up L) (j : Int) i) R := by
 have e : up (L ++ [j]) = up L ++ [(j : Int)] := by simp [up]
 have h2 : Ev (fun k => spec_topOrder.j2 k g (up L) (j : Int) i false) R := by
  refine Ev.succ (h.of fun k => ?_)
  rw [spec_topOrder.j2, if_neg (by simp), if_neg (by omega), if_pos (by rw [up_length]; omega), e]
 refine Ev.succ (h2.of fun k => ?_)
 rw [spec_topOrder.l1, show decide ((j : Int) < 0) = false by simp]
 split <;> rfl
theorem ev_top_scan {g : List Tk} (hg : Fits g) {N : List Nat} (hN : needsD g = some N) (L : List Nat) (d : Nat) (hL : L.length ≤ 100) (hd : d < 256) (hs : ∀ i, d.testBit i = true ↔ i ∈ L) (R : Option Nat → List Int) (hR : R none = up L) : ∀ (m i : Nat), i + m = g.length →
  (∀ j, nextFrom N d i m = some j → Ev (fun k => spec_topOrder.l0 k g (up (L ++ [j]))) (R (some j))) → Ev (fun k => spec_topOrder.l1 k g (up L) (-1) (i : Int)) (R (nextFrom N d i m))
 | 0, i, hi, ho => by
  rw [nextFrom, hR]
  refine Ev.succ ?_
  have h2 : Ev (fun k => spec_topOrder.j2 k g (up L) (-1) (i : Int) false) (up L) := by
   refine Ev.succ ((Ev.const _).of fun k => ?_)
   rw [spec_topOrder.j2, if_neg (by simp), if_pos (by omega)]
  refine h2.of fun k => ?_
  rw [spec_topOrder.l1, if_neg (by omega)]
 | m + 1, i, hi, ho => by
  have hig : i < g.length := by omega
  have h8 := (needsD_spec hN).1
  have hin := ev_isIn (L := up L) (by rw [up_length]; unfold big; omega) (i : Int)
  have hdn := ev_allDone (L := (g.getD i z38).f1) (M := up L) (hg.2 _ (getD_mem hig)) (by rw [up_length]; unfold big; omega)
  have e1 : decide ((i : Int) ∈ up L) = d.testBit i := by
   rw [Bool.eq_iff_iff, decide_eq_true_eq, mem_up, hs]
  have e2 : decide (∀ x ∈ (g.getD i z38).f1, x ∈ up L) = decide (sub (N.getD i 0) d = 0) := by
   rw [decide_eq_decide]; exact done_iff hN hd hs hig
  rw [e1] at hin
  rw [e2] at hdn
  have hw : wrap64 ((i : Int) + 1) = ((i + 1 : Nat) : Int) := w64s (by unfold big; omega)
  refine Ev.succ ?_
  have hj2 : Ev (fun k => spec_topOrder.j2 k g (up L) (-1) (i : Int) true) (R (nextFrom N d i (m + 1))) := by
   refine Ev.succ ?_
   have hu : ∀ k, spec_topOrder.j2 (k + 1) g (up L) (-1) (i : Int) true = (spec_isIn.f k (up L) (i : Int)).bind fun t126 => (if t126 = true then (spec_topOrder.l1 k g (up L) (-1) ((i + 1 : Nat) : Int)) else ((spec_allDone.f k (g.getD i z38).f1 (up L)).bind fun t128 => (if t128 = true then (spec_topOrder.l1 k g (up L) (i : Int) ((i + 1 : Nat) : Int)) else (spec_topOrder.l1 k g (up L) (-1) ((i + 1 : Nat) : Int))))) := by
    intro k
    rw [spec_topOrder.j2, if_pos rfl, hw, if_pos (show 0 ≤ (i : Int) by omega), if_pos (show (i : Int) < (g.length : Int) by omega), rdT_nat]
   refine Ev.of ?_ hu
   refine hin.bind (g := fun k t126 => (if t126 = true then (spec_topOrder.l1 k g (up L) (-1) ((i + 1 : Nat) : Int)) else ((spec_allDone.f k (g.getD i z38).f1 (up L)).bind fun t128 => (if t128 = true then (spec_topOrder.l1 k g (up L) (i : Int) ((i + 1 : Nat) : Int)) else (spec_topOrder.l1 k g (up L) (-1) ((i + 1 : Nat) : Int)))))) ?_
   cases hbit : d.testBit i with
   | true =>
    have hg2 : nextFrom N d i (m + 1) = nextFrom N d (i + 1) m := by rw [nextFrom, if_neg (by simp [hbit])]
    rw [hg2] at ho ⊢
    exact (ev_top_scan hg hN L d hL hd hs R hR m (i + 1) (by omega) ho).of fun k => if_pos rfl
   | false =>
    by_cases hz : sub (N.getD i 0) d = 0
    ·have hg2 : nextFrom N d i (m + 1) = some i := by rw [nextFrom, if_pos ⟨hbit, hz⟩]
     rw [hg2]
     rw [decide_eq_true hz] at hdn
     have hf := ev_top_found hg L hL i ((i + 1 : Nat) : Int) _ (ho i hg2)
     refine (hdn.bind (g := fun k t128 => if t128 = true then (spec_topOrder.l1 k g (up L) (i : Int) ((i + 1 : Nat) : Int)) else (spec_topOrder.l1 k g (up L) (-1) ((i + 1 : Nat) : Int))) (hf.of fun k => if_pos rfl)).of fun k => ?_
     rw [if_neg (by simp)]
    ·have hg2 : nextFrom N d i (m + 1) = nextFrom N d (i + 1) m := by rw [nextFrom, if_neg (fun h => hz h.2)]
     rw [hg2] at ho ⊢
     rw [decide_eq_false hz] at hdn
     have ih := ev_top_scan hg hN L d hL hd hs R hR m (i + 1) (by omega) ho
     refine (hdn.bind (g := fun k t128 => if t128 = true then (spec_topOrder.l1 k g (up L) (i : Int) ((i + 1 : Nat) : Int)) else (spec_topOrder.l1 k g (up L) (-1) ((i + 1 : Nat) : Int))) (ih.of fun k => if_neg (by simp))).of fun k => ?_
     rw [if_neg (by simp)]
  refine hj2.of fun k => ?_
  rw [spec_topOrder.l1, if_pos (by omega)]
  rfl
theorem orderGo_none {N : List Nat} {d : Nat} (h : nextD N d = none) : ∀ (m : Nat) (L : List Nat), orderGo N m L d = (L, d)
 | 0, L => rfl
 | m + 1, L => by rw [orderGo, h]; exact orderGo_none h m L
theorem next_zb {N : List Nat} {d j : Nat} (h : nextD N d = some j) : zb N.length (d ||| 2 ^ j) < zb N.length d := by
 have := nextD_spec h
 exact zb_lt this.2.1 this.1
theorem ev_top_go {g : List Tk} (hg : Fits g) {N : List Nat} (hN : needsD g = some N) : ∀ (m : Nat) (L : List Nat) (d : Nat), OrdOk N L d → zb N.length d ≤ m → Ev (fun k => spec_topOrder.l0 k g (up L)) (up (orderGo N m L d).1) := by
 obtain ⟨h8, hl, hb⟩ := needsD_spec hN
 have hb' : below1 N.length N := by rw [hl]; exact hb
 intro m
 induction m with
 | zero =>
  intro L d ok hz
  have hlt := Nat.lt_of_lt_of_le ok.dlt (pow8 (n := N.length) (by omega))
  have hnone : nextD N d = none := by
   cases h : nextD N d with
   | none => rfl
   | some j => have := next_zb h; omega
  have h := ev_top_scan hg hN L d (by have := ok.len; omega) hlt ok.set (fun _ => up L) rfl g.length 0 (by omega) (fun j hj => by
   have : nextD N d = some j := by unfold nextD; rw [hl]; exact hj
   rw [hnone] at this; cases this)
  refine Ev.succ (h.of fun k => ?_)
  rw [spec_topOrder.l0]
  rfl
 | succ m ih =>
  intro L d ok hz
  have hlt := Nat.lt_of_lt_of_le ok.dlt (pow8 (n := N.length) (by omega))
  have h := ev_top_scan hg hN L d (by have := ok.len; omega) hlt ok.set (fun o => match o with | some i => up (orderGo N m (L ++ [i]) (d ||| 2 ^ i)).1 | none => up L) rfl g.length 0 (by omega) (fun j hj => by
   have hj2 : nextD N d = some j := by unfold nextD; rw [hl]; exact hj
   have hsp := nextD_spec hj2
   have := next_zb hj2
   exact ih (L ++ [j]) (d ||| 2 ^ j) (ok.step (by omega) hb' hsp.1 hsp.2.1 hsp.2.2) (by omega))
  have e : (match nextFrom N d 0 g.length with | some i => up (orderGo N m (L ++ [i]) (d ||| 2 ^ i)).1 | none => up L) = up (orderGo N (m + 1) L d).1 := by
   rw [orderGo]
   have e2 : nextD N d = nextFrom N d 0 g.length := by unfold nextD; rw [hl]
   rw [e2]
   cases hx : nextFrom N d 0 g.length with
   | none => simp only []; rw [orderGo_none (by rw [e2]; exact hx)]
   | some i => rfl
  rw [← e]
  refine Ev.succ (h.of fun k => ?_)
  rw [spec_topOrder.l0]
  rfl
theorem ordOk_nil (N : List Nat) : OrdOk N [] 0 := ⟨by simp, by simp, Nat.two_pow_pos _, by simp, by rw [zb_zero]; simp, by simp⟩
theorem ev_topOrder {g : List Tk} (hg : Fits g) {N : List Nat} (hN : needsD g = some N) : Ev (fun k => spec_topOrder.f k g) (up (orderD N).1) :=
 ev_top_go hg hN N.length [] 0 (ordOk_nil N) (by rw [zb_zero]; exact Nat.le_refl _)
theorem zb_zero_full {n : Nat} : ∀ {m d : Nat}, zb m d = 0 → ∀ i, i < m → d.testBit i = true
 | 0, d, _, i, h => by omega
 | m + 1, d, h, i, hi => by
  simp only [zb] at h
  by_cases e : i = m
  ·subst e
   cases hb : d.testBit i
   ·simp [hb] at h
   ·rfl
  ·exact zb_zero_full (n := n) (m := m) (by omega) i (by omega)
theorem full_iff {N L : List Nat} {d : Nat} (ok : OrdOk N L d) : d = 2 ^ N.length - 1 ↔ L.length = N.length := by
 constructor
 ·intro h
  have := ok.len
  rw [h, zb_full _ _ (Nat.le_refl _)] at this
  exact this
 ·intro h
  have hz : zb N.length d = 0 := by have := ok.len; omega
  apply Nat.eq_of_testBit_eq
  intro i
  rw [Nat.testBit_two_pow_sub_one]
  by_cases hi : i < N.length
  ·rw [zb_zero_full (n := 0) hz i hi]; simp [hi]
  ·cases hb : d.testBit i
   ·simp [hi]
   ·exact absurd (ok.lt i ((ok.set i).1 hb)) hi
theorem ev_validGraph {g : List Tk} (hg : Fits g) : Ev (fun k => spec_validGraph.f k g) (graphD g).isSome := by
 have hf := ev_tasksFine hg
 unfold graphD
 by_cases h : fineD g
 ·obtain ⟨N, hN⟩ := fineD_needs h
  obtain ⟨h8, hl, hb⟩ := needsD_spec hN
  rw [decide_eq_true h] at hf
  have ht := ev_topOrder hg hN
  have ok := orderD_ok (N := N) (by omega) (by rw [hl]; exact hb)
  have hfull := full_iff ok
  rw [hN]
  simp only []
  refine (hf.bind (g := fun k b => if b = true then ((spec_topOrder.f k g).bind fun t130 => (some ((t130.length : Int) == (g.length : Int)))) else some false) ?_).of fun k => rfl
  refine (ht.bind (g := fun k t130 => some ((t130.length : Int) == (g.length : Int))) (b := (if (orderD N).2 = 2 ^ g.length - 1 then some (mkG g N) else none).isSome) ((Ev.const _).of fun k => ?_)).of fun k => if_pos rfl
  rw [up_length]
  congr 1
  by_cases hd : (orderD N).2 = 2 ^ g.length - 1
  ·rw [if_pos hd]
   have := hfull.1 (by rw [hl]; exact hd)
   simp [this, hl]
  ·rw [if_neg hd]
   have : (orderD N).1.length ≠ g.length := fun e => hd (by rw [← hl]; exact hfull.2 (by omega))
   simp [this]
   omega
 ·rw [decide_eq_false h] at hf
  have hn : needsD g = none := by
   cases e : needsD g with
   | none => rfl
   | some N => exact absurd (needsD_fine e).1 h
  rw [hn]
  refine (hf.bind (g := fun k b => if b = true then ((spec_topOrder.f k g).bind fun t130 => (some ((t130.length : Int) == (g.length : Int)))) else some false) ((Ev.const false).of fun k => if_neg (by simp))).of fun k => rfl
end Go.Proofs.YtnhkajanbfgbiaaDoor.Core
end
section
set_option linter.unusedVariables false
set_option linter.unusedSimpArgs false
namespace Go.Proofs.YtnhkajanbfgbiaaDoor.Core
open Go Go.RowKit Go.Proofs.YtnhkajanbfgbiaaDoorW.PrintWords Go.Proofs.YtnhkajanbfgbiaaDoorW.PrintMore Go.Proofs.YtnhkajanbfgbiaaDoor.P
theorem ev_smallGraph {s0 : List Int} {N p : Int} (h : RS s0 N p) (hN : N + 211 < 100000) : EvP (fun k => spec_smallGraph.f k s0 p) (fun r => GSmall 16 10 r.1 ∧ RS s0 (N + 211) r.2) := by
 unfold spec_smallGraph.f
 refine (ev_pick h (by omega) (n := 10)).bind fun a ha => EvP.ite (fun _ => ?_) (fun _ => ?_)
 ·refine (ev_anyGraph ha.2.2 (by omega)).bind fun b hb => EvP.ret ⟨hb.1, hb.2.mono (by omega) (by omega)⟩
 ·refine (ev_someGraph ha.2.2 (by omega) 5 (by omega)).bind fun b hb => EvP.ret ⟨⟨Nat.le_trans hb.1.1 (by decide), fun t ht => Nat.le_trans (hb.1.2 t ht) (by decide)⟩, hb.2.mono (by omega) (by omega)⟩
theorem ev_someWorkers {s0 : List Int} {N p : Int} (h : RS s0 N p) (hN : N < 100000) : EvP (fun k => spec_someWorkers.f k s0 p) (fun r => (0 ≤ r.1 ∧ r.1 ≤ 5) ∧ RS s0 (N + 1) r.2) := by
 unfold spec_someWorkers.f
 refine (ev_one h hN _ (by simp)).bind fun a ha => EvP.ret ⟨?_, ha.2⟩
 have := ha.1
 simp only [List.mem_cons, List.not_mem_nil, or_false] at this
 dsimp only
 omega
theorem ev_dos {g : List Tk} (hf : Fits g) (h16 : g.length ≤ 16) {room s0 : List Int} {wk : Int} : ∀ (m : Nat) (lst : List Int) (N p : Int), lst.length + m = g.length → RS s0 N p → N + m + 10 < 100000 → EvP (fun k => spec_DrawOrderStarts.l0 k g room wk lst s0 p) (fun r => r.1 = g ∧ r.2.1 = room ∧ r.2.2.1 = wk ∧ r.2.2.2.length ≤ g.length + 1) := by
 intro m
 induction m with
 | zero =>
  intro lst N p hl h hN
  refine EvP.succ ?_
  simp only [spec_DrawOrderStarts.l0]
  refine EvP.neg (by omega) ((ev_spoil h (by omega) _ 5 (by omega)).bind fun d hd => EvP.ret ⟨rfl, rfl, rfl, ?_⟩)
  have := hd.1
  dsimp only
  omega
 | succ m ih =>
  intro lst N p hl h hN
  have hlb : lst.length < big := by unfold big; omega
  refine EvP.succ ?_
  simp only [spec_DrawOrderStarts.l0]
  refine EvP.pos (by omega) ?_
  have key : ∀ (d i : Nat) (can : List Int), i + d = g.length → can.length ≤ i → EvP (fun k => spec_DrawOrderStarts.l1 k g room wk lst can (i : Int) s0 p) (fun r => r.1 = g ∧ r.2.1 = room ∧ r.2.2.1 = wk ∧ r.2.2.2.length ≤ g.length + 1) := by
   intro d
   induction d with
   | zero =>
    intro i can hi hc
    refine EvP.succ ?_
    simp only [spec_DrawOrderStarts.l1]
    refine EvP.neg (by omega) (EvP.ite (fun _ => ?_) (fun hne => ?_))
    ·refine (ev_spoil h (by omega) _ 5 (by omega)).bind fun d hd => EvP.ret ⟨rfl, rfl, rfl, ?_⟩
     have := hd.1
     dsimp only
     omega
    ·refine (ev_pick h (by omega) (n := (can.length : Int))).bind fun a ha => ?_
     have hr := ha.2.1 (by omega)
     have hll : lst.length < 17592186044416 := Nat.lt_of_le_of_lt (show lst.length ≤ 16 by omega) (by decide)
     exact EvP.pos hr.1 (EvP.pos hr.2 (EvP.pos hll (ih (lst ++ [rd can a.1]) (N + 1) a.2 (by rw [List.length_append, List.length_singleton]; omega) ha.2.2 (by omega))))
   | succ d ihd =>
    intro i can hi hc
    have hw : wrap64 ((i : Int) + 1) = ((i + 1 : Nat) : Int) := w64s (by unfold big; omega)
    have hig : i < g.length := by omega
    have hfi : (g.getD i z38).f1.length < big := hf.2 _ (by
     rw [List.getD_eq_getElem?_getD, List.getElem?_eq_getElem hig, Option.getD_some]
     exact List.getElem_mem hig)
    have hcl : can.length < 17592186044416 := Nat.lt_of_le_of_lt (show can.length ≤ 16 by omega) (by decide)
    refine EvP.succ ?_
    simp only [spec_DrawOrderStarts.l1, hw, rdT_nat]
    refine EvP.pos (Int.ofNat_lt.2 hig) (Ev.bindP (ev_isIn hlb (i : Int)) (EvP.ite (fun _ => ihd (i + 1) can (by omega) (by omega)) (fun _ => EvP.pos (Int.natCast_nonneg i) (Ev.bindP (ev_allDone hfi hlb) (EvP.ite (fun _ => EvP.pos hcl ?_) (fun _ => ihd (i + 1) can (by omega) (by omega)))))))
    exact ihd (i + 1) (can ++ [(i : Int)]) (by omega) (by rw [List.length_append, List.length_singleton]; omega)
  exact key g.length 0 [] (by omega) (Nat.le_refl _)
theorem ev_DrawOrderStarts {l : List Int} (h : Bytes l) : EvP (fun k => spec_DrawOrderStarts.f k l) (fun r => GSmall 16 10 r.1 ∧ r.2.1.length ≤ 4 ∧ r.2.2.2.length ≤ 17) := by
 unfold spec_DrawOrderStarts.f
 refine (ev_newReader h).bind fun a ha => ?_
 refine (ev_smallGraph ha (by omega)).bind fun b hb => ?_
 refine (ev_someRoomA hb.2 (by omega)).bind fun c hc => ?_
 refine (ev_someWorkers hc.2 (by omega)).bind fun d hd => ?_
 have hl := hb.1.1
 refine (ev_dos (hb.1.fits (by unfold big; omega) (by unfold big; omega)) hl (room := c.1) (wk := d.1) b.1.length [] _ d.2 (by simp) hd.2 (by omega)).mono fun r hr => ?_
 obtain ⟨e1, e2, e3, e4⟩ := hr
 exact ⟨by rw [e1]; exact hb.1, by rw [e2]; exact hc.1, by omega⟩
end Go.Proofs.YtnhkajanbfgbiaaDoor.Core
end
section
set_option linter.unusedVariables false
set_option linter.unusedSimpArgs false
namespace Go.Proofs.YtnhkajanbfgbiaaDoor.Core
open Go Go.RowKit Go.Shelf Go.Proofs.YtnhkajanbfgbiaaDoorW.PrintWords Go.Proofs.YtnhkajanbfgbiaaDoorW.PrintMore Go.Proofs.YtnhkajanbfgbiaaDoor.P
attribute [local go_sem] Oper.semAt_some wide_fn wide_depth
theorem needsGo_taskOk {n : Nat} : ∀ {r : List Tk} {N : List Nat}, needsGo n r = some N → ∀ t ∈ r, taskOk t
 | [], _, _, t, ht => by cases ht
 | a :: r, N, h, t, ht => by
  rw [needsGo] at h
  cases he : setD n a.f1 with
  | none => rw [he] at h; cases h
  | some s =>
   rw [he] at h
   by_cases hok : taskOk a
   ·simp only [hok, if_true] at h
    cases hg : needsGo n r with
    | none => rw [hg] at h; cases h
    | some M =>
     rcases List.mem_cons.1 ht with rfl | ht
     ·exact hok
     ·exact needsGo_taskOk hg t ht
   ·simp [hok] at h
theorem graphD_taskOk {g : List Tk} {G : GD} (h : graphD g = some G) : ∀ t ∈ g, taskOk t := by
 obtain ⟨N, hN, _, _⟩ := graphD_spec h
 unfold needsD at hN
 by_cases h8 : g.length ≤ 8
 ·rw [if_pos h8] at hN; exact needsGo_taskOk hN
 ·rw [if_neg h8] at hN; cases hN
theorem graphD_pool {g : List Tk} {G : GD} (h : graphD g = some G) : ∀ t ∈ G.tasks, 0 ≤ t.f2 ∧ t.f2 ≤ 2 := fun t ht => by
 rw [graphD_tasks h] at ht
 exact (graphD_taskOk h t ht).2.1
theorem drawn_below {w w' : World} (h : Drawn0 w w') : Below w.heap.size w w' := by
 obtain ⟨n, rfl⟩ := h
 exact pw_below_drewN (Below.refl _ _) n
theorem graphOf_none (A0 : Option Addr) (c0 : Nat) (l0 : List Tk) (w : World) (hT : Tab w) (hr0 : k38.C w A0 l0.length l0) (hc0 : l0.length ≤ c0) (hg : graphD l0 = none) :
  Calls Tryd.prog 55 #[.slice A0 l0.length c0] w fun e w' => e = .returned (.tuple #[.pointer none, .bool false]) ∧ Below w.heap.size w w' :=
 (graphOf_calls A0 c0 l0 w hT hr0 hc0).mono fun e w' h => by unfold graphPost at h; rw [hg] at h; exact h
theorem graphOf_row (A0 : Option Addr) (c0 : Nat) (l0 : List Tk) (G : GD) (w : World) (hT : Tab w) (hr0 : k38.C w A0 l0.length l0) (hc0 : l0.length ≤ c0) (hg : graphD l0 = some G) :
  Calls Tryd.prog 55 #[.slice A0 l0.length c0] w fun e w' => ∃ (b : Nat) (v : Value), e = .returned (.tuple #[.pointer (some ⟨b, 0, none⟩), .bool true]) ∧ Below w.heap.size w w' ∧ w.heap.size ≤ b ∧ IsG w' b G ∧ w'.cell? ⟨b, 2, none⟩ = some v ∧ (Kd.int .i64).R 3 w' w.heap.size (fun _ => True) v (up G.order) :=
 (graphOf_calls A0 c0 l0 w hT hr0 hc0).mono fun e w' h => by
  unfold graphPost at h
  rw [hg] at h
  obtain ⟨b, v, h1, h2, h3, h4, h5, h6, _⟩ := h
  exact ⟨b, v, h1, h2, h3, h4, h5, h6⟩
theorem graphOf_some (A0 : Option Addr) (c0 : Nat) (l0 : List Tk) (G : GD) (w : World) (hT : Tab w) (hr0 : k38.C w A0 l0.length l0) (hc0 : l0.length ≤ c0) (hg : graphD l0 = some G) :
  Calls Tryd.prog 55 #[.slice A0 l0.length c0] w fun e w' => ∃ b : Nat, e = .returned (.tuple #[.pointer (some ⟨b, 0, none⟩), .bool true]) ∧ Below w.heap.size w w' ∧ IsG w' b G :=
 (graphOf_row A0 c0 l0 G w hT hr0 hc0 hg).mono fun e w' ⟨b, v, h1, h2, _, h3, _⟩ => ⟨b, h1, h2, h3⟩
theorem within_is (x a b : Int) (t : Bool) (w : World) (h : decide (a ≤ x ∧ x ≤ b) = t) :
  Calls Tryd.prog 24 #[.int .i64 x, .int .i64 a, .int .i64 b] w fun e w' => e = .returned (.bool t) ∧ Below w.heap.size w w' :=
 (impl_within.calls x a b t w (by rw [within_eq, h])).mono fun e w' h => ⟨h.1, drawn_below h.2⟩
theorem cell_set {W : World} {p t i : Nat} {cs : Array Value} (h : W.heap[p]? = some (.cells cs t (0, 0))) (v : Value) : (W.setCell ⟨p, i, none⟩ v).heap[p]? = some (.cells (cs.setIfInBounds i v) t (0, 0)) := by
 obtain ⟨hlt, hk⟩ := Array.getElem?_eq_some_iff.1 h
 show (W.heap.modify p _)[p]? = _
 rw [Array.getElem?_eq_getElem (by rw [Array.size_modify]; exact hlt), Array.getElem_modify_self, hk]
 rfl
theorem grown_trans {a b c : World} {row : Option Nat} (h1 : a.grownBy b row) (h2 : b.grownBy c row) : a.grownBy c row :=
 ⟨h2.os.trans h1.os, h2.tape.trans h1.tape, h2.output.trans h1.output, Nat.le_trans h1.size h2.size, fun k hk hn => (h2.block k (Nat.lt_of_lt_of_le hk h1.size) hn).trans (h1.block k hk hn)⟩
theorem grown_of_below {a b : World} (row : Option Nat) (h : Below a.heap.size a b) : a.grownBy b row := ⟨h.os, h.tape, h.output, h.size, fun k hk _ => h.block k hk⟩
end Go.Proofs.YtnhkajanbfgbiaaDoor.Core
end
section
set_option linter.unusedVariables false
set_option linter.unusedSimpArgs false
namespace Go.Proofs.YtnhkajanbfgbiaaDoor.Core
open Go Go.RowKit Go.Shelf Go.Proofs.YtnhkajanbfgbiaaDoorW.PrintWords Go.Proofs.YtnhkajanbfgbiaaDoorW.PrintLast Go.Proofs.YtnhkajanbfgbiaaDoorW.PrintMore Go.Proofs.YtnhkajanbfgbiaaDoor.P
attribute [local go_sem] Oper.semAt_some wide_fn wide_depth
/-- A counter: the tasks, the units of each pool. -/
structure Cn where
 t : Int
 u0 : Int
 u1 : Int
 u2 : Int
def Cn.cells (c : Cn) : Array Value := #[.int .i64 c.t, .int .i64 c.u0, .int .i64 c.u1, .int .i64 c.u2]
def IsCn (w : World) (b : Nat) (c : Cn) : Prop := w.heap[b]? = some (.cells #[.int .i64 c.t, .int .i64 c.u0, .int .i64 c.u1, .int .i64 c.u2] 75 (0, 0))
def Cn.add (c : Cn) (p u s : Int) : Cn :=
 { t := wrap64 (c.t + s), u0 := if p = 0 then wrap64 (c.u0 + wrap64 (s * u)) else c.u0, u1 := if p = 1 then wrap64 (c.u1 + wrap64 (s * u)) else c.u1, u2 := if p = 2 then wrap64 (c.u2 + wrap64 (s * u)) else c.u2 }
theorem IsCn.cell0 {w : World} {b : Nat} {c : Cn} (h : IsCn w b c) : w.cell? ⟨b, 0, none⟩ = some (.int .i64 c.t) := by unfold IsCn at h; simp [World.cell?, h]
theorem IsCn.cell1 {w : World} {b : Nat} {c : Cn} (h : IsCn w b c) : w.cell? ⟨b, 1, none⟩ = some (.int .i64 c.u0) := by unfold IsCn at h; simp [World.cell?, h]
theorem IsCn.cell2 {w : World} {b : Nat} {c : Cn} (h : IsCn w b c) : w.cell? ⟨b, 2, none⟩ = some (.int .i64 c.u1) := by unfold IsCn at h; simp [World.cell?, h]
theorem IsCn.cell3 {w : World} {b : Nat} {c : Cn} (h : IsCn w b c) : w.cell? ⟨b, 3, none⟩ = some (.int .i64 c.u2) := by unfold IsCn at h; simp [World.cell?, h]
theorem IsCn.frozen {w : World} {b i : Nat} {c : Cn} (h : IsCn w b c) : w.frozen? ⟨b, i, none⟩ = false := by unfold IsCn at h; simp [World.frozen?, h]
theorem IsCn.move {w w' : World} {b : Nat} {c : Cn} (h : IsCn w b c) (hb : Below w.heap.size w w') : IsCn w' b c := (hb.block b (cells_lt h)).trans h
set_option maxRecDepth 100000 in
set_option maxHeartbeats 4000000 in
theorem add_calls (pc : Nat) (c : Cn) (f0 f2 f3 s : Int) (A : Option Addr) (n cp : Nat) (w : World) (hc : IsCn w pc c) (hp : f2 = 0 ∨ f2 = 1 ∨ f2 = 2) :
  Calls Tryd.prog 44 #[.pointer (some ⟨pc, 0, none⟩), .agg #[.int .i64 f0, .slice A n cp, .int .i64 f2, .int .i64 f3], .int .i64 s] w fun e w' => e = .returned (.tuple #[]) ∧ w.grownBy w' (some pc) ∧ IsCn w' pc (c.add f2 f3 s) := by
 have hB0 := (Below.refl w.heap.size w).alloc (Nat.le_refl _) (.cells #[.int .i64 f0, .slice A n cp, .int .i64 f2, .int .i64 f3] 38)
 have hcA := hc.move hB0
 have hc0 := hcA.cell0
 have hf0 := hcA.frozen (i := 0)
 go_enter Tryd.func44, Tryd.ntmps44
 go_wp2
 have hpar : (w.alloc (.cells #[.int .i64 f0, .slice A n cp, .int .i64 f2, .int .i64 f3] 38)).heap[w.heap.size]? = some (.cells #[.int .i64 f0, .slice A n cp, .int .i64 f2, .int .i64 f3] 38 (0, 0)) := cells_new w _
 clear hc0 hf0
 have hlt := cells_lt hc
 revert hB0 hcA hpar
 generalize w.alloc (.cells #[.int .i64 f0, .slice A n cp, .int .i64 f2, .int .i64 f3] 38) = w1
 intro hB0 hcA hpar
 have hg1 := grown_trans (grown_of_below (some pc) hB0) (grownBy_setCell'' w1 pc 0 (.int .i64 (wrap64 (c.t + s))))
 have hpar2 := (sother (i := 0) (.int .i64 (wrap64 (c.t + s))) (show w.heap.size ≠ pc by omega)).trans hpar
 have hcB : IsCn (w1.setCell ⟨pc, 0, none⟩ (.int .i64 (wrap64 (c.t + s)))) pc { c with t := wrap64 (c.t + s) } := cell_set hcA _
 revert hg1 hpar2 hcB
 generalize w1.setCell ⟨pc, 0, none⟩ (.int .i64 (wrap64 (c.t + s))) = w2
 intro hg1 hpar2 hcB
 clear hB0 hcA hpar
 refine wp_region_still_tail 15 rfl (by kernel_rfl) ?_
 change wpStill _ _ w2.drew (fun a' => wpList _ _ _ _ a' w2.drew) _ _
 have hdr : Below w2.heap.size w2 w2.drew := below_drew (Below.refl _ _)
 revert hdr
 generalize w2.drew = w3
 intro hdr
 have hcC := hcB.move hdr
 have hpar3 := (hdr.block _ (cells_lt hpar2)).trans hpar2
 have hg3 := grown_trans hg1 (grown_of_below (some pc) hdr)
 clear hcB hpar2 hg1 hdr
 have ht2 : w3.cell? ⟨w.heap.size, 2, none⟩ = some (.int .i64 f2) := by simp [World.cell?, hpar3]
 have ht3 : w3.cell? ⟨w.heap.size, 3, none⟩ = some (.int .i64 f3) := by simp [World.cell?, hpar3]
 have hc1 := hcC.cell1
 have hc2 := hcC.cell2
 have hc3 := hcC.cell3
 have hf1 := hcC.frozen (i := 1)
 have hf2 := hcC.frozen (i := 2)
 have hf3 := hcC.frozen (i := 3)
 simp only [List.take_succ_cons, List.take_zero, List.drop_succ_cons, List.drop_zero]
 rcases hp with rfl | rfl | rfl
 ·repeat still_step
  refine wpStill_nil ?_
  go_wp2
  go_end0
  exact ⟨rfl, grown_trans hg3 (grownBy_setCell'' _ _ _ _), cell_set hcC _⟩
 ·repeat still_step
  refine wpStill_nil ?_
  go_wp2
  go_end0
  exact ⟨rfl, grown_trans hg3 (grownBy_setCell'' _ _ _ _), cell_set hcC _⟩
 ·repeat still_step
  refine wpStill_nil ?_
  go_wp2
  go_end0
  exact ⟨rfl, grown_trans hg3 (grownBy_setCell'' _ _ _ _), cell_set hcC _⟩
theorem IsCn.tame {B : Nat} {w w' : World} {b : Nat} {c : Cn} (h : IsCn w b c) (ht : Tame B w w') : IsCn w' b c := ht.cells h
def Cn.zero : Cn := ⟨0, 0, 0, 0⟩
def cstep (g : List Tk) (c : Cn) (i : Nat) : Cn := c.add (g.getD i z38).f2 (g.getD i z38).f3 1
end Go.Proofs.YtnhkajanbfgbiaaDoor.Core
end
section
set_option linter.unusedVariables false
set_option linter.unusedSimpArgs false
namespace Go.Proofs.YtnhkajanbfgbiaaDoor.Core
open Go Go.RowKit Go.Shelf Go.Proofs.YtnhkajanbfgbiaaDoorW.PrintWords Go.Proofs.YtnhkajanbfgbiaaDoorW.PrintLast Go.Proofs.YtnhkajanbfgbiaaDoorW.PrintMore Go.Proofs.YtnhkajanbfgbiaaDoor.P
attribute [local go_sem] Oper.semAt_some wide_fn wide_depth max2_int max_two
def icells (L : List Nat) : Array Value := (L.map fun (x : Nat) => Value.int .i64 (x : Int)).toArray
theorem icell {W : World} {p t : Nat} {L : List Nat} (h : W.heap[p]? = some (.cells (icells L) t (0, 0))) (i : Nat) (hi : i < L.length) : W.cell? ⟨p, i, none⟩ = some (.int .i64 ((L.getD i 0 : Nat) : Int)) := by
 simp [World.cell?, h, icells, hi]
theorem ifrozen {W : World} {p t : Nat} {L : List Nat} (h : W.heap[p]? = some (.cells (icells L) t (0, 0))) (i : Nat) : W.frozen? ⟨p, i, none⟩ = false := by
 simp [World.frozen?, h]
theorem iset {W : World} {p t : Nat} {L : List Nat} (h : W.heap[p]? = some (.cells (icells L) t (0, 0))) (i x : Nat) : (W.setCell ⟨p, i, none⟩ (.int .i64 (x : Int))).heap[p]? = some (.cells (icells (L.set i x)) t (0, 0)) := by
 rw [blk_set h i _]
 congr 2
 apply Array.ext'
 simp [icells, List.map_set]
/-- What the loops hold: the row, its variable; the rest as it was. -/
structure SI (w0 : World) (p pO n : Nat) (W : World) (L : List Nat) : Prop where
 row : W.heap[p]? = some (.cells (icells L) 3 (0, 0))
 box : Boxed W pO 23 (.slice (some ⟨p, 0, none⟩) n n)
 below : Below w0.heap.size w0 W
theorem SI.tame {w0 W W' : World} {p pO n B : Nat} {L : List Nat} (h : SI w0 p pO n W L) (hb : w0.heap.size ≤ B) (ht : Tame B W W') : SI w0 p pO n W' L := ⟨ht.cells h.row, ht.boxed h.box, ht.below h.below (Nat.le_refl _) hb⟩
theorem SI.move {w0 W W' : World} {p pO n : Nat} {L : List Nat} (h : SI w0 p pO n W L) (hb : Below W.heap.size W W') : SI w0 p pO n W' L := ⟨(hb.block _ (cells_lt h.row)).trans h.row, (hb.block _ h.box.lt).trans h.box, below_step h.below hb⟩
theorem SI.alloc {w0 W : World} {p pO n : Nat} {L : List Nat} (h : SI w0 p pO n W L) (o : Obj) : SI w0 p pO n (W.alloc o) L := h.move ((Below.refl W.heap.size W).alloc (Nat.le_refl _) o)
theorem SI.set {w0 W : World} {p pO n : Nat} {L : List Nat} (h : SI w0 p pO n W L) (hp : w0.heap.size ≤ p) (hne : pO ≠ p) (i x : Nat) : SI w0 p pO n (W.setCell ⟨p, i, none⟩ (.int .i64 (x : Int))) (L.set i x) := ⟨iset h.row i x, (sother _ hne).trans h.box, h.below.setCell (p := ⟨p, i, none⟩) hp _⟩
theorem infoI : (Tryd.prog.info? 3).map (fun i => (i.zero, i.size, i.bytes)) = some (some (.int .i64 0), 1, 8) := by kernel_rfl
theorem run_make_ints (n : Nat) (hn : n ≤ 8) (W : World) : (Instr.makeSlice 23 (.int .i64 (n : Int)) (.int .i64 (n : Int))).run Tryd.prog W = .ok (.slice (some ⟨W.heap.size, 0, none⟩) n n) (W.alloc (.cells (icells (List.replicate n 0)) 3)) := by
 obtain ⟨i0, hi, hz0, hz1, hz2⟩ := info_parts infoI
 have hr := run_make (P := Tryd.prog) W 23 3 i0 (.int .i64 0) Tryd.underlying23 hi hz0 .i64 .i64 (n : Int) (n : Int) (by omega) (by omega) (by rw [hz2]; omega) (by omega)
 rw [hz1] at hr
 simp only [Int.toNat_natCast, Nat.mul_one] at hr
 rw [hr]
 rw [show madeCells (Value.cells (.int .i64 0)) n = icells (List.replicate n 0) from (madeCells1 _ n).trans (by simp [icells])]
/-- A block of numbers, told as a row. -/
theorem icells_R {w : World} {base p n : Nat} {L : List Nat} (hp : base ≤ p) (hrow : w.heap[p]? = some (.cells (icells L) 3 (0, 0))) (hl : L.length = n) (hn : n ≤ 8) : (Kd.int .i64).R 3 w base (fun _ => True) (.slice (some ⟨p, 0, none⟩) n n) (up L) := by
 have hl' : (up L).length = n := by rw [up_length]; exact hl
 exact row_R (k := .i64) (xs := up L) ⟨by simp [encs], .inr ⟨p, n, icells L, by rw [hl'], hp, hrow, by rw [hl']; exact Nat.le_refl _, by unfold maxLen; omega, by simp [icells]; exact hl, by rw [hl']; simp [icells, encs, up]; exact List.take_of_length_le (by rw [List.length_map]; exact Nat.le_of_eq hl)⟩⟩
end Go.Proofs.YtnhkajanbfgbiaaDoor.Core
end
section
set_option linter.unusedVariables false
set_option linter.unusedSimpArgs false
namespace Go.Proofs.YtnhkajanbfgbiaaDoor.Core
open Go Go.RowKit Go.Proofs.YtnhkajanbfgbiaaDoorW.PrintWords Go.Proofs.YtnhkajanbfgbiaaDoorW.PrintMore Go.Proofs.YtnhkajanbfgbiaaDoor.P
/-- The time of a task. -/
def tmN (g : List Tk) (i : Nat) : Nat := (g.getD i z38).f0.toNat
theorem getD_set_ne {L : List Nat} {i j x : Nat} (h : j ≠ i) : (L.set i x).getD j 0 = L.getD j 0 := by
 rw [List.getD_eq_getElem?_getD, List.getElem?_set_ne (Ne.symm h), ← List.getD_eq_getElem?_getD]
def leB (b : Nat) (L : List Nat) : Prop := ∀ i, L.getD i 0 ≤ b
theorem leB_mono {a b : Nat} {L : List Nat} (h : leB a L) (hab : a ≤ b) : leB b L := fun i => Nat.le_trans (h i) hab
def tm20 (g : List Tk) : Prop := ∀ i, tmN g i ≤ 20
end Go.Proofs.YtnhkajanbfgbiaaDoor.Core
end
section
set_option linter.unusedVariables false
set_option linter.unusedSimpArgs false
namespace Go.Proofs.YtnhkajanbfgbiaaDoor.Core
open Go Go.RowKit Go.Proofs.YtnhkajanbfgbiaaDoorW.PrintWords Go.Proofs.YtnhkajanbfgbiaaDoorW.PrintMore Go.Proofs.YtnhkajanbfgbiaaDoor.P
theorem i64_w' (n : Int) : IntKind.i64.wrap n = Go.RowKit.wrap64 n := by unfold Go.RowKit.wrap64; exact IntKind.wrap_i64 n
theorem tm20_of {g : List Tk} (h : ∀ t ∈ g, taskOk t) : tm20 g := by
 intro i
 unfold tmN
 rw [List.getD_eq_getElem?_getD]
 cases e : g[i]? with
 | none => simp [z38]
 | some t =>
  have := (h t (List.mem_of_getElem? e)).1
  simp only [Option.getD_some]
  omega
theorem tm_int {g : List Tk} (h : ∀ t ∈ g, taskOk t) {i : Nat} (hi : i < g.length) : (g.getD i z38).f0 = (tmN g i : Int) ∧ 1 ≤ tmN g i ∧ tmN g i ≤ 20 := by
 have hm : g.getD i z38 ∈ g := by
  rw [List.getD_eq_getElem?_getD, List.getElem?_eq_getElem hi]
  exact List.getElem_mem hi
 have := (h _ hm).1
 unfold tmN
 omega
/-- Sums and greatest ones of small numbers, as the program reckons them. -/
theorem wadd {a b : Nat} (ha : a ≤ 100000) (hb : b ≤ 100000) : wrap64 ((a : Int) + (b : Int)) = ((a + b : Nat) : Int) ∧ IntKind.i64.wrap ((a : Int) + (b : Int)) = ((a + b : Nat) : Int) := by
 have h : wrap64 ((a : Int) + (b : Int)) = ((a + b : Nat) : Int) := by rw [w64 (by omega) (by omega)]; omega
 exact ⟨h, by rw [i64_w']; exact h⟩
theorem wmax (a b : Nat) : (if (a : Int) < (b : Int) then (b : Int) else (a : Int)) = ((max a b : Nat) : Int) := by split <;> omega
end Go.Proofs.YtnhkajanbfgbiaaDoor.Core
end
section
set_option linter.unusedVariables false
set_option linter.unusedSimpArgs false
namespace Go.Proofs.YtnhkajanbfgbiaaDoor.Core
open Go Go.RowKit Go.Shelf Go.Proofs.YtnhkajanbfgbiaaDoorW.PrintWords Go.Proofs.YtnhkajanbfgbiaaDoorW.PrintMore Go.Proofs.YtnhkajanbfgbiaaDoor.P
attribute [local go_sem] Oper.semAt_some wide_fn wide_depth
/-- Whether rooms are valid. -/
def roomOk (l : List Int) : Prop := l.length = 3 ∧ ∀ x ∈ l, 4 ≤ x ∧ x ≤ 8
instance (l : List Int) : Decidable (roomOk l) := by unfold roomOk; infer_instance
theorem ev_room_from (L : List Int) (hL : L.length = 3) : ∀ (r pre : List Int), L = pre ++ r → Ev (fun k => impl_ValidRoom.l0 k L (L.length : Int) (pre.length : Int)) (decide (∀ x ∈ r, 4 ≤ x ∧ x ≤ 8))
 | [], pre, hp => by
  refine Ev.succ ((Ev.const _).of fun k => ?_)
  rw [List.append_nil] at hp
  subst hp
  rw [impl_ValidRoom.l0, if_neg (by omega)]
  simp
 | y :: r, pre, hp => by
  have hlen : L.length = pre.length + (r.length + 1) := by rw [hp]; simp
  have hrd : rd L (pre.length : Int) = y := by rw [hp]; exact rd_mid rfl
  refine Ev.succ ?_
  by_cases hy : 4 ≤ y ∧ y ≤ 8
  ·have ih := ev_room_from L hL r (pre ++ [y]) (by rw [hp]; simp)
   have e : decide (∀ x ∈ y :: r, 4 ≤ x ∧ x ≤ 8) = decide (∀ x ∈ r, 4 ≤ x ∧ x ≤ 8) := by simp [hy]
   rw [e]
   refine ih.of fun k => ?_
   rw [impl_ValidRoom.l0, if_pos (by omega), if_pos (by omega), if_pos (by omega), hrd, within_eq, decide_eq_true hy, Option.bind_some, if_pos rfl, w64 (by omega) (by omega)]
   simp
  ·refine (Ev.const _).of fun k => ?_
   rw [impl_ValidRoom.l0, if_pos (by omega), if_pos (by omega), if_pos (by omega), hrd, within_eq, decide_eq_false hy, Option.bind_some, if_neg (by simp)]
   simp only [Option.some.injEq]
   rw [eq_comm, decide_eq_false_iff_not]
   exact fun h => hy (h y List.mem_cons_self)
theorem ev_ValidRoom (L : List Int) : Ev (fun k => impl_ValidRoom.f k L) (decide (roomOk L)) := by
 by_cases h : L.length = 3
 ·have e : decide (roomOk L) = decide (∀ x ∈ L, 4 ≤ x ∧ x ≤ 8) := by rw [decide_eq_decide]; exact ⟨fun x => x.2, fun x => ⟨h, x⟩⟩
  rw [e]
  refine (ev_room_from L h L [] rfl).of fun k => ?_
  unfold impl_ValidRoom.f
  rw [if_pos (by omega)]
  rfl
 ·refine (Ev.const _).of fun k => ?_
  unfold impl_ValidRoom.f
  rw [if_neg (by omega), eq_comm]
  simp only [Option.some.injEq, decide_eq_false_iff_not]
  exact fun x => h x.1
theorem room_is (A : Option Addr) (c : Nat) (L : List Int) (t : Bool) (w : World) (hC : (Kd.int .i64).C w A L.length L) (hc : L.length ≤ c) (h : decide (roomOk L) = t) :
  Calls Tryd.prog 56 #[.slice A L.length c] w fun e w' => e = .returned (.bool t) ∧ Below w.heap.size w w' := by
 obtain ⟨k, hk⟩ := (ev_ValidRoom L).one
 rw [h] at hk
 exact (impl_ValidRoom.calls k A c L t w hC hc hk).mono fun e w' h => ⟨h.1, drawn_below h.2⟩
end Go.Proofs.YtnhkajanbfgbiaaDoor.Core
end
section
set_option linter.unusedVariables false
set_option linter.unusedSimpArgs false
namespace Go.Proofs.YtnhkajanbfgbiaaDoor.Core
open Go Go.RowKit Go.Shelf Go.Proofs.YtnhkajanbfgbiaaDoorW.PrintWords Go.Proofs.YtnhkajanbfgbiaaDoorW.PrintLast Go.Proofs.YtnhkajanbfgbiaaDoorW.PrintMore Go.Proofs.YtnhkajanbfgbiaaDoor.P
attribute [local go_sem] Oper.semAt_some wide_fn wide_depth
/-- A pool's units. -/
def Cn.u (c : Cn) (p : Int) : Int := if p = 0 then c.u0 else if p = 1 then c.u1 else c.u2
/-- Whether one task more can run. -/
def takesB (c : Cn) (f2 f3 : Int) (room : List Int) (wk : Int) : Bool := decide (c.t < wk) && decide (wrap64 (c.u f2 + f3) ≤ rd room f2)
/-- A counter behind a task that is let in, or not. -/
def afterTake (c : Cn) (f2 f3 : Int) : Bool → Cn
 | true => c.add f2 f3 1
 | false => c
set_option maxRecDepth 100000 in
set_option maxHeartbeats 2000000 in
theorem takes_calls (pc : Nat) (c : Cn) (f0 f2 f3 : Int) (A : Option Addr) (n cp : Nat) (A2 : Option Addr) (c2 : Nat) (room : List Int) (wk : Int) (w : World) (hc : IsCn w pc c) (hp : f2 = 0 ∨ f2 = 1 ∨ f2 = 2) (hl : room.length = 3) (hC : (Kd.int .i64).C w A2 room.length room) (hcp : room.length ≤ c2) :
  Calls Tryd.prog 45 #[.pointer (some ⟨pc, 0, none⟩), .agg #[.int .i64 f0, .slice A n cp, .int .i64 f2, .int .i64 f3], .slice A2 room.length c2, .int .i64 wk] w fun e w' => e = .returned (.bool (takesB c f2 f3 room wk)) ∧ w.grownBy w' (some pc) ∧ IsCn w' pc (afterTake c f2 f3 (takesB c f2 f3 room wk)) := by
 have hB0 := (Below.refl w.heap.size w).alloc (Nat.le_refl _) (.cells #[.int .i64 f0, .slice A n cp, .int .i64 f2, .int .i64 f3] 38)
 have hcA := hc.move hB0
 have hCA := Kd.C_below hC hB0
 have hpar : (w.alloc (.cells #[.int .i64 f0, .slice A n cp, .int .i64 f2, .int .i64 f3] 38)).heap[w.heap.size]? = some (.cells #[.int .i64 f0, .slice A n cp, .int .i64 f2, .int .i64 f3] 38 (0, 0)) := cells_new w _
 have hlt := cells_lt hc
 have hadd := fun W (h : IsCn W pc c) => add_calls pc c f0 f2 f3 1 A n cp W h hp
 have HADD := Aside0.mk hadd
 have hdef : takesB c f2 f3 room wk = (decide (c.t < wk) && decide (wrap64 (c.u f2 + f3) ≤ rd room f2)) := rfl
 generalize takesB c f2 f3 room wk = tb at hdef ⊢
 have hrd : f2.toNat < 3 ∧ 0 ≤ f2 := by omega
 obtain ⟨ad, e0, hxr⟩ := Kd.at_int hCA f2 (by omega) (by omega)
 subst e0
 clear hadd
 go_enter Tryd.func45, Tryd.ntmps45
 rw [hl] at hC hcp ⊢
 go_wp2
 revert hB0 hcA hCA hpar hxr
 generalize w.alloc (.cells #[.int .i64 f0, .slice A n cp, .int .i64 f2, .int .i64 f3] 38) = w1
 intro hB0 hcA hpar hxr hCA
 clear hCA hC hcp
 have hgA : w.grownBy w1 (some pc) := grown_of_below (some pc) hB0
 have ht0 : w1.cell? ⟨w.heap.size, 0, none⟩ = some (.int .i64 f0) := by simp [World.cell?, hpar]
 have ht1 : w1.cell? ⟨w.heap.size, 1, none⟩ = some (.slice A n cp) := by simp [World.cell?, hpar]
 have ht2 : w1.cell? ⟨w.heap.size, 2, none⟩ = some (.int .i64 f2) := by simp [World.cell?, hpar]
 have ht3 : w1.cell? ⟨w.heap.size, 3, none⟩ = some (.int .i64 f3) := by simp [World.cell?, hpar]
 have hc0 := hcA.cell0
 have hcu : w1.cell? ⟨pc, 1 + f2.toNat, none⟩ = some (.int .i64 (c.u f2)) := by
  rcases hp with rfl | rfl | rfl
  ·exact hcA.cell1
  ·exact hcA.cell2
  ·exact hcA.cell3
 generalize c.u f2 = cu at hcu hdef
 generalize rd room f2 = rr at hxr hdef
 by_cases hw : c.t < wk
 ·have hge : decide (c.t ≥ wk) = false := decide_eq_false (by omega)
  have hge2 : decide (wk ≤ c.t) = false := decide_eq_false (by omega)
  rw [decide_eq_true hw, Bool.true_and] at hdef
  have HPAR := Aside0.mk hpar
  have HCN := Aside0.mk hcA
  have HGA := Aside0.mk hgA
  have HDEF := Aside0.mk hdef
  have htk : tb = decide (wrap64 (cu + f3) ≤ rr) := hdef
  clear hpar hcA hgA hdef hw hlt hB0 hc HDEF
  have HTK := Aside0.mk htk
  clear htk
  rcases hp with rfl | rfl | rfl
  ·refine start_ (n := 24) (S := fun w' => w'.cell? ⟨pc, 0, none⟩ = some (.int .i64 c.t) ∧ w'.cell? ⟨w.heap.size, 2, none⟩ = some (.int .i64 0) ∧ w'.cell? ⟨pc, 1, none⟩ = some (.int .i64 cu) ∧ w'.cell? ⟨w.heap.size, 3, none⟩ = some (.int .i64 f3) ∧ w'.cell? ad = some (.int .i64 rr)) (ds := []) #[F5q,F5q,F5q,F5q,F5q,F5q,F5q,F5q,F5q,F5q,F5q,F5q,F5q,F5q,F5q,F5q,F5q,F5q,F5q,F5q,F5q,F5q,F5q,F5q] rfl (by kernel_rfl) rfl ⟨hc0, ht2, hcu, ht3, hxr⟩ (fun hHeld => ?_)
   refine pure_ (i := 0) (N := some 9) (v := ?_) (a' := ?_) #[T5q,F5q,F5q,F5q,F5q,F5q,F5q,F5q,F5q,F5q,F5q,F5q,F5q,F5q,F5q,F5q,F5q,F5q,F5q,F5q,F5q,F5q,F5q,F5q] rfl rfl (by kernel_rfl) (fun _ _ _ h => h) (Or.inl ⟨by rfl, ?_⟩) ?_ ?_
   rotate_left
   ·intro w'
    go_simp
    with_reducible rfl
   rotate_left
   ·simp only [Act.put, List.setIfInBounds_toArray, List.set_cons_zero, List.set_cons_succ, i64_w, i32_w]
    rfl
   refine pure_ (i := 1) (N := some 10) (v := ?_) (a' := ?_) #[T5q,T5q,F5q,F5q,F5q,F5q,F5q,F5q,F5q,F5q,F5q,F5q,F5q,F5q,F5q,F5q,F5q,F5q,F5q,F5q,F5q,F5q,F5q,F5q] rfl rfl (by kernel_rfl) (fun _ _ _ h => h) (Or.inl ⟨by rfl, ?_⟩) ?_ ?_
   rotate_left
   ·intro w'
    go_simp
    with_reducible rfl
   rotate_left
   ·simp only [Act.put, List.setIfInBounds_toArray, List.set_cons_zero, List.set_cons_succ, i64_w, i32_w]
    rfl
   refine pure_ (i := 2) (N := some 11) (v := ?_) (a' := ?_) #[T5q,T5q,T5q,F5q,F5q,F5q,F5q,F5q,F5q,F5q,F5q,F5q,F5q,F5q,F5q,F5q,F5q,F5q,F5q,F5q,F5q,F5q,F5q,F5q] rfl rfl (by kernel_rfl) (fun _ _ _ h => h) (Or.inl ⟨by rfl, ?_⟩) ?_ ?_
   rotate_left
   ·intro w'
    go_simp
    with_reducible rfl
   rotate_left
   ·simp only [Act.put, List.setIfInBounds_toArray, List.set_cons_zero, List.set_cons_succ, i64_w, i32_w]
    rfl
   refine take_ (i := 3) (N := some 12) (v := ?_) (a' := ?_) #[T5q,T5q,T5q,T5q,F5q,F5q,F5q,F5q,F5q,F5q,F5q,F5q,F5q,F5q,F5q,F5q,F5q,F5q,F5q,F5q,F5q,F5q,F5q,F5q] rfl rfl (by kernel_rfl) (fun _ _ _ h => h) (Or.inl ⟨by rfl, ?_⟩) hHeld ?_ ?_
   rotate_left
   ·rintro w' ⟨s0, s1, s2, s3, s4⟩
    go_simp
    with_reducible rfl
   rotate_left
   ·simp only [Act.put, List.setIfInBounds_toArray, List.set_cons_zero, List.set_cons_succ, i64_w, i32_w]
    rfl
   refine pure_ (i := 4) (N := some 13) (v := ?_) (a' := ?_) #[T5q,T5q,T5q,T5q,T5q,F5q,F5q,F5q,F5q,F5q,F5q,F5q,F5q,F5q,F5q,F5q,F5q,F5q,F5q,F5q,F5q,F5q,F5q,F5q] rfl rfl (by kernel_rfl) (fun _ _ _ h => h) (Or.inl ⟨by rfl, ?_⟩) ?_ ?_
   rotate_left
   ·intro w'
    go_simp
    with_reducible rfl
   rotate_left
   ·simp only [Act.put, List.setIfInBounds_toArray, List.set_cons_zero, List.set_cons_succ, i64_w, i32_w]
    rfl
   refine pure_ (i := 5) (N := some 14) (v := ?_) (a' := ?_) #[T5q,T5q,T5q,T5q,T5q,T5q,F5q,F5q,F5q,F5q,F5q,F5q,F5q,F5q,F5q,F5q,F5q,F5q,F5q,F5q,F5q,F5q,F5q,F5q] rfl rfl (by kernel_rfl) (fun _ _ _ h => h) (Or.inl ⟨by rfl, ?_⟩) ?_ ?_
   rotate_left
   ·intro w'
    go_simp
    with_reducible rfl
   rotate_left
   ·simp only [Act.put, List.setIfInBounds_toArray, List.set_cons_zero, List.set_cons_succ, i64_w, i32_w]
    rfl
   refine pure_ (i := 6) (N := some 15) (v := ?_) (a' := ?_) #[T5q,T5q,T5q,T5q,T5q,T5q,T5q,F5q,F5q,F5q,F5q,F5q,F5q,F5q,F5q,F5q,F5q,F5q,F5q,F5q,F5q,F5q,F5q,F5q] rfl rfl (by kernel_rfl) (fun _ _ _ h => h) (Or.inl ⟨by rfl, ?_⟩) ?_ ?_
   rotate_left
   ·intro w'
    go_simp
    with_reducible rfl
   rotate_left
   ·simp only [Act.put, List.setIfInBounds_toArray, List.set_cons_zero, List.set_cons_succ, i64_w, i32_w]
    rfl
   refine pure_ (i := 7) (N := some 16) (v := ?_) (a' := ?_) #[T5q,T5q,T5q,T5q,T5q,T5q,T5q,T5q,F5q,F5q,F5q,F5q,F5q,F5q,F5q,F5q,F5q,F5q,F5q,F5q,F5q,F5q,F5q,F5q] rfl rfl (by kernel_rfl) (fun _ _ _ h => h) (Or.inl ⟨by rfl, ?_⟩) ?_ ?_
   rotate_left
   ·intro w'
    go_simp
    with_reducible rfl
   rotate_left
   ·simp only [Act.put, List.setIfInBounds_toArray, List.set_cons_zero, List.set_cons_succ, i64_w, i32_w]
    rfl
   refine pure_ (i := 8) (N := some 17) (v := ?_) (a' := ?_) #[T5q,T5q,T5q,T5q,T5q,T5q,T5q,T5q,T5q,F5q,F5q,F5q,F5q,F5q,F5q,F5q,F5q,F5q,F5q,F5q,F5q,F5q,F5q,F5q] rfl rfl (by kernel_rfl) (fun _ _ _ h => h) (Or.inl ⟨by rfl, ?_⟩) ?_ ?_
   rotate_left
   ·intro w'
    go_simp
    with_reducible rfl
   rotate_left
   ·simp only [Act.put, List.setIfInBounds_toArray, List.set_cons_zero, List.set_cons_succ, i64_w, i32_w]
    rfl
   refine take_ (i := 9) (N := some 18) (v := ?_) (a' := ?_) #[T5q,T5q,T5q,T5q,T5q,T5q,T5q,T5q,T5q,T5q,F5q,F5q,F5q,F5q,F5q,F5q,F5q,F5q,F5q,F5q,F5q,F5q,F5q,F5q] rfl rfl (by kernel_rfl) (fun _ _ _ h => h) (Or.inl ⟨by rfl, ?_⟩) hHeld ?_ ?_
   rotate_left
   ·rintro w' ⟨s0, s1, s2, s3, s4⟩
    go_simp
    with_reducible rfl
   rotate_left
   ·simp only [Act.put, List.setIfInBounds_toArray, List.set_cons_zero, List.set_cons_succ, i64_w, i32_w]
    rfl
   refine pure_ (i := 10) (N := some 19) (v := ?_) (a' := ?_) #[T5q,T5q,T5q,T5q,T5q,T5q,T5q,T5q,T5q,T5q,T5q,F5q,F5q,F5q,F5q,F5q,F5q,F5q,F5q,F5q,F5q,F5q,F5q,F5q] rfl rfl (by kernel_rfl) (fun _ _ _ h => h) (Or.inl ⟨by rfl, ?_⟩) ?_ ?_
   rotate_left
   ·intro w'
    go_simp
    with_reducible rfl
   rotate_left
   ·simp only [Act.put, List.setIfInBounds_toArray, List.set_cons_zero, List.set_cons_succ, i64_w, i32_w]
    rfl
   refine pure_ (i := 11) (N := some 20) (v := ?_) (a' := ?_) #[T5q,T5q,T5q,T5q,T5q,T5q,T5q,T5q,T5q,T5q,T5q,T5q,F5q,F5q,F5q,F5q,F5q,F5q,F5q,F5q,F5q,F5q,F5q,F5q] rfl rfl (by kernel_rfl) (fun _ _ _ h => h) (Or.inl ⟨by rfl, ?_⟩) ?_ ?_
   rotate_left
   ·intro w'
    go_simp
    with_reducible rfl
   rotate_left
   ·simp only [Act.put, List.setIfInBounds_toArray, List.set_cons_zero, List.set_cons_succ, i64_w, i32_w]
    rfl
   refine pure_ (i := 12) (N := some 21) (v := ?_) (a' := ?_) #[T5q,T5q,T5q,T5q,T5q,T5q,T5q,T5q,T5q,T5q,T5q,T5q,T5q,F5q,F5q,F5q,F5q,F5q,F5q,F5q,F5q,F5q,F5q,F5q] rfl rfl (by kernel_rfl) (fun _ _ _ h => h) (Or.inl ⟨by rfl, ?_⟩) ?_ ?_
   rotate_left
   ·intro w'
    go_simp
    with_reducible rfl
   rotate_left
   ·simp only [Act.put, List.setIfInBounds_toArray, List.set_cons_zero, List.set_cons_succ, i64_w, i32_w]
    rfl
   refine take_ (i := 13) (N := some 22) (v := ?_) (a' := ?_) #[T5q,T5q,T5q,T5q,T5q,T5q,T5q,T5q,T5q,T5q,T5q,T5q,T5q,T5q,F5q,F5q,F5q,F5q,F5q,F5q,F5q,F5q,F5q,F5q] rfl rfl (by kernel_rfl) (fun _ _ _ h => h) (Or.inl ⟨by rfl, ?_⟩) hHeld ?_ ?_
   rotate_left
   ·rintro w' ⟨s0, s1, s2, s3, s4⟩
    go_simp
    with_reducible rfl
   rotate_left
   ·simp only [Act.put, List.setIfInBounds_toArray, List.set_cons_zero, List.set_cons_succ, i64_w, i32_w]
    rfl
   refine pure_ (i := 14) (N := some 23) (v := ?_) (a' := ?_) #[T5q,T5q,T5q,T5q,T5q,T5q,T5q,T5q,T5q,T5q,T5q,T5q,T5q,T5q,T5q,F5q,F5q,F5q,F5q,F5q,F5q,F5q,F5q,F5q] rfl rfl (by kernel_rfl) (fun _ _ _ h => h) (Or.inl ⟨by rfl, ?_⟩) ?_ ?_
   rotate_left
   ·intro w'
    go_simp
    with_reducible rfl
   rotate_left
   ·simp only [Act.put, List.setIfInBounds_toArray, List.set_cons_zero, List.set_cons_succ, i64_w, i32_w]
    rfl
   refine take_ (i := 15) (N := some 24) (v := ?_) (a' := ?_) #[T5q,T5q,T5q,T5q,T5q,T5q,T5q,T5q,T5q,T5q,T5q,T5q,T5q,T5q,T5q,T5q,F5q,F5q,F5q,F5q,F5q,F5q,F5q,F5q] rfl rfl (by kernel_rfl) (fun _ _ _ h => h) (Or.inl ⟨by rfl, ?_⟩) hHeld ?_ ?_
   rotate_left
   ·rintro w' ⟨s0, s1, s2, s3, s4⟩
    go_simp
    with_reducible rfl
   rotate_left
   ·simp only [Act.put, List.setIfInBounds_toArray, List.set_cons_zero, List.set_cons_succ, i64_w, i32_w]
    rfl
   refine pure_ (i := 16) (N := some 25) (v := ?_) (a' := ?_) #[T5q,T5q,T5q,T5q,T5q,T5q,T5q,T5q,T5q,T5q,T5q,T5q,T5q,T5q,T5q,T5q,T5q,F5q,F5q,F5q,F5q,F5q,F5q,F5q] rfl rfl (by kernel_rfl) (fun _ _ _ h => h) (Or.inl ⟨by rfl, ?_⟩) ?_ ?_
   rotate_left
   ·intro w'
    go_simp
    with_reducible rfl
   rotate_left
   ·simp only [Act.put, List.setIfInBounds_toArray, List.set_cons_zero, List.set_cons_succ, i64_w, i32_w]
    rfl
   refine pure_ (i := 17) (N := some 26) (v := ?_) (a' := ?_) #[T5q,T5q,T5q,T5q,T5q,T5q,T5q,T5q,T5q,T5q,T5q,T5q,T5q,T5q,T5q,T5q,T5q,T5q,F5q,F5q,F5q,F5q,F5q,F5q] rfl rfl (by kernel_rfl) (fun _ _ _ h => h) (Or.inl ⟨by rfl, ?_⟩) ?_ ?_
   rotate_left
   ·intro w'
    go_simp
    with_reducible rfl
   rotate_left
   ·simp only [Act.put, List.setIfInBounds_toArray, List.set_cons_zero, List.set_cons_succ, i64_w, i32_w]
    rfl
   refine pure_ (i := 18) (N := some 27) (v := ?_) (a' := ?_) #[T5q,T5q,T5q,T5q,T5q,T5q,T5q,T5q,T5q,T5q,T5q,T5q,T5q,T5q,T5q,T5q,T5q,T5q,T5q,F5q,F5q,F5q,F5q,F5q] rfl rfl (by kernel_rfl) (fun _ _ _ h => h) (Or.inl ⟨by rfl, ?_⟩) ?_ ?_
   rotate_left
   ·intro w'
    go_simp
    with_reducible rfl
   rotate_left
   ·simp only [Act.put, List.setIfInBounds_toArray, List.set_cons_zero, List.set_cons_succ, i64_w, i32_w]
    rfl
   refine take_ (i := 19) (N := some 28) (v := ?_) (a' := ?_) #[T5q,T5q,T5q,T5q,T5q,T5q,T5q,T5q,T5q,T5q,T5q,T5q,T5q,T5q,T5q,T5q,T5q,T5q,T5q,T5q,F5q,F5q,F5q,F5q] rfl rfl (by kernel_rfl) (fun _ _ _ h => h) (Or.inl ⟨by rfl, ?_⟩) hHeld ?_ ?_
   rotate_left
   ·rintro w' ⟨s0, s1, s2, s3, s4⟩
    go_simp
    with_reducible rfl
   rotate_left
   ·simp only [Act.put, List.setIfInBounds_toArray, List.set_cons_zero, List.set_cons_succ, i64_w, i32_w]
    rfl
   refine pure_ (i := 20) (N := some 29) (v := ?_) (a' := ?_) #[T5q,T5q,T5q,T5q,T5q,T5q,T5q,T5q,T5q,T5q,T5q,T5q,T5q,T5q,T5q,T5q,T5q,T5q,T5q,T5q,T5q,F5q,F5q,F5q] rfl rfl (by kernel_rfl) (fun _ _ _ h => h) (Or.inl ⟨by rfl, ?_⟩) ?_ ?_
   rotate_left
   ·intro w'
    go_simp
    with_reducible rfl
   rotate_left
   ·simp only [Act.put, List.setIfInBounds_toArray, List.set_cons_zero, List.set_cons_succ, i64_w, i32_w]
    rfl
   refine take_ (i := 21) (N := some 30) (v := ?_) (a' := ?_) #[T5q,T5q,T5q,T5q,T5q,T5q,T5q,T5q,T5q,T5q,T5q,T5q,T5q,T5q,T5q,T5q,T5q,T5q,T5q,T5q,T5q,T5q,F5q,F5q] rfl rfl (by kernel_rfl) (fun _ _ _ h => h) (Or.inl ⟨by rfl, ?_⟩) hHeld ?_ ?_
   rotate_left
   ·rintro w' ⟨s0, s1, s2, s3, s4⟩
    go_simp
    with_reducible rfl
   rotate_left
   ·simp only [Act.put, List.setIfInBounds_toArray, List.set_cons_zero, List.set_cons_succ, i64_w, i32_w]
    rfl
   refine pure_ (i := 22) (N := some 31) (v := ?_) (a' := ?_) #[T5q,T5q,T5q,T5q,T5q,T5q,T5q,T5q,T5q,T5q,T5q,T5q,T5q,T5q,T5q,T5q,T5q,T5q,T5q,T5q,T5q,T5q,T5q,F5q] rfl rfl (by kernel_rfl) (fun _ _ _ h => h) (Or.inl ⟨by rfl, ?_⟩) ?_ ?_
   rotate_left
   ·intro w'
    go_simp
    with_reducible rfl
   rotate_left
   ·simp only [Act.put, List.setIfInBounds_toArray, List.set_cons_zero, List.set_cons_succ, i64_w, i32_w]
    rfl
   refine pure_ (i := 23) (N := some 32) (v := ?_) (a' := ?_) #[T5q,T5q,T5q,T5q,T5q,T5q,T5q,T5q,T5q,T5q,T5q,T5q,T5q,T5q,T5q,T5q,T5q,T5q,T5q,T5q,T5q,T5q,T5q,T5q] rfl rfl (by kernel_rfl) (fun _ _ _ h => h) (Or.inl ⟨by rfl, ?_⟩) ?_ ?_
   rotate_left
   ·intro w'
    go_simp
    with_reducible rfl
   rotate_left
   ·simp only [Act.put, List.setIfInBounds_toArray, List.set_cons_zero, List.set_cons_succ, i64_w, i32_w]
    rfl
   refine done_ (by kernel_rfl) ?_
   have hdr : Below w1.heap.size w1 w1.drew := below_drew (Below.refl _ _)
   have HCN2 := Aside0.mk (HCN.out.move hdr)
   have HGA2 := Aside0.mk (grown_trans HGA.out (grown_of_below (some pc) hdr))
   have u0 : w1.drew.cell? ⟨w.heap.size, 0, none⟩ = some (.int .i64 f0) := ht0
   have u1 : w1.drew.cell? ⟨w.heap.size, 1, none⟩ = some (.slice A n cp) := ht1
   have u2 : w1.drew.cell? ⟨w.heap.size, 2, none⟩ = some (.int .i64 0) := ht2
   have u3 : w1.drew.cell? ⟨w.heap.size, 3, none⟩ = some (.int .i64 f3) := ht3
   clear ht0 ht1 ht2 ht3 hc0 hcu hxr hHeld hdr
   revert HCN2 HGA2 u0 u1 u2 u3
   generalize w1.drew = w3
   intro HCN2 HGA2 u0 u1 u2 u3
   by_cases hgt : wrap64 (cu + f3) ≤ rr
   ·have hg1 : decide (wrap64 (cu + f3) > rr) = false := decide_eq_false (by omega)
    have hg2 : decide (rr < wrap64 (cu + f3)) = false := decide_eq_false (by omega)
    have htb : tb = true := by rw [HTK.out]; exact decide_eq_true hgt
    subst htb
    go_wp2_with (go_at_call 44; refine (HADD.out _ HCN2.out).mono ?_; rintro e w' ⟨rfl, hgr, hcn'⟩)
    go_ret
    exact ⟨rfl, grown_trans HGA2.out hgr, hcn'⟩
   ·have hg1 : decide (wrap64 (cu + f3) > rr) = true := decide_eq_true (by omega)
    have hg2 : decide (rr < wrap64 (cu + f3)) = true := decide_eq_true (by omega)
    have htb : tb = false := by rw [HTK.out]; exact decide_eq_false hgt
    subst htb
    go_wp2
    go_ret
    exact ⟨rfl, HGA2.out, HCN2.out⟩
  ·refine start_ (n := 24) (S := fun w' => w'.cell? ⟨pc, 0, none⟩ = some (.int .i64 c.t) ∧ w'.cell? ⟨w.heap.size, 2, none⟩ = some (.int .i64 1) ∧ w'.cell? ⟨pc, 2, none⟩ = some (.int .i64 cu) ∧ w'.cell? ⟨w.heap.size, 3, none⟩ = some (.int .i64 f3) ∧ w'.cell? ⟨ad.block, ad.off + 1, none⟩ = some (.int .i64 rr)) (ds := []) #[F5q,F5q,F5q,F5q,F5q,F5q,F5q,F5q,F5q,F5q,F5q,F5q,F5q,F5q,F5q,F5q,F5q,F5q,F5q,F5q,F5q,F5q,F5q,F5q] rfl (by kernel_rfl) rfl ⟨hc0, ht2, hcu, ht3, hxr⟩ (fun hHeld => ?_)
   refine pure_ (i := 0) (N := some 9) (v := ?_) (a' := ?_) #[T5q,F5q,F5q,F5q,F5q,F5q,F5q,F5q,F5q,F5q,F5q,F5q,F5q,F5q,F5q,F5q,F5q,F5q,F5q,F5q,F5q,F5q,F5q,F5q] rfl rfl (by kernel_rfl) (fun _ _ _ h => h) (Or.inl ⟨by rfl, ?_⟩) ?_ ?_
   rotate_left
   ·intro w'
    go_simp
    with_reducible rfl
   rotate_left
   ·simp only [Act.put, List.setIfInBounds_toArray, List.set_cons_zero, List.set_cons_succ, i64_w, i32_w]
    rfl
   refine pure_ (i := 1) (N := some 10) (v := ?_) (a' := ?_) #[T5q,T5q,F5q,F5q,F5q,F5q,F5q,F5q,F5q,F5q,F5q,F5q,F5q,F5q,F5q,F5q,F5q,F5q,F5q,F5q,F5q,F5q,F5q,F5q] rfl rfl (by kernel_rfl) (fun _ _ _ h => h) (Or.inl ⟨by rfl, ?_⟩) ?_ ?_
   rotate_left
   ·intro w'
    go_simp
    with_reducible rfl
   rotate_left
   ·simp only [Act.put, List.setIfInBounds_toArray, List.set_cons_zero, List.set_cons_succ, i64_w, i32_w]
    rfl
   refine pure_ (i := 2) (N := some 11) (v := ?_) (a' := ?_) #[T5q,T5q,T5q,F5q,F5q,F5q,F5q,F5q,F5q,F5q,F5q,F5q,F5q,F5q,F5q,F5q,F5q,F5q,F5q,F5q,F5q,F5q,F5q,F5q] rfl rfl (by kernel_rfl) (fun _ _ _ h => h) (Or.inl ⟨by rfl, ?_⟩) ?_ ?_
   rotate_left
   ·intro w'
    go_simp
    with_reducible rfl
   rotate_left
   ·simp only [Act.put, List.setIfInBounds_toArray, List.set_cons_zero, List.set_cons_succ, i64_w, i32_w]
    rfl
   refine take_ (i := 3) (N := some 12) (v := ?_) (a' := ?_) #[T5q,T5q,T5q,T5q,F5q,F5q,F5q,F5q,F5q,F5q,F5q,F5q,F5q,F5q,F5q,F5q,F5q,F5q,F5q,F5q,F5q,F5q,F5q,F5q] rfl rfl (by kernel_rfl) (fun _ _ _ h => h) (Or.inl ⟨by rfl, ?_⟩) hHeld ?_ ?_
   rotate_left
   ·rintro w' ⟨s0, s1, s2, s3, s4⟩
    go_simp
    with_reducible rfl
   rotate_left
   ·simp only [Act.put, List.setIfInBounds_toArray, List.set_cons_zero, List.set_cons_succ, i64_w, i32_w]
    rfl
   refine pure_ (i := 4) (N := some 13) (v := ?_) (a' := ?_) #[T5q,T5q,T5q,T5q,T5q,F5q,F5q,F5q,F5q,F5q,F5q,F5q,F5q,F5q,F5q,F5q,F5q,F5q,F5q,F5q,F5q,F5q,F5q,F5q] rfl rfl (by kernel_rfl) (fun _ _ _ h => h) (Or.inl ⟨by rfl, ?_⟩) ?_ ?_
   rotate_left
   ·intro w'
    go_simp
    with_reducible rfl
   rotate_left
   ·simp only [Act.put, List.setIfInBounds_toArray, List.set_cons_zero, List.set_cons_succ, i64_w, i32_w]
    rfl
   refine pure_ (i := 5) (N := some 14) (v := ?_) (a' := ?_) #[T5q,T5q,T5q,T5q,T5q,T5q,F5q,F5q,F5q,F5q,F5q,F5q,F5q,F5q,F5q,F5q,F5q,F5q,F5q,F5q,F5q,F5q,F5q,F5q] rfl rfl (by kernel_rfl) (fun _ _ _ h => h) (Or.inl ⟨by rfl, ?_⟩) ?_ ?_
   rotate_left
   ·intro w'
    go_simp
    with_reducible rfl
   rotate_left
   ·simp only [Act.put, List.setIfInBounds_toArray, List.set_cons_zero, List.set_cons_succ, i64_w, i32_w]
    rfl
   refine pure_ (i := 6) (N := some 15) (v := ?_) (a' := ?_) #[T5q,T5q,T5q,T5q,T5q,T5q,T5q,F5q,F5q,F5q,F5q,F5q,F5q,F5q,F5q,F5q,F5q,F5q,F5q,F5q,F5q,F5q,F5q,F5q] rfl rfl (by kernel_rfl) (fun _ _ _ h => h) (Or.inl ⟨by rfl, ?_⟩) ?_ ?_
   rotate_left
   ·intro w'
    go_simp
    with_reducible rfl
   rotate_left
   ·simp only [Act.put, List.setIfInBounds_toArray, List.set_cons_zero, List.set_cons_succ, i64_w, i32_w]
    rfl
   refine pure_ (i := 7) (N := some 16) (v := ?_) (a' := ?_) #[T5q,T5q,T5q,T5q,T5q,T5q,T5q,T5q,F5q,F5q,F5q,F5q,F5q,F5q,F5q,F5q,F5q,F5q,F5q,F5q,F5q,F5q,F5q,F5q] rfl rfl (by kernel_rfl) (fun _ _ _ h => h) (Or.inl ⟨by rfl, ?_⟩) ?_ ?_
   rotate_left
   ·intro w'
    go_simp
    with_reducible rfl
   rotate_left
   ·simp only [Act.put, List.setIfInBounds_toArray, List.set_cons_zero, List.set_cons_succ, i64_w, i32_w]
    rfl
   refine pure_ (i := 8) (N := some 17) (v := ?_) (a' := ?_) #[T5q,T5q,T5q,T5q,T5q,T5q,T5q,T5q,T5q,F5q,F5q,F5q,F5q,F5q,F5q,F5q,F5q,F5q,F5q,F5q,F5q,F5q,F5q,F5q] rfl rfl (by kernel_rfl) (fun _ _ _ h => h) (Or.inl ⟨by rfl, ?_⟩) ?_ ?_
   rotate_left
   ·intro w'
    go_simp
    with_reducible rfl
   rotate_left
   ·simp only [Act.put, List.setIfInBounds_toArray, List.set_cons_zero, List.set_cons_succ, i64_w, i32_w]
    rfl
   refine take_ (i := 9) (N := some 18) (v := ?_) (a' := ?_) #[T5q,T5q,T5q,T5q,T5q,T5q,T5q,T5q,T5q,T5q,F5q,F5q,F5q,F5q,F5q,F5q,F5q,F5q,F5q,F5q,F5q,F5q,F5q,F5q] rfl rfl (by kernel_rfl) (fun _ _ _ h => h) (Or.inl ⟨by rfl, ?_⟩) hHeld ?_ ?_
   rotate_left
   ·rintro w' ⟨s0, s1, s2, s3, s4⟩
    go_simp
    with_reducible rfl
   rotate_left
   ·simp only [Act.put, List.setIfInBounds_toArray, List.set_cons_zero, List.set_cons_succ, i64_w, i32_w]
    rfl
   refine pure_ (i := 10) (N := some 19) (v := ?_) (a' := ?_) #[T5q,T5q,T5q,T5q,T5q,T5q,T5q,T5q,T5q,T5q,T5q,F5q,F5q,F5q,F5q,F5q,F5q,F5q,F5q,F5q,F5q,F5q,F5q,F5q] rfl rfl (by kernel_rfl) (fun _ _ _ h => h) (Or.inl ⟨by rfl, ?_⟩) ?_ ?_
   rotate_left
   ·intro w'
    go_simp
    with_reducible rfl
   rotate_left
   ·simp only [Act.put, List.setIfInBounds_toArray, List.set_cons_zero, List.set_cons_succ, i64_w, i32_w]
    rfl
   refine pure_ (i := 11) (N := some 20) (v := ?_) (a' := ?_) #[T5q,T5q,T5q,T5q,T5q,T5q,T5q,T5q,T5q,T5q,T5q,T5q,F5q,F5q,F5q,F5q,F5q,F5q,F5q,F5q,F5q,F5q,F5q,F5q] rfl rfl (by kernel_rfl) (fun _ _ _ h => h) (Or.inl ⟨by rfl, ?_⟩) ?_ ?_
   rotate_left
   ·intro w'
    go_simp
    with_reducible rfl
   rotate_left
   ·simp only [Act.put, List.setIfInBounds_toArray, List.set_cons_zero, List.set_cons_succ, i64_w, i32_w]
    rfl
   refine pure_ (i := 12) (N := some 21) (v := ?_) (a' := ?_) #[T5q,T5q,T5q,T5q,T5q,T5q,T5q,T5q,T5q,T5q,T5q,T5q,T5q,F5q,F5q,F5q,F5q,F5q,F5q,F5q,F5q,F5q,F5q,F5q] rfl rfl (by kernel_rfl) (fun _ _ _ h => h) (Or.inl ⟨by rfl, ?_⟩) ?_ ?_
   rotate_left
   ·intro w'
    go_simp
    with_reducible rfl
   rotate_left
   ·simp only [Act.put, List.setIfInBounds_toArray, List.set_cons_zero, List.set_cons_succ, i64_w, i32_w]
    rfl
   refine take_ (i := 13) (N := some 22) (v := ?_) (a' := ?_) #[T5q,T5q,T5q,T5q,T5q,T5q,T5q,T5q,T5q,T5q,T5q,T5q,T5q,T5q,F5q,F5q,F5q,F5q,F5q,F5q,F5q,F5q,F5q,F5q] rfl rfl (by kernel_rfl) (fun _ _ _ h => h) (Or.inl ⟨by rfl, ?_⟩) hHeld ?_ ?_
   rotate_left
   ·rintro w' ⟨s0, s1, s2, s3, s4⟩
    go_simp
    with_reducible rfl
   rotate_left
   ·simp only [Act.put, List.setIfInBounds_toArray, List.set_cons_zero, List.set_cons_succ, i64_w, i32_w]
    rfl
   refine pure_ (i := 14) (N := some 23) (v := ?_) (a' := ?_) #[T5q,T5q,T5q,T5q,T5q,T5q,T5q,T5q,T5q,T5q,T5q,T5q,T5q,T5q,T5q,F5q,F5q,F5q,F5q,F5q,F5q,F5q,F5q,F5q] rfl rfl (by kernel_rfl) (fun _ _ _ h => h) (Or.inl ⟨by rfl, ?_⟩) ?_ ?_
   rotate_left
   ·intro w'
    go_simp
    with_reducible rfl
   rotate_left
   ·simp only [Act.put, List.setIfInBounds_toArray, List.set_cons_zero, List.set_cons_succ, i64_w, i32_w]
    rfl
   refine take_ (i := 15) (N := some 24) (v := ?_) (a' := ?_) #[T5q,T5q,T5q,T5q,T5q,T5q,T5q,T5q,T5q,T5q,T5q,T5q,T5q,T5q,T5q,T5q,F5q,F5q,F5q,F5q,F5q,F5q,F5q,F5q] rfl rfl (by kernel_rfl) (fun _ _ _ h => h) (Or.inl ⟨by rfl, ?_⟩) hHeld ?_ ?_
   rotate_left
   ·rintro w' ⟨s0, s1, s2, s3, s4⟩
    go_simp
    with_reducible rfl
   rotate_left
   ·simp only [Act.put, List.setIfInBounds_toArray, List.set_cons_zero, List.set_cons_succ, i64_w, i32_w]
    rfl
   refine pure_ (i := 16) (N := some 25) (v := ?_) (a' := ?_) #[T5q,T5q,T5q,T5q,T5q,T5q,T5q,T5q,T5q,T5q,T5q,T5q,T5q,T5q,T5q,T5q,T5q,F5q,F5q,F5q,F5q,F5q,F5q,F5q] rfl rfl (by kernel_rfl) (fun _ _ _ h => h) (Or.inl ⟨by rfl, ?_⟩) ?_ ?_
   rotate_left
   ·intro w'
    go_simp
    with_reducible rfl
   rotate_left
   ·simp only [Act.put, List.setIfInBounds_toArray, List.set_cons_zero, List.set_cons_succ, i64_w, i32_w]
    rfl
   refine pure_ (i := 17) (N := some 26) (v := ?_) (a' := ?_) #[T5q,T5q,T5q,T5q,T5q,T5q,T5q,T5q,T5q,T5q,T5q,T5q,T5q,T5q,T5q,T5q,T5q,T5q,F5q,F5q,F5q,F5q,F5q,F5q] rfl rfl (by kernel_rfl) (fun _ _ _ h => h) (Or.inl ⟨by rfl, ?_⟩) ?_ ?_
   rotate_left
   ·intro w'
    go_simp
    with_reducible rfl
   rotate_left
   ·simp only [Act.put, List.setIfInBounds_toArray, List.set_cons_zero, List.set_cons_succ, i64_w, i32_w]
    rfl
   refine pure_ (i := 18) (N := some 27) (v := ?_) (a' := ?_) #[T5q,T5q,T5q,T5q,T5q,T5q,T5q,T5q,T5q,T5q,T5q,T5q,T5q,T5q,T5q,T5q,T5q,T5q,T5q,F5q,F5q,F5q,F5q,F5q] rfl rfl (by kernel_rfl) (fun _ _ _ h => h) (Or.inl ⟨by rfl, ?_⟩) ?_ ?_
   rotate_left
   ·intro w'
    go_simp
    with_reducible rfl
   rotate_left
   ·simp only [Act.put, List.setIfInBounds_toArray, List.set_cons_zero, List.set_cons_succ, i64_w, i32_w]
    rfl
   refine take_ (i := 19) (N := some 28) (v := ?_) (a' := ?_) #[T5q,T5q,T5q,T5q,T5q,T5q,T5q,T5q,T5q,T5q,T5q,T5q,T5q,T5q,T5q,T5q,T5q,T5q,T5q,T5q,F5q,F5q,F5q,F5q] rfl rfl (by kernel_rfl) (fun _ _ _ h => h) (Or.inl ⟨by rfl, ?_⟩) hHeld ?_ ?_
   rotate_left
   ·rintro w' ⟨s0, s1, s2, s3, s4⟩
    go_simp
    with_reducible rfl
   rotate_left
   ·simp only [Act.put, List.setIfInBounds_toArray, List.set_cons_zero, List.set_cons_succ, i64_w, i32_w]
    rfl
   refine pure_ (i := 20) (N := some 29) (v := ?_) (a' := ?_) #[T5q,T5q,T5q,T5q,T5q,T5q,T5q,T5q,T5q,T5q,T5q,T5q,T5q,T5q,T5q,T5q,T5q,T5q,T5q,T5q,T5q,F5q,F5q,F5q] rfl rfl (by kernel_rfl) (fun _ _ _ h => h) (Or.inl ⟨by rfl, ?_⟩) ?_ ?_
   rotate_left
   ·intro w'
    go_simp
    with_reducible rfl
   rotate_left
   ·simp only [Act.put, List.setIfInBounds_toArray, List.set_cons_zero, List.set_cons_succ, i64_w, i32_w]
    rfl
   refine take_ (i := 21) (N := some 30) (v := ?_) (a' := ?_) #[T5q,T5q,T5q,T5q,T5q,T5q,T5q,T5q,T5q,T5q,T5q,T5q,T5q,T5q,T5q,T5q,T5q,T5q,T5q,T5q,T5q,T5q,F5q,F5q] rfl rfl (by kernel_rfl) (fun _ _ _ h => h) (Or.inl ⟨by rfl, ?_⟩) hHeld ?_ ?_
   rotate_left
   ·rintro w' ⟨s0, s1, s2, s3, s4⟩
    go_simp
    with_reducible rfl
   rotate_left
   ·simp only [Act.put, List.setIfInBounds_toArray, List.set_cons_zero, List.set_cons_succ, i64_w, i32_w]
    rfl
   refine pure_ (i := 22) (N := some 31) (v := ?_) (a' := ?_) #[T5q,T5q,T5q,T5q,T5q,T5q,T5q,T5q,T5q,T5q,T5q,T5q,T5q,T5q,T5q,T5q,T5q,T5q,T5q,T5q,T5q,T5q,T5q,F5q] rfl rfl (by kernel_rfl) (fun _ _ _ h => h) (Or.inl ⟨by rfl, ?_⟩) ?_ ?_
   rotate_left
   ·intro w'
    go_simp
    with_reducible rfl
   rotate_left
   ·simp only [Act.put, List.setIfInBounds_toArray, List.set_cons_zero, List.set_cons_succ, i64_w, i32_w]
    rfl
   refine pure_ (i := 23) (N := some 32) (v := ?_) (a' := ?_) #[T5q,T5q,T5q,T5q,T5q,T5q,T5q,T5q,T5q,T5q,T5q,T5q,T5q,T5q,T5q,T5q,T5q,T5q,T5q,T5q,T5q,T5q,T5q,T5q] rfl rfl (by kernel_rfl) (fun _ _ _ h => h) (Or.inl ⟨by rfl, ?_⟩) ?_ ?_
   rotate_left
   ·intro w'
    go_simp
    with_reducible rfl
   rotate_left
   ·simp only [Act.put, List.setIfInBounds_toArray, List.set_cons_zero, List.set_cons_succ, i64_w, i32_w]
    rfl
   refine done_ (by kernel_rfl) ?_
   have hdr : Below w1.heap.size w1 w1.drew := below_drew (Below.refl _ _)
   have HCN2 := Aside0.mk (HCN.out.move hdr)
   have HGA2 := Aside0.mk (grown_trans HGA.out (grown_of_below (some pc) hdr))
   have u0 : w1.drew.cell? ⟨w.heap.size, 0, none⟩ = some (.int .i64 f0) := ht0
   have u1 : w1.drew.cell? ⟨w.heap.size, 1, none⟩ = some (.slice A n cp) := ht1
   have u2 : w1.drew.cell? ⟨w.heap.size, 2, none⟩ = some (.int .i64 1) := ht2
   have u3 : w1.drew.cell? ⟨w.heap.size, 3, none⟩ = some (.int .i64 f3) := ht3
   clear ht0 ht1 ht2 ht3 hc0 hcu hxr hHeld hdr
   revert HCN2 HGA2 u0 u1 u2 u3
   generalize w1.drew = w3
   intro HCN2 HGA2 u0 u1 u2 u3
   by_cases hgt : wrap64 (cu + f3) ≤ rr
   ·have hg1 : decide (wrap64 (cu + f3) > rr) = false := decide_eq_false (by omega)
    have hg2 : decide (rr < wrap64 (cu + f3)) = false := decide_eq_false (by omega)
    have htb : tb = true := by rw [HTK.out]; exact decide_eq_true hgt
    subst htb
    go_wp2_with (go_at_call 44; refine (HADD.out _ HCN2.out).mono ?_; rintro e w' ⟨rfl, hgr, hcn'⟩)
    go_ret
    exact ⟨rfl, grown_trans HGA2.out hgr, hcn'⟩
   ·have hg1 : decide (wrap64 (cu + f3) > rr) = true := decide_eq_true (by omega)
    have hg2 : decide (rr < wrap64 (cu + f3)) = true := decide_eq_true (by omega)
    have htb : tb = false := by rw [HTK.out]; exact decide_eq_false hgt
    subst htb
    go_wp2
    go_ret
    exact ⟨rfl, HGA2.out, HCN2.out⟩
  ·refine start_ (n := 24) (S := fun w' => w'.cell? ⟨pc, 0, none⟩ = some (.int .i64 c.t) ∧ w'.cell? ⟨w.heap.size, 2, none⟩ = some (.int .i64 2) ∧ w'.cell? ⟨pc, 3, none⟩ = some (.int .i64 cu) ∧ w'.cell? ⟨w.heap.size, 3, none⟩ = some (.int .i64 f3) ∧ w'.cell? ⟨ad.block, ad.off + 2, none⟩ = some (.int .i64 rr)) (ds := []) #[F5q,F5q,F5q,F5q,F5q,F5q,F5q,F5q,F5q,F5q,F5q,F5q,F5q,F5q,F5q,F5q,F5q,F5q,F5q,F5q,F5q,F5q,F5q,F5q] rfl (by kernel_rfl) rfl ⟨hc0, ht2, hcu, ht3, hxr⟩ (fun hHeld => ?_)
   refine pure_ (i := 0) (N := some 9) (v := ?_) (a' := ?_) #[T5q,F5q,F5q,F5q,F5q,F5q,F5q,F5q,F5q,F5q,F5q,F5q,F5q,F5q,F5q,F5q,F5q,F5q,F5q,F5q,F5q,F5q,F5q,F5q] rfl rfl (by kernel_rfl) (fun _ _ _ h => h) (Or.inl ⟨by rfl, ?_⟩) ?_ ?_
   rotate_left
   ·intro w'
    go_simp
    with_reducible rfl
   rotate_left
   ·simp only [Act.put, List.setIfInBounds_toArray, List.set_cons_zero, List.set_cons_succ, i64_w, i32_w]
    rfl
   refine pure_ (i := 1) (N := some 10) (v := ?_) (a' := ?_) #[T5q,T5q,F5q,F5q,F5q,F5q,F5q,F5q,F5q,F5q,F5q,F5q,F5q,F5q,F5q,F5q,F5q,F5q,F5q,F5q,F5q,F5q,F5q,F5q] rfl rfl (by kernel_rfl) (fun _ _ _ h => h) (Or.inl ⟨by rfl, ?_⟩) ?_ ?_
   rotate_left
   ·intro w'
    go_simp
    with_reducible rfl
   rotate_left
   ·simp only [Act.put, List.setIfInBounds_toArray, List.set_cons_zero, List.set_cons_succ, i64_w, i32_w]
    rfl
   refine pure_ (i := 2) (N := some 11) (v := ?_) (a' := ?_) #[T5q,T5q,T5q,F5q,F5q,F5q,F5q,F5q,F5q,F5q,F5q,F5q,F5q,F5q,F5q,F5q,F5q,F5q,F5q,F5q,F5q,F5q,F5q,F5q] rfl rfl (by kernel_rfl) (fun _ _ _ h => h) (Or.inl ⟨by rfl, ?_⟩) ?_ ?_
   rotate_left
   ·intro w'
    go_simp
    with_reducible rfl
   rotate_left
   ·simp only [Act.put, List.setIfInBounds_toArray, List.set_cons_zero, List.set_cons_succ, i64_w, i32_w]
    rfl
   refine take_ (i := 3) (N := some 12) (v := ?_) (a' := ?_) #[T5q,T5q,T5q,T5q,F5q,F5q,F5q,F5q,F5q,F5q,F5q,F5q,F5q,F5q,F5q,F5q,F5q,F5q,F5q,F5q,F5q,F5q,F5q,F5q] rfl rfl (by kernel_rfl) (fun _ _ _ h => h) (Or.inl ⟨by rfl, ?_⟩) hHeld ?_ ?_
   rotate_left
   ·rintro w' ⟨s0, s1, s2, s3, s4⟩
    go_simp
    with_reducible rfl
   rotate_left
   ·simp only [Act.put, List.setIfInBounds_toArray, List.set_cons_zero, List.set_cons_succ, i64_w, i32_w]
    rfl
   refine pure_ (i := 4) (N := some 13) (v := ?_) (a' := ?_) #[T5q,T5q,T5q,T5q,T5q,F5q,F5q,F5q,F5q,F5q,F5q,F5q,F5q,F5q,F5q,F5q,F5q,F5q,F5q,F5q,F5q,F5q,F5q,F5q] rfl rfl (by kernel_rfl) (fun _ _ _ h => h) (Or.inl ⟨by rfl, ?_⟩) ?_ ?_
   rotate_left
   ·intro w'
    go_simp
    with_reducible rfl
   rotate_left
   ·simp only [Act.put, List.setIfInBounds_toArray, List.set_cons_zero, List.set_cons_succ, i64_w, i32_w]
    rfl
   refine pure_ (i := 5) (N := some 14) (v := ?_) (a' := ?_) #[T5q,T5q,T5q,T5q,T5q,T5q,F5q,F5q,F5q,F5q,F5q,F5q,F5q,F5q,F5q,F5q,F5q,F5q,F5q,F5q,F5q,F5q,F5q,F5q] rfl rfl (by kernel_rfl) (fun _ _ _ h => h) (Or.inl ⟨by rfl, ?_⟩) ?_ ?_
   rotate_left
   ·intro w'
    go_simp
    with_reducible rfl
   rotate_left
   ·simp only [Act.put, List.setIfInBounds_toArray, List.set_cons_zero, List.set_cons_succ, i64_w, i32_w]
    rfl
   refine pure_ (i := 6) (N := some 15) (v := ?_) (a' := ?_) #[T5q,T5q,T5q,T5q,T5q,T5q,T5q,F5q,F5q,F5q,F5q,F5q,F5q,F5q,F5q,F5q,F5q,F5q,F5q,F5q,F5q,F5q,F5q,F5q] rfl rfl (by kernel_rfl) (fun _ _ _ h => h) (Or.inl ⟨by rfl, ?_⟩) ?_ ?_
   rotate_left
   ·intro w'
    go_simp
    with_reducible rfl
   rotate_left
   ·simp only [Act.put, List.setIfInBounds_toArray, List.set_cons_zero, List.set_cons_succ, i64_w, i32_w]
    rfl
   refine pure_ (i := 7) (N := some 16) (v := ?_) (a' := ?_) #[T5q,T5q,T5q,T5q,T5q,T5q,T5q,T5q,F5q,F5q,F5q,F5q,F5q,F5q,F5q,F5q,F5q,F5q,F5q,F5q,F5q,F5q,F5q,F5q] rfl rfl (by kernel_rfl) (fun _ _ _ h => h) (Or.inl ⟨by rfl, ?_⟩) ?_ ?_
   rotate_left
   ·intro w'
    go_simp
    with_reducible rfl
   rotate_left
   ·simp only [Act.put, List.setIfInBounds_toArray, List.set_cons_zero, List.set_cons_succ, i64_w, i32_w]
    rfl
   refine pure_ (i := 8) (N := some 17) (v := ?_) (a' := ?_) #[T5q,T5q,T5q,T5q,T5q,T5q,T5q,T5q,T5q,F5q,F5q,F5q,F5q,F5q,F5q,F5q,F5q,F5q,F5q,F5q,F5q,F5q,F5q,F5q] rfl rfl (by kernel_rfl) (fun _ _ _ h => h) (Or.inl ⟨by rfl, ?_⟩) ?_ ?_
   rotate_left
   ·intro w'
    go_simp
    with_reducible rfl
   rotate_left
   ·simp only [Act.put, List.setIfInBounds_toArray, List.set_cons_zero, List.set_cons_succ, i64_w, i32_w]
    rfl
   refine take_ (i := 9) (N := some 18) (v := ?_) (a' := ?_) #[T5q,T5q,T5q,T5q,T5q,T5q,T5q,T5q,T5q,T5q,F5q,F5q,F5q,F5q,F5q,F5q,F5q,F5q,F5q,F5q,F5q,F5q,F5q,F5q] rfl rfl (by kernel_rfl) (fun _ _ _ h => h) (Or.inl ⟨by rfl, ?_⟩) hHeld ?_ ?_
   rotate_left
   ·rintro w' ⟨s0, s1, s2, s3, s4⟩
    go_simp
    with_reducible rfl
   rotate_left
   ·simp only [Act.put, List.setIfInBounds_toArray, List.set_cons_zero, List.set_cons_succ, i64_w, i32_w]
    rfl
   refine pure_ (i := 10) (N := some 19) (v := ?_) (a' := ?_) #[T5q,T5q,T5q,T5q,T5q,T5q,T5q,T5q,T5q,T5q,T5q,F5q,F5q,F5q,F5q,F5q,F5q,F5q,F5q,F5q,F5q,F5q,F5q,F5q] rfl rfl (by kernel_rfl) (fun _ _ _ h => h) (Or.inl ⟨by rfl, ?_⟩) ?_ ?_
   rotate_left
   ·intro w'
    go_simp
    with_reducible rfl
   rotate_left
   ·simp only [Act.put, List.setIfInBounds_toArray, List.set_cons_zero, List.set_cons_succ, i64_w, i32_w]
    rfl
   refine pure_ (i := 11) (N := some 20) (v := ?_) (a' := ?_) #[T5q,T5q,T5q,T5q,T5q,T5q,T5q,T5q,T5q,T5q,T5q,T5q,F5q,F5q,F5q,F5q,F5q,F5q,F5q,F5q,F5q,F5q,F5q,F5q] rfl rfl (by kernel_rfl) (fun _ _ _ h => h) (Or.inl ⟨by rfl, ?_⟩) ?_ ?_
   rotate_left
   ·intro w'
    go_simp
    with_reducible rfl
   rotate_left
   ·simp only [Act.put, List.setIfInBounds_toArray, List.set_cons_zero, List.set_cons_succ, i64_w, i32_w]
    rfl
   refine pure_ (i := 12) (N := some 21) (v := ?_) (a' := ?_) #[T5q,T5q,T5q,T5q,T5q,T5q,T5q,T5q,T5q,T5q,T5q,T5q,T5q,F5q,F5q,F5q,F5q,F5q,F5q,F5q,F5q,F5q,F5q,F5q] rfl rfl (by kernel_rfl) (fun _ _ _ h => h) (Or.inl ⟨by rfl, ?_⟩) ?_ ?_
   rotate_left
   ·intro w'
    go_simp
    with_reducible rfl
   rotate_left
   ·simp only [Act.put, List.setIfInBounds_toArray, List.set_cons_zero, List.set_cons_succ, i64_w, i32_w]
    rfl
   refine take_ (i := 13) (N := some 22) (v := ?_) (a' := ?_) #[T5q,T5q,T5q,T5q,T5q,T5q,T5q,T5q,T5q,T5q,T5q,T5q,T5q,T5q,F5q,F5q,F5q,F5q,F5q,F5q,F5q,F5q,F5q,F5q] rfl rfl (by kernel_rfl) (fun _ _ _ h => h) (Or.inl ⟨by rfl, ?_⟩) hHeld ?_ ?_
   rotate_left
   ·rintro w' ⟨s0, s1, s2, s3, s4⟩
    go_simp
    with_reducible rfl
   rotate_left
   ·simp only [Act.put, List.setIfInBounds_toArray, List.set_cons_zero, List.set_cons_succ, i64_w, i32_w]
    rfl
   refine pure_ (i := 14) (N := some 23) (v := ?_) (a' := ?_) #[T5q,T5q,T5q,T5q,T5q,T5q,T5q,T5q,T5q,T5q,T5q,T5q,T5q,T5q,T5q,F5q,F5q,F5q,F5q,F5q,F5q,F5q,F5q,F5q] rfl rfl (by kernel_rfl) (fun _ _ _ h => h) (Or.inl ⟨by rfl, ?_⟩) ?_ ?_
   rotate_left
   ·intro w'
    go_simp
    with_reducible rfl
   rotate_left
   ·simp only [Act.put, List.setIfInBounds_toArray, List.set_cons_zero, List.set_cons_succ, i64_w, i32_w]
    rfl
   refine take_ (i := 15) (N := some 24) (v := ?_) (a' := ?_) #[T5q,T5q,T5q,T5q,T5q,T5q,T5q,T5q,T5q,T5q,T5q,T5q,T5q,T5q,T5q,T5q,F5q,F5q,F5q,F5q,F5q,F5q,F5q,F5q] rfl rfl (by kernel_rfl) (fun _ _ _ h => h) (Or.inl ⟨by rfl, ?_⟩) hHeld ?_ ?_
   rotate_left
   ·rintro w' ⟨s0, s1, s2, s3, s4⟩
    go_simp
    with_reducible rfl
   rotate_left
   ·simp only [Act.put, List.setIfInBounds_toArray, List.set_cons_zero, List.set_cons_succ, i64_w, i32_w]
    rfl
   refine pure_ (i := 16) (N := some 25) (v := ?_) (a' := ?_) #[T5q,T5q,T5q,T5q,T5q,T5q,T5q,T5q,T5q,T5q,T5q,T5q,T5q,T5q,T5q,T5q,T5q,F5q,F5q,F5q,F5q,F5q,F5q,F5q] rfl rfl (by kernel_rfl) (fun _ _ _ h => h) (Or.inl ⟨by rfl, ?_⟩) ?_ ?_
   rotate_left
   ·intro w'
    go_simp
    with_reducible rfl
   rotate_left
   ·simp only [Act.put, List.setIfInBounds_toArray, List.set_cons_zero, List.set_cons_succ, i64_w, i32_w]
    rfl
   refine pure_ (i := 17) (N := some 26) (v := ?_) (a' := ?_) #[T5q,T5q,T5q,T5q,T5q,T5q,T5q,T5q,T5q,T5q,T5q,T5q,T5q,T5q,T5q,T5q,T5q,T5q,F5q,F5q,F5q,F5q,F5q,F5q] rfl rfl (by kernel_rfl) (fun _ _ _ h => h) (Or.inl ⟨by rfl, ?_⟩) ?_ ?_
   rotate_left
   ·intro w'
    go_simp
    with_reducible rfl
   rotate_left
   ·simp only [Act.put, List.setIfInBounds_toArray, List.set_cons_zero, List.set_cons_succ, i64_w, i32_w]
    rfl
   refine pure_ (i := 18) (N := some 27) (v := ?_) (a' := ?_) #[T5q,T5q,T5q,T5q,T5q,T5q,T5q,T5q,T5q,T5q,T5q,T5q,T5q,T5q,T5q,T5q,T5q,T5q,T5q,F5q,F5q,F5q,F5q,F5q] rfl rfl (by kernel_rfl) (fun _ _ _ h => h) (Or.inl ⟨by rfl, ?_⟩) ?_ ?_
   rotate_left
   ·intro w'
    go_simp
    with_reducible rfl
   rotate_left
   ·simp only [Act.put, List.setIfInBounds_toArray, List.set_cons_zero, List.set_cons_succ, i64_w, i32_w]
    rfl
   refine take_ (i := 19) (N := some 28) (v := ?_) (a' := ?_) #[T5q,T5q,T5q,T5q,T5q,T5q,T5q,T5q,T5q,T5q,T5q,T5q,T5q,T5q,T5q,T5q,T5q,T5q,T5q,T5q,F5q,F5q,F5q,F5q] rfl rfl (by kernel_rfl) (fun _ _ _ h => h) (Or.inl ⟨by rfl, ?_⟩) hHeld ?_ ?_
   rotate_left
   ·rintro w' ⟨s0, s1, s2, s3, s4⟩
    go_simp
    with_reducible rfl
   rotate_left
   ·simp only [Act.put, List.setIfInBounds_toArray, List.set_cons_zero, List.set_cons_succ, i64_w, i32_w]
    rfl
   refine pure_ (i := 20) (N := some 29) (v := ?_) (a' := ?_) #[T5q,T5q,T5q,T5q,T5q,T5q,T5q,T5q,T5q,T5q,T5q,T5q,T5q,T5q,T5q,T5q,T5q,T5q,T5q,T5q,T5q,F5q,F5q,F5q] rfl rfl (by kernel_rfl) (fun _ _ _ h => h) (Or.inl ⟨by rfl, ?_⟩) ?_ ?_
   rotate_left
   ·intro w'
    go_simp
    with_reducible rfl
   rotate_left
   ·simp only [Act.put, List.setIfInBounds_toArray, List.set_cons_zero, List.set_cons_succ, i64_w, i32_w]
    rfl
   refine take_ (i := 21) (N := some 30) (v := ?_) (a' := ?_) #[T5q,T5q,T5q,T5q,T5q,T5q,T5q,T5q,T5q,T5q,T5q,T5q,T5q,T5q,T5q,T5q,T5q,T5q,T5q,T5q,T5q,T5q,F5q,F5q] rfl rfl (by kernel_rfl) (fun _ _ _ h => h) (Or.inl ⟨by rfl, ?_⟩) hHeld ?_ ?_
   rotate_left
   ·rintro w' ⟨s0, s1, s2, s3, s4⟩
    go_simp
    with_reducible rfl
   rotate_left
   ·simp only [Act.put, List.setIfInBounds_toArray, List.set_cons_zero, List.set_cons_succ, i64_w, i32_w]
    rfl
   refine pure_ (i := 22) (N := some 31) (v := ?_) (a' := ?_) #[T5q,T5q,T5q,T5q,T5q,T5q,T5q,T5q,T5q,T5q,T5q,T5q,T5q,T5q,T5q,T5q,T5q,T5q,T5q,T5q,T5q,T5q,T5q,F5q] rfl rfl (by kernel_rfl) (fun _ _ _ h => h) (Or.inl ⟨by rfl, ?_⟩) ?_ ?_
   rotate_left
   ·intro w'
    go_simp
    with_reducible rfl
   rotate_left
   ·simp only [Act.put, List.setIfInBounds_toArray, List.set_cons_zero, List.set_cons_succ, i64_w, i32_w]
    rfl
   refine pure_ (i := 23) (N := some 32) (v := ?_) (a' := ?_) #[T5q,T5q,T5q,T5q,T5q,T5q,T5q,T5q,T5q,T5q,T5q,T5q,T5q,T5q,T5q,T5q,T5q,T5q,T5q,T5q,T5q,T5q,T5q,T5q] rfl rfl (by kernel_rfl) (fun _ _ _ h => h) (Or.inl ⟨by rfl, ?_⟩) ?_ ?_
   rotate_left
   ·intro w'
    go_simp
    with_reducible rfl
   rotate_left
   ·simp only [Act.put, List.setIfInBounds_toArray, List.set_cons_zero, List.set_cons_succ, i64_w, i32_w]
    rfl
   refine done_ (by kernel_rfl) ?_
   have hdr : Below w1.heap.size w1 w1.drew := below_drew (Below.refl _ _)
   have HCN2 := Aside0.mk (HCN.out.move hdr)
   have HGA2 := Aside0.mk (grown_trans HGA.out (grown_of_below (some pc) hdr))
   have u0 : w1.drew.cell? ⟨w.heap.size, 0, none⟩ = some (.int .i64 f0) := ht0
   have u1 : w1.drew.cell? ⟨w.heap.size, 1, none⟩ = some (.slice A n cp) := ht1
   have u2 : w1.drew.cell? ⟨w.heap.size, 2, none⟩ = some (.int .i64 2) := ht2
   have u3 : w1.drew.cell? ⟨w.heap.size, 3, none⟩ = some (.int .i64 f3) := ht3
   clear ht0 ht1 ht2 ht3 hc0 hcu hxr hHeld hdr
   revert HCN2 HGA2 u0 u1 u2 u3
   generalize w1.drew = w3
   intro HCN2 HGA2 u0 u1 u2 u3
   by_cases hgt : wrap64 (cu + f3) ≤ rr
   ·have hg1 : decide (wrap64 (cu + f3) > rr) = false := decide_eq_false (by omega)
    have hg2 : decide (rr < wrap64 (cu + f3)) = false := decide_eq_false (by omega)
    have htb : tb = true := by rw [HTK.out]; exact decide_eq_true hgt
    subst htb
    go_wp2_with (go_at_call 44; refine (HADD.out _ HCN2.out).mono ?_; rintro e w' ⟨rfl, hgr, hcn'⟩)
    go_ret
    exact ⟨rfl, grown_trans HGA2.out hgr, hcn'⟩
   ·have hg1 : decide (wrap64 (cu + f3) > rr) = true := decide_eq_true (by omega)
    have hg2 : decide (rr < wrap64 (cu + f3)) = true := decide_eq_true (by omega)
    have htb : tb = false := by rw [HTK.out]; exact decide_eq_false hgt
    subst htb
    go_wp2
    go_ret
    exact ⟨rfl, HGA2.out, HCN2.out⟩
 ·have hge : decide (c.t ≥ wk) = true := decide_eq_true (by omega)
  have hge2 : decide (wk ≤ c.t) = true := decide_eq_true (by omega)
  rw [decide_eq_false hw, Bool.false_and] at hdef
  subst hdef
  have HPAR := Aside0.mk hpar
  have HCN := Aside0.mk hcA
  have HGA := Aside0.mk hgA
  clear hpar hcA hgA hw hlt hB0 hc
  refine start_ (n := 24) (S := fun w' => w'.cell? ⟨pc, 0, none⟩ = some (.int .i64 c.t) ∧ w'.cell? ⟨w.heap.size, 2, none⟩ = some (.int .i64 f2) ∧ w'.cell? ⟨pc, 1 + f2.toNat, none⟩ = some (.int .i64 cu) ∧ w'.cell? ⟨w.heap.size, 3, none⟩ = some (.int .i64 f3) ∧ w'.cell? (ad.add f2.toNat) = some (.int .i64 rr)) (ds := []) #[F5q,F5q,F5q,F5q,F5q,F5q,F5q,F5q,F5q,F5q,F5q,F5q,F5q,F5q,F5q,F5q,F5q,F5q,F5q,F5q,F5q,F5q,F5q,F5q] rfl (by kernel_rfl) rfl ⟨hc0, ht2, hcu, ht3, hxr⟩ (fun hHeld => ?_)
  refine pure_ (i := 0) (N := some 9) (v := ?_) (a' := ?_) #[T5q,F5q,F5q,F5q,F5q,F5q,F5q,F5q,F5q,F5q,F5q,F5q,F5q,F5q,F5q,F5q,F5q,F5q,F5q,F5q,F5q,F5q,F5q,F5q] rfl rfl (by kernel_rfl) (fun _ _ _ h => h) (Or.inl ⟨by rfl, ?_⟩) ?_ ?_
  rotate_left
  ·intro w'
   go_simp
   with_reducible rfl
  rotate_left
  ·simp only [Act.put, List.setIfInBounds_toArray, List.set_cons_zero, List.set_cons_succ, i64_w, i32_w]
   rfl
  refine pure_ (i := 1) (N := some 10) (v := ?_) (a' := ?_) #[T5q,T5q,F5q,F5q,F5q,F5q,F5q,F5q,F5q,F5q,F5q,F5q,F5q,F5q,F5q,F5q,F5q,F5q,F5q,F5q,F5q,F5q,F5q,F5q] rfl rfl (by kernel_rfl) (fun _ _ _ h => h) (Or.inl ⟨by rfl, ?_⟩) ?_ ?_
  rotate_left
  ·intro w'
   go_simp
   with_reducible rfl
  rotate_left
  ·simp only [Act.put, List.setIfInBounds_toArray, List.set_cons_zero, List.set_cons_succ, i64_w, i32_w]
   rfl
  refine pure_ (i := 2) (N := some 11) (v := ?_) (a' := ?_) #[T5q,T5q,T5q,F5q,F5q,F5q,F5q,F5q,F5q,F5q,F5q,F5q,F5q,F5q,F5q,F5q,F5q,F5q,F5q,F5q,F5q,F5q,F5q,F5q] rfl rfl (by kernel_rfl) (fun _ _ _ h => h) (Or.inl ⟨by rfl, ?_⟩) ?_ ?_
  rotate_left
  ·intro w'
   go_simp
   with_reducible rfl
  rotate_left
  ·simp only [Act.put, List.setIfInBounds_toArray, List.set_cons_zero, List.set_cons_succ, i64_w, i32_w]
   rfl
  refine take_ (i := 3) (N := some 12) (v := ?_) (a' := ?_) #[T5q,T5q,T5q,T5q,F5q,F5q,F5q,F5q,F5q,F5q,F5q,F5q,F5q,F5q,F5q,F5q,F5q,F5q,F5q,F5q,F5q,F5q,F5q,F5q] rfl rfl (by kernel_rfl) (fun _ _ _ h => h) (Or.inl ⟨by rfl, ?_⟩) hHeld ?_ ?_
  rotate_left
  ·rintro w' ⟨s0, s1, s2, s3, s4⟩
   go_simp
   with_reducible rfl
  rotate_left
  ·simp only [Act.put, List.setIfInBounds_toArray, List.set_cons_zero, List.set_cons_succ, i64_w, i32_w]
   rfl
  refine pure_ (i := 4) (N := some 13) (v := ?_) (a' := ?_) #[T5q,T5q,T5q,T5q,T5q,F5q,F5q,F5q,F5q,F5q,F5q,F5q,F5q,F5q,F5q,F5q,F5q,F5q,F5q,F5q,F5q,F5q,F5q,F5q] rfl rfl (by kernel_rfl) (fun _ _ _ h => h) (Or.inl ⟨by rfl, ?_⟩) ?_ ?_
  rotate_left
  ·intro w'
   go_simp
   with_reducible rfl
  rotate_left
  ·simp only [Act.put, List.setIfInBounds_toArray, List.set_cons_zero, List.set_cons_succ, i64_w, i32_w]
   rfl
  refine pure_ (i := 5) (N := some 14) (v := ?_) (a' := ?_) #[T5q,T5q,T5q,T5q,T5q,T5q,F5q,F5q,F5q,F5q,F5q,F5q,F5q,F5q,F5q,F5q,F5q,F5q,F5q,F5q,F5q,F5q,F5q,F5q] rfl rfl (by kernel_rfl) (fun _ _ _ h => h) (Or.inl ⟨by rfl, ?_⟩) ?_ ?_
  rotate_left
  ·intro w'
   go_simp
   with_reducible rfl
  rotate_left
  ·simp only [Act.put, List.setIfInBounds_toArray, List.set_cons_zero, List.set_cons_succ, i64_w, i32_w]
   rfl
  refine pure_ (i := 6) (N := some 15) (v := ?_) (a' := ?_) #[T5q,T5q,T5q,T5q,T5q,T5q,T5q,F5q,F5q,F5q,F5q,F5q,F5q,F5q,F5q,F5q,F5q,F5q,F5q,F5q,F5q,F5q,F5q,F5q] rfl rfl (by kernel_rfl) (fun _ _ _ h => h) (Or.inl ⟨by rfl, ?_⟩) ?_ ?_
  rotate_left
  ·intro w'
   go_simp
   with_reducible rfl
  rotate_left
  ·simp only [Act.put, List.setIfInBounds_toArray, List.set_cons_zero, List.set_cons_succ, i64_w, i32_w]
   rfl
  refine pure_ (i := 7) (N := some 16) (v := undef) (a' := ?_) #[T5q,T5q,T5q,T5q,T5q,T5q,T5q,T5q,F5q,F5q,F5q,F5q,F5q,F5q,F5q,F5q,F5q,F5q,F5q,F5q,F5q,F5q,F5q,F5q] rfl rfl (by kernel_rfl) (fun _ _ _ h => h) (Or.inr ⟨by rfl, rfl⟩) ?_ ?_
  rotate_left
  ·simp only [Act.put, List.setIfInBounds_toArray, List.set_cons_zero, List.set_cons_succ, i64_w, i32_w]
   rfl
  refine pure_ (i := 8) (N := some 17) (v := undef) (a' := ?_) #[T5q,T5q,T5q,T5q,T5q,T5q,T5q,T5q,T5q,F5q,F5q,F5q,F5q,F5q,F5q,F5q,F5q,F5q,F5q,F5q,F5q,F5q,F5q,F5q] rfl rfl (by kernel_rfl) (fun _ _ _ h => h) (Or.inr ⟨by rfl, rfl⟩) ?_ ?_
  rotate_left
  ·simp only [Act.put, List.setIfInBounds_toArray, List.set_cons_zero, List.set_cons_succ, i64_w, i32_w]
   rfl
  refine pure_ (i := 9) (N := some 18) (v := undef) (a' := ?_) #[T5q,T5q,T5q,T5q,T5q,T5q,T5q,T5q,T5q,T5q,F5q,F5q,F5q,F5q,F5q,F5q,F5q,F5q,F5q,F5q,F5q,F5q,F5q,F5q] rfl rfl (by kernel_rfl) (fun _ _ _ h => h) (Or.inr ⟨by rfl, rfl⟩) ?_ ?_
  rotate_left
  ·simp only [Act.put, List.setIfInBounds_toArray, List.set_cons_zero, List.set_cons_succ, i64_w, i32_w]
   rfl
  refine pure_ (i := 10) (N := some 19) (v := undef) (a' := ?_) #[T5q,T5q,T5q,T5q,T5q,T5q,T5q,T5q,T5q,T5q,T5q,F5q,F5q,F5q,F5q,F5q,F5q,F5q,F5q,F5q,F5q,F5q,F5q,F5q] rfl rfl (by kernel_rfl) (fun _ _ _ h => h) (Or.inr ⟨by rfl, rfl⟩) ?_ ?_
  rotate_left
  ·simp only [Act.put, List.setIfInBounds_toArray, List.set_cons_zero, List.set_cons_succ, i64_w, i32_w]
   rfl
  refine pure_ (i := 11) (N := some 20) (v := undef) (a' := ?_) #[T5q,T5q,T5q,T5q,T5q,T5q,T5q,T5q,T5q,T5q,T5q,T5q,F5q,F5q,F5q,F5q,F5q,F5q,F5q,F5q,F5q,F5q,F5q,F5q] rfl rfl (by kernel_rfl) (fun _ _ _ h => h) (Or.inr ⟨by rfl, rfl⟩) ?_ ?_
  rotate_left
  ·simp only [Act.put, List.setIfInBounds_toArray, List.set_cons_zero, List.set_cons_succ, i64_w, i32_w]
   rfl
  refine pure_ (i := 12) (N := some 21) (v := undef) (a' := ?_) #[T5q,T5q,T5q,T5q,T5q,T5q,T5q,T5q,T5q,T5q,T5q,T5q,T5q,F5q,F5q,F5q,F5q,F5q,F5q,F5q,F5q,F5q,F5q,F5q] rfl rfl (by kernel_rfl) (fun _ _ _ h => h) (Or.inr ⟨by rfl, rfl⟩) ?_ ?_
  rotate_left
  ·simp only [Act.put, List.setIfInBounds_toArray, List.set_cons_zero, List.set_cons_succ, i64_w, i32_w]
   rfl
  refine pure_ (i := 13) (N := some 22) (v := undef) (a' := ?_) #[T5q,T5q,T5q,T5q,T5q,T5q,T5q,T5q,T5q,T5q,T5q,T5q,T5q,T5q,F5q,F5q,F5q,F5q,F5q,F5q,F5q,F5q,F5q,F5q] rfl rfl (by kernel_rfl) (fun _ _ _ h => h) (Or.inr ⟨by rfl, rfl⟩) ?_ ?_
  rotate_left
  ·simp only [Act.put, List.setIfInBounds_toArray, List.set_cons_zero, List.set_cons_succ, i64_w, i32_w]
   rfl
  refine pure_ (i := 14) (N := some 23) (v := undef) (a' := ?_) #[T5q,T5q,T5q,T5q,T5q,T5q,T5q,T5q,T5q,T5q,T5q,T5q,T5q,T5q,T5q,F5q,F5q,F5q,F5q,F5q,F5q,F5q,F5q,F5q] rfl rfl (by kernel_rfl) (fun _ _ _ h => h) (Or.inr ⟨by rfl, rfl⟩) ?_ ?_
  rotate_left
  ·simp only [Act.put, List.setIfInBounds_toArray, List.set_cons_zero, List.set_cons_succ, i64_w, i32_w]
   rfl
  refine pure_ (i := 15) (N := some 24) (v := undef) (a' := ?_) #[T5q,T5q,T5q,T5q,T5q,T5q,T5q,T5q,T5q,T5q,T5q,T5q,T5q,T5q,T5q,T5q,F5q,F5q,F5q,F5q,F5q,F5q,F5q,F5q] rfl rfl (by kernel_rfl) (fun _ _ _ h => h) (Or.inr ⟨by rfl, rfl⟩) ?_ ?_
  rotate_left
  ·simp only [Act.put, List.setIfInBounds_toArray, List.set_cons_zero, List.set_cons_succ, i64_w, i32_w]
   rfl
  refine pure_ (i := 16) (N := some 25) (v := undef) (a' := ?_) #[T5q,T5q,T5q,T5q,T5q,T5q,T5q,T5q,T5q,T5q,T5q,T5q,T5q,T5q,T5q,T5q,T5q,F5q,F5q,F5q,F5q,F5q,F5q,F5q] rfl rfl (by kernel_rfl) (fun _ _ _ h => h) (Or.inr ⟨by rfl, rfl⟩) ?_ ?_
  rotate_left
  ·simp only [Act.put, List.setIfInBounds_toArray, List.set_cons_zero, List.set_cons_succ, i64_w, i32_w]
   rfl
  refine pure_ (i := 17) (N := some 26) (v := undef) (a' := ?_) #[T5q,T5q,T5q,T5q,T5q,T5q,T5q,T5q,T5q,T5q,T5q,T5q,T5q,T5q,T5q,T5q,T5q,T5q,F5q,F5q,F5q,F5q,F5q,F5q] rfl rfl (by kernel_rfl) (fun _ _ _ h => h) (Or.inr ⟨by rfl, rfl⟩) ?_ ?_
  rotate_left
  ·simp only [Act.put, List.setIfInBounds_toArray, List.set_cons_zero, List.set_cons_succ, i64_w, i32_w]
   rfl
  refine pure_ (i := 18) (N := some 27) (v := undef) (a' := ?_) #[T5q,T5q,T5q,T5q,T5q,T5q,T5q,T5q,T5q,T5q,T5q,T5q,T5q,T5q,T5q,T5q,T5q,T5q,T5q,F5q,F5q,F5q,F5q,F5q] rfl rfl (by kernel_rfl) (fun _ _ _ h => h) (Or.inr ⟨by rfl, rfl⟩) ?_ ?_
  rotate_left
  ·simp only [Act.put, List.setIfInBounds_toArray, List.set_cons_zero, List.set_cons_succ, i64_w, i32_w]
   rfl
  refine pure_ (i := 19) (N := some 28) (v := undef) (a' := ?_) #[T5q,T5q,T5q,T5q,T5q,T5q,T5q,T5q,T5q,T5q,T5q,T5q,T5q,T5q,T5q,T5q,T5q,T5q,T5q,T5q,F5q,F5q,F5q,F5q] rfl rfl (by kernel_rfl) (fun _ _ _ h => h) (Or.inr ⟨by rfl, rfl⟩) ?_ ?_
  rotate_left
  ·simp only [Act.put, List.setIfInBounds_toArray, List.set_cons_zero, List.set_cons_succ, i64_w, i32_w]
   rfl
  refine pure_ (i := 20) (N := some 29) (v := undef) (a' := ?_) #[T5q,T5q,T5q,T5q,T5q,T5q,T5q,T5q,T5q,T5q,T5q,T5q,T5q,T5q,T5q,T5q,T5q,T5q,T5q,T5q,T5q,F5q,F5q,F5q] rfl rfl (by kernel_rfl) (fun _ _ _ h => h) (Or.inr ⟨by rfl, rfl⟩) ?_ ?_
  rotate_left
  ·simp only [Act.put, List.setIfInBounds_toArray, List.set_cons_zero, List.set_cons_succ, i64_w, i32_w]
   rfl
  refine pure_ (i := 21) (N := some 30) (v := undef) (a' := ?_) #[T5q,T5q,T5q,T5q,T5q,T5q,T5q,T5q,T5q,T5q,T5q,T5q,T5q,T5q,T5q,T5q,T5q,T5q,T5q,T5q,T5q,T5q,F5q,F5q] rfl rfl (by kernel_rfl) (fun _ _ _ h => h) (Or.inr ⟨by rfl, rfl⟩) ?_ ?_
  rotate_left
  ·simp only [Act.put, List.setIfInBounds_toArray, List.set_cons_zero, List.set_cons_succ, i64_w, i32_w]
   rfl
  refine pure_ (i := 22) (N := some 31) (v := undef) (a' := ?_) #[T5q,T5q,T5q,T5q,T5q,T5q,T5q,T5q,T5q,T5q,T5q,T5q,T5q,T5q,T5q,T5q,T5q,T5q,T5q,T5q,T5q,T5q,T5q,F5q] rfl rfl (by kernel_rfl) (fun _ _ _ h => h) (Or.inr ⟨by rfl, rfl⟩) ?_ ?_
  rotate_left
  ·simp only [Act.put, List.setIfInBounds_toArray, List.set_cons_zero, List.set_cons_succ, i64_w, i32_w]
   rfl
  refine pure_ (i := 23) (N := some 32) (v := ?_) (a' := ?_) #[T5q,T5q,T5q,T5q,T5q,T5q,T5q,T5q,T5q,T5q,T5q,T5q,T5q,T5q,T5q,T5q,T5q,T5q,T5q,T5q,T5q,T5q,T5q,T5q] rfl rfl (by kernel_rfl) (fun _ _ _ h => h) (Or.inl ⟨by rfl, ?_⟩) ?_ ?_
  rotate_left
  ·intro w'
   go_simp
   with_reducible rfl
  rotate_left
  ·simp only [Act.put, List.setIfInBounds_toArray, List.set_cons_zero, List.set_cons_succ, i64_w, i32_w]
   rfl
  refine done_ (by kernel_rfl) ?_
  have HCN2 := Aside0.mk (HCN.out.move (below_drew (Below.refl _ _)))
  have HGA2 := Aside0.mk (grown_trans HGA.out (grown_of_below (some pc) (below_drew (Below.refl _ w1))))
  go_wp2
  go_ret
  exact ⟨rfl, HGA2.out, HCN2.out⟩
end Go.Proofs.YtnhkajanbfgbiaaDoor.Core
end
