/- Plain words for what the program's small functions reckon: a graph's needs, its order, what is known of it; and 'from some number of rounds on' (Ev). No walk here. -/
import Derived.Test.YtffhdofcfkgoaaaDoorOrders
set_option linter.unusedVariables false
set_option linter.unusedSimpArgs false
namespace Go.Proofs.YtffhdofcfkgoaaaDoor.Core
open Go Go.RowKit Go.Proofs.YtffhdofcfkgoaaaDoorW.PrintWords Go.Proofs.YtffhdofcfkgoaaaDoorW.PrintMore Go.Proofs.YtffhdofcfkgoaaaDoor.P

/-- From some number on, f says r. -/
def Ev {α : Type} (f : Nat → Option α) (r : α) : Prop := ∃ K, ∀ k, K ≤ k → f k = some r
theorem Ev.const {α : Type} (r : α) : Ev (fun _ => some r) r := ⟨0, fun _ _ => rfl⟩
theorem Ev.bind {α β : Type} {f : Nat → Option α} {g : Nat → α → Option β} {a : α} {b : β} (h : Ev f a) (h2 : Ev (fun k => g k a) b) : Ev (fun k => (f k).bind (g k)) b := by
  obtain ⟨K, h⟩ := h
  obtain ⟨K2, h2⟩ := h2
  exact ⟨max K K2, fun k hk => by show (f k).bind (g k) = some b; rw [h k (by omega)]; exact h2 k (by omega)⟩
theorem Ev.succ {α : Type} {f : Nat → Option α} {r : α} (h : Ev (fun k => f (k + 1)) r) : Ev f r := by
  obtain ⟨K, h⟩ := h
  refine ⟨K + 1, fun k hk => ?_⟩
  obtain ⟨m, rfl⟩ : ∃ m, k = m + 1 := ⟨k - 1, by omega⟩
  exact h m (by omega)
theorem Ev.of {α : Type} {f g : Nat → Option α} {r : α} (h : Ev f r) (e : ∀ k, g k = f k) : Ev g r := by
  obtain ⟨K, h⟩ := h
  exact ⟨K, fun k hk => (e k).trans (h k hk)⟩
theorem Ev.both {α β : Type} {f : Nat → Option α} {g : Nat → Option β} {a : α} {b : β} (h : Ev f a) (h2 : Ev g b) : ∃ k, f k = some a ∧ g k = some b := by
  obtain ⟨K, h⟩ := h
  obtain ⟨K2, h2⟩ := h2
  exact ⟨max K K2, h _ (by omega), h2 _ (by omega)⟩
theorem Ev.one {α : Type} {f : Nat → Option α} {a : α} (h : Ev f a) : ∃ k, f k = some a := by
  obtain ⟨K, h⟩ := h
  exact ⟨K, h _ (by omega)⟩
theorem Ev.det {α : Type} {f : Nat → Option α} {a b : α} (h : Ev f a) (h2 : Ev f b) : a = b := by
  obtain ⟨k, e1, e2⟩ := h.both h2
  rw [e1] at e2
  exact Option.some.inj e2

theorem w64 {n : Int} (h0 : -9223372036854775808 ≤ n) (h1 : n ≤ 9223372036854775807) : wrap64 n = n := by unfold wrap64; omega
theorem rd_mid {pre r : List Int} {x : Int} {i : Int} (hi : i = (pre.length : Int)) : rd (pre ++ x :: r) i = x := by
  subst hi
  simp [rd]

/-! ### within, set.with, set.has, everything -/
theorem within_eq (x a b : Int) : impl_within.f x a b = some (decide (a ≤ x ∧ x ≤ b)) := by
  unfold impl_within.f
  by_cases h : x ≥ a
  · rw [if_pos h]; simp; omega
  · rw [if_neg h]; simp; omega
theorem setwith_eq {s k : Nat} (hs : s < 256) (hk : k < 8) : impl_set_with.f (s : Int) (k : Int) = some ((s ||| 2 ^ k : Nat) : Int) := by
  unfold impl_set_with.f
  rw [if_pos (by omega)]
  have : shl .u16 1 (k : Int) = IntKind.u16.wrap (2 ^ k) := by
    unfold shl
    rw [Int.toNat_natCast, Nat.min_eq_left (by show k ≤ 16; omega), Int.one_mul]
  rw [this, with_eq hs hk]
theorem sethas_eq {s k : Nat} (hs : s < 256) (hk : k < 8) : impl_set_has.f (s : Int) (k : Int) = some (s.testBit k) := by
  unfold impl_set_has.f
  rw [if_pos (by omega)]
  have : shr .u16 (s : Int) (k : Int) = (s : Int) / 2 ^ k := by
    unfold shr
    rw [Int.toNat_natCast, Nat.min_eq_left (by show k ≤ 16; omega)]
  rw [this, has_eq hs]

/-! ### setOf -/
/-- The set of ascending numbers below n. -/
def setGo (n : Nat) : List Int → Nat → Int → Option Nat
  | [], s, _ => some s
  | x :: r, s, last => if last + 1 ≤ x ∧ x ≤ (n : Int) - 1 then setGo n r (s ||| 2 ^ x.toNat) x else none
def setD (n : Nat) (L : List Int) : Option Nat := setGo n L 0 (-1)
def setR (o : Option Nat) : Int × Bool := match o with | some s => ((s : Int), true) | none => (0, false)
theorem ev_setGo {n : Nat} (hn : n ≤ 8) (L : List Int) : ∀ (r pre : List Int) (s : Nat) (last : Int), L = pre ++ r → s < 2 ^ n → (pre.length : Int) ≤ last + 1 → last ≤ (n : Int) - 1 →
    Ev (fun k => impl_setOf.l0 k (n : Int) (s : Int) last L (L.length : Int) (pre.length : Int)) (setR (setGo n r s last))
  | [], pre, s, last, hL, hs, h1, h2 => by
    refine Ev.succ ((Ev.const _).of fun k => ?_)
    rw [List.append_nil] at hL
    subst hL
    simp only [impl_setOf.l0]
    rw [if_neg (by omega)]
    rfl
  | x :: r, pre, s, last, hL, hs, h1, h2 => by
    have hlen : L.length = pre.length + (r.length + 1) := by rw [hL]; simp
    have hw1 : wrap64 (last + 1) = last + 1 := w64 (by omega) (by omega)
    have hw2 : wrap64 ((n : Int) - 1) = (n : Int) - 1 := w64 (by omega) (by omega)
    have hrd : rd L (pre.length : Int) = x := by rw [hL]; exact rd_mid rfl
    refine Ev.succ ?_
    by_cases hx : last + 1 ≤ x ∧ x ≤ (n : Int) - 1
    · have hx0 : 0 ≤ x := by omega
      obtain ⟨m, rfl⟩ : ∃ m : Nat, x = (m : Int) := ⟨x.toNat, by omega⟩
      have hs8 : s < 256 := Nat.lt_of_lt_of_le hs (pow8 hn)
      have ih := ev_setGo hn L r (pre ++ [(m : Int)]) (s ||| 2 ^ m) m (by rw [hL]; simp) (Nat.or_lt_two_pow hs (Nat.pow_lt_pow_right (by omega) (by omega))) (by simp; omega) (by omega)
      have hg : setGo n ((m : Int) :: r) s last = setGo n r (s ||| 2 ^ m) m := by
        rw [setGo, if_pos hx, Int.toNat_natCast]
      rw [hg]
      refine ih.of fun k => ?_
      simp only [impl_setOf.l0]
      rw [if_pos (by omega), if_pos (by omega), if_pos (by omega), hrd, hw1, hw2, within_eq, decide_eq_true hx]
      simp only [Option.bind_some, if_true]
      rw [setwith_eq hs8 (by omega)]
      simp only [Option.bind_some, List.length_append, List.length_cons, List.length_nil]
      rw [w64 (by omega) (by omega)]
      rfl
    · have hg : setGo n (x :: r) s last = none := by rw [setGo, if_neg hx]
      rw [hg]
      refine (Ev.const _).of fun k => ?_
      simp only [impl_setOf.l0]
      rw [if_pos (by omega), if_pos (by omega), if_pos (by omega), hrd, hw1, hw2, within_eq, decide_eq_false hx]
      rfl
theorem ev_setOf {n : Nat} (hn : n ≤ 8) (L : List Int) : Ev (fun k => impl_setOf.f k L (n : Int)) (setR (setD n L)) :=
  ev_setGo hn L L [] 0 (-1) rfl (Nat.two_pow_pos n) (by simp) (by omega)
theorem setGo_lt {n : Nat} : ∀ {r : List Int} {s : Nat} {last : Int} {t : Nat}, setGo n r s last = some t → s < 2 ^ n → -1 ≤ last → t < 2 ^ n
  | [], s, last, t, h, hs, hl => by rw [setGo] at h; cases h; exact hs
  | x :: r, s, last, t, h, hs, hl => by
    rw [setGo] at h
    by_cases hx : last + 1 ≤ x ∧ x ≤ (n : Int) - 1
    · rw [if_pos hx] at h
      exact setGo_lt h (Nat.or_lt_two_pow hs (Nat.pow_lt_pow_right (by omega) (by omega))) (by omega)
    · rw [if_neg hx] at h; cases h
theorem setD_lt {n : Nat} {L : List Int} {t : Nat} (h : setD n L = some t) : t < 2 ^ n := setGo_lt h (Nat.two_pow_pos n) (by omega)

/-! ### needsOf -/
def taskOk (t : Tk) : Prop := (1 ≤ t.f0 ∧ t.f0 ≤ 20) ∧ (0 ≤ t.f2 ∧ t.f2 ≤ 2) ∧ (1 ≤ t.f3 ∧ t.f3 ≤ 4)
instance (t : Tk) : Decidable (taskOk t) := by unfold taskOk; infer_instance
def needsGo (n : Nat) : List Tk → Option (List Nat)
  | [] => some []
  | t :: r => match setD n t.f1 with
    | none => none
    | some s => if taskOk t then (needsGo n r).map (s :: ·) else none
def needsD (g : List Tk) : Option (List Nat) := if g.length ≤ 8 then needsGo g.length g else none
def needsR (o : Option (List Nat)) : List Int × Bool := match o with | some N => (up N, true) | none => ([], false)
theorem rdT_mid {pre r : List Tk} {x : Tk} {i : Int} (hi : i = (pre.length : Int)) : rd_T33 (pre ++ x :: r) i = x := by
  subst hi
  simp [rd_T33]
theorem ev_needsGo (G : List Tk) (h8 : G.length ≤ 8) : ∀ (r pre : List Tk) (N : List Nat), G = pre ++ r → N.length = pre.length →
    Ev (fun k => impl_needsOf.l0 k G (up N) G (G.length : Int) (pre.length : Int)) (needsR ((needsGo G.length r).map (N ++ ·)))
  | [], pre, N, hG, hN => by
    refine Ev.succ ((Ev.const _).of fun k => ?_)
    rw [List.append_nil] at hG
    subst hG
    simp only [impl_needsOf.l0]
    rw [if_neg (by omega)]
    simp [needsGo, needsR]
  | t :: r, pre, N, hG, hN => by
    have hlen : G.length = pre.length + (r.length + 1) := by rw [hG]; simp
    have hrd : rd_T33 G (pre.length : Int) = t := by rw [hG]; exact rdT_mid rfl
    have hs := ev_setOf h8 t.f1
    refine Ev.succ ?_
    cases he : setD G.length t.f1 with
    | none =>
      rw [he] at hs
      have hg : needsGo G.length (t :: r) = none := by rw [needsGo, he]
      rw [hg]
      obtain ⟨K, h2⟩ := hs
      dsimp only at h2
      refine ⟨K, fun k hk => ?_⟩
      show impl_needsOf.l0 (k + 1) _ _ _ _ _ = _
      simp only [impl_needsOf.l0]
      rw [if_pos (by omega), if_pos (by omega), if_pos (by omega), hrd, h2 k hk]
      rfl
    | some s =>
      rw [he] at hs
      by_cases hok : taskOk t
      · have hg : needsGo G.length (t :: r) = (needsGo G.length r).map (s :: ·) := by rw [needsGo, he]; simp [hok]
        have ih := ev_needsGo G h8 r (pre ++ [t]) (N ++ [s]) (by rw [hG]; simp) (by simp [hN])
        have e1 : ((needsGo G.length r).map (s :: ·)).map (N ++ ·) = (needsGo G.length r).map ((N ++ [s]) ++ ·) := by cases needsGo G.length r <;> simp
        rw [hg, e1]
        obtain ⟨K, h2⟩ := hs
        dsimp only at h2
        obtain ⟨K2, h3⟩ := ih
        dsimp only at h3
        refine ⟨max K K2, fun k hk => ?_⟩
        show impl_needsOf.l0 (k + 1) _ _ _ _ _ = _
        simp only [impl_needsOf.l0]
        rw [if_pos (by omega), if_pos (by omega), if_pos (by omega), hrd, h2 k (by omega)]
        simp only [setR, Option.bind_some, if_true]
        rw [within_eq, decide_eq_true hok.1]
        simp only [Option.bind_some, if_true]
        rw [within_eq, decide_eq_true hok.2.1]
        simp only [Option.bind_some, if_true]
        rw [within_eq, decide_eq_true hok.2.2]
        simp only [Option.bind_some, if_true]
        rw [if_pos (by rw [up_length]; omega), w64 (by omega) (by omega)]
        have := h3 k (by omega)
        simpa [up] using this
      · have hg : needsGo G.length (t :: r) = none := by rw [needsGo, he]; simp [hok]
        rw [hg]
        obtain ⟨K, h2⟩ := hs
        dsimp only at h2
        refine ⟨K, fun k hk => ?_⟩
        show impl_needsOf.l0 (k + 1) _ _ _ _ _ = _
        simp only [impl_needsOf.l0]
        rw [if_pos (by omega), if_pos (by omega), if_pos (by omega), hrd, h2 k (by omega)]
        simp only [setR, Option.bind_some, if_true]
        rw [within_eq, within_eq, within_eq]
        simp only [Option.bind_some]
        by_cases h1 : 1 ≤ t.f0 ∧ t.f0 ≤ 20
        · by_cases h2 : 0 ≤ t.f2 ∧ t.f2 ≤ 2
          · by_cases h3 : 1 ≤ t.f3 ∧ t.f3 ≤ 4
            · exact absurd ⟨h1, h2, h3⟩ hok
            · simp [h1, h2, h3, needsR]
          · simp [h1, h2, needsR]
        · simp [h1, needsR]
theorem ev_needsOf (G : List Tk) : Ev (fun k => impl_needsOf.f k G) (needsR (needsD G)) := by
  unfold needsD
  by_cases h : G.length ≤ 8
  · rw [if_pos h]
    have h2 := ev_needsGo G h G [] [] rfl rfl
    have e : (needsGo G.length G).map (([] : List Nat) ++ ·) = needsGo G.length G := by cases needsGo G.length G <;> simp
    rw [e] at h2
    refine h2.of fun k => ?_
    unfold impl_needsOf.f
    rw [if_neg (by omega), if_pos (by omega), if_pos (by omega)]
    rfl
  · rw [if_neg h]
    refine (Ev.const _).of fun k => ?_
    unfold impl_needsOf.f
    rw [if_pos (by omega)]
    rfl
theorem needsGo_spec {n : Nat} : ∀ {r : List Tk} {N : List Nat}, needsGo n r = some N → N.length = r.length ∧ below1 n N
  | [], N, h => by rw [needsGo] at h; cases h; exact ⟨rfl, fun x hx => by cases hx⟩
  | t :: r, N, h => by
    rw [needsGo] at h
    cases he : setD n t.f1 with
    | none => rw [he] at h; cases h
    | some s =>
      rw [he] at h
      by_cases hok : taskOk t
      · simp only [hok, if_true] at h
        cases hg : needsGo n r with
        | none => rw [hg] at h; cases h
        | some M =>
          rw [hg] at h
          cases h
          have := needsGo_spec hg
          refine ⟨by simp [this.1], fun x hx => ?_⟩
          rcases List.mem_cons.1 hx with rfl | hx
          · exact setD_lt he
          · exact this.2 x hx
      · simp [hok] at h
theorem needsD_spec {g : List Tk} {N : List Nat} (h : needsD g = some N) : g.length ≤ 8 ∧ N.length = g.length ∧ below1 g.length N := by
  unfold needsD at h
  by_cases h8 : g.length ≤ 8
  · rw [if_pos h8] at h
    exact ⟨h8, needsGo_spec h⟩
  · rw [if_neg h8] at h; cases h
end Go.Proofs.YtffhdofcfkgoaaaDoor.Core

/- The order of a graph in plain words, and what graphOf hands back. -/
namespace Go.Proofs.YtffhdofcfkgoaaaDoor.Core
open Go Go.RowKit Go.Shelf Go.Proofs.YtffhdofcfkgoaaaDoorW.PrintWords Go.Proofs.YtffhdofcfkgoaaaDoorW.PrintMore Go.Proofs.YtffhdofcfkgoaaaDoor.P
attribute [local go_sem] Oper.semAt_some wide_fn wide_depth

/-! ### order -/
def nextFrom (N : List Nat) (d : Nat) : Nat → Nat → Option Nat
  | _, 0 => none
  | i, m + 1 => if d.testBit i = false ∧ sub (N.getD i 0) d = 0 then some i else nextFrom N d (i + 1) m
def nextD (N : List Nat) (d : Nat) : Option Nat := nextFrom N d 0 N.length
def orderGo (N : List Nat) : Nat → List Nat → Nat → List Nat × Nat
  | 0, L, d => (L, d)
  | m + 1, L, d => match nextD N d with
    | some i => orderGo N m (L ++ [i]) (d ||| 2 ^ i)
    | none => orderGo N m L d
def orderD (N : List Nat) : List Nat × Nat := orderGo N N.length [] 0
theorem nextFrom_spec {N : List Nat} {d : Nat} : ∀ {m i j : Nat}, nextFrom N d i m = some j → i ≤ j ∧ j < i + m ∧ d.testBit j = false ∧ sub (N.getD j 0) d = 0
  | 0, i, j, h => by rw [nextFrom] at h; cases h
  | m + 1, i, j, h => by
    rw [nextFrom] at h
    by_cases hc : d.testBit i = false ∧ sub (N.getD i 0) d = 0
    · rw [if_pos hc] at h
      cases h
      exact ⟨by omega, by omega, hc⟩
    · rw [if_neg hc] at h
      have := nextFrom_spec h
      exact ⟨by omega, by omega, this.2.2⟩
theorem nextFrom_first {N : List Nat} {d : Nat} : ∀ {m i : Nat} {o : Option Nat}, nextFrom N d i m = o → ∀ k, i ≤ k → k < i + m → (∀ j, o = some j → k < j) → ¬(d.testBit k = false ∧ sub (N.getD k 0) d = 0)
  | 0, i, o, h, k, h1, h2, h3 => by omega
  | m + 1, i, o, h, k, h1, h2, h3 => by
    rw [nextFrom] at h
    by_cases hc : d.testBit i = false ∧ sub (N.getD i 0) d = 0
    · rw [if_pos hc] at h
      have := h3 i h.symm
      omega
    · rw [if_neg hc] at h
      by_cases hk : k = i
      · subst hk; exact hc
      · exact nextFrom_first h k (by omega) (by omega) h3
theorem nextD_spec {N : List Nat} {d j : Nat} (h : nextD N d = some j) : j < N.length ∧ d.testBit j = false ∧ sub (N.getD j 0) d = 0 := by
  have := nextFrom_spec h
  exact ⟨by omega, this.2.2⟩
def ordR (x : List Nat × Nat) : List Int × Int := (up x.1, (x.2 : Int))
theorem order_step {N : List Nat} {n : Nat} (hN : N.length = n) (hn : n ≤ 8) (L : List Nat) (d i j k : Nat) (hd8 : d < 256) (hNi : N.getD i 0 < 256) (hi : i < n) (hj : j ≤ 8) (hL : L.length ≤ j) : impl_order.l1 (k + 1) (up N) (up L) (d : Int) (n : Int) (j : Int) (up N) (n : Int) (i : Int) = (if d.testBit i = true then impl_order.l1 k (up N) (up L) (d : Int) (n : Int) (j : Int) (up N) (n : Int) ((i + 1 : Nat) : Int) else if ((sub (N.getD i 0) d : Nat) : Int) = 0 then impl_order.l0 k (up N) (up (L ++ [i])) ((d ||| 2 ^ i : Nat) : Int) (n : Int) ((j + 1 : Nat) : Int) else impl_order.l1 k (up N) (up L) (d : Int) (n : Int) (j : Int) (up N) (n : Int) ((i + 1 : Nat) : Int)) := by
  have h8 : up (L ++ [i]) = up L ++ [(i : Int)] := by simp [up]
  have hwj : ((j + 1 : Nat) : Int) = wrap64 ((j : Int) + 1) := by rw [w64 (by omega) (by omega)]; omega
  have hw : ((i + 1 : Nat) : Int) = wrap64 ((i : Int) + 1) := by rw [w64 (by omega) (by omega)]; omega
  rw [h8, hwj, hw, ← andNot_eq hNi hd8, impl_order.l1, if_pos (by omega), if_pos (by omega), if_pos (by rw [up_length, hN]; omega), sethas_eq hd8 (by omega), Option.bind_some, rd_up (L := N) (i := i) rfl]
  congr 1
  congr 1
  rw [if_pos (by rw [up_length]; omega), setwith_eq hd8 (by omega), Option.bind_some]
theorem ev_next {N : List Nat} {n : Nat} (hN : N.length = n) (hn : n ≤ 8) (hb : below1 n N) (L : List Nat) (d : Nat) (hd : d < 2 ^ n) (j : Nat) (hL : L.length ≤ j) (hj : j ≤ 8) (R : List Nat → Nat → List Int × Int)
    (ho : ∀ (L' : List Nat) (d' : Nat), d' < 2 ^ n → L'.length ≤ j + 1 → Ev (fun k => impl_order.l0 k (up N) (up L') (d' : Int) (n : Int) ((j + 1 : Nat) : Int)) (R L' d')) (m : Nat) : ∀ i, i + m = n →
    Ev (fun k => impl_order.l1 k (up N) (up L) (d : Int) (n : Int) (j : Int) (up N) (n : Int) (i : Int)) (match nextFrom N d i m with | some i => R (L ++ [i]) (d ||| 2 ^ i) | none => R L d) := by
  induction m with
  | zero =>
    intro i hi
    have hwj : wrap64 ((j : Int) + 1) = ((j + 1 : Nat) : Int) := by rw [w64 (by omega) (by omega)]; omega
    have hg : nextFrom N d i 0 = none := by rw [nextFrom]
    have h0 := ho L d hd (by omega)
    rw [hg]
    refine Ev.succ (h0.of fun k => ?_)
    rw [impl_order.l1, if_neg (by omega), hwj]
  | succ m ih =>
    intro i hi
    have h256 := pow8 hn
    have hd8 : d < 256 := Nat.lt_of_lt_of_le hd h256
    have hNi : N.getD i 0 < 256 := Nat.lt_of_lt_of_le (getD_lt hb i) h256
    have hstep := fun k => order_step hN hn L d i j k hd8 hNi (by omega) hj hL
    have ih := ih (i + 1) (by omega)
    refine Ev.succ ?_
    cases hbit : d.testBit i with
    | true =>
      have hg : nextFrom N d i (m + 1) = nextFrom N d (i + 1) m := by rw [nextFrom, if_neg (by simp [hbit])]
      rw [hg]
      refine ih.of fun k => ?_
      rw [hstep, if_pos hbit]
    | false =>
      by_cases hz : sub (N.getD i 0) d = 0
      · have hg : nextFrom N d i (m + 1) = some i := by rw [nextFrom, if_pos ⟨hbit, hz⟩]
        rw [hg]
        have h0 := ho (L ++ [i]) (d ||| 2 ^ i) (Nat.or_lt_two_pow hd (Nat.pow_lt_pow_right (by omega) (by omega))) (by simp; omega)
        refine h0.of fun k => ?_
        rw [hstep, if_neg (by simp [hbit]), if_pos (by omega)]
      · have hg : nextFrom N d i (m + 1) = nextFrom N d (i + 1) m := by rw [nextFrom, if_neg (fun h => hz h.2)]
        rw [hg]
        refine ih.of fun k => ?_
        rw [hstep, if_neg (by simp [hbit]), if_neg (by omega)]
theorem ev_orderGo {N : List Nat} {n : Nat} (hN : N.length = n) (hn : n ≤ 8) (hb : below1 n N) : ∀ (m j : Nat) (L : List Nat) (d : Nat), j + m = n → d < 2 ^ n → L.length ≤ j →
    Ev (fun k => impl_order.l0 k (up N) (up L) (d : Int) (n : Int) (j : Int)) (ordR (orderGo N m L d))
  | 0, j, L, d, hj, hd, hL => by
    refine Ev.succ ((Ev.const _).of fun k => ?_)
    simp only [impl_order.l0]
    rw [if_neg (by omega)]
    rfl
  | m + 1, j, L, d, hj, hd, hL => by
    refine Ev.succ ?_
    have h := ev_next hN hn hb L d hd j hL (by omega) (fun L' d' => ordR (orderGo N m L' d')) (fun L' d' hd' hL' => ev_orderGo hN hn hb m (j + 1) L' d' (by omega) hd' hL') N.length 0 (by omega)
    have e : (match nextFrom N d 0 N.length with | some i => ordR (orderGo N m (L ++ [i]) (d ||| 2 ^ i)) | none => ordR (orderGo N m L d)) = ordR (orderGo N (m + 1) L d) := by
      rw [orderGo, nextD]
      cases he : nextFrom N d 0 N.length <;> rfl
    rw [← e]
    refine h.of fun k => ?_
    simp only [impl_order.l0]
    rw [if_pos (by omega), up_length, hN]
    rfl
theorem ev_order {N : List Nat} (hn : N.length ≤ 8) (hb : below1 N.length N) : Ev (fun k => impl_order.f k (up N)) (ordR (orderD N)) := by
  have h := ev_orderGo rfl hn hb N.length 0 [] 0 (by omega) (Nat.two_pow_pos _) (by simp)
  refine h.of fun k => ?_
  unfold impl_order.f
  rw [up_length]
  rfl

/-- What an order (as far as it goes) and its set have. -/
structure OrdOk (N : List Nat) (L : List Nat) (d : Nat) : Prop where
  lt : ∀ i ∈ L, i < N.length
  set : ∀ i, d.testBit i = true ↔ i ∈ L
  dlt : d < 2 ^ N.length
  nodup : L.Nodup
  len : L.length + zb N.length d = N.length
  needs : ∀ pre i suf, L = pre ++ i :: suf → ∀ k, (N.getD i 0).testBit k = true → k ∈ pre
theorem zb_step {p i : Nat} (hp : p.testBit i = false) : ∀ {n : Nat}, i < n → zb n (p ||| 2 ^ i) + 1 = zb n p
  | 0, h => by omega
  | n + 1, h => by
    simp only [zb, or_bit]
    by_cases hi : i = n
    · subst hi
      have : ∀ m, m ≤ i → zb m (p ||| 2 ^ i) = zb m p := by
        intro m
        induction m with
        | zero => intro _; rfl
        | succ m ih =>
          intro hm
          simp only [zb, or_bit, ih (by omega)]
          have : i ≠ m := by omega
          simp [this]
      rw [this i (Nat.le_refl _)]
      simp [hp]
    · have := zb_step hp (n := n) (by omega)
      cases p.testBit n <;> simp [hi] <;> omega
theorem zb_zero : ∀ n, zb n 0 = n
  | 0 => rfl
  | n + 1 => by simp [zb, zb_zero n]
theorem zb_full (n : Nat) : ∀ m, m ≤ n → zb m (2 ^ n - 1) = 0
  | 0, _ => rfl
  | m + 1, h => by
    simp only [zb, zb_full n m (by omega), Nat.testBit_two_pow_sub_one]
    simp; omega
theorem OrdOk.step {N L : List Nat} {d i : Nat} (hn : N.length ≤ 8) (hb : below1 N.length N) (h : OrdOk N L d) (hi : i < N.length) (h1 : d.testBit i = false) (h2 : sub (N.getD i 0) d = 0) : OrdOk N (L ++ [i]) (d ||| 2 ^ i) where
  lt := by
    intro k hk
    rcases List.mem_append.1 hk with hk | hk
    · exact h.lt k hk
    · rw [List.mem_singleton.1 hk]; exact hi
  set := by
    intro k
    rw [or_bit, List.mem_append, List.mem_singleton, Bool.or_eq_true, h.set, decide_eq_true_eq]
    constructor
    · rintro (h | h)
      · exact .inl h
      · exact .inr h.symm
    · rintro (h | h)
      · exact .inl h
      · exact .inr h.symm
  dlt := Nat.or_lt_two_pow h.dlt (Nat.pow_lt_pow_right (by omega) hi)
  nodup := by
    rw [List.nodup_append]
    refine ⟨h.nodup, by simp, fun a ha b hb => ?_⟩
    rw [List.mem_singleton.1 hb]
    rintro rfl
    have := (h.set a).2 ha
    rw [this] at h1
    cases h1
  len := by
    have := zb_step h1 hi
    have := h.len
    simp
    omega
  needs := by
    intro pre k suf he m hm
    rcases List.eq_nil_or_concat suf with rfl | ⟨s2, x, rfl⟩
    · have h3 : pre = L ∧ k = i := by
        have := List.append_inj' he (by simp)
        simpa [eq_comm] using this
      obtain ⟨rfl, rfl⟩ := h3
      have hd8 : d < 256 := Nat.lt_of_lt_of_le h.dlt (pow8 hn)
      have h4 := sub_testBit (i := m) (Nat.lt_of_lt_of_le (getD_lt hb k) (pow8 hn)) hd8
      rw [h2, hm] at h4
      simp at h4
      exact (h.set m).1 h4
    · have h3 : L = pre ++ k :: s2 := by
        have e2 : L ++ [i] = (pre ++ k :: s2) ++ [x] := by rw [he]; simp
        exact (List.append_inj' e2 (by simp)).1
      exact h.needs pre k s2 h3 m hm
theorem orderGo_ok {N : List Nat} (hn : N.length ≤ 8) (hb : below1 N.length N) : ∀ {m : Nat} {L : List Nat} {d : Nat}, OrdOk N L d → OrdOk N (orderGo N m L d).1 (orderGo N m L d).2
  | 0, L, d, h => h
  | m + 1, L, d, h => by
    rw [orderGo]
    cases he : nextD N d with
    | none => exact orderGo_ok hn hb h
    | some i =>
      have := nextD_spec he
      exact orderGo_ok hn hb (h.step hn hb this.1 this.2.1 this.2.2)
theorem orderD_ok {N : List Nat} (hn : N.length ≤ 8) (hb : below1 N.length N) : OrdOk N (orderD N).1 (orderD N).2 :=
  orderGo_ok hn hb ⟨by simp, by simp, Nat.two_pow_pos _, by simp, by rw [zb_zero]; simp, by simp⟩

/-- What is known of a valid graph. -/
def mkG (g : List Tk) (N : List Nat) : GD := ⟨g, N, (orderD N).1, (reach N (orderD N).1 g.length).1, (reach N (orderD N).1 g.length).2⟩
def graphD (g : List Tk) : Option GD := match needsD g with
  | none => none
  | some N => if (orderD N).2 = 2 ^ g.length - 1 then some (mkG g N) else none
theorem graphD_spec {g : List Tk} {G : GD} (h : graphD g = some G) : ∃ N, needsD g = some N ∧ (orderD N).2 = 2 ^ g.length - 1 ∧ G = mkG g N := by
  unfold graphD at h
  cases he : needsD g with
  | none => rw [he] at h; cases h
  | some N =>
    rw [he] at h
    simp only [] at h
    by_cases hf : (orderD N).2 = 2 ^ g.length - 1
    · rw [if_pos hf] at h
      cases h
      exact ⟨N, rfl, hf, rfl⟩
    · rw [if_neg hf] at h; cases h
theorem graphD_tasks {g : List Tk} {G : GD} (h : graphD g = some G) : G.tasks = g := by
  obtain ⟨N, _, _, rfl⟩ := graphD_spec h
  rfl
theorem graphD_ok {g : List Tk} {G : GD} (h : graphD g = some G) : GOk G := by
  obtain ⟨N, h1, h2, rfl⟩ := graphD_spec h
  obtain ⟨h8, hl, hb⟩ := needsD_spec h1
  have hb' : below1 N.length N := by rw [hl]; exact hb
  have ok := orderD_ok (by omega) hb'
  have hob : ∀ i ∈ (orderD N).1, i < g.length := fun i hi => by have := ok.lt i hi; omega
  have hr := reach_below hb hob
  refine ⟨h8, hl, hb, ?_, hob, reach_len1 _ _ _, hr.1, reach_len2 _ _ _, hr.2⟩
  have := ok.len
  rw [h2, hl, zb_full _ _ (Nat.le_refl _)] at this
  exact this

set_option maxRecDepth 100000 in
set_option maxHeartbeats 4000000 in
theorem graphOf_no2 (k : Nat) (A0 : Option Addr) (c0 : Nat) (l0 : List Tk) (N O : List Nat) (d : Nat) (w : World) (hr0 : k33.C w A0 l0.length l0) (hc0 : l0.length ≤ c0) (h8 : l0.length ≤ 8) (hne : d ≠ 2 ^ l0.length - 1)
    (h : impl_needsOf.f k l0 = some (up N, true)) (ho : impl_order.f k (up N) = some (up O, (d : Int))) :
    Calls Tryd.prog 47 #[.slice A0 l0.length c0] w fun e w' => e = .returned (.tuple #[.pointer none, .bool false]) ∧ Below w.heap.size w w' := by
  have h' := Lib.hid h
  have ho' := Lib.hid ho
  clear h ho
  have hev := everything_calls l0.length h8
  generalize 2 ^ l0.length - 1 = full at hne hev
  generalize hfi : ((full : Nat) : Int) = fi at hev
  generalize hdi : ((d : Nat) : Int) = di at ho'
  have hne1 : (di != fi) = true := by simp; omega
  clear hfi hdi
  refine calls_marks Tryd.func47 rfl ?_
  simp only [Tryd.ntmps47, List.size_toArray, List.length_cons, List.length_nil, Nat.reduceAdd, Nat.reduceSub, Array.replicate_succ, Array.replicate_zero, List.push_toArray, List.append_toArray, List.nil_append, List.cons_append]
  go_wp2_with (first | (go_at_call 74; refine (impl_needsOf.calls k A0 c0 l0 _ _ _ hr0 hc0 h'.out).mono ?_; rintro e w1 ⟨v0, rfl, hR1, hB1⟩; obtain ⟨A1, c1, rfl, hl1', hC1⟩ := Kd.R_reads hR1; have hz1 := Lib.hid (up_length N)) | (go_at_call 75; refine (impl_order.calls k _ _ (up N) _ _ _ hC1 hl1' ho'.out).mono ?_; rintro e w2 ⟨v1, rfl, hR2, hB2⟩) | (go_at_call 76; refine (hev _).mono ?_; rintro e w3 ⟨rfl, rfl⟩))
  refine leave_ret (Marks.nil w.heap.size w.heap.size _) (fun W => results_tmp2 rfl _ _ _) ?_
  intro W' ht
  exact ⟨rfl, ht.below (below_step hB1 hB2) (Nat.le_refl _) (Nat.le_refl _)⟩

/-- What graphOf hands back. -/
def graphPost (g : List Tk) (w : World) (e : Ending) (w' : World) : Prop := match graphD g with
  | none => e = .returned (.tuple #[.pointer none, .bool false]) ∧ Below w.heap.size w w'
  | some G => ∃ (b : Nat) (v : Value), e = .returned (.tuple #[.pointer (some ⟨b, 0, none⟩), .bool true]) ∧ Below w.heap.size w w' ∧ w.heap.size ≤ b ∧ IsG w' b G ∧ w'.cell? ⟨b, 2, none⟩ = some v ∧ (Kd.int .i64).R 3 w' w.heap.size (fun _ => True) v (up G.order)
theorem graphOf_calls (A0 : Option Addr) (c0 : Nat) (l0 : List Tk) (w : World) (hT : Tab w) (hr0 : k33.C w A0 l0.length l0) (hc0 : l0.length ≤ c0) :
    Calls Tryd.prog 47 #[.slice A0 l0.length c0] w (graphPost l0 w) := by
  have hn := ev_needsOf l0
  cases he : needsD l0 with
  | none =>
    rw [he] at hn
    obtain ⟨k, hk⟩ := hn.one
    refine (graphOf_no1 k A0 c0 l0 [] w hr0 hc0 hk).mono ?_
    intro e w' h
    have hg : graphD l0 = none := by unfold graphD; rw [he]
    unfold graphPost
    rw [hg]
    exact h
  | some N =>
    rw [he] at hn
    obtain ⟨h8, hl, hb⟩ := needsD_spec he
    have hb' : below1 N.length N := by rw [hl]; exact hb
    have ho := ev_order (N := N) (by omega) hb'
    have ok := orderD_ok (N := N) (by omega) hb'
    obtain ⟨k, h1, h2⟩ := hn.both ho
    by_cases hf : (orderD N).2 = 2 ^ l0.length - 1
    · have hg : graphD l0 = some (mkG l0 N) := by unfold graphD; rw [he]; simp only []; rw [if_pos hf]
      have h2' : impl_order.f k (up N) = some (up (orderD N).1, ((2 ^ l0.length - 1 : Nat) : Int)) := by rw [← hf]; exact h2
      have gok := graphD_ok hg
      refine (graphOf_yes k A0 c0 l0 N (orderD N).1 w hT hr0 hc0 h8 hl hb gok.ob (by have := gok.ol; have := gok.n8; show (orderD N).1.length ≤ 8; simp only [mkG] at *; omega) h1 h2').mono ?_
      intro e w' h
      unfold graphPost
      rw [hg]
      exact h
    · have hg : graphD l0 = none := by unfold graphD; rw [he]; simp only []; rw [if_neg hf]
      refine (graphOf_no2 k A0 c0 l0 N (orderD N).1 (orderD N).2 w hr0 hc0 h8 hf h1 h2).mono ?_
      intro e w' h
      unfold graphPost
      rw [hg]
      exact h
end Go.Proofs.YtffhdofcfkgoaaaDoor.Core
