/- What the graph's small methods do: size, ready; and the words of a region of open order within a round. -/
import Derived.Test.YtffhdofcfkgoaaaDoorGraph
set_option linter.unusedVariables false
set_option linter.unusedSimpArgs false
namespace Go.Proofs.YtffhdofcfkgoaaaDoor.Core
open Go Go.RowKit Go.Shelf Go.Proofs.YtffhdofcfkgoaaaDoorW.PrintWords Go.Proofs.YtffhdofcfkgoaaaDoorW.PrintLast Go.Proofs.YtffhdofcfkgoaaaDoorW.PrintMore Go.Proofs.YtffhdofcfkgoaaaDoor.P
attribute [local go_sem] Oper.semAt_some wide_fn wide_depth

/-- A region of open order within a round: as a plain one (start_). -/
theorem start_in {P : Program} {ops : Array Oper} {Q : Exit → Act → World → Prop} {S : World → Prop} {ds : List Nat} {id n lr n0 : Nat} {a : Act} {w : World} (l : Array Bool) (hm : P.follows .mixedOrders = true) (hd : noDefer ops = true) (hQ : ¬ LetsOut Q) (hn : ops.size = n) (hl : Array.replicate n false = l) (hS : S w.drew)
    (h : S w.drew → wpAnyLast P .any ops Q S ds n l a w.drew) : (Code.region id ops true).wpIn (Fence.wide.inRound lr) n0 P Q a w := by
  subst hn
  subst hl
  exact wpIn_region_any hm (wpAnyIn_of_wpAny (noDefer_spec hd) hQ _ _ _ _ (wpAny_of_last _ _ _ _ (h hS)))

/-- What holds of each valid graph. -/
structure GOk (G : GD) : Prop where
  n8 : G.tasks.length ≤ 8
  nl : G.needs.length = G.tasks.length
  nb : below1 G.tasks.length G.needs
  ol : G.order.length = G.tasks.length
  ob : ∀ i ∈ G.order, i < G.tasks.length
  bl : G.below.length = G.tasks.length
  bb : below1 G.tasks.length G.below
  al : G.above.length = G.tasks.length
  ab : below1 G.tasks.length G.above

theorem IsG.move {w w' : World} {b : Nat} {G : GD} (h : IsG w b G) (hb : Below w.heap.size w w') : IsG w' b G := by
  obtain ⟨A0, A1, A2, A3, A4, c0, c1, c2, c3, c4, hh, h0, h1, h2, h3, h4⟩ := h
  exact ⟨A0, A1, A2, A3, A4, c0, c1, c2, c3, c4, (hb.block b (cells_lt hh)).trans hh, ⟨h0.1, Kd.C_below h0.2 hb⟩, ⟨h1.1, Kd.C_below h1.2 hb⟩, ⟨h2.1, Kd.C_below h2.2 hb⟩, ⟨h3.1, Kd.C_below h3.2 hb⟩, ⟨h4.1, Kd.C_below h4.2 hb⟩⟩
theorem IsG.lt {w : World} {b : Nat} {G : GD} (h : IsG w b G) : b < w.heap.size := by
  obtain ⟨A0, A1, A2, A3, A4, c0, c1, c2, c3, c4, hh, _⟩ := h
  exact cells_lt hh
theorem IsG.tasks {w : World} {b : Nat} {G : GD} (h : IsG w b G) : ∃ A c, w.cell? ⟨b, 0, none⟩ = some (.slice A G.tasks.length c) ∧ G.tasks.length ≤ c ∧ k33.C w A G.tasks.length G.tasks := by
  obtain ⟨A0, A1, A2, A3, A4, c0, c1, c2, c3, c4, hh, h0, h1, h2, h3, h4⟩ := h
  exact ⟨A0, c0, by simp [World.cell?, hh], h0.1, h0.2⟩
theorem IsG.needs {w : World} {b : Nat} {G : GD} (h : IsG w b G) : ∃ A c, w.cell? ⟨b, 1, none⟩ = some (.slice A G.needs.length c) ∧ G.needs.length ≤ c ∧ (Kd.int .u16).C w A G.needs.length (up G.needs) := by
  obtain ⟨A0, A1, A2, A3, A4, c0, c1, c2, c3, c4, hh, h0, h1, h2, h3, h4⟩ := h
  exact ⟨A1, c1, by simp [World.cell?, hh], h1.1, h1.2⟩
theorem IsG.order {w : World} {b : Nat} {G : GD} (h : IsG w b G) : ∃ A c, w.cell? ⟨b, 2, none⟩ = some (.slice A G.order.length c) ∧ G.order.length ≤ c ∧ (Kd.int .i64).C w A G.order.length (up G.order) := by
  obtain ⟨A0, A1, A2, A3, A4, c0, c1, c2, c3, c4, hh, h0, h1, h2, h3, h4⟩ := h
  exact ⟨A2, c2, by simp [World.cell?, hh], h2.1, h2.2⟩
theorem IsG.below {w : World} {b : Nat} {G : GD} (h : IsG w b G) : ∃ A c, w.cell? ⟨b, 3, none⟩ = some (.slice A G.below.length c) ∧ G.below.length ≤ c ∧ (Kd.int .u16).C w A G.below.length (up G.below) := by
  obtain ⟨A0, A1, A2, A3, A4, c0, c1, c2, c3, c4, hh, h0, h1, h2, h3, h4⟩ := h
  exact ⟨A3, c3, by simp [World.cell?, hh], h3.1, h3.2⟩
theorem IsG.above {w : World} {b : Nat} {G : GD} (h : IsG w b G) : ∃ A c, w.cell? ⟨b, 4, none⟩ = some (.slice A G.above.length c) ∧ G.above.length ≤ c ∧ (Kd.int .u16).C w A G.above.length (up G.above) := by
  obtain ⟨A0, A1, A2, A3, A4, c0, c1, c2, c3, c4, hh, h0, h1, h2, h3, h4⟩ := h
  exact ⟨A4, c4, by simp [World.cell?, hh], h4.1, h4.2⟩

set_option maxHeartbeats 1000000 in
theorem size_calls (b : Nat) (G : GD) (w : World) (hg : IsG w b G) :
    Calls Tryd.prog 54 #[.pointer (some ⟨b, 0, none⟩)] w fun e w' => e = .returned (.int .i64 (G.tasks.length : Int)) ∧ w = w' := by
  obtain ⟨A, c, hc, _, _⟩ := hg.tasks
  go_enter Tryd.func54, Tryd.ntmps54
  go_wp2
  go_ret
  exact ⟨rfl, rfl⟩

/-- The tasks that can come next, among the first ones. -/
def readyTo (N : List Nat) (d : Nat) : Nat → Nat
  | 0 => 0
  | i + 1 => if d.testBit i = false ∧ sub (N.getD i 0) d = 0 then readyTo N d i ||| 2 ^ i else readyTo N d i
theorem readyTo_lt (N : List Nat) (d : Nat) : ∀ i, readyTo N d i < 2 ^ i
  | 0 => by simp [readyTo]
  | i + 1 => by
    have h := Nat.lt_of_lt_of_le (readyTo_lt N d i) (Nat.pow_le_pow_right (n := 2) (by omega) (Nat.le_succ i))
    unfold readyTo
    split
    · exact Nat.or_lt_two_pow h (Nat.pow_lt_pow_right (by omega) (by omega))
    · exact h
def GD.ready (G : GD) (d : Nat) : Nat := readyTo G.needs d G.needs.length

set_option maxRecDepth 100000 in
set_option maxHeartbeats 4000000 in
theorem ready_calls (b : Nat) (G : GD) (d : Nat) (w : World) (hg : IsG w b G) (ok : GOk G) (hd : d < 256) :
    Calls Tryd.prog 79 #[.pointer (some ⟨b, 0, none⟩), .int .u16 (d : Int)] w fun e w' => e = .returned (.int .u16 ((G.ready d : Nat) : Int)) ∧ w = w' := by
  obtain ⟨A, c, hc, _, hC⟩ := hg.needs
  have hC := Aside0.mk hC
  go_enter Tryd.func79, Tryd.ntmps79
  go_wp2
  go_loopg [5, 13] G.needs.length (fun kq v5 v13 w' => ∃ (i : Nat) (x : Int) (o : Int), v5 = .int .u16 o ∧ v13 = .int .i64 x ∧ Aside0 (i + kq = G.needs.length ∧ x = (i : Int) ∧ o = ((readyTo G.needs d i : Nat) : Int)) ∧ w = w')
  case atStart => exact ⟨0, 0, 0, rfl, rfl, ⟨by omega, rfl, rfl⟩, rfl⟩
  case round =>
    obtain ⟨i, x, o, rfl, rfl, hh, rfl⟩ := hrel
    by_cases hlt : i < G.needs.length
    · have p0 : 0 ≤ x := by have := hh.out.2.1; omega
      have q0 : x < (G.needs.length : Int) := by have := hh.out.2.1; omega
      have hlt0 : decide (x < (G.needs.length : Int)) = true := decide_eq_true q0
      obtain ⟨ad, e0, hx0⟩ := Kd.at_int hC.out x p0 q0
      subst e0
      rw [rd_up (i := i) hh.out.2.1] at hx0
      have h8 : G.needs.length ≤ 8 := by have := ok.n8; have := ok.nl; omega
      have hNi : G.needs.getD i 0 < 256 := Nat.lt_of_lt_of_le (getD_lt ok.nb i) (pow8 ok.n8)
      have hA := andNot_eq hNi hd
      have hW := readyTo_lt G.needs d i
      have hstep : readyTo G.needs d (i + 1) = if d.testBit i = false ∧ sub (G.needs.getD i 0) d = 0 then readyTo G.needs d i ||| 2 ^ i else readyTo G.needs d i := rfl
      have hB := has_calls d i hd (by omega) w
      have hWc := with_calls (readyTo G.needs d i) i (Nat.lt_of_lt_of_le hW (Nat.le_trans (Nat.pow_le_pow_right (by omega) (show i ≤ 8 by omega)) (by decide))) (by omega) w
      rw [← hh.out.2.2, ← hh.out.2.1] at hWc
      rw [← hh.out.2.1] at hB
      generalize G.needs.getD i 0 = s at hx0 hA hstep
      generalize hbb : d.testBit i = bb at hB hstep
      generalize hz : sub s d = z0 at hA hstep
      generalize hz2 : ((z0 : Nat) : Int) = z at hA
      generalize hr1 : readyTo G.needs d i ||| 2 ^ i = r1 at hWc hstep
      replace p0 := eq_true p0
      replace q0 := eq_true q0
      have HS := Aside0.mk hstep
      have HZ := Aside0.mk hz2
      have HL := Aside0.mk hlt
      clear hstep hbb hz hz2 hr1 hlt hW
      have hz01 : z = 0 ∨ z ≠ 0 := by omega
      cases bb with
      | true =>
        go_wp2_with (go_at_call 88; refine hB.mono ?_; rintro e w' ⟨rfl, rfl⟩)
        go_roundg (G.needs.length - (i + 1))
        case measure => have := hh.out.1; have := HL.out; omega
        case rel =>
          have h1 := hh.out; have := HL.out
          refine ⟨i + 1, _, _, rfl, rfl, ⟨by omega, by rw [h1.2.1]; unfold wrap64; omega, by rw [HS.out, h1.2.2]; simp⟩, rfl⟩
      | false =>
        rcases hz01 with rfl | hz0
        · go_wp2_with (first | (go_at_call 88; refine hB.mono ?_; rintro e w' ⟨rfl, rfl⟩) | (go_at_call 78; refine hWc.mono ?_; rintro e w' ⟨rfl, rfl⟩))
          go_roundg (G.needs.length - (i + 1))
          case measure => have := hh.out.1; have := HL.out; omega
          case rel =>
            have h1 := hh.out; have := HL.out
            have hz3 : z0 = 0 := by have := HZ.out; omega
            refine ⟨i + 1, _, _, rfl, rfl, ⟨by omega, by rw [h1.2.1]; unfold wrap64; omega, by rw [HS.out, hz3]; simp⟩, rfl⟩
        · have hz4 : (z == 0) = false := beq_eq_false_iff_ne.2 hz0
          go_wp2_with (first | (go_at_call 88; refine hB.mono ?_; rintro e w' ⟨rfl, rfl⟩) | (go_at_call 78; refine hWc.mono ?_; rintro e w' ⟨rfl, rfl⟩))
          go_roundg (G.needs.length - (i + 1))
          case measure => have := hh.out.1; have := HL.out; omega
          case rel =>
            have h1 := hh.out; have := HL.out
            have hz3 : z0 ≠ 0 := by have := HZ.out; omega
            refine ⟨i + 1, _, _, rfl, rfl, ⟨by omega, by rw [h1.2.1]; unfold wrap64; omega, by rw [HS.out, h1.2.2]; simp [hz3]⟩, rfl⟩
    · have hlt0 : decide (x < (G.needs.length : Int)) = false := by have := hh.out; simp; omega
      have hi : i = G.needs.length := by have := hh.out; omega
      have ho := hh.out.2.2
      go_wp2
      go_ret
      refine ⟨?_, rfl⟩
      rw [ho, hi]
      rfl
end Go.Proofs.YtffhdofcfkgoaaaDoor.Core

/- graph.orders and CountOrders. -/
namespace Go.Proofs.YtffhdofcfkgoaaaDoor.Core
open Go Go.RowKit Go.Shelf Go.Proofs.YtffhdofcfkgoaaaDoorW.PrintWords Go.Proofs.YtffhdofcfkgoaaaDoorW.PrintLast Go.Proofs.YtffhdofcfkgoaaaDoorW.PrintMore Go.Proofs.YtffhdofcfkgoaaaDoor.P
attribute [local go_sem] Oper.semAt_some wide_fn wide_depth

/-- How many of the first n numbers a set lacks. -/
def zb : Nat → Nat → Nat
  | 0, _ => 0
  | n + 1, p => zb n p + (if p.testBit n then 0 else 1)
theorem or_bit (p i j : Nat) : (p ||| 2 ^ i).testBit j = (p.testBit j || decide (i = j)) := by rw [Nat.testBit_or, Nat.testBit_two_pow]
theorem zb_le (p i : Nat) : ∀ n, zb n (p ||| 2 ^ i) ≤ zb n p
  | 0 => Nat.le_refl _
  | n + 1 => by
    have := zb_le p i n
    simp only [zb, or_bit]
    by_cases h : i = n
    · subst h; cases p.testBit i <;> simp <;> omega
    · cases p.testBit n <;> simp [h] <;> omega
theorem zb_lt {p i : Nat} (hp : p.testBit i = false) : ∀ {n : Nat}, i < n → zb n (p ||| 2 ^ i) < zb n p
  | 0, h => by omega
  | n + 1, h => by
    simp only [zb, or_bit]
    by_cases hi : i = n
    · subst hi
      have := zb_le p i i
      simp [hp]
      omega
    · have := zb_lt hp (n := n) (by omega)
      cases p.testBit n <;> simp [hi] <;> omega
theorem zb_bound (p : Nat) : ∀ n, zb n p ≤ n
  | 0 => Nat.le_refl _
  | n + 1 => by
    have := zb_bound p n
    simp only [zb]
    split <;> omega
theorem readyTo_bit (N : List Nat) (d i : Nat) : ∀ n, (readyTo N d n).testBit i = true → i < n ∧ d.testBit i = false ∧ sub (N.getD i 0) d = 0
  | 0 => by simp [readyTo]
  | n + 1 => by
    intro h
    unfold readyTo at h
    split at h
    · rename_i hc
      rw [or_bit] at h
      by_cases hi : n = i
      · subst hi; exact ⟨by omega, hc⟩
      · have := readyTo_bit N d i n (by simpa [hi] using h)
        exact ⟨by omega, this.2⟩
    · have := readyTo_bit N d i n h
      exact ⟨by omega, this.2⟩
theorem readyTo_bit' (N : List Nat) (d i : Nat) : ∀ n, i < n → d.testBit i = false → sub (N.getD i 0) d = 0 → (readyTo N d n).testBit i = true
  | 0 => by intro h; omega
  | n + 1 => by
    intro h h1 h2
    unfold readyTo
    by_cases hi : n = i
    · subst hi
      rw [if_pos ⟨h1, h2⟩, or_bit]
      simp
    · have := readyTo_bit' N d i n (by omega) h1 h2
      split
      · rw [or_bit, this]; rfl
      · exact this
theorem mem_ready {G : GD} {d i : Nat} (h8 : G.needs.length ≤ 8) : i ∈ elemsN (G.ready d) ↔ i < G.needs.length ∧ d.testBit i = false ∧ sub (G.needs.getD i 0) d = 0 := by
  rw [mem_elemsN]
  constructor
  · intro h
    exact readyTo_bit _ _ _ _ h.2
  · intro h
    exact ⟨by omega, readyTo_bit' _ _ _ _ h.1 h.2.1 h.2.2⟩
/-- The number of orders of what is not placed. -/
def ordersF (G : GD) : Nat → Nat → Nat
  | 0, _ => 0
  | k + 1, p => if p = 2 ^ G.tasks.length - 1 then 1 else ((elemsN (G.ready p)).map fun i => ordersF G k (p ||| 2 ^ i)).sum
theorem sum_le {f : Nat → Nat} {b : Nat} (h : ∀ x, f x ≤ b) : ∀ l : List Nat, (l.map f).sum ≤ l.length * b
  | [] => by simp
  | x :: l => by
    have := sum_le h l
    have := h x
    simp only [List.map_cons, List.sum_cons, List.length_cons, Nat.add_mul, Nat.one_mul]
    omega
theorem elemsN_length (s : Nat) : (elemsN s).length ≤ 8 := by
  have := elems_length s
  rwa [elems, List.length_map] at this
theorem ordersF_le (G : GD) : ∀ k p, ordersF G k p ≤ 8 ^ k
  | 0, p => by simp [ordersF]
  | k + 1, p => by
    unfold ordersF
    split
    · exact Nat.one_le_pow _ _ (by omega)
    · refine Nat.le_trans (sum_le (ordersF_le G k <| p ||| 2 ^ ·) _) ?_
      rw [Nat.pow_succ, Nat.mul_comm]
      exact Nat.mul_le_mul_left _ (elemsN_length _)
theorem ready_lt (G : GD) (d : Nat) : G.ready d < 2 ^ G.needs.length := readyTo_lt _ _ _

set_option maxRecDepth 100000 in
set_option maxHeartbeats 8000000 in
theorem orders_calls (b : Nat) (G : GD) (ok : GOk G) : ∀ k, k ≤ 9 → ∀ (p : Nat) (w : World), p < 2 ^ G.tasks.length → zb G.tasks.length p < k → Tab w → IsG w b G →
    Calls Tryd.prog 48 #[.pointer (some ⟨b, 0, none⟩), .int .u16 (p : Int)] w fun e w' => e = .returned (.int .i64 ((ordersF G k p : Nat) : Int)) ∧ Below w.heap.size w w'
  | 0, _, _, _, _, h, _, _ => absurd h (by omega)
  | k + 1, hk9, p, w, hp, hz, hT, hg => by
    have ih := Lib.hid (orders_calls b G ok k (by omega))
    have hz' := Lib.hid hz
    clear hz
    have h8 := ok.n8
    have hnl := Aside0.mk ok.nl
    have h256 := pow8 h8
    have hp2 : p < 256 := Nat.lt_of_lt_of_le hp h256
    refine calls_marks Tryd.func48 rfl ?_
    simp only [Tryd.ntmps48, List.size_toArray, List.length_cons, List.length_nil, Nat.reduceAdd, Nat.reduceSub, Array.replicate_succ, Array.replicate_zero, List.push_toArray, List.append_toArray, List.nil_append, List.cons_append]
    go_wp2
    have hx0 := Boxed.new w 60 (.pointer (some ⟨b, 0, none⟩))
    have hB0 := (Below.refl w.heap.size w).alloc (Nat.le_refl _) (.cells #[.pointer (some ⟨b, 0, none⟩)] 60)
    have hs0 : (w.alloc (.cells #[.pointer (some ⟨b, 0, none⟩)] 60)).heap.size = w.heap.size + 1 := by simp
    revert hx0 hB0 hs0
    generalize w.alloc (.cells #[.pointer (some ⟨b, 0, none⟩)] 60) = w0
    intro hx0 hB0 hs0
    have hp0 := Boxed.new w0 65 (.int .u16 (p : Int))
    rw [hs0] at hp0
    have hx1 := hx0.alloc (.cells #[.int .u16 (p : Int)] 65)
    have hB1 := hB0.alloc (by omega) (.cells #[.int .u16 (p : Int)] 65)
    have hs1 : (w0.alloc (.cells #[.int .u16 (p : Int)] 65)).heap.size = w.heap.size + 1 + 1 := by simp [hs0]
    revert hp0 hx1 hB1 hs1
    generalize w0.alloc (.cells #[.int .u16 (p : Int)] 65) = w1
    intro hp0 hx1 hB1 hs1
    clear hx0 hB0 hs0
    refine wp_region_still_lit rfl (by kernel_rfl) ?_
    change wpStill _ _ w1.drew (fun a' => Exit.then _ _ .normal a' w1.drew) _ _
    have hB2 := below_drew hB1
    have hp2' : Boxed w1.drew (w.heap.size + 1) 65 (.int .u16 (p : Int)) := hp0
    have hx2' : Boxed w1.drew w.heap.size 60 (.pointer (some ⟨b, 0, none⟩)) := hx1
    have hs2 : w1.drew.heap.size = w.heap.size + 1 + 1 := hs1
    revert hB2 hp2' hx2' hs2
    generalize w1.drew = w2
    intro hB2 hp2' hx2' hs2
    clear hp0 hx1 hB1 hs1
    have hg2 := hg.move hB2
    have hcx := hx2'.cell
    have hcp := hp2'.cell
    have h1 := (size_calls b G w2 hg2).mono (R' := fun e w' => e = .returned (.int .i64 (G.tasks.length : Int)) ∧ w' = w2) (fun _ _ h => ⟨h.1, h.2.symm⟩)
    have h2 := (everything_calls G.tasks.length h8 w2).mono (R' := fun e w' => e = .returned (.int .u16 ((2 ^ G.tasks.length - 1 : Nat) : Int)) ∧ w' = w2) (fun _ _ h => ⟨h.1, h.2.symm⟩)
    have hord : ordersF G (k + 1) p = if p = 2 ^ G.tasks.length - 1 then 1 else ((elemsN (G.ready p)).map fun i => ordersF G k (p ||| 2 ^ i)).sum := rfl
    generalize hf : 2 ^ G.tasks.length - 1 = full at h2 hord
    have HO := Aside0.mk hord
    clear hord hf
    repeat still_step
    still_call h1
    still_call h2
    repeat still_step
    refine wpStill_nil ?_
    by_cases hfull : p = full
    · subst hfull
      go_wp2
      refine leave_ret (Marks.nil w.heap.size w.heap.size _) (fun W => results_tmp rfl _ _ _) ?_
      intro W' ht
      refine ⟨?_, ht.below hB2 (Nat.le_refl _) (Nat.le_refl _)⟩
      rw [show ordersF G (k + 1) p = 1 by rw [HO.out]; simp]
      rfl
    · have hne : ((p : Int) == (full : Int)) = false := beq_eq_false_iff_ne.2 (fun e => hfull (by omega))
      have HO2 := Aside0.mk (show ordersF G (k + 1) p = ((elemsN (G.ready p)).map fun i => ordersF G k (p ||| 2 ^ i)).sum by rw [HO.out, if_neg hfull])
      clear HO h1 h2 hcx hcp
      have hsm0 := Boxed.new w2 3 (.int .i64 0)
      rw [hs2] at hsm0
      have hp3 := hp2'.alloc (.cells #[.int .i64 0] 3)
      have hx3 := hx2'.alloc (.cells #[.int .i64 0] 3)
      have hB3 := hB2.alloc hB2.size (.cells #[.int .i64 0] 3)
      have hs3 : (w2.alloc (.cells #[.int .i64 0] 3)).heap.size = w.heap.size + 1 + 1 + 1 := by simp [hs2]
      have hg3 := hg.move hB3
      have hcp := hp3.cell
      have hcx := hx3.cell
      have hrc := ready_calls b G p _ hg3 ok hp2
      have hrl : G.ready p < 256 := Nat.lt_of_lt_of_le (ready_lt G p) (by rw [hnl.out]; exact h256)
      generalize hr_ : G.ready p = rd at hrc hrl
      go_wp2_with (first | (go_at_call 79; refine hrc.mono ?_; rintro e w' ⟨rfl, rfl⟩) | (go_at_call 77; refine (all_calls rd _).mono ?_; rintro e w' ⟨rfl, rfl⟩))
      clear hcp hcx hrc
      revert hsm0 hp3 hx3 hB3 hs3 hg3
      generalize w2.alloc (.cells #[.int .i64 0] 3) = w3
      intro hsm0 hp3 hx3 hB3 hs3 hg3
      have hst := Boxed.new w3 65 (.int .u16 (rd : Int))
      rw [hs3] at hst
      have hsm4 := hsm0.alloc (.cells #[.int .u16 (rd : Int)] 65)
      have hp4 := hp3.alloc (.cells #[.int .u16 (rd : Int)] 65)
      have hx4 := hx3.alloc (.cells #[.int .u16 (rd : Int)] 65)
      have hB4 := hB3.alloc hB3.size (.cells #[.int .u16 (rd : Int)] 65)
      have hs4 : (w3.alloc (.cells #[.int .u16 (rd : Int)] 65)).heap.size = w.heap.size + 1 + 1 + 1 + 1 := by simp [hs3]
      revert hst hsm4 hp4 hx4 hB4 hs4
      generalize w3.alloc (.cells #[.int .u16 (rd : Int)] 65) = w4
      intro hst hsm4 hp4 hx4 hB4 hs4
      clear hsm0 hp3 hx3 hB3 hs3 hg3 hp2' hx2' hB2 hs2
      have hle : w.heap.size ≤ w4.heap.size := hB4.size
      refine wp_rangeSet Tab.tame (w := w4) (w0 := w4) (p := 16) (d := 6) rfl (enters_of Tryd.func89 (by kernel_rfl) rfl)
        (all_seq (w.heap.size + 1 + 1 + 1) rd hrl w4 (hT.of hB4) hst.cell) (Below.refl _ _) (by simp)
        (fun ys W' => ∃ zs : List Nat, ys = up zs ∧ Boxed W' (w.heap.size + 1 + 1) 3 (.int .i64 (((zs.map fun i => ordersF G k (p ||| 2 ^ i)).sum : Nat) : Int)) ∧ Boxed W' w.heap.size 60 (.pointer (some ⟨b, 0, none⟩)) ∧ Boxed W' (w.heap.size + 1) 65 (.int .u16 (p : Int)) ∧ Below w.heap.size w W' ∧ w4.heap.size ≤ W'.heap.size) (fun _ _ _ => False)
        (ownFrom_tame (fun ys W' W'' ht ⟨zs, a, b, c, d, e, f⟩ => ⟨zs, a, ht.boxed b, ht.boxed c, ht.boxed d, ht.below e (Nat.le_refl _) hle, Nat.le_trans f ht.size⟩)) (fun _ => ownFrom_tame (fun _ _ _ _ h => h))
        ⟨[], rfl, hsm4, hx4, hp4, hB4, Nat.le_refl _⟩ (fun ys W' ⟨_, _, _, _, _, b, _⟩ => hT.of b) ?body ?done (fun _ _ _ _ _ h _ => h.elim)
      case body =>
        rintro l pre1 x W1 hx ⟨zs, rfl, hsm, hxb, hpb, hB, hsz⟩ hlt1
        gi_wp2
        obtain ⟨i, hxi, hi8, hib⟩ := mem_elems.1 hx
        have hib' := readyTo_bit G.needs p i G.needs.length (by rw [← hr_] at hib; exact hib)
        have hin : i < G.tasks.length := by have := hnl.out; omega
        have hzi := zb_lt hib'.2.1 hin
        have hpi : p ||| 2 ^ i < 2 ^ G.tasks.length := Nat.or_lt_two_pow hp (Nat.pow_lt_pow_right (by omega) hin)
        have hsum : (zs.map fun i => ordersF G k (p ||| 2 ^ i)).sum ≤ 16 * 8 ^ 9 := by
          refine Nat.le_trans (sum_le (fun i => ordersF_le G k (p ||| 2 ^ i)) zs) (Nat.mul_le_mul ?_ (Nat.pow_le_pow_right (by omega) (by omega)))
          rw [up_length] at hlt1
          omega
        have hone : ordersF G k (p ||| 2 ^ i) ≤ 8 ^ 9 := Nat.le_trans (ordersF_le G k _) (Nat.pow_le_pow_right (by omega) (by omega))
        have hrec : ∀ w', Tab w' → IsG w' b G → _ := fun w' => ih.out (p ||| 2 ^ i) w' hpi (by have := hz'.out; omega)
        have hnew : ((zs ++ [i]).map fun i => ordersF G k (p ||| 2 ^ i)).sum = (zs.map fun i => ordersF G k (p ||| 2 ^ i)).sum + ordersF G k (p ||| 2 ^ i) := by simp
        generalize (zs.map fun i => ordersF G k (p ||| 2 ^ i)).sum = sm at hsm hsum hnew
        generalize ordersF G k (p ||| 2 ^ i) = o1 at hone hrec hnew
        generalize hsm_ : ((sm : Nat) : Int) = smi at hsm
        have hwith := with_calls p i hp2 hi8
        rw [← hxi] at hwith
        generalize p ||| 2 ^ i = q at hwith hrec hpi
        generalize ho1_ : ((o1 : Nat) : Int) = o1i at hrec
        have HX := Aside0.mk (show x = (i : Int) ∧ (sm : Int) = smi ∧ (o1 : Int) = o1i from ⟨hxi, hsm_, ho1_⟩)
        clear hxi hsm_ ho1_ hx hzi hib hib'
        refine start_in (n := 8) (S := fun w' => w'.cell? ⟨w.heap.size + 1 + 1, 0, none⟩ = some (.int .i64 smi) ∧ w'.cell? ⟨w.heap.size, 0, none⟩ = some (.pointer (some ⟨b, 0, none⟩)) ∧ w'.cell? ⟨w.heap.size + 1, 0, none⟩ = some (.int .u16 (p : Int))) (ds := [7]) #[false, false, false, false, false, false, false, false] rfl (by kernel_rfl) (fun ⟨_, _, h⟩ => h) (by kernel_rfl) rfl ⟨hsm.cell, hxb.cell, hpb.cell⟩ (fun hHeld => ?_)
        have hdr : Below W1.heap.size W1 W1.drew := below_drew (Below.refl _ _)
        have hko := KeepsOthers.drew W1
        revert hdr hko hHeld
        generalize W1.drew = Wd
        intro hHeld hdr hko
        have hBd := below_step hB hdr
        have hTd := hT.of hBd
        have hgd := hg.move hBd
        refine take_ (i := 0) (N := some 17) (v := ?_) (a' := ?_) #[true, false, false, false, false, false, false, false] rfl rfl (by kernel_rfl) (fun _ _ _ h => h) (Or.inl ⟨by rfl, ?_⟩) hHeld ?_ ?_
        rotate_left
        · rintro w' ⟨s0, s1, s2⟩
          go_simp
          with_reducible rfl
        rotate_left
        · simp only [Act.put, List.setIfInBounds_toArray, List.set_cons_zero, List.set_cons_succ, i64_w, i32_w]
          rfl
        refine take_ (i := 1) (N := some 18) (v := ?_) (a' := ?_) #[true, true, false, false, false, false, false, false] rfl rfl (by kernel_rfl) (fun _ _ _ h => h) (Or.inl ⟨by rfl, ?_⟩) hHeld ?_ ?_
        rotate_left
        · rintro w' ⟨s0, s1, s2⟩
          go_simp
          with_reducible rfl
        rotate_left
        · simp only [Act.put, List.setIfInBounds_toArray, List.set_cons_zero, List.set_cons_succ, i64_w, i32_w]
          rfl
        refine take_ (i := 2) (N := some 19) (v := ?_) (a' := ?_) #[true, true, true, false, false, false, false, false] rfl rfl (by kernel_rfl) (fun _ _ _ h => h) (Or.inl ⟨by rfl, ?_⟩) hHeld ?_ ?_
        rotate_left
        · rintro w' ⟨s0, s1, s2⟩
          go_simp
          with_reducible rfl
        rotate_left
        · simp only [Act.put, List.setIfInBounds_toArray, List.set_cons_zero, List.set_cons_succ, i64_w, i32_w]
          rfl
        refine pure_ (i := 3) (N := some 20) (v := ?_) (a' := ?_) #[true, true, true, true, false, false, false, false] rfl rfl (by kernel_rfl) (fun _ _ _ h => h) (Or.inl ⟨by rfl, ?_⟩) ?_ ?_
        rotate_left
        · intro w'
          go_simp
          with_reducible rfl
        rotate_left
        · simp only [Act.put, List.setIfInBounds_toArray, List.set_cons_zero, List.set_cons_succ, i64_w, i32_w]
          rfl
        refine one_ (i := 4) (N := some 21) #[true, true, true, true, true, false, false, false] rfl rfl (by kernel_rfl) (by decide) (fun K hK => ?_)
        refine goes_ Tryd.func78 (by kernel_rfl) rfl #[.int .u16 (p : Int), .int .i64 x] (by rfl) rfl rfl (by (try simp only [List.map_toArray, List.map_cons, List.map_nil]); rfl) ?_
        refine (hwith Wd).mono ?_
        rintro e w' ⟨rfl, rfl⟩
        refine ⟨_, rfl, ?_⟩
        refine hK.out _ _ hHeld (fun _ => ?_)
        clear hK K
        refine norm_ (a' := ?_) ?_ ?_
        rotate_left
        · show Act.put _ (some 21) _ = _
          simp only [Act.put, List.setIfInBounds_toArray, List.set_cons_zero, List.set_cons_succ, i64_w, i32_w]
          rfl
        refine one_ (i := 5) (N := some 22) #[true, true, true, true, true, true, false, false] rfl rfl (by kernel_rfl) (by decide) (fun K hK => ?_)
        refine goes_ Tryd.func48 (by kernel_rfl) rfl #[.pointer (some ⟨b, 0, none⟩), .int .u16 (q : Int)] (by rfl) rfl rfl (by (try simp only [List.map_toArray, List.map_cons, List.map_nil]); rfl) ?_
        refine (hrec Wd hTd hgd).mono ?_
        rintro e w5 ⟨rfl, hb5⟩
        refine ⟨_, rfl, ?_⟩
        have hHeld5 : w5.cell? ⟨w.heap.size + 1 + 1, 0, none⟩ = some (.int .i64 smi) ∧ w5.cell? ⟨w.heap.size, 0, none⟩ = some (.pointer (some ⟨b, 0, none⟩)) ∧ w5.cell? ⟨w.heap.size + 1, 0, none⟩ = some (.int .u16 (p : Int)) := ⟨(hb5.cell (World.block_lt_of_cell? _ _ hHeld.1)).trans hHeld.1, (hb5.cell (World.block_lt_of_cell? _ _ hHeld.2.1)).trans hHeld.2.1, (hb5.cell (World.block_lt_of_cell? _ _ hHeld.2.2)).trans hHeld.2.2⟩
        refine hK.out _ _ hHeld5 (fun _ => ?_)
        clear hK K
        refine norm_ (a' := ?_) ?_ ?_
        rotate_left
        · show Act.put _ (some 22) _ = _
          simp only [Act.put, List.setIfInBounds_toArray, List.set_cons_zero, List.set_cons_succ, i64_w, i32_w]
          rfl
        refine pure_ (i := 6) (N := some 23) (v := ?_) (a' := ?_) #[true, true, true, true, true, true, true, false] rfl rfl (by kernel_rfl) (fun _ _ _ h => h) (Or.inl ⟨by rfl, ?_⟩) ?_ ?_
        rotate_left
        · intro w'
          go_simp
          with_reducible rfl
        rotate_left
        · simp only [Act.put, List.setIfInBounds_toArray, List.set_cons_zero, List.set_cons_succ, i64_w, i32_w]
          rfl
        have hsm5 : Boxed w5 (w.heap.size + 1 + 1) 3 (.int .i64 smi) := (hb5.block _ (Nat.lt_of_lt_of_le hsm.lt hdr.size)).trans ((hdr.block _ hsm.lt).trans hsm)
        have hxb5 : Boxed w5 w.heap.size 60 (.pointer (some ⟨b, 0, none⟩)) := (hb5.block _ (Nat.lt_of_lt_of_le hxb.lt hdr.size)).trans ((hdr.block _ hxb.lt).trans hxb)
        have hpb5 : Boxed w5 (w.heap.size + 1) 65 (.int .u16 (p : Int)) := (hb5.block _ (Nat.lt_of_lt_of_le hpb.lt hdr.size)).trans ((hdr.block _ hpb.lt).trans hpb)
        have hc5 := hsm5.cell
        have hf5 := hsm5.frozen
        refine last_ (i := 7) (N := none) #[true, true, true, true, true, true, true, true] rfl rfl (by kernel_rfl) (by decide) (fun K hK => ?_)
        refine skip_ (w1 := ?_) (by rfl) rfl ?_ ?_
        rotate_left
        · go_simp
          rfl
        refine hK.out _ _ ?_
        clear hK K
        refine done_ (by kernel_rfl) ?_
        have hg5 := grownBy_setCell' w5 (w.heap.size + 1 + 1) (.int .i64 (wrap64 (smi + o1i)))
        refine ⟨?_, zs ++ [i], ?_, ?_, ?_, ?_, ?_, ?_⟩
        · exact (hko.trans ((keepsOthers_below hb5).trans (KeepsOthers.setCell _ _ _))).from _
        · rw [HX.out.1]; simp [up]
        · rw [hnew, show ((sm + o1 : Nat) : Int) = wrap64 (smi + o1i) by have := HX.out; unfold wrap64; omega]
          exact hsm5.set _
        · exact hxb5.kept hg5 (fun e => by injection e with e; omega)
        · exact hpb5.kept hg5 (fun e => by injection e with e; omega)
        · exact below_put hg5 (below_step hBd hb5) (Nat.le_refl _) (by omega)
        · have h1 := hg5.size; have h2 := hb5.size; have h3 := hdr.size; omega
      case done =>
        rintro D W hD ⟨zs, hzs, hsm, hxb, hpb, hB, hsz⟩ hk
        obtain rfl : elemsN rd = zs := up_inj hzs
        have hm := (Marks.nil w.heap.size w4.heap.size W).cons hD (by omega) hk
        rw [show ((elemsN rd).map fun i => ordersF G k (p ||| 2 ^ i)).sum = ordersF G (k + 1) p by rw [HO2.out, hr_]] at hsm
        have hcs := hsm.cell
        clear hzs hk hst hsm4 hp4 hx4 hB4 hs4 hr_
        go_wp2
        refine leave_ret hm (fun W => results_tmp rfl _ _ _) ?_
        intro W' ht
        exact ⟨rfl, ht.below hB (Nat.le_refl _) (Nat.le_refl _)⟩
end Go.Proofs.YtffhdofcfkgoaaaDoor.Core
