/- The law FnRunsTogetherUnits holds of the given program: part 5: words and contracts that the proof uses. -/
import Derived.Test.YtffhdofcfkgoaaaDoorZFnRunsTogetherUnits4
section
set_option linter.unusedVariables false
set_option linter.unusedSimpArgs false
namespace Go.Proofs.YtffhdofcfkgoaaaDoor.Core
open Go Go.RowKit Go.Shelf Go.Proofs.YtffhdofcfkgoaaaDoorW.PrintWords Go.Proofs.YtffhdofcfkgoaaaDoorW.PrintLast Go.Proofs.YtffhdofcfkgoaaaDoorW.PrintMore Go.Proofs.YtffhdofcfkgoaaaDoor.P
attribute [local go_sem] Oper.semAt_some wide_fn wide_depth
/-- The answer that some number of rounds gives. -/
noncomputable def lim {α : Type} (f : Nat → Option α) : Option α := open Classical in if h : ∃ k r, f k = some r then some h.choose_spec.choose else none
theorem lim_some {α : Type} {f : Nat → Option α} {r : α} (h : lim f = some r) : ∃ k, f k = some r := by
  unfold lim at h
  by_cases hh : ∃ k r, f k = some r
  · rw [dif_pos hh] at h
    cases h
    exact ⟨_, hh.choose_spec.choose_spec⟩
  · rw [dif_neg hh] at h; cases h
theorem lim_of {α : Type} {f : Nat → Option α} (hm : ∀ k, LeO (f k) (f (k + 1))) {k : Nat} {r : α} (h : f k = some r) : lim f = some r := by
  have hh : ∃ k r, f k = some r := ⟨k, r, h⟩
  have h2 := hh.choose_spec.choose_spec
  unfold lim
  rw [dif_pos hh]
  rcases Nat.le_total k hh.choose with hle | hle
  · have := at_rounds hm hle h
    rw [h2] at this; exact this
  · have := at_rounds hm hle h2
    rw [h] at this; exact this.symm
theorem mkQ (w : World) (base : Nat) (ok : Nat → Prop) (x : Tk) {v1 : Value} (g1 : (Kd.int .i64).Q 3 w base ok v1 x.f1) : k33.M w base ok x [.int .i64 x.f0, v1, .int .i64 x.f2, .int .i64 x.f3] :=
  ⟨[.int .i64 x.f0], [v1, .int .i64 x.f2, .int .i64 x.f3], rfl, rfl, ⟨[v1], [.int .i64 x.f2, .int .i64 x.f3], rfl, ⟨v1, rfl, g1⟩, ⟨[.int .i64 x.f2], [.int .i64 x.f3], rfl, rfl, rfl⟩⟩⟩
theorem S_put0 {W : World} {base gb n cap : Nat} {ok : Nat → Prop} {xs : List Tk} (h : Kd.S k33 33 W base ok (.slice (some ⟨gb, 0, none⟩) n cap) xs) (i : Int) (h0 : 0 ≤ i) (h1 : i < n) :
    (∃ u, W.cell? ⟨gb, i.toNat * 4, none⟩ = some (.int .i64 u)) ∧ W.frozen? ⟨gb, i.toNat * 4, none⟩ = false ∧ ∀ t : Int,
      Kd.S k33 33 (W.setCell ⟨gb, i.toNat * 4, none⟩ (.int .i64 t)) base ok (.slice (some ⟨gb, 0, none⟩) n cap) (xs.set i.toNat { rd_T33 xs i with f0 := t }) ∧ W.grownBy (W.setCell ⟨gb, i.toNat * 4, none⟩ (.int .i64 t)) (some gb) := by
  obtain ⟨oki, c, hcl, hM, hcc, hfr, hoki, hH⟩ := Kd.S_elem (Kd.S_mono (ok' := fun k => ok k ∧ ¬ False) h (fun k hk => ⟨hk, id⟩)) z33 i h0 h1
  obtain ⟨v1, rfl, g1⟩ := k33_openM hM
  refine ⟨⟨_, hcc 0 _ rfl⟩, hfr 0, fun t => ?_⟩
  exact Kd.S_seg (okg := fun _ => False) hH h0 h1 (seg := [.int .i64 t]) (j := 0) (show 0 + 1 ≤ 4 from by decide) (x' := { rd_T33 xs i with f0 := t }) (mkQ _ _ _ { rd_T33 xs i with f0 := t } g1) (fun k hk => .inl hk) (fun k hk => hk.elim)
theorem S_put2 {W : World} {base gb n cap : Nat} {ok : Nat → Prop} {xs : List Tk} (h : Kd.S k33 33 W base ok (.slice (some ⟨gb, 0, none⟩) n cap) xs) (i : Int) (h0 : 0 ≤ i) (h1 : i < n) :
    (∃ u, W.cell? ⟨gb, i.toNat * 4 + 2, none⟩ = some (.int .i64 u)) ∧ W.frozen? ⟨gb, i.toNat * 4 + 2, none⟩ = false ∧ ∀ t : Int,
      Kd.S k33 33 (W.setCell ⟨gb, i.toNat * 4 + 2, none⟩ (.int .i64 t)) base ok (.slice (some ⟨gb, 0, none⟩) n cap) (xs.set i.toNat { rd_T33 xs i with f2 := t }) ∧ W.grownBy (W.setCell ⟨gb, i.toNat * 4 + 2, none⟩ (.int .i64 t)) (some gb) := by
  obtain ⟨oki, c, hcl, hM, hcc, hfr, hoki, hH⟩ := Kd.S_elem (Kd.S_mono (ok' := fun k => ok k ∧ ¬ False) h (fun k hk => ⟨hk, id⟩)) z33 i h0 h1
  obtain ⟨v1, rfl, g1⟩ := k33_openM hM
  refine ⟨⟨_, hcc 2 _ rfl⟩, hfr 2, fun t => ?_⟩
  exact Kd.S_seg (okg := fun _ => False) hH h0 h1 (seg := [.int .i64 t]) (j := 2) (show 2 + 1 ≤ 4 from by decide) (x' := { rd_T33 xs i with f2 := t }) (mkQ _ _ _ { rd_T33 xs i with f2 := t } g1) (fun k hk => .inl hk) (fun k hk => hk.elim)
theorem S_put3 {W : World} {base gb n cap : Nat} {ok : Nat → Prop} {xs : List Tk} (h : Kd.S k33 33 W base ok (.slice (some ⟨gb, 0, none⟩) n cap) xs) (i : Int) (h0 : 0 ≤ i) (h1 : i < n) :
    (∃ u, W.cell? ⟨gb, i.toNat * 4 + 3, none⟩ = some (.int .i64 u)) ∧ W.frozen? ⟨gb, i.toNat * 4 + 3, none⟩ = false ∧ ∀ t : Int,
      Kd.S k33 33 (W.setCell ⟨gb, i.toNat * 4 + 3, none⟩ (.int .i64 t)) base ok (.slice (some ⟨gb, 0, none⟩) n cap) (xs.set i.toNat { rd_T33 xs i with f3 := t }) ∧ W.grownBy (W.setCell ⟨gb, i.toNat * 4 + 3, none⟩ (.int .i64 t)) (some gb) := by
  obtain ⟨oki, c, hcl, hM, hcc, hfr, hoki, hH⟩ := Kd.S_elem (Kd.S_mono (ok' := fun k => ok k ∧ ¬ False) h (fun k hk => ⟨hk, id⟩)) z33 i h0 h1
  obtain ⟨v1, rfl, g1⟩ := k33_openM hM
  refine ⟨⟨_, hcc 3 _ rfl⟩, hfr 3, fun t => ?_⟩
  exact Kd.S_seg (okg := fun _ => False) hH h0 h1 (seg := [.int .i64 t]) (j := 3) (show 3 + 1 ≤ 4 from by decide) (x' := { rd_T33 xs i with f3 := t }) (mkQ _ _ _ { rd_T33 xs i with f3 := t } g1) (fun k hk => .inl hk) (fun k hk => hk.elim)
def spec_anyGraph.fk (k : Nat) (s0 : List Int) (s1 : Int) : Option (List Tk × Int) :=
  (spec_someGraph.f k s0 s1 8).bind fun a =>
  if a.1.length = 0 then some (a.1, a.2) else
  (spec_reader_pick.f k s0 a.2 (a.1.length : Int)).bind fun p =>
  (spec_reader_pick.f k s0 p.2 24).bind fun q =>
  if ¬ (0 ≤ p.1 ∧ p.1 < (a.1.length : Int)) then none else
  if q.1 = 0 then (spec_reader_one.f k s0 q.2 [0, 21, 20]).bind fun t => some (a.1.set p.1.toNat { rd_T33 a.1 p.1 with f0 := t.1 }, t.2)
  else if q.1 = 1 then (spec_reader_pick.f k s0 q.2 (a.1.length : Int)).bind fun b =>
    if (rd_T33 a.1 p.1).f1.length < 1000 then (spec_reader_spoil.f k s0 b.2 ((rd_T33 a.1 p.1).f1 ++ [b.1]) 8).bind fun c => some (a.1.set p.1.toNat { rd_T33 a.1 p.1 with f1 := c.1 }, c.2) else none
  else if q.1 = 2 then (spec_reader_one.f k s0 q.2 [-1, 3]).bind fun t => some (a.1.set p.1.toNat { rd_T33 a.1 p.1 with f2 := t.1 }, t.2)
  else if q.1 = 3 then (spec_reader_one.f k s0 q.2 [0, 5]).bind fun t => some (a.1.set p.1.toNat { rd_T33 a.1 p.1 with f3 := t.1 }, t.2)
  else if q.1 = 4 then (spec_someGraph.f k s0 q.2 8).bind fun b => if a.1.length + b.1.length < 1000 then some (a.1 ++ b.1, b.2) else none
  else some (a.1, q.2)
theorem spec_anyGraph.mono : ∀ a0 a1 k, LeO (spec_anyGraph.fk k a0 a1) (spec_anyGraph.fk (k + 1) a0 a1) := by
  intro a0 a1 k
  unfold spec_anyGraph.fk
  repeat' first
      | (with_reducible exact spec_someGraph.mono _ _ _ _)
      | (with_reducible exact spec_reader_pick.mono _ _ _ _)
      | (with_reducible exact spec_reader_one.mono _ _ _ _)
      | (with_reducible exact spec_reader_spoil.mono _ _ _ _ _)
      | (with_reducible exact LeO.refl _)
      | (with_reducible exact LeO.none _)
      | (with_reducible refine LeO.ite ?_ ?_)
      | (with_reducible refine LeO.bind ?_ (fun _ => ?_))
      | exact LeO.none _
      | refine LeO.ite ?_ ?_
      | refine LeO.bind ?_ (fun _ => ?_)
/-- What anyGraph leaves. -/
def anyPost (w0 w : World) (g : Nat) (s0 : List Int) (r1 : List Tk) (r2 : Int) (e : Ending) (w' : World) : Prop :=
  ∃ v0_ : Value, e = .returned (v0_) ∧ Kd.S k33 33 w' w.heap.size (fun _ => True) v0_ r1 ∧ IsS98 w0 w' g s0 r2 ∧ Below w0.heap.size w0 w' ∧ KeepBut w w' g none
theorem R_lits {w : World} {b base t : Nat} {l : List Int} (h : w.heap[b]? = some (.cells (l.map (Value.int .i64)).toArray t (0, 0))) (hb : base ≤ b) (hl : l.length ≤ maxLen) : (Kd.int .i64).R t w base (fun _ => True) (.slice (some ⟨b, 0, none⟩) l.length l.length) l :=
  row_R (k := .i64) ⟨by simp, .inr ⟨b, l.length, _, rfl, hb, h, Nat.le_refl _, hl, by simp, by simp [List.take_of_length_le]⟩⟩
theorem C_lits {w : World} {b t : Nat} {l : List Int} (h : w.heap[b]? = some (.cells (l.map (Value.int .i64)).toArray t (0, 0))) (hl : l.length ≤ maxLen) : (Kd.int .i64).C w (some ⟨b, 0, none⟩) l.length l :=
  (Kd.R_reads' (R_lits (base := 0) h (Nat.zero_le _) hl)).2.2
set_option maxRecDepth 100000 in
set_option maxHeartbeats 4000000 in
theorem any_empty (k g : Nat) (s0 : List Int) (s1 : Int) (w0 w : World) (hI : IsS98 w0 w g s0 s1) (hB : Below w0.heap.size w0 w) (a2 : Int) (h1 : spec_someGraph.f k s0 s1 8 = some ([], a2)) : Calls Tryd.prog 60 #[.pointer (some ⟨g, 0, none⟩)] w (anyPost w0 w g s0  [] a2) := by
  have A1 := Aside0.mk h1
  clear h1
  obtain ⟨a, ha⟩ : ∃ a : List Tk, a = [] := ⟨_, rfl⟩
  rw [← ha] at A1
  have hlen : (a.length : Int) = 0 := by rw [ha]; rfl
  have HA := Aside0.mk ha
  clear ha
  have hz : ((a.length : Int) == 0) = true := by simp [hlen]
  have HL := Aside0.mk hlen
  clear hlen
  go_enter Tryd.func60, Tryd.ntmps60
  go_wp2_with (go_at_call 81; refine (spec_someGraph.calls k g s0 s1 8 a a2 w0 _ hI hB A1.out).mono ?_; rintro e w1 ⟨v1, rfl, hS1, hI1, hB1, hK1⟩; clear hI hB; obtain ⟨A, c, rfl⟩ := Kd.S_slice hS1)
  go_ret
  exact ⟨_, rfl, by rw [← HA.out]; exact hS1, hI1, hB1, hK1⟩
set_option maxRecDepth 100000 in
set_option maxHeartbeats 4000000 in
theorem any_same (k g : Nat) (s0 : List Int) (s1 : Int) (w0 w : World) (hI : IsS98 w0 w g s0 s1) (hB : Below w0.heap.size w0 w) (a : List Tk) (a2 p p2 q q2 : Int) (hpos : 0 < a.length) (hp0 : 0 ≤ p) (hp1 : p < (a.length : Int)) (h1 : spec_someGraph.f k s0 s1 8 = some (a, a2)) (h2 : spec_reader_pick.f k s0 a2 (a.length : Int) = some (p, p2)) (h3 : spec_reader_pick.f k s0 p2 24 = some (q, q2)) (hq : q ≠ 0 ∧ q ≠ 1 ∧ q ≠ 2 ∧ q ≠ 3 ∧ q ≠ 4) : Calls Tryd.prog 60 #[.pointer (some ⟨g, 0, none⟩)] w (anyPost w0 w g s0  a q2) := by
  have A1 := Aside0.mk h1
  have A2 := Aside0.mk h2
  have A3 := Aside0.mk h3
  clear h1 h2 h3
  have hz : ((a.length : Int) == 0) = false := beq_eq_false_iff_ne.2 (by omega)
  have hglt : g < w.heap.size := hI.lt
  have hq0 : (q == 0) = false := beq_eq_false_iff_ne.2 (by omega)
  have hq1 : (q == 1) = false := beq_eq_false_iff_ne.2 (by omega)
  have hq2 : (q == 2) = false := beq_eq_false_iff_ne.2 (by omega)
  have hq3 : (q == 3) = false := beq_eq_false_iff_ne.2 (by omega)
  have hq4 : (q == 4) = false := beq_eq_false_iff_ne.2 (by omega)
  go_enter Tryd.func60, Tryd.ntmps60
  go_wp2_with (first | (go_at_call 81; refine (spec_someGraph.calls k g s0 s1 8 a a2 w0 _ hI hB A1.out).mono ?_; rintro e w1 ⟨v1, rfl, hS1, hI1, hB1, hK1⟩; clear hI hB; obtain ⟨gb, cap, rfl, hgb, hgl, cells, hcells⟩ := Kd.S_form hS1 hpos) | (go_at_call 80; refine (spec_reader_pick.calls k g s0 a2 (a.length : Int) p p2 w0 _ hI1 hB1 A2.out).mono ?_; rintro e w2 ⟨rfl, hI2, hB2, hK2⟩; clear hI1 hB1) | (go_at_call 80; refine (spec_reader_pick.calls k g s0 p2 24 q q2 w0 _ hI2 hB2 A3.out).mono ?_; rintro e w3 ⟨rfl, hI3, hB3, hK3⟩; clear hI2 hB2))
  have hS3 : Kd.S k33 33 w3 w.heap.size (fun k => k ≠ g) (.slice (some ⟨gb, 0, none⟩) a.length cap) a := Kd.S_keep (Kd.S_keep (Kd.S_mono (Kd.S_bound hS1) (fun k hk => Nat.ne_of_gt (Nat.lt_of_lt_of_le hglt hk.2.1))) hK2 (fun k hk => hk)) hK3 (fun k hk => hk)
  have hK4 := (hK1.trans hK2 (.inl rfl)).trans hK3 (.inl rfl)
  clear hS1 hK1 hK2 hK3
  go_ret
  exact ⟨_, rfl, Kd.S_mono hS3 (fun _ _ => trivial), hI3, hB3, hK4⟩
set_option maxRecDepth 100000 in
set_option maxHeartbeats 4000000 in
theorem any_case0 (k g : Nat) (s0 : List Int) (s1 : Int) (w0 w : World) (hI : IsS98 w0 w g s0 s1) (hB : Below w0.heap.size w0 w) (a : List Tk) (a2 p p2 q q2 : Int) (hpos : 0 < a.length) (hp0 : 0 ≤ p) (hp1 : p < (a.length : Int)) (h1 : spec_someGraph.f k s0 s1 8 = some (a, a2)) (h2 : spec_reader_pick.f k s0 a2 (a.length : Int) = some (p, p2)) (h3 : spec_reader_pick.f k s0 p2 24 = some (q, q2)) (hq : q = 0) (t t2 : Int) (h4 : spec_reader_one.f k s0 q2 [0, 21, 20] = some (t, t2)) : Calls Tryd.prog 60 #[.pointer (some ⟨g, 0, none⟩)] w (anyPost w0 w g s0  (a.set p.toNat { rd_T33 a p with f0 := t }) t2) := by
  have A1 := Aside0.mk h1
  have A2 := Aside0.mk h2
  have A3 := Aside0.mk h3
  clear h1 h2 h3
  have hz : ((a.length : Int) == 0) = false := beq_eq_false_iff_ne.2 (by omega)
  have hglt : g < w.heap.size := hI.lt
  have A4 := Aside0.mk h4
  clear h4
  have hq0 : (q == 0) = true := by simp [hq]
  have hp0' := eq_true hp0
  have hp1' := eq_true hp1
  go_enter Tryd.func60, Tryd.ntmps60
  go_wp2_with (first | (go_at_call 81; refine (spec_someGraph.calls k g s0 s1 8 a a2 w0 _ hI hB A1.out).mono ?_; rintro e w1 ⟨v1, rfl, hS1, hI1, hB1, hK1⟩; clear hI hB; obtain ⟨gb, cap, rfl, hgb, hgl, cells, hcells⟩ := Kd.S_form hS1 hpos) | (go_at_call 80; refine (spec_reader_pick.calls k g s0 a2 (a.length : Int) p p2 w0 _ hI1 hB1 A2.out).mono ?_; rintro e w2 ⟨rfl, hI2, hB2, hK2⟩; clear hI1 hB1) | (go_at_call 80; refine (spec_reader_pick.calls k g s0 p2 24 q q2 w0 _ hI2 hB2 A3.out).mono ?_; rintro e w3 ⟨rfl, hI3, hB3, hK3⟩; clear hI2 hB2) | (go_at_call 85; have hS3 : Kd.S k33 33 w3 w.heap.size (fun k => k ≠ g) (.slice (some ⟨gb, 0, none⟩) a.length cap) a := Kd.S_keep (Kd.S_keep (Kd.S_mono (Kd.S_bound hS1) (fun k hk => Nat.ne_of_gt (Nat.lt_of_lt_of_le hglt hk.2.1))) hK2 (fun k hk => hk)) hK3 (fun k hk => hk); have hK4 := (hK1.trans hK2 (.inl rfl)).trans hK3 (.inl rfl); clear hS1 hK1 hK2 hK3; have hN4 := cells_new w3 (.cells #[.int .i64 0, .int .i64 21, .int .i64 20] 3); have hI4 := hI3.alloc (.cells #[.int .i64 0, .int .i64 21, .int .i64 20] 3); have hB4 := hB3.alloc hB3.size (.cells #[.int .i64 0, .int .i64 21, .int .i64 20] 3); have hS4 := Kd.S_alloc hS3 (.cells #[.int .i64 0, .int .i64 21, .int .i64 20] 3); have hK5 := keep_alloc hK4 (.cells #[.int .i64 0, .int .i64 21, .int .i64 20] 3); have hsz := hI3.lt; refine (spec_reader_one.calls k g s0 q2 _ _ [0, 21, 20] t t2 w0 _ hI4 hB4 (C_lits (l := [0, 21, 20]) hN4 (by decide)) (by decide) (fun ad e _ => by cases e; show w3.heap.size ≠ g; omega) A4.out).mono ?_; rintro e w5 ⟨rfl, hI5, hB5, hK6⟩; have hS5 := Kd.S_keep hS4 hK6 (fun k hk => hk); obtain ⟨⟨u, hcu⟩, hfu, hput⟩ := S_put0 hS5 p hp0 hp1; have hK7 := hK5.trans hK6 (.inl rfl); have HPUT := Aside0.mk hput; have hI6 := Aside0.mk hI5; clear hS4 hS3 hI3 hB3 hK4 hI4 hB4 hN4 hK5 hK6 hput hI5))
  go_ret
  obtain ⟨hS6, hg6⟩ := HPUT.out t
  exact ⟨_, rfl, Kd.S_mono hS6 (fun _ _ => trivial), hI6.out.grown hg6 (fun e => by injection e with e; omega), below_put hg6 hB5 (Nat.le_refl _) (by have := hI6.out.ge; omega), hK7.trans (KeepBut.of_grown hg6 g) (.inr ⟨gb, rfl, hgb⟩)⟩
set_option maxRecDepth 100000 in
set_option maxHeartbeats 4000000 in
theorem any_case2 (k g : Nat) (s0 : List Int) (s1 : Int) (w0 w : World) (hI : IsS98 w0 w g s0 s1) (hB : Below w0.heap.size w0 w) (a : List Tk) (a2 p p2 q q2 : Int) (hpos : 0 < a.length) (hp0 : 0 ≤ p) (hp1 : p < (a.length : Int)) (h1 : spec_someGraph.f k s0 s1 8 = some (a, a2)) (h2 : spec_reader_pick.f k s0 a2 (a.length : Int) = some (p, p2)) (h3 : spec_reader_pick.f k s0 p2 24 = some (q, q2)) (hq : q = 2) (t t2 : Int) (h4 : spec_reader_one.f k s0 q2 [-1, 3] = some (t, t2)) : Calls Tryd.prog 60 #[.pointer (some ⟨g, 0, none⟩)] w (anyPost w0 w g s0  (a.set p.toNat { rd_T33 a p with f2 := t }) t2) := by
  have A1 := Aside0.mk h1
  have A2 := Aside0.mk h2
  have A3 := Aside0.mk h3
  clear h1 h2 h3
  have hz : ((a.length : Int) == 0) = false := beq_eq_false_iff_ne.2 (by omega)
  have hglt : g < w.heap.size := hI.lt
  have A4 := Aside0.mk h4
  clear h4
  have hq0 : (q == 0) = false := beq_eq_false_iff_ne.2 (by omega)
  have hq1 : (q == 1) = false := beq_eq_false_iff_ne.2 (by omega)
  have hq2 : (q == 2) = true := by simp [hq]
  have hp0' := eq_true hp0
  have hp1' := eq_true hp1
  go_enter Tryd.func60, Tryd.ntmps60
  go_wp2_with (first | (go_at_call 81; refine (spec_someGraph.calls k g s0 s1 8 a a2 w0 _ hI hB A1.out).mono ?_; rintro e w1 ⟨v1, rfl, hS1, hI1, hB1, hK1⟩; clear hI hB; obtain ⟨gb, cap, rfl, hgb, hgl, cells, hcells⟩ := Kd.S_form hS1 hpos) | (go_at_call 80; refine (spec_reader_pick.calls k g s0 a2 (a.length : Int) p p2 w0 _ hI1 hB1 A2.out).mono ?_; rintro e w2 ⟨rfl, hI2, hB2, hK2⟩; clear hI1 hB1) | (go_at_call 80; refine (spec_reader_pick.calls k g s0 p2 24 q q2 w0 _ hI2 hB2 A3.out).mono ?_; rintro e w3 ⟨rfl, hI3, hB3, hK3⟩; clear hI2 hB2) | (go_at_call 85; have hS3 : Kd.S k33 33 w3 w.heap.size (fun k => k ≠ g) (.slice (some ⟨gb, 0, none⟩) a.length cap) a := Kd.S_keep (Kd.S_keep (Kd.S_mono (Kd.S_bound hS1) (fun k hk => Nat.ne_of_gt (Nat.lt_of_lt_of_le hglt hk.2.1))) hK2 (fun k hk => hk)) hK3 (fun k hk => hk); have hK4 := (hK1.trans hK2 (.inl rfl)).trans hK3 (.inl rfl); clear hS1 hK1 hK2 hK3; have hN4 := cells_new w3 (.cells #[.int .i64 (-1), .int .i64 3] 3); have hI4 := hI3.alloc (.cells #[.int .i64 (-1), .int .i64 3] 3); have hB4 := hB3.alloc hB3.size (.cells #[.int .i64 (-1), .int .i64 3] 3); have hS4 := Kd.S_alloc hS3 (.cells #[.int .i64 (-1), .int .i64 3] 3); have hK5 := keep_alloc hK4 (.cells #[.int .i64 (-1), .int .i64 3] 3); have hsz := hI3.lt; refine (spec_reader_one.calls k g s0 q2 _ _ [-1, 3] t t2 w0 _ hI4 hB4 (C_lits (l := [-1, 3]) hN4 (by decide)) (by decide) (fun ad e _ => by cases e; show w3.heap.size ≠ g; omega) A4.out).mono ?_; rintro e w5 ⟨rfl, hI5, hB5, hK6⟩; have hS5 := Kd.S_keep hS4 hK6 (fun k hk => hk); obtain ⟨⟨u, hcu⟩, hfu, hput⟩ := S_put2 hS5 p hp0 hp1; have hK7 := hK5.trans hK6 (.inl rfl); have HPUT := Aside0.mk hput; have hI6 := Aside0.mk hI5; clear hS4 hS3 hI3 hB3 hK4 hI4 hB4 hN4 hK5 hK6 hput hI5))
  go_ret
  obtain ⟨hS6, hg6⟩ := HPUT.out t
  exact ⟨_, rfl, Kd.S_mono hS6 (fun _ _ => trivial), hI6.out.grown hg6 (fun e => by injection e with e; omega), below_put hg6 hB5 (Nat.le_refl _) (by have := hI6.out.ge; omega), hK7.trans (KeepBut.of_grown hg6 g) (.inr ⟨gb, rfl, hgb⟩)⟩
set_option maxRecDepth 100000 in
set_option maxHeartbeats 4000000 in
theorem any_case3 (k g : Nat) (s0 : List Int) (s1 : Int) (w0 w : World) (hI : IsS98 w0 w g s0 s1) (hB : Below w0.heap.size w0 w) (a : List Tk) (a2 p p2 q q2 : Int) (hpos : 0 < a.length) (hp0 : 0 ≤ p) (hp1 : p < (a.length : Int)) (h1 : spec_someGraph.f k s0 s1 8 = some (a, a2)) (h2 : spec_reader_pick.f k s0 a2 (a.length : Int) = some (p, p2)) (h3 : spec_reader_pick.f k s0 p2 24 = some (q, q2)) (hq : q = 3) (t t2 : Int) (h4 : spec_reader_one.f k s0 q2 [0, 5] = some (t, t2)) : Calls Tryd.prog 60 #[.pointer (some ⟨g, 0, none⟩)] w (anyPost w0 w g s0  (a.set p.toNat { rd_T33 a p with f3 := t }) t2) := by
  have A1 := Aside0.mk h1
  have A2 := Aside0.mk h2
  have A3 := Aside0.mk h3
  clear h1 h2 h3
  have hz : ((a.length : Int) == 0) = false := beq_eq_false_iff_ne.2 (by omega)
  have hglt : g < w.heap.size := hI.lt
  have A4 := Aside0.mk h4
  clear h4
  have hq0 : (q == 0) = false := beq_eq_false_iff_ne.2 (by omega)
  have hq1 : (q == 1) = false := beq_eq_false_iff_ne.2 (by omega)
  have hq2 : (q == 2) = false := beq_eq_false_iff_ne.2 (by omega)
  have hq3 : (q == 3) = true := by simp [hq]
  have hp0' := eq_true hp0
  have hp1' := eq_true hp1
  go_enter Tryd.func60, Tryd.ntmps60
  go_wp2_with (first | (go_at_call 81; refine (spec_someGraph.calls k g s0 s1 8 a a2 w0 _ hI hB A1.out).mono ?_; rintro e w1 ⟨v1, rfl, hS1, hI1, hB1, hK1⟩; clear hI hB; obtain ⟨gb, cap, rfl, hgb, hgl, cells, hcells⟩ := Kd.S_form hS1 hpos) | (go_at_call 80; refine (spec_reader_pick.calls k g s0 a2 (a.length : Int) p p2 w0 _ hI1 hB1 A2.out).mono ?_; rintro e w2 ⟨rfl, hI2, hB2, hK2⟩; clear hI1 hB1) | (go_at_call 80; refine (spec_reader_pick.calls k g s0 p2 24 q q2 w0 _ hI2 hB2 A3.out).mono ?_; rintro e w3 ⟨rfl, hI3, hB3, hK3⟩; clear hI2 hB2) | (go_at_call 85; have hS3 : Kd.S k33 33 w3 w.heap.size (fun k => k ≠ g) (.slice (some ⟨gb, 0, none⟩) a.length cap) a := Kd.S_keep (Kd.S_keep (Kd.S_mono (Kd.S_bound hS1) (fun k hk => Nat.ne_of_gt (Nat.lt_of_lt_of_le hglt hk.2.1))) hK2 (fun k hk => hk)) hK3 (fun k hk => hk); have hK4 := (hK1.trans hK2 (.inl rfl)).trans hK3 (.inl rfl); clear hS1 hK1 hK2 hK3; have hN4 := cells_new w3 (.cells #[.int .i64 0, .int .i64 5] 3); have hI4 := hI3.alloc (.cells #[.int .i64 0, .int .i64 5] 3); have hB4 := hB3.alloc hB3.size (.cells #[.int .i64 0, .int .i64 5] 3); have hS4 := Kd.S_alloc hS3 (.cells #[.int .i64 0, .int .i64 5] 3); have hK5 := keep_alloc hK4 (.cells #[.int .i64 0, .int .i64 5] 3); have hsz := hI3.lt; refine (spec_reader_one.calls k g s0 q2 _ _ [0, 5] t t2 w0 _ hI4 hB4 (C_lits (l := [0, 5]) hN4 (by decide)) (by decide) (fun ad e _ => by cases e; show w3.heap.size ≠ g; omega) A4.out).mono ?_; rintro e w5 ⟨rfl, hI5, hB5, hK6⟩; have hS5 := Kd.S_keep hS4 hK6 (fun k hk => hk); obtain ⟨⟨u, hcu⟩, hfu, hput⟩ := S_put3 hS5 p hp0 hp1; have hK7 := hK5.trans hK6 (.inl rfl); have HPUT := Aside0.mk hput; have hI6 := Aside0.mk hI5; clear hS4 hS3 hI3 hB3 hK4 hI4 hB4 hN4 hK5 hK6 hput hI5))
  go_ret
  obtain ⟨hS6, hg6⟩ := HPUT.out t
  exact ⟨_, rfl, Kd.S_mono hS6 (fun _ _ => trivial), hI6.out.grown hg6 (fun e => by injection e with e; omega), below_put hg6 hB5 (Nat.le_refl _) (by have := hI6.out.ge; omega), hK7.trans (KeepBut.of_grown hg6 g) (.inr ⟨gb, rfl, hgb⟩)⟩
theorem infoTask : (Tryd.prog.info? 33).map (fun i => (i.zero, i.size, i.bytes)) = some (some (.agg #[.int .i64 0, .slice none 0 0, .int .i64 0, .int .i64 0]), 4, 48) := by kernel_rfl
theorem zip_app (xs ys : List Tk) : (xs ++ ys).zipIdx = xs.zipIdx ++ ys.zipIdx xs.length := by rw [List.zipIdx_append]; simp
/-- Two rows' elements behind each other: the owners of the second one's rows are told anew. -/
theorem S_two {W : World} {b1 N : Nat} {ok : Nat → Prop} {v v2 : Value} {xs ys : List Tk} (h1 : Kd.S k33 33 W b1 (fun k => ok k ∧ k < N) v xs) (h2 : Kd.S k33 33 W N (fun _ => True) v2 ys) (hb : b1 ≤ N) :
    ∃ f A c, v2 = .slice A ys.length c ∧ (Kd.tag f k33).R 33 W b1 (fun k => ok k ∧ k < N) v xs.zipIdx ∧ ReadsRow ((Kd.tag f k33).M W b1 (fun k => N ≤ k)) 4 W A ys.length (ys.zipIdx xs.length) := by
  obtain ⟨f1, hf1⟩ := h1
  obtain ⟨f2, hf2⟩ := h2
  refine ⟨fun k => if k < N then f1 k else f2 k + xs.length, ?_⟩
  have hR2 := Kd.R_bound hf2
  obtain ⟨A, c, rfl, hl, hr⟩ := OwnRow.reads hR2.2
  rw [List.length_zipIdx] at hr
  refine ⟨A, c, by rw [List.length_zipIdx], Kd.R_tag hf1 (fun k hk _ => if_pos hk.2), by simp, hr.2.1, fun hn => ?_⟩
  obtain ⟨ad, e, hc⟩ := hr.2.2 hn
  refine ⟨ad, e, fun j p hj => ?_⟩
  rw [List.getElem?_zipIdx] at hj
  obtain ⟨x, hx, rfl⟩ := Option.map_eq_some_iff.1 hj
  obtain ⟨cs, h3, h4, h5⟩ := hc j (x, j) (by rw [List.getElem?_zipIdx, hx]; simp)
  refine ⟨cs, h3, ?_, h5⟩
  refine Kd.M_lower k33 hb (Kd.M_mono k33 (fun k hk => ?_) h4)
  have hk1 := hk.1.1.2.1
  have hk2 : f2 k = j := hk.2
  refine ⟨hk1, ?_⟩
  show (if k < N then f1 k else f2 k + xs.length) = xs.length + j
  rw [if_neg (by omega), hk2]
  omega
set_option maxRecDepth 100000 in
set_option maxHeartbeats 4000000 in
theorem any_case4 (k g : Nat) (s0 : List Int) (s1 : Int) (w0 w : World) (hI : IsS98 w0 w g s0 s1) (hB : Below w0.heap.size w0 w) (a : List Tk) (a2 p p2 q q2 : Int) (hpos : 0 < a.length) (hp0 : 0 ≤ p) (hp1 : p < (a.length : Int)) (h1 : spec_someGraph.f k s0 s1 8 = some (a, a2)) (h2 : spec_reader_pick.f k s0 a2 (a.length : Int) = some (p, p2)) (h3 : spec_reader_pick.f k s0 p2 24 = some (q, q2)) (hq : q = 4) (c : List Tk) (c2 : Int) (hlen : a.length + c.length < 1000) (h4 : spec_someGraph.f k s0 q2 8 = some (c, c2)) : Calls Tryd.prog 60 #[.pointer (some ⟨g, 0, none⟩)] w (anyPost w0 w g s0  (a ++ c) c2) := by
  have A1 := Aside0.mk h1
  have A2 := Aside0.mk h2
  have A3 := Aside0.mk h3
  clear h1 h2 h3
  have hz : ((a.length : Int) == 0) = false := beq_eq_false_iff_ne.2 (by omega)
  have hglt : g < w.heap.size := hI.lt
  have A4 := Aside0.mk h4
  clear h4
  have hq0 : (q == 0) = false := beq_eq_false_iff_ne.2 (by omega)
  have hq1 : (q == 1) = false := beq_eq_false_iff_ne.2 (by omega)
  have hq2 : (q == 2) = false := beq_eq_false_iff_ne.2 (by omega)
  have hq3 : (q == 3) = false := beq_eq_false_iff_ne.2 (by omega)
  have hq4 : (q == 4) = true := by simp [hq]
  go_enter Tryd.func60, Tryd.ntmps60
  go_wp2_with (first | (go_at_call 81; refine (spec_someGraph.calls k g s0 s1 8 a a2 w0 _ hI hB A1.out).mono ?_; rintro e w1 ⟨v1, rfl, hS1, hI1, hB1, hK1⟩; clear hI hB; obtain ⟨gb, cap, rfl, hgb, hgl, cells, hcells⟩ := Kd.S_form hS1 hpos) | (go_at_call 80; refine (spec_reader_pick.calls k g s0 a2 (a.length : Int) p p2 w0 _ hI1 hB1 A2.out).mono ?_; rintro e w2 ⟨rfl, hI2, hB2, hK2⟩; clear hI1 hB1) | (go_at_call 80; refine (spec_reader_pick.calls k g s0 p2 24 q q2 w0 _ hI2 hB2 A3.out).mono ?_; rintro e w3 ⟨rfl, hI3, hB3, hK3⟩; clear hI2 hB2) | (go_at_call 81; have hS3 : Kd.S k33 33 w3 w.heap.size (fun k => k ≠ g) (.slice (some ⟨gb, 0, none⟩) a.length cap) a := Kd.S_keep (Kd.S_keep (Kd.S_mono (Kd.S_bound hS1) (fun k hk => Nat.ne_of_gt (Nat.lt_of_lt_of_le hglt hk.2.1))) hK2 (fun k hk => hk)) hK3 (fun k hk => hk); have hK4 := (hK1.trans hK2 (.inl rfl)).trans hK3 (.inl rfl); clear hS1 hK1 hK2 hK3; have HGL3 := Aside0.mk hI3.lt; have HGB3 := Aside0.mk (Kd.S_lt hS3 gb (by simp [Value.ownBlock])); have hK4s := hK4.1; refine (spec_someGraph.calls k g s0 q2 8 c c2 w0 _ hI3 hB3 A4.out).mono ?_; rintro e w5 ⟨v2, rfl, hS5, hI5, hB5, hK5⟩; have hS4 : Kd.S k33 33 w5 w.heap.size (fun k => k ≠ g ∧ k < w3.heap.size) _ a := Kd.S_keep (Kd.S_mono (Kd.S_bound hS3) (fun k hk => ⟨hk.1, hk.2.2.1⟩)) hK5 (fun k hk => hk.1); obtain ⟨f, A, cc, rfl, hR6, hRR⟩ := S_two hS4 hS5 hK4s; have hK6 := hK4.trans hK5 (.inl rfl); have HR6 := Aside0.mk hR6; have HRR := Aside0.mk hRR; have HI5 := Aside0.mk hI5; have HB5 := Aside0.mk hB5; have HK6 := Aside0.mk hK6; have HLE := Aside0.mk hK5.1; clear hS3 hS4 hS5 hI3 hB3 hK4 hK5 hR6 hRR hI5 hB5 hK6 hK4s) | ((with_reducible refine gate_builtin (b := .append) (xs := #[.tmp 65, .tmp 67]) rfl ?_); go_loud (at_builtin; have hgb3 : gb < w3.heap.size := HGB3.out; have hle5 : w.heap.size ≤ w5.heap.size := HK6.out.1; refine Kd.R_append_rows (Kd.tag f k33) (w0 := w5) w.heap.size rfl (.tmp 65) (.tmp 67) 25 33 (.agg #[.int .i64 0, .slice none 0 0, .int .i64 0, .int .i64 0]) 48 rfl Tryd.underlying25 infoTask rfl (show 0 < 4 from by decide) (by decide) (.slice (some ⟨gb, 0, none⟩) a.length cap) a.zipIdx (c.zipIdx a.length) A c.length cc (fun k => k ≠ g) (fun k => w3.heap.size ≤ k) rfl rfl (Kd.R_mono HR6.out (fun _ hk => hk.1)) HRR.out (fun _ _ h => h) (fun k (hk : w3.heap.size ≤ k) => ⟨Nat.ne_of_gt (Nat.lt_of_lt_of_le HGL3.out hk), fun e => by have e2 : k = gb := (by simpa [Value.ownBlock] using e); omega⟩) (fun k hk => Nat.ne_of_gt (Nat.lt_of_lt_of_le HI5.out.lt hk)) (Below.refl _ _) hle5 (by simp; omega) ?_; intro v6 w6 ho hb hg hat)))
  go_ret
  have hS6 : Kd.S k33 33 w6 w.heap.size (fun k => k ≠ g) v6 (a ++ c) := ⟨f, by rw [zip_app]; exact ho⟩
  have hg' : w5.grownBy w6 (some gb) := by simpa [Value.ownBlock] using hg
  have hI6 := HI5.out.grown hg' (fun e => by injection e with e; omega)
  exact ⟨_, rfl, Kd.S_mono hS6 (fun _ _ => trivial), hI6, below_put hg' HB5.out (Nat.le_refl _) (by have := HI5.out.ge; omega), HK6.out.trans (KeepBut.of_grown hg' g) (.inr ⟨gb, rfl, hgb⟩)⟩
theorem infoInt_ : (Tryd.prog.info? 3).map (fun i => (i.zero, i.size, i.bytes)) = some (some (.int .i64 0), 1, 8) := by kernel_rfl
set_option maxRecDepth 100000 in
set_option maxHeartbeats 4000000 in
theorem any_case1 (k g : Nat) (s0 : List Int) (s1 : Int) (w0 w : World) (hI : IsS98 w0 w g s0 s1) (hB : Below w0.heap.size w0 w) (a : List Tk) (a2 p p2 q q2 : Int) (hpos : 0 < a.length) (hp0 : 0 ≤ p) (hp1 : p < (a.length : Int)) (h1 : spec_someGraph.f k s0 s1 8 = some (a, a2)) (h2 : spec_reader_pick.f k s0 a2 (a.length : Int) = some (p, p2)) (h3 : spec_reader_pick.f k s0 p2 24 = some (q, q2)) (hq : q = 1) (b b2 : Int) (r : List Int) (r2 : Int) (h4 : spec_reader_pick.f k s0 q2 (a.length : Int) = some (b, b2)) (hlen : (rd_T33 a p).f1.length < 1000) (h5 : spec_reader_spoil.f k s0 b2 ((rd_T33 a p).f1 ++ [b]) 8 = some (r, r2)) : Calls Tryd.prog 60 #[.pointer (some ⟨g, 0, none⟩)] w (anyPost w0 w g s0  (a.set p.toNat { rd_T33 a p with f1 := r }) r2) := by
  have A1 := Aside0.mk h1
  have A2 := Aside0.mk h2
  have A3 := Aside0.mk h3
  clear h1 h2 h3
  have hz : ((a.length : Int) == 0) = false := beq_eq_false_iff_ne.2 (by omega)
  have hglt : g < w.heap.size := hI.lt
  have A4 := Aside0.mk h4
  have A5 := Aside0.mk h5
  clear h4 h5
  have hq0 : (q == 0) = false := beq_eq_false_iff_ne.2 (by omega)
  have hq1 : (q == 1) = true := by simp [hq]
  go_enter Tryd.func60, Tryd.ntmps60
  go_wp2_with (first | (go_at_call 81; refine (spec_someGraph.calls k g s0 s1 8 a a2 w0 _ hI hB A1.out).mono ?_; rintro e w1 ⟨v1, rfl, hS1, hI1, hB1, hK1⟩; clear hI hB; obtain ⟨gb, cap, rfl, hgb, hgl, cells, hcells⟩ := Kd.S_form hS1 hpos) | (go_at_call 80; refine (spec_reader_pick.calls k g s0 a2 (a.length : Int) p p2 w0 _ hI1 hB1 A2.out).mono ?_; rintro e w2 ⟨rfl, hI2, hB2, hK2⟩; clear hI1 hB1) | (go_at_call 80; refine (spec_reader_pick.calls k g s0 p2 24 q q2 w0 _ hI2 hB2 A3.out).mono ?_; rintro e w3 ⟨rfl, hI3, hB3, hK3⟩; clear hI2 hB2))
  have hS3 : Kd.S k33 33 w3 w.heap.size (fun k => k ≠ g) (.slice (some ⟨gb, 0, none⟩) a.length cap) a := Kd.S_keep (Kd.S_keep (Kd.S_mono (Kd.S_bound hS1) (fun k hk => Nat.ne_of_gt (Nat.lt_of_lt_of_le hglt hk.2.1))) hK2 (fun k hk => hk)) hK3 (fun k hk => hk)
  have hK4 := (hK1.trans hK2 (.inl rfl)).trans hK3 (.inl rfl)
  clear hS1 hK1 hK2 hK3
  have hp0' := eq_true hp0
  have hp1' := eq_true hp1
  have hS3b : Kd.S k33 33 w3 w.heap.size (fun k => k ≠ g ∧ k < w3.heap.size) (.slice (some ⟨gb, 0, none⟩) a.length cap) a := Kd.S_mono (Kd.S_bound hS3) (fun k hk => ⟨hk.1, hk.2.2.1⟩)
  obtain ⟨oki, c, hcl, hM, hcc, hfr, hoki, hH⟩ := Kd.S_elem hS3b z33 p hp0 hp1
  obtain ⟨v4, rfl, g4⟩ := k33_openM hM
  clear hS3b
  have hx1 : w3.cell? ⟨gb, p.toNat * 4 + 1, none⟩ = some v4 := hcc 1 _ rfl
  have hgb3 : gb < w3.heap.size := Kd.S_lt hS3 gb (by simp [Value.ownBlock])
  clear hcc hfr hM hcl hS3
  have hI4 : IsS98 w0 w3.drew g s0 q2 := hI3.drew
  have hB4 : Below w0.heap.size w0 w3.drew := below_drew1 hB3
  have hK4' : KeepBut w w3.drew g none := keep_drew hK4
  have hH4 := Kd.H_drew hH
  have g4' := Kd.Q_drew g4
  have hsz4 : w3.drew.heap.size = w3.heap.size := rfl
  have hd4 : Below w3.heap.size w3 w3.drew := below_drew (Below.refl _ _)
  refine start_ (n := 18) (S := fun w' => w'.cell? ⟨gb, p.toNat * 4 + 1, none⟩ = some v4) (ds := [13, 14, 15, 16, 17]) #[false, false, false, false, false, false, false, false, false, false, false, false, false, false, false, false, false, false] rfl (by kernel_rfl) rfl ((hd4.cell hgb3).trans hx1) (fun hHeld => ?_)
  revert hI4 hB4 hK4' hH4 g4' hsz4 hHeld
  generalize w3.drew = w4
  intro hI4 hB4 hK4' hH4 g4' hsz4 hHeld
  clear hI3 hB3 hK4 hH g4 hx1 hd4
  refine pure_ (i := 0) (N := some 28) (v := ?_) (a' := ?_) #[true, false, false, false, false, false, false, false, false, false, false, false, false, false, false, false, false, false] rfl rfl (by kernel_rfl) (fun _ _ _ h => h) (Or.inl ⟨by rfl, ?_⟩) ?_ ?_
  rotate_left
  · intro w'
    go_simp
    with_reducible rfl
  rotate_left
  · simp only [Act.put, List.setIfInBounds_toArray, List.set_cons_zero, List.set_cons_succ, i64_w, i32_w]
    rfl
  refine pure_ (i := 1) (N := some 29) (v := ?_) (a' := ?_) #[true, true, false, false, false, false, false, false, false, false, false, false, false, false, false, false, false, false] rfl rfl (by kernel_rfl) (fun _ _ _ h => h) (Or.inl ⟨by rfl, ?_⟩) ?_ ?_
  rotate_left
  · intro w'
    go_simp
    with_reducible rfl
  rotate_left
  · simp only [Act.put, List.setIfInBounds_toArray, List.set_cons_zero, List.set_cons_succ, i64_w, i32_w]
    rfl
  refine pure_ (i := 2) (N := some 30) (v := ?_) (a' := ?_) #[true, true, true, false, false, false, false, false, false, false, false, false, false, false, false, false, false, false] rfl rfl (by kernel_rfl) (fun _ _ _ h => h) (Or.inl ⟨by rfl, ?_⟩) ?_ ?_
  rotate_left
  · intro w'
    go_simp
    with_reducible rfl
  rotate_left
  · simp only [Act.put, List.setIfInBounds_toArray, List.set_cons_zero, List.set_cons_succ, i64_w, i32_w]
    rfl
  refine pure_ (i := 3) (N := some 31) (v := ?_) (a' := ?_) #[true, true, true, true, false, false, false, false, false, false, false, false, false, false, false, false, false, false] rfl rfl (by kernel_rfl) (fun _ _ _ h => h) (Or.inl ⟨by rfl, ?_⟩) ?_ ?_
  rotate_left
  · intro w'
    go_simp
    with_reducible rfl
  rotate_left
  · simp only [Act.put, List.setIfInBounds_toArray, List.set_cons_zero, List.set_cons_succ, i64_w, i32_w]
    rfl
  refine pure_ (i := 4) (N := some 32) (v := ?_) (a' := ?_) #[true, true, true, true, true, false, false, false, false, false, false, false, false, false, false, false, false, false] rfl rfl (by kernel_rfl) (fun _ _ _ h => h) (Or.inl ⟨by rfl, ?_⟩) ?_ ?_
  rotate_left
  · intro w'
    go_simp
    with_reducible rfl
  rotate_left
  · simp only [Act.put, List.setIfInBounds_toArray, List.set_cons_zero, List.set_cons_succ, i64_w, i32_w]
    rfl
  refine pure_ (i := 5) (N := some 33) (v := ?_) (a' := ?_) #[true, true, true, true, true, true, false, false, false, false, false, false, false, false, false, false, false, false] rfl rfl (by kernel_rfl) (fun _ _ _ h => h) (Or.inl ⟨by rfl, ?_⟩) ?_ ?_
  rotate_left
  · intro w'
    go_simp
    with_reducible rfl
  rotate_left
  · simp only [Act.put, List.setIfInBounds_toArray, List.set_cons_zero, List.set_cons_succ, i64_w, i32_w]
    rfl
  refine pure_ (i := 6) (N := some 34) (v := ?_) (a' := ?_) #[true, true, true, true, true, true, true, false, false, false, false, false, false, false, false, false, false, false] rfl rfl (by kernel_rfl) (fun _ _ _ h => h) (Or.inl ⟨by rfl, ?_⟩) ?_ ?_
  rotate_left
  · intro w'
    go_simp
    with_reducible rfl
  rotate_left
  · simp only [Act.put, List.setIfInBounds_toArray, List.set_cons_zero, List.set_cons_succ, i64_w, i32_w]
    rfl
  refine take_ (i := 7) (N := some 35) (v := ?_) (a' := ?_) #[true, true, true, true, true, true, true, true, false, false, false, false, false, false, false, false, false, false] rfl rfl (by kernel_rfl) (fun _ _ _ h => h) (Or.inl ⟨by rfl, ?_⟩) hHeld ?_ ?_
  rotate_left
  · rintro w' hc
    go_simp
    with_reducible rfl
  rotate_left
  · simp only [Act.put, List.setIfInBounds_toArray, List.set_cons_zero, List.set_cons_succ, i64_w, i32_w]
    rfl
  refine pure_ (i := 8) (N := some 36) (v := ?_) (a' := ?_) #[true, true, true, true, true, true, true, true, true, false, false, false, false, false, false, false, false, false] rfl rfl (by kernel_rfl) (fun _ _ _ h => h) (Or.inl ⟨by rfl, ?_⟩) ?_ ?_
  rotate_left
  · intro w'
    go_simp
    with_reducible rfl
  rotate_left
  · simp only [Act.put, List.setIfInBounds_toArray, List.set_cons_zero, List.set_cons_succ, i64_w, i32_w]
    rfl
  refine pure_ (i := 9) (N := some 37) (v := ?_) (a' := ?_) #[true, true, true, true, true, true, true, true, true, true, false, false, false, false, false, false, false, false] rfl rfl (by kernel_rfl) (fun _ _ _ h => h) (Or.inl ⟨by rfl, ?_⟩) ?_ ?_
  rotate_left
  · intro w'
    go_simp
    with_reducible rfl
  rotate_left
  · simp only [Act.put, List.setIfInBounds_toArray, List.set_cons_zero, List.set_cons_succ, i64_w, i32_w]
    rfl
  refine pure_ (i := 10) (N := some 38) (v := ?_) (a' := ?_) #[true, true, true, true, true, true, true, true, true, true, true, false, false, false, false, false, false, false] rfl rfl (by kernel_rfl) (fun _ _ _ h => h) (Or.inl ⟨by rfl, ?_⟩) ?_ ?_
  rotate_left
  · intro w'
    go_simp
    with_reducible rfl
  rotate_left
  · simp only [Act.put, List.setIfInBounds_toArray, List.set_cons_zero, List.set_cons_succ, i64_w, i32_w]
    rfl
  refine one_ (i := 11) (N := some 39) #[true, true, true, true, true, true, true, true, true, true, true, true, false, false, false, false, false, false] rfl rfl (by kernel_rfl) (by decide) (fun K hK => ?_)
  refine goes_ Tryd.func80 (by kernel_rfl) rfl #[.pointer (some ⟨g, 0, none⟩), .int .i64 (a.length : Int)] (by rfl) rfl rfl (by (try simp only [List.map_toArray, List.map_cons, List.map_nil]); rfl) ?_
  refine (spec_reader_pick.calls k g s0 q2 (a.length : Int) b b2 w0 _ hI4 hB4 A4.out).mono ?_
  rintro e w5 ⟨rfl, hI5, hB5, hK5⟩
  have hgb4 : gb < w4.heap.size := by omega
  have hne : gb ≠ g := by have := Nat.lt_of_lt_of_le hglt hgb; omega
  refine ⟨_, rfl, hK.out _ _ (keep_cell hK5 hHeld hne) (fun hHeld5 => ?_)⟩
  clear hK K
  refine norm_ (a' := ?_) ?_ ?_
  rotate_left
  · show Act.put _ (some 39) _ = _
    simp only [Act.put, List.setIfInBounds_toArray, List.set_cons_zero, List.set_cons_succ, i64_w, i32_w]
    rfl
  have hH5 := Kd.H_keep hH4 hK5 (fun k hk => hk.1)
  have g5 := Kd.Q_keep g4' hK5 (fun k hk => (hoki k hk).1.1)
  have hg5lt := hI5.lt
  have hK6 := hK4'.trans hK5 (.inl rfl)
  have hsz5 : w3.heap.size ≤ w5.heap.size := by rw [← hsz4]; exact hK5.1
  clear hH4 g4' hK5 hK4' hI4 hB4 hHeld hsz4
  refine one_ (i := 12) (N := some 40) #[true, true, true, true, true, true, true, true, true, true, true, true, true, false, false, false, false, false] rfl rfl (by kernel_rfl) (by decide) (fun K hK => ?_)
  refine value_ (w1 := w5.alloc (.cells #[.int .i64 b] 3)) (v := .slice (some ⟨w5.heap.size, 0, none⟩) 1 1) (by rfl) rfl ?_ ?_
  · go_simp; try rfl
  refine hK.out _ _ ((((Below.refl w5.heap.size w5).alloc (Nat.le_refl _) (.cells #[.int .i64 b] 3)).cell (show gb < w5.heap.size by omega)).trans hHeld5) (fun hHeld6 => ?_)
  clear hK K
  refine norm_ (a' := ?_) ?_ ?_
  rotate_left
  · simp only [Act.put, List.setIfInBounds_toArray, List.set_cons_zero, List.set_cons_succ, i64_w, i32_w]
    rfl
  refine last_ (i := 13) (N := some 41) #[true, true, true, true, true, true, true, true, true, true, true, true, true, true, false, false, false, false] rfl rfl (by kernel_rfl) (by decide) (fun K hK => ?_)
  refine Kd.Q_append_step (Kd.int .i64) (w0 := w5) w.heap.size (by rfl) (.tmp 35) (.tmp 40) 31 3 (.int .i64 0) 8 rfl Tryd.underlying31 infoInt_ rfl (by decide) (by decide) v4 (rd_T33 a p).f1 b [.int .i64 b] (fun k => oki k ∨ w5.heap.size ≤ k) (fun _ => False) rfl rfl rfl (fun _ h => h.elim) (fun _ hk => .inr hk) (Kd.Q_mono g5 (fun _ hk => .inl hk)) (Below.refl _ _) hK6.1 (by omega) ?_
  intro v7 w7 hQ7 hB7 hg7 hat7
  refine hK.out _ _ ?_
  clear hK K
  refine norm_ (a' := ?_) ?_ ?_
  rotate_left
  · simp only [Act.put, List.setIfInBounds_toArray, List.set_cons_zero, List.set_cons_succ, i64_w, i32_w]
    rfl
  have hvo : ∀ k, v4.ownBlock = some k → oki k := fun k hk => g5.1 k hk
  have hH7 := Kd.H_grown hH5 hg7 hvo
  have hI7 := hI5.grown hg7 (fun e => (hoki g (hvo g e.symm)).1.1 rfl)
  have hB8 : Below w0.heap.size w0 w7 := by
    refine ⟨hg7.os.trans hB5.os, hg7.tape.trans hB5.tape, hg7.output.trans hB5.output, Nat.le_trans hB5.size hg7.size, fun k hk => (hg7.block k (Nat.lt_of_lt_of_le hk hB5.size) (fun e => ?_)).trans (hB5.block k hk)⟩
    have h1 := Kd.Q_base g5 k e.symm
    have h2 := hI5.ge
    omega
  have hK8 : KeepBut w w7 g none := ⟨Nat.le_trans hK6.1 hg7.size, fun k hk hkg hn => (hg7.block k (Nat.lt_of_lt_of_le hk hK6.1) (fun e => by have := Kd.Q_base g5 k e.symm; omega)).trans (hK6.2 k hk hkg hn)⟩
  have hsz7 := hg7.size
  obtain ⟨A7, c7, rfl, hl7, hC7⟩ := Kd.Q_reads hQ7
  have hlen7 : ((rd_T33 a p).f1 ++ [b]).length = (rd_T33 a p).f1.length + 1 := by simp
  have hQg := hQ7.1
  clear hH5 g5 hI5 hB5 hK6 hHeld5 hHeld6
  refine last_ (i := 14) (N := some 42) #[true, true, true, true, true, true, true, true, true, true, true, true, true, true, true, false, false, false] rfl rfl (by kernel_rfl) (by decide) (fun K hK => ?_)
  refine goes_ Tryd.func86 (by kernel_rfl) rfl #[.pointer (some ⟨g, 0, none⟩), .slice A7 ((rd_T33 a p).f1 ++ [b]).length c7, .int .i64 8] (by rfl) rfl rfl (by (try simp only [List.map_toArray, List.map_cons, List.map_nil]); rfl) ?_
  refine (spec_reader_spoil.calls k g s0 b2 A7 c7 ((rd_T33 a p).f1 ++ [b]) 8 r r2 w0 _ hI7 hB8 hC7 hl7 (fun ad e hpos7 => ?_) A5.out).mono ?_
  · subst e
    rcases hQg ad.block (by simp [Value.ownBlock]) with h | h
    · exact (hoki _ h).1.1
    · exact Nat.ne_of_gt (Nat.lt_of_lt_of_le hg5lt h)
  rintro e w9 ⟨v9, rfl, hQ9, hI9, hB9, hK9⟩
  refine ⟨_, rfl, hK.out _ _ ?_⟩
  clear hK K
  refine norm_ (a' := ?_) ?_ ?_
  rotate_left
  · simp only [Act.put, List.setIfInBounds_toArray, List.set_cons_zero, List.set_cons_succ, i64_w, i32_w]
    rfl
  have hH9 := Kd.H_keep hH7 hK9 (fun k hk => hk.1)
  have hH10 := Kd.H_mono (ok' := fun k => k ≠ g ∧ ¬ (w7.heap.size ≤ k)) hH9 (fun k hk => ⟨hk.1, by omega⟩)
  obtain ⟨hS11, hg11⟩ := Kd.S_seg (okg := fun k => w7.heap.size ≤ k) hH10 hp0 hp1 (seg := [v9]) (j := 1) (show 1 + 1 ≤ 4 from by decide) (x' := { rd_T33 a p with f1 := r }) (mkQ _ _ _ { rd_T33 a p with f1 := r } (Kd.Q_mono (Kd.Q_lower (Kd.Q_bound hQ9) (show w.heap.size ≤ w7.heap.size by have := hK8.1; omega)) (fun k hk => hk.2.1))) (fun k hk => .inr hk) (fun k hk => ⟨Nat.ne_of_gt (Nat.lt_of_lt_of_le hI7.lt hk), by omega⟩)
  obtain ⟨rows, _, hraw, _, _, hcc9, _⟩ := Kd.H_raw hH10 hp0 hp1
  have hcell9 : w9.cell? ⟨gb, p.toNat * 4 + 1, none⟩ = some v4 := hcc9 1 _ rfl
  obtain ⟨cs9, hcs9⟩ := Kd.R_typed hraw gb (by simp [Value.ownBlock])
  have hfz9 : w9.frozen? ⟨gb, p.toNat * 4 + 1, none⟩ = false := by simp [World.frozen?, hcs9]
  clear hraw hcc9 hcs9 hH10 hH9
  have hsl9 := Kd.Q_slice hQ9
  refine pure_ (i := 15) (N := some 43) (v := ?_) (a' := ?_) #[true, true, true, true, true, true, true, true, true, true, true, true, true, true, true, true, false, false] rfl rfl (by kernel_rfl) (fun _ _ _ h => h) (Or.inl ⟨by rfl, ?_⟩) ?_ ?_
  rotate_left
  · intro w'
    go_simp
    with_reducible rfl
  rotate_left
  · simp only [Act.put, List.setIfInBounds_toArray, List.set_cons_zero, List.set_cons_succ, i64_w, i32_w]
    rfl
  refine pure_ (i := 16) (N := some 44) (v := ?_) (a' := ?_) #[true, true, true, true, true, true, true, true, true, true, true, true, true, true, true, true, true, false] rfl rfl (by kernel_rfl) (fun _ _ _ h => h) (Or.inl ⟨by rfl, ?_⟩) ?_ ?_
  rotate_left
  · intro w'
    go_simp
    with_reducible rfl
  rotate_left
  · simp only [Act.put, List.setIfInBounds_toArray, List.set_cons_zero, List.set_cons_succ, i64_w, i32_w]
    rfl
  obtain ⟨A9, c9, hv9, _⟩ := hsl9
  refine last_ (i := 17) (N := none) #[true, true, true, true, true, true, true, true, true, true, true, true, true, true, true, true, true, true] rfl rfl (by kernel_rfl) (by decide) (fun K hK => ?_)
  refine skip_ (w1 := w9.setCell ⟨gb, p.toNat * 4 + 1, none⟩ v9) (by rfl) rfl ?_ ?_
  · subst hv9; go_simp
  refine hK.out _ _ ?_
  clear hK K
  refine done_ (by kernel_rfl) ?_
  have hS12 : Kd.S k33 33 (w9.setCell ⟨gb, p.toNat * 4 + 1, none⟩ v9) w.heap.size (fun k => k ≠ g) _ _ := hS11
  have hg12 : w9.grownBy (w9.setCell ⟨gb, p.toNat * 4 + 1, none⟩ v9) (some gb) := hg11
  have hI12 := hI9.grown hg12 (fun e => by injection e with e; have := Nat.lt_of_lt_of_le hglt hgb; omega)
  have hB12 := below_put hg12 hB9 (Nat.le_refl _) (by have := hI9.ge; omega)
  have hK12 := (hK8.trans hK9 (.inl rfl)).trans (KeepBut.of_grown hg12 g) (.inr ⟨gb, rfl, hgb⟩)
  revert hS12 hI12 hB12 hK12
  generalize w9.setCell ⟨gb, p.toNat * 4 + 1, none⟩ v9 = w13
  intro hS12 hI12 hB12 hK12
  clear hS11 hg11 hg12
  go_wp2
  go_ret
  exact ⟨_, rfl, Kd.S_mono hS12 (fun _ _ => trivial), hI12, hB12, hK12⟩
end Go.Proofs.YtffhdofcfkgoaaaDoor.Core
namespace Go.Proofs.YtffhdofcfkgoaaaDoor.P
open Go Go.RowKit Go.Shelf Go.Proofs.YtffhdofcfkgoaaaDoorW.PrintWords Go.Proofs.YtffhdofcfkgoaaaDoorW.PrintMore Go.Proofs.YtffhdofcfkgoaaaDoor.Core
noncomputable def spec_anyGraph.f (s0_0 : List Int) (s0_1 : Int) : Option (List S33 × Int) := lim (fun k => spec_anyGraph.fk k s0_0 s0_1)
theorem spec_anyGraph.calls (g : Nat) (s0_0 : List Int) (s0_1 : Int) (r1 : List S33) (r2 : Int) (w0 w : World) (hI : IsS98 w0 w g s0_0 s0_1) (hB : Below w0.heap.size w0 w) (h : spec_anyGraph.f s0_0 s0_1 = some (r1, r2)) :
    Calls Tryd.prog 60 #[.pointer (some ⟨g, 0, none⟩)] w fun e w' => ∃ v0_ : Value, e = .returned (v0_) ∧ Kd.S k33 33 w' w.heap.size (fun _ => True) v0_ r1 ∧ IsS98 w0 w' g s0_0 r2 ∧ Below w0.heap.size w0 w' ∧ KeepBut w w' g none := by
  obtain ⟨k, hk⟩ := lim_some h
  clear h
  unfold spec_anyGraph.fk at hk
  obtain ⟨⟨a, a2⟩, h1, hk⟩ := Option.bind_eq_some_iff.1 hk
  by_cases hl : a.length = 0
  · rw [if_pos hl] at hk
    cases hk
    obtain rfl := List.eq_nil_of_length_eq_zero hl
    exact any_empty k g s0_0 s0_1 w0 w hI hB _ h1
  · rw [if_neg hl] at hk
    obtain ⟨⟨p, p2⟩, h2, hk⟩ := Option.bind_eq_some_iff.1 hk
    obtain ⟨⟨q, q2⟩, h3, hk⟩ := Option.bind_eq_some_iff.1 hk
    by_cases hp : ¬ (0 ≤ p ∧ p < (a.length : Int))
    · rw [if_pos hp] at hk; cases hk
    · rw [if_neg hp] at hk
      obtain ⟨hp0, hp1⟩ := Decidable.not_not.1 hp
      have hpos : 0 < a.length := by omega
      by_cases e0 : q = 0
      · rw [if_pos e0] at hk
        obtain ⟨⟨t, t2⟩, h4, hk⟩ := Option.bind_eq_some_iff.1 hk
        cases hk
        exact any_case0 k g s0_0 s0_1 w0 w hI hB a a2 p p2 q q2 hpos hp0 hp1 h1 h2 h3 e0 t _ h4
      · rw [if_neg e0] at hk
        by_cases e1 : q = 1
        · rw [if_pos e1] at hk
          obtain ⟨⟨b, b2⟩, h4, hk⟩ := Option.bind_eq_some_iff.1 hk
          by_cases hlen : (rd_T33 a p).f1.length < 1000
          · simp only [hlen, if_true] at hk
            obtain ⟨⟨c, c2⟩, h5, hk⟩ := Option.bind_eq_some_iff.1 hk
            cases hk
            exact any_case1 k g s0_0 s0_1 w0 w hI hB a a2 p p2 q q2 hpos hp0 hp1 h1 h2 h3 e1 b b2 c _ h4 hlen h5
          · simp only [hlen, if_false] at hk; cases hk
        · rw [if_neg e1] at hk
          by_cases e2 : q = 2
          · rw [if_pos e2] at hk
            obtain ⟨⟨t, t2⟩, h4, hk⟩ := Option.bind_eq_some_iff.1 hk
            cases hk
            exact any_case2 k g s0_0 s0_1 w0 w hI hB a a2 p p2 q q2 hpos hp0 hp1 h1 h2 h3 e2 t _ h4
          · rw [if_neg e2] at hk
            by_cases e3 : q = 3
            · rw [if_pos e3] at hk
              obtain ⟨⟨t, t2⟩, h4, hk⟩ := Option.bind_eq_some_iff.1 hk
              cases hk
              exact any_case3 k g s0_0 s0_1 w0 w hI hB a a2 p p2 q q2 hpos hp0 hp1 h1 h2 h3 e3 t _ h4
            · rw [if_neg e3] at hk
              by_cases e4 : q = 4
              · rw [if_pos e4] at hk
                obtain ⟨⟨c, c2⟩, h4, hk⟩ := Option.bind_eq_some_iff.1 hk
                by_cases hlen : a.length + c.length < 1000
                · simp only [hlen, if_true] at hk
                  cases hk
                  exact any_case4 k g s0_0 s0_1 w0 w hI hB a a2 p p2 q q2 hpos hp0 hp1 h1 h2 h3 e4 c _ hlen h4
                · simp only [hlen, if_false] at hk; cases hk
              · rw [if_neg e4] at hk
                cases hk
                exact any_same k g s0_0 s0_1 w0 w hI hB a a2 p p2 q _ hpos hp0 hp1 h1 h2 h3 ⟨e0, e1, e2, e3, e4⟩
end Go.Proofs.YtffhdofcfkgoaaaDoor.P
namespace Go.Proofs.YtffhdofcfkgoaaaDoor.Core
end Go.Proofs.YtffhdofcfkgoaaaDoor.Core
end
section
namespace Go.Proofs.YtffhdofcfkgoaaaDoor.P
open Go.RowKit Go.Proofs.YtffhdofcfkgoaaaDoorW.PrintWords Go.Proofs.YtffhdofcfkgoaaaDoorW.PrintLast Go.Proofs.YtffhdofcfkgoaaaDoorW.PrintMore
attribute [local go_sem] max2_int min2_int max_two min_two max_three min_three max_four min_four   -- for this text's walks alone
set_option linter.unusedVariables false
set_option linter.unusedSimpArgs false
noncomputable def spec_smallGraph.f (k : Nat) (s0_0 : List Int) (s0_1 : Int) : Option ((List (S33)) × Int) := (spec_reader_pick.f k s0_0 s0_1 10).bind fun bt312 => (if bt312.1 = 0 then ((spec_anyGraph.f s0_0 bt312.2).bind fun bt314 => (some (bt314.1, bt314.2))) else ((spec_someGraph.f k s0_0 bt312.2 5).bind fun bt318 => (some (bt318.1, bt318.2))))
theorem spec_smallGraph.mono : ∀ a0 a1 k, LeO (spec_smallGraph.f k a0 a1) (spec_smallGraph.f (k + 1) a0 a1) := by
  intro a0 a1 k
  unfold spec_smallGraph.f
  repeat' first
      | (with_reducible exact spec_reader_pick.mono _ _ _ _)
      | (with_reducible exact spec_someGraph.mono _ _ _ _)
      | (with_reducible exact LeO.refl _)
      | (with_reducible exact LeO.none _)
      | (with_reducible refine LeO.ite ?_ ?_)
      | (with_reducible refine LeO.bind ?_ (fun _ => ?_))
      | exact spec_reader_pick.mono _ _ _ _
      | exact spec_someGraph.mono _ _ _ _
      | exact LeO.none _
      | refine LeO.ite ?_ ?_
      | refine LeO.bind ?_ (fun _ => ?_)
set_option maxHeartbeats 8000000 in
set_option maxRecDepth 100000 in
theorem spec_smallGraph.calls (k : Nat) (g : Nat) (s0_0 : List Int) (s0_1 : Int) (r1 : List (S33)) (r2 : Int) (w0 w : World) (hI : IsS98 w0 w g s0_0 s0_1) (hB : Below w0.heap.size w0 w) (h : spec_smallGraph.f k s0_0 s0_1 = some (r1, r2)) :
    Calls Tryd.prog 50 #[.pointer (some ⟨g, 0, none⟩)] w fun e w' => ∃ v0_ : Value, e = .returned (v0_) ∧ Kd.S k33 33 w' w.heap.size (fun _ => True) v0_ r1 ∧ IsS98 w0 w' g s0_0 r2 ∧ Below w0.heap.size w0 w' ∧ KeepBut w w' g none := by
  have HI0 := Aside0.mk hI
  have HK := Aside0.mk (KeepBut.refl w g none)
  have HL := Aside0.mk hB.size
  clear hI
  have HW0 := Aside0.mk hB.size
  have HB := Aside0.mk hB
  clear hB
  have H : ((spec_reader_pick.f k s0_0 s0_1 10).bind fun bt312 => (if bt312.1 = 0 then ((spec_anyGraph.f s0_0 bt312.2).bind fun bt314 => (some (bt314.1, bt314.2))) else ((spec_someGraph.f k s0_0 bt312.2 5).bind fun bt318 => (some (bt318.1, bt318.2))))) = some (r1, r2) := h
  clear h
  replace H := Option.bind_eq_some_iff.mp H
  obtain ⟨⟨t312, t313⟩, A20, H⟩ := H
  replace H : (if t312 = 0 then ((spec_anyGraph.f s0_0 t313).bind fun bt314 => (some (bt314.1, bt314.2))) else ((spec_someGraph.f k s0_0 t313 5).bind fun bt318 => (some (bt318.1, bt318.2)))) = some (r1, r2) := H
  have A2 := Aside0.mk A20
  clear A20
  by_cases c3 : t312 = 0
  · rw [if_pos c3] at H
    have c3b0 : (t312 == 0) = true := beq_iff_eq.mpr c3
    have c3b1 : (t312 != 0) = false := bne_eq_false_iff_eq.mpr c3
    clear c3
    replace H := Option.bind_eq_some_iff.mp H
    obtain ⟨⟨t314, t317⟩, A40, H⟩ := H
    replace H : (some (t314, t317)) = some (r1, r2) := H
    have A4 := Aside0.mk A40
    clear A40
    simp only [Option.some.injEq, Prod.mk.injEq] at H
    obtain ⟨rfl, rfl⟩ := H
    go_enter Tryd.func50, Tryd.ntmps50
    go_wp2_with (first | ((with_reducible refine gate_callee (f := 80) rfl ?_); refine goesL_ (some 4) rfl rfl Tryd.func80 (by kernel_rfl) rfl #[.pointer (some ⟨g, 0, none⟩), .int .i64 10] rfl (by (try simp only [List.map_toArray, List.map_cons, List.map_nil]); first | done | rfl | (simp only [List.length_drop, List.length_take]; rfl)) ?_; (with_reducible refine (spec_reader_pick.calls k g s0_0 s0_1 10 t312 t313 w0 _ ?side1 ?side2 A2.out).mono ?_); (case side1 => repeat (first | (with_reducible first | exact HI0.out | apply IsS98.alloc | apply IsS98.drewN | apply IsS98.drew | apply IsS98.set_1) | exact HI0.out)); (case side2 => repeat (first | (with_reducible first | exact HB.out | apply below_alloc | apply pw_below_drewN | apply below_drew1 | refine below_set ?_ (IsS98.ge HI0.out)) | exact HB.out)); rintro e w5 ⟨rfl, hi, hb, hk⟩; refine ⟨_, rfl, ?_⟩; have n0_ := Aside0.mk (KeepBut.trans (by repeat (first | (with_reducible first | exact HK.out | apply KeepBut.set_ | apply keep_drewN | apply keep_drew | apply keep_alloc) | exact HK.out)) hk (.inl rfl)); have n1_ := Aside0.mk (hb); have n2_ := Aside0.mk (hi); clear HK; clear HB; clear HI0; have HK := n0_; have HB := n1_; have HI0 := n2_; clear n0_ n1_ n2_; (try clear hb); (try clear hb2); (try clear hk); (try clear hi)) | ((with_reducible refine gate_callee (f := 60) rfl ?_); refine goesL_ (some 7) rfl rfl Tryd.func60 (by kernel_rfl) rfl #[.pointer (some ⟨g, 0, none⟩)] rfl (by (try simp only [List.map_toArray, List.map_cons, List.map_nil]); first | done | rfl | (simp only [List.length_drop, List.length_take]; rfl)) ?_; (with_reducible refine (spec_anyGraph.calls g s0_0 t313 t314 t317 w0 _ ?side1 ?side2 A4.out).mono ?_); (case side1 => repeat (first | (with_reducible first | exact HI0.out | apply IsS98.alloc | apply IsS98.drewN | apply IsS98.drew | apply IsS98.set_1) | exact HI0.out)); (case side2 => repeat (first | (with_reducible first | exact HB.out | apply below_alloc | apply pw_below_drewN | apply below_drew1 | refine below_set ?_ (IsS98.ge HI0.out)) | exact HB.out)); rintro e w6 ⟨v315, rfl, ho0, hi, hb, hk⟩; refine ⟨_, rfl, ?_⟩; have n0_ := Aside0.mk (Kd.S_lower ho0 (keep_size (w := w) (g := g) (row := none) (by repeat (first | (with_reducible first | exact HK.out | apply KeepBut.set_ | apply keep_drewN | apply keep_drew | apply keep_alloc) | exact HK.out)))); have n1_ := Aside0.mk (KeepBut.trans (by repeat (first | (with_reducible first | exact HK.out | apply KeepBut.set_ | apply keep_drewN | apply keep_drew | apply keep_alloc) | exact HK.out)) hk (.inl rfl)); have n2_ := Aside0.mk (hb); have n3_ := Aside0.mk (hi); clear HK; clear HB; clear HI0; have HO316 := n0_; have HK := n1_; have HB := n2_; have HI0 := n3_; clear n0_ n1_ n2_ n3_; (try clear hb); (try clear hb2); (try clear hk); (try clear hi); (try clear ho0)))
    go_ret
    exact ⟨_, by first | rfl | (simp [errW_none, errW_some] <;> rfl) | (simp [*, errW_none, errW_some] <;> rfl), by (with_reducible repeat (first | apply Kd.S_alloc | apply Kd.S_drewN | apply Kd.S_drew)); exact HO316.out, by repeat (first | (with_reducible first | exact HI0.out | apply IsS98.alloc | apply IsS98.drewN | apply IsS98.drew | apply IsS98.set_1) | exact HI0.out), by repeat (first | (with_reducible first | exact HB.out | apply below_alloc | apply pw_below_drewN | apply below_drew1 | refine below_set ?_ (IsS98.ge HI0.out)) | exact HB.out), by repeat (first | (with_reducible first | exact HK.out | apply KeepBut.set_ | apply keep_drewN | apply keep_drew | apply keep_alloc) | exact HK.out)⟩
  · rw [if_neg c3] at H
    have c3b0 : (t312 == 0) = false := beq_eq_false_iff_ne.mpr c3
    have c3b1 : (t312 != 0) = true := bne_iff_ne.mpr c3
    replace H := Option.bind_eq_some_iff.mp H
    obtain ⟨⟨t318, t321⟩, A70, H⟩ := H
    replace H : (some (t318, t321)) = some (r1, r2) := H
    have A7 := Aside0.mk A70
    clear A70
    simp only [Option.some.injEq, Prod.mk.injEq] at H
    obtain ⟨rfl, rfl⟩ := H
    go_enter Tryd.func50, Tryd.ntmps50
    go_wp2_with (first | ((with_reducible refine gate_callee (f := 80) rfl ?_); refine goesL_ (some 4) rfl rfl Tryd.func80 (by kernel_rfl) rfl #[.pointer (some ⟨g, 0, none⟩), .int .i64 10] rfl (by (try simp only [List.map_toArray, List.map_cons, List.map_nil]); first | done | rfl | (simp only [List.length_drop, List.length_take]; rfl)) ?_; (with_reducible refine (spec_reader_pick.calls k g s0_0 s0_1 10 t312 t313 w0 _ ?side1 ?side2 A2.out).mono ?_); (case side1 => repeat (first | (with_reducible first | exact HI0.out | apply IsS98.alloc | apply IsS98.drewN | apply IsS98.drew | apply IsS98.set_1) | exact HI0.out)); (case side2 => repeat (first | (with_reducible first | exact HB.out | apply below_alloc | apply pw_below_drewN | apply below_drew1 | refine below_set ?_ (IsS98.ge HI0.out)) | exact HB.out)); rintro e w8 ⟨rfl, hi, hb, hk⟩; refine ⟨_, rfl, ?_⟩; have n0_ := Aside0.mk (KeepBut.trans (by repeat (first | (with_reducible first | exact HK.out | apply KeepBut.set_ | apply keep_drewN | apply keep_drew | apply keep_alloc) | exact HK.out)) hk (.inl rfl)); have n1_ := Aside0.mk (hb); have n2_ := Aside0.mk (hi); clear HK; clear HB; clear HI0; have HK := n0_; have HB := n1_; have HI0 := n2_; clear n0_ n1_ n2_; (try clear hb); (try clear hb2); (try clear hk); (try clear hi)) | ((with_reducible refine gate_callee (f := 81) rfl ?_); refine goesL_ (some 9) rfl rfl Tryd.func81 (by kernel_rfl) rfl #[.pointer (some ⟨g, 0, none⟩), .int .i64 5] rfl (by (try simp only [List.map_toArray, List.map_cons, List.map_nil]); first | done | rfl | (simp only [List.length_drop, List.length_take]; rfl)) ?_; (with_reducible refine (spec_someGraph.calls k g s0_0 t313 5 t318 t321 w0 _ ?side1 ?side2 A7.out).mono ?_); (case side1 => repeat (first | (with_reducible first | exact HI0.out | apply IsS98.alloc | apply IsS98.drewN | apply IsS98.drew | apply IsS98.set_1) | exact HI0.out)); (case side2 => repeat (first | (with_reducible first | exact HB.out | apply below_alloc | apply pw_below_drewN | apply below_drew1 | refine below_set ?_ (IsS98.ge HI0.out)) | exact HB.out)); rintro e w9 ⟨v319, rfl, ho0, hi, hb, hk⟩; refine ⟨_, rfl, ?_⟩; have n0_ := Aside0.mk (Kd.S_lower ho0 (keep_size (w := w) (g := g) (row := none) (by repeat (first | (with_reducible first | exact HK.out | apply KeepBut.set_ | apply keep_drewN | apply keep_drew | apply keep_alloc) | exact HK.out)))); have n1_ := Aside0.mk (KeepBut.trans (by repeat (first | (with_reducible first | exact HK.out | apply KeepBut.set_ | apply keep_drewN | apply keep_drew | apply keep_alloc) | exact HK.out)) hk (.inl rfl)); have n2_ := Aside0.mk (hb); have n3_ := Aside0.mk (hi); clear HK; clear HB; clear HI0; have HO320 := n0_; have HK := n1_; have HB := n2_; have HI0 := n3_; clear n0_ n1_ n2_ n3_; (try clear hb); (try clear hb2); (try clear hk); (try clear hi); (try clear ho0)))
    go_ret
    exact ⟨_, by first | rfl | (simp [errW_none, errW_some] <;> rfl) | (simp [*, errW_none, errW_some] <;> rfl), by (with_reducible repeat (first | apply Kd.S_alloc | apply Kd.S_drewN | apply Kd.S_drew)); exact HO320.out, by repeat (first | (with_reducible first | exact HI0.out | apply IsS98.alloc | apply IsS98.drewN | apply IsS98.drew | apply IsS98.set_1) | exact HI0.out), by repeat (first | (with_reducible first | exact HB.out | apply below_alloc | apply pw_below_drewN | apply below_drew1 | refine below_set ?_ (IsS98.ge HI0.out)) | exact HB.out), by repeat (first | (with_reducible first | exact HK.out | apply KeepBut.set_ | apply keep_drewN | apply keep_drew | apply keep_alloc) | exact HK.out)⟩
def spec_newReader.f (l0 : List Int) : Option (List Int × Int) := if (l0.length : Int) > 2000 then (if 2000 ≤ (l0.length : Int) then (some (l0.take 2000, 0)) else (none)) else (some (l0, 0))
set_option maxHeartbeats 8000000 in
set_option maxRecDepth 100000 in
theorem spec_newReader.calls (A0 : Option Addr) (c0 : Nat) (l0 : List Int) (r1 : List Int) (r2 : Int) (w0 w : World) (hB : Below w0.heap.size w0 w) (hr0 : Kd.C (Kd.int .u8) w0 A0 l0.length l0) (hc0 : l0.length ≤ c0) (h : spec_newReader.f l0 = some (r1, r2)) :
    Calls Tryd.prog 51 #[.slice A0 l0.length c0] w fun e w' => ∃ g_ : Nat, e = .returned (.pointer (some ⟨g_, 0, none⟩)) ∧ IsS98 w0 w' g_ r1 r2 ∧ Below w0.heap.size w0 w' ∧ Below w.heap.size w w' := by
  have hu98 := Tryd.underlying98
  have HR0 := Aside0.mk hr0
  have HC0 := Aside0.mk hc0
  clear hr0 hc0
  have HBW := Aside0.mk (Below.refl w.heap.size w)
  have HW0 := Aside0.mk hB.size
  have HB := Aside0.mk hB
  clear hB
  have H : (if (l0.length : Int) > 2000 then (if 2000 ≤ (l0.length : Int) then (some (l0.take 2000, 0)) else (none)) else (some (l0, 0))) = some (r1, r2) := h
  clear h
  by_cases c2 : (l0.length : Int) > 2000
  · rw [if_pos c2] at H
    have c2b0 : decide (2000 < (l0.length : Int)) = true := decide_eq_true c2
    have c2b1 : decide (2000 < l0.length) = true := decide_eq_true (by omega)
    clear c2
    by_cases c3 : 2000 ≤ (l0.length : Int)
    · rw [if_pos c3] at H
      have c3b0 := eq_true c3
      have c3b1 : decide (2000 ≤ (l0.length : Int)) = true := decide_eq_true c3
      clear c3
      simp only [Option.some.injEq, Prod.mk.injEq] at H
      obtain ⟨rfl, rfl⟩ := H
      obtain ⟨i04, hi04, _, hsz4, _⟩ := info_parts info5
      obtain ⟨hcut4, hA4, hC4⟩ := print_take_of (P := Tryd.prog) (Value.int .u8) 0 29 5 .i64 Tryd.underlying29 hi04 hsz4 A0 c0 l0 2000 (by omega) (of_decide_eq_true (by first | (with_reducible assumption) | assumption)) HC0.out
      have HR322 := Aside0.mk (Kd.C_of_reads (h1 := fun _ => rfl) (hA4 _ (Kd.reads_of_C HR0.out)))
      have HC322 := Aside0.mk hC4
      clear hA4 hC4 hi04 hsz4
      go_enter Tryd.func51, Tryd.ntmps51
      go_wp2_with (first | ((with_reducible refine gate_dst (N := 10) rfl ?_); refine box_event ?hg (N := 10) ?hd (cs := #[.slice A0 (l0.take 2000).length c0, .int .i64 0]) (t := 98) ?hr ?_; (case hd => rfl); (case hg => rfl); (case hr => first | (go_simp; done) | (go_simp; rfl)); intro gb323 hg w5 hbox hb; have n0_ := Aside0.mk (below_step HBW.out hb); have n1_ := Aside0.mk (below_step (by repeat (first | (with_reducible first | exact HB.out | apply below_alloc | apply pw_below_drewN | apply below_drew1) | exact HB.out)) hb); have n2_ := Aside0.mk (hbox); have n3_ := Aside0.mk ((by rw [hg]; exact (below_size (by repeat (first | (with_reducible first | exact HBW.out | apply below_alloc | apply pw_below_drewN | apply below_drew1) | exact HBW.out))) : w.heap.size ≤ gb323)); have n4_ := Aside0.mk ((Nat.le_trans HW0.out (by rw [hg]; exact (below_size (by repeat (first | (with_reducible first | exact HBW.out | apply below_alloc | apply pw_below_drewN | apply below_drew1) | exact HBW.out))) : w.heap.size ≤ gb323) : w0.heap.size ≤ gb323)); clear HBW; clear HB; have HBW := n0_; have HB := n1_; have BK323 := n2_; have GW323 := n3_; have GE323 := n4_; clear n0_ n1_ n2_ n3_ n4_; clear hb hbox hg))
      go_ret
      exact ⟨_, rfl, (show IsS98 w0 _ gb323 (l0.take 2000) 0 from ⟨_, _, by (with_reducible repeat (first | refine blk_drewN ?_ _ | refine blk_drew ?_ | refine blk_alloc ?_ _)); exact BK323.out, GE323.out, HR322.out⟩), by repeat (first | (with_reducible first | exact HB.out | apply below_alloc | apply pw_below_drewN | apply below_drew1 | refine below_set ?_ GE323.out) | exact HB.out), by repeat (first | (with_reducible first | exact HBW.out | apply below_alloc | apply pw_below_drewN | apply below_drew1 | refine below_set ?_ GW323.out) | exact HBW.out)⟩
    · rw [if_neg c3] at H
      exact absurd H (by simp)
  · rw [if_neg c2] at H
    have c2b0 : decide (2000 < (l0.length : Int)) = false := decide_eq_false c2
    have c2b1 : decide (2000 < l0.length) = false := decide_eq_false (by omega)
    clear c2
    simp only [Option.some.injEq, Prod.mk.injEq] at H
    obtain ⟨rfl, rfl⟩ := H
    go_enter Tryd.func51, Tryd.ntmps51
    go_wp2_with (first | ((with_reducible refine gate_dst (N := 10) rfl ?_); refine box_event ?hg (N := 10) ?hd (cs := #[.slice A0 l0.length c0, .int .i64 0]) (t := 98) ?hr ?_; (case hd => rfl); (case hg => rfl); (case hr => first | (go_simp; done) | (go_simp; rfl)); intro gb324 hg w6 hbox hb; have n0_ := Aside0.mk (below_step HBW.out hb); have n1_ := Aside0.mk (below_step (by repeat (first | (with_reducible first | exact HB.out | apply below_alloc | apply pw_below_drewN | apply below_drew1) | exact HB.out)) hb); have n2_ := Aside0.mk (hbox); have n3_ := Aside0.mk ((by rw [hg]; exact (below_size (by repeat (first | (with_reducible first | exact HBW.out | apply below_alloc | apply pw_below_drewN | apply below_drew1) | exact HBW.out))) : w.heap.size ≤ gb324)); have n4_ := Aside0.mk ((Nat.le_trans HW0.out (by rw [hg]; exact (below_size (by repeat (first | (with_reducible first | exact HBW.out | apply below_alloc | apply pw_below_drewN | apply below_drew1) | exact HBW.out))) : w.heap.size ≤ gb324) : w0.heap.size ≤ gb324)); clear HBW; clear HB; have HBW := n0_; have HB := n1_; have BK324 := n2_; have GW324 := n3_; have GE324 := n4_; clear n0_ n1_ n2_ n3_ n4_; clear hb hbox hg))
    go_ret
    exact ⟨_, rfl, (show IsS98 w0 _ gb324 l0 0 from ⟨_, _, by (with_reducible repeat (first | refine blk_drewN ?_ _ | refine blk_drew ?_ | refine blk_alloc ?_ _)); exact BK324.out, GE324.out, HR0.out⟩), by repeat (first | (with_reducible first | exact HB.out | apply below_alloc | apply pw_below_drewN | apply below_drew1 | refine below_set ?_ GE324.out) | exact HB.out), by repeat (first | (with_reducible first | exact HBW.out | apply below_alloc | apply pw_below_drewN | apply below_drew1 | refine below_set ?_ GW324.out) | exact HBW.out)⟩
end Go.Proofs.YtffhdofcfkgoaaaDoor.P
end
section
namespace Go.Proofs.YtffhdofcfkgoaaaDoor.P
open Go.RowKit Go.Proofs.YtffhdofcfkgoaaaDoorW.PrintWords Go.Proofs.YtffhdofcfkgoaaaDoorW.PrintLast Go.Proofs.YtffhdofcfkgoaaaDoorW.PrintMore
attribute [local go_sem] max2_int min2_int max_two min_two max_three min_three max_four min_four   -- for this text's walks alone
set_option linter.unusedVariables false
set_option linter.unusedSimpArgs false
noncomputable def spec_DrawRunsTogether.f (k : Nat) (l0 : List Int) : Option ((List (S33)) × List Int × List Int) := (spec_newReader.f l0).bind fun bt585 => ((spec_anyGraph.f bt585.1 bt585.2).bind fun bt588 => ((spec_someRoom.f k bt585.1 bt588.2).bind fun bt592 => ((spec_someSet.f k bt585.1 bt592.2 bt588.1).bind fun bt596 => (some (bt588.1, bt592.1, bt596.1)))))
theorem spec_DrawRunsTogether.mono : ∀ a0 k, LeO (spec_DrawRunsTogether.f k a0) (spec_DrawRunsTogether.f (k + 1) a0) := by
  intro a0 k
  unfold spec_DrawRunsTogether.f
  repeat' first
      | (with_reducible exact spec_someRoom.mono _ _ _)
      | (with_reducible exact spec_someSet.mono _ _ _ _)
      | (with_reducible exact LeO.refl _)
      | (with_reducible exact LeO.none _)
      | (with_reducible refine LeO.ite ?_ ?_)
      | (with_reducible refine LeO.bind ?_ (fun _ => ?_))
      | exact spec_someRoom.mono _ _ _
      | exact spec_someSet.mono _ _ _ _
      | exact LeO.none _
      | refine LeO.ite ?_ ?_
      | refine LeO.bind ?_ (fun _ => ?_)
set_option maxHeartbeats 8000000 in
set_option maxRecDepth 100000 in
theorem spec_DrawRunsTogether.calls (k : Nat) (A0 : Option Addr) (c0 : Nat) (l0 : List Int) (r1 : List (S33)) (r2 : List Int) (r3 : List Int) (w : World) (hr0 : Kd.C (Kd.int .u8) w A0 l0.length l0) (hc0 : l0.length ≤ c0) (h : spec_DrawRunsTogether.f k l0 = some (r1, r2, r3)) :
    Calls Tryd.prog 37 #[.slice A0 l0.length c0] w fun e w' => ∃ v0_ v1_ v2_ : Value, e = .returned (.tuple #[v0_, v1_, v2_]) ∧ Kd.S k33 33 w' w.heap.size (fun k_ => some k_ ≠ (v1_ : Value).ownBlock ∧ some k_ ≠ (v2_ : Value).ownBlock) v0_ r1 ∧ Kd.Q (Kd.int .i64) 3 w' w.heap.size (fun k_ => some k_ ≠ (v2_ : Value).ownBlock) v1_ r2 ∧ Kd.Q (Kd.int .i64) 3 w' w.heap.size (fun k_ => some k_ ≠ (v1_ : Value).ownBlock) v2_ r3 ∧ Below w.heap.size w w' := by
  have HR0 := Aside0.mk hr0
  have HC0 := Aside0.mk hc0
  clear hr0 hc0
  have HB := Aside0.mk (Below.refl w.heap.size w)
  have H : ((spec_newReader.f l0).bind fun bt585 => ((spec_anyGraph.f bt585.1 bt585.2).bind fun bt588 => ((spec_someRoom.f k bt585.1 bt588.2).bind fun bt592 => ((spec_someSet.f k bt585.1 bt592.2 bt588.1).bind fun bt596 => (some (bt588.1, bt592.1, bt596.1)))))) = some (r1, r2, r3) := h
  clear h
  replace H := Option.bind_eq_some_iff.mp H
  obtain ⟨⟨t585, t586⟩, A20, H⟩ := H
  replace H : ((spec_anyGraph.f t585 t586).bind fun bt588 => ((spec_someRoom.f k t585 bt588.2).bind fun bt592 => ((spec_someSet.f k t585 bt592.2 bt588.1).bind fun bt596 => (some (bt588.1, bt592.1, bt596.1))))) = some (r1, r2, r3) := H
  have A2 := Aside0.mk A20
  clear A20
  replace H := Option.bind_eq_some_iff.mp H
  obtain ⟨⟨t588, t591⟩, A30, H⟩ := H
  replace H : ((spec_someRoom.f k t585 t591).bind fun bt592 => ((spec_someSet.f k t585 bt592.2 t588).bind fun bt596 => (some (t588, bt592.1, bt596.1)))) = some (r1, r2, r3) := H
  have A3 := Aside0.mk A30
  clear A30
  replace H := Option.bind_eq_some_iff.mp H
  obtain ⟨⟨t592, t595⟩, A40, H⟩ := H
  replace H : ((spec_someSet.f k t585 t595 t588).bind fun bt596 => (some (t588, t592, bt596.1))) = some (r1, r2, r3) := H
  have A4 := Aside0.mk A40
  clear A40
  replace H := Option.bind_eq_some_iff.mp H
  obtain ⟨⟨t596, t599⟩, A50, H⟩ := H
  replace H : (some (t588, t592, t596)) = some (r1, r2, r3) := H
  have A5 := Aside0.mk A50
  clear A50
  simp only [Option.some.injEq, Prod.mk.injEq] at H
  obtain ⟨rfl, rfl, rfl⟩ := H
  go_enter Tryd.func37, Tryd.ntmps37
  go_wp2_with (first | ((with_reducible refine gate_callee (f := 51) rfl ?_); refine goesL_ (some 9) rfl rfl Tryd.func51 (by kernel_rfl) rfl #[.slice A0 l0.length c0] rfl (by (try simp only [List.map_toArray, List.map_cons, List.map_nil]); first | done | rfl | (simp only [List.length_drop, List.length_take]; rfl)) ?_; (with_reducible refine (spec_newReader.calls _ _ l0 t585 t586 w _ ?side1 ?side2 ?side3 A2.out).mono ?_); (case side1 => repeat (first | (with_reducible first | exact HB.out | apply below_alloc | apply pw_below_drewN | apply below_drew1) | exact HB.out)); (case side2 => exact HR0.out); (case side3 => exact HC0.out); rintro e w6 ⟨g587, rfl, hi, hb, hb2⟩; refine ⟨_, rfl, ?_⟩; have n0_ := Aside0.mk (hb); have n1_ := Aside0.mk (hi); clear HB; have HB := n0_; have HI587 := n1_; clear n0_ n1_; (try clear hb); (try clear hb2); (try clear hk); (try clear hi)) | ((with_reducible refine gate_callee (f := 60) rfl ?_); refine goesL_ (some 11) rfl rfl Tryd.func60 (by kernel_rfl) rfl #[.pointer (some ⟨g587, 0, none⟩)] rfl (by (try simp only [List.map_toArray, List.map_cons, List.map_nil]); first | done | rfl | (simp only [List.length_drop, List.length_take]; rfl)) ?_; (with_reducible refine (spec_anyGraph.calls g587 t585 t586 t588 t591 w _ ?side1 ?side2 A3.out).mono ?_); (case side1 => repeat (first | (with_reducible first | exact HI587.out | apply IsS98.alloc | apply IsS98.drewN | apply IsS98.drew | apply IsS98.set_1) | exact HI587.out)); (case side2 => repeat (first | (with_reducible first | exact HB.out | apply below_alloc | apply pw_below_drewN | apply below_drew1 | refine below_set ?_ (IsS98.ge HI587.out)) | exact HB.out)); rintro e w7 ⟨v589, rfl, ho0, hi, hb, hk⟩; refine ⟨_, rfl, ?_⟩; have n0_ := Aside0.mk (Kd.S_lower ho0 (below_size (by repeat (first | (with_reducible first | exact HB.out | apply below_alloc | apply pw_below_drewN | apply below_drew1 | refine below_set ?_ (IsS98.ge HI587.out)) | exact HB.out)))); have n1_ := Aside0.mk (hb); have n2_ := Aside0.mk (hi); clear HB; clear HI587; have HO590 := n0_; have HB := n1_; have HI587 := n2_; clear n0_ n1_ n2_; (try clear hb); (try clear hb2); (try clear hk); (try clear hi); (try clear ho0)) | ((with_reducible refine gate_callee (f := 64) rfl ?_); refine goesL_ (some 13) rfl rfl Tryd.func64 (by kernel_rfl) rfl #[.pointer (some ⟨g587, 0, none⟩)] rfl (by (try simp only [List.map_toArray, List.map_cons, List.map_nil]); first | done | rfl | (simp only [List.length_drop, List.length_take]; rfl)) ?_; (with_reducible refine (spec_someRoom.calls k g587 t585 t591 t592 t595 w _ ?side1 ?side2 A4.out).mono ?_); (case side1 => repeat (first | (with_reducible first | exact HI587.out | apply IsS98.alloc | apply IsS98.drewN | apply IsS98.drew | apply IsS98.set_1) | exact HI587.out)); (case side2 => repeat (first | (with_reducible first | exact HB.out | apply below_alloc | apply pw_below_drewN | apply below_drew1 | refine below_set ?_ (IsS98.ge HI587.out)) | exact HB.out)); rintro e w8 ⟨v593, rfl, ho0, hi, hb, hk⟩; refine ⟨_, rfl, ?_⟩; have n0_ := Aside0.mk (Kd.S_mono (Kd.S_told (Kd.S_oldK (IsS98.apartS (show IsS98 w _ g587 t585 t591 from by repeat (first | (with_reducible first | exact HI587.out | apply IsS98.alloc | apply IsS98.drewN | apply IsS98.drew | apply IsS98.set_1) | exact HI587.out)) (by (with_reducible repeat (first | apply Kd.S_alloc | apply Kd.S_drewN | apply Kd.S_drew)); exact HO590.out) (by decide)) hk) (Kd.Q_base ho0)) (fun _ h_ => h_.1)); have n1_ := Aside0.mk (Kd.Q_lower ho0 (below_size (by repeat (first | (with_reducible first | exact HB.out | apply below_alloc | apply pw_below_drewN | apply below_drew1 | refine below_set ?_ (IsS98.ge HI587.out)) | exact HB.out)))); have n2_ := Aside0.mk (hb); have n3_ := Aside0.mk (hi); clear HO590; clear HB; clear HI587; have HO590 := n0_; have HO594 := n1_; have HB := n2_; have HI587 := n3_; clear n0_ n1_ n2_ n3_; (try clear hb); (try clear hb2); (try clear hk); (try clear hi); (try clear ho0); obtain ⟨Ao9, co9, eo9⟩ := Kd.S_slice HO590.out; subst eo9) | ((with_reducible refine gate_callee (f := 61) rfl ?_); refine goesL_ (some 18) rfl rfl Tryd.func61 (by kernel_rfl) rfl #[.pointer (some ⟨g587, 0, none⟩), .slice Ao9 t588.length co9] rfl (by (try simp only [List.map_toArray, List.map_cons, List.map_nil]); first | done | rfl | (simp only [List.length_drop, List.length_take]; rfl)) ?_; (with_reducible refine (spec_someSet.calls k g587 t585 t595 _ _ t588 t596 t599 w _ ?side1 ?side2 ?side3 ?side4 A5.out).mono ?_); (case side1 => repeat (first | (with_reducible first | exact HI587.out | apply IsS98.alloc | apply IsS98.drewN | apply IsS98.drew | apply IsS98.set_1) | exact HI587.out)); (case side2 => repeat (first | (with_reducible first | exact HB.out | apply below_alloc | apply pw_below_drewN | apply below_drew1 | refine below_set ?_ (IsS98.ge HI587.out)) | exact HB.out)); (case side3 => exact Kd.C_foot_own ((Kd.S_R (IsS98.apartS (show IsS98 w _ g587 t585 t595 from by repeat (first | (with_reducible first | exact HI587.out | apply IsS98.alloc | apply IsS98.drewN | apply IsS98.drew | apply IsS98.set_1) | exact HI587.out)) (by (with_reducible repeat (first | apply Kd.S_alloc | apply Kd.S_drewN | apply Kd.S_drew)); exact HO590.out) (by decide)))) (fun _ h_ => h_.2)); (case side4 => exact (Kd.S_reads' HO590.out).2.1); rintro e w10 ⟨v597, rfl, ho0, hi, hb, hk⟩; refine ⟨_, rfl, ?_⟩; have n0_ := Aside0.mk (Kd.S_mono (Kd.S_told (Kd.S_oldK (IsS98.apartS (show IsS98 w _ g587 t585 t595 from by repeat (first | (with_reducible first | exact HI587.out | apply IsS98.alloc | apply IsS98.drewN | apply IsS98.drew | apply IsS98.set_1) | exact HI587.out)) (by (with_reducible repeat (first | apply Kd.S_alloc | apply Kd.S_drewN | apply Kd.S_drew)); exact HO590.out) (by decide)) hk) (Kd.Q_base ho0)) (fun _ h_ => h_.1)); have n1_ := Aside0.mk (Kd.Q_mono (Kd.Q_told (Kd.Q_oldK (IsS98.apartQ (show IsS98 w _ g587 t585 t595 from by repeat (first | (with_reducible first | exact HI587.out | apply IsS98.alloc | apply IsS98.drewN | apply IsS98.drew | apply IsS98.set_1) | exact HI587.out)) (by (with_reducible repeat (first | apply Kd.Q_alloc | apply Kd.Q_drewN | apply Kd.Q_drew)); exact HO594.out) (by decide)) hk) (Kd.Q_base ho0)) (fun _ h_ => h_.1)); have n2_ := Aside0.mk (Kd.Q_lower (Kd.Q_new' ho0 (Kd.Q_lt (by (with_reducible repeat (first | apply Kd.Q_alloc | apply Kd.Q_drewN | apply Kd.Q_drew)); exact HO594.out))) (below_size (by repeat (first | (with_reducible first | exact HB.out | apply below_alloc | apply pw_below_drewN | apply below_drew1 | refine below_set ?_ (IsS98.ge HI587.out)) | exact HB.out)))); have n3_ := Aside0.mk (hb); have n4_ := Aside0.mk (hi); clear HO590; clear HO594; clear HB; clear HI587; have HO590 := n0_; have HO594 := n1_; have HO598 := n2_; have HB := n3_; have HI587 := n4_; clear n0_ n1_ n2_ n3_ n4_; (try clear hb); (try clear hb2); (try clear hk); (try clear hi); (try clear ho0)))
  go_ret3
  exact ⟨_, _, _, by first | rfl | (simp [errW_none, errW_some] <;> rfl) | (simp [*, errW_none, errW_some] <;> rfl), by (with_reducible repeat (first | apply Kd.S_alloc | apply Kd.S_drewN | apply Kd.S_drew)); exact Kd.S_mono HO590.out (fun _ hk => ⟨hk.1.2, hk.2⟩), by (with_reducible repeat (first | apply Kd.Q_alloc | apply Kd.Q_drewN | apply Kd.Q_drew)); exact Kd.Q_mono HO594.out (fun _ hk => hk.2), by (with_reducible repeat (first | apply Kd.Q_alloc | apply Kd.Q_drewN | apply Kd.Q_drew)); exact Kd.Q_mono HO598.out (fun _ hk => hk.2), by repeat (first | (with_reducible first | exact HB.out | apply below_alloc | apply pw_below_drewN | apply below_drew1 | refine below_set ?_ (IsS98.ge HI587.out)) | exact HB.out)⟩
end Go.Proofs.YtffhdofcfkgoaaaDoor.P
end
section
set_option linter.unusedVariables false
set_option linter.unusedSimpArgs false
namespace Go.Proofs.YtffhdofcfkgoaaaDoor.Core
open Go Go.RowKit Go.Shelf Go.Proofs.YtffhdofcfkgoaaaDoorW.PrintWords Go.Proofs.YtffhdofcfkgoaaaDoor.P
attribute [local go_sem] Oper.semAt_some wide_fn wide_depth
def countD (g : List Tk) : Int := match graphD g with
  | none => -1
  | some G => if g.length > 5 then -1 else ((ordersF G 9 0 : Nat) : Int)
end Go.Proofs.YtffhdofcfkgoaaaDoor.Core
namespace Go.Proofs.YtffhdofcfkgoaaaDoor.P
open Go Go.RowKit Go.Shelf Go.Proofs.YtffhdofcfkgoaaaDoorW.PrintWords Go.Proofs.YtffhdofcfkgoaaaDoor.Core
attribute [local go_sem] Oper.semAt_some wide_fn wide_depth
def impl_CountOrders.f (l0 : List S33) : Option Int := some (countD l0)
set_option maxRecDepth 100000 in
set_option maxHeartbeats 4000000 in
theorem impl_CountOrders.calls (A0 : Option Addr) (c0 : Nat) (l0 : List S33) (r : Int) (w : World) (hr0 : Kd.C k33 w A0 l0.length l0) (hc0 : l0.length ≤ c0) (hT : Tab w) (h : impl_CountOrders.f l0 = some r) :
    Calls Tryd.prog 18 #[.slice A0 l0.length c0] w fun e w' => e = .returned (.int .i64 r) ∧ Below w.heap.size w w' := by
  have hr : r = countD l0 := (Option.some.inj h).symm
  subst hr
  have HG := Aside0.mk (graphOf_calls A0 c0 l0 w hT hr0 hc0)
  cases hg : graphD l0 with
  | none =>
    have hcd : countD l0 = -1 := by unfold countD; rw [hg]
    rw [hcd]
    have HG2 := Aside0.mk (HG.out.mono (R' := fun e w' => e = .returned (.tuple #[.pointer none, .bool false]) ∧ Below w.heap.size w w') (fun e w' h => by unfold graphPost at h; rw [hg] at h; exact h))
    clear h HG hr0 hc0 hcd hg
    go_enter Tryd.func18, Tryd.ntmps18
    go_wp2_with (go_at_call 47; refine HG2.out.mono ?_; rintro e w' ⟨rfl, hB⟩)
    go_ret
    exact ⟨rfl, hB⟩
  | some G =>
    have ok := graphD_ok hg
    have htk := graphD_tasks hg
    have HG2 := Aside0.mk (HG.out.mono (R' := fun e w' => ∃ (b : Nat) (v : Value), e = .returned (.tuple #[.pointer (some ⟨b, 0, none⟩), .bool true]) ∧ Below w.heap.size w w' ∧ w.heap.size ≤ b ∧ IsG w' b G ∧ w'.cell? ⟨b, 2, none⟩ = some v ∧ (Kd.int .i64).R 3 w' w.heap.size (fun _ => True) v (up G.order)) (fun e w' h => by unfold graphPost at h; rw [hg] at h; exact h))
    have hlen : countD l0 = if l0.length > 5 then -1 else ((ordersF G 9 0 : Nat) : Int) := by unfold countD; rw [hg]
    have HD := Aside0.mk hlen
    have HK := Aside0.mk (show G.tasks.length = l0.length by rw [htk])
    clear h HG hr0 hc0 hlen hg htk
    by_cases h5 : l0.length > 5
    · have h5' : decide ((l0.length : Int) > 5) = true := by simp; omega
      have hz : (0 < l0.length) = True := eq_true (by omega)
      go_enter Tryd.func18, Tryd.ntmps18
      go_wp2_with (go_at_call 47; refine HG2.out.mono ?_; rintro e w' ⟨b, v, rfl, hB, hb, hG, _, _⟩)
      go_ret
      exact ⟨by rw [HD.out, if_pos h5]; rfl, hB⟩
    · have h5' : decide ((l0.length : Int) > 5) = false := by simp; omega
      go_enter Tryd.func18, Tryd.ntmps18
      go_wp2_with (first | (go_at_call 47; refine HG2.out.mono ?_; rintro e w1 ⟨b, v, rfl, hB, hb, hG, _, _⟩) | (go_at_call 48; refine (orders_calls b G ok 9 (by omega) 0 w1 (Nat.two_pow_pos _) (by rw [zb_zero]; have := ok.n8; omega) (hT.of hB) hG).mono ?_; rintro e w2 ⟨rfl, hB2⟩))
      go_ret
      exact ⟨by rw [HD.out, if_neg h5]; rfl, below_step hB hB2⟩
end Go.Proofs.YtffhdofcfkgoaaaDoor.P
end
section
set_option linter.unusedVariables false
set_option linter.unusedSimpArgs false
namespace Go.Proofs.YtffhdofcfkgoaaaDoor.Core
open Go Go.RowKit Go.Proofs.YtffhdofcfkgoaaaDoorW.PrintWords Go.Proofs.YtffhdofcfkgoaaaDoorW.PrintMore Go.Proofs.YtffhdofcfkgoaaaDoor.P
abbrev big : Nat := 4611686018427387904
theorem w64s {n : Nat} (h : n < big) : wrap64 ((n : Int) + 1) = ((n + 1 : Nat) : Int) := by rw [w64 (by omega) (by unfold big at h; omega)]; omega
theorem inRange_eq (x a b : Int) : spec_inRange.f x a b = some (decide (a ≤ x ∧ x ≤ b)) := by
  unfold spec_inRange.f
  by_cases h : a ≤ x
  · rw [if_pos h]; simp; omega
  · rw [if_neg h]; simp; omega
theorem copyInts_eq {l : List Int} (h : l.length < big) (h2 : l.length < 17592186044416) : spec_copyInts.f l = some l := by
  unfold spec_copyInts.f
  simp [h2]
theorem ev_isIn_from (L : List Int) (x : Int) (hL : L.length < big) : ∀ (r pre : List Int), L = pre ++ r → Ev (fun k => spec_isIn.l0 k L x (pre.length : Int)) (decide (x ∈ r))
  | [], pre, hp => by
    refine Ev.succ ((Ev.const _).of fun k => ?_)
    rw [List.append_nil] at hp
    subst hp
    rw [spec_isIn.l0, if_neg (by omega)]
    simp
  | y :: r, pre, hp => by
    have hlen : L.length = pre.length + (r.length + 1) := by rw [hp]; simp
    have hrd : rd L (pre.length : Int) = y := by rw [hp]; exact rd_mid rfl
    refine Ev.succ ?_
    by_cases hy : y = x
    · refine (Ev.const _).of fun k => ?_
      rw [spec_isIn.l0, if_pos (by omega), if_pos (by omega), hrd, if_pos hy]
      simp [hy]
    · have ih := ev_isIn_from L x hL r (pre ++ [y]) (by rw [hp]; simp)
      have e : decide (x ∈ y :: r) = decide (x ∈ r) := by
        have : x ≠ y := fun h => hy h.symm
        simp [this]
      rw [e]
      refine ih.of fun k => ?_
      rw [spec_isIn.l0, if_pos (by omega), if_pos (by omega), hrd, if_neg hy, w64s (by omega)]
      simp
theorem ev_isIn {L : List Int} (hL : L.length < big) (x : Int) : Ev (fun k => spec_isIn.f k L x) (decide (x ∈ L)) := ev_isIn_from L x hL L [] rfl
theorem ev_allIn_from (L : List Int) (a b : Int) (hL : L.length < big) : ∀ (r pre : List Int), L = pre ++ r → Ev (fun k => spec_allIn.l0 k L a b (pre.length : Int)) (decide (∀ x ∈ r, a ≤ x ∧ x ≤ b))
  | [], pre, hp => by
    refine Ev.succ ((Ev.const _).of fun k => ?_)
    rw [List.append_nil] at hp
    subst hp
    rw [spec_allIn.l0, if_neg (by omega)]
    simp
  | y :: r, pre, hp => by
    have hlen : L.length = pre.length + (r.length + 1) := by rw [hp]; simp
    have hrd : rd L (pre.length : Int) = y := by rw [hp]; exact rd_mid rfl
    refine Ev.succ ?_
    by_cases hy : a ≤ y ∧ y ≤ b
    · have ih := ev_allIn_from L a b hL r (pre ++ [y]) (by rw [hp]; simp)
      have e : decide (∀ x ∈ y :: r, a ≤ x ∧ x ≤ b) = decide (∀ x ∈ r, a ≤ x ∧ x ≤ b) := by simp [hy]
      rw [e]
      refine ih.of fun k => ?_
      rw [spec_allIn.l0, if_pos (by omega), if_pos (by omega), hrd, inRange_eq, decide_eq_true hy, Option.bind_some, if_pos rfl, w64s (by omega)]
      simp
    · refine (Ev.const _).of fun k => ?_
      rw [spec_allIn.l0, if_pos (by omega), if_pos (by omega), hrd, inRange_eq, decide_eq_false hy, Option.bind_some, if_neg (by simp)]
      simp only [Option.some.injEq]
      rw [eq_comm, decide_eq_false_iff_not]
      exact fun h => hy (h y List.mem_cons_self)
theorem ev_allIn {L : List Int} (hL : L.length < big) (a b : Int) : Ev (fun k => spec_allIn.f k L a b) (decide (∀ x ∈ L, a ≤ x ∧ x ≤ b)) := ev_allIn_from L a b hL L [] rfl
def ascD : List Int → Bool
  | [] => true
  | [_] => true
  | x :: y :: r => decide (x < y) && ascD (y :: r)
theorem ev_asc_from (L : List Int) (hL : L.length < big) : ∀ (r pre : List Int) (x : Int), L = pre ++ x :: r → Ev (fun k => spec_ascends.l0 k L ((pre.length + 1 : Nat) : Int)) (ascD (x :: r))
  | [], pre, x, hp => by
    have hlen : L.length = pre.length + 1 := by rw [hp]; simp
    refine Ev.succ ((Ev.const _).of fun k => ?_)
    rw [spec_ascends.l0, if_neg (by omega)]
    rfl
  | y :: r, pre, x, hp => by
    have hlen : L.length = pre.length + (r.length + 1 + 1) := by rw [hp]; simp
    have hw : wrap64 (((pre.length + 1 : Nat) : Int) - 1) = (pre.length : Int) := by rw [w64 (by omega) (by unfold big at hL; omega)]; omega
    have hrd : rd L (pre.length : Int) = x := by rw [hp]; exact rd_mid rfl
    have hrd2 : rd L ((pre.length + 1 : Nat) : Int) = y := by
      have : L = (pre ++ [x]) ++ y :: r := by rw [hp]; simp
      rw [this]; exact rd_mid (by simp)
    refine Ev.succ ?_
    by_cases hy : x < y
    · have ih := ev_asc_from L hL r (pre ++ [x]) y (by rw [hp]; simp)
      have e : ascD (x :: y :: r) = ascD (y :: r) := by simp [ascD, hy]
      rw [e]
      refine ih.of fun k => ?_
      rw [spec_ascends.l0, if_pos (by omega), if_pos (by omega), hw, if_pos (by omega), if_pos (by omega), hrd, hrd2, if_neg (by omega), w64s (by omega)]
      simp
    · have e : ascD (x :: y :: r) = false := by simp [ascD, hy]
      rw [e]
      refine (Ev.const _).of fun k => ?_
      rw [spec_ascends.l0, if_pos (by omega), if_pos (by omega), hw, if_pos (by omega), if_pos (by omega), hrd, hrd2, if_pos (by omega)]
theorem ev_ascends {L : List Int} (hL : L.length < big) : Ev (fun k => spec_ascends.f k L) (ascD L) := by
  cases L with
  | nil =>
    refine Ev.of (Ev.succ ((Ev.const true).of (g := fun k => spec_ascends.l0 (k + 1) [] 1) fun k => ?_)) (fun k => rfl)
    rw [spec_ascends.l0, if_neg (by simp)]
  | cons x r => exact ev_asc_from (x :: r) hL r [] x rfl
theorem ev_allDone_from (L M : List Int) (hL : L.length < big) (hM : M.length < big) : ∀ (r pre : List Int), L = pre ++ r → Ev (fun k => spec_allDone.l0 k L M (pre.length : Int)) (decide (∀ x ∈ r, x ∈ M))
  | [], pre, hp => by
    refine Ev.succ ((Ev.const _).of fun k => ?_)
    rw [List.append_nil] at hp
    subst hp
    rw [spec_allDone.l0, if_neg (by omega)]
    simp
  | y :: r, pre, hp => by
    have hlen : L.length = pre.length + (r.length + 1) := by rw [hp]; simp
    have hrd : rd L (pre.length : Int) = y := by rw [hp]; exact rd_mid rfl
    have hi := ev_isIn hM y
    refine Ev.succ ?_
    by_cases hy : y ∈ M
    · have ih := ev_allDone_from L M hL hM r (pre ++ [y]) (by rw [hp]; simp)
      have e : decide (∀ x ∈ y :: r, x ∈ M) = decide (∀ x ∈ r, x ∈ M) := by simp [hy]
      rw [e]
      rw [decide_eq_true hy] at hi
      refine (hi.bind (g := fun k t => if t = true then spec_allDone.l0 k L M ((pre ++ [y]).length : Int) else some false) (ih.of fun k => if_pos rfl)).of fun k => ?_
      rw [spec_allDone.l0, if_pos (by omega), if_pos (by omega), hrd, w64s (by omega)]
      simp
    · have e : decide (∀ x ∈ y :: r, x ∈ M) = false := by
        rw [decide_eq_false_iff_not]
        exact fun h => hy (h y List.mem_cons_self)
      rw [e]
      rw [decide_eq_false hy] at hi
      refine (hi.bind (g := fun k t => if t = true then spec_allDone.l0 k L M ((pre ++ [y]).length : Int) else some false) ((Ev.const false).of fun k => if_neg (by simp))).of fun k => ?_
      rw [spec_allDone.l0, if_pos (by omega), if_pos (by omega), hrd, w64s (by omega)]
      simp
theorem ev_allDone {L M : List Int} (hL : L.length < big) (hM : M.length < big) : Ev (fun k => spec_allDone.f k L M) (decide (∀ x ∈ L, x ∈ M)) := ev_allDone_from L M hL hM L [] rfl
def needsOk (n : Nat) (l : List Int) : Prop := (∀ x ∈ l, 0 ≤ x ∧ x ≤ (n : Int) - 1) ∧ ascD l = true
instance (n : Nat) (l : List Int) : Decidable (needsOk n l) := by unfold needsOk; infer_instance
theorem ev_validTask {t : Tk} (ht : t.f1.length < big) {n : Nat} (hn : n < big) : Ev (fun k => spec_validTask.f k t.f0 t.f1 t.f2 t.f3 (n : Int)) (decide (taskOk t ∧ needsOk n t.f1)) := by
  have hw : wrap64 ((n : Int) - 1) = (n : Int) - 1 := w64 (by omega) (by unfold big at hn; omega)
  have hA := ev_allIn ht 0 ((n : Int) - 1)
  have hB := ev_ascends ht
  by_cases h1 : 1 ≤ t.f0 ∧ t.f0 ≤ 20
  · by_cases h2 : 0 ≤ t.f2 ∧ t.f2 ≤ 2
    · by_cases h3 : 1 ≤ t.f3 ∧ t.f3 ≤ 4
      · have hok : taskOk t := ⟨h1, h2, h3⟩
        have hu : ∀ k, spec_validTask.f k t.f0 t.f1 t.f2 t.f3 (n : Int) = (spec_allIn.f k t.f1 0 ((n : Int) - 1)).bind fun t113 => (if t113 = true then ((spec_ascends.f k t.f1).bind fun t114 => (some t114)) else (some false)) := by
          intro k
          unfold spec_validTask.f
          rw [inRange_eq, inRange_eq, inRange_eq, decide_eq_true h1, decide_eq_true h2, decide_eq_true h3, hw]
          rfl
        refine Ev.of ?_ hu
        refine (hA.bind (g := fun k t113 => if t113 = true then ((spec_ascends.f k t.f1).bind fun t114 => (some t114)) else (some false)) (b := decide (taskOk t ∧ needsOk n t.f1)) ?_)
        by_cases h4 : ∀ x ∈ t.f1, 0 ≤ x ∧ x ≤ (n : Int) - 1
        · rw [decide_eq_true h4]
          have e : decide (taskOk t ∧ needsOk n t.f1) = ascD t.f1 := by
            cases h5 : ascD t.f1
            · rw [decide_eq_false_iff_not]; intro h; have := h.2.2; rw [h5] at this; cases this
            · rw [decide_eq_true_eq]; exact ⟨hok, h4, h5⟩
          rw [e]
          refine (hB.bind (g := fun _ t114 => some t114) (Ev.const _)).of fun k => ?_
          rw [if_pos rfl]
        · rw [decide_eq_false h4]
          have e : decide (taskOk t ∧ needsOk n t.f1) = false := by rw [decide_eq_false_iff_not]; exact fun h => h4 h.2.1
          rw [e]
          exact (Ev.const false).of fun k => if_neg (by simp)
      · have e : decide (taskOk t ∧ needsOk n t.f1) = false := by rw [decide_eq_false_iff_not]; exact fun h => h3 h.1.2.2
        rw [e]
        refine (Ev.const false).of fun k => ?_
        unfold spec_validTask.f
        rw [inRange_eq, inRange_eq, inRange_eq, decide_eq_true h1, decide_eq_true h2, decide_eq_false h3]
        rfl
    · have e : decide (taskOk t ∧ needsOk n t.f1) = false := by rw [decide_eq_false_iff_not]; exact fun h => h2 h.1.2.1
      rw [e]
      refine (Ev.const false).of fun k => ?_
      unfold spec_validTask.f
      rw [inRange_eq, inRange_eq, decide_eq_true h1, decide_eq_false h2]
      rfl
  · have e : decide (taskOk t ∧ needsOk n t.f1) = false := by rw [decide_eq_false_iff_not]; exact fun h => h1 h.1.1
    rw [e]
    refine (Ev.const false).of fun k => ?_
    unfold spec_validTask.f
    rw [inRange_eq, decide_eq_false h1]
    rfl
/-- All lists are of a size that fits. -/
def Fits (g : List Tk) : Prop := g.length < big ∧ ∀ t ∈ g, t.f1.length < big
theorem ev_tasksFine_from (g : List Tk) (hg : Fits g) : ∀ (r pre : List Tk), g = pre ++ r → Ev (fun k => spec_tasksFine.l0 k g (pre.length : Int)) (decide ((∀ t ∈ r, taskOk t ∧ needsOk g.length t.f1) ∧ g.length ≤ 8))
  | [], pre, hp => by
    refine Ev.succ ((Ev.const _).of fun k => ?_)
    rw [List.append_nil] at hp
    subst hp
    rw [spec_tasksFine.l0, if_neg (by omega)]
    congr 1
    rw [decide_eq_decide]
    constructor
    · intro h; exact ⟨by simp, by omega⟩
    · intro h; omega
  | t :: r, pre, hp => by
    have hlen : g.length = pre.length + (r.length + 1) := by rw [hp]; simp
    have hbig := hg.1
    have hrd : rd_T33 g (pre.length : Int) = t := by rw [hp]; exact rdT_mid rfl
    have hv := ev_validTask (hg.2 t (by rw [hp]; simp)) hg.1
    refine Ev.succ ?_
    by_cases hy : taskOk t ∧ needsOk g.length t.f1
    · have ih := ev_tasksFine_from g hg r (pre ++ [t]) (by rw [hp]; simp)
      have e : decide ((∀ t' ∈ t :: r, taskOk t' ∧ needsOk g.length t'.f1) ∧ g.length ≤ 8) = decide ((∀ t ∈ r, taskOk t ∧ needsOk g.length t.f1) ∧ g.length ≤ 8) := by simp [hy]
      rw [e]
      rw [decide_eq_true hy] at hv
      refine (hv.bind (g := fun k b => if b = true then spec_tasksFine.l0 k g ((pre ++ [t]).length : Int) else some false) (ih.of fun k => if_pos rfl)).of fun k => ?_
      rw [spec_tasksFine.l0, if_pos (by omega), if_pos (by omega), hrd, w64s (by omega)]
      simp
    · have e : decide ((∀ t' ∈ t :: r, taskOk t' ∧ needsOk g.length t'.f1) ∧ g.length ≤ 8) = false := by
        rw [decide_eq_false_iff_not]
        exact fun h => hy (h.1 t List.mem_cons_self)
      rw [e]
      rw [decide_eq_false hy] at hv
      refine (hv.bind (g := fun k b => if b = true then spec_tasksFine.l0 k g ((pre ++ [t]).length : Int) else some false) ((Ev.const false).of fun k => if_neg (by simp))).of fun k => ?_
      rw [spec_tasksFine.l0, if_pos (by omega), if_pos (by omega), hrd, w64s (by omega)]
      simp
def fineD (g : List Tk) : Prop := (∀ t ∈ g, taskOk t ∧ needsOk g.length t.f1) ∧ g.length ≤ 8
instance (g : List Tk) : Decidable (fineD g) := by unfold fineD; infer_instance
theorem ev_tasksFine {g : List Tk} (hg : Fits g) : Ev (fun k => spec_tasksFine.f k g) (decide (fineD g)) := ev_tasksFine_from g hg g [] rfl
end Go.Proofs.YtffhdofcfkgoaaaDoor.Core
namespace Go.Proofs.YtffhdofcfkgoaaaDoor.Core
open Go Go.RowKit Go.Proofs.YtffhdofcfkgoaaaDoorW.PrintWords Go.Proofs.YtffhdofcfkgoaaaDoorW.PrintMore Go.Proofs.YtffhdofcfkgoaaaDoor.P
theorem asc_lt : ∀ {r : List Int} {x : Int}, ascD (x :: r) = true → ascD r = true ∧ ∀ y ∈ r, x < y
  | [], x, _ => ⟨rfl, by simp⟩
  | y :: r, x, h => by
    simp only [ascD, Bool.and_eq_true, decide_eq_true_eq] at h
    have h2 := asc_lt h.2
    refine ⟨h.2, fun z hz => ?_⟩
    rcases List.mem_cons.1 hz with rfl | hz
    · exact h.1
    · have := h2.2 z hz; omega
theorem asc_mk {r : List Int} {x : Int} (h : ascD r = true) (h2 : ∀ y ∈ r, x < y) : ascD (x :: r) = true := by
  cases r with
  | nil => rfl
  | cons y r => simp [ascD, h, h2 y List.mem_cons_self]
theorem setGo_some {n : Nat} : ∀ {r : List Int} {s : Nat} {last : Int} {t : Nat}, -1 ≤ last → setGo n r s last = some t → (∀ x ∈ r, last + 1 ≤ x ∧ x ≤ (n : Int) - 1) ∧ ascD r = true ∧ ∀ i : Nat, t.testBit i = (s.testBit i || decide ((i : Int) ∈ r))
  | [], s, last, t, hl, h => by
    rw [setGo] at h
    cases h
    exact ⟨by simp, rfl, by simp⟩
  | x :: r, s, last, t, hl, h => by
    rw [setGo] at h
    by_cases hx : last + 1 ≤ x ∧ x ≤ (n : Int) - 1
    · rw [if_pos hx] at h
      obtain ⟨h1, h2, h3⟩ := setGo_some (by omega) h
      refine ⟨fun y hy => ?_, asc_mk h2 (fun y hy => by have := h1 y hy; omega), fun i => ?_⟩
      · rcases List.mem_cons.1 hy with rfl | hy
        · exact hx
        · have := h1 y hy; omega
      · rw [h3, or_bit]
        have : decide (x.toNat = i) = decide ((i : Int) = x) := by rw [decide_eq_decide]; omega
        rw [this]
        by_cases e : (i : Int) = x
        · simp [e]
        · simp [e]
    · rw [if_neg hx] at h; cases h
theorem setGo_ok {n : Nat} : ∀ {r : List Int} (s : Nat) {last : Int}, (∀ x ∈ r, last + 1 ≤ x ∧ x ≤ (n : Int) - 1) → ascD r = true → ∃ t, setGo n r s last = some t
  | [], s, last, _, _ => ⟨s, rfl⟩
  | x :: r, s, last, h, ha => by
    have h2 := asc_lt ha
    have hx := h x List.mem_cons_self
    rw [setGo, if_pos hx]
    exact setGo_ok _ (fun y hy => ⟨by have := h2.2 y hy; omega, (h y (List.mem_cons_of_mem _ hy)).2⟩) h2.1
theorem setD_some {n : Nat} {l : List Int} {t : Nat} (h : setD n l = some t) : needsOk n l ∧ ∀ i : Nat, t.testBit i = decide ((i : Int) ∈ l) := by
  obtain ⟨h1, h2, h3⟩ := setGo_some (by omega) h
  exact ⟨⟨fun x hx => by have := h1 x hx; omega, h2⟩, fun i => by rw [h3]; simp⟩
theorem setD_ok {n : Nat} {l : List Int} (h : needsOk n l) : ∃ t, setD n l = some t := setGo_ok 0 (fun x hx => by have := h.1 x hx; omega) h.2
theorem setD_none {n : Nat} {l : List Int} (h : setD n l = none) : ¬needsOk n l := fun h2 => by
  obtain ⟨t, ht⟩ := setD_ok h2
  rw [h] at ht
  cases ht
theorem needsGo_ok {n : Nat} : ∀ {r : List Tk}, (∀ t ∈ r, taskOk t ∧ needsOk n t.f1) → ∃ N, needsGo n r = some N
  | [], _ => ⟨[], rfl⟩
  | t :: r, h => by
    obtain ⟨s, hs⟩ := setD_ok (h t List.mem_cons_self).2
    obtain ⟨N, hN⟩ := needsGo_ok (fun t' ht => h t' (List.mem_cons_of_mem _ ht))
    rw [needsGo, hs]
    simp only [(h t List.mem_cons_self).1, if_true, hN]
    exact ⟨_, rfl⟩
theorem needsGo_fine {n : Nat} : ∀ {r : List Tk} {N : List Nat}, needsGo n r = some N → (∀ t ∈ r, taskOk t ∧ needsOk n t.f1) ∧ ∀ i, i < r.length → ∀ j : Nat, (N.getD i 0).testBit j = decide ((j : Int) ∈ (r.getD i z33).f1)
  | [], N, h => ⟨by simp, by intro i hi; simp at hi⟩
  | t :: r, N, h => by
    rw [needsGo] at h
    cases he : setD n t.f1 with
    | none => rw [he] at h; cases h
    | some s =>
      rw [he] at h
      by_cases hok : taskOk t
      · simp only [hok, if_true] at h
        cases hg : needsGo n r with
        | none => rw [hg] at h; cases h
        | some M =>
          rw [hg] at h
          cases h
          have ih := needsGo_fine hg
          have hs := setD_some he
          refine ⟨fun t' ht => ?_, fun i hi j => ?_⟩
          · rcases List.mem_cons.1 ht with rfl | ht
            · exact ⟨hok, hs.1⟩
            · exact ih.1 t' ht
          · cases i with
            | zero => simpa using hs.2 j
            | succ i => simpa using ih.2 i (by simpa using hi) j
      · simp [hok] at h
theorem needsD_fine {g : List Tk} {N : List Nat} (h : needsD g = some N) : fineD g ∧ ∀ i, i < g.length → ∀ j : Nat, (N.getD i 0).testBit j = decide ((j : Int) ∈ (g.getD i z33).f1) := by
  have h8 := (needsD_spec h).1
  unfold needsD at h
  rw [if_pos h8] at h
  have := needsGo_fine h
  exact ⟨⟨this.1, h8⟩, this.2⟩
theorem fineD_needs {g : List Tk} (h : fineD g) : ∃ N, needsD g = some N := by
  unfold needsD
  rw [if_pos h.2]
  exact needsGo_ok h.1
theorem sub_zero {a b : Nat} (ha : a < 256) (hb : b < 256) : sub a b = 0 ↔ ∀ j, a.testBit j = true → b.testBit j = true := by
  constructor
  · intro h j hj
    have := sub_testBit (i := j) ha hb
    rw [h, hj] at this
    simpa using this
  · intro h
    apply Nat.eq_of_testBit_eq
    intro j
    rw [sub_testBit ha hb, Nat.zero_testBit]
    cases e : a.testBit j
    · rfl
    · rw [h j e]; rfl
theorem mem_up {L : List Nat} {i : Nat} : (i : Int) ∈ up L ↔ i ∈ L := by
  unfold up
  rw [List.mem_map]
  constructor
  · rintro ⟨a, ha, e⟩
    have : a = i := Int.ofNat.inj e
    exact this ▸ ha
  · intro h
    exact ⟨i, h, rfl⟩
/-- All needs of a task are among some, said both ways. -/
theorem done_iff {g : List Tk} {N : List Nat} (hN : needsD g = some N) {L : List Nat} {d : Nat} (hd : d < 256) (hs : ∀ i, d.testBit i = true ↔ i ∈ L) {i : Nat} (hi : i < g.length) : (∀ x ∈ (g.getD i z33).f1, x ∈ up L) ↔ sub (N.getD i 0) d = 0 := by
  obtain ⟨h8, hl, hb⟩ := needsD_spec hN
  obtain ⟨hf, hbit⟩ := needsD_fine hN
  rw [sub_zero (Nat.lt_of_lt_of_le (getD_lt hb i) (pow8 h8)) hd]
  constructor
  · intro h j hj
    rw [hbit i hi j, decide_eq_true_eq] at hj
    exact (hs j).2 (mem_up.1 (h _ hj))
  · intro h x hx
    have hmem : g.getD i z33 ∈ g := by
      rw [List.getD_eq_getElem?_getD, List.getElem?_eq_getElem hi]
      exact List.getElem_mem hi
    have h0 := (hf.1 _ hmem).2.1 x hx
    obtain ⟨j, rfl⟩ : ∃ j : Nat, x = (j : Int) := ⟨x.toNat, by omega⟩
    refine mem_up.2 ((hs j).1 (h j ?_))
    rw [hbit i hi j, decide_eq_true_eq]
    exact hx
theorem rdT_nat (g : List Tk) (i : Nat) : rd_T33 g (i : Int) = g.getD i z33 := by simp [rd_T33]
theorem getD_mem {g : List Tk} {i : Nat} (hi : i < g.length) : g.getD i z33 ∈ g := by
  rw [List.getD_eq_getElem?_getD, List.getElem?_eq_getElem hi]
  exact List.getElem_mem hi
theorem ev_top_found {g : List Tk} (hg : Fits g) (L : List Nat) (hL : L.length ≤ 100) (j : Nat) (i : Int) (R : List Int) (h : Ev (fun k => spec_topOrder.l0 k g (up (L ++ [j]))) R) : Ev (fun k => spec_topOrder.l1 k g (up L) (j : Int) i) R := by
  have e : up (L ++ [j]) = up L ++ [(j : Int)] := by simp [up]
  have h2 : Ev (fun k => spec_topOrder.j2 k g (up L) (j : Int) i false) R := by
    refine Ev.succ (h.of fun k => ?_)
    rw [spec_topOrder.j2, if_neg (by simp), if_neg (by omega), if_pos (by rw [up_length]; omega), e]
  refine Ev.succ (h2.of fun k => ?_)
  rw [spec_topOrder.l1, show decide ((j : Int) < 0) = false by simp]
  split <;> rfl
theorem ev_top_scan {g : List Tk} (hg : Fits g) {N : List Nat} (hN : needsD g = some N) (L : List Nat) (d : Nat) (hL : L.length ≤ 100) (hd : d < 256) (hs : ∀ i, d.testBit i = true ↔ i ∈ L) (R : Option Nat → List Int) (hR : R none = up L) : ∀ (m i : Nat), i + m = g.length →
    (∀ j, nextFrom N d i m = some j → Ev (fun k => spec_topOrder.l0 k g (up (L ++ [j]))) (R (some j))) → Ev (fun k => spec_topOrder.l1 k g (up L) (-1) (i : Int)) (R (nextFrom N d i m))
  | 0, i, hi, ho => by
    rw [nextFrom, hR]
    refine Ev.succ ?_
    have h2 : Ev (fun k => spec_topOrder.j2 k g (up L) (-1) (i : Int) false) (up L) := by
      refine Ev.succ ((Ev.const _).of fun k => ?_)
      rw [spec_topOrder.j2, if_neg (by simp), if_pos (by omega)]
    refine h2.of fun k => ?_
    rw [spec_topOrder.l1, if_neg (by omega)]
  | m + 1, i, hi, ho => by
    have hig : i < g.length := by omega
    have h8 := (needsD_spec hN).1
    have hin := ev_isIn (L := up L) (by rw [up_length]; unfold big; omega) (i : Int)
    have hdn := ev_allDone (L := (g.getD i z33).f1) (M := up L) (hg.2 _ (getD_mem hig)) (by rw [up_length]; unfold big; omega)
    have e1 : decide ((i : Int) ∈ up L) = d.testBit i := by
      rw [Bool.eq_iff_iff, decide_eq_true_eq, mem_up, hs]
    have e2 : decide (∀ x ∈ (g.getD i z33).f1, x ∈ up L) = decide (sub (N.getD i 0) d = 0) := by
      rw [decide_eq_decide]; exact done_iff hN hd hs hig
    rw [e1] at hin
    rw [e2] at hdn
    have hw : wrap64 ((i : Int) + 1) = ((i + 1 : Nat) : Int) := w64s (by unfold big; omega)
    refine Ev.succ ?_
    have hj2 : Ev (fun k => spec_topOrder.j2 k g (up L) (-1) (i : Int) true) (R (nextFrom N d i (m + 1))) := by
      refine Ev.succ ?_
      have hu : ∀ k, spec_topOrder.j2 (k + 1) g (up L) (-1) (i : Int) true = (spec_isIn.f k (up L) (i : Int)).bind fun t126 => (if t126 = true then (spec_topOrder.l1 k g (up L) (-1) ((i + 1 : Nat) : Int)) else ((spec_allDone.f k (g.getD i z33).f1 (up L)).bind fun t128 => (if t128 = true then (spec_topOrder.l1 k g (up L) (i : Int) ((i + 1 : Nat) : Int)) else (spec_topOrder.l1 k g (up L) (-1) ((i + 1 : Nat) : Int))))) := by
        intro k
        rw [spec_topOrder.j2, if_pos rfl, hw, if_pos (show 0 ≤ (i : Int) by omega), if_pos (show (i : Int) < (g.length : Int) by omega), rdT_nat]
      refine Ev.of ?_ hu
      refine hin.bind (g := fun k t126 => (if t126 = true then (spec_topOrder.l1 k g (up L) (-1) ((i + 1 : Nat) : Int)) else ((spec_allDone.f k (g.getD i z33).f1 (up L)).bind fun t128 => (if t128 = true then (spec_topOrder.l1 k g (up L) (i : Int) ((i + 1 : Nat) : Int)) else (spec_topOrder.l1 k g (up L) (-1) ((i + 1 : Nat) : Int)))))) ?_
      cases hbit : d.testBit i with
      | true =>
        have hg2 : nextFrom N d i (m + 1) = nextFrom N d (i + 1) m := by rw [nextFrom, if_neg (by simp [hbit])]
        rw [hg2] at ho ⊢
        exact (ev_top_scan hg hN L d hL hd hs R hR m (i + 1) (by omega) ho).of fun k => if_pos rfl
      | false =>
        by_cases hz : sub (N.getD i 0) d = 0
        · have hg2 : nextFrom N d i (m + 1) = some i := by rw [nextFrom, if_pos ⟨hbit, hz⟩]
          rw [hg2]
          rw [decide_eq_true hz] at hdn
          have hf := ev_top_found hg L hL i ((i + 1 : Nat) : Int) _ (ho i hg2)
          refine (hdn.bind (g := fun k t128 => if t128 = true then (spec_topOrder.l1 k g (up L) (i : Int) ((i + 1 : Nat) : Int)) else (spec_topOrder.l1 k g (up L) (-1) ((i + 1 : Nat) : Int))) (hf.of fun k => if_pos rfl)).of fun k => ?_
          rw [if_neg (by simp)]
        · have hg2 : nextFrom N d i (m + 1) = nextFrom N d (i + 1) m := by rw [nextFrom, if_neg (fun h => hz h.2)]
          rw [hg2] at ho ⊢
          rw [decide_eq_false hz] at hdn
          have ih := ev_top_scan hg hN L d hL hd hs R hR m (i + 1) (by omega) ho
          refine (hdn.bind (g := fun k t128 => if t128 = true then (spec_topOrder.l1 k g (up L) (i : Int) ((i + 1 : Nat) : Int)) else (spec_topOrder.l1 k g (up L) (-1) ((i + 1 : Nat) : Int))) (ih.of fun k => if_neg (by simp))).of fun k => ?_
          rw [if_neg (by simp)]
    refine hj2.of fun k => ?_
    rw [spec_topOrder.l1, if_pos (by omega)]
    rfl
theorem orderGo_none {N : List Nat} {d : Nat} (h : nextD N d = none) : ∀ (m : Nat) (L : List Nat), orderGo N m L d = (L, d)
  | 0, L => rfl
  | m + 1, L => by rw [orderGo, h]; exact orderGo_none h m L
theorem next_zb {N : List Nat} {d j : Nat} (h : nextD N d = some j) : zb N.length (d ||| 2 ^ j) < zb N.length d := by
  have := nextD_spec h
  exact zb_lt this.2.1 this.1
theorem ev_top_go {g : List Tk} (hg : Fits g) {N : List Nat} (hN : needsD g = some N) : ∀ (m : Nat) (L : List Nat) (d : Nat), OrdOk N L d → zb N.length d ≤ m → Ev (fun k => spec_topOrder.l0 k g (up L)) (up (orderGo N m L d).1) := by
  obtain ⟨h8, hl, hb⟩ := needsD_spec hN
  have hb' : below1 N.length N := by rw [hl]; exact hb
  intro m
  induction m with
  | zero =>
    intro L d ok hz
    have hlt := Nat.lt_of_lt_of_le ok.dlt (pow8 (n := N.length) (by omega))
    have hnone : nextD N d = none := by
      cases h : nextD N d with
      | none => rfl
      | some j => have := next_zb h; omega
    have h := ev_top_scan hg hN L d (by have := ok.len; omega) hlt ok.set (fun _ => up L) rfl g.length 0 (by omega) (fun j hj => by
      have : nextD N d = some j := by unfold nextD; rw [hl]; exact hj
      rw [hnone] at this; cases this)
    refine Ev.succ (h.of fun k => ?_)
    rw [spec_topOrder.l0]
    rfl
  | succ m ih =>
    intro L d ok hz
    have hlt := Nat.lt_of_lt_of_le ok.dlt (pow8 (n := N.length) (by omega))
    have h := ev_top_scan hg hN L d (by have := ok.len; omega) hlt ok.set (fun o => match o with | some i => up (orderGo N m (L ++ [i]) (d ||| 2 ^ i)).1 | none => up L) rfl g.length 0 (by omega) (fun j hj => by
      have hj2 : nextD N d = some j := by unfold nextD; rw [hl]; exact hj
      have hsp := nextD_spec hj2
      have := next_zb hj2
      exact ih (L ++ [j]) (d ||| 2 ^ j) (ok.step (by omega) hb' hsp.1 hsp.2.1 hsp.2.2) (by omega))
    have e : (match nextFrom N d 0 g.length with | some i => up (orderGo N m (L ++ [i]) (d ||| 2 ^ i)).1 | none => up L) = up (orderGo N (m + 1) L d).1 := by
      rw [orderGo]
      have e2 : nextD N d = nextFrom N d 0 g.length := by unfold nextD; rw [hl]
      rw [e2]
      cases hx : nextFrom N d 0 g.length with
      | none => simp only []; rw [orderGo_none (by rw [e2]; exact hx)]
      | some i => rfl
    rw [← e]
    refine Ev.succ (h.of fun k => ?_)
    rw [spec_topOrder.l0]
    rfl
theorem ordOk_nil (N : List Nat) : OrdOk N [] 0 := ⟨by simp, by simp, Nat.two_pow_pos _, by simp, by rw [zb_zero]; simp, by simp⟩
theorem ev_topOrder {g : List Tk} (hg : Fits g) {N : List Nat} (hN : needsD g = some N) : Ev (fun k => spec_topOrder.f k g) (up (orderD N).1) :=
  ev_top_go hg hN N.length [] 0 (ordOk_nil N) (by rw [zb_zero]; exact Nat.le_refl _)
theorem zb_zero_full {n : Nat} : ∀ {m d : Nat}, zb m d = 0 → ∀ i, i < m → d.testBit i = true
  | 0, d, _, i, h => by omega
  | m + 1, d, h, i, hi => by
    simp only [zb] at h
    by_cases e : i = m
    · subst e
      cases hb : d.testBit i
      · simp [hb] at h
      · rfl
    · exact zb_zero_full (n := n) (m := m) (by omega) i (by omega)
theorem full_iff {N L : List Nat} {d : Nat} (ok : OrdOk N L d) : d = 2 ^ N.length - 1 ↔ L.length = N.length := by
  constructor
  · intro h
    have := ok.len
    rw [h, zb_full _ _ (Nat.le_refl _)] at this
    exact this
  · intro h
    have hz : zb N.length d = 0 := by have := ok.len; omega
    apply Nat.eq_of_testBit_eq
    intro i
    rw [Nat.testBit_two_pow_sub_one]
    by_cases hi : i < N.length
    · rw [zb_zero_full (n := 0) hz i hi]; simp [hi]
    · cases hb : d.testBit i
      · simp [hi]
      · exact absurd (ok.lt i ((ok.set i).1 hb)) hi
theorem ev_validGraph {g : List Tk} (hg : Fits g) : Ev (fun k => spec_validGraph.f k g) (graphD g).isSome := by
  have hf := ev_tasksFine hg
  unfold graphD
  by_cases h : fineD g
  · obtain ⟨N, hN⟩ := fineD_needs h
    obtain ⟨h8, hl, hb⟩ := needsD_spec hN
    rw [decide_eq_true h] at hf
    have ht := ev_topOrder hg hN
    have ok := orderD_ok (N := N) (by omega) (by rw [hl]; exact hb)
    have hfull := full_iff ok
    rw [hN]
    simp only []
    refine (hf.bind (g := fun k b => if b = true then ((spec_topOrder.f k g).bind fun t130 => (some ((t130.length : Int) == (g.length : Int)))) else some false) ?_).of fun k => rfl
    refine (ht.bind (g := fun k t130 => some ((t130.length : Int) == (g.length : Int))) (b := (if (orderD N).2 = 2 ^ g.length - 1 then some (mkG g N) else none).isSome) ((Ev.const _).of fun k => ?_)).of fun k => if_pos rfl
    rw [up_length]
    congr 1
    by_cases hd : (orderD N).2 = 2 ^ g.length - 1
    · rw [if_pos hd]
      have := hfull.1 (by rw [hl]; exact hd)
      simp [this, hl]
    · rw [if_neg hd]
      have : (orderD N).1.length ≠ g.length := fun e => hd (by rw [← hl]; exact hfull.2 (by omega))
      simp [this]
      omega
  · rw [decide_eq_false h] at hf
    have hn : needsD g = none := by
      cases e : needsD g with
      | none => rfl
      | some N => exact absurd (needsD_fine e).1 h
    rw [hn]
    refine (hf.bind (g := fun k b => if b = true then ((spec_topOrder.f k g).bind fun t130 => (some ((t130.length : Int) == (g.length : Int)))) else some false) ((Ev.const false).of fun k => if_neg (by simp))).of fun k => rfl
end Go.Proofs.YtffhdofcfkgoaaaDoor.Core
namespace Go.Proofs.YtffhdofcfkgoaaaDoor.Core
open Go Go.RowKit Go.Proofs.YtffhdofcfkgoaaaDoorW.PrintWords Go.Proofs.YtffhdofcfkgoaaaDoorW.PrintMore Go.Proofs.YtffhdofcfkgoaaaDoor.P
end Go.Proofs.YtffhdofcfkgoaaaDoor.Core
end
section
set_option linter.unusedVariables false
set_option linter.unusedSimpArgs false
namespace Go.Proofs.YtffhdofcfkgoaaaDoor.Core
open Go Go.RowKit Go.Proofs.YtffhdofcfkgoaaaDoorW.PrintWords Go.Proofs.YtffhdofcfkgoaaaDoorW.PrintMore Go.Proofs.YtffhdofcfkgoaaaDoor.P
/-- A reader's state: few bytes, not far read. -/
def RS (s0 : List Int) (N p : Int) : Prop := s0.length ≤ 2000 ∧ (∀ x ∈ s0, 0 ≤ x ∧ x ≤ 255) ∧ 0 ≤ p ∧ p ≤ N ∧ N ≤ 100000
theorem RS.mono {s0 : List Int} {N M p : Int} (h : RS s0 N p) (hM : N ≤ M) (h2 : M ≤ 100000) : RS s0 M p := ⟨h.1, h.2.1, h.2.2.1, by have := h.2.2.2.1; omega, h2⟩
theorem rd_byte {s0 : List Int} {N p i : Int} (h : RS s0 N p) (h0 : 0 ≤ i) (h1 : i < (s0.length : Int)) : 0 ≤ rd s0 i ∧ rd s0 i ≤ 255 := by
  refine h.2.1 _ ?_
  unfold rd
  rw [List.getD_eq_getElem?_getD, List.getElem?_eq_getElem (by omega), Option.getD_some]
  exact List.getElem_mem _
/-- What pick answers. -/
def PickOk (n : Int) (s0 : List Int) (N : Int) (r : Int × Int) : Prop := (n < 1 → r.1 = 0) ∧ (1 ≤ n → 0 ≤ r.1 ∧ r.1 < n) ∧ RS s0 (N + 1) r.2
theorem ev_pick {s0 : List Int} {N p n : Int} (h : RS s0 N p) (hN : N < 100000) : EvP (fun k => spec_reader_pick.f k s0 p n) (PickOk n s0 N) := by
  obtain ⟨hl, hb, h0, h1, _⟩ := h
  have hp : wrap64 (p + 1) = p + 1 := w64 (by omega) (by omega)
  have hp1 : wrap64 (p + 1 - 1) = p := by rw [Int.add_sub_cancel]; exact w64 (by omega) (by omega)
  have hRS : RS s0 (N + 1) (p + 1) := ⟨hl, hb, by omega, by omega, by omega⟩
  have hz : EvP (fun k => spec_reader_pick.j0 k n true s0 (p + 1)) (fun r => r = (0, p + 1)) := by
    refine EvP.succ ?_
    simp only [spec_reader_pick.j0, if_true]
    exact EvP.ret rfl
  unfold spec_reader_pick.f
  rw [hp]
  refine EvP.ite (fun hn => hz.mono fun a e => ?_) (fun hn => ?_)
  · subst e; exact ⟨fun _ => rfl, fun _ => by omega, hRS⟩
  by_cases he : s0.length = 0
  · rw [show ((s0.length : Int) == 0) = true by simp [he]]
    exact hz.mono fun a e => by subst e; exact ⟨fun _ => rfl, fun _ => by omega, hRS⟩
  rw [show ((s0.length : Int) == 0) = false from beq_eq_false_iff_ne.2 (by omega)]
  refine EvP.succ ?_
  simp only [spec_reader_pick.j0, hp1, Bool.false_eq_true, if_false]
  refine EvP.ite (fun hlt => ?_) (fun hge => ?_)
  · have hr := hb (rd s0 p) (by
      unfold rd
      rw [List.getD_eq_getElem?_getD, List.getElem?_eq_getElem (by omega), Option.getD_some]
      exact List.getElem_mem _)
    refine EvP.pos h0 (EvP.neg (by omega) (EvP.ret ?_))
    rw [w64 (n := rd s0 p) (by omega) (by omega)]
    exact ⟨fun _ => by omega, fun _ => tmod_lt hr.1 (by omega), hRS⟩
  · have hpos : (0 : Int) < s0.length := by omega
    have hm1 := tmod_lt h0 hpos
    have h7 : wrap64 (p * 7) = p * 7 := w64 (by omega) (by omega)
    have h73 : wrap64 (p * 7 + 3) = p * 7 + 3 := w64 (by omega) (by omega)
    have hm2 := tmod_lt (a := p * 7 + 3) (by omega) hpos
    have hd := tdiv_le h0 hpos
    have hr1 := rd_byte ⟨hl, hb, h0, h1, by omega⟩ hm1.1 hm1.2
    have hr2 := rd_byte ⟨hl, hb, h0, h1, by omega⟩ hm2.1 hm2.2
    rw [h7, h73]
    refine EvP.neg (by omega) (EvP.pos hm1.1 (EvP.pos hm1.2 (EvP.pos hm2.1 (EvP.pos hm2.2 (EvP.neg (by omega) (EvP.ret ?_))))))
    generalize rd s0 (Int.tmod p s0.length) = x1 at *
    generalize rd s0 (Int.tmod (p * 7 + 3) s0.length) = x2 at *
    generalize Int.tdiv p s0.length = dd at *
    have e : wrap64 (wrap64 (wrap64 (wrap64 (wrap64 x1 * 131) + wrap64 (wrap64 x2 * 1117)) + wrap64 (p * 29)) + wrap64 (wrap64 dd * 53)) = x1 * 131 + x2 * 1117 + p * 29 + dd * 53 := by
      rw [w64 (n := x1) (by omega) (by omega), w64 (n := x2) (by omega) (by omega), w64 (n := dd) (by omega) (by omega), w64 (n := x1 * 131) (by omega) (by omega), w64 (n := x2 * 1117) (by omega) (by omega), w64 (n := x1 * 131 + x2 * 1117) (by omega) (by omega), w64 (n := p * 29) (by omega) (by omega), w64 (n := x1 * 131 + x2 * 1117 + p * 29) (by omega) (by omega), w64 (n := dd * 53) (by omega) (by omega), w64 (by omega) (by omega)]
    rw [e]
    generalize hy : x1 * 131 + x2 * 1117 + p * 29 + dd * 53 = y at *
    have hq := tdiv_le (a := y) (n := 64) (by omega) (by omega)
    rw [w64 (n := Int.tdiv y 64) (by omega) (by omega)]
    have hx := i64_xor y (Int.tdiv y 64) (by omega) (by omega) (by omega) (by omega)
    exact ⟨fun _ => by omega, fun _ => tmod_lt hx.1 (by omega), hRS⟩
theorem ev_one {s0 : List Int} {N p : Int} (h : RS s0 N p) (hN : N < 100000) (L : List Int) (hL : 0 < L.length) : EvP (fun k => spec_reader_one.f k s0 p L) (fun r => r.1 ∈ L ∧ RS s0 (N + 1) r.2) := by
  unfold spec_reader_one.f
  refine (ev_pick h hN).bind fun a ha => ?_
  have h2 := ha.2.1 (by omega)
  refine EvP.pos h2.1 (EvP.pos h2.2 (EvP.ret ⟨?_, ha.2.2⟩))
  show rd L a.1 ∈ L
  unfold rd
  rw [List.getD_eq_getElem?_getD, List.getElem?_eq_getElem (by omega), Option.getD_some]
  exact List.getElem_mem _
theorem ev_spoil {s0 : List Int} {N p : Int} (h : RS s0 N p) (hN : N + 2 < 100000) (L : List Int) (n : Int) (hL : L.length ≤ 10000) : EvP (fun k => spec_reader_spoil.f k s0 p L n) (fun r => r.1.length ≤ L.length + 1 ∧ RS s0 (N + 3) r.2) := by
  unfold spec_reader_spoil.f
  rw [show spec_copyInts.f L = some L from copyInts_eq (by unfold big; omega) (by omega)]
  refine EvP.sb ?_
  refine (ev_pick h (by omega)).bind fun a ha => ?_
  have hm := ha.2.2.mono (M := N + 3) (by omega) (by omega)
  refine EvP.ite (fun _ => EvP.pos (by omega) (EvP.ret ⟨by simp, hm⟩)) (fun _ => ?_)
  refine EvP.ite (fun _ => EvP.ite (fun h0 => EvP.pos (by omega) (EvP.ret ⟨by simp; omega, hm⟩)) (fun _ => EvP.ret ⟨by show L.length ≤ _; omega, hm⟩)) (fun _ => ?_)
  refine EvP.ite (fun _ => EvP.ite (fun h0 => ?_) (fun _ => EvP.ret ⟨by show L.length ≤ _; omega, hm⟩)) (fun _ => EvP.ret ⟨by show L.length ≤ _; omega, hm⟩)
  refine (ev_pick ha.2.2 (by omega)).bind fun b hb => ?_
  refine (ev_one hb.2.2 (by omega) _ (by simp)).bind fun c hc => ?_
  have h2 := hb.2.1 (by omega)
  exact EvP.pos h2.1 (EvP.pos h2.2 (EvP.ret ⟨by simp, hc.2.mono (by omega) (by omega)⟩))
/-- A graph of few tasks, whose lists of needs are short. -/
def GSmall (n m : Nat) (g : List Tk) : Prop := g.length ≤ n ∧ ∀ t ∈ g, t.f1.length ≤ m
theorem GSmall.fits {n m : Nat} {g : List Tk} (h : GSmall n m g) (hn : n < big) (hm : m < big) : Fits g := ⟨by have := h.1; omega, fun t ht => by have := h.2 t ht; omega⟩
theorem ev_turned_in (x0 : List Tk) (x3 : List Tk) (x4 x5 : Int) (f0 f2 f3 : Int) (L : List Int) (hL : L.length ≤ 10000) (R : List Tk → Prop) (hx3 : x3.length ≤ 100) (hk : ∀ L2 : List Int, L2.length = L.length → EvP (fun k => spec_turned.l0 k x0 (x3 ++ [⟨f0, L2, f2, f3⟩]) x4 (wrap64 (x5 - 1))) R) :
    ∀ (m : Nat) (x7 : List Int), m ≤ L.length → x7.length + m = L.length → EvP (fun k => spec_turned.l1 k x0 x3 x4 x5 x7 ((m : Int) - 1) f0 L f2 f3) R
  | 0, x7, _, h => by
    refine EvP.succ ?_
    simp only [spec_turned.l1]
    exact EvP.neg (by omega) (EvP.pos (by omega) (hk x7 (by omega)))
  | m + 1, x7, hm, h => by
    refine EvP.succ ?_
    simp only [spec_turned.l1]
    refine EvP.pos (by omega) (EvP.pos (by omega) (EvP.pos (by omega) (EvP.pos (by omega) ?_)))
    have := ev_turned_in x0 x3 x4 x5 f0 f2 f3 L hL R hx3 hk m (x7 ++ [wrap64 (x4 - rd L (((m + 1 : Nat) : Int) - 1))]) (by omega) (by simp; omega)
    rw [show wrap64 (((m + 1 : Nat) : Int) - 1 - 1) = (m : Int) - 1 by rw [w64 (by omega) (by omega)]; omega]
    exact this
theorem ev_turned {n m : Nat} {g : List Tk} (hg : GSmall n m g) (hn : n ≤ 100) (hm : m ≤ 10000) : EvP (fun k => spec_turned.f k g) (fun r => r.length = g.length ∧ GSmall n m r) := by
  have key : ∀ (j : Nat) (x3 : List Tk) (x4 : Int), j ≤ g.length → x3.length + j = g.length → (∀ t ∈ x3, t.f1.length ≤ m) → EvP (fun k => spec_turned.l0 k g x3 x4 ((j : Int) - 1)) (fun r => r.length = g.length ∧ GSmall n m r) := by
    intro j
    induction j with
    | zero =>
      intro x3 x4 hj hl ht
      refine EvP.succ ?_
      simp only [spec_turned.l0]
      exact EvP.neg (by omega) (EvP.ret ⟨by show x3.length = _; omega, by have := hg.1; show x3.length ≤ n; omega, ht⟩)
    | succ j ih =>
      intro x3 x4 hj hl ht
      have hgl := hg.1
      refine EvP.succ ?_
      simp only [spec_turned.l0]
      refine EvP.pos (by omega) (EvP.pos (by omega) (EvP.pos (by omega) ?_))
      have hmem : rd_T33 g (((j + 1 : Nat) : Int) - 1) ∈ g := by
        unfold rd_T33
        rw [List.getD_eq_getElem?_getD, List.getElem?_eq_getElem (by omega), Option.getD_some]
        exact List.getElem_mem _
      have hlen := hg.2 _ hmem
      generalize rd_T33 g (((j + 1 : Nat) : Int) - 1) = t at *
      rw [show wrap64 ((t.f1.length : Int) - 1) = (t.f1.length : Int) - 1 from w64 (by omega) (by omega)]
      refine ev_turned_in g x3 x4 (((j + 1 : Nat) : Int) - 1) t.f0 t.f2 t.f3 t.f1 (by omega) _ (by omega) (fun L2 h2 => ?_) t.f1.length [] (Nat.le_refl _) (by simp)
      rw [show wrap64 (((j + 1 : Nat) : Int) - 1 - 1) = (j : Int) - 1 by rw [w64 (by omega) (by omega)]; omega]
      refine ih _ _ (by omega) (by simp; omega) (fun u hu => ?_)
      rcases List.mem_append.1 hu with hu | hu
      · exact ht u hu
      · rw [List.mem_singleton.1 hu]; show L2.length ≤ m; omega
  have hgl := hg.1
  unfold spec_turned.f
  rw [show wrap64 ((g.length : Int) - 1) = (g.length : Int) - 1 from w64 (by omega) (by omega)]
  exact key g.length [] _ (Nat.le_refl _) (by simp) (by simp)
theorem ev_some_in (g : List Tk) (x6 : Int) (s0 : List Int) (f0 f2 f3 : Int) (N : Int) (hg : g.length ≤ 8) (hN : N + 8 < 100000) (R : List Tk × Int → Prop)
    (hk : ∀ (L : List Int) (p : Int), L.length ≤ 8 → RS s0 (N + 8) p → EvP (fun k => spec_someGraph.l0 k (g ++ [⟨f0, L, f2, f3⟩]) (wrap64 (x6 - 1)) s0 p) R) :
    ∀ (d i : Nat) (L : List Int) (p : Int), i + d = g.length → L.length ≤ i → RS s0 (N + i) p → EvP (fun k => spec_someGraph.l1 k g x6 (i : Int) s0 p f0 L f2 f3) R
  | 0, i, L, p, h, hL, hp => by
    refine EvP.succ ?_
    simp only [spec_someGraph.l1]
    exact EvP.neg (by omega) (EvP.pos (by omega) (hk L p (by omega) (hp.mono (by omega) (by omega))))
  | d + 1, i, L, p, h, hL, hp => by
    refine EvP.succ ?_
    simp only [spec_someGraph.l1]
    refine EvP.pos (by omega) ?_
    refine (ev_pick hp (by omega)).bind fun a ha => ?_
    have hp2 : RS s0 (N + ((i + 1 : Nat) : Int)) a.2 := ha.2.2.mono (by omega) (by omega)
    rw [show wrap64 ((i : Int) + 1) = ((i + 1 : Nat) : Int) by rw [w64 (by omega) (by omega)]; omega]
    refine EvP.ite (fun _ => EvP.pos (by omega) ?_) (fun _ => ?_)
    · exact ev_some_in g x6 s0 f0 f2 f3 N hg hN R hk d (i + 1) _ _ (by omega) (by simp; omega) hp2
    · exact ev_some_in g x6 s0 f0 f2 f3 N hg hN R hk d (i + 1) _ _ (by omega) (by omega) hp2
theorem ev_some_out (s0 : List Int) : ∀ (j : Nat) (g : List Tk) (N p : Int), g.length + j ≤ 8 → N + j * 11 + 1 < 100000 → (∀ t ∈ g, t.f1.length ≤ 8) → RS s0 N p →
    EvP (fun k => spec_someGraph.l0 k g (j : Int) s0 p) (fun r => GSmall 8 8 r.1 ∧ RS s0 (N + j * 11 + 1) r.2)
  | 0, g, N, p, hg, hN, ht, hp => by
    refine EvP.succ ?_
    simp only [spec_someGraph.l0]
    refine EvP.neg (by omega) ?_
    refine EvP.ite (fun h1 => ?_) (fun _ => EvP.ret ⟨⟨by show g.length ≤ 8; omega, ht⟩, hp.mono (by omega) (by omega)⟩)
    refine (ev_pick hp (by omega)).bind fun a ha => ?_
    refine EvP.ite (fun _ => ?_) (fun _ => EvP.ret ⟨⟨by show g.length ≤ 8; omega, ht⟩, ha.2.2.mono (by omega) (by omega)⟩)
    refine (ev_turned (n := 8) (m := 8) ⟨by omega, ht⟩ (by omega) (by omega)).bind fun r hr => ?_
    exact EvP.ret ⟨hr.2, ha.2.2.mono (by omega) (by omega)⟩
  | j + 1, g, N, p, hg, hN, ht, hp => by
    refine EvP.succ ?_
    simp only [spec_someGraph.l0]
    refine EvP.pos (by omega) ?_
    refine (ev_one hp (by omega) _ (by simp)).bind fun a ha => ?_
    refine (ev_pick ha.2 (by omega)).bind fun b hb => ?_
    refine (ev_pick hb.2.2 (by omega)).bind fun c hc => ?_
    refine ev_some_in g ((j + 1 : Nat) : Int) s0 a.1 b.1 (wrap64 (1 + c.1)) (N + 1 + 1 + 1) (by omega) (by omega) _ (fun L q hL hq => ?_) g.length 0 [] _ (by omega) (by simp) (hc.2.2.mono (by omega) (by omega))
    rw [show wrap64 (((j + 1 : Nat) : Int) - 1) = (j : Int) by rw [w64 (by omega) (by omega)]; omega]
    refine (ev_some_out s0 j _ (N + 11) q (by simp; omega) (by omega) (fun u hu => ?_) (hq.mono (by omega) (by omega))).mono fun r hr => ⟨hr.1, hr.2.mono (by omega) (by omega)⟩
    rcases List.mem_append.1 hu with hu | hu
    · exact ht u hu
    · rw [List.mem_singleton.1 hu]; exact hL
theorem ev_someGraph {s0 : List Int} {N p : Int} (h : RS s0 N p) (hN : N + 100 < 100000) (a : Int) (ha : 0 ≤ a) : EvP (fun k => spec_someGraph.f k s0 p a) (fun r => GSmall 8 8 r.1 ∧ RS s0 (N + 100) r.2) := by
  unfold spec_someGraph.f
  refine (ev_one h (by omega) _ (by simp)).bind fun b hb => ?_
  have hb8 : 0 ≤ mn a b.1 ∧ mn a b.1 ≤ 8 := by
    have := hb.1
    simp at this
    unfold mn
    split <;> omega
  generalize mn a b.1 = c at *
  obtain ⟨j, rfl⟩ := Int.eq_ofNat_of_zero_le hb8.1
  exact (ev_some_out s0 j [] (N + 1) b.2 (by simp; omega) (by omega) (by simp) hb.2).mono fun r hr => ⟨hr.1, hr.2.mono (by omega) (by omega)⟩
theorem lim_evP {α : Type} {f : Nat → Option α} {Q : α → Prop} (hm : ∀ k, LeO (f k) (f (k + 1))) (h : EvP f Q) : EvP (fun _ => lim f) Q := by
  obtain ⟨r, h, q⟩ := h
  obtain ⟨k, hk⟩ := h.one
  exact ⟨r, ⟨0, fun _ _ => lim_of hm hk⟩, q⟩
theorem rdT_small {n m : Nat} {g : List Tk} (h : GSmall n m g) {i : Int} (h0 : 0 ≤ i) (h1 : i < (g.length : Int)) : (rd_T33 g i).f1.length ≤ m := by
  refine h.2 _ ?_
  unfold rd_T33
  rw [List.getD_eq_getElem?_getD, List.getElem?_eq_getElem (by omega), Option.getD_some]
  exact List.getElem_mem _
theorem small_set {n m m2 : Nat} {g : List Tk} (h : GSmall n m g) (i : Nat) (t : Tk) (ht : t.f1.length ≤ m2) (hm : m ≤ m2) {n2 : Nat} (hn : n ≤ n2) : GSmall n2 m2 (g.set i t) := by
  refine ⟨by rw [List.length_set]; have := h.1; omega, fun u hu => ?_⟩
  rcases List.mem_or_eq_of_mem_set hu with h1 | h1
  · have := h.2 u h1; omega
  · rw [h1]; exact ht
theorem ev_anyGraph {s0 : List Int} {N p : Int} (h : RS s0 N p) (hN : N + 210 < 100000) : EvP (fun _ => spec_anyGraph.f s0 p) (fun r => GSmall 16 10 r.1 ∧ RS s0 (N + 210) r.2) := by
  unfold spec_anyGraph.f
  refine lim_evP (fun k => spec_anyGraph.mono s0 p k) ?_
  unfold spec_anyGraph.fk
  refine (ev_someGraph h (by omega) 8 (by omega)).bind fun a ha => ?_
  have hs : GSmall 16 10 a.1 := ⟨by have := ha.1.1; omega, fun t ht => by have := ha.1.2 t ht; omega⟩
  refine EvP.ite (fun _ => EvP.ret ⟨hs, ha.2.mono (by omega) (by omega)⟩) (fun hne => ?_)
  refine (ev_pick ha.2 (by omega)).bind fun b hb => ?_
  refine (ev_pick hb.2.2 (by omega)).bind fun c hc => ?_
  have hb2 := hb.2.1 (by omega)
  refine EvP.neg (fun hh => hh hb2) ?_
  have hl := rdT_small ha.1 hb2.1 hb2.2
  generalize rd_T33 a.1 b.1 = tk at hl
  refine EvP.ite (fun _ => (ev_one hc.2.2 (by omega) _ (by simp)).bind fun d hd => EvP.ret ⟨small_set ha.1 _ _ (by show tk.f1.length ≤ 10; omega) (by omega) (by omega), hd.2.mono (by omega) (by omega)⟩) (fun _ => ?_)
  refine EvP.ite (fun _ => ?_) (fun _ => ?_)
  · refine (ev_pick hc.2.2 (by omega)).bind fun d hd => ?_
    refine EvP.pos (by omega) ?_
    refine (ev_spoil hd.2.2 (by omega) _ 8 (by simp; omega)).bind fun e he => ?_
    have := he.1
    simp only [List.length_append, List.length_cons, List.length_nil] at this
    exact EvP.ret ⟨small_set ha.1 _ _ (by show e.1.length ≤ 10; omega) (by omega) (by omega), he.2.mono (by omega) (by omega)⟩
  refine EvP.ite (fun _ => (ev_one hc.2.2 (by omega) _ (by simp)).bind fun d hd => EvP.ret ⟨small_set ha.1 _ _ (by show tk.f1.length ≤ 10; omega) (by omega) (by omega), hd.2.mono (by omega) (by omega)⟩) (fun _ => ?_)
  refine EvP.ite (fun _ => (ev_one hc.2.2 (by omega) _ (by simp)).bind fun d hd => EvP.ret ⟨small_set ha.1 _ _ (by show tk.f1.length ≤ 10; omega) (by omega) (by omega), hd.2.mono (by omega) (by omega)⟩) (fun _ => ?_)
  refine EvP.ite (fun _ => ?_) (fun _ => EvP.ret ⟨hs, hc.2.2.mono (by omega) (by omega)⟩)
  refine (ev_someGraph hc.2.2 (by omega) 8 (by omega)).bind fun d hd => ?_
  have h1 := ha.1.1
  have h2 := hd.1.1
  refine EvP.pos (by omega) (EvP.ret ⟨⟨by simp; omega, fun t ht => ?_⟩, hd.2.mono (by omega) (by omega)⟩)
  rcases List.mem_append.1 ht with ht | ht
  · have := ha.1.2 t ht; omega
  · have := hd.1.2 t ht; omega
theorem ev_someSet {s0 : List Int} {N p : Int} (h : RS s0 N p) (hN : N + 100 < 100000) (g : List Tk) (hg : g.length ≤ 16) : EvP (fun k => spec_someSet.f k s0 p g) (fun r => r.1.length ≤ 17 ∧ RS s0 (N + 100) r.2) := by
  have key : ∀ (d i : Nat) (L : List Int) (p : Int), i + d = g.length → L.length ≤ i → RS s0 (N + i) p → EvP (fun k => spec_someSet.l0 k g L (i : Int) s0 p) (fun r => r.1.length ≤ 17 ∧ RS s0 (N + 100) r.2) := by
    intro d
    induction d with
    | zero =>
      intro i L p h hL hp
      refine EvP.succ ?_
      simp only [spec_someSet.l0]
      refine EvP.neg (by omega) ?_
      refine (ev_spoil hp (by omega) L 8 (by omega)).bind fun a ha => ?_
      exact EvP.ret ⟨by have := ha.1; show a.1.length ≤ 17; omega, ha.2.mono (by omega) (by omega)⟩
    | succ d ih =>
      intro i L p h hL hp
      refine EvP.succ ?_
      simp only [spec_someSet.l0]
      refine EvP.pos (by omega) ?_
      refine (ev_pick hp (by omega)).bind fun a ha => ?_
      have hp2 : RS s0 (N + ((i + 1 : Nat) : Int)) a.2 := ha.2.2.mono (by omega) (by omega)
      rw [show wrap64 ((i : Int) + 1) = ((i + 1 : Nat) : Int) by rw [w64 (by omega) (by omega)]; omega]
      exact EvP.ite (fun _ => EvP.pos (by omega) (ih (i + 1) _ _ (by omega) (by simp; omega) hp2)) (fun _ => ih (i + 1) _ _ (by omega) (by omega) hp2)
  exact key g.length 0 [] p (by omega) (by simp) (h.mono (by omega) (by omega))
/-- The bytes of a code. -/
def Bytes (l : List Int) : Prop := ∀ x ∈ l, (Lit.int .u8 x).wf = true
theorem byte_of_wf {x : Int} (h : (Lit.int .u8 x).wf = true) : 0 ≤ x ∧ x ≤ 255 := by
  simp only [Lit.wf, IntKind.min, IntKind.max, IntKind.signed, IntKind.bits, Bool.and_eq_true, decide_eq_true_eq] at h
  simp at h
  omega
theorem ev_newReader {l : List Int} (h : Bytes l) : EvP (fun _ => spec_newReader.f l) (fun r => RS r.1 0 r.2) := by
  have hb : ∀ x ∈ l, 0 ≤ x ∧ x ≤ 255 := fun x hx => byte_of_wf (h x hx)
  unfold spec_newReader.f
  refine EvP.ite (fun h1 => EvP.pos (by omega) (EvP.ret ⟨by simp; omega, fun x hx => hb x (List.mem_of_mem_take hx), by omega, by omega, by omega⟩)) (fun h1 => EvP.ret ⟨by show l.length ≤ 2000; omega, hb, by show (0 : Int) ≤ 0; omega, by show (0 : Int) ≤ 0; omega, by omega⟩)
end Go.Proofs.YtffhdofcfkgoaaaDoor.Core
end
section
set_option linter.unusedVariables false
set_option linter.unusedSimpArgs false
namespace Go.Proofs.YtffhdofcfkgoaaaDoor.Core
open Go Go.RowKit Go.Proofs.YtffhdofcfkgoaaaDoorW.PrintWords Go.Proofs.YtffhdofcfkgoaaaDoorW.PrintMore Go.Proofs.YtffhdofcfkgoaaaDoor.P
theorem ev_someRoom {s0 : List Int} {N p : Int} (h : RS s0 N p) (hN : N + 100 < 100000) : EvP (fun k => spec_someRoom.f k s0 p) (fun r => r.1.length ≤ 4 ∧ RS s0 (N + 100) r.2) := by
  unfold spec_someRoom.f
  refine (ev_one h (by omega) _ (by simp)).bind fun a ha => ?_
  refine (ev_one ha.2 (by omega) _ (by simp)).bind fun b hb => ?_
  refine (ev_one hb.2 (by omega) _ (by simp)).bind fun c hc => ?_
  refine (ev_spoil hc.2 (by omega) _ 9 (by simp)).bind fun d hd => ?_
  exact EvP.ret ⟨by simpa using hd.1, hd.2.mono (by omega) (by omega)⟩
theorem ev_DrawRunsTogether {l : List Int} (h : Bytes l) : EvP (fun k => spec_DrawRunsTogether.f k l) (fun r => GSmall 16 10 r.1 ∧ r.2.1.length ≤ 4 ∧ r.2.2.length ≤ 17) := by
  unfold spec_DrawRunsTogether.f
  refine (ev_newReader h).bind fun a ha => ?_
  refine (ev_anyGraph ha (by omega)).bind fun b hb => ?_
  refine (ev_someRoom hb.2 (by omega)).bind fun c hc => ?_
  refine (ev_someSet hc.2 (by omega) _ hb.1.1).bind fun d hd => ?_
  exact EvP.ret ⟨hb.1, hc.1, hd.1⟩
end Go.Proofs.YtffhdofcfkgoaaaDoor.Core
end
section
set_option linter.unusedVariables false
set_option linter.unusedSimpArgs false
namespace Go.Proofs.YtffhdofcfkgoaaaDoor.Core
open Go Go.RowKit Go.Proofs.YtffhdofcfkgoaaaDoorW.PrintWords Go.Proofs.YtffhdofcfkgoaaaDoorW.PrintMore Go.Proofs.YtffhdofcfkgoaaaDoor.P
theorem asc_ext : ∀ {a b : List Int}, ascD a = true → ascD b = true → (∀ x, x ∈ a ↔ x ∈ b) → a = b
  | [], [], _, _, _ => rfl
  | [], y :: b, _, _, h => by have := (h y).2 List.mem_cons_self; cases this
  | x :: a, [], _, _, h => by have := (h x).1 List.mem_cons_self; cases this
  | x :: a, y :: b, ha, hb, h => by
    have h1 := asc_lt ha
    have h2 := asc_lt hb
    have e : x = y := by
      rcases List.mem_cons.1 ((h x).1 List.mem_cons_self) with e | e
      · exact e
      · rcases List.mem_cons.1 ((h y).2 List.mem_cons_self) with e' | e'
        · exact e'.symm
        · have := h1.2 y e'
          have := h2.2 x e
          omega
    subst e
    rw [asc_ext h1.1 h2.1 (fun z => ⟨fun hz => ?_, fun hz => ?_⟩)]
    · rcases List.mem_cons.1 ((h z).1 (List.mem_cons_of_mem _ hz)) with e | e
      · have := h1.2 z hz; omega
      · exact e
    · rcases List.mem_cons.1 ((h z).2 (List.mem_cons_of_mem _ hz)) with e | e
      · have := h2.2 z hz; omega
      · exact e
theorem asc_filter (p : Nat → Bool) : ∀ (m i : Nat), ascD (up ((List.range' i m).filter p)) = true ∧ ∀ x ∈ up ((List.range' i m).filter p), (i : Int) ≤ x
  | 0, i => ⟨rfl, by simp [up]⟩
  | m + 1, i => by
    have ih := asc_filter p m (i + 1)
    rw [List.range'_succ, List.filter_cons]
    split
    · refine ⟨asc_mk ih.1 (fun y hy => by have := ih.2 y hy; show (i : Int) < y; omega), fun x hx => ?_⟩
      rcases List.mem_cons.1 hx with rfl | hx
      · exact Int.le_refl _
      · have := ih.2 x hx; omega
    · exact ⟨ih.1, fun x hx => by have := ih.2 x hx; omega⟩
theorem asc_elems (s : Nat) : ascD (up (elemsN s)) = true := by
  unfold elemsN
  rw [List.range_eq_range']
  exact (asc_filter (fun i => s.testBit i) 8 0).1
/-- A list of ascending numbers is its set's. -/
theorem set_list {n : Nat} (hn : n ≤ 8) {l : List Int} {s : Nat} (h : setD n l = some s) : up (elemsN s) = l := by
  obtain ⟨h1, h2⟩ := setD_some h
  refine asc_ext (asc_elems s) h1.2 (fun x => ?_)
  constructor
  · intro hx
    obtain ⟨i, rfl, _, hi⟩ := mem_elems.1 hx
    rw [h2] at hi
    simpa using hi
  · intro hx
    have h3 := h1.1 x hx
    obtain ⟨i, rfl⟩ := Int.eq_ofNat_of_zero_le h3.1
    refine mem_elems.2 ⟨i, rfl, by omega, ?_⟩
    rw [h2]
    simpa using hx
theorem set_cases (n : Nat) (l : List Int) : (∃ s, setD n l = some s ∧ needsOk n l) ∨ (setD n l = none ∧ ¬ needsOk n l) := by
  cases h : setD n l with
  | some s => exact .inl ⟨s, rfl, (setD_some h).1⟩
  | none => exact .inr ⟨rfl, setD_none h⟩
/-- How many units of a pool tasks take. -/
def usedN (g : List Tk) (p : Int) : List Nat → Int
  | [] => 0
  | i :: r => (if (g.getD i z33).f2 = p then (g.getD i z33).f3 else 0) + usedN g p r
def UOk (g : List Tk) (L : List Nat) : Prop := ∀ i ∈ L, 1 ≤ (g.getD i z33).f3 ∧ (g.getD i z33).f3 ≤ 4
theorem count_fold (g : List Tk) : ∀ (L : List Nat) (c : Cn), UOk g L → L.length ≤ 100 → 0 ≤ c.u0 → c.u0 ≤ 1000 → 0 ≤ c.u1 → c.u1 ≤ 1000 → 0 ≤ c.u2 → c.u2 ≤ 1000 → c.u0 + 4 * L.length ≤ 1000 → c.u1 + 4 * L.length ≤ 1000 → c.u2 + 4 * L.length ≤ 1000 →
    (L.foldl (cstep g) c).u0 = c.u0 + usedN g 0 L ∧ (L.foldl (cstep g) c).u1 = c.u1 + usedN g 1 L ∧ (L.foldl (cstep g) c).u2 = c.u2 + usedN g 2 L
  | [], c, _, _, _, _, _, _, _, _, _, _, _ => by simp [usedN]
  | i :: r, c, h, hl, a0, b0, a1, b1, a2, b2, d0, d1, d2 => by
    have hi := h i List.mem_cons_self
    rw [List.foldl_cons]
    simp only [List.length_cons] at hl d0 d1 d2
    have e0 : (cstep g c i).u0 = c.u0 + (if (g.getD i z33).f2 = 0 then (g.getD i z33).f3 else 0) := by
      simp only [cstep, Cn.add]; split <;> (first | (rw [w64 (n := 1 * _) (by omega) (by omega), w64 (by omega) (by omega)]; omega) | omega)
    have e1 : (cstep g c i).u1 = c.u1 + (if (g.getD i z33).f2 = 1 then (g.getD i z33).f3 else 0) := by
      simp only [cstep, Cn.add]; split <;> (first | (rw [w64 (n := 1 * _) (by omega) (by omega), w64 (by omega) (by omega)]; omega) | omega)
    have e2 : (cstep g c i).u2 = c.u2 + (if (g.getD i z33).f2 = 2 then (g.getD i z33).f3 else 0) := by
      simp only [cstep, Cn.add]; split <;> (first | (rw [w64 (n := 1 * _) (by omega) (by omega), w64 (by omega) (by omega)]; omega) | omega)
    have b0' : (cstep g c i).u0 ≤ c.u0 + 4 ∧ c.u0 ≤ (cstep g c i).u0 := by rw [e0]; split <;> omega
    have b1' : (cstep g c i).u1 ≤ c.u1 + 4 ∧ c.u1 ≤ (cstep g c i).u1 := by rw [e1]; split <;> omega
    have b2' : (cstep g c i).u2 ≤ c.u2 + 4 ∧ c.u2 ≤ (cstep g c i).u2 := by rw [e2]; split <;> omega
    obtain ⟨r0, r1, r2⟩ := count_fold g r (cstep g c i) (fun j hj => h j (List.mem_cons_of_mem _ hj)) (by omega) (by omega) (by omega) (by omega) (by omega) (by omega) (by omega) (by omega) (by omega) (by omega)
    rw [r0, r1, r2, e0, e1, e2]
    simp only [usedN]
    omega
theorem countSet_used {g : List Tk} {s : Nat} (h : UOk g (elemsN s)) : (countSet g s).u0 = usedN g 0 (elemsN s) ∧ (countSet g s).u1 = usedN g 1 (elemsN s) ∧ (countSet g s).u2 = usedN g 2 (elemsN s) := by
  have hl := elemsN_length s
  obtain ⟨r0, r1, r2⟩ := count_fold g (elemsN s) Cn.zero h (by omega) (by decide) (by decide) (by decide) (by decide) (by decide) (by decide) (by simp [Cn.zero]; omega) (by simp [Cn.zero]; omega) (by simp [Cn.zero]; omega)
  unfold countSet
  rw [r0, r1, r2]
  simp [Cn.zero]
theorem rd_up' (L : List Nat) (i : Nat) : rd (up L) (i : Int) = ((L.getD i 0 : Nat) : Int) := rd_up rfl
theorem ev_used {g : List Tk} (p : Int) (L0 : List Nat) (hb : L0.length ≤ 100) (hL : ∀ i ∈ L0, i < g.length) (hu : UOk g L0) : Ev (fun k => spec_used.f k g (up L0) p) (usedN g p L0) := by
  have key : ∀ (r pre : List Nat) (acc : Int), L0 = pre ++ r → 0 ≤ acc → acc + 4 * r.length ≤ 1000 → Ev (fun k => spec_used.l0 k g (up L0) p acc (pre.length : Int)) (acc + usedN g p r) := by
    intro r
    induction r with
    | nil =>
      intro pre acc hp h0 h1
      rw [List.append_nil] at hp
      subst hp
      refine Ev.succ ?_
      simp only [spec_used.l0, up_length]
      refine Ev.neg (by omega) ((Ev.const _).conv ?_)
      simp [usedN]
    | cons i r ih =>
      intro pre acc hp h0 h1
      have hi : i < g.length := hL i (by rw [hp]; simp)
      have hui := hu i (by rw [hp]; simp)
      have hlen : L0.length = pre.length + (r.length + 1) := by rw [hp]; simp
      have hrd : rd (up L0) (pre.length : Int) = (i : Int) := by
        rw [rd_up', hp]; simp
      simp only [List.length_cons] at h1
      refine Ev.succ ?_
      simp only [spec_used.l0, up_length, hrd, rdT_nat]
      rw [w64 (n := (pre.length : Int) + 1) (by omega) (by omega)]
      refine Ev.pos (by omega) (Ev.pos (by omega) (Ev.pos (by omega) (Ev.pos (by omega) ?_)))
      by_cases h : (g.getD i z33).f2 = p
      · refine Ev.pos h ?_
        have := ih (pre ++ [i]) (acc + (g.getD i z33).f3) (by rw [hp]; simp) (by omega) (by omega)
        rw [w64 (by omega) (by omega)]
        have e : ((pre ++ [i]).length : Int) = (pre.length : Int) + 1 := by simp
        rw [e] at this
        refine this.conv ?_
        simp only [usedN, if_pos h]
        omega
      · refine Ev.neg h ?_
        have := ih (pre ++ [i]) acc (by rw [hp]; simp) (by omega) (by omega)
        have e : ((pre ++ [i]).length : Int) = (pre.length : Int) + 1 := by simp
        rw [e] at this
        refine this.conv ?_
        simp only [usedN, if_neg h]
        omega
  exact (key L0 [] 0 rfl (by omega) (by omega)).conv (by omega)
theorem ev_validRoom {L : List Int} (hL : L.length < big) : Ev (fun k => spec_validRoom.f k L) (decide (roomOk L)) := by
  unfold spec_validRoom.f
  by_cases h : L.length = 3
  · refine Ev.pos (by omega) (Ev.bind (ev_allIn hL 4 8) ((Ev.const _).conv ?_))
    rw [decide_eq_decide]
    exact ⟨fun x => ⟨h, x⟩, fun x => x.2⟩
  · refine Ev.neg (by omega) ((Ev.const _).conv ?_)
    rw [eq_comm, decide_eq_false_iff_not]
    exact fun x => h x.1
theorem graphD_uok {g : List Tk} {G : GD} (h : graphD g = some G) (s : Nat) (hs : s < 2 ^ g.length) : UOk g (elemsN s) ∧ ∀ i ∈ elemsN s, i < g.length := by
  have hlt : ∀ i ∈ elemsN s, i < g.length := fun i hi => elemsN_lt hs hi
  exact ⟨fun i hi => (graphD_taskOk h _ (getD_mem (hlt i hi))).2.2, hlt⟩
end Go.Proofs.YtffhdofcfkgoaaaDoor.Core
end
section
set_option linter.unusedVariables false
set_option linter.unusedSimpArgs false
namespace Go.Proofs.YtffhdofcfkgoaaaDoor.Core
open Go Go.RowKit Go.Shelf Go.Proofs.YtffhdofcfkgoaaaDoorW.PrintWords Go.Proofs.YtffhdofcfkgoaaaDoorW.PrintMore Go.Proofs.YtffhdofcfkgoaaaDoor.P
def runsD (g : List Tk) (room running : List Int) : Bool := match graphD g with
  | none => false
  | some G => if roomOk room then (match setD g.length running with | none => false | some s => fitsD (countSet g s) room) else false
end Go.Proofs.YtffhdofcfkgoaaaDoor.Core
namespace Go.Proofs.YtffhdofcfkgoaaaDoor.P
open Go Go.RowKit Go.Shelf Go.Proofs.YtffhdofcfkgoaaaDoorW.PrintWords Go.Proofs.YtffhdofcfkgoaaaDoorW.PrintMore Go.Proofs.YtffhdofcfkgoaaaDoor.Core
attribute [local go_sem] Oper.semAt_some wide_fn wide_depth
def impl_RunsTogether.f (l0 : List S33) (l1 : List Int) (l2 : List Int) : Option Bool := some (runsD l0 l1 l2)
set_option maxRecDepth 100000 in
set_option maxHeartbeats 4000000 in
theorem impl_RunsTogether.calls (A0 : Option Addr) (c0 : Nat) (l0 : List S33) (A1 : Option Addr) (c1 : Nat) (l1 : List Int) (A2 : Option Addr) (c2 : Nat) (l2 : List Int) (r : Bool) (w : World) (hr0 : Kd.C k33 w A0 l0.length l0) (hc0 : l0.length ≤ c0) (hr1 : Kd.C (Kd.int .i64) w A1 l1.length l1) (hc1 : l1.length ≤ c1) (hr2 : Kd.C (Kd.int .i64) w A2 l2.length l2) (hc2 : l2.length ≤ c2) (hT : Tab w) (h : impl_RunsTogether.f l0 l1 l2 = some r) :
    Calls Tryd.prog 23 #[.slice A0 l0.length c0, .slice A1 l1.length c1, .slice A2 l2.length c2] w fun e w' => e = .returned (.bool r) ∧ Below w.heap.size w w' := by
  have hr : r = runsD l0 l1 l2 := (Option.some.inj h).symm
  subst hr
  clear h
  cases hg : graphD l0 with
  | none =>
    have hcd : runsD l0 l1 l2 = false := by unfold runsD; rw [hg]
    rw [hcd]
    have HG := Aside0.mk (graphOf_none A0 c0 l0 w hT hr0 hc0 hg)
    clear hr0 hr1 hr2 hT hcd hg
    go_enter Tryd.func23, Tryd.ntmps23
    go_wp2_with (go_at_call 47; refine HG.out.mono ?_; rintro e w' ⟨rfl, hB⟩)
    go_ret
    exact ⟨rfl, hB⟩
  | some G =>
    have ok := graphD_ok hg
    have htk := graphD_tasks hg
    have HP := Aside0.mk (graphD_pool hg)
    have HG := Aside0.mk (graphOf_some A0 c0 l0 G w hT hr0 hc0 hg)
    have HR1 := Aside0.mk hr1
    have HR2 := Aside0.mk hr2
    have HT := Aside0.mk hT
    have hn8 := ok.n8
    have hdf : runsD l0 l1 l2 = if roomOk l1 then (match setD l0.length l2 with | none => false | some s => fitsD (countSet l0 s) l1) else false := by unfold runsD; rw [hg]
    subst htk
    clear hr0 hr1 hr2 hT hg
    by_cases hroom : roomOk l1
    · have hrt : decide (roomOk l1) = true := decide_eq_true hroom
      have h3 : l1.length = 3 := hroom.1
      have HRM := Aside0.mk hrt
      have HL3 := Aside0.mk h3
      rw [if_pos hroom] at hdf
      clear hroom hrt h3
      cases hs : setD G.tasks.length l2 with
      | none =>
        rw [hs] at hdf
        simp only [] at hdf
        rw [hdf]
        have HS := Aside0.mk hs
        clear hs hdf
        go_enter Tryd.func23, Tryd.ntmps23
        go_wp2_with (first
          | (go_at_call 47; refine HG.out.mono ?_; rintro e w1 ⟨b, rfl, hB, hG⟩)
          | (go_at_call 38; refine (room_is A1 c1 l1 true _ (Kd.C_below HR1.out hB) hc1 HRM.out).mono ?_; rintro e w2 ⟨rfl, hB2⟩; have hG2 := hG.move hB2; have hB3 := below_step hB hB2; clear hB2)
          | (go_at_call 54; refine (size_calls b G _ hG2).mono ?_; rintro e w3 ⟨rfl, rfl⟩)
          | (go_at_call 53; refine (setOf_none hn8 A2 c2 l2 _ (Kd.C_below HR2.out hB3) hc2 HS.out).mono ?_; rintro e w4 ⟨rfl, hB4⟩))
        go_ret
        exact ⟨rfl, below_step hB3 hB4⟩
      | some s =>
        rw [hs] at hdf
        simp only [] at hdf
        have HD := Aside0.mk hdf
        have hslt := setD_lt hs
        have HS := Aside0.mk hs
        clear hs hdf
        go_enter Tryd.func23, Tryd.ntmps23
        go_wp2_with (first
          | (go_at_call 47; refine HG.out.mono ?_; rintro e w1 ⟨b, rfl, hB, hG⟩)
          | (go_at_call 38; refine (room_is A1 c1 l1 true _ (Kd.C_below HR1.out hB) hc1 HRM.out).mono ?_; rintro e w2 ⟨rfl, hB2⟩; have hG2 := hG.move hB2; have hB3 := below_step hB hB2; clear hB2)
          | (go_at_call 54; refine (size_calls b G _ hG2).mono ?_; rintro e w3 ⟨rfl, rfl⟩)
          | (go_at_call 53; refine (setOf_some hn8 A2 c2 l2 s _ (Kd.C_below HR2.out hB3) hc2 HS.out).mono ?_; rintro e w4 ⟨rfl, hB4⟩; have hG5 := hG2.move hB4; have hB5 := below_step hB3 hB4; clear hB4)
          | (go_at_call 55; refine (counted_calls b G s _ (HT.out.of hB5) hG5 hn8 HP.out hslt).mono ?_; rintro e w6 ⟨rfl, hB6⟩; have hB7 := below_step hB5 hB6; clear hB6)
          | (go_at_call 56; refine (fits_calls (countSet G.tasks s) A1 c1 l1 _ HL3.out (Kd.C_below HR1.out hB7) hc1).mono ?_; rintro e w8 ⟨rfl, hB8⟩))
        go_ret
        exact ⟨by rw [HD.out]; rfl, below_step hB7 hB8⟩
    · rw [if_neg hroom] at hdf
      rw [hdf]
      have HRM : Aside0 (decide (roomOk l1) = false) := ⟨decide_eq_false hroom⟩
      clear hroom hdf
      go_enter Tryd.func23, Tryd.ntmps23
      go_wp2_with (first
        | (go_at_call 47; refine HG.out.mono ?_; rintro e w1 ⟨b, rfl, hB, hG⟩)
        | (go_at_call 38; refine (room_is A1 c1 l1 false _ (Kd.C_below HR1.out hB) hc1 HRM.out).mono ?_; rintro e w2 ⟨rfl, hB2⟩))
      go_ret
      exact ⟨rfl, below_step hB hB2⟩
end Go.Proofs.YtffhdofcfkgoaaaDoor.P
end
section
set_option linter.unusedVariables false
set_option linter.unusedSimpArgs false
namespace Go.Proofs.YtffhdofcfkgoaaaDoor.Core
open Go Go.RowKit Go.Proofs.YtffhdofcfkgoaaaDoorW.PrintWords Go.Proofs.YtffhdofcfkgoaaaDoorW.PrintMore Go.Proofs.YtffhdofcfkgoaaaDoor.P
theorem ev_vr_no (g : List Tk) (room l : List Int) : Ev (fun k => spec_validRunning.j0 k g room l true) false := by
  refine Ev.succ ?_
  simp only [spec_validRunning.j0, if_true]
  exact Ev.const _
theorem ev_vr_loop {g : List Tk} {room : List Int} (h3 : room.length = 3) {L : List Nat} (hb : L.length ≤ 100) (hL : ∀ i ∈ L, i < g.length) (hu : UOk g L) :
    Ev (fun k => spec_validRunning.l0 k g room (up L) 0) (decide (usedN g 0 L ≤ rd room 0) && decide (usedN g 1 L ≤ rd room 1) && decide (usedN g 2 L ≤ rd room 2)) := by
  refine Ev.succ ?_
  simp only [spec_validRunning.l0]
  refine Ev.pos (by omega) (Ev.bind (ev_used 0 L hb hL hu) (Ev.pos (by omega) (Ev.pos (by omega) ?_)))
  by_cases h0 : usedN g 0 L ≤ rd room 0
  rotate_left
  · exact Ev.pos (by omega) ((Ev.const _).conv (by rw [decide_eq_false h0]; rfl))
  refine Ev.neg (by omega) (Ev.succ ?_)
  simp only [spec_validRunning.l0, show wrap64 (0 + 1) = 1 from by unfold wrap64; omega]
  refine Ev.pos (by omega) (Ev.bind (ev_used 1 L hb hL hu) (Ev.pos (by omega) (Ev.pos (by omega) ?_)))
  by_cases h1 : usedN g 1 L ≤ rd room 1
  rotate_left
  · exact Ev.pos (by omega) ((Ev.const _).conv (by rw [decide_eq_false h1, decide_eq_true h0]; rfl))
  refine Ev.neg (by omega) (Ev.succ ?_)
  simp only [spec_validRunning.l0, show wrap64 (1 + 1) = 2 from by unfold wrap64; omega]
  refine Ev.pos (by omega) (Ev.bind (ev_used 2 L hb hL hu) (Ev.pos (by omega) (Ev.pos (by omega) ?_)))
  by_cases h2 : usedN g 2 L ≤ rd room 2
  rotate_left
  · exact Ev.pos (by omega) ((Ev.const _).conv (by rw [decide_eq_false h2, decide_eq_true h0, decide_eq_true h1]; rfl))
  refine Ev.neg (by omega) (Ev.succ ?_)
  simp only [spec_validRunning.l0, show wrap64 (2 + 1) = 3 from by unfold wrap64; omega]
  exact Ev.neg (by omega) ((Ev.const _).conv (by rw [decide_eq_true h2, decide_eq_true h0, decide_eq_true h1]; rfl))
theorem ev_validRunning {g : List Tk} (hg : Fits g) {room l : List Int} (hr : room.length < big) (hl : l.length < big) : Ev (fun k => spec_validRunning.f k g room l) (runsD g room l) := by
  unfold spec_validRunning.f runsD
  refine Ev.bind (ev_validGraph hg) ?_
  cases hG : graphD g with
  | none => exact Ev.neg (by simp) (ev_vr_no g room l)
  | some G =>
    refine Ev.pos rfl (Ev.bind (ev_validRoom hr) ?_)
    by_cases hroom : roomOk room
    rotate_left
    · exact Ev.neg (by simp [hroom]) ((ev_vr_no g room l).conv (by simp [hroom]))
    refine Ev.pos (by simp [hroom]) (Ev.bind (ev_ascends hl) ?_)
    have hbig := hg.1
    rw [w64 (n := (g.length : Int) - 1) (by omega) (by unfold big at hbig; omega)]
    have h8 : g.length ≤ 8 := by have := (graphD_ok hG).n8; rw [graphD_tasks hG] at this; exact this
    have hall := ev_allIn hl 0 ((g.length : Int) - 1)
    simp only [hroom, if_true]
    rcases set_cases g.length l with ⟨s, hs, hok⟩ | ⟨hs, hok⟩
    · rw [hs]
      refine Ev.pos hok.2 (Ev.bind hall ?_)
      rw [decide_eq_true hok.1]
      refine Ev.succ ?_
      simp only [spec_validRunning.j0, Bool.not_true, Bool.false_eq_true, if_false]
      have hlt := setD_lt hs
      obtain ⟨hu, hL⟩ := graphD_uok hG s hlt
      have he := set_list h8 hs
      have := ev_vr_loop (g := g) hroom.1 (L := elemsN s) (by have := elemsN_length s; omega) hL hu
      rw [he] at this
      refine this.conv ?_
      obtain ⟨e0, e1, e2⟩ := countSet_used hu
      simp only [fitsD, e0, e1, e2]
    · rw [hs]
      by_cases ha : ascD l = true
      · refine Ev.pos ha (Ev.bind hall ?_)
        rw [decide_eq_false (fun h => hok ⟨h, ha⟩)]
        exact ev_vr_no g room l
      · exact Ev.neg ha (ev_vr_no g room l)
theorem ev_RunsTogether {g : List Tk} (hg : Fits g) {room l : List Int} (hr : room.length < big) (hl : l.length < big) : Ev (fun k => spec_RunsTogether.f k g room l) (runsD g room l) := by
  unfold spec_RunsTogether.f
  exact Ev.bind (ev_validRunning hg hr hl) (Ev.const _)
end Go.Proofs.YtffhdofcfkgoaaaDoor.Core
end
section
set_option linter.unusedVariables false
set_option linter.unusedSimpArgs false
namespace Go.Proofs.YtffhdofcfkgoaaaDoor.Core
open Go Go.RowKit Go.Shelf Go.Proofs.YtffhdofcfkgoaaaDoorW.PrintWords Go.Proofs.YtffhdofcfkgoaaaDoorW.PrintMore Go.Proofs.YtffhdofcfkgoaaaDoor.P
def usedD (g : List Tk) (running : List Int) : List Int := match graphD g with
  | none => []
  | some _ => match setD g.length running with
    | none => []
    | some s => [(countSet g s).u0, (countSet g s).u1, (countSet g s).u2]
/-- A row of three numbers, the whole of an array. -/
theorem R_three {w : World} {b base t : Nat} {x y z : Int} (h : w.heap[b]? = some (.cells #[.int .i64 x, .int .i64 y, .int .i64 z] t (0, 0))) (hb : base ≤ b) : (Kd.int .i64).R t w base (fun _ => True) (.slice (some ⟨b, 0, none⟩) 3 3) [x, y, z] :=
  row_R (k := .i64) (xs := [x, y, z]) ⟨rfl, .inr ⟨b, 3, #[.int .i64 x, .int .i64 y, .int .i64 z], rfl, hb, h, Nat.le_refl _, by decide, rfl, rfl⟩⟩
end Go.Proofs.YtffhdofcfkgoaaaDoor.Core
namespace Go.Proofs.YtffhdofcfkgoaaaDoor.P
open Go Go.RowKit Go.Shelf Go.Proofs.YtffhdofcfkgoaaaDoorW.PrintWords Go.Proofs.YtffhdofcfkgoaaaDoorW.PrintMore Go.Proofs.YtffhdofcfkgoaaaDoor.Core
attribute [local go_sem] Oper.semAt_some wide_fn wide_depth
def impl_UsedUnits.f (l0 : List S33) (l1 : List Int) : Option (List Int) := some (usedD l0 l1)
set_option maxRecDepth 100000 in
set_option maxHeartbeats 4000000 in
theorem impl_UsedUnits.calls (A0 : Option Addr) (c0 : Nat) (l0 : List S33) (A1 : Option Addr) (c1 : Nat) (l1 : List Int) (r : List Int) (w : World) (hr0 : Kd.C k33 w A0 l0.length l0) (hc0 : l0.length ≤ c0) (hr1 : Kd.C (Kd.int .i64) w A1 l1.length l1) (hc1 : l1.length ≤ c1) (hT : Tab w) (h : impl_UsedUnits.f l0 l1 = some r) :
    Calls Tryd.prog 26 #[.slice A0 l0.length c0, .slice A1 l1.length c1] w fun e w' => ∃ v0_ : Value, e = .returned (v0_) ∧ Kd.R (Kd.int .i64) 73 w' w.heap.size (fun _ => True) v0_ r ∧ Below w.heap.size w w' := by
  have hr : r = usedD l0 l1 := (Option.some.inj h).symm
  subst hr
  clear h
  cases hg : graphD l0 with
  | none =>
    have hcd : usedD l0 l1 = [] := by unfold usedD; rw [hg]
    rw [hcd]
    have HG := Aside0.mk (graphOf_none A0 c0 l0 w hT hr0 hc0 hg)
    clear hr0 hr1 hT hcd hg
    go_enter Tryd.func26, Tryd.ntmps26
    go_wp2_with (go_at_call 47; refine HG.out.mono ?_; rintro e w' ⟨rfl, hB⟩)
    go_ret
    exact ⟨_, rfl, Kd.R_nil _ _ _ _ _, hB⟩
  | some G =>
    have ok := graphD_ok hg
    have htk := graphD_tasks hg
    have HP := Aside0.mk (graphD_pool hg)
    have HG := Aside0.mk (graphOf_some A0 c0 l0 G w hT hr0 hc0 hg)
    have HR1 := Aside0.mk hr1
    have HT := Aside0.mk hT
    have hn8 := ok.n8
    have hdf : usedD l0 l1 = match setD l0.length l1 with
      | none => []
      | some s => [(countSet l0 s).u0, (countSet l0 s).u1, (countSet l0 s).u2] := by unfold usedD; rw [hg]
    subst htk
    clear hr0 hr1 hT hg
    cases hs : setD G.tasks.length l1 with
    | none =>
      rw [hs] at hdf
      simp only [] at hdf
      rw [hdf]
      have HS := Aside0.mk hs
      clear hs hdf
      go_enter Tryd.func26, Tryd.ntmps26
      go_wp2_with (first
        | (go_at_call 47; refine HG.out.mono ?_; rintro e w1 ⟨b, rfl, hB, hG⟩)
        | (go_at_call 54; refine (size_calls b G _ hG).mono ?_; rintro e w3 ⟨rfl, rfl⟩)
        | (go_at_call 53; refine (setOf_none hn8 A1 c1 l1 _ (Kd.C_below HR1.out hB) hc1 HS.out).mono ?_; rintro e w4 ⟨rfl, hB4⟩))
      go_ret
      exact ⟨_, rfl, Kd.R_nil _ _ _ _ _, below_step hB hB4⟩
    | some s =>
      rw [hs] at hdf
      simp only [] at hdf
      have HD := Aside0.mk hdf
      have hslt := setD_lt hs
      have HS := Aside0.mk hs
      clear hs hdf
      have hfld : ∀ (t a b d : Int) (W : World), (Instr.field 75 (.agg #[.int .i64 t, .int .i64 a, .int .i64 b, .int .i64 d]) 1).run Tryd.prog W = .ok (.agg #[.int .i64 a, .int .i64 b, .int .i64 d]) W := fun _ _ _ _ _ => by kernel_rfl
      go_enter Tryd.func26, Tryd.ntmps26
      go_wp2_with (first
        | (go_at_call 47; refine HG.out.mono ?_; rintro e w1 ⟨b, rfl, hB, hG⟩)
        | (go_at_call 54; refine (size_calls b G _ hG).mono ?_; rintro e w3 ⟨rfl, rfl⟩)
        | (go_at_call 53; refine (setOf_some hn8 A1 c1 l1 s _ (Kd.C_below HR1.out hB) hc1 HS.out).mono ?_; rintro e w4 ⟨rfl, hB4⟩; have hG5 := hG.move hB4; have hB5 := below_step hB hB4; clear hB4)
        | (go_at_call 55; refine (counted_calls b G s _ (HT.out.of hB5) hG5 hn8 HP.out hslt).mono ?_; rintro e w6 ⟨rfl, hB6⟩; have hB7 := below_step hB5 hB6; clear hB6))
      go_ret
      rw [HD.out]
      exact ⟨_, rfl, R_three (cells_new _ _) hB7.size, hB7.alloc hB7.size _⟩
end Go.Proofs.YtffhdofcfkgoaaaDoor.P
end
section
namespace Go.Proofs.YtffhdofcfkgoaaaDoor.P
open Go.Proofs.YtffhdofcfkgoaaaDoor.Core (Tab Tab.of)
open Go.RowKit Go.Proofs.YtffhdofcfkgoaaaDoorW.PrintWords Go.Proofs.YtffhdofcfkgoaaaDoorW.PrintLast Go.Proofs.YtffhdofcfkgoaaaDoorW.PrintMore
attribute [local go_sem] max2_int min2_int max_two min_two max_three min_three max_four min_four   -- for this text's walks alone
set_option linter.unusedVariables false
set_option linter.unusedSimpArgs false
mutual
noncomputable def laws_FnRunsTogetherUnits.j0 : Nat → List (S33) → List Int → List Int → Bool → List Int → Bool → Option (Bool)
  | 0, _, _, _, _, _, _ => none
  | k + 1, x3, x4, x5, x6, x7, x41 => if x41 = true then ((spec_RunsTogether.f k x3 x4 x5).bind fun t669 => (some (x6 == t669))) else (laws_FnRunsTogetherUnits.l0 k x4 x6 x7 true 0)
noncomputable def laws_FnRunsTogetherUnits.l0 : Nat → List Int → Bool → List Int → Bool → Int → Option (Bool)
  | 0, _, _, _, _, _ => none
  | k + 1, x4, x6, x7, x8, x9 => if x9 < (x7.length : Int) then (if x8 = true then (if 0 ≤ x9 then (if x9 < (x4.length : Int) then (laws_FnRunsTogetherUnits.l0 k x4 x6 x7 (decide ((rd x7 x9) ≤ (rd x4 x9))) (wrap64 (x9 + 1))) else (none)) else (none)) else (laws_FnRunsTogetherUnits.l0 k x4 x6 x7 false (wrap64 (x9 + 1)))) else (some (x8 == x6))
end
noncomputable def laws_FnRunsTogetherUnits.f (k : Nat) (l0 : List Int) : Option (Bool) := if (l0.length : Int) > 1048576 then (some true) else ((spec_DrawRunsTogether.f k l0).bind fun bt654 => ((impl_RunsTogether.f bt654.1 bt654.2.1 bt654.2.2).bind fun t663 => ((impl_UsedUnits.f bt654.1 bt654.2.2).bind fun t664 => ((spec_RunsTogether.f k bt654.1 bt654.2.1 bt654.2.2).bind fun t667 => (if (t663 != t667) = true then (laws_FnRunsTogetherUnits.j0 k bt654.1 bt654.2.1 bt654.2.2 t663 t664 true) else (if (t664.length : Int) = 3 then ((impl_ValidRoom.f k bt654.2.1).bind fun t668 => (laws_FnRunsTogetherUnits.j0 k bt654.1 bt654.2.1 bt654.2.2 t663 t664 (!t668))) else (laws_FnRunsTogetherUnits.j0 k bt654.1 bt654.2.1 bt654.2.2 t663 t664 true)))))))
theorem laws_FnRunsTogetherUnits.mono_l : ∀ k, (∀ y0 y1 y2 y3 y4 y5, LeO (laws_FnRunsTogetherUnits.j0 k y0 y1 y2 y3 y4 y5) (laws_FnRunsTogetherUnits.j0 (k + 1) y0 y1 y2 y3 y4 y5)) ∧ (∀ y0 y1 y2 y3 y4, LeO (laws_FnRunsTogetherUnits.l0 k y0 y1 y2 y3 y4) (laws_FnRunsTogetherUnits.l0 (k + 1) y0 y1 y2 y3 y4))
  | 0 => ⟨fun _ _ _ _ _ _ r h => by simp [laws_FnRunsTogetherUnits.j0] at h, fun _ _ _ _ _ r h => by simp [laws_FnRunsTogetherUnits.l0] at h⟩
  | k + 1 => by
    obtain ⟨ih0, ih1⟩ := laws_FnRunsTogetherUnits.mono_l k
    refine ⟨?_, ?_⟩
    · intro y0 y1 y2 y3 y4 y5
      unfold laws_FnRunsTogetherUnits.j0
      repeat' first
      | (with_reducible exact ih0 _ _ _ _ _ _)
      | (with_reducible exact ih1 _ _ _ _ _)
      | (with_reducible exact impl_ValidRoom.mono _ _)
      | (with_reducible exact spec_DrawRunsTogether.mono _ _)
      | (with_reducible exact spec_RunsTogether.mono _ _ _ _)
      | (with_reducible exact LeO.refl _)
      | (with_reducible exact LeO.none _)
      | (with_reducible refine LeO.ite ?_ ?_)
      | (with_reducible refine LeO.bind ?_ (fun _ => ?_))
      | exact ih0 _ _ _ _ _ _
      | exact ih1 _ _ _ _ _
      | exact impl_ValidRoom.mono _ _
      | exact spec_DrawRunsTogether.mono _ _
      | exact spec_RunsTogether.mono _ _ _ _
      | exact LeO.none _
      | refine LeO.ite ?_ ?_
      | refine LeO.bind ?_ (fun _ => ?_)
    · intro y0 y1 y2 y3 y4
      unfold laws_FnRunsTogetherUnits.l0
      repeat' first
      | (with_reducible exact ih0 _ _ _ _ _ _)
      | (with_reducible exact ih1 _ _ _ _ _)
      | (with_reducible exact impl_ValidRoom.mono _ _)
      | (with_reducible exact spec_DrawRunsTogether.mono _ _)
      | (with_reducible exact spec_RunsTogether.mono _ _ _ _)
      | (with_reducible exact LeO.refl _)
      | (with_reducible exact LeO.none _)
      | (with_reducible refine LeO.ite ?_ ?_)
      | (with_reducible refine LeO.bind ?_ (fun _ => ?_))
      | exact ih0 _ _ _ _ _ _
      | exact ih1 _ _ _ _ _
      | exact impl_ValidRoom.mono _ _
      | exact spec_DrawRunsTogether.mono _ _
      | exact spec_RunsTogether.mono _ _ _ _
      | exact LeO.none _
      | refine LeO.ite ?_ ?_
      | refine LeO.bind ?_ (fun _ => ?_)
theorem laws_FnRunsTogetherUnits.mono : ∀ a0 k, LeO (laws_FnRunsTogetherUnits.f k a0) (laws_FnRunsTogetherUnits.f (k + 1) a0) := by
  intro a0 k
  obtain ⟨ih0, ih1⟩ := laws_FnRunsTogetherUnits.mono_l k
  unfold laws_FnRunsTogetherUnits.f
  repeat' first
      | (with_reducible exact ih0 _ _ _ _ _ _)
      | (with_reducible exact ih1 _ _ _ _ _)
      | (with_reducible exact impl_ValidRoom.mono _ _)
      | (with_reducible exact spec_DrawRunsTogether.mono _ _)
      | (with_reducible exact spec_RunsTogether.mono _ _ _ _)
      | (with_reducible exact LeO.refl _)
      | (with_reducible exact LeO.none _)
      | (with_reducible refine LeO.ite ?_ ?_)
      | (with_reducible refine LeO.bind ?_ (fun _ => ?_))
      | exact ih0 _ _ _ _ _ _
      | exact ih1 _ _ _ _ _
      | exact impl_ValidRoom.mono _ _
      | exact spec_DrawRunsTogether.mono _ _
      | exact spec_RunsTogether.mono _ _ _ _
      | exact LeO.none _
      | refine LeO.ite ?_ ?_
      | refine LeO.bind ?_ (fun _ => ?_)
set_option maxHeartbeats 8000000 in
set_option maxRecDepth 100000 in
theorem laws_FnRunsTogetherUnits.calls (k : Nat) (A0 : Option Addr) (c0 : Nat) (l0 : List Int) (r : Bool) (w : World) (hr0 : Kd.C (Kd.int .u8) w A0 l0.length l0) (hc0 : l0.length ≤ c0) (hT : Tab w) (h : laws_FnRunsTogetherUnits.f k l0 = some r) :
    Calls Tryd.prog 13 #[.slice A0 l0.length c0] w fun e w' => e = .returned (.bool r) ∧ Below w.heap.size w w' := by
  have HT := Aside0.mk hT
  clear hT
  have HR0 := Aside0.mk hr0
  have HC0 := Aside0.mk hc0
  clear hr0 hc0
  have HB := Aside0.mk (Below.refl w.heap.size w)
  have H : (if (l0.length : Int) > 1048576 then (some true) else ((spec_DrawRunsTogether.f k l0).bind fun bt654 => ((impl_RunsTogether.f bt654.1 bt654.2.1 bt654.2.2).bind fun t663 => ((impl_UsedUnits.f bt654.1 bt654.2.2).bind fun t664 => ((spec_RunsTogether.f k bt654.1 bt654.2.1 bt654.2.2).bind fun t667 => (if (t663 != t667) = true then (laws_FnRunsTogetherUnits.j0 k bt654.1 bt654.2.1 bt654.2.2 t663 t664 true) else (if (t664.length : Int) = 3 then ((impl_ValidRoom.f k bt654.2.1).bind fun t668 => (laws_FnRunsTogetherUnits.j0 k bt654.1 bt654.2.1 bt654.2.2 t663 t664 (!t668))) else (laws_FnRunsTogetherUnits.j0 k bt654.1 bt654.2.1 bt654.2.2 t663 t664 true)))))))) = some r := h
  clear h
  by_cases c2 : (l0.length : Int) > 1048576
  · rw [if_pos c2] at H
    have c2b0 : decide (1048576 < (l0.length : Int)) = true := decide_eq_true c2
    have c2b1 : decide (1048576 < l0.length) = true := decide_eq_true (by omega)
    clear c2
    obtain rfl := Option.some.inj H
    go_enter Tryd.func13, Tryd.ntmps13
    go_wp2
    repeat (go_quiet (fail); try go_wp2)
    go_ret
    exact ⟨by first | rfl | (simp [errW_none, errW_some] <;> rfl) | (simp [*, errW_none, errW_some] <;> rfl), by repeat (first | (with_reducible first | exact HB.out | apply below_alloc | apply pw_below_drewN | apply below_drew1) | exact HB.out)⟩
  · rw [if_neg c2] at H
    have c2b0 : decide (1048576 < (l0.length : Int)) = false := decide_eq_false c2
    have c2b1 : decide (1048576 < l0.length) = false := decide_eq_false (by omega)
    clear c2
    replace H := Option.bind_eq_some_iff.mp H
    obtain ⟨⟨t654, t655, t656⟩, A30, H⟩ := H
    replace H : ((impl_RunsTogether.f t654 t655 t656).bind fun t663 => ((impl_UsedUnits.f t654 t656).bind fun t664 => ((spec_RunsTogether.f k t654 t655 t656).bind fun t667 => (if (t663 != t667) = true then (laws_FnRunsTogetherUnits.j0 k t654 t655 t656 t663 t664 true) else (if (t664.length : Int) = 3 then ((impl_ValidRoom.f k t655).bind fun t668 => (laws_FnRunsTogetherUnits.j0 k t654 t655 t656 t663 t664 (!t668))) else (laws_FnRunsTogetherUnits.j0 k t654 t655 t656 t663 t664 true)))))) = some r := H
    have A3 := Aside0.mk A30
    clear A30
    replace H := Option.bind_eq_some_iff.mp H
    obtain ⟨t663, A40, H⟩ := H
    replace H : ((impl_UsedUnits.f t654 t656).bind fun t664 => ((spec_RunsTogether.f k t654 t655 t656).bind fun t667 => (if (t663 != t667) = true then (laws_FnRunsTogetherUnits.j0 k t654 t655 t656 t663 t664 true) else (if (t664.length : Int) = 3 then ((impl_ValidRoom.f k t655).bind fun t668 => (laws_FnRunsTogetherUnits.j0 k t654 t655 t656 t663 t664 (!t668))) else (laws_FnRunsTogetherUnits.j0 k t654 t655 t656 t663 t664 true))))) = some r := H
    have A4 := Aside0.mk A40
    clear A40
    replace H := Option.bind_eq_some_iff.mp H
    obtain ⟨t664, A50, H⟩ := H
    replace H : ((spec_RunsTogether.f k t654 t655 t656).bind fun t667 => (if (t663 != t667) = true then (laws_FnRunsTogetherUnits.j0 k t654 t655 t656 t663 t664 true) else (if (t664.length : Int) = 3 then ((impl_ValidRoom.f k t655).bind fun t668 => (laws_FnRunsTogetherUnits.j0 k t654 t655 t656 t663 t664 (!t668))) else (laws_FnRunsTogetherUnits.j0 k t654 t655 t656 t663 t664 true)))) = some r := H
    have A5 := Aside0.mk A50
    clear A50
    have HC6 := Aside0.mk H
    clear H
    go_enter Tryd.func13, Tryd.ntmps13
    go_upto_region 6 with (first | (go_at_call 37; (with_reducible refine (spec_DrawRunsTogether.calls k _ _ l0 t654 t655 t656 _ ?side1 ?side2 A3.out).mono ?_); (case side1 => repeat (first | exact HR0.out | (with_reducible refine Kd.C_alloc ?_ _) | (with_reducible refine Kd.C_drewN ?_ _) | (with_reducible refine Kd.C_drew ?_))); (case side2 => exact HC0.out); rintro e w7 ⟨v657, v659, v661, rfl, ho0, ho1, ho2, hb⟩; have n0_ := Aside0.mk (Kd.S_lower ho0 (below_size (by repeat (first | (with_reducible first | exact HB.out | apply below_alloc | apply pw_below_drewN | apply below_drew1) | exact HB.out)))); have n1_ := Aside0.mk (Kd.Q_lower ho1 (below_size (by repeat (first | (with_reducible first | exact HB.out | apply below_alloc | apply pw_below_drewN | apply below_drew1) | exact HB.out)))); have n2_ := Aside0.mk (Kd.Q_lower ho2 (below_size (by repeat (first | (with_reducible first | exact HB.out | apply below_alloc | apply pw_below_drewN | apply below_drew1) | exact HB.out)))); have n3_ := Aside0.mk (below_step (by repeat (first | (with_reducible first | exact HB.out | apply below_alloc | apply pw_below_drewN | apply below_drew1) | exact HB.out)) hb); clear HB; have HO658 := n0_; have HO660 := n1_; have HO662 := n2_; have HB := n3_; clear n0_ n1_ n2_ n3_; (try clear hb); (try clear hb2); (try clear hk); (try clear hi); (try clear ho0); (try clear ho1); (try clear ho2); obtain ⟨Ao8, co8, eo8⟩ := Kd.S_slice HO658.out; subst eo8; obtain ⟨Ao9, co9, eo9, _⟩ := Kd.Q_slice HO660.out; subst eo9; obtain ⟨Ao10, co10, eo10, _⟩ := Kd.Q_slice HO662.out; subst eo10) | (go_at_call 23; (with_reducible refine (impl_RunsTogether.calls _ _ t654 _ _ t655 _ _ t656 t663 _ ?side1 ?side2 ?side3 ?side4 ?side5 ?side6 ?side7 A4.out).mono ?_); (case side1 => repeat (first | exact (Kd.S_reads' HO658.out).2.2 | (with_reducible refine Kd.C_alloc ?_ _) | (with_reducible refine Kd.C_drewN ?_ _) | (with_reducible refine Kd.C_drew ?_))); (case side2 => exact (Kd.S_reads' HO658.out).2.1); (case side3 => repeat (first | exact (Kd.Q_reads' HO660.out).2.2 | (with_reducible refine Kd.C_alloc ?_ _) | (with_reducible refine Kd.C_drewN ?_ _) | (with_reducible refine Kd.C_drew ?_))); (case side4 => exact (Kd.Q_reads' HO660.out).2.1); (case side5 => repeat (first | exact (Kd.Q_reads' HO662.out).2.2 | (with_reducible refine Kd.C_alloc ?_ _) | (with_reducible refine Kd.C_drewN ?_ _) | (with_reducible refine Kd.C_drew ?_))); (case side6 => exact (Kd.Q_reads' HO662.out).2.1); (case side7 => exact Tab.of HT.out (by repeat (first | (with_reducible first | exact HB.out | apply below_alloc | apply pw_below_drewN | apply below_drew1) | exact HB.out))); rintro e w11 ⟨rfl, hb⟩; have n0_ := Aside0.mk (Kd.S_below (by (with_reducible repeat (first | apply Kd.S_alloc | apply Kd.S_drewN | apply Kd.S_drew)); exact HO658.out) hb); have n1_ := Aside0.mk (Kd.Q_below (by (with_reducible repeat (first | apply Kd.Q_alloc | apply Kd.Q_drewN | apply Kd.Q_drew)); exact HO660.out) hb); have n2_ := Aside0.mk (Kd.Q_below (by (with_reducible repeat (first | apply Kd.Q_alloc | apply Kd.Q_drewN | apply Kd.Q_drew)); exact HO662.out) hb); have n3_ := Aside0.mk (below_step (by repeat (first | (with_reducible first | exact HB.out | apply below_alloc | apply pw_below_drewN | apply below_drew1) | exact HB.out)) hb); clear HO658; clear HO660; clear HO662; clear HB; have HO658 := n0_; have HO660 := n1_; have HO662 := n2_; have HB := n3_; clear n0_ n1_ n2_ n3_; (try clear hb); (try clear hb2); (try clear hk); (try clear hi)) | (go_at_call 26; (with_reducible refine (impl_UsedUnits.calls _ _ t654 _ _ t656 t664 _ ?side1 ?side2 ?side3 ?side4 ?side5 A5.out).mono ?_); (case side1 => repeat (first | exact (Kd.S_reads' HO658.out).2.2 | (with_reducible refine Kd.C_alloc ?_ _) | (with_reducible refine Kd.C_drewN ?_ _) | (with_reducible refine Kd.C_drew ?_))); (case side2 => exact (Kd.S_reads' HO658.out).2.1); (case side3 => repeat (first | exact (Kd.Q_reads' HO662.out).2.2 | (with_reducible refine Kd.C_alloc ?_ _) | (with_reducible refine Kd.C_drewN ?_ _) | (with_reducible refine Kd.C_drew ?_))); (case side4 => exact (Kd.Q_reads' HO662.out).2.1); (case side5 => exact Tab.of HT.out (by repeat (first | (with_reducible first | exact HB.out | apply below_alloc | apply pw_below_drewN | apply below_drew1) | exact HB.out))); rintro e w12 ⟨v665, rfl, ho0, hb⟩; have n0_ := Aside0.mk (Kd.S_elder' (by (with_reducible repeat (first | apply Kd.S_alloc | apply Kd.S_drewN | apply Kd.S_drew)); exact HO658.out) (Kd.R_base ho0) hb); have n1_ := Aside0.mk (Kd.Q_elder' (by (with_reducible repeat (first | apply Kd.Q_alloc | apply Kd.Q_drewN | apply Kd.Q_drew)); exact HO660.out) (Kd.R_base ho0) hb); have n2_ := Aside0.mk (Kd.Q_elder' (by (with_reducible repeat (first | apply Kd.Q_alloc | apply Kd.Q_drewN | apply Kd.Q_drew)); exact HO662.out) (Kd.R_base ho0) hb); have n3_ := Aside0.mk (Kd.R_lower (Kd.R_new' (Kd.R_new' ho0 (Kd.Q_lt (by (with_reducible repeat (first | apply Kd.Q_alloc | apply Kd.Q_drewN | apply Kd.Q_drew)); exact HO660.out))) (Kd.Q_lt (by (with_reducible repeat (first | apply Kd.Q_alloc | apply Kd.Q_drewN | apply Kd.Q_drew)); exact HO662.out))) (below_size (by repeat (first | (with_reducible first | exact HB.out | apply below_alloc | apply pw_below_drewN | apply below_drew1) | exact HB.out)))); have n4_ := Aside0.mk (below_step (by repeat (first | (with_reducible first | exact HB.out | apply below_alloc | apply pw_below_drewN | apply below_drew1) | exact HB.out)) hb); clear HO658; clear HO660; clear HO662; clear HB; have HO658 := n0_; have HO660 := n1_; have HO662 := n2_; have HO666 := n3_; have HB := n4_; clear n0_ n1_ n2_ n3_ n4_; (try clear hb); (try clear hb2); (try clear hk); (try clear hi); (try clear ho0)))
    repeat (go_quiet (first | (go_at_call 37; (with_reducible refine (spec_DrawRunsTogether.calls k _ _ l0 t654 t655 t656 _ ?side1 ?side2 A3.out).mono ?_); (case side1 => repeat (first | exact HR0.out | (with_reducible refine Kd.C_alloc ?_ _) | (with_reducible refine Kd.C_drewN ?_ _) | (with_reducible refine Kd.C_drew ?_))); (case side2 => exact HC0.out); rintro e w7 ⟨v657, v659, v661, rfl, ho0, ho1, ho2, hb⟩; have n0_ := Aside0.mk (Kd.S_lower ho0 (below_size (by repeat (first | (with_reducible first | exact HB.out | apply below_alloc | apply pw_below_drewN | apply below_drew1) | exact HB.out)))); have n1_ := Aside0.mk (Kd.Q_lower ho1 (below_size (by repeat (first | (with_reducible first | exact HB.out | apply below_alloc | apply pw_below_drewN | apply below_drew1) | exact HB.out)))); have n2_ := Aside0.mk (Kd.Q_lower ho2 (below_size (by repeat (first | (with_reducible first | exact HB.out | apply below_alloc | apply pw_below_drewN | apply below_drew1) | exact HB.out)))); have n3_ := Aside0.mk (below_step (by repeat (first | (with_reducible first | exact HB.out | apply below_alloc | apply pw_below_drewN | apply below_drew1) | exact HB.out)) hb); clear HB; have HO658 := n0_; have HO660 := n1_; have HO662 := n2_; have HB := n3_; clear n0_ n1_ n2_ n3_; (try clear hb); (try clear hb2); (try clear hk); (try clear hi); (try clear ho0); (try clear ho1); (try clear ho2); obtain ⟨Ao8, co8, eo8⟩ := Kd.S_slice HO658.out; subst eo8; obtain ⟨Ao9, co9, eo9, _⟩ := Kd.Q_slice HO660.out; subst eo9; obtain ⟨Ao10, co10, eo10, _⟩ := Kd.Q_slice HO662.out; subst eo10) | (go_at_call 23; (with_reducible refine (impl_RunsTogether.calls _ _ t654 _ _ t655 _ _ t656 t663 _ ?side1 ?side2 ?side3 ?side4 ?side5 ?side6 ?side7 A4.out).mono ?_); (case side1 => repeat (first | exact (Kd.S_reads' HO658.out).2.2 | (with_reducible refine Kd.C_alloc ?_ _) | (with_reducible refine Kd.C_drewN ?_ _) | (with_reducible refine Kd.C_drew ?_))); (case side2 => exact (Kd.S_reads' HO658.out).2.1); (case side3 => repeat (first | exact (Kd.Q_reads' HO660.out).2.2 | (with_reducible refine Kd.C_alloc ?_ _) | (with_reducible refine Kd.C_drewN ?_ _) | (with_reducible refine Kd.C_drew ?_))); (case side4 => exact (Kd.Q_reads' HO660.out).2.1); (case side5 => repeat (first | exact (Kd.Q_reads' HO662.out).2.2 | (with_reducible refine Kd.C_alloc ?_ _) | (with_reducible refine Kd.C_drewN ?_ _) | (with_reducible refine Kd.C_drew ?_))); (case side6 => exact (Kd.Q_reads' HO662.out).2.1); (case side7 => exact Tab.of HT.out (by repeat (first | (with_reducible first | exact HB.out | apply below_alloc | apply pw_below_drewN | apply below_drew1) | exact HB.out))); rintro e w11 ⟨rfl, hb⟩; have n0_ := Aside0.mk (Kd.S_below (by (with_reducible repeat (first | apply Kd.S_alloc | apply Kd.S_drewN | apply Kd.S_drew)); exact HO658.out) hb); have n1_ := Aside0.mk (Kd.Q_below (by (with_reducible repeat (first | apply Kd.Q_alloc | apply Kd.Q_drewN | apply Kd.Q_drew)); exact HO660.out) hb); have n2_ := Aside0.mk (Kd.Q_below (by (with_reducible repeat (first | apply Kd.Q_alloc | apply Kd.Q_drewN | apply Kd.Q_drew)); exact HO662.out) hb); have n3_ := Aside0.mk (below_step (by repeat (first | (with_reducible first | exact HB.out | apply below_alloc | apply pw_below_drewN | apply below_drew1) | exact HB.out)) hb); clear HO658; clear HO660; clear HO662; clear HB; have HO658 := n0_; have HO660 := n1_; have HO662 := n2_; have HB := n3_; clear n0_ n1_ n2_ n3_; (try clear hb); (try clear hb2); (try clear hk); (try clear hi)) | (go_at_call 26; (with_reducible refine (impl_UsedUnits.calls _ _ t654 _ _ t656 t664 _ ?side1 ?side2 ?side3 ?side4 ?side5 A5.out).mono ?_); (case side1 => repeat (first | exact (Kd.S_reads' HO658.out).2.2 | (with_reducible refine Kd.C_alloc ?_ _) | (with_reducible refine Kd.C_drewN ?_ _) | (with_reducible refine Kd.C_drew ?_))); (case side2 => exact (Kd.S_reads' HO658.out).2.1); (case side3 => repeat (first | exact (Kd.Q_reads' HO662.out).2.2 | (with_reducible refine Kd.C_alloc ?_ _) | (with_reducible refine Kd.C_drewN ?_ _) | (with_reducible refine Kd.C_drew ?_))); (case side4 => exact (Kd.Q_reads' HO662.out).2.1); (case side5 => exact Tab.of HT.out (by repeat (first | (with_reducible first | exact HB.out | apply below_alloc | apply pw_below_drewN | apply below_drew1) | exact HB.out))); rintro e w12 ⟨v665, rfl, ho0, hb⟩; have n0_ := Aside0.mk (Kd.S_elder' (by (with_reducible repeat (first | apply Kd.S_alloc | apply Kd.S_drewN | apply Kd.S_drew)); exact HO658.out) (Kd.R_base ho0) hb); have n1_ := Aside0.mk (Kd.Q_elder' (by (with_reducible repeat (first | apply Kd.Q_alloc | apply Kd.Q_drewN | apply Kd.Q_drew)); exact HO660.out) (Kd.R_base ho0) hb); have n2_ := Aside0.mk (Kd.Q_elder' (by (with_reducible repeat (first | apply Kd.Q_alloc | apply Kd.Q_drewN | apply Kd.Q_drew)); exact HO662.out) (Kd.R_base ho0) hb); have n3_ := Aside0.mk (Kd.R_lower (Kd.R_new' (Kd.R_new' ho0 (Kd.Q_lt (by (with_reducible repeat (first | apply Kd.Q_alloc | apply Kd.Q_drewN | apply Kd.Q_drew)); exact HO660.out))) (Kd.Q_lt (by (with_reducible repeat (first | apply Kd.Q_alloc | apply Kd.Q_drewN | apply Kd.Q_drew)); exact HO662.out))) (below_size (by repeat (first | (with_reducible first | exact HB.out | apply below_alloc | apply pw_below_drewN | apply below_drew1) | exact HB.out)))); have n4_ := Aside0.mk (below_step (by repeat (first | (with_reducible first | exact HB.out | apply below_alloc | apply pw_below_drewN | apply below_drew1) | exact HB.out)) hb); clear HO658; clear HO660; clear HO662; clear HB; have HO658 := n0_; have HO660 := n1_; have HO662 := n2_; have HO666 := n3_; have HB := n4_; clear n0_ n1_ n2_ n3_ n4_; (try clear hb); (try clear hb2); (try clear hk); (try clear hi); (try clear ho0))); go_upto_region 6 with (first | (go_at_call 37; (with_reducible refine (spec_DrawRunsTogether.calls k _ _ l0 t654 t655 t656 _ ?side1 ?side2 A3.out).mono ?_); (case side1 => repeat (first | exact HR0.out | (with_reducible refine Kd.C_alloc ?_ _) | (with_reducible refine Kd.C_drewN ?_ _) | (with_reducible refine Kd.C_drew ?_))); (case side2 => exact HC0.out); rintro e w7 ⟨v657, v659, v661, rfl, ho0, ho1, ho2, hb⟩; have n0_ := Aside0.mk (Kd.S_lower ho0 (below_size (by repeat (first | (with_reducible first | exact HB.out | apply below_alloc | apply pw_below_drewN | apply below_drew1) | exact HB.out)))); have n1_ := Aside0.mk (Kd.Q_lower ho1 (below_size (by repeat (first | (with_reducible first | exact HB.out | apply below_alloc | apply pw_below_drewN | apply below_drew1) | exact HB.out)))); have n2_ := Aside0.mk (Kd.Q_lower ho2 (below_size (by repeat (first | (with_reducible first | exact HB.out | apply below_alloc | apply pw_below_drewN | apply below_drew1) | exact HB.out)))); have n3_ := Aside0.mk (below_step (by repeat (first | (with_reducible first | exact HB.out | apply below_alloc | apply pw_below_drewN | apply below_drew1) | exact HB.out)) hb); clear HB; have HO658 := n0_; have HO660 := n1_; have HO662 := n2_; have HB := n3_; clear n0_ n1_ n2_ n3_; (try clear hb); (try clear hb2); (try clear hk); (try clear hi); (try clear ho0); (try clear ho1); (try clear ho2); obtain ⟨Ao8, co8, eo8⟩ := Kd.S_slice HO658.out; subst eo8; obtain ⟨Ao9, co9, eo9, _⟩ := Kd.Q_slice HO660.out; subst eo9; obtain ⟨Ao10, co10, eo10, _⟩ := Kd.Q_slice HO662.out; subst eo10) | (go_at_call 23; (with_reducible refine (impl_RunsTogether.calls _ _ t654 _ _ t655 _ _ t656 t663 _ ?side1 ?side2 ?side3 ?side4 ?side5 ?side6 ?side7 A4.out).mono ?_); (case side1 => repeat (first | exact (Kd.S_reads' HO658.out).2.2 | (with_reducible refine Kd.C_alloc ?_ _) | (with_reducible refine Kd.C_drewN ?_ _) | (with_reducible refine Kd.C_drew ?_))); (case side2 => exact (Kd.S_reads' HO658.out).2.1); (case side3 => repeat (first | exact (Kd.Q_reads' HO660.out).2.2 | (with_reducible refine Kd.C_alloc ?_ _) | (with_reducible refine Kd.C_drewN ?_ _) | (with_reducible refine Kd.C_drew ?_))); (case side4 => exact (Kd.Q_reads' HO660.out).2.1); (case side5 => repeat (first | exact (Kd.Q_reads' HO662.out).2.2 | (with_reducible refine Kd.C_alloc ?_ _) | (with_reducible refine Kd.C_drewN ?_ _) | (with_reducible refine Kd.C_drew ?_))); (case side6 => exact (Kd.Q_reads' HO662.out).2.1); (case side7 => exact Tab.of HT.out (by repeat (first | (with_reducible first | exact HB.out | apply below_alloc | apply pw_below_drewN | apply below_drew1) | exact HB.out))); rintro e w11 ⟨rfl, hb⟩; have n0_ := Aside0.mk (Kd.S_below (by (with_reducible repeat (first | apply Kd.S_alloc | apply Kd.S_drewN | apply Kd.S_drew)); exact HO658.out) hb); have n1_ := Aside0.mk (Kd.Q_below (by (with_reducible repeat (first | apply Kd.Q_alloc | apply Kd.Q_drewN | apply Kd.Q_drew)); exact HO660.out) hb); have n2_ := Aside0.mk (Kd.Q_below (by (with_reducible repeat (first | apply Kd.Q_alloc | apply Kd.Q_drewN | apply Kd.Q_drew)); exact HO662.out) hb); have n3_ := Aside0.mk (below_step (by repeat (first | (with_reducible first | exact HB.out | apply below_alloc | apply pw_below_drewN | apply below_drew1) | exact HB.out)) hb); clear HO658; clear HO660; clear HO662; clear HB; have HO658 := n0_; have HO660 := n1_; have HO662 := n2_; have HB := n3_; clear n0_ n1_ n2_ n3_; (try clear hb); (try clear hb2); (try clear hk); (try clear hi)) | (go_at_call 26; (with_reducible refine (impl_UsedUnits.calls _ _ t654 _ _ t656 t664 _ ?side1 ?side2 ?side3 ?side4 ?side5 A5.out).mono ?_); (case side1 => repeat (first | exact (Kd.S_reads' HO658.out).2.2 | (with_reducible refine Kd.C_alloc ?_ _) | (with_reducible refine Kd.C_drewN ?_ _) | (with_reducible refine Kd.C_drew ?_))); (case side2 => exact (Kd.S_reads' HO658.out).2.1); (case side3 => repeat (first | exact (Kd.Q_reads' HO662.out).2.2 | (with_reducible refine Kd.C_alloc ?_ _) | (with_reducible refine Kd.C_drewN ?_ _) | (with_reducible refine Kd.C_drew ?_))); (case side4 => exact (Kd.Q_reads' HO662.out).2.1); (case side5 => exact Tab.of HT.out (by repeat (first | (with_reducible first | exact HB.out | apply below_alloc | apply pw_below_drewN | apply below_drew1) | exact HB.out))); rintro e w12 ⟨v665, rfl, ho0, hb⟩; have n0_ := Aside0.mk (Kd.S_elder' (by (with_reducible repeat (first | apply Kd.S_alloc | apply Kd.S_drewN | apply Kd.S_drew)); exact HO658.out) (Kd.R_base ho0) hb); have n1_ := Aside0.mk (Kd.Q_elder' (by (with_reducible repeat (first | apply Kd.Q_alloc | apply Kd.Q_drewN | apply Kd.Q_drew)); exact HO660.out) (Kd.R_base ho0) hb); have n2_ := Aside0.mk (Kd.Q_elder' (by (with_reducible repeat (first | apply Kd.Q_alloc | apply Kd.Q_drewN | apply Kd.Q_drew)); exact HO662.out) (Kd.R_base ho0) hb); have n3_ := Aside0.mk (Kd.R_lower (Kd.R_new' (Kd.R_new' ho0 (Kd.Q_lt (by (with_reducible repeat (first | apply Kd.Q_alloc | apply Kd.Q_drewN | apply Kd.Q_drew)); exact HO660.out))) (Kd.Q_lt (by (with_reducible repeat (first | apply Kd.Q_alloc | apply Kd.Q_drewN | apply Kd.Q_drew)); exact HO662.out))) (below_size (by repeat (first | (with_reducible first | exact HB.out | apply below_alloc | apply pw_below_drewN | apply below_drew1) | exact HB.out)))); have n4_ := Aside0.mk (below_step (by repeat (first | (with_reducible first | exact HB.out | apply below_alloc | apply pw_below_drewN | apply below_drew1) | exact HB.out)) hb); clear HO658; clear HO660; clear HO662; clear HB; have HO658 := n0_; have HO660 := n1_; have HO662 := n2_; have HO666 := n3_; have HB := n4_; clear n0_ n1_ n2_ n3_ n4_; (try clear hb); (try clear hb2); (try clear hk); (try clear hi); (try clear ho0))))
    (try simp only [Act.put, List.setIfInBounds_toArray, List.set_cons_zero, List.set_cons_succ])
    go_cut [41] (fun v41 wc => ∃ (kq : Nat) (x41_5 : Bool), v41 = .bool x41_5 ∧ Aside0 (laws_FnRunsTogetherUnits.j0 kq t654 t655 t656 t663 t664 x41_5 = some r) ∧ Aside0 (kq ≤ k) ∧ Aside0 (Kd.S k33 33 wc w.heap.size (fun k_ => some k_ ≠ ((.slice Ao9 t655.length co9) : Value).ownBlock ∧ some k_ ≠ ((.slice Ao10 t656.length co10) : Value).ownBlock ∧ some k_ ≠ (v665 : Value).ownBlock) (.slice Ao8 t654.length co8) t654) ∧ Aside0 (Kd.Q (Kd.int .i64) 3 wc w.heap.size (fun k_ => some k_ ≠ ((.slice Ao10 t656.length co10) : Value).ownBlock ∧ some k_ ≠ (v665 : Value).ownBlock) (.slice Ao9 t655.length co9) t655) ∧ Aside0 (Kd.Q (Kd.int .i64) 3 wc w.heap.size (fun k_ => some k_ ≠ ((.slice Ao9 t655.length co9) : Value).ownBlock ∧ some k_ ≠ (v665 : Value).ownBlock) (.slice Ao10 t656.length co10) t656) ∧ Aside0 (Kd.R (Kd.int .i64) 73 wc w.heap.size (fun k_ => some k_ ≠ ((.slice Ao9 t655.length co9) : Value).ownBlock ∧ some k_ ≠ ((.slice Ao10 t656.length co10) : Value).ownBlock) v665 t664) ∧ Aside0 (Below w.heap.size w wc))
    case first =>
      have H := HC6.out
      clear HC6
      replace H := Option.bind_eq_some_iff.mp H
      obtain ⟨t667, A130, H⟩ := H
      replace H : (if (t663 != t667) = true then (laws_FnRunsTogetherUnits.j0 k t654 t655 t656 t663 t664 true) else (if (t664.length : Int) = 3 then ((impl_ValidRoom.f k t655).bind fun t668 => (laws_FnRunsTogetherUnits.j0 k t654 t655 t656 t663 t664 (!t668))) else (laws_FnRunsTogetherUnits.j0 k t654 t655 t656 t663 t664 true))) = some r := H
      have A13 := Aside0.mk A130
      clear A130
      by_cases c14 : (t663 != t667) = true
      · rw [if_pos c14] at H
        have c14b0 : (t663 != t667) = true := c14
        (try (have c14b1 : decide (t663 = t667) = false := by simpa using c14))
        (try (have c14b2 : (t663 == t667) = false := by simpa using c14))
        (try (have c14b3 : ¬ (t663 = t667) := by simpa using c14))
        clear c14
        (first | rw [c14b0] | (simp only [i64_w, i32_w]; rw [c14b0]) | skip)
        have H' := Aside0.mk H
        clear H
        go_wp2_with (first | (go_at_call 21; (with_reducible refine (spec_RunsTogether.calls k _ _ t654 _ _ t655 _ _ t656 t667 _ ?side1 ?side2 ?side3 ?side4 ?side5 ?side6 A13.out).mono ?_); (case side1 => repeat (first | exact (Kd.S_reads' HO658.out).2.2 | (with_reducible refine Kd.C_alloc ?_ _) | (with_reducible refine Kd.C_drewN ?_ _) | (with_reducible refine Kd.C_drew ?_))); (case side2 => exact (Kd.S_reads' HO658.out).2.1); (case side3 => repeat (first | exact (Kd.Q_reads' HO660.out).2.2 | (with_reducible refine Kd.C_alloc ?_ _) | (with_reducible refine Kd.C_drewN ?_ _) | (with_reducible refine Kd.C_drew ?_))); (case side4 => exact (Kd.Q_reads' HO660.out).2.1); (case side5 => repeat (first | exact (Kd.Q_reads' HO662.out).2.2 | (with_reducible refine Kd.C_alloc ?_ _) | (with_reducible refine Kd.C_drewN ?_ _) | (with_reducible refine Kd.C_drew ?_))); (case side6 => exact (Kd.Q_reads' HO662.out).2.1); rintro e w15 ⟨rfl, hb⟩; have n0_ := Aside0.mk (Kd.S_below (by (with_reducible repeat (first | apply Kd.S_alloc | apply Kd.S_drewN | apply Kd.S_drew)); exact HO658.out) hb); have n1_ := Aside0.mk (Kd.Q_below (by (with_reducible repeat (first | apply Kd.Q_alloc | apply Kd.Q_drewN | apply Kd.Q_drew)); exact HO660.out) hb); have n2_ := Aside0.mk (Kd.Q_below (by (with_reducible repeat (first | apply Kd.Q_alloc | apply Kd.Q_drewN | apply Kd.Q_drew)); exact HO662.out) hb); have n3_ := Aside0.mk (Kd.R_below (by (with_reducible repeat (first | apply Kd.R_alloc | apply Kd.R_drewN | apply Kd.R_drew)); exact HO666.out) hb); have n4_ := Aside0.mk (below_step (by repeat (first | (with_reducible first | exact HB.out | apply below_alloc | apply pw_below_drewN | apply below_drew1) | exact HB.out)) hb); clear HO658; clear HO660; clear HO662; clear HO666; clear HB; have HO658 := n0_; have HO660 := n1_; have HO662 := n2_; have HO666 := n3_; have HB := n4_; clear n0_ n1_ n2_ n3_ n4_; (try clear hb); (try clear hb2); (try clear hk); (try clear hi)))
        repeat (go_quiet (first | (go_at_call 21; (with_reducible refine (spec_RunsTogether.calls k _ _ t654 _ _ t655 _ _ t656 t667 _ ?side1 ?side2 ?side3 ?side4 ?side5 ?side6 A13.out).mono ?_); (case side1 => repeat (first | exact (Kd.S_reads' HO658.out).2.2 | (with_reducible refine Kd.C_alloc ?_ _) | (with_reducible refine Kd.C_drewN ?_ _) | (with_reducible refine Kd.C_drew ?_))); (case side2 => exact (Kd.S_reads' HO658.out).2.1); (case side3 => repeat (first | exact (Kd.Q_reads' HO660.out).2.2 | (with_reducible refine Kd.C_alloc ?_ _) | (with_reducible refine Kd.C_drewN ?_ _) | (with_reducible refine Kd.C_drew ?_))); (case side4 => exact (Kd.Q_reads' HO660.out).2.1); (case side5 => repeat (first | exact (Kd.Q_reads' HO662.out).2.2 | (with_reducible refine Kd.C_alloc ?_ _) | (with_reducible refine Kd.C_drewN ?_ _) | (with_reducible refine Kd.C_drew ?_))); (case side6 => exact (Kd.Q_reads' HO662.out).2.1); rintro e w15 ⟨rfl, hb⟩; have n0_ := Aside0.mk (Kd.S_below (by (with_reducible repeat (first | apply Kd.S_alloc | apply Kd.S_drewN | apply Kd.S_drew)); exact HO658.out) hb); have n1_ := Aside0.mk (Kd.Q_below (by (with_reducible repeat (first | apply Kd.Q_alloc | apply Kd.Q_drewN | apply Kd.Q_drew)); exact HO660.out) hb); have n2_ := Aside0.mk (Kd.Q_below (by (with_reducible repeat (first | apply Kd.Q_alloc | apply Kd.Q_drewN | apply Kd.Q_drew)); exact HO662.out) hb); have n3_ := Aside0.mk (Kd.R_below (by (with_reducible repeat (first | apply Kd.R_alloc | apply Kd.R_drewN | apply Kd.R_drew)); exact HO666.out) hb); have n4_ := Aside0.mk (below_step (by repeat (first | (with_reducible first | exact HB.out | apply below_alloc | apply pw_below_drewN | apply below_drew1) | exact HB.out)) hb); clear HO658; clear HO660; clear HO662; clear HO666; clear HB; have HO658 := n0_; have HO660 := n1_; have HO662 := n2_; have HO666 := n3_; have HB := n4_; clear n0_ n1_ n2_ n3_ n4_; (try clear hb); (try clear hb2); (try clear hk); (try clear hi))); try go_wp2_with (first | (go_at_call 21; (with_reducible refine (spec_RunsTogether.calls k _ _ t654 _ _ t655 _ _ t656 t667 _ ?side1 ?side2 ?side3 ?side4 ?side5 ?side6 A13.out).mono ?_); (case side1 => repeat (first | exact (Kd.S_reads' HO658.out).2.2 | (with_reducible refine Kd.C_alloc ?_ _) | (with_reducible refine Kd.C_drewN ?_ _) | (with_reducible refine Kd.C_drew ?_))); (case side2 => exact (Kd.S_reads' HO658.out).2.1); (case side3 => repeat (first | exact (Kd.Q_reads' HO660.out).2.2 | (with_reducible refine Kd.C_alloc ?_ _) | (with_reducible refine Kd.C_drewN ?_ _) | (with_reducible refine Kd.C_drew ?_))); (case side4 => exact (Kd.Q_reads' HO660.out).2.1); (case side5 => repeat (first | exact (Kd.Q_reads' HO662.out).2.2 | (with_reducible refine Kd.C_alloc ?_ _) | (with_reducible refine Kd.C_drewN ?_ _) | (with_reducible refine Kd.C_drew ?_))); (case side6 => exact (Kd.Q_reads' HO662.out).2.1); rintro e w15 ⟨rfl, hb⟩; have n0_ := Aside0.mk (Kd.S_below (by (with_reducible repeat (first | apply Kd.S_alloc | apply Kd.S_drewN | apply Kd.S_drew)); exact HO658.out) hb); have n1_ := Aside0.mk (Kd.Q_below (by (with_reducible repeat (first | apply Kd.Q_alloc | apply Kd.Q_drewN | apply Kd.Q_drew)); exact HO660.out) hb); have n2_ := Aside0.mk (Kd.Q_below (by (with_reducible repeat (first | apply Kd.Q_alloc | apply Kd.Q_drewN | apply Kd.Q_drew)); exact HO662.out) hb); have n3_ := Aside0.mk (Kd.R_below (by (with_reducible repeat (first | apply Kd.R_alloc | apply Kd.R_drewN | apply Kd.R_drew)); exact HO666.out) hb); have n4_ := Aside0.mk (below_step (by repeat (first | (with_reducible first | exact HB.out | apply below_alloc | apply pw_below_drewN | apply below_drew1) | exact HB.out)) hb); clear HO658; clear HO660; clear HO662; clear HO666; clear HB; have HO658 := n0_; have HO660 := n1_; have HO662 := n2_; have HO666 := n3_; have HB := n4_; clear n0_ n1_ n2_ n3_ n4_; (try clear hb); (try clear hb2); (try clear hk); (try clear hi))))
        go_meet
        case rel => exact ⟨_, (true), (by first | rfl | (simp; done) | (simp [*]; done)), H', ⟨by first | omega | exact Nat.le_refl _⟩, ⟨by (with_reducible repeat (first | apply Kd.S_alloc | apply Kd.S_drewN | apply Kd.S_drew)); exact Kd.S_mono HO658.out (fun _ hk => ⟨hk.1.1, ⟨hk.1.2, hk.2⟩⟩)⟩, ⟨by (with_reducible repeat (first | apply Kd.Q_alloc | apply Kd.Q_drewN | apply Kd.Q_drew)); exact HO660.out⟩, ⟨by (with_reducible repeat (first | apply Kd.Q_alloc | apply Kd.Q_drewN | apply Kd.Q_drew)); exact HO662.out⟩, ⟨by (with_reducible repeat (first | apply Kd.R_alloc | apply Kd.R_drewN | apply Kd.R_drew)); exact Kd.R_mono HO666.out (fun _ hk => ⟨hk.1.2, hk.2⟩)⟩, ⟨by repeat (first | (with_reducible first | exact HB.out | apply below_alloc | apply pw_below_drewN | apply below_drew1) | exact HB.out)⟩⟩
      · rw [if_neg c14] at H
        have c14b0 : (t663 != t667) = false := by simpa using c14
        (try (have c14b1 : decide (t663 = t667) = true := by simpa using c14))
        (try (have c14b2 : (t663 == t667) = true := by simpa using c14))
        clear c14
        (first | rw [c14b0] | (simp only [i64_w, i32_w]; rw [c14b0]) | skip)
        by_cases c16 : (t664.length : Int) = 3
        · rw [if_pos c16] at H
          have c16b0 : ((t664.length : Int) == 3) = true := beq_iff_eq.mpr c16
          have c16b1 : ((t664.length : Int) != 3) = false := bne_eq_false_iff_eq.mpr c16
          clear c16
          replace H := Option.bind_eq_some_iff.mp H
          obtain ⟨t668, A170, H⟩ := H
          replace H : (laws_FnRunsTogetherUnits.j0 k t654 t655 t656 t663 t664 (!t668)) = some r := H
          have A17 := Aside0.mk A170
          clear A170
          have H' := Aside0.mk H
          clear H
          go_wp2_with (first | (go_at_call 21; (with_reducible refine (spec_RunsTogether.calls k _ _ t654 _ _ t655 _ _ t656 t667 _ ?side1 ?side2 ?side3 ?side4 ?side5 ?side6 A13.out).mono ?_); (case side1 => repeat (first | exact (Kd.S_reads' HO658.out).2.2 | (with_reducible refine Kd.C_alloc ?_ _) | (with_reducible refine Kd.C_drewN ?_ _) | (with_reducible refine Kd.C_drew ?_))); (case side2 => exact (Kd.S_reads' HO658.out).2.1); (case side3 => repeat (first | exact (Kd.Q_reads' HO660.out).2.2 | (with_reducible refine Kd.C_alloc ?_ _) | (with_reducible refine Kd.C_drewN ?_ _) | (with_reducible refine Kd.C_drew ?_))); (case side4 => exact (Kd.Q_reads' HO660.out).2.1); (case side5 => repeat (first | exact (Kd.Q_reads' HO662.out).2.2 | (with_reducible refine Kd.C_alloc ?_ _) | (with_reducible refine Kd.C_drewN ?_ _) | (with_reducible refine Kd.C_drew ?_))); (case side6 => exact (Kd.Q_reads' HO662.out).2.1); rintro e w18 ⟨rfl, hb⟩; have n0_ := Aside0.mk (Kd.S_below (by (with_reducible repeat (first | apply Kd.S_alloc | apply Kd.S_drewN | apply Kd.S_drew)); exact HO658.out) hb); have n1_ := Aside0.mk (Kd.Q_below (by (with_reducible repeat (first | apply Kd.Q_alloc | apply Kd.Q_drewN | apply Kd.Q_drew)); exact HO660.out) hb); have n2_ := Aside0.mk (Kd.Q_below (by (with_reducible repeat (first | apply Kd.Q_alloc | apply Kd.Q_drewN | apply Kd.Q_drew)); exact HO662.out) hb); have n3_ := Aside0.mk (Kd.R_below (by (with_reducible repeat (first | apply Kd.R_alloc | apply Kd.R_drewN | apply Kd.R_drew)); exact HO666.out) hb); have n4_ := Aside0.mk (below_step (by repeat (first | (with_reducible first | exact HB.out | apply below_alloc | apply pw_below_drewN | apply below_drew1) | exact HB.out)) hb); clear HO658; clear HO660; clear HO662; clear HO666; clear HB; have HO658 := n0_; have HO660 := n1_; have HO662 := n2_; have HO666 := n3_; have HB := n4_; clear n0_ n1_ n2_ n3_ n4_; (try clear hb); (try clear hb2); (try clear hk); (try clear hi); obtain ⟨Ao19, co19, eo19⟩ := Kd.R_slice HO666.out; subst eo19) | (go_at_call 38; (with_reducible refine (impl_ValidRoom.calls k _ _ t655 t668 _ ?side1 ?side2 A17.out).mono ?_); (case side1 => repeat (first | exact (Kd.Q_reads' HO660.out).2.2 | (with_reducible refine Kd.C_alloc ?_ _) | (with_reducible refine Kd.C_drewN ?_ _) | (with_reducible refine Kd.C_drew ?_))); (case side2 => exact (Kd.Q_reads' HO660.out).2.1); rintro e w' ⟨rfl, ⟨nd, rfl⟩⟩; (try first | exact ⟨rfl, _, World.drewN_drewN _ _ _⟩ | exact ⟨rfl, _, Eq.trans (World.drewN_drewN _ _ _) (congrArg (World.drewN _) (Nat.add_assoc _ _ _))⟩)))
          repeat (go_quiet (first | (go_at_call 21; (with_reducible refine (spec_RunsTogether.calls k _ _ t654 _ _ t655 _ _ t656 t667 _ ?side1 ?side2 ?side3 ?side4 ?side5 ?side6 A13.out).mono ?_); (case side1 => repeat (first | exact (Kd.S_reads' HO658.out).2.2 | (with_reducible refine Kd.C_alloc ?_ _) | (with_reducible refine Kd.C_drewN ?_ _) | (with_reducible refine Kd.C_drew ?_))); (case side2 => exact (Kd.S_reads' HO658.out).2.1); (case side3 => repeat (first | exact (Kd.Q_reads' HO660.out).2.2 | (with_reducible refine Kd.C_alloc ?_ _) | (with_reducible refine Kd.C_drewN ?_ _) | (with_reducible refine Kd.C_drew ?_))); (case side4 => exact (Kd.Q_reads' HO660.out).2.1); (case side5 => repeat (first | exact (Kd.Q_reads' HO662.out).2.2 | (with_reducible refine Kd.C_alloc ?_ _) | (with_reducible refine Kd.C_drewN ?_ _) | (with_reducible refine Kd.C_drew ?_))); (case side6 => exact (Kd.Q_reads' HO662.out).2.1); rintro e w18 ⟨rfl, hb⟩; have n0_ := Aside0.mk (Kd.S_below (by (with_reducible repeat (first | apply Kd.S_alloc | apply Kd.S_drewN | apply Kd.S_drew)); exact HO658.out) hb); have n1_ := Aside0.mk (Kd.Q_below (by (with_reducible repeat (first | apply Kd.Q_alloc | apply Kd.Q_drewN | apply Kd.Q_drew)); exact HO660.out) hb); have n2_ := Aside0.mk (Kd.Q_below (by (with_reducible repeat (first | apply Kd.Q_alloc | apply Kd.Q_drewN | apply Kd.Q_drew)); exact HO662.out) hb); have n3_ := Aside0.mk (Kd.R_below (by (with_reducible repeat (first | apply Kd.R_alloc | apply Kd.R_drewN | apply Kd.R_drew)); exact HO666.out) hb); have n4_ := Aside0.mk (below_step (by repeat (first | (with_reducible first | exact HB.out | apply below_alloc | apply pw_below_drewN | apply below_drew1) | exact HB.out)) hb); clear HO658; clear HO660; clear HO662; clear HO666; clear HB; have HO658 := n0_; have HO660 := n1_; have HO662 := n2_; have HO666 := n3_; have HB := n4_; clear n0_ n1_ n2_ n3_ n4_; (try clear hb); (try clear hb2); (try clear hk); (try clear hi); obtain ⟨Ao19, co19, eo19⟩ := Kd.R_slice HO666.out; subst eo19) | (go_at_call 38; (with_reducible refine (impl_ValidRoom.calls k _ _ t655 t668 _ ?side1 ?side2 A17.out).mono ?_); (case side1 => repeat (first | exact (Kd.Q_reads' HO660.out).2.2 | (with_reducible refine Kd.C_alloc ?_ _) | (with_reducible refine Kd.C_drewN ?_ _) | (with_reducible refine Kd.C_drew ?_))); (case side2 => exact (Kd.Q_reads' HO660.out).2.1); rintro e w' ⟨rfl, ⟨nd, rfl⟩⟩; (try first | exact ⟨rfl, _, World.drewN_drewN _ _ _⟩ | exact ⟨rfl, _, Eq.trans (World.drewN_drewN _ _ _) (congrArg (World.drewN _) (Nat.add_assoc _ _ _))⟩))); try go_wp2_with (first | (go_at_call 21; (with_reducible refine (spec_RunsTogether.calls k _ _ t654 _ _ t655 _ _ t656 t667 _ ?side1 ?side2 ?side3 ?side4 ?side5 ?side6 A13.out).mono ?_); (case side1 => repeat (first | exact (Kd.S_reads' HO658.out).2.2 | (with_reducible refine Kd.C_alloc ?_ _) | (with_reducible refine Kd.C_drewN ?_ _) | (with_reducible refine Kd.C_drew ?_))); (case side2 => exact (Kd.S_reads' HO658.out).2.1); (case side3 => repeat (first | exact (Kd.Q_reads' HO660.out).2.2 | (with_reducible refine Kd.C_alloc ?_ _) | (with_reducible refine Kd.C_drewN ?_ _) | (with_reducible refine Kd.C_drew ?_))); (case side4 => exact (Kd.Q_reads' HO660.out).2.1); (case side5 => repeat (first | exact (Kd.Q_reads' HO662.out).2.2 | (with_reducible refine Kd.C_alloc ?_ _) | (with_reducible refine Kd.C_drewN ?_ _) | (with_reducible refine Kd.C_drew ?_))); (case side6 => exact (Kd.Q_reads' HO662.out).2.1); rintro e w18 ⟨rfl, hb⟩; have n0_ := Aside0.mk (Kd.S_below (by (with_reducible repeat (first | apply Kd.S_alloc | apply Kd.S_drewN | apply Kd.S_drew)); exact HO658.out) hb); have n1_ := Aside0.mk (Kd.Q_below (by (with_reducible repeat (first | apply Kd.Q_alloc | apply Kd.Q_drewN | apply Kd.Q_drew)); exact HO660.out) hb); have n2_ := Aside0.mk (Kd.Q_below (by (with_reducible repeat (first | apply Kd.Q_alloc | apply Kd.Q_drewN | apply Kd.Q_drew)); exact HO662.out) hb); have n3_ := Aside0.mk (Kd.R_below (by (with_reducible repeat (first | apply Kd.R_alloc | apply Kd.R_drewN | apply Kd.R_drew)); exact HO666.out) hb); have n4_ := Aside0.mk (below_step (by repeat (first | (with_reducible first | exact HB.out | apply below_alloc | apply pw_below_drewN | apply below_drew1) | exact HB.out)) hb); clear HO658; clear HO660; clear HO662; clear HO666; clear HB; have HO658 := n0_; have HO660 := n1_; have HO662 := n2_; have HO666 := n3_; have HB := n4_; clear n0_ n1_ n2_ n3_ n4_; (try clear hb); (try clear hb2); (try clear hk); (try clear hi); obtain ⟨Ao19, co19, eo19⟩ := Kd.R_slice HO666.out; subst eo19) | (go_at_call 38; (with_reducible refine (impl_ValidRoom.calls k _ _ t655 t668 _ ?side1 ?side2 A17.out).mono ?_); (case side1 => repeat (first | exact (Kd.Q_reads' HO660.out).2.2 | (with_reducible refine Kd.C_alloc ?_ _) | (with_reducible refine Kd.C_drewN ?_ _) | (with_reducible refine Kd.C_drew ?_))); (case side2 => exact (Kd.Q_reads' HO660.out).2.1); rintro e w' ⟨rfl, ⟨nd, rfl⟩⟩; (try first | exact ⟨rfl, _, World.drewN_drewN _ _ _⟩ | exact ⟨rfl, _, Eq.trans (World.drewN_drewN _ _ _) (congrArg (World.drewN _) (Nat.add_assoc _ _ _))⟩))))
          go_meet
          case rel => exact ⟨_, (!t668), (by first | rfl | (simp; done) | (simp [*]; done)), H', ⟨by first | omega | exact Nat.le_refl _⟩, ⟨by (with_reducible repeat (first | apply Kd.S_alloc | apply Kd.S_drewN | apply Kd.S_drew)); exact Kd.S_mono HO658.out (fun _ hk => ⟨hk.1.1, ⟨hk.1.2, hk.2⟩⟩)⟩, ⟨by (with_reducible repeat (first | apply Kd.Q_alloc | apply Kd.Q_drewN | apply Kd.Q_drew)); exact HO660.out⟩, ⟨by (with_reducible repeat (first | apply Kd.Q_alloc | apply Kd.Q_drewN | apply Kd.Q_drew)); exact HO662.out⟩, ⟨by (with_reducible repeat (first | apply Kd.R_alloc | apply Kd.R_drewN | apply Kd.R_drew)); exact Kd.R_mono HO666.out (fun _ hk => ⟨hk.1.2, hk.2⟩)⟩, ⟨by repeat (first | (with_reducible first | exact HB.out | apply below_alloc | apply pw_below_drewN | apply below_drew1) | exact HB.out)⟩⟩
        · rw [if_neg c16] at H
          have c16b0 : ((t664.length : Int) == 3) = false := beq_eq_false_iff_ne.mpr c16
          have c16b1 : ((t664.length : Int) != 3) = true := bne_iff_ne.mpr c16
          have H' := Aside0.mk H
          clear H
          go_wp2_with (first | (go_at_call 21; (with_reducible refine (spec_RunsTogether.calls k _ _ t654 _ _ t655 _ _ t656 t667 _ ?side1 ?side2 ?side3 ?side4 ?side5 ?side6 A13.out).mono ?_); (case side1 => repeat (first | exact (Kd.S_reads' HO658.out).2.2 | (with_reducible refine Kd.C_alloc ?_ _) | (with_reducible refine Kd.C_drewN ?_ _) | (with_reducible refine Kd.C_drew ?_))); (case side2 => exact (Kd.S_reads' HO658.out).2.1); (case side3 => repeat (first | exact (Kd.Q_reads' HO660.out).2.2 | (with_reducible refine Kd.C_alloc ?_ _) | (with_reducible refine Kd.C_drewN ?_ _) | (with_reducible refine Kd.C_drew ?_))); (case side4 => exact (Kd.Q_reads' HO660.out).2.1); (case side5 => repeat (first | exact (Kd.Q_reads' HO662.out).2.2 | (with_reducible refine Kd.C_alloc ?_ _) | (with_reducible refine Kd.C_drewN ?_ _) | (with_reducible refine Kd.C_drew ?_))); (case side6 => exact (Kd.Q_reads' HO662.out).2.1); rintro e w20 ⟨rfl, hb⟩; have n0_ := Aside0.mk (Kd.S_below (by (with_reducible repeat (first | apply Kd.S_alloc | apply Kd.S_drewN | apply Kd.S_drew)); exact HO658.out) hb); have n1_ := Aside0.mk (Kd.Q_below (by (with_reducible repeat (first | apply Kd.Q_alloc | apply Kd.Q_drewN | apply Kd.Q_drew)); exact HO660.out) hb); have n2_ := Aside0.mk (Kd.Q_below (by (with_reducible repeat (first | apply Kd.Q_alloc | apply Kd.Q_drewN | apply Kd.Q_drew)); exact HO662.out) hb); have n3_ := Aside0.mk (Kd.R_below (by (with_reducible repeat (first | apply Kd.R_alloc | apply Kd.R_drewN | apply Kd.R_drew)); exact HO666.out) hb); have n4_ := Aside0.mk (below_step (by repeat (first | (with_reducible first | exact HB.out | apply below_alloc | apply pw_below_drewN | apply below_drew1) | exact HB.out)) hb); clear HO658; clear HO660; clear HO662; clear HO666; clear HB; have HO658 := n0_; have HO660 := n1_; have HO662 := n2_; have HO666 := n3_; have HB := n4_; clear n0_ n1_ n2_ n3_ n4_; (try clear hb); (try clear hb2); (try clear hk); (try clear hi); obtain ⟨Ao21, co21, eo21⟩ := Kd.R_slice HO666.out; subst eo21))
          repeat (go_quiet (first | (go_at_call 21; (with_reducible refine (spec_RunsTogether.calls k _ _ t654 _ _ t655 _ _ t656 t667 _ ?side1 ?side2 ?side3 ?side4 ?side5 ?side6 A13.out).mono ?_); (case side1 => repeat (first | exact (Kd.S_reads' HO658.out).2.2 | (with_reducible refine Kd.C_alloc ?_ _) | (with_reducible refine Kd.C_drewN ?_ _) | (with_reducible refine Kd.C_drew ?_))); (case side2 => exact (Kd.S_reads' HO658.out).2.1); (case side3 => repeat (first | exact (Kd.Q_reads' HO660.out).2.2 | (with_reducible refine Kd.C_alloc ?_ _) | (with_reducible refine Kd.C_drewN ?_ _) | (with_reducible refine Kd.C_drew ?_))); (case side4 => exact (Kd.Q_reads' HO660.out).2.1); (case side5 => repeat (first | exact (Kd.Q_reads' HO662.out).2.2 | (with_reducible refine Kd.C_alloc ?_ _) | (with_reducible refine Kd.C_drewN ?_ _) | (with_reducible refine Kd.C_drew ?_))); (case side6 => exact (Kd.Q_reads' HO662.out).2.1); rintro e w20 ⟨rfl, hb⟩; have n0_ := Aside0.mk (Kd.S_below (by (with_reducible repeat (first | apply Kd.S_alloc | apply Kd.S_drewN | apply Kd.S_drew)); exact HO658.out) hb); have n1_ := Aside0.mk (Kd.Q_below (by (with_reducible repeat (first | apply Kd.Q_alloc | apply Kd.Q_drewN | apply Kd.Q_drew)); exact HO660.out) hb); have n2_ := Aside0.mk (Kd.Q_below (by (with_reducible repeat (first | apply Kd.Q_alloc | apply Kd.Q_drewN | apply Kd.Q_drew)); exact HO662.out) hb); have n3_ := Aside0.mk (Kd.R_below (by (with_reducible repeat (first | apply Kd.R_alloc | apply Kd.R_drewN | apply Kd.R_drew)); exact HO666.out) hb); have n4_ := Aside0.mk (below_step (by repeat (first | (with_reducible first | exact HB.out | apply below_alloc | apply pw_below_drewN | apply below_drew1) | exact HB.out)) hb); clear HO658; clear HO660; clear HO662; clear HO666; clear HB; have HO658 := n0_; have HO660 := n1_; have HO662 := n2_; have HO666 := n3_; have HB := n4_; clear n0_ n1_ n2_ n3_ n4_; (try clear hb); (try clear hb2); (try clear hk); (try clear hi); obtain ⟨Ao21, co21, eo21⟩ := Kd.R_slice HO666.out; subst eo21)); try go_wp2_with (first | (go_at_call 21; (with_reducible refine (spec_RunsTogether.calls k _ _ t654 _ _ t655 _ _ t656 t667 _ ?side1 ?side2 ?side3 ?side4 ?side5 ?side6 A13.out).mono ?_); (case side1 => repeat (first | exact (Kd.S_reads' HO658.out).2.2 | (with_reducible refine Kd.C_alloc ?_ _) | (with_reducible refine Kd.C_drewN ?_ _) | (with_reducible refine Kd.C_drew ?_))); (case side2 => exact (Kd.S_reads' HO658.out).2.1); (case side3 => repeat (first | exact (Kd.Q_reads' HO660.out).2.2 | (with_reducible refine Kd.C_alloc ?_ _) | (with_reducible refine Kd.C_drewN ?_ _) | (with_reducible refine Kd.C_drew ?_))); (case side4 => exact (Kd.Q_reads' HO660.out).2.1); (case side5 => repeat (first | exact (Kd.Q_reads' HO662.out).2.2 | (with_reducible refine Kd.C_alloc ?_ _) | (with_reducible refine Kd.C_drewN ?_ _) | (with_reducible refine Kd.C_drew ?_))); (case side6 => exact (Kd.Q_reads' HO662.out).2.1); rintro e w20 ⟨rfl, hb⟩; have n0_ := Aside0.mk (Kd.S_below (by (with_reducible repeat (first | apply Kd.S_alloc | apply Kd.S_drewN | apply Kd.S_drew)); exact HO658.out) hb); have n1_ := Aside0.mk (Kd.Q_below (by (with_reducible repeat (first | apply Kd.Q_alloc | apply Kd.Q_drewN | apply Kd.Q_drew)); exact HO660.out) hb); have n2_ := Aside0.mk (Kd.Q_below (by (with_reducible repeat (first | apply Kd.Q_alloc | apply Kd.Q_drewN | apply Kd.Q_drew)); exact HO662.out) hb); have n3_ := Aside0.mk (Kd.R_below (by (with_reducible repeat (first | apply Kd.R_alloc | apply Kd.R_drewN | apply Kd.R_drew)); exact HO666.out) hb); have n4_ := Aside0.mk (below_step (by repeat (first | (with_reducible first | exact HB.out | apply below_alloc | apply pw_below_drewN | apply below_drew1) | exact HB.out)) hb); clear HO658; clear HO660; clear HO662; clear HO666; clear HB; have HO658 := n0_; have HO660 := n1_; have HO662 := n2_; have HO666 := n3_; have HB := n4_; clear n0_ n1_ n2_ n3_ n4_; (try clear hb); (try clear hb2); (try clear hk); (try clear hi); obtain ⟨Ao21, co21, eo21⟩ := Kd.R_slice HO666.out; subst eo21)))
          go_meet
          case rel => exact ⟨_, (true), (by first | rfl | (simp; done) | (simp [*]; done)), H', ⟨by first | omega | exact Nat.le_refl _⟩, ⟨by (with_reducible repeat (first | apply Kd.S_alloc | apply Kd.S_drewN | apply Kd.S_drew)); exact Kd.S_mono HO658.out (fun _ hk => ⟨hk.1.1, ⟨hk.1.2, hk.2⟩⟩)⟩, ⟨by (with_reducible repeat (first | apply Kd.Q_alloc | apply Kd.Q_drewN | apply Kd.Q_drew)); exact HO660.out⟩, ⟨by (with_reducible repeat (first | apply Kd.Q_alloc | apply Kd.Q_drewN | apply Kd.Q_drew)); exact HO662.out⟩, ⟨by (with_reducible repeat (first | apply Kd.R_alloc | apply Kd.R_drewN | apply Kd.R_drew)); exact Kd.R_mono HO666.out (fun _ hk => ⟨hk.1.2, hk.2⟩)⟩, ⟨by repeat (first | (with_reducible first | exact HB.out | apply below_alloc | apply pw_below_drewN | apply below_drew1) | exact HB.out)⟩⟩
    case rest =>
      clear HC6
      try clear c1
      try clear c2
      try clear c2b0
      try clear c2b1
      try clear p2
      try clear c13
      try clear c14
      try clear c14b0
      try clear c14b1
      try clear c14b2
      try clear c16
      try clear c16b0
      try clear c16b1
      obtain ⟨kq, x41_5, rfl, HA, HJ5, HO_3, HO_4, HO_5, HO_7, HB⟩ := hcut
      cases kq with
      | zero => exact absurd HA.out (by simp [laws_FnRunsTogetherUnits.j0])
      | succ kj5 =>
        have H := HA.out
        clear HA
        simp only [laws_FnRunsTogetherUnits.j0] at H
        by_cases c22 : x41_5 = true
        · subst c22
          have H1 : ((spec_RunsTogether.f kj5 t654 t655 t656).bind fun t669 => (some (t663 == t669))) = some r := by rw [if_pos rfl] at H; exact H
          clear H
          have H := H1
          clear H1
          replace H := Option.bind_eq_some_iff.mp H
          obtain ⟨t669, A230, H⟩ := H
          replace H : (some (t663 == t669)) = some r := H
          have A23 := Aside0.mk A230
          clear A230
          obtain rfl := Option.some.inj H
          go_wp2_with (first | (go_at_call 21; (with_reducible refine (spec_RunsTogether.calls kj5 _ _ t654 _ _ t655 _ _ t656 t669 _ ?side1 ?side2 ?side3 ?side4 ?side5 ?side6 A23.out).mono ?_); (case side1 => repeat (first | exact (Kd.S_reads' HO_3.out).2.2 | (with_reducible refine Kd.C_alloc ?_ _) | (with_reducible refine Kd.C_drewN ?_ _) | (with_reducible refine Kd.C_drew ?_))); (case side2 => exact (Kd.S_reads' HO_3.out).2.1); (case side3 => repeat (first | exact (Kd.Q_reads' HO_4.out).2.2 | (with_reducible refine Kd.C_alloc ?_ _) | (with_reducible refine Kd.C_drewN ?_ _) | (with_reducible refine Kd.C_drew ?_))); (case side4 => exact (Kd.Q_reads' HO_4.out).2.1); (case side5 => repeat (first | exact (Kd.Q_reads' HO_5.out).2.2 | (with_reducible refine Kd.C_alloc ?_ _) | (with_reducible refine Kd.C_drewN ?_ _) | (with_reducible refine Kd.C_drew ?_))); (case side6 => exact (Kd.Q_reads' HO_5.out).2.1); rintro e w24 ⟨rfl, hb⟩; have n0_ := Aside0.mk (Kd.S_below (by (with_reducible repeat (first | apply Kd.S_alloc | apply Kd.S_drewN | apply Kd.S_drew)); exact HO_3.out) hb); have n1_ := Aside0.mk (Kd.Q_below (by (with_reducible repeat (first | apply Kd.Q_alloc | apply Kd.Q_drewN | apply Kd.Q_drew)); exact HO_4.out) hb); have n2_ := Aside0.mk (Kd.Q_below (by (with_reducible repeat (first | apply Kd.Q_alloc | apply Kd.Q_drewN | apply Kd.Q_drew)); exact HO_5.out) hb); have n3_ := Aside0.mk (Kd.R_below (by (with_reducible repeat (first | apply Kd.R_alloc | apply Kd.R_drewN | apply Kd.R_drew)); exact HO_7.out) hb); have n4_ := Aside0.mk (below_step (by repeat (first | (with_reducible first | exact HB.out | apply below_alloc | apply pw_below_drewN | apply below_drew1) | exact HB.out)) hb); clear HO_3; clear HO_4; clear HO_5; clear HO_7; clear HB; have HO_3 := n0_; have HO_4 := n1_; have HO_5 := n2_; have HO_7 := n3_; have HB := n4_; clear n0_ n1_ n2_ n3_ n4_; (try clear hb); (try clear hb2); (try clear hk); (try clear hi)))
          repeat (go_quiet (first | (go_at_call 21; (with_reducible refine (spec_RunsTogether.calls kj5 _ _ t654 _ _ t655 _ _ t656 t669 _ ?side1 ?side2 ?side3 ?side4 ?side5 ?side6 A23.out).mono ?_); (case side1 => repeat (first | exact (Kd.S_reads' HO_3.out).2.2 | (with_reducible refine Kd.C_alloc ?_ _) | (with_reducible refine Kd.C_drewN ?_ _) | (with_reducible refine Kd.C_drew ?_))); (case side2 => exact (Kd.S_reads' HO_3.out).2.1); (case side3 => repeat (first | exact (Kd.Q_reads' HO_4.out).2.2 | (with_reducible refine Kd.C_alloc ?_ _) | (with_reducible refine Kd.C_drewN ?_ _) | (with_reducible refine Kd.C_drew ?_))); (case side4 => exact (Kd.Q_reads' HO_4.out).2.1); (case side5 => repeat (first | exact (Kd.Q_reads' HO_5.out).2.2 | (with_reducible refine Kd.C_alloc ?_ _) | (with_reducible refine Kd.C_drewN ?_ _) | (with_reducible refine Kd.C_drew ?_))); (case side6 => exact (Kd.Q_reads' HO_5.out).2.1); rintro e w24 ⟨rfl, hb⟩; have n0_ := Aside0.mk (Kd.S_below (by (with_reducible repeat (first | apply Kd.S_alloc | apply Kd.S_drewN | apply Kd.S_drew)); exact HO_3.out) hb); have n1_ := Aside0.mk (Kd.Q_below (by (with_reducible repeat (first | apply Kd.Q_alloc | apply Kd.Q_drewN | apply Kd.Q_drew)); exact HO_4.out) hb); have n2_ := Aside0.mk (Kd.Q_below (by (with_reducible repeat (first | apply Kd.Q_alloc | apply Kd.Q_drewN | apply Kd.Q_drew)); exact HO_5.out) hb); have n3_ := Aside0.mk (Kd.R_below (by (with_reducible repeat (first | apply Kd.R_alloc | apply Kd.R_drewN | apply Kd.R_drew)); exact HO_7.out) hb); have n4_ := Aside0.mk (below_step (by repeat (first | (with_reducible first | exact HB.out | apply below_alloc | apply pw_below_drewN | apply below_drew1) | exact HB.out)) hb); clear HO_3; clear HO_4; clear HO_5; clear HO_7; clear HB; have HO_3 := n0_; have HO_4 := n1_; have HO_5 := n2_; have HO_7 := n3_; have HB := n4_; clear n0_ n1_ n2_ n3_ n4_; (try clear hb); (try clear hb2); (try clear hk); (try clear hi))); try go_wp2_with (first | (go_at_call 21; (with_reducible refine (spec_RunsTogether.calls kj5 _ _ t654 _ _ t655 _ _ t656 t669 _ ?side1 ?side2 ?side3 ?side4 ?side5 ?side6 A23.out).mono ?_); (case side1 => repeat (first | exact (Kd.S_reads' HO_3.out).2.2 | (with_reducible refine Kd.C_alloc ?_ _) | (with_reducible refine Kd.C_drewN ?_ _) | (with_reducible refine Kd.C_drew ?_))); (case side2 => exact (Kd.S_reads' HO_3.out).2.1); (case side3 => repeat (first | exact (Kd.Q_reads' HO_4.out).2.2 | (with_reducible refine Kd.C_alloc ?_ _) | (with_reducible refine Kd.C_drewN ?_ _) | (with_reducible refine Kd.C_drew ?_))); (case side4 => exact (Kd.Q_reads' HO_4.out).2.1); (case side5 => repeat (first | exact (Kd.Q_reads' HO_5.out).2.2 | (with_reducible refine Kd.C_alloc ?_ _) | (with_reducible refine Kd.C_drewN ?_ _) | (with_reducible refine Kd.C_drew ?_))); (case side6 => exact (Kd.Q_reads' HO_5.out).2.1); rintro e w24 ⟨rfl, hb⟩; have n0_ := Aside0.mk (Kd.S_below (by (with_reducible repeat (first | apply Kd.S_alloc | apply Kd.S_drewN | apply Kd.S_drew)); exact HO_3.out) hb); have n1_ := Aside0.mk (Kd.Q_below (by (with_reducible repeat (first | apply Kd.Q_alloc | apply Kd.Q_drewN | apply Kd.Q_drew)); exact HO_4.out) hb); have n2_ := Aside0.mk (Kd.Q_below (by (with_reducible repeat (first | apply Kd.Q_alloc | apply Kd.Q_drewN | apply Kd.Q_drew)); exact HO_5.out) hb); have n3_ := Aside0.mk (Kd.R_below (by (with_reducible repeat (first | apply Kd.R_alloc | apply Kd.R_drewN | apply Kd.R_drew)); exact HO_7.out) hb); have n4_ := Aside0.mk (below_step (by repeat (first | (with_reducible first | exact HB.out | apply below_alloc | apply pw_below_drewN | apply below_drew1) | exact HB.out)) hb); clear HO_3; clear HO_4; clear HO_5; clear HO_7; clear HB; have HO_3 := n0_; have HO_4 := n1_; have HO_5 := n2_; have HO_7 := n3_; have HB := n4_; clear n0_ n1_ n2_ n3_ n4_; (try clear hb); (try clear hb2); (try clear hk); (try clear hi))))
          go_ret
          exact ⟨by first | rfl | (simp [errW_none, errW_some] <;> rfl) | (simp [*, errW_none, errW_some] <;> rfl), by repeat (first | (with_reducible first | exact HB.out | apply below_alloc | apply pw_below_drewN | apply below_drew1) | exact HB.out)⟩
        · replace c22 := Bool.eq_false_iff.mpr c22
          subst c22
          have H1 : (laws_FnRunsTogetherUnits.l0 kj5 t655 t663 t664 true 0) = some r := by rw [if_neg (show ¬ (false = true) by decide)] at H; exact H
          clear H
          have H := H1
          clear H1
          have H' := Aside0.mk H
          clear H
          go_wp2
          repeat (go_quiet (fail); try go_wp2)
          go_loopg [8, 9] kj5 (fun kq v8 v9 w' => ∃ (x8_2 : Bool) (x9_2 : Int), v8 = .bool x8_2 ∧ v9 = .int .i64 x9_2 ∧ Aside0 (laws_FnRunsTogetherUnits.l0 kq t655 t663 t664 x8_2 x9_2 = some r) ∧ Aside0 (kq ≤ kj5) ∧ Aside0 (Kd.Q (Kd.int .i64) 3 w' w.heap.size (fun k_ => some k_ ≠ (v665 : Value).ownBlock) (.slice Ao9 t655.length co9) t655) ∧ Aside0 (Kd.R (Kd.int .i64) 73 w' w.heap.size (fun k_ => some k_ ≠ ((.slice Ao9 t655.length co9) : Value).ownBlock) v665 t664) ∧ Aside0 (Below w.heap.size w w'))
          case atStart => exact ⟨(true), (0), (by first | rfl | (simp; done) | (simp [*]; done)), (by first | rfl | (simp; done) | (simp [*]; done)), H', ⟨Nat.le_refl _⟩, ⟨by (with_reducible repeat (first | apply Kd.Q_alloc | apply Kd.Q_drewN | apply Kd.Q_drew)); exact Kd.Q_mono HO_4.out (fun _ hk => hk.2)⟩, ⟨by (with_reducible repeat (first | apply Kd.R_alloc | apply Kd.R_drewN | apply Kd.R_drew)); exact Kd.R_mono HO_7.out (fun _ hk => hk.1)⟩, ⟨by repeat (first | (with_reducible first | exact HB.out | apply below_alloc | apply pw_below_drewN | apply below_drew1) | exact HB.out)⟩⟩
          case round =>
            clear H'
            try clear c1
            try clear c2
            try clear c2b0
            try clear c2b1
            try clear p2
            try clear c13
            try clear c14
            try clear c14b0
            try clear c14b1
            try clear c14b2
            try clear c16
            try clear c16b0
            try clear c16b1
            try clear c22
            try clear p2
            obtain ⟨x8_2, x9_2, rfl, rfl, HA, HK2, HO_4, HO_7, HB⟩ := hrel
            cases gk with
            | zero => exact absurd HA.out (by simp [laws_FnRunsTogetherUnits.l0])
            | succ k2 =>
              have H := HA.out
              clear HA
              simp only [laws_FnRunsTogetherUnits.l0] at H
              by_cases c25 : x9_2 < (t664.length : Int)
              · rw [if_pos c25] at H
                have c25b0 : decide (x9_2 < (t664.length : Int)) = true := decide_eq_true c25
                clear c25
                by_cases c26 : x8_2 = true
                · subst c26
                  have H1 : (if 0 ≤ x9_2 then (if x9_2 < (t655.length : Int) then (laws_FnRunsTogetherUnits.l0 k2 t655 t663 t664 (decide ((rd t664 x9_2) ≤ (rd t655 x9_2))) (wrap64 (x9_2 + 1))) else (none)) else (none)) = some r := by rw [if_pos rfl] at H; exact H
                  clear H
                  have H := H1
                  clear H1
                  by_cases c27 : 0 ≤ x9_2
                  · rw [if_pos c27] at H
                    have c27b0 : decide (0 ≤ x9_2) = true := decide_eq_true c27
                    clear c27
                    by_cases c28 : x9_2 < (t655.length : Int)
                    · rw [if_pos c28] at H
                      have c28b0 : decide (x9_2 < (t655.length : Int)) = true := decide_eq_true c28
                      clear c28
                      have H' := Aside0.mk H
                      clear H
                      obtain ⟨Ao29, co29, eo29⟩ := Kd.R_slice HO_7.out
                      subst eo29
                      have p670 : 0 ≤ (x9_2 : Int) := of_decide_eq_true (by first | (with_reducible assumption) | assumption)
                      have q670 : x9_2 < (t664.length : Int) := of_decide_eq_true (by first | (with_reducible assumption) | assumption)
                      obtain ⟨ad670, e670, hx670_0⟩ := Kd.at_int (Kd.R_reads' HO_7.out).2.2 x9_2 p670 q670
                      cases e670
                      replace p670 := eq_true p670
                      replace q670 := eq_true q670
                      have p671 : 0 ≤ (x9_2 : Int) := of_decide_eq_true (by first | (with_reducible assumption) | assumption)
                      have q671 : x9_2 < (t655.length : Int) := of_decide_eq_true (by first | (with_reducible assumption) | assumption)
                      obtain ⟨ad671, e671, hx671_0⟩ := Kd.at_int (Kd.Q_reads' HO_4.out).2.2 x9_2 p671 q671
                      cases e671
                      replace p671 := eq_true p671
                      replace q671 := eq_true q671
                      go_wp2
                      repeat (go_quiet (fail); try go_wp2)
                      go_roundg k2
                      case measure => have := HJ5.out; have := HK2.out; omega
                      case rel => exact ⟨(decide ((rd t664 x9_2) ≤ (rd t655 x9_2))), (wrap64 (x9_2 + 1)), (by first | rfl | (simp; done) | (simp [*]; done)), (by first | rfl | (simp; done) | (simp [*]; done)), H', ⟨by have := HJ5.out; have := HK2.out; omega⟩, ⟨by (with_reducible repeat (first | apply Kd.Q_alloc | apply Kd.Q_drewN | apply Kd.Q_drew)); exact HO_4.out⟩, ⟨by (with_reducible repeat (first | apply Kd.R_alloc | apply Kd.R_drewN | apply Kd.R_drew)); exact HO_7.out⟩, ⟨by repeat (first | (with_reducible first | exact HB.out | apply below_alloc | apply pw_below_drewN | apply below_drew1) | exact HB.out)⟩⟩
                    · rw [if_neg c28] at H
                      exact absurd H (by simp)
                  · rw [if_neg c27] at H
                    exact absurd H (by simp)
                · replace c26 := Bool.eq_false_iff.mpr c26
                  subst c26
                  have H1 : (laws_FnRunsTogetherUnits.l0 k2 t655 t663 t664 false (wrap64 (x9_2 + 1))) = some r := by rw [if_neg (show ¬ (false = true) by decide)] at H; exact H
                  clear H
                  have H := H1
                  clear H1
                  have H' := Aside0.mk H
                  clear H
                  obtain ⟨Ao30, co30, eo30⟩ := Kd.R_slice HO_7.out
                  subst eo30
                  go_wp2
                  repeat (go_quiet (fail); try go_wp2)
                  go_roundg k2
                  case measure => have := HJ5.out; have := HK2.out; omega
                  case rel => exact ⟨(false), (wrap64 (x9_2 + 1)), (by first | rfl | (simp; done) | (simp [*]; done)), (by first | rfl | (simp; done) | (simp [*]; done)), H', ⟨by have := HJ5.out; have := HK2.out; omega⟩, ⟨by (with_reducible repeat (first | apply Kd.Q_alloc | apply Kd.Q_drewN | apply Kd.Q_drew)); exact HO_4.out⟩, ⟨by (with_reducible repeat (first | apply Kd.R_alloc | apply Kd.R_drewN | apply Kd.R_drew)); exact HO_7.out⟩, ⟨by repeat (first | (with_reducible first | exact HB.out | apply below_alloc | apply pw_below_drewN | apply below_drew1) | exact HB.out)⟩⟩
              · rw [if_neg c25] at H
                have c25b0 : decide (x9_2 < (t664.length : Int)) = false := decide_eq_false c25
                clear c25
                obtain rfl := Option.some.inj H
                obtain ⟨Ao31, co31, eo31⟩ := Kd.R_slice HO_7.out
                subst eo31
                go_wp2
                repeat (go_quiet (fail); try go_wp2)
                go_ret
                exact ⟨by first | rfl | (simp [errW_none, errW_some] <;> rfl) | (simp [*, errW_none, errW_some] <;> rfl), by repeat (first | (with_reducible first | exact HB.out | apply below_alloc | apply pw_below_drewN | apply below_drew1) | exact HB.out)⟩
end Go.Proofs.YtffhdofcfkgoaaaDoor.P
end
section
set_option linter.unusedVariables false
set_option linter.unusedSimpArgs false
namespace Go.Proofs.YtffhdofcfkgoaaaDoor.Core
open Go Go.RowKit Go.Proofs.YtffhdofcfkgoaaaDoorW.PrintWords Go.Proofs.YtffhdofcfkgoaaaDoorW.PrintMore Go.Proofs.YtffhdofcfkgoaaaDoor.P
theorem units_runs {g : List Tk} {room l : List Int} (h3 : (usedD g l).length = 3) (hr : roomOk room) : ∃ a b c, usedD g l = [a, b, c] ∧ runsD g room l = (decide (a ≤ rd room 0) && decide (b ≤ rd room 1) && decide (c ≤ rd room 2)) := by
  unfold usedD at h3 ⊢
  unfold runsD
  cases hG : graphD g with
  | none => rw [hG] at h3; simp at h3
  | some G =>
    rw [hG] at h3
    simp only [] at h3 ⊢
    cases hs : setD g.length l with
    | none => rw [hs] at h3; simp at h3
    | some s =>
      refine ⟨_, _, _, rfl, ?_⟩
      simp only [hr, if_true, fitsD]
theorem FnRunsTogetherUnits_pure (l0 : List Int) (hW : Bytes l0) : ∃ k, laws_FnRunsTogetherUnits.f k l0 = some true := by
  refine Ev.one (f := fun k => laws_FnRunsTogetherUnits.f k l0) (EvP.ev ?_)
  unfold laws_FnRunsTogetherUnits.f
  refine EvP.ite (fun _ => EvP.ret rfl) (fun hlen => ?_)
  refine (ev_DrawRunsTogether hW).bind ?_
  rintro ⟨g, room, l⟩ ⟨hg, hr, hl⟩
  simp only [] at hg hr hl ⊢
  have hf := hg.fits (by unfold big; omega) (by unfold big; omega)
  have hs := ev_RunsTogether hf (room := room) (l := l) (by unfold big; omega) (by unfold big; omega)
  refine Ev.bindP (Ev.const (runsD g room l)) (Ev.bindP (Ev.const (usedD g l)) (Ev.bindP hs (EvP.neg (by simp) ?_)))
  have hno : EvP (fun k => laws_FnRunsTogetherUnits.j0 k g room l (runsD g room l) (usedD g l) true) (fun x => x = true) := by
    refine EvP.succ ?_
    simp only [laws_FnRunsTogetherUnits.j0, if_true]
    exact Ev.bindP hs (EvP.ret (by simp))
  refine EvP.ite (fun h3 => ?_) (fun _ => hno)
  refine Ev.bindP (ev_ValidRoom room) ?_
  by_cases hro : roomOk room
  rotate_left
  · rw [decide_eq_false hro]; exact hno
  rw [decide_eq_true hro]
  refine EvP.succ ?_
  simp only [laws_FnRunsTogetherUnits.j0, Bool.not_true, Bool.false_eq_true, if_false]
  obtain ⟨a, b, c, hu, hd⟩ := units_runs (g := g) (l := l) (room := room) (by omega) hro
  rw [hu, hd]
  have h3 := hro.1
  refine EvP.succ ?_
  simp only [laws_FnRunsTogetherUnits.l0, List.length_cons, List.length_nil]
  refine EvP.pos (by omega) (EvP.pos (by trivial) (EvP.pos (by omega) (EvP.pos (by omega) (EvP.succ ?_))))
  simp only [laws_FnRunsTogetherUnits.l0, List.length_cons, List.length_nil, show wrap64 (0 + 1) = 1 from by unfold wrap64; omega]
  refine EvP.pos (by omega) ?_
  have e0 : rd [a, b, c] 0 = a := rfl
  have e1 : rd [a, b, c] 1 = b := rfl
  have e2 : rd [a, b, c] 2 = c := rfl
  rw [e0]
  have fin : ∀ t : Bool, t = (decide (a ≤ rd room 0) && decide (b ≤ rd room 1) && decide (c ≤ rd room 2)) → EvP (fun k => laws_FnRunsTogetherUnits.l0 k room (decide (a ≤ rd room 0) && decide (b ≤ rd room 1) && decide (c ≤ rd room 2)) [a, b, c] t 3) (fun x => x = true) := by
    rintro t rfl
    refine EvP.succ ?_
    simp only [laws_FnRunsTogetherUnits.l0, List.length_cons, List.length_nil]
    exact EvP.neg (by omega) (EvP.ret (by simp))
  have two : ∀ t : Bool, t = (decide (a ≤ rd room 0) && decide (b ≤ rd room 1)) → EvP (fun k => laws_FnRunsTogetherUnits.l0 k room (decide (a ≤ rd room 0) && decide (b ≤ rd room 1) && decide (c ≤ rd room 2)) [a, b, c] t 2) (fun x => x = true) := by
    rintro t rfl
    refine EvP.succ ?_
    simp only [laws_FnRunsTogetherUnits.l0, List.length_cons, List.length_nil, show wrap64 (2 + 1) = 3 from by unfold wrap64; omega]
    refine EvP.pos (by omega) (EvP.ite (fun ht => EvP.pos (by omega) (EvP.pos (by omega) (fin _ ?_))) (fun ht => fin _ ?_))
    · rw [ht, e2]; simp
    · rw [Bool.not_eq_true] at ht; rw [ht]; simp
  refine EvP.ite (fun ht => EvP.pos (by omega) (EvP.pos (by omega) ?_)) (fun ht => ?_)
  · rw [show wrap64 (1 + 1) = 2 from by unfold wrap64; omega, e1]
    exact two _ (by rw [ht]; simp)
  · rw [show wrap64 (1 + 1) = 2 from by unfold wrap64; omega]
    rw [Bool.not_eq_true] at ht
    exact two _ (by rw [ht]; simp)
end Go.Proofs.YtffhdofcfkgoaaaDoor.Core
end
