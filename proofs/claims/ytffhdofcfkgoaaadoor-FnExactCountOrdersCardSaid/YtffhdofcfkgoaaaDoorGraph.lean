/- Graphs in plain words: needs as sets, the order, what is below and above. No program here. -/
import Derived.Test.YtffhdofcfkgoaaaDoorP0
import Derived.Test.YtffhdofcfkgoaaaDoorKit
import Derived.Test.YtffhdofcfkgoaaaDoorPI
set_option linter.unusedVariables false
set_option linter.unusedSimpArgs false
namespace Go.Proofs.YtffhdofcfkgoaaaDoor.P
open Go Core
abbrev Tk := S33
end Go.Proofs.YtffhdofcfkgoaaaDoor.P
namespace Go.Proofs.YtffhdofcfkgoaaaDoor.Core
open Go Go.Proofs.YtffhdofcfkgoaaaDoor.P

/-- Sets as the program's numbers. -/
def up (L : List Nat) : List Int := L.map Int.ofNat
theorem up_length (L : List Nat) : (up L).length = L.length := by simp [up]
def below1 (n : Nat) (L : List Nat) : Prop := ∀ x ∈ L, x < 2 ^ n

def bStep (i : Nat) (L : List Nat) (k : Nat) : List Nat := L.set i (L.getD i 0 ||| (L.getD k 0 ||| 2 ^ k))
def aStep (i : Nat) (U : List Nat) (k : Nat) : List Nat := U.set k (U.getD k 0 ||| 2 ^ i)
def rStep (N : List Nat) (LU : List Nat × List Nat) (i : Nat) : List Nat × List Nat :=
  ((elemsN (N.getD i 0)).foldl (bStep i) LU.1, (elemsN (((elemsN (N.getD i 0)).foldl (bStep i) LU.1).getD i 0)).foldl (aStep i) LU.2)
def reach (N order : List Nat) (n : Nat) : List Nat × List Nat := order.foldl (rStep N) (List.replicate n 0, List.replicate n 0)

theorem getD_lt {n : Nat} {L : List Nat} (h : below1 n L) (i : Nat) : L.getD i 0 < 2 ^ n := by
  rw [List.getD_eq_getElem?_getD]
  cases e : L[i]? with
  | none => exact Nat.two_pow_pos n
  | some x => exact h x (List.mem_of_getElem? e)
theorem bStep_length (i : Nat) (L : List Nat) (k : Nat) : (bStep i L k).length = L.length := by simp [bStep]
theorem aStep_length (i : Nat) (L : List Nat) (k : Nat) : (aStep i L k).length = L.length := by simp [aStep]
theorem set_below {n i x : Nat} {L : List Nat} (h : below1 n L) (hx : x < 2 ^ n) : below1 n (L.set i x) := by
  intro y hy
  rcases List.mem_or_eq_of_mem_set hy with h1 | h1
  · exact h y h1
  · rw [h1]; exact hx
theorem bStep_below {n i k : Nat} {L : List Nat} (h : below1 n L) (hk : k < n) : below1 n (bStep i L k) :=
  set_below h (Nat.or_lt_two_pow (getD_lt h i) (Nat.or_lt_two_pow (getD_lt h k) (Nat.pow_lt_pow_right (by omega) hk)))
theorem aStep_below {n i k : Nat} {L : List Nat} (h : below1 n L) (hi : i < n) : below1 n (aStep i L k) :=
  set_below h (Nat.or_lt_two_pow (getD_lt h k) (Nat.pow_lt_pow_right (by omega) hi))
theorem pow8 {n : Nat} (h : n ≤ 8) : 2 ^ n ≤ 256 := Nat.pow_le_pow_right (by omega) h
end Go.Proofs.YtffhdofcfkgoaaaDoor.Core

/- Small methods of sets: with, has, everything, size. -/
namespace Go.Proofs.YtffhdofcfkgoaaaDoor.Core
open Go Go.RowKit Go.Shelf Go.Proofs.YtffhdofcfkgoaaaDoorW.PrintWords
attribute [local go_sem] Oper.semAt_some wide_fn wide_depth

set_option maxHeartbeats 1000000 in
theorem with_calls (s k : Nat) (hs : s < 256) (hk : k < 8) (w : World) :
    Calls Tryd.prog 78 #[.int .u16 (s : Int), .int .i64 (k : Int)] w fun e w' => e = .returned (.int .u16 ((s ||| 2 ^ k : Nat) : Int)) ∧ w = w' := by
  go_enter Tryd.func78, Tryd.ntmps78
  go_wp2
  go_ret
  exact ⟨by rw [with_eq hs hk]; rfl, rfl⟩
set_option maxHeartbeats 1000000 in
theorem has_calls (s k : Nat) (hs : s < 256) (hk : k < 8) (w : World) :
    Calls Tryd.prog 88 #[.int .u16 (s : Int), .int .i64 (k : Int)] w fun e w' => e = .returned (.bool (s.testBit k)) ∧ w = w' := by
  go_enter Tryd.func88, Tryd.ntmps88
  go_wp2
  go_ret
  exact ⟨by rw [has_eq hs]; rfl, rfl⟩
set_option maxHeartbeats 1000000 in
theorem everything_calls (n : Nat) (hn : n ≤ 8) (w : World) :
    Calls Tryd.prog 76 #[.int .i64 (n : Int)] w fun e w' => e = .returned (.int .u16 ((2 ^ n - 1 : Nat) : Int)) ∧ w = w' := by
  go_enter Tryd.func76, Tryd.ntmps76
  go_wp2
  go_ret
  exact ⟨by rw [everything_eq hn]; rfl, rfl⟩
end Go.Proofs.YtffhdofcfkgoaaaDoor.Core

/- graphOf: what is known of a valid graph. -/
namespace Go.Proofs.YtffhdofcfkgoaaaDoor.Core
open Go Go.RowKit Go.Shelf Go.Proofs.YtffhdofcfkgoaaaDoorW.PrintWords Go.Proofs.YtffhdofcfkgoaaaDoorW.PrintLast Go.Proofs.YtffhdofcfkgoaaaDoorW.PrintMore Go.Proofs.YtffhdofcfkgoaaaDoor.P
attribute [local go_sem] Oper.semAt_some wide_fn wide_depth

/-- What is known of a graph: tasks, needs, order, below, above. -/
structure GD where
  tasks : List Tk
  needs : List Nat
  order : List Nat
  below : List Nat
  above : List Nat
/-- Block b holds the graph's struct; what its slices lead to. -/
def IsG (w : World) (b : Nat) (G : GD) : Prop :=
  ∃ (A0 A1 A2 A3 A4 : Option Addr) (c0 c1 c2 c3 c4 : Nat),
    w.heap[b]? = some (.cells #[.slice A0 G.tasks.length c0, .slice A1 G.needs.length c1, .slice A2 G.order.length c2, .slice A3 G.below.length c3, .slice A4 G.above.length c4] 81 (0, 0)) ∧
    (G.tasks.length ≤ c0 ∧ k33.C w A0 G.tasks.length G.tasks) ∧ (G.needs.length ≤ c1 ∧ (Kd.int .u16).C w A1 G.needs.length (up G.needs)) ∧
    (G.order.length ≤ c2 ∧ (Kd.int .i64).C w A2 G.order.length (up G.order)) ∧ (G.below.length ≤ c3 ∧ (Kd.int .u16).C w A3 G.below.length (up G.below)) ∧ (G.above.length ≤ c4 ∧ (Kd.int .u16).C w A4 G.above.length (up G.above))

theorem cells_alloc {W : World} {p : Nat} {o : Obj} (h : W.heap[p]? = some o) (x : Obj) : (W.alloc x).heap[p]? = some o :=
  ((World.grownBy_alloc W x none).block p (Array.getElem?_eq_some_iff.1 h).1 (by simp)).trans h
theorem cells_new (W : World) (x : Obj) : (W.alloc x).heap[W.heap.size]? = some x := World.alloc_heap_new W x
theorem cells_lt {W : World} {p : Nat} {o : Obj} (h : W.heap[p]? = some o) : p < W.heap.size := (Array.getElem?_eq_some_iff.1 h).1
theorem below_put {b p : Nat} {w W W1 : World} (hg : W.grownBy W1 (some p)) (h : Below b w W) (hb : b ≤ w.heap.size) (hp : b ≤ p) : Below b w W1 :=
  ⟨hg.os.trans h.os, hg.tape.trans h.tape, hg.output.trans h.output, Nat.le_trans h.size hg.size, fun k hk =>
    (hg.block k (Nat.lt_of_lt_of_le hk (Nat.le_trans hb h.size)) (fun e => by injection e with e; omega)).trans (h.block k hk)⟩
theorem exec_make {P : Program} {ρ : Operand → Value} {o : Oper} {t : TypeId} {l c : Operand} {W W1 : World} {v : Value} (ho : o.op = .makeSlice t l c) (h : (Instr.makeSlice t (ρ l) (ρ c)).run P W = .ok v W1) : (execOp ρ o).run P W = .ok (.value v) W1 := by
  unfold execOp
  rw [ho]
  go_simp
theorem wp_normal {c : Code} {P : Program} {K : Act → World → Prop} {Q' : Exit → Act → World → Prop} {a : Act} {w : World} (h : c.wp P (fun e a' w' => match e with | .normal => K a' w' | _ => False) a w) : c.wp P (Exit.then K Q') a w := by
  refine wp_mono h ?_
  intro e a' w' q
  cases e with
  | normal => exact q
  | _ => exact q.elim

set_option maxRecDepth 100000 in
set_option maxHeartbeats 4000000 in
theorem graphOf_no1 (k : Nat) (A0 : Option Addr) (c0 : Nat) (l0 : List Tk) (N : List Int) (w : World) (hr0 : k33.C w A0 l0.length l0) (hc0 : l0.length ≤ c0) (h : impl_needsOf.f k l0 = some (N, false)) :
    Calls Tryd.prog 47 #[.slice A0 l0.length c0] w fun e w' => e = .returned (.tuple #[.pointer none, .bool false]) ∧ Below w.heap.size w w' := by
  have h' := Lib.hid h
  clear h
  refine calls_marks Tryd.func47 rfl ?_
  simp only [Tryd.ntmps47, List.size_toArray, List.length_cons, List.length_nil, Nat.reduceAdd, Nat.reduceSub, Array.replicate_succ, Array.replicate_zero, List.push_toArray, List.append_toArray, List.nil_append, List.cons_append]
  go_wp2_with (go_at_call 74; refine (impl_needsOf.calls k A0 c0 l0 _ _ _ hr0 hc0 h'.out).mono ?_; rintro e w' ⟨v0, rfl, hR, hB⟩)
  refine leave_ret (Marks.nil w.heap.size w.heap.size _) (fun W => results_tmp2 rfl _ _ _) ?_
  intro W' ht
  exact ⟨rfl, ht.below hB (Nat.le_refl _) (Nat.le_refl _)⟩

theorem madeCells1 (v : Value) (n : Nat) : madeCells #[v] n = Array.replicate n v := by
  apply Array.ext
  · simp [madeCells]
  · intro i h1 h2
    simp [madeCells, Nat.mod_one]
def zcells (n : Nat) : Array Value := Array.replicate n (.int .u16 0)
theorem infoSet : (Tryd.prog.info? 65).map (fun i => (i.zero, i.size, i.bytes)) = some (some (.int .u16 0), 1, 2) := by kernel_rfl
theorem run_make_sets (n : Nat) (hn : n ≤ 8) (W : World) : (Instr.makeSlice 79 (.int .i64 (n : Int)) (.int .i64 (n : Int))).run Tryd.prog W = .ok (.slice (some ⟨W.heap.size, 0, none⟩) n n) (W.alloc (.cells (zcells n) 65)) := by
  obtain ⟨i0, hi, hz0, hz1, hz2⟩ := info_parts infoSet
  have hr := run_make (P := Tryd.prog) W 79 65 i0 (.int .u16 0) Tryd.underlying79 hi hz0 .i64 .i64 (n : Int) (n : Int) (by omega) (by omega) (by rw [hz2]; omega) (by omega)
  rw [hz1] at hr
  simp only [Int.toNat_natCast, Nat.mul_one] at hr
  rw [hr]
  rw [show madeCells (Value.cells (.int .u16 0)) n = zcells n from madeCells1 _ n]

theorem fold_len {f : List Nat → Nat → List Nat} (h : ∀ L k, (f L k).length = L.length) : ∀ (ks L : List Nat), (ks.foldl f L).length = L.length
  | [], _ => rfl
  | k :: ks, L => by rw [List.foldl_cons, fold_len h ks, h]
theorem rfold_len (N : List Nat) : ∀ (O : List Nat) (LU : List Nat × List Nat), (O.foldl (rStep N) LU).1.length = LU.1.length ∧ (O.foldl (rStep N) LU).2.length = LU.2.length
  | [], _ => ⟨rfl, rfl⟩
  | i :: O, LU => by
    rw [List.foldl_cons]
    have := rfold_len N O (rStep N LU i)
    rw [this.1, this.2]
    exact ⟨fold_len (bStep_length i) _ _, fold_len (aStep_length i) _ _⟩
theorem reach_len1 (N O : List Nat) (n : Nat) : (reach N O n).1.length = n := by rw [reach, (rfold_len N O _).1]; simp
theorem reach_len2 (N O : List Nat) (n : Nat) : (reach N O n).2.length = n := by rw [reach, (rfold_len N O _).2]; simp
theorem bfold_below {n i : Nat} : ∀ {ks L : List Nat}, below1 n L → (∀ k ∈ ks, k < n) → below1 n (ks.foldl (bStep i) L)
  | [], _, h, _ => h
  | k :: ks, L, h, hk => by
    rw [List.foldl_cons]
    exact bfold_below (bStep_below h (hk k (List.mem_cons_self))) (fun x hx => hk x (List.mem_cons_of_mem _ hx))
theorem afold_below {n i : Nat} (hi : i < n) : ∀ {ks L : List Nat}, below1 n L → below1 n (ks.foldl (aStep i) L)
  | [], _, h => h
  | k :: ks, L, h => by
    rw [List.foldl_cons]
    exact afold_below hi (aStep_below h hi)
theorem elemsN_lt {s n k : Nat} (hs : s < 2 ^ n) (h : k ∈ elemsN s) : k < n := by
  have := elems_lt (x := (k : Int)) hs (List.mem_map.2 ⟨k, h, rfl⟩)
  omega
theorem reach_below {n : Nat} {N : List Nat} (hN : below1 n N) : ∀ {O : List Nat}, (∀ i ∈ O, i < n) → below1 n (reach N O n).1 ∧ below1 n (reach N O n).2 := by
  have : ∀ (O : List Nat) (LU : List Nat × List Nat), (∀ i ∈ O, i < n) → below1 n LU.1 ∧ below1 n LU.2 → below1 n (O.foldl (rStep N) LU).1 ∧ below1 n (O.foldl (rStep N) LU).2 := by
    intro O
    induction O with
    | nil => exact fun LU _ h => h
    | cons i O ih =>
      intro LU hi h
      rw [List.foldl_cons]
      refine ih _ (fun x hx => hi x (List.mem_cons_of_mem _ hx)) ⟨bfold_below h.1 (fun k hk => elemsN_lt (getD_lt hN i) hk), afold_below (hi i List.mem_cons_self) h.2⟩
  intro O hO
  have hz : below1 n (List.replicate n 0) := fun x hx => by rw [(List.mem_replicate.1 hx).2]; exact Nat.two_pow_pos n
  exact this O _ hO ⟨hz, hz⟩
theorem reach_snoc (N pre : List Nat) (i n : Nat) : reach N (pre ++ [i]) n = rStep N (reach N pre n) i := by simp [reach, List.foldl_append]
theorem up_inj {a b : List Nat} (h : up a = up b) : a = b := by
  have : ∀ (a b : List Nat), up a = up b → a = b := by
    intro a
    induction a with
    | nil => intro b h; cases b with
      | nil => rfl
      | cons => simp [up] at h
    | cons x a ih => intro b h; cases b with
      | nil => simp [up] at h
      | cons y b =>
        simp only [up, List.map_cons, List.cons.injEq] at h
        rw [ih b h.2, Int.ofNat.inj h.1]
  exact this a b h
/-- A row of sets in memory. -/
def scells (L : List Nat) : Array Value := (L.map fun (x : Nat) => Value.int .u16 (x : Int)).toArray
theorem zcells_eq (n : Nat) : zcells n = scells (List.replicate n 0) := by simp [zcells, scells]
/-- What the loops of graphOf hold: the rows of what is below and above, the struct, its variable. -/
structure GI (w2 : World) (p5 p8 p10 p11 : Nat) (gc : Array Value) (W : World) (B U : List Nat) : Prop where
  b5 : W.heap[p5]? = some (.cells (scells B) 65 (0, 0))
  b8 : W.heap[p8]? = some (.cells (scells U) 65 (0, 0))
  b10 : W.heap[p10]? = some (.cells gc 81 (0, 0))
  b11 : Boxed W p11 60 (.pointer (some ⟨p10, 0, none⟩))
  below : Below w2.heap.size w2 W
theorem GI.tame {w2 : World} {p5 p8 p10 p11 : Nat} {gc : Array Value} {W W' : World} {B U : List Nat} (h : GI w2 p5 p8 p10 p11 gc W B U) {b : Nat} (hb : w2.heap.size ≤ b) (ht : Tame b W W') : GI w2 p5 p8 p10 p11 gc W' B U :=
  ⟨ht.cells h.b5, ht.cells h.b8, ht.cells h.b10, ht.boxed h.b11, ht.below h.below (Nat.le_refl _) hb⟩
theorem GI.alloc {w2 : World} {p5 p8 p10 p11 : Nat} {gc : Array Value} {W : World} {B U : List Nat} (h : GI w2 p5 p8 p10 p11 gc W B U) (o : Obj) : GI w2 p5 p8 p10 p11 gc (W.alloc o) B U :=
  ⟨cells_alloc h.b5 o, cells_alloc h.b8 o, cells_alloc h.b10 o, h.b11.alloc o, h.below.alloc h.below.size o⟩
theorem GI.move {w2 : World} {p5 p8 p10 p11 : Nat} {gc : Array Value} {W W' : World} {B U : List Nat} (h : GI w2 p5 p8 p10 p11 gc W B U) (hb : Below W.heap.size W W') : GI w2 p5 p8 p10 p11 gc W' B U :=
  ⟨(hb.block p5 (cells_lt h.b5)).trans h.b5, (hb.block p8 (cells_lt h.b8)).trans h.b8, (hb.block p10 (cells_lt h.b10)).trans h.b10, (hb.block p11 h.b11.lt).trans h.b11, below_step h.below hb⟩
theorem scell {W : World} {p t : Nat} {L : List Nat} (h : W.heap[p]? = some (.cells (scells L) t (0, 0))) (i : Nat) (hi : i < L.length) : W.cell? ⟨p, i, none⟩ = some (.int .u16 ((L.getD i 0 : Nat) : Int)) := by
  simp [World.cell?, h, scells, hi]
theorem sfrozen {W : World} {p t : Nat} {L : List Nat} (h : W.heap[p]? = some (.cells (scells L) t (0, 0))) (i : Nat) : W.frozen? ⟨p, i, none⟩ = false := by
  simp [World.frozen?, h]
theorem add_own (p j : Nat) : Addr.add ⟨p, 0, none⟩ j = ⟨p, j, none⟩ := by
  unfold Addr.add
  by_cases h : j = 0 <;> simp [h]
theorem C_scells {W : World} {p t : Nat} {L : List Nat} (h : W.heap[p]? = some (.cells (scells L) t (0, 0))) (hl : L.length ≤ 8) : (Kd.int .u16).C W (some ⟨p, 0, none⟩) L.length (up L) := by
  refine ⟨up_length L, by omega, fun _ => ⟨_, rfl, fun j x hx => ⟨[.int .u16 x], rfl, rfl, fun i u hu => ?_⟩⟩⟩
  have hj : j < L.length := by
    have := (List.getElem?_eq_some_iff.1 hx).1
    rwa [up_length] at this
  have hx' : x = ((L.getD j 0 : Nat) : Int) := by
    have h2 : (up L)[j]? = some ((L.getD j 0 : Nat) : Int) := by simp [up, hj]
    rw [h2] at hx
    exact (Option.some.inj hx).symm
  cases i with
  | succ i => simp at hu
  | zero =>
    have hu' : u = .int .u16 x := by simpa using hu.symm
    subst hu' hx'
    have := scell h j hj
    show W.cell? (Addr.add ⟨p, 0, none⟩ (j * 1 + 0)) = _
    rw [Nat.mul_one, Nat.add_zero, add_own]
    exact this
theorem sset {W : World} {p t : Nat} {L : List Nat} (h : W.heap[p]? = some (.cells (scells L) t (0, 0))) (i x : Nat) : (W.setCell ⟨p, i, none⟩ (.int .u16 (x : Int))).heap[p]? = some (.cells (scells (L.set i x)) t (0, 0)) := by
  obtain ⟨hlt, hk⟩ := Array.getElem?_eq_some_iff.1 h
  show (W.heap.modify p _)[p]? = _
  rw [Array.getElem?_eq_getElem (by rw [Array.size_modify]; exact hlt), Array.getElem_modify_self, hk]
  simp [scells, List.map_set]
theorem grownBy_setCell'' (W : World) (b i : Nat) (v : Value) : W.grownBy (W.setCell ⟨b, i, none⟩ v) (some b) :=
  ⟨rfl, rfl, rfl, (KeepsWalks.setCell W _ v).size, fun k _ hk => Below.heap_setCell _ _ _ k (fun e => hk (by rw [e]))⟩
theorem sother {W : World} {p q i : Nat} (v : Value) (h : p ≠ q) : (W.setCell ⟨q, i, none⟩ v).heap[p]? = W.heap[p]? := Below.heap_setCell W ⟨q, i, none⟩ v p h
theorem rd_up {L : List Nat} {i : Nat} {x : Int} (h : x = (i : Int)) : rd (up L) x = ((L.getD i 0 : Nat) : Int) := by
  subst h
  simp only [rd, up, Int.toNat_natCast, List.getD_eq_getElem?_getD, List.getElem?_map]
  cases L[i]? <;> rfl
theorem GI.set5 {w2 : World} {p5 p8 p10 p11 : Nat} {gc : Array Value} {W : World} {B U : List Nat} (h : GI w2 p5 p8 p10 p11 gc W B U) (hp : p8 ≠ p5) (hp5 : w2.heap.size ≤ p5) (i x : Nat) : GI w2 p5 p8 p10 p11 gc (W.setCell ⟨p5, i, none⟩ (.int .u16 (x : Int))) (B.set i x) U :=
  ⟨sset h.b5 i x, (sother _ hp).trans h.b8, (sother _ (fun e => by subst e; exact absurd (h.b5.symm.trans h.b10) (by simp))).trans h.b10,
    (sother _ (fun e => by subst e; exact absurd (h.b5.symm.trans h.b11) (by simp))).trans h.b11, below_put (grownBy_setCell'' W p5 i _) h.below (Nat.le_refl _) hp5⟩
theorem GI.set8 {w2 : World} {p5 p8 p10 p11 : Nat} {gc : Array Value} {W : World} {B U : List Nat} (h : GI w2 p5 p8 p10 p11 gc W B U) (hp : p5 ≠ p8) (hp8 : w2.heap.size ≤ p8) (i x : Nat) : GI w2 p5 p8 p10 p11 gc (W.setCell ⟨p8, i, none⟩ (.int .u16 (x : Int))) B (U.set i x) :=
  ⟨(sother _ hp).trans h.b5, sset h.b8 i x, (sother _ (fun e => by subst e; exact absurd (h.b8.symm.trans h.b10) (by simp))).trans h.b10,
    (sother _ (fun e => by subst e; exact absurd (h.b8.symm.trans h.b11) (by simp))).trans h.b11, below_put (grownBy_setCell'' W p8 i _) h.below (Nat.le_refl _) hp8⟩
-- TAB7
def graphOf.T7 : Bool × List (List Nat × List Nat) := (true, [([], []), ([], []), ([], []), ([], []), ([3], [3]), ([4, 4], [4]), ([], []), ([6], [6]), ([7, 7], [7]), ([0, 1, 2, 5, 8], [0, 1, 2, 5, 8]), ([9], [9]), ([], []), ([11, 10, 0, 1, 2, 3, 4, 5, 6, 7, 8, 9, 10, 11], [10, 11])])
def graphOf.B7 : List Nat := [0, 0, 0, 0, 8, 24, 0, 64, 192, 511, 1023, 0, 4095]
theorem graphOf.tab7 : Go.Proofs.YtffhdofcfkgoaaaDoorW.PrintLast.rtab .any (Go.Proofs.YtffhdofcfkgoaaaDoorW.PrintLast.opsOf Tryd.f47 7) = graphOf.T7 := by kernel_rfl
theorem graphOf.bits7 : Go.Proofs.YtffhdofcfkgoaaaDoorW.PrintLast.waitsOk graphOf.T7.2 graphOf.B7 = true := by kernel_rfl
-- TAB7 END
-- FRAME
def gframe (f : Nat → Value) (v4 v8 v41 v42 v43 : Value) : Array Value := #[f 0, f 1, f 2, f 3, v4, f 5, f 6, f 7, v8, f 9, f 10, f 11, f 12, f 13, f 14, f 15, f 16, f 17, f 18, f 19, f 20, f 21, f 22, f 23, f 24, f 25, f 26, f 27, f 28, f 29, f 30, f 31, f 32, f 33, f 34, f 35, f 36, f 37, f 38, f 39, f 40, v41, v42, v43, f 44, f 45, f 46, f 47, f 48, f 49, f 50, f 51, f 52, f 53, f 54, f 55, f 56, f 57, f 58, f 59, f 60, f 61, f 62, f 63, f 64, f 65, f 66, f 67, f 68, f 69, f 70, f 71, f 72, f 73, f 74, f 75, f 76, f 77, f 78, f 79, f 80, f 81, f 82, f 83, f 84, f 85, f 86, f 87, f 88, f 89, f 90, f 91, f 92, f 93, f 94, f 95, f 96]
theorem frame_lit {T : Array Value} {v4 v8 v41 v42 v43 : Value} (hs : T.size = 97) (h4 : T[4]? = some v4) (h8 : T[8]? = some v8) (h41 : T[41]? = some v41) (h42 : T[42]? = some v42) (h43 : T[43]? = some v43) : ∃ f, T = gframe f v4 v8 v41 v42 v43 := by
  refine ⟨fun j => T.getD j undef, ?_⟩
  have h0 : T = ((List.range 97).map fun j => T.getD j undef).toArray := by
    apply Array.ext
    · simp [hs]
    · intro i h1 h2
      simp [Array.getD_eq_getD_getElem?, h1]
  have e (j : Nat) (v : Value) (h : T[j]? = some v) : v = T.getD j undef := by rw [Array.getD_eq_getD_getElem?, h]; rfl
  obtain rfl := e _ _ h4
  obtain rfl := e _ _ h8
  obtain rfl := e _ _ h41
  obtain rfl := e _ _ h42
  obtain rfl := e _ _ h43
  exact h0
-- FRAME END
set_option maxRecDepth 100000 in
set_option maxHeartbeats 8000000 in
theorem graphOf_yes (k : Nat) (A0 : Option Addr) (c0 : Nat) (l0 : List Tk) (N O : List Nat) (w : World) (hT : Tab w) (hr0 : k33.C w A0 l0.length l0) (hc0 : l0.length ≤ c0) (h8 : l0.length ≤ 8) (hN : N.length = l0.length) (hNb : below1 l0.length N) (hO : ∀ i ∈ O, i < l0.length) (hOl : O.length ≤ 8)
    (h : impl_needsOf.f k l0 = some (up N, true)) (ho : impl_order.f k (up N) = some (up O, ((2 ^ l0.length - 1 : Nat) : Int))) :
    Calls Tryd.prog 47 #[.slice A0 l0.length c0] w fun e w' => ∃ (b : Nat) (v : Value), e = .returned (.tuple #[.pointer (some ⟨b, 0, none⟩), .bool true]) ∧ Below w.heap.size w w' ∧ w.heap.size ≤ b ∧ IsG w' b ⟨l0, N, O, (reach N O l0.length).1, (reach N O l0.length).2⟩ ∧ w'.cell? ⟨b, 2, none⟩ = some v ∧ (Kd.int .i64).R 3 w' w.heap.size (fun _ => True) v (up O) := by
  have h' := Lib.hid h
  have ho' := Lib.hid ho
  clear h ho
  refine calls_marks Tryd.func47 rfl ?_
  simp only [Tryd.ntmps47, List.size_toArray, List.length_cons, List.length_nil, Nat.reduceAdd, Nat.reduceSub, Array.replicate_succ, Array.replicate_zero, List.push_toArray, List.append_toArray, List.nil_append, List.cons_append]
  go_wp2_with (first | (go_at_call 74; refine (impl_needsOf.calls k A0 c0 l0 _ _ _ hr0 hc0 h'.out).mono ?_; rintro e w1 ⟨v0, rfl, hR1, hB1⟩; obtain ⟨A1, c1, rfl, hl1', hC1⟩ := Kd.R_reads hR1; have hz1 := Lib.hid (up_length N)) | (go_at_call 75; refine (impl_order.calls k _ _ (up N) _ _ _ hC1 hl1' ho'.out).mono ?_; rintro e w2 ⟨v1, rfl, hR2, hB2⟩; obtain ⟨A2, c2, rfl, hl2', hC2⟩ := Kd.R_reads hR2) | (go_at_call 76; refine (everything_calls l0.length h8 _).mono ?_; rintro e w3 ⟨rfl, rfl⟩))
  have hmk := run_make_sets l0.length h8
  have HBs := Aside0.mk (below_step hB1 hB2)
  rename_i hK_
  refine wp_normal ?_
  -- R7
  refine start_ (n := 13) (S := fun w' => True) (ds := []) #[false, false, false, false, false, false, false, false, false, false, false, false, false] (by kernel_rfl) rfl rfl trivial (fun hHeld => ?_)
  refine with_tabW graphOf.tab7 graphOf.bits7 (fun HT_ HW_ => ?_)
  have HB : Below w.heap.size w w2.drew := below_drew HBs.out
  have HM : Below w2.heap.size w2 w2.drew := below_drew (Below.refl _ _)
  generalize w2.drew = wr at HB HM ⊢
  refine pure_ (i := 0) (N := some 30) (v := ?_) (a' := ?_) #[true, false, false, false, false, false, false, false, false, false, false, false, false] rfl rfl (any_of HT_.out (by kernel_rfl)) (fun _ _ _ h => h) (Or.inl ⟨by rfl, ?_⟩) ?_ ?_
  rotate_left
  · intro w'
    go_simp
    with_reducible rfl
  rotate_left
  · simp only [Act.put, List.setIfInBounds_toArray, List.set_cons_zero, List.set_cons_succ, i64_w, i32_w]
    rfl
  refine pure_ (i := 1) (N := some 31) (v := ?_) (a' := ?_) #[true, true, false, false, false, false, false, false, false, false, false, false, false] rfl rfl (any_of HT_.out (by kernel_rfl)) (fun _ _ _ h => h) (Or.inl ⟨by rfl, ?_⟩) ?_ ?_
  rotate_left
  · intro w'
    go_simp
    with_reducible rfl
  rotate_left
  · simp only [Act.put, List.setIfInBounds_toArray, List.set_cons_zero, List.set_cons_succ, i64_w, i32_w]
    rfl
  refine pure_ (i := 2) (N := some 32) (v := ?_) (a' := ?_) #[true, true, true, false, false, false, false, false, false, false, false, false, false] rfl rfl (any_of HT_.out (by kernel_rfl)) (fun _ _ _ h => h) (Or.inl ⟨by rfl, ?_⟩) ?_ ?_
  rotate_left
  · intro w'
    go_simp
    with_reducible rfl
  rotate_left
  · simp only [Act.put, List.setIfInBounds_toArray, List.set_cons_zero, List.set_cons_succ, i64_w, i32_w]
    rfl
  refine pure_ (i := 3) (N := some 33) (v := ?_) (a' := ?_) #[true, true, true, true, false, false, false, false, false, false, false, false, false] rfl rfl (any_of HT_.out (by kernel_rfl)) (fun _ _ _ h => h) (Or.inl ⟨by rfl, ?_⟩) ?_ ?_
  rotate_left
  · intro w'
    go_simp
    with_reducible rfl
  rotate_left
  · simp only [Act.put, List.setIfInBounds_toArray, List.set_cons_zero, List.set_cons_succ, i64_w, i32_w]
    rfl
  refine pure_ (i := 4) (N := some 34) (v := ?_) (a' := ?_) #[true, true, true, true, true, false, false, false, false, false, false, false, false] rfl rfl (any_of HT_.out (by kernel_rfl)) (fun _ _ _ h => h) (Or.inl ⟨by rfl, ?_⟩) ?_ ?_
  rotate_left
  · intro w'
    go_simp
    with_reducible rfl
  rotate_left
  · simp only [Act.put, List.setIfInBounds_toArray, List.set_cons_zero, List.set_cons_succ, i64_w, i32_w]
    rfl
  refine pure_ (i := 6) (N := some 36) (v := ?_) (a' := ?_) #[true, true, true, true, true, false, true, false, false, false, false, false, false] rfl rfl (any_of HT_.out (by kernel_rfl)) (fun _ _ _ h => h) (Or.inl ⟨by rfl, ?_⟩) ?_ ?_
  rotate_left
  · intro w'
    go_simp
    with_reducible rfl
  rotate_left
  · simp only [Act.put, List.setIfInBounds_toArray, List.set_cons_zero, List.set_cons_succ, i64_w, i32_w]
    rfl
  refine pure_ (i := 7) (N := some 37) (v := ?_) (a' := ?_) #[true, true, true, true, true, false, true, true, false, false, false, false, false] rfl rfl (any_of HT_.out (by kernel_rfl)) (fun _ _ _ h => h) (Or.inl ⟨by rfl, ?_⟩) ?_ ?_
  rotate_left
  · intro w'
    go_simp
    with_reducible rfl
  rotate_left
  · simp only [Act.put, List.setIfInBounds_toArray, List.set_cons_zero, List.set_cons_succ, i64_w, i32_w]
    rfl
  refine inv_at [5, 8, 9, 10, 11, 12] (fun a0_ b a w' => ∃ (p5 : Nat) (p8 : Nat) (p10 : Nat) (p11 : Nat) (m5_ : Value) (m8_ : Value) (m9_ : Value) (m10_ : Value) (m11_ : Value), a = putSel a0_ b [(5, 35, m5_), (8, 38, m8_), (9, 39, m9_), (10, 40, m10_), (11, 8, m11_)] ∧ (Below w.heap.size w w') ∧ (Below w2.heap.size w2 w') ∧ (b 5 = true → w'.heap[p5]? = some (.cells (zcells l0.length) 65 (0, 0)) ∧ w2.heap.size ≤ p5) ∧ (b 8 = true → w'.heap[p8]? = some (.cells (zcells l0.length) 65 (0, 0)) ∧ w2.heap.size ≤ p8) ∧ (b 5 = true → b 8 = true → p5 ≠ p8) ∧ (b 10 = true → w'.heap[p10]? = some (.cells #[.slice A0 l0.length c0, .slice A1 (up N).length c1, .slice A2 (up O).length c2, (.slice (some ⟨p5, 0, none⟩) l0.length l0.length), (.slice (some ⟨p8, 0, none⟩) l0.length l0.length)] 81 (0, 0)) ∧ w2.heap.size ≤ p10) ∧ (b 11 = true → b 12 = false → Boxed w' p11 60 (.pointer none) ∧ w2.heap.size ≤ p11) ∧ (b 12 = true → Boxed w' p11 60 (.pointer (some ⟨p10, 0, none⟩)) ∧ w2.heap.size ≤ p11) ∧ (b 5 = true → (m5_ : Value) = .slice (some ⟨p5, 0, none⟩) l0.length l0.length) ∧ (b 8 = true → (m8_ : Value) = .slice (some ⟨p8, 0, none⟩) l0.length l0.length) ∧ (b 9 = true → (m9_ : Value) = .agg #[.slice A0 l0.length c0, .slice A1 (up N).length c1, .slice A2 (up O).length c2, (.slice (some ⟨p5, 0, none⟩) l0.length l0.length), (.slice (some ⟨p8, 0, none⟩) l0.length l0.length)]) ∧ (b 10 = true → (m10_ : Value) = .pointer (some ⟨p10, 0, none⟩)) ∧ (b 11 = true → (m11_ : Value) = .pointer (some ⟨p11, 0, none⟩))) HT_.out HW_.out (by kernel_rfl) (by kernel_rfl) ?_ ?_ ?_
  · exact ⟨0, 0, 0, 0, .bool false, .bool false, .bool false, .bool false, .bool false, by simp only [putSel, Bool.false_eq_true, if_false], HB, HM, fun h_ => absurd h_ (by decide), fun h_ => absurd h_ (by decide), fun h_ => absurd h_ (by decide), fun h_ => absurd h_ (by decide), fun h_ => absurd h_ (by decide), fun h_ => absurd h_ (by decide), fun h_ => absurd h_ (by decide), fun h_ => absurd h_ (by decide), fun h_ => absurd h_ (by decide), fun h_ => absurd h_ (by decide), fun h_ => absurd h_ (by decide)⟩
  · skip
    clear HB HM
    refine steps_cons ?_ ?_
    · rintro b a w' ⟨p5, p8, p10, p11, m5_, m8_, m9_, m10_, m11_, ha, Q_HB, Q_HM, Q_G5, Q_G8, Q_N58, Q_G10, Q_G11, Q_G12, Q_X5_, Q_X8_, Q_X9_, Q_X10_, Q_X11_⟩ hb_ hon hoff
      refine ⟨_, rfl, fun K hK => ?_⟩
      have e34 : a.tmps[34]? = some (.int .i64 (l0.length : Int)) := by rw [ha]; exact (putSel_off rfl).trans rfl
      replace ha := Aside0.mk ha
      have HB := Aside0.mk Q_HB
      have HM := Aside0.mk Q_HM
      refine value_ (w1 := w'.alloc (.cells (zcells l0.length) 65)) (v := .slice (some ⟨w'.heap.size, 0, none⟩) l0.length l0.length) (by rfl) rfl ?_ ?_
      · exact exec_make rfl (by simp only [Act.eval, Array.getD_eq_getD_getElem?, e34, Option.getD_some]; exact hmk w')
      refine hK.out _ _ ⟨w'.heap.size, p8, p10, p11, (.slice (some ⟨w'.heap.size, 0, none⟩) l0.length l0.length), m8_, m9_, m10_, m11_, (by rw [ha.out]; exact putSel_upk 0 hb_ rfl rfl rfl), HB.out.alloc HB.out.size (.cells (zcells l0.length) 65), HM.out.alloc HM.out.size (.cells (zcells l0.length) 65), fun _ => ⟨cells_new w' _, HM.out.size⟩, fun h0_ => ⟨cells_alloc (Q_G8 h0_).1 _, (Q_G8 h0_).2⟩, fun _ _ => by (rename_i h5_ h8_; exact Nat.ne_of_gt (cells_lt (Q_G8 h8_).1)), fun h0_ => absurd ((hoff 10 (by kernel_rfl)).symm.trans h0_) (by decide), fun h0_ h1_ => ⟨cells_alloc (Q_G11 h0_ h1_).1 _, (Q_G11 h0_ h1_).2⟩, fun h0_ => absurd ((hoff 12 (by kernel_rfl)).symm.trans h0_) (by decide), fun _ => rfl, Q_X8_, fun h0_ => absurd ((hoff 9 (by kernel_rfl)).symm.trans h0_) (by decide), fun h0_ => absurd ((hoff 10 (by kernel_rfl)).symm.trans h0_) (by decide), Q_X11_⟩
    refine steps_cons ?_ ?_
    · rintro b a w' ⟨p5, p8, p10, p11, m5_, m8_, m9_, m10_, m11_, ha, Q_HB, Q_HM, Q_G5, Q_G8, Q_N58, Q_G10, Q_G11, Q_G12, Q_X5_, Q_X8_, Q_X9_, Q_X10_, Q_X11_⟩ hb_ hon hoff
      refine ⟨_, rfl, fun K hK => ?_⟩
      have e37 : a.tmps[37]? = some (.int .i64 (l0.length : Int)) := by rw [ha]; exact (putSel_off rfl).trans rfl
      replace ha := Aside0.mk ha
      have HB := Aside0.mk Q_HB
      have HM := Aside0.mk Q_HM
      refine value_ (w1 := w'.alloc (.cells (zcells l0.length) 65)) (v := .slice (some ⟨w'.heap.size, 0, none⟩) l0.length l0.length) (by rfl) rfl ?_ ?_
      · exact exec_make rfl (by simp only [Act.eval, Array.getD_eq_getD_getElem?, e37, Option.getD_some]; exact hmk w')
      refine hK.out _ _ ⟨p5, w'.heap.size, p10, p11, m5_, (.slice (some ⟨w'.heap.size, 0, none⟩) l0.length l0.length), m9_, m10_, m11_, (by rw [ha.out]; exact putSel_upk 1 hb_ rfl rfl rfl), HB.out.alloc HB.out.size (.cells (zcells l0.length) 65), HM.out.alloc HM.out.size (.cells (zcells l0.length) 65), fun h0_ => ⟨cells_alloc (Q_G5 h0_).1 _, (Q_G5 h0_).2⟩, fun _ => ⟨cells_new w' _, HM.out.size⟩, fun _ _ => by (rename_i h5_ h8_; exact Nat.ne_of_lt (cells_lt (Q_G5 h5_).1)), fun h0_ => absurd ((hoff 10 (by kernel_rfl)).symm.trans h0_) (by decide), fun h0_ h1_ => ⟨cells_alloc (Q_G11 h0_ h1_).1 _, (Q_G11 h0_ h1_).2⟩, fun h0_ => absurd ((hoff 12 (by kernel_rfl)).symm.trans h0_) (by decide), Q_X5_, fun _ => rfl, fun h0_ => absurd ((hoff 9 (by kernel_rfl)).symm.trans h0_) (by decide), fun h0_ => absurd ((hoff 10 (by kernel_rfl)).symm.trans h0_) (by decide), Q_X11_⟩
    refine steps_cons ?_ ?_
    · rintro b a w' ⟨p5, p8, p10, p11, m5_, m8_, m9_, m10_, m11_, ha, Q_HB, Q_HM, Q_G5, Q_G8, Q_N58, Q_G10, Q_G11, Q_G12, Q_X5_, Q_X8_, Q_X9_, Q_X10_, Q_X11_⟩ hb_ hon hoff
      refine ⟨_, rfl, fun K hK => ?_⟩
      have e30 : a.tmps[30]? = some (.slice A0 l0.length c0) := by rw [ha]; exact (putSel_off rfl).trans rfl
      have e31 : a.tmps[31]? = some (.slice A1 (up N).length c1) := by rw [ha]; exact (putSel_off rfl).trans rfl
      have e32 : a.tmps[32]? = some (.slice A2 (up O).length c2) := by rw [ha]; exact (putSel_off rfl).trans rfl
      have e35 : a.tmps[35]? = some (m5_) := by rw [ha]; exact putSel_on (e := (5, 35, m5_)) 0 rfl rfl (hon 5 (by kernel_rfl)) rfl
      rw [Q_X5_ (hon 5 (by kernel_rfl))] at e35
      have e38 : a.tmps[38]? = some (m8_) := by rw [ha]; exact putSel_on (e := (8, 38, m8_)) 1 rfl rfl (hon 8 (by kernel_rfl)) rfl
      rw [Q_X8_ (hon 8 (by kernel_rfl))] at e38
      replace ha := Aside0.mk ha
      have HB := Aside0.mk Q_HB
      have HM := Aside0.mk Q_HM
      have G5 := Aside0.mk (Q_G5 (hon 5 (by kernel_rfl)))
      have G8 := Aside0.mk (Q_G8 (hon 8 (by kernel_rfl)))
      have N58 := Aside0.mk (Q_N58 (hon 5 (by kernel_rfl)) (hon 8 (by kernel_rfl)))
      refine value_ (w1 := w') (v := .agg #[.slice A0 l0.length c0, .slice A1 (up N).length c1, .slice A2 (up O).length c2, (.slice (some ⟨p5, 0, none⟩) l0.length l0.length), (.slice (some ⟨p8, 0, none⟩) l0.length l0.length)]) (by rfl) rfl ?_ ?_
      · go_simp
        (try simp only [i64_w])
        try rfl
      refine hK.out _ _ ⟨p5, p8, p10, p11, m5_, m8_, (.agg #[.slice A0 l0.length c0, .slice A1 (up N).length c1, .slice A2 (up O).length c2, (.slice (some ⟨p5, 0, none⟩) l0.length l0.length), (.slice (some ⟨p8, 0, none⟩) l0.length l0.length)]), m10_, m11_, (by rw [ha.out]; exact putSel_upk 2 hb_ rfl rfl rfl), Q_HB, Q_HM, Q_G5, Q_G8, Q_N58, fun h0_ => absurd ((hoff 10 (by kernel_rfl)).symm.trans h0_) (by decide), Q_G11, fun h0_ => absurd ((hoff 12 (by kernel_rfl)).symm.trans h0_) (by decide), Q_X5_, Q_X8_, fun _ => rfl, fun h0_ => absurd ((hoff 10 (by kernel_rfl)).symm.trans h0_) (by decide), Q_X11_⟩
    refine steps_cons ?_ ?_
    · rintro b a w' ⟨p5, p8, p10, p11, m5_, m8_, m9_, m10_, m11_, ha, Q_HB, Q_HM, Q_G5, Q_G8, Q_N58, Q_G10, Q_G11, Q_G12, Q_X5_, Q_X8_, Q_X9_, Q_X10_, Q_X11_⟩ hb_ hon hoff
      refine ⟨_, rfl, fun K hK => ?_⟩
      have e39 : a.tmps[39]? = some (m9_) := by rw [ha]; exact putSel_on (e := (9, 39, m9_)) 2 rfl rfl (hon 9 (by kernel_rfl)) rfl
      rw [Q_X9_ (hon 9 (by kernel_rfl))] at e39
      replace ha := Aside0.mk ha
      have HB := Aside0.mk Q_HB
      have HM := Aside0.mk Q_HM
      have G5 := Aside0.mk (Q_G5 (hon 5 (by kernel_rfl)))
      have G8 := Aside0.mk (Q_G8 (hon 8 (by kernel_rfl)))
      have N58 := Aside0.mk (Q_N58 (hon 5 (by kernel_rfl)) (hon 8 (by kernel_rfl)))
      refine value_ (w1 := w'.alloc (.cells #[.slice A0 l0.length c0, .slice A1 (up N).length c1, .slice A2 (up O).length c2, (.slice (some ⟨p5, 0, none⟩) l0.length l0.length), (.slice (some ⟨p8, 0, none⟩) l0.length l0.length)] 81)) (v := .pointer (some ⟨w'.heap.size, 0, none⟩)) (by rfl) rfl ?_ ?_
      · go_simp; try rfl
      refine hK.out _ _ ⟨p5, p8, w'.heap.size, p11, m5_, m8_, m9_, (.pointer (some ⟨w'.heap.size, 0, none⟩)), m11_, (by rw [ha.out]; exact putSel_upk 3 hb_ rfl rfl rfl), HB.out.alloc HB.out.size (.cells #[.slice A0 l0.length c0, .slice A1 (up N).length c1, .slice A2 (up O).length c2, (.slice (some ⟨p5, 0, none⟩) l0.length l0.length), (.slice (some ⟨p8, 0, none⟩) l0.length l0.length)] 81), HM.out.alloc HM.out.size (.cells #[.slice A0 l0.length c0, .slice A1 (up N).length c1, .slice A2 (up O).length c2, (.slice (some ⟨p5, 0, none⟩) l0.length l0.length), (.slice (some ⟨p8, 0, none⟩) l0.length l0.length)] 81), fun _ => ⟨cells_alloc G5.out.1 _, G5.out.2⟩, fun _ => ⟨cells_alloc G8.out.1 _, G8.out.2⟩, Q_N58, fun _ => ⟨cells_new w' _, HM.out.size⟩, fun h0_ h1_ => ⟨cells_alloc (Q_G11 h0_ h1_).1 _, (Q_G11 h0_ h1_).2⟩, fun h0_ => absurd ((hoff 12 (by kernel_rfl)).symm.trans h0_) (by decide), Q_X5_, Q_X8_, Q_X9_, fun _ => rfl, Q_X11_⟩
    refine steps_cons ?_ ?_
    · rintro b a w' ⟨p5, p8, p10, p11, m5_, m8_, m9_, m10_, m11_, ha, Q_HB, Q_HM, Q_G5, Q_G8, Q_N58, Q_G10, Q_G11, Q_G12, Q_X5_, Q_X8_, Q_X9_, Q_X10_, Q_X11_⟩ hb_ hon hoff
      refine ⟨_, rfl, fun K hK => ?_⟩
      replace ha := Aside0.mk ha
      have HB := Aside0.mk Q_HB
      have HM := Aside0.mk Q_HM
      refine value_ (w1 := w'.alloc (.cells #[.pointer none] 60)) (v := .pointer (some ⟨w'.heap.size, 0, none⟩)) (by rfl) rfl ?_ ?_
      · go_simp; try rfl
      refine hK.out _ _ ⟨p5, p8, p10, w'.heap.size, m5_, m8_, m9_, m10_, (.pointer (some ⟨w'.heap.size, 0, none⟩)), (by rw [ha.out]; exact putSel_upk 4 hb_ rfl rfl rfl), HB.out.alloc HB.out.size (.cells #[.pointer none] 60), HM.out.alloc HM.out.size (.cells #[.pointer none] 60), fun h0_ => ⟨cells_alloc (Q_G5 h0_).1 _, (Q_G5 h0_).2⟩, fun h0_ => ⟨cells_alloc (Q_G8 h0_).1 _, (Q_G8 h0_).2⟩, Q_N58, fun h0_ => ⟨cells_alloc (Q_G10 h0_).1 _, (Q_G10 h0_).2⟩, fun _ _ => ⟨cells_new w' _, HM.out.size⟩, fun h0_ => absurd ((hoff 12 (by kernel_rfl)).symm.trans h0_) (by decide), Q_X5_, Q_X8_, Q_X9_, Q_X10_, fun _ => rfl⟩
    refine steps_cons ?_ ?_
    · rintro b a w' ⟨p5, p8, p10, p11, m5_, m8_, m9_, m10_, m11_, ha, Q_HB, Q_HM, Q_G5, Q_G8, Q_N58, Q_G10, Q_G11, Q_G12, Q_X5_, Q_X8_, Q_X9_, Q_X10_, Q_X11_⟩ hb_ hon hoff
      refine ⟨_, rfl, fun K hK => ?_⟩
      have e8 : a.tmps[8]? = some (m11_) := by rw [ha]; exact putSel_on (e := (11, 8, m11_)) 4 rfl rfl (hon 11 (by kernel_rfl)) rfl
      rw [Q_X11_ (hon 11 (by kernel_rfl))] at e8
      have e40 : a.tmps[40]? = some (m10_) := by rw [ha]; exact putSel_on (e := (10, 40, m10_)) 3 rfl rfl (hon 10 (by kernel_rfl)) rfl
      rw [Q_X10_ (hon 10 (by kernel_rfl))] at e40
      replace ha := Aside0.mk ha
      have HB := Aside0.mk Q_HB
      have HM := Aside0.mk Q_HM
      have G5 := Aside0.mk (Q_G5 (hon 5 (by kernel_rfl)))
      have G8 := Aside0.mk (Q_G8 (hon 8 (by kernel_rfl)))
      have N58 := Aside0.mk (Q_N58 (hon 5 (by kernel_rfl)) (hon 8 (by kernel_rfl)))
      have G10 := Aside0.mk (Q_G10 (hon 10 (by kernel_rfl)))
      have G11 := Aside0.mk (Q_G11 (hon 11 (by kernel_rfl)) hb_)
      have hcg := G11.out.1.cell
      have hfg := G11.out.1.frozen
      have hb1 := grownBy_setCell' w' p11 (.pointer (some ⟨p10, 0, none⟩))
      have hk1 := G11.out.1.set (.pointer (some ⟨p10, 0, none⟩))
      refine skip_ (w1 := w'.setCell ⟨p11, 0, none⟩ (.pointer (some ⟨p10, 0, none⟩))) (by rfl) rfl ?_ ?_
      · go_simp
      replace HB := Aside0.mk (below_put hb1 HB.out (Nat.le_refl _) (Nat.le_trans HBs.out.size G11.out.2))
      replace HM := Aside0.mk (below_put hb1 HM.out (Nat.le_refl _) G11.out.2)
      refine hK.out _ _ ⟨p5, p8, p10, p11, m5_, m8_, m9_, m10_, m11_, (by rw [ha.out]; exact putSel_none (v := undef) rfl), HB.out, HM.out, fun _ => ⟨(hb1.block p5 (cells_lt G5.out.1) (fun e => by injection e with e; subst e; exact absurd (G5.out.1.symm.trans G11.out.1) (by simp))).trans G5.out.1, G5.out.2⟩, fun _ => ⟨(hb1.block p8 (cells_lt G8.out.1) (fun e => by injection e with e; subst e; exact absurd (G8.out.1.symm.trans G11.out.1) (by simp))).trans G8.out.1, G8.out.2⟩, Q_N58, fun _ => ⟨(hb1.block p10 (cells_lt G10.out.1) (fun e => by injection e with e; subst e; exact absurd (G10.out.1.symm.trans G11.out.1) (by simp))).trans G10.out.1, G10.out.2⟩, fun _ h1_ => absurd ((up_self b 12).symm.trans h1_) (by decide), fun _ => ⟨hk1, G11.out.2⟩, Q_X5_, Q_X8_, Q_X9_, Q_X10_, Q_X11_⟩
    exact steps_nil
  · rintro b a w' hall ⟨p5, p8, p10, p11, m5_, m8_, m9_, m10_, m11_, ha, Q_HB, Q_HM, Q_G5, Q_G8, Q_N58, Q_G10, Q_G11, Q_G12, Q_X5_, Q_X8_, Q_X9_, Q_X10_, Q_X11_⟩
    clear HB HM
    have hb5_ := hall 5 (by kernel_rfl)
    have hb8_ := hall 8 (by kernel_rfl)
    have hb9_ := hall 9 (by kernel_rfl)
    have hb10_ := hall 10 (by kernel_rfl)
    have hb11_ := hall 11 (by kernel_rfl)
    have hb12_ := hall 12 (by kernel_rfl)
    subst ha
    obtain rfl := Q_X5_ hb5_
    obtain rfl := Q_X8_ hb8_
    obtain rfl := Q_X9_ hb9_
    obtain rfl := Q_X10_ hb10_
    obtain rfl := Q_X11_ hb11_
    simp only [putSel, hb5_, hb8_, hb9_, hb10_, hb11_, hb12_, if_true, Act.put, List.setIfInBounds_toArray, List.set_cons_zero, List.set_cons_succ]
    have HB := Aside0.mk Q_HB
    clear Q_HB
    have HM := Aside0.mk Q_HM
    clear Q_HM
    have G5 := Aside0.mk (Q_G5 hb5_)
    clear Q_G5
    have G8 := Aside0.mk (Q_G8 hb8_)
    clear Q_G8
    have N58 := Aside0.mk (Q_N58 hb5_ hb8_)
    clear Q_N58
    have G10 := Aside0.mk (Q_G10 hb10_)
    clear Q_G10
    clear Q_G11
    have G12 := Aside0.mk (Q_G12 hb12_)
    clear Q_G12
    clear hall hb5_ hb8_ hb9_ hb10_ hb11_ hb12_
  -- R7 END
    refine hK_ _ _ ?_
    clear hK_ hmk
    have hlO := Lib.hid (up_length O)
    have hG0 : GI w2 p5 p8 p10 p11 #[.slice A0 l0.length c0, .slice A1 (up N).length c1, .slice A2 (up O).length c2, .slice (some ⟨p5, 0, none⟩) l0.length l0.length, .slice (some ⟨p8, 0, none⟩) l0.length l0.length] w' (reach N [] l0.length).1 (reach N [] l0.length).2 :=
      ⟨by rw [reach, List.foldl_nil, ← zcells_eq]; exact G5.out.1, by rw [reach, List.foldl_nil, ← zcells_eq]; exact G8.out.1, G10.out.1, G12.out.1, HM.out⟩
    have HN := Aside0.mk (show p5 ≠ p8 ∧ w2.heap.size ≤ p5 ∧ w2.heap.size ≤ p8 ∧ w2.heap.size ≤ p10 ∧ w2.heap.size ≤ p11 from ⟨N58.out, G5.out.2, G8.out.2, G10.out.2, G12.out.2⟩)
    clear G5 G8 N58 G10 G12 HM HB
    have HG0 := Aside0.mk hG0
    clear hG0
    go_wp2
    refine wp_loop_ghost_k (fun n a W => ∃ pre suf, O = pre ++ suf ∧ n = suf.length ∧ a.tmps.size = 97 ∧ a.tmps[4]? = some (.slice A1 (up N).length c1) ∧ a.tmps[8]? = some (.pointer (some ⟨p11, 0, none⟩)) ∧ a.tmps[41]? = some (.slice A2 (up O).length c2) ∧ a.tmps[42]? = some (.int .i64 ((up O).length : Int)) ∧ a.tmps[43]? = some (.int .i64 (pre.length : Int)) ∧ (∃ hi, Marks w2.heap.size hi W a.defers ∧ w2.heap.size ≤ hi ∧ hi ≤ W.heap.size) ∧ GI w2 p5 p8 p10 p11 #[.slice A0 l0.length c0, .slice A1 (up N).length c1, .slice A2 (up O).length c2, .slice (some ⟨p5, 0, none⟩) l0.length l0.length, .slice (some ⟨p8, 0, none⟩) l0.length l0.length] W (reach N pre l0.length).1 (reach N pre l0.length).2) O.length ⟨[], O, rfl, rfl, rfl, rfl, rfl, rfl, rfl, rfl, ⟨_, Marks.nil _ w'.heap.size _, HG0.out.below.size, Nat.le_refl _⟩, HG0.out⟩ ?_
    rintro n ⟨tmps, ds⟩ W ⟨pre, suf, hO_, rfl, hsz, h4, h8', h41, h42, h43, ⟨hi, hM, hlo, hhi⟩, hG⟩ J K hJ hK
    generalize hj : (pre.length : Int) = j at h43
    obtain ⟨f, rfl⟩ := frame_lit hsz h4 h8' h41 h42 h43
    clear hsz h4 h8' h41 h42 h43 HG0
    unfold gframe
    have hO' := Lib.hid hO_
    clear hO_
    have HM := Aside0.mk hM
    have HG := Aside0.mk hG
    clear hM hG
    cases suf with
    | nil =>
      have hlt : decide (j < ((up O).length : Int)) = false := by
        rw [← hj, up_length, hO'.out]; simp
      have hc11 := HG.out.b11.cell
      go_wp2
      refine leave_ret HM.out (fun W => results_tmp2 rfl _ _ _) ?_
      intro W' ht
      have hpre : pre = O := by rw [hO'.out]; simp
      subst hpre
      have hG := HG.out.tame (Nat.le_refl _) ht
      have hBw := below_step HBs.out hG.below
      have hle := HBs.out.size
      have h10 := hG.b10
      have hl1 : (reach N pre l0.length).1.length = l0.length := reach_len1 N pre l0.length
      have hl2 : (reach N pre l0.length).2.length = l0.length := reach_len2 N pre l0.length
      refine ⟨p10, rfl, hBw, Nat.le_trans hle HN.out.2.2.2.1, ⟨A0, A1, A2, some ⟨p5, 0, none⟩, some ⟨p8, 0, none⟩, c0, c1, c2, l0.length, l0.length, ?_, ⟨hc0, Kd.C_below hr0 hBw⟩, ⟨by rw [← up_length]; exact hl1', ?_⟩, ⟨by rw [← up_length]; exact hl2', ?_⟩, ⟨Nat.le_of_eq hl1, C_scells hG.b5 (Nat.le_trans (Nat.le_of_eq hl1) h8)⟩, ⟨Nat.le_of_eq hl2, C_scells hG.b8 (Nat.le_trans (Nat.le_of_eq hl2) h8)⟩⟩, .slice A2 (up pre).length c2, ?_, ?_⟩
      · rw [h10, up_length, up_length, hl1, hl2]
      · rw [← up_length N]; exact Kd.C_below hC1 (below_step hB2 hG.below)
      · rw [← up_length pre]; exact Kd.C_below hC2 hG.below
      · simp [World.cell?, h10]
      · exact Kd.R_below (Kd.R_lower hR2 hB1.size) hG.below
    | cons i suf =>
      have hlt : decide (j < ((up O).length : Int)) = true := by
        rw [← hj, up_length, hO'.out]; simp; omega
      have q0 : j < ((up O).length : Int) := of_decide_eq_true hlt
      have p0 : 0 ≤ j := by omega
      obtain ⟨ad, e0, hx0⟩ := Kd.at_int (Kd.C_below hC2 HG.out.below) j p0 q0
      subst e0
      rw [rd_up (i := pre.length) hj.symm] at hx0
      have hi0 : O.getD pre.length 0 = i := by rw [hO'.out]; simp
      rw [hi0] at hx0
      have hil : i < l0.length := hO i (by rw [hO'.out]; simp)
      generalize hxi : ((i : Nat) : Int) = xi at hx0
      have p1 : 0 ≤ xi := by omega
      have q1 : xi < ((up N).length : Int) := by rw [up_length, hN]; omega
      obtain ⟨ad1, e1, hx1⟩ := Kd.at_int (Kd.C_below hC1 (below_step hB2 HG.out.below)) xi p1 q1
      subst e1
      rw [rd_up (i := i) hxi.symm] at hx1
      have hNi : N.getD i 0 < 2 ^ l0.length := getD_lt hNb i
      generalize hs_ : N.getD i 0 = s at hx1 hNi
      replace p0 := eq_true p0
      replace q0 := eq_true q0
      replace p1 := eq_true p1
      replace q1 := eq_true q1
      have hbi := Boxed.new W 3 (.int .i64 xi)
      have hG1 := HG.out.alloc (.cells #[.int .i64 xi] 3)
      have hM1 := HM.out.below ((Below.refl W.heap.size W).alloc (Nat.le_refl _) (.cells #[.int .i64 xi] 3))
      have hsz1 : (W.alloc (.cells #[.int .i64 xi] 3)).heap.size = W.heap.size + 1 := by simp
      replace hx1 := (((Below.refl W.heap.size W).alloc (Nat.le_refl _) (.cells #[.int .i64 xi] 3)).cell (World.block_lt_of_cell? W _ hx1)).trans hx1
      go_wp2_with (go_at_call 77; refine (all_calls s _).mono ?_; rintro e w' ⟨rfl, rfl⟩)
      clear hx1 hx0
      revert hbi hG1 hM1 hsz1
      generalize W.alloc (.cells #[.int .i64 xi] 3) = Wa
      intro hbi hG1 hM1 hsz1
      have hs2 := Boxed.new Wa 65 (.int .u16 (s : Int))
      rw [hsz1] at hs2
      have hbi2 := hbi.alloc (.cells #[.int .u16 (s : Int)] 65)
      have hG2 := hG1.alloc (.cells #[.int .u16 (s : Int)] 65)
      have hM2 := hM1.below ((Below.refl Wa.heap.size Wa).alloc (Nat.le_refl _) (.cells #[.int .u16 (s : Int)] 65))
      have hsz2 : (Wa.alloc (.cells #[.int .u16 (s : Int)] 65)).heap.size = W.heap.size + 1 + 1 := by simp [hsz1]
      revert hs2 hbi2 hG2 hM2 hsz2
      generalize Wa.alloc (.cells #[.int .u16 (s : Int)] 65) = Wb
      intro hs2 hbi2 hG2 hM2 hsz2
      clear hbi hG1 hM1
      have hNi2 : s < 256 := Nat.lt_of_lt_of_le hNi (pow8 h8)
      have hb1 : w2.heap.size ≤ Wb.heap.size := hG2.below.size
      have hb2 : hi ≤ Wb.heap.size := by omega
      refine wp_rangeSet Tab.tame (w := Wb) (w0 := Wb) (p := 52) (d := 11) rfl (enters_of Tryd.func89 (by kernel_rfl) rfl)
        (all_seq (W.heap.size + 1) s hNi2 Wb (hT.of (below_step HBs.out hG2.below)) hs2.cell) (Below.refl _ _) (by simp)
        (fun ys W' => ∃ zs : List Nat, (∀ z ∈ zs, z < l0.length) ∧ ys = up zs ∧ GI w2 p5 p8 p10 p11 #[.slice A0 l0.length c0, .slice (some ad1) (up N).length c1, .slice (some ad) (up O).length c2, .slice (some ⟨p5, 0, none⟩) l0.length l0.length, .slice (some ⟨p8, 0, none⟩) l0.length l0.length] W' (zs.foldl (bStep i) (reach N pre l0.length).1) (reach N pre l0.length).2 ∧ Boxed W' W.heap.size 3 (.int .i64 xi) ∧ Marks w2.heap.size hi W' ds ∧ Wb.heap.size ≤ W'.heap.size) (fun _ _ _ => False)
        (ownFrom_tame (fun ys W' W'' ht ⟨zs, z, a, b, c, d, e⟩ => ⟨zs, z, a, b.tame hb1 ht, ht.boxed c, d.tame ht hb2, Nat.le_trans e ht.size⟩)) (fun _ => ownFrom_tame (fun _ _ _ _ h => h))
        ⟨[], by simp, rfl, hG2, hbi2, hM2, Nat.le_refl _⟩ (fun ys W' ⟨_, _, _, b, _⟩ => hT.of (below_step HBs.out b.below)) ?body1 ?done1 (fun _ _ _ _ _ h _ => h.elim)
      case body1 =>
        rintro l pre1 x W1 hx ⟨zs, hzl, rfl, hG3, hbi3, hM3, hsz3⟩ hlt1
        gi_wp2
        obtain ⟨k0, hxk, hk0, _⟩ := mem_elems.1 hx
        have hkn : k0 < l0.length := by have := elems_lt hNi hx; omega
        have hL1 : (zs.foldl (bStep i) (reach N pre l0.length).1).length = l0.length := by rw [fold_len (bStep_length i), reach_len1]
        have hzs' : ∀ k ∈ zs, k < l0.length := hzl
        have hLb := bfold_below (i := i) (ks := zs) (reach_below hNb (O := pre) (fun x hx => hO x (by rw [hO'.out]; simp [hx]))).1 hzs'
        have hsi := getD_lt hLb i
        have hsk := getD_lt hLb k0
        have h256 := pow8 h8
        refine wpIn_still_tail 18 rfl (by kernel_rfl) (by kernel_rfl) (fun ⟨_, _, h⟩ => h) ?_
        change wpStill _ _ W1.drew (fun a' => wpList _ _ _ _ a' W1.drew) _ _
        have hdr : Below W1.heap.size W1 W1.drew := below_drew (Below.refl _ _)
        have hko := KeepsOthers.drew W1
        revert hdr hko
        generalize W1.drew = Wd
        intro hdr hko
        have hG4 := hG3.move hdr
        have hbi4 : Boxed Wd W.heap.size 3 (.int .i64 xi) := (hdr.block _ hbi3.lt).trans hbi3
        have hM4 := hM3.below hdr
        have hc11 := hG4.b11.cell
        obtain ⟨ad5, had5⟩ : ∃ ad5 : Addr, ad5 = ⟨p5, 0, none⟩ := ⟨_, rfl⟩
        have hc10 : Wd.cell? ⟨p10, 3, none⟩ = some (.slice (some ad5) l0.length l0.length) := by rw [had5]; simp [World.cell?, hG4.b10]
        have hci := hbi4.cell
        have hLi := scell hG4.b5 i (by omega)
        have hLk := scell hG4.b5 k0 (by omega)
        have hfi := sfrozen hG4.b5 i
        have hit : xi.toNat = i := by omega
        have hkt : x.toNat = k0 := by omega
        have hset := sset hG4.b5 i
        have hg5 := grownBy_setCell'' Wd p5 i
        generalize hsi_ : (zs.foldl (bStep i) (reach N pre l0.length).1).getD i 0 = si at *
        generalize hsk_ : (zs.foldl (bStep i) (reach N pre l0.length).1).getD k0 0 = sk at *
        have hw := (with_calls sk k0 (Nat.lt_of_lt_of_le hsk h256) hk0 Wd).mono (R' := fun e w' => e = .returned (.int .u16 ((sk ||| 2 ^ k0 : Nat) : Int)) ∧ w' = Wd) (fun _ _ h => ⟨h.1, h.2.symm⟩)
        have hr2 : sk ||| 2 ^ k0 < 2 ^ l0.length := Nat.or_lt_two_pow hsk (Nat.pow_lt_pow_right (by omega) hkn)
        generalize hr2_ : sk ||| 2 ^ k0 = r2 at hw hr2
        have hor := or_eq (a := si) (b := r2) (Nat.lt_of_lt_of_le hsi h256) (Nat.lt_of_lt_of_le hr2 h256)
        generalize hr3_ : si ||| r2 = r3 at hor
        rw [← add_own, ← had5, ← hit] at hLi hfi
        rw [← add_own, ← had5, ← hkt] at hLk
        rw [← hxk] at hw
        have p2 : (0 ≤ x) = True := eq_true (by omega)
        have q2 : (x < (l0.length : Int)) = True := eq_true (by omega)
        have q3 : (xi < (l0.length : Int)) = True := eq_true (by omega)
        have HH := Aside0.mk (show x = (k0 : Int) ∧ xi.toNat = i ∧ ad5 = ⟨p5, 0, none⟩ ∧ (zs.foldl (bStep i) (reach N pre l0.length).1).getD i 0 = si ∧ (zs.foldl (bStep i) (reach N pre l0.length).1).getD k0 0 = sk ∧ sk ||| 2 ^ k0 = r2 ∧ si ||| r2 = r3 from ⟨hxk, hit, had5, hsi_, hsk_, hr2_, hr3_⟩)
        clear hxk hit hkt had5 hsi_ hsk_ hr2_ hr3_ hxi hj hs_ hx
        simp only [List.take_succ_cons, List.take_zero, List.drop_succ_cons, List.drop_zero]
        repeat still_step
        still_call hw
        repeat still_step
        refine wpStill_nil ?_
        go_wp2
        obtain ⟨hxk, hit, had5, hsi_, hsk_, hr2_, hr3_⟩ := HH.out
        rw [show ad5.add xi.toNat = ⟨p5, i, none⟩ by rw [had5, add_own, hit]]
        have e2 : (zs ++ [k0]).foldl (bStep i) (reach N pre l0.length).1 = (zs.foldl (bStep i) (reach N pre l0.length).1).set i r3 := by
          rw [List.foldl_append, List.foldl_cons, List.foldl_nil, bStep, hsi_, hsk_, hr2_, hr3_]
        refine ⟨(hko.trans (KeepsOthers.setCell _ _ _)).from _, zs ++ [k0], ?_, ?_, ?_, ?_, ?_, ?_⟩
        · intro z hz
          rcases List.mem_append.1 hz with hz | hz
          · exact hzl z hz
          · rw [List.mem_singleton.1 hz]; exact hkn
        · rw [hxk]; simp [up]
        · rw [e2]; exact hG4.set5 (Ne.symm HN.out.1) HN.out.2.1 i r3
        · exact (sother _ (fun e => by rw [← e] at hG4; exact absurd (hG4.b5.symm.trans hbi4) (by simp))).trans hbi4
        · exact hM4.grow (grownBy_setCell'' _ _ _ _) (fun k hk => ⟨_, _, by cases hk; exact hG4.b5⟩)
        · exact Nat.le_trans hsz3 (Nat.le_trans hdr.size (KeepsOthers.setCell _ _ _).size)
      case done1 =>
        rintro D W2 hD ⟨zs, hzl, hzs, hG3, hbi3, hM3, hsz3⟩ hk
        obtain rfl : elemsN s = zs := up_inj hzs
        have hM4 := hM3.cons (Nat.le_trans hb2 hD) hlo hk
        have hL1 : ((elemsN s).foldl (bStep i) (reach N pre l0.length).1).length = l0.length := by rw [fold_len (bStep_length i), reach_len1]
        have hLb := bfold_below (i := i) (ks := elemsN s) (reach_below hNb (O := pre) (fun x hx => hO x (by rw [hO'.out]; simp [hx]))).1 hzl
        have HH := Aside0.mk hs_
        have HX := Aside0.mk hxi
        have HJ := Aside0.mk hj
        clear hzs hk hs_ hxi hj hs2 hbi2 hG2 hM2
        go_wp2
        refine wp_region_still_tail 7 rfl (by kernel_rfl) ?_
        change wpStill _ _ W2.drew (fun a' => wpList _ _ _ _ a' W2.drew) _ _
        have hdr : Below W2.heap.size W2 W2.drew := below_drew (Below.refl _ _)
        revert hdr
        generalize W2.drew = W3
        intro hdr
        have hG5 := hG3.move hdr
        have hbi5 : Boxed W3 W.heap.size 3 (.int .i64 xi) := (hdr.block _ hbi3.lt).trans hbi3
        have hM5 := hM4.below hdr
        have hsz5 : Wb.heap.size ≤ W3.heap.size := Nat.le_trans hsz3 hdr.size
        have hsz6 : W2.heap.size ≤ W3.heap.size := hdr.size
        have hb5 : w2.heap.size ≤ W2.heap.size := Nat.le_trans hb1 hsz3
        clear hG3 hbi3 hM3 hM4 hsz3
        have hc11 := hG5.b11.cell
        obtain ⟨ad5, had5⟩ : ∃ ad5 : Addr, ad5 = ⟨p5, 0, none⟩ := ⟨_, rfl⟩
        have hc10 : W3.cell? ⟨p10, 3, none⟩ = some (.slice (some ad5) l0.length l0.length) := by rw [had5]; simp [World.cell?, hG5.b10]
        have hci := hbi5.cell
        have hLi := scell hG5.b5 i (by omega)
        rw [← add_own, ← had5, show i = xi.toNat by have := HX.out; omega] at hLi
        have hxt : xi.toNat = i := by have := HX.out; omega
        have hsi := getD_lt hLb i
        rw [hxt] at hLi
        generalize hsb_ : ((elemsN s).foldl (bStep i) (reach N pre l0.length).1).getD i 0 = sb at hLi hsi
        rw [← hxt] at hLi
        have h256 := pow8 h8
        have q3 : (xi < (l0.length : Int)) = True := eq_true (by omega)
        have HS := Aside0.mk hsb_
        have HT := Aside0.mk hxt
        clear hsb_ hxt had5
        simp only [List.take_succ_cons, List.take_zero, List.drop_succ_cons, List.drop_zero]
        repeat still_step
        refine wpStill_nil ?_
        go_wp2_with (go_at_call 77; refine (all_calls sb _).mono ?_; rintro e w' ⟨rfl, rfl⟩)
        have hs6 := Boxed.new W3 65 (.int .u16 (sb : Int))
        have hbi6 := hbi5.alloc (.cells #[.int .u16 (sb : Int)] 65)
        have hG6 := hG5.alloc (.cells #[.int .u16 (sb : Int)] 65)
        have hM6 := hM5.below ((Below.refl W3.heap.size W3).alloc (Nat.le_refl _) (.cells #[.int .u16 (sb : Int)] 65))
        have hsz7 : (W3.alloc (.cells #[.int .u16 (sb : Int)] 65)).heap.size = W3.heap.size + 1 := by simp
        revert hs6 hbi6 hG6 hM6 hsz7
        generalize W3.alloc (.cells #[.int .u16 (sb : Int)] 65) = Wc
        intro hs6 hbi6 hG6 hM6 hsz7
        have hb3 : w2.heap.size ≤ Wc.heap.size := hG6.below.size
        have hb4 : W2.heap.size ≤ Wc.heap.size := by omega
        have hb6 : sb < 256 := Nat.lt_of_lt_of_le hsi h256
        refine wp_rangeSet Tab.tame (w := Wc) (w0 := Wc) (p := 79) (d := 12) rfl (enters_of Tryd.func89 (by kernel_rfl) rfl)
          (all_seq W3.heap.size sb hb6 Wc (hT.of (below_step HBs.out hG6.below)) hs6.cell) (Below.refl _ _) (by simp)
          (fun ys W' => ∃ zs : List Nat, (∀ z ∈ zs, z < l0.length) ∧ ys = up zs ∧ GI w2 p5 p8 p10 p11 #[.slice A0 l0.length c0, .slice (some ad1) (up N).length c1, .slice (some ad) (up O).length c2, .slice (some ⟨p5, 0, none⟩) l0.length l0.length, .slice (some ⟨p8, 0, none⟩) l0.length l0.length] W' ((elemsN s).foldl (bStep i) (reach N pre l0.length).1) (zs.foldl (aStep i) (reach N pre l0.length).2) ∧ Boxed W' W.heap.size 3 (.int .i64 xi) ∧ Marks w2.heap.size W2.heap.size W' ({ target := .collected D, args := #[] } :: ds) ∧ Wc.heap.size ≤ W'.heap.size) (fun _ _ _ => False)
          (ownFrom_tame (fun ys W' W'' ht ⟨zs, z, a, b, c, d, e⟩ => ⟨zs, z, a, b.tame hb3 ht, ht.boxed c, d.tame ht hb4, Nat.le_trans e ht.size⟩)) (fun _ => ownFrom_tame (fun _ _ _ _ h => h))
          ⟨[], by simp, rfl, hG6, hbi6, hM6, Nat.le_refl _⟩ (fun ys W' ⟨_, _, _, b, _⟩ => hT.of (below_step HBs.out b.below)) ?body2 ?done2 (fun _ _ _ _ _ h _ => h.elim)
        case body2 =>
          rintro l pre1 x W1 hx ⟨zs, hzl2, rfl, hG7, hbi7, hM7, hsz8⟩ hlt1
          gi_wp2
          obtain ⟨k0, hxk, hk0, _⟩ := mem_elems.1 hx
          have hkn : k0 < l0.length := by have := elems_lt hsi hx; omega
          have hL2 : (zs.foldl (aStep i) (reach N pre l0.length).2).length = l0.length := by rw [fold_len (aStep_length i), reach_len2]
          have hUb := afold_below (i := i) hil (ks := zs) (reach_below hNb (O := pre) (fun x hx => hO x (by rw [hO'.out]; simp [hx]))).2
          have hsk := getD_lt hUb k0
          refine wpIn_still_tail 15 rfl (by kernel_rfl) (by kernel_rfl) (fun ⟨_, _, h⟩ => h) ?_
          change wpStill _ _ W1.drew (fun a' => wpList _ _ _ _ a' W1.drew) _ _
          have hdr : Below W1.heap.size W1 W1.drew := below_drew (Below.refl _ _)
          have hko := KeepsOthers.drew W1
          revert hdr hko
          generalize W1.drew = Wd
          intro hdr hko
          have hG4 := hG7.move hdr
          have hbi4 : Boxed Wd W.heap.size 3 (.int .i64 xi) := (hdr.block _ hbi7.lt).trans hbi7
          have hM4 := hM7.below hdr
          have hc11 := hG4.b11.cell
          obtain ⟨ad8, had8⟩ : ∃ ad8 : Addr, ad8 = ⟨p8, 0, none⟩ := ⟨_, rfl⟩
          have hc10 : Wd.cell? ⟨p10, 4, none⟩ = some (.slice (some ad8) l0.length l0.length) := by rw [had8]; simp [World.cell?, hG4.b10]
          have hci := hbi4.cell
          have hLk := scell hG4.b8 k0 (by omega)
          have hfk := sfrozen hG4.b8 k0
          have hit := HT.out
          have hxi := HX.out
          have hkt : x.toNat = k0 := by omega
          generalize hsk_ : (zs.foldl (aStep i) (reach N pre l0.length).2).getD k0 0 = sk at *
          have hw := (with_calls sk i (Nat.lt_of_lt_of_le hsk h256) (by omega) Wd).mono (R' := fun e w' => e = .returned (.int .u16 ((sk ||| 2 ^ i : Nat) : Int)) ∧ w' = Wd) (fun _ _ h => ⟨h.1, h.2.symm⟩)
          generalize hr2_ : sk ||| 2 ^ i = r2 at hw
          rw [← add_own, ← had8, ← hkt] at hLk hfk
          rw [hxi] at hw
          have p2 : (0 ≤ x) = True := eq_true (by omega)
          have q2 : (x < (l0.length : Int)) = True := eq_true (by omega)
          have HH2 := Aside0.mk (show x = (k0 : Int) ∧ x.toNat = k0 ∧ ad8 = ⟨p8, 0, none⟩ ∧ (zs.foldl (aStep i) (reach N pre l0.length).2).getD k0 0 = sk ∧ sk ||| 2 ^ i = r2 from ⟨hxk, hkt, had8, hsk_, hr2_⟩)
          clear hxk hit hkt had8 hsk_ hr2_ hxi hx
          simp only [List.take_succ_cons, List.take_zero, List.drop_succ_cons, List.drop_zero]
          repeat still_step
          still_call hw
          repeat still_step
          refine wpStill_nil ?_
          go_wp2
          obtain ⟨hxk, hkt, had8, hsk_, hr2_⟩ := HH2.out
          rw [show ad8.add x.toNat = ⟨p8, k0, none⟩ by rw [had8, add_own, hkt]]
          have e2 : (zs ++ [k0]).foldl (aStep i) (reach N pre l0.length).2 = (zs.foldl (aStep i) (reach N pre l0.length).2).set k0 r2 := by
            rw [List.foldl_append, List.foldl_cons, List.foldl_nil, aStep, hsk_, hr2_]
          refine ⟨(hko.trans (KeepsOthers.setCell _ _ _)).from _, zs ++ [k0], ?_, ?_, ?_, ?_, ?_, ?_⟩
          · intro z hz
            rcases List.mem_append.1 hz with hz | hz
            · exact hzl2 z hz
            · rw [List.mem_singleton.1 hz]; exact hkn
          · rw [hxk]; simp [up]
          · rw [e2]; exact hG4.set8 HN.out.1 HN.out.2.2.1 k0 r2
          · exact (sother _ (fun e => by rw [← e] at hG4; exact absurd (hG4.b8.symm.trans hbi4) (by simp))).trans hbi4
          · exact hM4.grow (grownBy_setCell'' _ _ _ _) (fun k hk => ⟨_, _, by cases hk; exact hG4.b8⟩)
          · exact Nat.le_trans hsz8 (Nat.le_trans hdr.size (KeepsOthers.setCell _ _ _).size)
        case done2 =>
          rintro D2 W4 hD2 ⟨zs, hzl2, hzs, hG7, hbi7, hM7, hsz8⟩ hk
          obtain rfl : elemsN sb = zs := up_inj hzs
          have hM8 := hM7.cons (Nat.le_trans hb4 hD2) hb5 hk
          clear hzs hk hs6 hbi6 hG6 hM6
          go_wp2
          have hl8 : pre.length + suf.length + 1 ≤ 8 := by
            have := hOl
            rw [hO'.out] at this
            simp at this
            omega
          have hj1 : wrap64 (j + 1) = ((pre ++ [i]).length : Int) := by
            have := HJ.out
            rw [show wrap64 (j + 1) = j + 1 by unfold wrap64; omega, List.length_append]
            simp
            omega
          refine ⟨suf.length, by simp, hJ _ _ _ ⟨pre ++ [i], suf, by rw [hO'.out]; simp, rfl, rfl, rfl, rfl, rfl, rfl, by rw [← hj1]; rfl, ⟨_, hM8, hG7.below.size, Nat.le_refl _⟩, ?_⟩⟩
          rw [reach_snoc, rStep, HH.out, HS.out]
          exact hG7
end Go.Proofs.YtffhdofcfkgoaaaDoor.Core
