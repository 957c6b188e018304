/- Sets of small numbers as bits: their numbers in order, their least one, and what each operation does to them. -/
import Derived.Laws.BitsAllLaws
import Derived.KernelRfl
import Derived.RangeFuncNested
import Derived.RangeFuncBound
import Derived.RangeFuncCalls
import Derived.RangeFuncLeaves
import Derived.Shelf.Abstract
import Derived.Shelf.RegionOpen
import Derived.WalkKit
import Derived.OwnWalkIn
import Derived.TacticsInMore
import Derived.LoopNIn
import Derived.LoopIn
import Derived.StillTailTactics
import Derived.OrdersIn
import Derived.Test.YtffhdofcfkgoaaaDoorProg
import Derived.Laws.BitsLemmas
import Derived.Lib.Hide
import Derived.Test.YtffhdofcfkgoaaaDoorWWords
import Derived.Test.YtffhdofcfkgoaaaDoorWMore
import Derived.Test.YtffhdofcfkgoaaaDoorWApart
set_option linter.unusedVariables false
set_option linter.unusedSimpArgs false
namespace Go.Proofs.YtffhdofcfkgoaaaDoor.Core
open Go

/-- The numbers of a set, ascending. -/
def elemsN (s : Nat) : List Nat := (List.range 8).filter (fun i => s.testBit i)
def elems (s : Nat) : List Int := (elemsN s).map Int.ofNat
/-- The table of math/bits (TrailingZeros32's). -/
def tabL : List Nat := [0, 1, 28, 2, 29, 14, 24, 3, 30, 22, 20, 15, 25, 17, 4, 8, 31, 27, 13, 23, 21, 19, 16, 7, 26, 12, 18, 6, 11, 5, 10, 9]
/-- The place in the table. -/
def tzIdx (s : Nat) : Nat := ((s &&& (65536 - s)) * 125613361 % 4294967296) / 134217728
def tzN (s : Nat) : Nat := tabL.getD (tzIdx s) 0
def stepOk (s : Nat) : Bool := s == 0 || (elemsN s == tzN s :: elemsN (s &&& (s - 1)) && decide (tzIdx s < 32) && decide (tzN s < 8))
def allTo : Nat → (Nat → Bool) → Bool
  | 0, _ => true
  | n + 1, p => p n && allTo n p
theorem allTo_spec {p : Nat → Bool} : ∀ {n : Nat}, allTo n p = true → ∀ i, i < n → p i = true
  | 0, _, i, hi => by omega
  | n + 1, h, i, hi => by
    simp only [allTo, Bool.and_eq_true] at h
    by_cases e : i = n
    · rw [e]; exact h.1
    · exact allTo_spec h.2 i (by omega)
theorem steps_ok : allTo 256 stepOk = true := by kernel_rfl
theorem elemsN_step {s : Nat} (h : s < 256) (h0 : s ≠ 0) : elemsN s = tzN s :: elemsN (s &&& (s - 1)) ∧ tzIdx s < 32 ∧ tzN s < 8 := by
  have := allTo_spec steps_ok s h
  simp only [stepOk, Bool.or_eq_true, beq_iff_eq, Bool.and_eq_true, decide_eq_true_eq] at this
  rcases this with h1 | h1
  · exact absurd h1 h0
  · exact ⟨h1.1.1, h1.1.2, h1.2⟩
theorem elems_step {s : Nat} (h : s < 256) (h0 : s ≠ 0) : elems s = (tzN s : Int) :: elems (s &&& (s - 1)) := by
  unfold elems; rw [(elemsN_step h h0).1]; rfl
theorem elems_zero : elems 0 = [] := by decide
theorem mem_elemsN {s i : Nat} : i ∈ elemsN s ↔ i < 8 ∧ s.testBit i = true := by simp [elemsN]
theorem mem_elems {s : Nat} {x : Int} : x ∈ elems s ↔ ∃ i : Nat, x = i ∧ i < 8 ∧ s.testBit i = true := by
  simp only [elems, List.mem_map, mem_elemsN]
  constructor
  · rintro ⟨i, hi, rfl⟩; exact ⟨i, rfl, hi⟩
  · rintro ⟨i, rfl, hi⟩; exact ⟨i, hi, rfl⟩
theorem elems_length (s : Nat) : (elems s).length ≤ 8 := by
  unfold elems elemsN
  rw [List.length_map]
  exact Nat.le_trans (List.length_filter_le _ _) (by simp)
theorem elems_lt {s n : Nat} {x : Int} (hs : s < 2 ^ n) (h : x ∈ elems s) : 0 ≤ x ∧ x < n := by
  obtain ⟨i, rfl, _, hi⟩ := mem_elems.1 h
  have := Nat.ge_two_pow_of_testBit hi
  have h2 : 2 ^ i < 2 ^ n := Nat.lt_of_le_of_lt this hs
  have := (Nat.pow_lt_pow_iff_right (by omega : 1 < 2)).1 h2
  omega
/-- The index as the program reckons it. -/
theorem tz_index {s : Nat} (h : s < 256) (h0 : s ≠ 0) : (bits .and .u16 (s : Int) (IntKind.u16.wrap (-(s : Int))) % 4294967296 * 125613361 % 4294967296 / 134217728).toNat = tzIdx s := by
  have e : IntKind.u16.wrap (-(s : Int)) = ((65536 - s : Nat) : Int) := by rw [IntKind.wrap_u16]; omega
  rw [e, u16_and_nat s (65536 - s) (by omega) (by omega)]
  have hlt : s &&& (65536 - s) < 256 := Nat.lt_of_le_of_lt Nat.and_le_left h
  unfold tzIdx
  generalize s &&& (65536 - s) = t at *
  rw [Int.emod_eq_of_lt (a := (t : Int)) (by omega) (by omega), show (t : Int) * 125613361 % 4294967296 / 134217728 = ((t * 125613361 % 4294967296 / 134217728 : Nat) : Int) from rfl]
  exact Int.toNat_natCast _
theorem and_pred {s : Nat} (h : s < 256) (h0 : s ≠ 0) : bits .and .u16 (s : Int) ((s : Int) - 1) = ((s &&& (s - 1) : Nat) : Int) := by
  have e : (s : Int) - 1 = ((s - 1 : Nat) : Int) := by omega
  rw [e, u16_and_nat s (s - 1) (by omega) (by omega)]
theorem two_pow_cast (k : Nat) : ((2 : Int) ^ k) = ((2 ^ k : Nat) : Int) := by simp
theorem pow_lt_256 {k : Nat} (hk : k < 8) : 2 ^ k < 256 := Nat.pow_lt_pow_right (by omega) hk
theorem with_eq {s k : Nat} (hs : s < 256) (hk : k < 8) : bits .or .u16 (s : Int) (IntKind.u16.wrap (2 ^ k)) = ((s ||| 2 ^ k : Nat) : Int) := by
  have h := pow_lt_256 hk
  have e : IntKind.u16.wrap (2 ^ k) = ((2 ^ k : Nat) : Int) := by
    rw [two_pow_cast, IntKind.wrap_u16]
    generalize 2 ^ k = p at *
    omega
  rw [e, u16_or_nat s (2 ^ k) (by omega) (by omega)]
theorem has_eq {s k : Nat} (hs : s < 256) : (bits .and .u16 ((s : Int) / 2 ^ k) 1 == 1) = s.testBit k := by
  have hle : s / 2 ^ k ≤ s := Nat.div_le_self _ _
  have e : (s : Int) / 2 ^ k = ((s / 2 ^ k : Nat) : Int) := by rw [two_pow_cast]; rfl
  have h1 := u16_and_nat (s / 2 ^ k) 1 (by omega) (by omega)
  rw [e, show (1 : Int) = ((1 : Nat) : Int) from rfl, h1, Nat.and_one_is_mod, Nat.testBit_eq_decide_div_mod_eq]
  generalize s / 2 ^ k % 2 = m
  by_cases h : m = 1
  · subst h; rfl
  · rw [decide_eq_false h]; exact beq_eq_false_iff_ne.2 (by omega)
theorem everything_eq {n : Nat} (hn : n ≤ 8) : IntKind.u16.wrap (IntKind.u16.wrap (2 ^ n) - 1) = ((2 ^ n - 1 : Nat) : Int) := by
  have h : 2 ^ n ≤ 256 := Nat.pow_le_pow_right (by omega) hn
  have h0 : 0 < 2 ^ n := Nat.two_pow_pos n
  rw [two_pow_cast, IntKind.wrap_u16, IntKind.wrap_u16]
  generalize 2 ^ n = p at *
  omega
theorem or_eq {a b : Nat} (ha : a < 256) (hb : b < 256) : bits .or .u16 (a : Int) (b : Int) = ((a ||| b : Nat) : Int) := u16_or_nat a b (by omega) (by omega)
theorem and_eq {a b : Nat} (ha : a < 256) (hb : b < 256) : bits .and .u16 (a : Int) (b : Int) = ((a &&& b : Nat) : Int) := u16_and_nat a b (by omega) (by omega)
/-- a without b. -/
def sub (a b : Nat) : Nat := a &&& (65535 - b)
theorem andNot_eq {a b : Nat} (ha : a < 256) (hb : b < 256) : bits .andNot .u16 (a : Int) (b : Int) = ((sub a b : Nat) : Int) := u16_andNot_nat a b (by omega) (by omega)
theorem sub_lt {a b n : Nat} (ha : a < n) : sub a b < n := Nat.lt_of_le_of_lt Nat.and_le_left ha
theorem sub_testBit {a b i : Nat} (ha : a < 256) (hb : b < 256) : (sub a b).testBit i = (a.testBit i && !b.testBit i) := by
  unfold sub
  rw [Nat.testBit_and, show 65535 - b = 2 ^ 16 - (b + 1) from by omega, Nat.testBit_two_pow_sub_succ (by omega)]
  by_cases h : i < 16
  · simp [h]
  · have h1 : a.testBit i = false := Nat.testBit_lt_two_pow (Nat.lt_of_lt_of_le ha (by
      have : 2 ^ 8 ≤ 2 ^ i := Nat.pow_le_pow_right (by omega) (by omega)
      omega))
    simp [h1]
end Go.Proofs.YtffhdofcfkgoaaaDoor.Core

/- The law of a range over a set's numbers ('for i := range s.all()'), out of the kit's law of a range over a function: at every program whose iterator has its contract. -/
namespace Go.Proofs.YtffhdofcfkgoaaaDoor.Core
open Go Go.RowKit Go.Shelf
attribute [local go_sem] Oper.semAt_some

theorem wide_fn (f : FuncId) : Fence.wide.fn f = True := rfl
theorem wide_depth : (Fence.wide.depth = none) = True := eq_true rfl

/-- A number out of a list. -/
abbrev Elt (xs : List Int) := { x : Int // x ∈ xs }
def eltEnc (xs : List Int) (x : Elt xs) : Array Value := #[.int .i64 x.1]

theorem keepsOthers_below {W W' : World} (h : Below W.heap.size W W') : KeepsOthers W W' :=
  ⟨h.size, fun k _ hk _ => (h.block k (Array.getElem?_eq_some_iff.1 hk).1).trans hk⟩

/-! ### What a loop's own book-keeping leaves as it was -/
/-- Below B all blocks are as they were; above, whatever is cells. -/
structure Tame (B : Nat) (W W' : World) : Prop where
  os : W'.os = W.os
  tape : W'.tape = W.tape
  output : W'.output = W.output
  size : W.heap.size ≤ W'.heap.size
  block : ∀ k, k < W.heap.size → (k < B ∨ ∃ cs t fr, W.heap[k]? = some (.cells cs t fr)) → W'.heap[k]? = W.heap[k]?
theorem Tame.refl (B : Nat) (W : World) : Tame B W W := ⟨rfl, rfl, rfl, Nat.le_refl _, fun _ _ _ => rfl⟩
theorem Tame.trans {B : Nat} {X Y Z : World} (h : Tame B X Y) (k : Tame B Y Z) : Tame B X Z :=
  ⟨k.os.trans h.os, k.tape.trans h.tape, k.output.trans h.output, Nat.le_trans h.size k.size, fun i hi hc => by
    have e := h.block i hi hc
    refine (k.block i (Nat.lt_of_lt_of_le hi h.size) ?_).trans e
    rcases hc with hc | hc
    · exact .inl hc
    · exact .inr (by rw [e]; exact hc)⟩
theorem Tame.mono {B B' : Nat} {W W' : World} (h : Tame B W W') (hb : B' ≤ B) : Tame B' W W' :=
  ⟨h.os, h.tape, h.output, h.size, fun k hk hc => h.block k hk (hc.imp (fun x => Nat.lt_of_lt_of_le x hb) id)⟩
theorem Tame.of_own {B : Nat} {W W' : World} {row : Option Nat} (hg : W.grownBy W' row) (hr : ∀ r, row = some r → B ≤ r ∧ ∃ o : Obj, W.heap[r]? = some o ∧ o.isCells = false) : Tame B W W' :=
  ⟨hg.os, hg.tape, hg.output, hg.size, fun k hk hc => hg.block k hk (fun e => by
    obtain ⟨h1, o, h2, h3⟩ := hr k e.symm
    rcases hc with hc | ⟨cs, t, fr, hc⟩
    · omega
    · rw [hc] at h2; cases h2; cases h3)⟩
theorem ownFrom_tame {β : Type} {B : Nat} {I : β → World → Prop} (h : ∀ s W W', Tame B W W' → I s W → I s W') : OwnFrom B I :=
  fun s W W' _ hs hg hr => h s W W' (Tame.of_own hg hr) hs
theorem Tame.below {B b : Nat} {w W W' : World} (h : Tame B W W') (hb : Below b w W) (hw : b ≤ w.heap.size) (hB : b ≤ B) : Below b w W' :=
  ⟨h.os.trans hb.os, h.tape.trans hb.tape, h.output.trans hb.output, Nat.le_trans hb.size h.size, fun k hk => (h.block k (by have := hb.size; omega) (.inl (by omega))).trans (hb.block k hk)⟩
theorem Tame.boxed {B b : Nat} {t : TypeId} {v : Value} {W W' : World} (h : Tame B W W') (hb : Boxed W b t v) : Boxed W' b t v :=
  (h.block b hb.lt (.inr ⟨_, _, _, hb⟩)).trans hb
theorem Tame.cells {B b : Nat} {cs : Array Value} {t : TypeId} {fr : Nat × Nat} {W W' : World} (h : Tame B W W') (hb : W.heap[b]? = some (.cells cs t fr)) : W'.heap[b]? = some (.cells cs t fr) :=
  (h.block b (Array.getElem?_eq_some_iff.1 hb).1 (.inr ⟨_, _, _, hb⟩)).trans hb
theorem Tame.old {B : Nat} {W W' : World} (h : Tame B W W') (hB : B ≤ W.heap.size) : Below B W W' :=
  ⟨h.os, h.tape, h.output, h.size, fun k hk => h.block k (by omega) (.inl hk)⟩

/-- How a round's body may be left: the invariants speak of plain numbers. -/
def rsPost (B : Nat) (I : List Int → World → Prop) (Ix : Code → List Int → World → Prop) (xs : List Int) (W : World) : Exit → Act → World → Prop
  | .normal, _, W' => KeepsFrom B W W' ∧ I xs W'
  | .ret, _, W' => KeepsFrom B W W' ∧ Ix .ret xs W'
  | .exit id, _, W' => KeepsFrom B W W' ∧ Ix (.exit id) xs W'
  | .goto t, _, W' => KeepsFrom B W W' ∧ Ix (.goto t) xs W'
  | .panic _, _, _ => False
  | .outgrown, _, _ => False

/-- The iterator value gives just xs, in its order (or a part of it, where a round has said 'no more'). -/
def SetSeq (T : World → Prop) (P : Program) (gf : Nat) (lb : Array Value) (xs : List Int) (w : World) : Prop :=
  SeqStopsK Fence.wide 0 P gf lb (eltEnc xs) (fun W W' => T W → T W') (fun ys : List (Elt xs) => ys.map (·.1) = xs) (fun _ => True) 16 w

theorem wp_rangeSet {T : World → Prop} (hTt : ∀ B W W', Tame B W W' → T W → T W') {P : Program} {g : Operand} {p d rid : Nat} {t : TypeId} {pos : String} {body : Code} {Q : Exit → Act → World → Prop} {a : Act} {w w0 : World} {gf : Nat} {lb : Array Value} {xs : List Int}
    (hg : a.eval g = .func (.func gf) #[] lb) (eg : ∀ args w, (callFunc gf args).run P w = .ok (.enter gf args) w)
    (hseq : SetSeq T P gf lb xs w0) (hb0 : Below w0.heap.size w0 w) (hp : p < a.tmps.size)
    (I : List Int → World → Prop) (Ix : Code → List Int → World → Prop) (hI : OwnFrom w.heap.size I) (hIx : ∀ c, OwnFrom w.heap.size (Ix c)) (h0 : I [] w) (hT : ∀ ys W, I ys W → T W)
    (hbody : ∀ (l : Nat) (pre : List Int) (x : Int) (W : World), x ∈ xs → I pre W → pre.length < 16 →
      body.wpIn (Fence.wide.inRound l) 0 P (rsPost w.heap.size I Ix (pre ++ [x]) W) { tmps := (a.tmps.setIfInBounds p (.int .i64 x)).setIfInBounds d (.int .i64 x), defers := [] } W)
    (hdone : ∀ (D : Nat) (W : World), w.heap.size ≤ D → I xs W → W.heap[D]? = some (.deferred (some [])) → Q .normal { a with defers := { target := .collected D, args := #[] } :: a.defers } W)
    (hstop : ∀ (D : Nat) (c : Code) (pre : List Int) (W : World), w.heap.size ≤ D → Ix c pre W → W.heap[D]? = some (.deferred (some [])) → c.wp P Q { a with defers := { target := .collected D, args := #[] } :: a.defers } W) :
    (Code.rangeFunc g #[p] (.region rid #[{ dst := some d, op := .assign (.tmp p), type := t, pos := pos, after := #[], guard := none }] false) body).wp P Q a w := by
  refine wpIn_wide.1 (wpIn_rangeFunc_ownG (n := 1) rfl (Nat.le_refl _) hg trivial eg hseq (fun h k x => k (h x)) (fun W l o o' hl ho hc _ => hTt w.heap.size _ _ (Tame.of_own (grownBy_putObj' W l o') (fun r e => by cases e; exact ⟨hl, o, ho, hc⟩))) hb0 (fun _ => rfl)
    (fun ys => I (ys.map (·.1))) (fun c ys => Ix c (ys.map (·.1))) (fun s W W' row hs hg hr => hI _ W W' row hs hg hr) (fun c s W W' row hs hg hr => hIx c _ W W' row hs hg hr) h0
    (fun x => { tmps := (a.tmps.setIfInBounds p (.int .i64 x.1)).setIfInBounds d (.int .i64 x.1), defers := [] }) ?_ ?_ ?_ ?_)
  · intro l x W K hK
    refine wpIn_region_list ?_
    gi_wp2
    simpa [eltEnc, Act.eval, hp] using hK
  · intro l pre x W hi hlt
    refine wpIn_mono (hbody l _ x.1 W x.2 hi (by simpa using hlt)) ?_
    intro e a' W' h
    rw [show pre.map (·.1) ++ [x.1] = (pre ++ [x]).map (·.1) by simp] at h
    cases e with
    | normal => exact ⟨h.1, fun _ => hT _ _ h.2, h.2⟩
    | ret => exact h
    | exit id => exact h
    | goto t => exact h
    | panic c => exact h
    | outgrown => exact h
  · intro D ys W hD hS hI' hk
    exact hdone D W hD (by rw [← hS]; exact hI') hk
  · intro D c pre W hD _ hI' hk
    exact wpIn_wide.2 (hstop D c _ W hD hI' hk)
/-! ### The marks that loops leave among the deferred calls -/
/-- Each deferred entry is a loop's mark, of a block in lo .. hi; no block twice. -/
def Marks (lo hi : Nat) (W : World) (ds : List Deferred) : Prop :=
  ds.Nodup ∧ ∀ d ∈ ds, ∃ D, d = ({ target := .collected D, args := #[] } : Deferred) ∧ lo ≤ D ∧ D < hi ∧ W.heap[D]? = some (.deferred (some []))
theorem Marks.nil (lo hi : Nat) (W : World) : Marks lo hi W [] := ⟨List.nodup_nil, fun _ h => by cases h⟩
theorem Marks.tame {lo hi B : Nat} {W W' : World} {ds : List Deferred} (h : Marks lo hi W ds) (ht : Tame B W W') (hB : hi ≤ B) : Marks lo hi W' ds :=
  ⟨h.1, fun d hd => by
    obtain ⟨D, e, h1, h2, h3⟩ := h.2 d hd
    exact ⟨D, e, h1, h2, (ht.block D (Array.getElem?_eq_some_iff.1 h3).1 (.inl (by omega))).trans h3⟩⟩
theorem Marks.below {lo hi : Nat} {W W' : World} {ds : List Deferred} (h : Marks lo hi W ds) (ht : Below W.heap.size W W') : Marks lo hi W' ds :=
  ⟨h.1, fun d hd => by
    obtain ⟨D, e, h1, h2, h3⟩ := h.2 d hd
    exact ⟨D, e, h1, h2, (ht.block D (Array.getElem?_eq_some_iff.1 h3).1).trans h3⟩⟩
theorem Marks.keeps {lo hi : Nat} {W W' : World} {ds : List Deferred} (h : Marks lo hi W ds) (ht : KeepsOthers W W') : Marks lo hi W' ds :=
  ⟨h.1, fun d hd => by
    obtain ⟨D, e, h1, h2, h3⟩ := h.2 d hd
    exact ⟨D, e, h1, h2, ht.same D _ h3 rfl⟩⟩
theorem Marks.mono {lo hi hi' : Nat} {W : World} {ds : List Deferred} (h : Marks lo hi W ds) (hh : hi ≤ hi') : Marks lo hi' W ds :=
  ⟨h.1, fun d hd => by
    obtain ⟨D, e, h1, h2, h3⟩ := h.2 d hd
    exact ⟨D, e, h1, by omega, h3⟩⟩
theorem Marks.cons {lo hi D : Nat} {W : World} {ds : List Deferred} (h : Marks lo hi W ds) (hD : hi ≤ D) (hlo : lo ≤ hi) (hk : W.heap[D]? = some (.deferred (some []))) :
    Marks lo W.heap.size W ({ target := .collected D, args := #[] } :: ds) := by
  have hlt := (Array.getElem?_eq_some_iff.1 hk).1
  refine ⟨List.nodup_cons.2 ⟨fun hm => ?_, h.1⟩, fun d hd => ?_⟩
  · obtain ⟨D', e, h1, h2, h3⟩ := h.2 _ hm
    have e1 : D = D' := by simpa using e
    omega
  · rcases List.mem_cons.1 hd with rfl | hd
    · exact ⟨D, rfl, by omega, hlt, hk⟩
    · obtain ⟨D', e, h1, h2, h3⟩ := h.2 _ hd
      exact ⟨D', e, h1, by omega, h3⟩

theorem leaveM {P : Program} {fn : Func} {tmps : Array Value} {R : Ending → World → Prop} {v : Value} {lo hi : Nat} (hres : ∀ W, (results fn tmps).run P W = .ok v W) :
    ∀ (ds : List Deferred) (W : World), Marks lo hi W ds → (∀ W', Tame lo W W' → R (.returned v) W') → LeavesInM Fence.wide 0 P fn tmps R ds .returning W
  | [], W, _, hR => ⟨v, hres W, hR W (Tame.refl _ _)⟩
  | d :: ds, W, hm, hR => by
    obtain ⟨D, rfl, h1, h2, h3⟩ := hm.2 d (List.mem_cons_self)
    have hlt := (Array.getElem?_eq_some_iff.1 h3).1
    have hnd := List.nodup_cons.1 hm.1
    refine ⟨by simp, .inl ⟨D, _, rfl, run_takeDeferred h3, ?_⟩⟩
    have ht : Tame lo W (W.putObj D (.deferred none)) := Tame.of_own (grownBy_putObj' W D _) (fun r e => by cases e; exact ⟨h1, _, h3, rfl⟩)
    refine leaveM (hi := hi) hres ds _ ⟨hnd.2, fun d' hd' => ?_⟩ (fun W' h' => hR W' (ht.trans h'))
    obtain ⟨D', rfl, h1', h2', h3'⟩ := hm.2 d' (List.mem_cons_of_mem _ hd')
    refine ⟨D', rfl, h1', h2', (World.putObj_heap_other ?_).trans h3'⟩
    rintro rfl
    exact hnd.1 hd'
/-- The end of a function that has ranged over sets. -/
theorem leave_ret {P : Program} {fn : Func} {a : Act} {W : World} {R : Ending → World → Prop} {v : Value} {lo hi : Nat} (hm : Marks lo hi W a.defers) (hres : ∀ W, (results fn a.tmps).run P W = .ok v W)
    (hR : ∀ W', Tame lo W W' → R (.returned v) W') : bodyPostM Fence.wide 0 P fn R .ret a W := leaveM hres _ _ hm hR
/-- A function's contract out of its body, where the body ranges over sets. -/
theorem calls_marks {P : Program} {f : FuncId} {fn : Func} {c : Code} {args : Array Value} {w : World} {R : Ending → World → Prop}
    (hf : P.funcs[f]? = some fn) (hb : fn.body = some c)
    (h : c.wp P (bodyPostM Fence.wide 0 P fn R) { tmps := args ++ Array.replicate (fn.ntmps - args.size) undef, defers := [] } w) : Calls P f args w R :=
  callsIn_wide.1 (callsIn_of_wp_marks hf hb trivial (wpIn_wide.2 h))

/-! ### A region that draws its order, within a round: out of what the plain walk says of it -/
theorem wpOpIn_of_wpOp {P : Program} {ops : Array Oper} {Q : Exit → Act → World → Prop} {i l n : Nat} {K K' : Act → World → Prop} {a : Act} {w : World}
    (hnd : ∀ o, ops[i]? = some o → ∀ c, o.op ≠ .defer c) (hQ : ¬ LetsOut Q) (hK : ∀ a w, K a w → K' a w) (h : wpOp P ops Q i K a w) : wpOpIn (Fence.wide.inRound l) n P ops Q i K' a w := by
  unfold wpOp at h
  unfold wpOpIn
  cases ho : ops[i]? with
  | none => rw [ho] at h; exact hK _ _ h
  | some o =>
    rw [ho] at h
    by_cases hw : Region.wanted o (yielded ops a.tmps) = true
    · simp only [hw, if_true] at h ⊢
      rcases h with h | h
      · refine ⟨fun f _ => trivial, ?_⟩
        rw [Oper.semAt_eq _ _ _ (hnd o ho)]
        unfold Oper.wp at h
        generalize (execOp a.eval o).run P w = r at h ⊢
        cases r with
        | ok nx w' =>
          cases nx with
          | value v => exact hK _ _ h
          | skip => exact hK _ _ h
          | defer d => exact hK _ _ h
          | enter f args =>
            refine ⟨fun hd => absurd hd (by simp [Fence.wide, Fence.inRound]), CallsIn.inRound l (callsIn_wide.2 (Calls.mono (show Calls P f args w' _ from h) ?_))⟩
            intro e w'' hr
            cases e with
            | returned v => exact hK _ _ hr
            | panicked c => exact hr
            | outgrown => exact hr
          | row row args =>
            refine ⟨fun hd => absurd hd (by simp [Fence.wide, Fence.inRound]), fun c cs _ => ?_⟩
            obtain ⟨v, w'', hr, hs⟩ := (show Rows P row args w' _ from h) c cs
            exact ⟨v, w'', hK _ _ hr, stepsIn_wide.2 hs⟩
          | _ => exact (show False from h).elim
        | halt ht w' =>
          cases ht with
          | panic v => exact h
          | _ => exact (show False from h).elim
      · exact absurd h.2 hQ
    · simp only [hw] at h ⊢
      exact ⟨fun f _ => trivial, hK _ _ h⟩
theorem wpAnyIn_of_wpAny {P : Program} {md : Region.Mode} {ops : Array Oper} {Q : Exit → Act → World → Prop} {l n : Nat} (hnd : ∀ (i : Nat) (o : Oper), ops[i]? = some o → ∀ c : Call, o.op ≠ Op.defer c) (hQ : ¬ LetsOut Q) :
    ∀ (fuel : Nat) (listed : Array Bool) (a : Act) (w : World), wpAny P md ops Q fuel listed a w → wpAnyIn (Fence.wide.inRound l) n P md ops Q fuel listed a w
  | 0, _, _, _, h => h
  | fuel + 1, _, _, _, h => ⟨h.1, fun i hi => wpOpIn_of_wpOp (hnd i) hQ (fun a' w' h' => wpAnyIn_of_wpAny hnd hQ fuel _ a' w' h') (h.2 i hi)⟩
/-- No operation of the region is a defer statement. -/
def noDefer (ops : Array Oper) : Bool := ops.all fun o => match o.op with | .defer _ => false | _ => true
theorem noDefer_spec {ops : Array Oper} (h : noDefer ops = true) (i : Nat) (o : Oper) (ho : ops[i]? = some o) (c : Call) : o.op ≠ .defer c := by
  have := (Array.all_eq_true'.1 h) o (Array.mem_of_getElem? ho)
  intro e
  rw [e] at this
  cases this
/-- Reads and quiet calls before one store (or the like), within a round: walked in the text's order. -/
theorem wpIn_still_tail {P : Program} {id l n0 : Nat} {Q : Exit → Act → World → Prop} {a : Act} {w : World} {ops : List Oper} (n : Nat) (hm : P.follows .mixedOrders = true) (hB : Region.lexTailB .any ops.toArray n = true) (hd : noDefer ops.toArray = true) (hQ : ¬ LetsOut Q)
    (h : wpStill P ops.toArray { w with drawn := w.drawn + 1 } (fun a' => wpList P ops.toArray Q (ops.drop n) a' { w with drawn := w.drawn + 1 }) (ops.take n) a) : (Code.region id ops.toArray true).wpIn (Fence.wide.inRound l) n0 P Q a w := by
  refine wpIn_region_any hm (wpAnyIn_of_wpAny (noDefer_spec hd) hQ _ _ _ _ ?_)
  simp only [Region.lexTailB, Bool.and_eq_true, decide_eq_true_eq] at hB
  obtain ⟨⟨⟨⟨hsel, hn⟩, hs⟩, hc⟩, hlex⟩ := hB
  have hn' : n < ops.length := by simpa using hn
  have htl : (ops.take n).length = n := by simp; omega
  have hdl : (ops.drop n).length = ops.toArray.size - n := by simp
  have H := wpAnyL_lex (md := .any) (g := ops.toArray.size - n) hsel hs hc hn (ops.take n) 0 _ a (fun j hj => by
    have hj' : j < n := by rw [htl] at hj; exact hj
    simp [hj']) (by simpa using htl)
    ⟨(by simp : (Array.replicate ops.toArray.size false).size = ops.toArray.size), fun j oj _ hl => (by rw [getD_replicate_false] at hl; cases hl), fun t _ ht => getD_in (by simpa using ht) (getD_replicate_false _ _)⟩ (by rw [htl]; exact hlex) h
  have := wpAny_of_head (Q' := Q) (g := ops.toArray.size - n) (fun listed a' hL => by
    have := wpAny_of_seq (md := .any) (Q' := Q) (ops.drop n) n listed a' { w with drawn := w.drawn + 1 } (fun j => by simp [List.getElem?_drop]) (by rw [hdl]; exact hL.1) hL.2
    rwa [hdl] at this) _ _ _ H
  rw [htl, show n + (ops.toArray.size - n) = ops.toArray.size by omega] at this
  exact this

end Go.Proofs.YtffhdofcfkgoaaaDoor.Core

/- The iterator over a set's numbers: math/bits.TrailingZeros16 over its table; set.all and the function that it hands back. -/
namespace Go.Proofs.YtffhdofcfkgoaaaDoor.Core
open Go Go.RowKit Go.Shelf
attribute [local go_sem] Oper.semAt_some wide_fn wide_depth

/-- The table of math/bits lies in the world. -/
def Tab (w : World) : Prop := ∀ i : Nat, i < 32 → w.cell? ⟨0, i, none⟩ = some (.int .u8 ((tabL.getD i 0 : Nat) : Int))
theorem Tab.lt {w : World} (h : Tab w) : 0 < w.heap.size := World.block_lt_of_cell? w _ (h 0 (by omega))
theorem Tab.below {w w' : World} {B : Nat} (h : Tab w) (hb : Below B w w') (hB : w.heap.size ≤ B) : Tab w' := fun i hi => (hb.cell (p := ⟨0, i, none⟩) (Nat.lt_of_lt_of_le h.lt hB)).trans (h i hi)

set_option maxHeartbeats 1000000 in
theorem tz16 (x : Nat) (hx : x < 256) (h0 : x ≠ 0) (w : World) (hT : Tab w) :
    Calls Tryd.prog 90 #[.int .u16 (x : Int)] w fun e w' => e = .returned (.int .i64 (tzN x : Int)) ∧ w = w' := by
  have hi := (elemsN_step hx h0).2
  have hc : w.cell? ⟨0, (bits .and .u16 (x : Int) (IntKind.u16.wrap (-(x : Int))) % 4294967296 * 125613361 % 4294967296 / 134217728).toNat, none⟩ = some (.int .u8 (tzN x : Int)) := by
    rw [tz_index hx h0]; exact hT _ hi.1
  have h1 : ((x : Int) == 0) = false := beq_eq_false_iff_ne.2 (by omega)
  have h2 : (tzN x : Int) ≤ 7 := by omega
  have h3 : 0 ≤ (tzN x : Int) := by omega
  clear hi hx h0
  generalize (tzN x : Int) = t at *
  go_enter Tryd.func90, Tryd.ntmps90
  go_wp2
  go_ret
  exact ⟨rfl, rfl⟩

set_option maxRecDepth 100000 in
set_option maxHeartbeats 1000000 in
/-- The function that set.all hands back, for every loop's body. -/
theorem all1 (l Bn s : Nat) (hs : s < 256) (J Jx : List (Elt (elems s)) → World → Prop)
    (hY : ∀ pre x W, J pre W → pre.length < 16 → YieldAt Fence.wide 0 Tryd.prog l (eltEnc (elems s) x) W fun e W' =>
      (e = .returned (.bool true) ∧ J (pre ++ [x]) W' ∧ (Tab W → Tab W')) ∨ (e = .returned (.bool false) ∧ Jx (pre ++ [x]) W'))
    (W : World) (hT : Tab W) (hBn : W.cell? ⟨Bn, 0, none⟩ = some (.int .u16 (s : Int))) (h0 : J [] W) :
    CallsIn Fence.wide 0 Tryd.prog 89 #[.func (.yield l) #[] #[], .pointer (some ⟨Bn, 0, none⟩)] W fun e W' => (∃ v, e = .returned v) ∧
      ((∃ ys : List (Elt (elems s)), ys.map (·.1) = elems s ∧ J ys W') ∨ (∃ pre, True ∧ Jx pre W')) := by
  refine callsIn_of_wp Tryd.func89 rfl trivial ?_ rfl
  simp only [Tryd.ntmps89, List.size_toArray, List.length_cons, List.length_nil, Nat.reduceAdd, Nat.reduceSub, Array.replicate_succ, Array.replicate_zero, List.push_toArray, List.append_toArray, List.nil_append, List.cons_append]
  gi_wp2
  gi_loopw [3] (fun p wr => ∃ (pre : List (Elt (elems s))) (r : Nat), p = .int .u16 (r : Int) ∧ r < 256 ∧ pre.map (·.1) ++ elems r = elems s ∧ Tab wr ∧ J pre wr)
    (fun p wr => (elems (intOf p).toNat).length)
  case atStart =>
    exact ⟨[], s, rfl, hs, rfl, hT, h0⟩
  case round =>
    obtain ⟨pre, r, rfl, hr, he, hT1, hj⟩ := hrel
    by_cases hz : r = 0
    · subst hz
      have he' := Lib.hid he
      clear he hY
      gi_wp2
      go_end0
      exact ⟨⟨_, rfl⟩, .inl ⟨pre, by simpa [elems_zero] using he'.out, hj⟩⟩
    · have hst := elems_step hr hz
      have hmem : ((tzN r : Nat) : Int) ∈ elems s := by rw [← he, hst]; simp
      have hlen : pre.length < 16 := by
        have h1 := congrArg List.length he
        have h2 := elems_length s
        rw [hst] at h1
        simp at h1
        omega
      obtain ⟨fn, tmps, assign, body, hy, hR⟩ := hY pre ⟨_, hmem⟩ wr hj hlen
      dsimp only [eltEnc] at hy
      have hne : ((r : Int) == 0) = false := beq_eq_false_iff_ne.2 (by omega)
      have hne2 : ((r : Int) != 0) = true := bne_iff_ne.2 (by omega)
      have han := Lib.hid (and_pred hr hz)
      have hlt : r &&& (r - 1) < 256 := Nat.lt_of_le_of_lt Nat.and_le_left hr
      have he' := Lib.hid he
      have hst' := Lib.hid hst
      clear he hst hY
      gi_wp2_with (gi_at_call 90; refine (callsIn_wide.2 (tz16 r hr hz _ hT1)).mono ?_; rintro e w' ⟨rfl, rfl⟩)
      refine hR.mono ?_
      rintro e W3 (⟨rfl, hJ3, hk3⟩ | ⟨rfl, hJx3⟩)
      · have hT3 := hk3 hT1
        gi_wp2
        go_roundw
        case rel =>
          refine ⟨pre ++ [⟨_, hmem⟩], r &&& (r - 1), by rw [han.out], hlt, ?_, hT3, hJ3⟩
          refine Eq.trans ?_ he'.out
          rw [hst'.out]; simp
        case measure => simp only [intOf]; rw [han.out, Int.toNat_natCast, Int.toNat_natCast, hst'.out]; simp
      · gi_wp2
        refine bodyPost_ret (results_none rfl _ _ _) rfl ?_
        exact ⟨⟨_, rfl⟩, .inr ⟨_, trivial, hJx3⟩⟩
set_option maxHeartbeats 1000000 in
/-- set.all: the set is boxed; the function value captures the box. -/
theorem all_calls (s : Nat) (w : World) :
    Calls Tryd.prog 77 #[.int .u16 (s : Int)] w fun e w' => e = .returned (.func (.func 89) #[] #[.pointer (some ⟨w.heap.size, 0, none⟩)]) ∧ w.alloc (.cells #[.int .u16 (s : Int)] 65) = w' := by
  go_enter Tryd.func77, Tryd.ntmps77
  go_wp2
  go_ret
  exact ⟨rfl, rfl⟩

/-- What set.all hands back gives the set's numbers. -/
theorem all_seq (Bn s : Nat) (hs : s < 256) (w : World) (hT : Tab w) (hBn : w.cell? ⟨Bn, 0, none⟩ = some (.int .u16 (s : Int))) :
    SetSeq Tab Tryd.prog 89 #[.pointer (some ⟨Bn, 0, none⟩)] (elems s) w :=
  fun l J Jx W hW _ _ hY h0 => all1 l Bn s hs J Jx hY W (hT.below hW (Nat.le_refl _)) ((hW.cell (p := ⟨Bn, 0, none⟩) (World.block_lt_of_cell? w _ hBn)).trans hBn) h0

end Go.Proofs.YtffhdofcfkgoaaaDoor.Core

/- Small movers: what a loop's book-keeping leaves of rows, tables, made slices. -/
namespace Go.Proofs.YtffhdofcfkgoaaaDoor.Core
open Go Go.RowKit Go.Proofs.YtffhdofcfkgoaaaDoorW.PrintWords

theorem Tame.row {B base e size n : Nat} {v : Value} {xs : List Value} {W W' : World} (h : Tame B W W') (ho : W.ownsRow base e size v n xs) : W'.ownsRow base e size v n xs :=
  own_move ho (fun k hk => h.block k (own_lt ho k hk) (.inr (by obtain ⟨cs, hc⟩ := own_typed ho k hk; exact ⟨_, _, _, hc⟩)))
theorem Tame.R {B base e : Nat} {α : Type} {d : Kd α} {ok : Nat → Prop} {v : Value} {xs : List α} {W W' : World} (h : Tame B W W') (ho : d.R e W base ok v xs) : d.R e W' base ok v xs :=
  Kd.R_mono (Kd.R_move (Kd.R_bound ho) (fun k hk => by
    obtain ⟨_, _, hlt, q, _, cs, hc⟩ := hk
    exact h.block k hlt (.inr ⟨_, _, _, hc⟩))) (fun _ hk => hk.1)
theorem Tab.tame (B : Nat) (W W' : World) (h : Tame B W W') (hT : Tab W) : Tab W' := by
  obtain ⟨o, ho, hc⟩ := cells_of_cell (hT 0 (by omega))
  cases o with
  | cells cs t fr => exact fun i hi => (World.cell?_of_block (w := W) (w' := W') (a := ⟨0, i, none⟩) (h.block _ hT.lt (.inr ⟨_, _, _, ho⟩))).trans (hT i hi)
  | _ => cases hc
theorem Tab.of {w W : World} (hT : Tab w) (hB : Below w.heap.size w W) : Tab W := hT.below hB (Nat.le_refl _)

/-- A row of numbers of the call's own, as the print's words tell it. -/
theorem row_R {w : World} {base e : Nat} {k : IntKind} {v : Value} {xs : List Int} (h : w.ownsRow base e 1 v xs.length (xs.map (Value.int k))) : (Kd.int k).R e w base (fun _ => True) v xs :=
  Kd.R_of_own (enc := Value.int k) h (fun _ _ => trivial)
theorem pw_below {w W : World} (h : Below w.heap.size w W) : Below w.heap.size w W := h
/-- A slice's value is stored: one cell. -/
theorem store_row {P : Program} {v : Value} {n : Nat} (h : ∃ A c, v = .slice A n c) (ad : Addr) (W : World) (h1 : (W.cell? ad).isSome = true) (h2 : W.frozen? ad = false) : Sem.run P (store ad v) W = .ok () (W.setCell ad v) := by
  obtain ⟨A, c, rfl⟩ := h
  obtain ⟨u, hu⟩ := Option.isSome_iff_exists.1 h1
  go_simp
/-- make([]T, 0, n): no elements, a capacity of its own. -/
theorem _root_.Go.Proofs.YtffhdofcfkgoaaaDoorW.PrintWords.Kd.R_make0 {α : Type} {P : Program} {ops : Array Oper} {rest : List Oper} {o : Oper} {a : Act} {Q : Exit → Act → World → Prop} (d : Kd α) {w0 W : World} (base e : Nat) (hgd : o.guard = none) {N : Tmp} (_hd : o.dst = some N) (t : TypeId) (x y : Operand) (ho : o.op = .makeSlice t x y) (n : Int) (hx : a.eval x = .int .i64 0) (hy : a.eval y = .int .i64 n)
    (ht : P.underlying t = some (.slice e)) (z : Value) (bytes : Nat) (hinfo : (P.info? e).map (fun i => (i.zero, i.size, i.bytes)) = some (some z, d.sz, bytes)) (hz : z.cells.size = d.sz) (hs0 : 0 < d.sz) (hb0 : 0 < bytes)
    {ok : Nat → Prop} (hfresh : ok W.heap.size) (h0 : 0 ≤ n) (hl : n.toNat * bytes ≤ 281474976710656) (HB : Below base w0 W) (hbase : base ≤ W.heap.size)
    (h : ∀ v1 w1, d.R e w1 base ok v1 [] → Below base w0 w1 → W.grownBy w1 none → (∃ b, v1.ownBlock = some b ∧ W.heap.size ≤ b) → wpList P ops Q rest (a.put o.dst v1) w1) : wpList P ops Q (o :: rest) a W := by
  obtain ⟨m, rfl⟩ := Int.eq_ofNat_of_zero_le h0
  simp only [Int.toNat_natCast] at hl
  obtain ⟨i0, hi, hzz⟩ := Option.map_eq_some_iff.1 hinfo
  simp only [Prod.mk.injEq] at hzz
  obtain ⟨hz0, hz1, hz2⟩ := hzz
  have hm : m ≤ 281474976710656 := Nat.le_trans (Nat.le_mul_of_pos_right _ hb0) hl
  have hr := run_make (P := P) W t e i0 z ht hi hz0 .i64 .i64 (0 : Int) (m : Int) (by omega) (by omega)
    (by
      have h3 : ((i0.bytes * m : Nat) : Int) ≤ 281474976710656 := by rw [hz2, Nat.mul_comm]; omega
      rwa [Int.natCast_mul] at h3) (by omega)
  simp only [Int.toNat_natCast, Int.toNat_zero] at hr
  rw [hz1] at hr
  have hown := World.ownsRow_made (base := base) (e := e) (size := d.sz) W (madeCells z.cells (m * d.sz)) m hbase (by unfold maxLen; omega) (by simp [size_madeCells])
  refine Kd.event_run (v := .slice (some ⟨W.heap.size, 0, none⟩) 0 m) (w1 := W.alloc (.cells (madeCells z.cells (m * d.sz)) e)) hgd ?_ (h _ _ ⟨fun k hk => ?_, [], hown, Reps.none _ _⟩ (HB.alloc hbase _) (World.grownBy_alloc W _ none) ⟨W.heap.size, by simp [Value.ownBlock], Nat.le_refl _⟩)
  · simp [execOp, ho, hx, hy, hr]
  · have : W.heap.size = k := by simpa [Value.ownBlock] using hk
    subst this
    exact hfresh
theorem _root_.Go.Proofs.YtffhdofcfkgoaaaDoorW.PrintWords.Kd.S_make0 {α : Type} {P : Program} {ops : Array Oper} {rest : List Oper} {o : Oper} {a : Act} {Q : Exit → Act → World → Prop} (d : Kd α) {w0 W : World} (base e : Nat) (hgd : o.guard = none) {N : Tmp} (hd : o.dst = some N) (t : TypeId) (x y : Operand) (ho : o.op = .makeSlice t x y) (n : Int) (hx : a.eval x = .int .i64 0) (hy : a.eval y = .int .i64 n)
    (ht : P.underlying t = some (.slice e)) (z : Value) (bytes : Nat) (hinfo : (P.info? e).map (fun i => (i.zero, i.size, i.bytes)) = some (some z, d.sz, bytes)) (hz : z.cells.size = d.sz) (hs0 : 0 < d.sz) (hb0 : 0 < bytes)
    {ok : Nat → Prop} (hfresh : ok W.heap.size) (h0 : 0 ≤ n) (hl : n.toNat * bytes ≤ 281474976710656) (HB : Below base w0 W) (hbase : base ≤ W.heap.size)
    (h : ∀ v1 w1, d.S e w1 base ok v1 [] → Below base w0 w1 → W.grownBy w1 none → (∃ b, v1.ownBlock = some b ∧ W.heap.size ≤ b) → wpList P ops Q rest (a.put o.dst v1) w1) : wpList P ops Q (o :: rest) a W :=
  Kd.R_make0 (Kd.tag (fun _ => 0) d) base e hgd hd t x y ho n hx hy ht z bytes hinfo hz hs0 hb0 (ok := ok) hfresh h0 hl HB hbase (fun v1 w1 hr => h v1 w1 ⟨fun _ => 0, hr⟩)
/-- An append turns a block of cells, or none: the marks stay. -/
theorem Marks.grow {lo hi : Nat} {W W' : World} {ds : List Deferred} {row : Option Nat} (h : Marks lo hi W ds) (hg : W.grownBy W' row) (hr : ∀ k, row = some k → ∃ cs t, W.heap[k]? = some (.cells cs t (0, 0))) : Marks lo hi W' ds :=
  ⟨h.1, fun d hd => by
    obtain ⟨D, e, h1, h2, h3⟩ := h.2 d hd
    refine ⟨D, e, h1, h2, (hg.block D (Array.getElem?_eq_some_iff.1 h3).1 (fun e' => ?_)).trans h3⟩
    obtain ⟨cs, t, hc⟩ := hr D e'.symm
    rw [h3] at hc; cases hc⟩
theorem _root_.Go.Proofs.YtffhdofcfkgoaaaDoorW.PrintWords.Kd.R_ownTyped {α : Type} {d : Kd α} {e : Nat} {w : World} {base : Nat} {ok : Nat → Prop} {v : Value} {xs : List α} (h : d.R e w base ok v xs) : ∀ k, v.ownBlock = some k → ∃ cs t, w.heap[k]? = some (.cells cs t (0, 0)) := fun k hk => by
  obtain ⟨_, ho⟩ := Kd.R_own h
  obtain ⟨cs, hc⟩ := own_typed ho k hk
  exact ⟨cs, e, hc⟩
end Go.Proofs.YtffhdofcfkgoaaaDoor.Core
