/- The law FnExactUselessNeeds holds of the given program: the proof's own part, with its row and its card, part 2 of 7. -/
import Derived.Test.YtpdgnncnejmhfaaDoorZFnExactUselessNeeds1
import Derived.Laws.BitsAllLaws
import Derived.KernelRfl
import Derived.RangeFuncNested
import Derived.RangeFuncBound
import Derived.RangeFuncCalls
import Derived.RangeFuncLeaves
import Derived.Shelf.Abstract
import Derived.Shelf.RegionOpen
import Derived.WalkKit
import Derived.OwnWalkIn
import Derived.TacticsInMore
import Derived.LoopNIn
import Derived.LoopIn
import Derived.StillTailTactics
import Derived.OrdersIn
import Derived.Test.YtpdgnncnejmhfaaDoorProg
import Derived.Laws.BitsLemmas
import Derived.Lib.Hide
import Derived.Below
import Derived.Deep.Draws
import Derived.Deep.AppendLies
import Derived.Maps.AppendAt
import Derived.OwnWalk
import Derived.Laws.BytesArg
import Derived.Laws.MakeOwn
import Derived.Laws.OwnMore
import Derived.Deep.OwnRows
import Derived.Tactics
import Derived.Lib.ConvBytes
import Derived.Laws.Slices
import Derived.RowKit3
import Derived.Deep.LoopGhost
import Derived.Deep.QuietTactic
import Derived.BigQuiet
import Derived.WideLaws
import Derived.Deep.DeepCutAuto
import Derived.Deep.CutBlock
import Derived.Deep.RegionHeld3
import Derived.Laws.Rows
import Derived.Lib.AppendStr
import Derived.ArgAppend
import Derived.Laws.IdiomCopy
import Derived.OrdersHeld
import Derived.RowKit
section
set_option linter.unusedVariables false
set_option linter.unusedSimpArgs false
namespace Go.Proofs.YtpdgnncnejmhfaaDoor.Core
open Go
/-- The numbers of a set, ascending. -/
def elemsN (s : Nat) : List Nat := (List.range 8).filter (fun i => s.testBit i)
def elems (s : Nat) : List Int := (elemsN s).map Int.ofNat
/-- The table of math/bits (TrailingZeros32's). -/
def tabL : List Nat := [0, 1, 28, 2, 29, 14, 24, 3, 30, 22, 20, 15, 25, 17, 4, 8, 31, 27, 13, 23, 21, 19, 16, 7, 26, 12, 18, 6, 11, 5, 10, 9]
/-- The place in the table. -/
def tzIdx (s : Nat) : Nat := ((s &&& (65536 - s)) * 125613361 % 4294967296) / 134217728
def tzN (s : Nat) : Nat := tabL.getD (tzIdx s) 0
def stepOk (s : Nat) : Bool := s == 0 || (elemsN s == tzN s :: elemsN (s &&& (s - 1)) && decide (tzIdx s < 32) && decide (tzN s < 8))
def allTo : Nat → (Nat → Bool) → Bool
  | 0, _ => true
  | n + 1, p => p n && allTo n p
theorem allTo_spec {p : Nat → Bool} : ∀ {n : Nat}, allTo n p = true → ∀ i, i < n → p i = true
  | 0, _, i, hi => by omega
  | n + 1, h, i, hi => by
    simp only [allTo, Bool.and_eq_true] at h
    by_cases e : i = n
    · rw [e]; exact h.1
    · exact allTo_spec h.2 i (by omega)
theorem steps_ok : allTo 256 stepOk = true := by kernel_rfl
theorem elemsN_step {s : Nat} (h : s < 256) (h0 : s ≠ 0) : elemsN s = tzN s :: elemsN (s &&& (s - 1)) ∧ tzIdx s < 32 ∧ tzN s < 8 := by
  have := allTo_spec steps_ok s h
  simp only [stepOk, Bool.or_eq_true, beq_iff_eq, Bool.and_eq_true, decide_eq_true_eq] at this
  rcases this with h1 | h1
  · exact absurd h1 h0
  · exact ⟨h1.1.1, h1.1.2, h1.2⟩
theorem elems_step {s : Nat} (h : s < 256) (h0 : s ≠ 0) : elems s = (tzN s : Int) :: elems (s &&& (s - 1)) := by
  unfold elems; rw [(elemsN_step h h0).1]; rfl
theorem elems_zero : elems 0 = [] := by decide
theorem mem_elemsN {s i : Nat} : i ∈ elemsN s ↔ i < 8 ∧ s.testBit i = true := by simp [elemsN]
theorem mem_elems {s : Nat} {x : Int} : x ∈ elems s ↔ ∃ i : Nat, x = i ∧ i < 8 ∧ s.testBit i = true := by
  simp only [elems, List.mem_map, mem_elemsN]
  constructor
  · rintro ⟨i, hi, rfl⟩; exact ⟨i, rfl, hi⟩
  · rintro ⟨i, rfl, hi⟩; exact ⟨i, hi, rfl⟩
theorem elems_length (s : Nat) : (elems s).length ≤ 8 := by
  unfold elems elemsN
  rw [List.length_map]
  exact Nat.le_trans (List.length_filter_le _ _) (by simp)
theorem elems_lt {s n : Nat} {x : Int} (hs : s < 2 ^ n) (h : x ∈ elems s) : 0 ≤ x ∧ x < n := by
  obtain ⟨i, rfl, _, hi⟩ := mem_elems.1 h
  have := Nat.ge_two_pow_of_testBit hi
  have h2 : 2 ^ i < 2 ^ n := Nat.lt_of_le_of_lt this hs
  have := (Nat.pow_lt_pow_iff_right (by omega : 1 < 2)).1 h2
  omega
/-- The index as the program reckons it. -/
theorem tz_index {s : Nat} (h : s < 256) (h0 : s ≠ 0) : (bits .and .u16 (s : Int) (IntKind.u16.wrap (-(s : Int))) % 4294967296 * 125613361 % 4294967296 / 134217728).toNat = tzIdx s := by
  have e : IntKind.u16.wrap (-(s : Int)) = ((65536 - s : Nat) : Int) := by rw [IntKind.wrap_u16]; omega
  rw [e, u16_and_nat s (65536 - s) (by omega) (by omega)]
  have hlt : s &&& (65536 - s) < 256 := Nat.lt_of_le_of_lt Nat.and_le_left h
  unfold tzIdx
  generalize s &&& (65536 - s) = t at *
  rw [Int.emod_eq_of_lt (a := (t : Int)) (by omega) (by omega), show (t : Int) * 125613361 % 4294967296 / 134217728 = ((t * 125613361 % 4294967296 / 134217728 : Nat) : Int) from rfl]
  exact Int.toNat_natCast _
theorem and_pred {s : Nat} (h : s < 256) (h0 : s ≠ 0) : bits .and .u16 (s : Int) ((s : Int) - 1) = ((s &&& (s - 1) : Nat) : Int) := by
  have e : (s : Int) - 1 = ((s - 1 : Nat) : Int) := by omega
  rw [e, u16_and_nat s (s - 1) (by omega) (by omega)]
theorem two_pow_cast (k : Nat) : ((2 : Int) ^ k) = ((2 ^ k : Nat) : Int) := by simp
theorem pow_lt_256 {k : Nat} (hk : k < 8) : 2 ^ k < 256 := Nat.pow_lt_pow_right (by omega) hk
theorem with_eq {s k : Nat} (hs : s < 256) (hk : k < 8) : bits .or .u16 (s : Int) (IntKind.u16.wrap (2 ^ k)) = ((s ||| 2 ^ k : Nat) : Int) := by
  have h := pow_lt_256 hk
  have e : IntKind.u16.wrap (2 ^ k) = ((2 ^ k : Nat) : Int) := by
    rw [two_pow_cast, IntKind.wrap_u16]
    generalize 2 ^ k = p at *
    omega
  rw [e, u16_or_nat s (2 ^ k) (by omega) (by omega)]
theorem has_eq {s k : Nat} (hs : s < 256) : (bits .and .u16 ((s : Int) / 2 ^ k) 1 == 1) = s.testBit k := by
  have hle : s / 2 ^ k ≤ s := Nat.div_le_self _ _
  have e : (s : Int) / 2 ^ k = ((s / 2 ^ k : Nat) : Int) := by rw [two_pow_cast]; rfl
  have h1 := u16_and_nat (s / 2 ^ k) 1 (by omega) (by omega)
  rw [e, show (1 : Int) = ((1 : Nat) : Int) from rfl, h1, Nat.and_one_is_mod, Nat.testBit_eq_decide_div_mod_eq]
  generalize s / 2 ^ k % 2 = m
  by_cases h : m = 1
  · subst h; rfl
  · rw [decide_eq_false h]; exact beq_eq_false_iff_ne.2 (by omega)
theorem everything_eq {n : Nat} (hn : n ≤ 8) : IntKind.u16.wrap (IntKind.u16.wrap (2 ^ n) - 1) = ((2 ^ n - 1 : Nat) : Int) := by
  have h : 2 ^ n ≤ 256 := Nat.pow_le_pow_right (by omega) hn
  have h0 : 0 < 2 ^ n := Nat.two_pow_pos n
  rw [two_pow_cast, IntKind.wrap_u16, IntKind.wrap_u16]
  generalize 2 ^ n = p at *
  omega
theorem or_eq {a b : Nat} (ha : a < 256) (hb : b < 256) : bits .or .u16 (a : Int) (b : Int) = ((a ||| b : Nat) : Int) := u16_or_nat a b (by omega) (by omega)
theorem and_eq {a b : Nat} (ha : a < 256) (hb : b < 256) : bits .and .u16 (a : Int) (b : Int) = ((a &&& b : Nat) : Int) := u16_and_nat a b (by omega) (by omega)
/-- a without b. -/
def sub (a b : Nat) : Nat := a &&& (65535 - b)
theorem andNot_eq {a b : Nat} (ha : a < 256) (hb : b < 256) : bits .andNot .u16 (a : Int) (b : Int) = ((sub a b : Nat) : Int) := u16_andNot_nat a b (by omega) (by omega)
theorem sub_testBit {a b i : Nat} (ha : a < 256) (hb : b < 256) : (sub a b).testBit i = (a.testBit i && !b.testBit i) := by
  unfold sub
  rw [Nat.testBit_and, show 65535 - b = 2 ^ 16 - (b + 1) from by omega, Nat.testBit_two_pow_sub_succ (by omega)]
  by_cases h : i < 16
  · simp [h]
  · have h1 : a.testBit i = false := Nat.testBit_lt_two_pow (Nat.lt_of_lt_of_le ha (by
      have : 2 ^ 8 ≤ 2 ^ i := Nat.pow_le_pow_right (by omega) (by omega)
      omega))
    simp [h1]
end Go.Proofs.YtpdgnncnejmhfaaDoor.Core
namespace Go.Proofs.YtpdgnncnejmhfaaDoor.Core
open Go Go.RowKit Go.Shelf
attribute [local go_sem] Oper.semAt_some
theorem wide_fn (f : FuncId) : Fence.wide.fn f = True := rfl
theorem wide_depth : (Fence.wide.depth = none) = True := eq_true rfl
/-- A number out of a list. -/
abbrev Elt (xs : List Int) := { x : Int // x ∈ xs }
def eltEnc (xs : List Int) (x : Elt xs) : Array Value := #[.int .i64 x.1]
theorem keepsOthers_below {W W' : World} (h : Below W.heap.size W W') : KeepsOthers W W' :=
  ⟨h.size, fun k _ hk _ => (h.block k (Array.getElem?_eq_some_iff.1 hk).1).trans hk⟩
/-- Below B all blocks are as they were; above, whatever is cells. -/
structure Tame (B : Nat) (W W' : World) : Prop where
  os : W'.os = W.os
  tape : W'.tape = W.tape
  output : W'.output = W.output
  size : W.heap.size ≤ W'.heap.size
  block : ∀ k, k < W.heap.size → (k < B ∨ ∃ cs t fr, W.heap[k]? = some (.cells cs t fr)) → W'.heap[k]? = W.heap[k]?
theorem Tame.refl (B : Nat) (W : World) : Tame B W W := ⟨rfl, rfl, rfl, Nat.le_refl _, fun _ _ _ => rfl⟩
theorem Tame.trans {B : Nat} {X Y Z : World} (h : Tame B X Y) (k : Tame B Y Z) : Tame B X Z :=
  ⟨k.os.trans h.os, k.tape.trans h.tape, k.output.trans h.output, Nat.le_trans h.size k.size, fun i hi hc => by
    have e := h.block i hi hc
    refine (k.block i (Nat.lt_of_lt_of_le hi h.size) ?_).trans e
    rcases hc with hc | hc
    · exact .inl hc
    · exact .inr (by rw [e]; exact hc)⟩
theorem Tame.mono {B B' : Nat} {W W' : World} (h : Tame B W W') (hb : B' ≤ B) : Tame B' W W' :=
  ⟨h.os, h.tape, h.output, h.size, fun k hk hc => h.block k hk (hc.imp (fun x => Nat.lt_of_lt_of_le x hb) id)⟩
theorem Tame.of_own {B : Nat} {W W' : World} {row : Option Nat} (hg : W.grownBy W' row) (hr : ∀ r, row = some r → B ≤ r ∧ ∃ o : Obj, W.heap[r]? = some o ∧ o.isCells = false) : Tame B W W' :=
  ⟨hg.os, hg.tape, hg.output, hg.size, fun k hk hc => hg.block k hk (fun e => by
    obtain ⟨h1, o, h2, h3⟩ := hr k e.symm
    rcases hc with hc | ⟨cs, t, fr, hc⟩
    · omega
    · rw [hc] at h2; cases h2; cases h3)⟩
theorem ownFrom_tame {β : Type} {B : Nat} {I : β → World → Prop} (h : ∀ s W W', Tame B W W' → I s W → I s W') : OwnFrom B I :=
  fun s W W' _ hs hg hr => h s W W' (Tame.of_own hg hr) hs
theorem Tame.below {B b : Nat} {w W W' : World} (h : Tame B W W') (hb : Below b w W) (hw : b ≤ w.heap.size) (hB : b ≤ B) : Below b w W' :=
  ⟨h.os.trans hb.os, h.tape.trans hb.tape, h.output.trans hb.output, Nat.le_trans hb.size h.size, fun k hk => (h.block k (by have := hb.size; omega) (.inl (by omega))).trans (hb.block k hk)⟩
theorem Tame.boxed {B b : Nat} {t : TypeId} {v : Value} {W W' : World} (h : Tame B W W') (hb : Boxed W b t v) : Boxed W' b t v :=
  (h.block b hb.lt (.inr ⟨_, _, _, hb⟩)).trans hb
theorem Tame.cells {B b : Nat} {cs : Array Value} {t : TypeId} {fr : Nat × Nat} {W W' : World} (h : Tame B W W') (hb : W.heap[b]? = some (.cells cs t fr)) : W'.heap[b]? = some (.cells cs t fr) :=
  (h.block b (Array.getElem?_eq_some_iff.1 hb).1 (.inr ⟨_, _, _, hb⟩)).trans hb
/-- How a round's body may be left: the invariants speak of plain numbers. -/
def rsPost (B : Nat) (I : List Int → World → Prop) (Ix : Code → List Int → World → Prop) (xs : List Int) (W : World) : Exit → Act → World → Prop
  | .normal, _, W' => KeepsFrom B W W' ∧ I xs W'
  | .ret, _, W' => KeepsFrom B W W' ∧ Ix .ret xs W'
  | .exit id, _, W' => KeepsFrom B W W' ∧ Ix (.exit id) xs W'
  | .goto t, _, W' => KeepsFrom B W W' ∧ Ix (.goto t) xs W'
  | .panic _, _, _ => False
  | .outgrown, _, _ => False
/-- The iterator value gives just xs, in its order (or a part of it, where a round has said 'no more'). -/
def SetSeq (T : World → Prop) (P : Program) (gf : Nat) (lb : Array Value) (xs : List Int) (w : World) : Prop :=
  SeqStopsK Fence.wide 0 P gf lb (eltEnc xs) (fun W W' => T W → T W') (fun ys : List (Elt xs) => ys.map (·.1) = xs) (fun _ => True) 16 w
theorem wp_rangeSet {T : World → Prop} (hTt : ∀ B W W', Tame B W W' → T W → T W') {P : Program} {g : Operand} {p d rid : Nat} {t : TypeId} {pos : String} {body : Code} {Q : Exit → Act → World → Prop} {a : Act} {w w0 : World} {gf : Nat} {lb : Array Value} {xs : List Int}
    (hg : a.eval g = .func (.func gf) #[] lb) (eg : ∀ args w, (callFunc gf args).run P w = .ok (.enter gf args) w)
    (hseq : SetSeq T P gf lb xs w0) (hb0 : Below w0.heap.size w0 w) (hp : p < a.tmps.size)
    (I : List Int → World → Prop) (Ix : Code → List Int → World → Prop) (hI : OwnFrom w.heap.size I) (hIx : ∀ c, OwnFrom w.heap.size (Ix c)) (h0 : I [] w) (hT : ∀ ys W, I ys W → T W)
    (hbody : ∀ (l : Nat) (pre : List Int) (x : Int) (W : World), x ∈ xs → I pre W → pre.length < 16 →
      body.wpIn (Fence.wide.inRound l) 0 P (rsPost w.heap.size I Ix (pre ++ [x]) W) { tmps := (a.tmps.setIfInBounds p (.int .i64 x)).setIfInBounds d (.int .i64 x), defers := [] } W)
    (hdone : ∀ (D : Nat) (W : World), w.heap.size ≤ D → I xs W → W.heap[D]? = some (.deferred (some [])) → Q .normal { a with defers := { target := .collected D, args := #[] } :: a.defers } W)
    (hstop : ∀ (D : Nat) (c : Code) (pre : List Int) (W : World), w.heap.size ≤ D → Ix c pre W → W.heap[D]? = some (.deferred (some [])) → c.wp P Q { a with defers := { target := .collected D, args := #[] } :: a.defers } W) :
    (Code.rangeFunc g #[p] (.region rid #[{ dst := some d, op := .assign (.tmp p), type := t, pos := pos, after := #[], guard := none }] false) body).wp P Q a w := by
  refine wpIn_wide.1 (wpIn_rangeFunc_ownG (n := 1) rfl (Nat.le_refl _) hg trivial eg hseq (fun h k x => k (h x)) (fun W l o o' hl ho hc _ => hTt w.heap.size _ _ (Tame.of_own (grownBy_putObj' W l o') (fun r e => by cases e; exact ⟨hl, o, ho, hc⟩))) hb0 (fun _ => rfl)
    (fun ys => I (ys.map (·.1))) (fun c ys => Ix c (ys.map (·.1))) (fun s W W' row hs hg hr => hI _ W W' row hs hg hr) (fun c s W W' row hs hg hr => hIx c _ W W' row hs hg hr) h0
    (fun x => { tmps := (a.tmps.setIfInBounds p (.int .i64 x.1)).setIfInBounds d (.int .i64 x.1), defers := [] }) ?_ ?_ ?_ ?_)
  · intro l x W K hK
    refine wpIn_region_list ?_
    gi_wp2
    simpa [eltEnc, Act.eval, hp] using hK
  · intro l pre x W hi hlt
    refine wpIn_mono (hbody l _ x.1 W x.2 hi (by simpa using hlt)) ?_
    intro e a' W' h
    rw [show pre.map (·.1) ++ [x.1] = (pre ++ [x]).map (·.1) by simp] at h
    cases e with
    | normal => exact ⟨h.1, fun _ => hT _ _ h.2, h.2⟩
    | ret => exact h
    | exit id => exact h
    | goto t => exact h
    | panic c => exact h
    | outgrown => exact h
  · intro D ys W hD hS hI' hk
    exact hdone D W hD (by rw [← hS]; exact hI') hk
  · intro D c pre W hD _ hI' hk
    exact wpIn_wide.2 (hstop D c _ W hD hI' hk)
/-- Each deferred entry is a loop's mark, of a block in lo .. hi; no block twice. -/
def Marks (lo hi : Nat) (W : World) (ds : List Deferred) : Prop :=
  ds.Nodup ∧ ∀ d ∈ ds, ∃ D, d = ({ target := .collected D, args := #[] } : Deferred) ∧ lo ≤ D ∧ D < hi ∧ W.heap[D]? = some (.deferred (some []))
theorem Marks.nil (lo hi : Nat) (W : World) : Marks lo hi W [] := ⟨List.nodup_nil, fun _ h => by cases h⟩
theorem Marks.tame {lo hi B : Nat} {W W' : World} {ds : List Deferred} (h : Marks lo hi W ds) (ht : Tame B W W') (hB : hi ≤ B) : Marks lo hi W' ds :=
  ⟨h.1, fun d hd => by
    obtain ⟨D, e, h1, h2, h3⟩ := h.2 d hd
    exact ⟨D, e, h1, h2, (ht.block D (Array.getElem?_eq_some_iff.1 h3).1 (.inl (by omega))).trans h3⟩⟩
theorem Marks.below {lo hi : Nat} {W W' : World} {ds : List Deferred} (h : Marks lo hi W ds) (ht : Below W.heap.size W W') : Marks lo hi W' ds :=
  ⟨h.1, fun d hd => by
    obtain ⟨D, e, h1, h2, h3⟩ := h.2 d hd
    exact ⟨D, e, h1, h2, (ht.block D (Array.getElem?_eq_some_iff.1 h3).1).trans h3⟩⟩
theorem Marks.mono {lo hi hi' : Nat} {W : World} {ds : List Deferred} (h : Marks lo hi W ds) (hh : hi ≤ hi') : Marks lo hi' W ds :=
  ⟨h.1, fun d hd => by
    obtain ⟨D, e, h1, h2, h3⟩ := h.2 d hd
    exact ⟨D, e, h1, by omega, h3⟩⟩
theorem Marks.cons {lo hi D : Nat} {W : World} {ds : List Deferred} (h : Marks lo hi W ds) (hD : hi ≤ D) (hlo : lo ≤ hi) (hk : W.heap[D]? = some (.deferred (some []))) :
    Marks lo W.heap.size W ({ target := .collected D, args := #[] } :: ds) := by
  have hlt := (Array.getElem?_eq_some_iff.1 hk).1
  refine ⟨List.nodup_cons.2 ⟨fun hm => ?_, h.1⟩, fun d hd => ?_⟩
  · obtain ⟨D', e, h1, h2, h3⟩ := h.2 _ hm
    have e1 : D = D' := by simpa using e
    omega
  · rcases List.mem_cons.1 hd with rfl | hd
    · exact ⟨D, rfl, by omega, hlt, hk⟩
    · obtain ⟨D', e, h1, h2, h3⟩ := h.2 _ hd
      exact ⟨D', e, h1, by omega, h3⟩
theorem leaveM {P : Program} {fn : Func} {tmps : Array Value} {R : Ending → World → Prop} {v : Value} {lo hi : Nat} (hres : ∀ W, (results fn tmps).run P W = .ok v W) :
    ∀ (ds : List Deferred) (W : World), Marks lo hi W ds → (∀ W', Tame lo W W' → R (.returned v) W') → LeavesInM Fence.wide 0 P fn tmps R ds .returning W
  | [], W, _, hR => ⟨v, hres W, hR W (Tame.refl _ _)⟩
  | d :: ds, W, hm, hR => by
    obtain ⟨D, rfl, h1, h2, h3⟩ := hm.2 d (List.mem_cons_self)
    have hlt := (Array.getElem?_eq_some_iff.1 h3).1
    have hnd := List.nodup_cons.1 hm.1
    refine ⟨by simp, .inl ⟨D, _, rfl, run_takeDeferred h3, ?_⟩⟩
    have ht : Tame lo W (W.putObj D (.deferred none)) := Tame.of_own (grownBy_putObj' W D _) (fun r e => by cases e; exact ⟨h1, _, h3, rfl⟩)
    refine leaveM (hi := hi) hres ds _ ⟨hnd.2, fun d' hd' => ?_⟩ (fun W' h' => hR W' (ht.trans h'))
    obtain ⟨D', rfl, h1', h2', h3'⟩ := hm.2 d' (List.mem_cons_of_mem _ hd')
    refine ⟨D', rfl, h1', h2', (World.putObj_heap_other ?_).trans h3'⟩
    rintro rfl
    exact hnd.1 hd'
/-- The end of a function that has ranged over sets. -/
theorem leave_ret {P : Program} {fn : Func} {a : Act} {W : World} {R : Ending → World → Prop} {v : Value} {lo hi : Nat} (hm : Marks lo hi W a.defers) (hres : ∀ W, (results fn a.tmps).run P W = .ok v W)
    (hR : ∀ W', Tame lo W W' → R (.returned v) W') : bodyPostM Fence.wide 0 P fn R .ret a W := leaveM hres _ _ hm hR
/-- A function's contract out of its body, where the body ranges over sets. -/
theorem calls_marks {P : Program} {f : FuncId} {fn : Func} {c : Code} {args : Array Value} {w : World} {R : Ending → World → Prop}
    (hf : P.funcs[f]? = some fn) (hb : fn.body = some c)
    (h : c.wp P (bodyPostM Fence.wide 0 P fn R) { tmps := args ++ Array.replicate (fn.ntmps - args.size) undef, defers := [] } w) : Calls P f args w R :=
  callsIn_wide.1 (callsIn_of_wp_marks hf hb trivial (wpIn_wide.2 h))
theorem wpOpIn_of_wpOp {P : Program} {ops : Array Oper} {Q : Exit → Act → World → Prop} {i l n : Nat} {K K' : Act → World → Prop} {a : Act} {w : World}
    (hnd : ∀ o, ops[i]? = some o → ∀ c, o.op ≠ .defer c) (hQ : ¬ LetsOut Q) (hK : ∀ a w, K a w → K' a w) (h : wpOp P ops Q i K a w) : wpOpIn (Fence.wide.inRound l) n P ops Q i K' a w := by
  unfold wpOp at h
  unfold wpOpIn
  cases ho : ops[i]? with
  | none => rw [ho] at h; exact hK _ _ h
  | some o =>
    rw [ho] at h
    by_cases hw : Region.wanted o (yielded ops a.tmps) = true
    · simp only [hw, if_true] at h ⊢
      rcases h with h | h
      · refine ⟨fun f _ => trivial, ?_⟩
        rw [Oper.semAt_eq _ _ _ (hnd o ho)]
        unfold Oper.wp at h
        generalize (execOp a.eval o).run P w = r at h ⊢
        cases r with
        | ok nx w' =>
          cases nx with
          | value v => exact hK _ _ h
          | skip => exact hK _ _ h
          | defer d => exact hK _ _ h
          | enter f args =>
            refine ⟨fun hd => absurd hd (by simp [Fence.wide, Fence.inRound]), CallsIn.inRound l (callsIn_wide.2 (Calls.mono (show Calls P f args w' _ from h) ?_))⟩
            intro e w'' hr
            cases e with
            | returned v => exact hK _ _ hr
            | panicked c => exact hr
            | outgrown => exact hr
          | row row args =>
            refine ⟨fun hd => absurd hd (by simp [Fence.wide, Fence.inRound]), fun c cs _ => ?_⟩
            obtain ⟨v, w'', hr, hs⟩ := (show Rows P row args w' _ from h) c cs
            exact ⟨v, w'', hK _ _ hr, stepsIn_wide.2 hs⟩
          | _ => exact (show False from h).elim
        | halt ht w' =>
          cases ht with
          | panic v => exact h
          | _ => exact (show False from h).elim
      · exact absurd h.2 hQ
    · simp only [hw] at h ⊢
      exact ⟨fun f _ => trivial, hK _ _ h⟩
theorem wpAnyIn_of_wpAny {P : Program} {md : Region.Mode} {ops : Array Oper} {Q : Exit → Act → World → Prop} {l n : Nat} (hnd : ∀ (i : Nat) (o : Oper), ops[i]? = some o → ∀ c : Call, o.op ≠ Op.defer c) (hQ : ¬ LetsOut Q) :
    ∀ (fuel : Nat) (listed : Array Bool) (a : Act) (w : World), wpAny P md ops Q fuel listed a w → wpAnyIn (Fence.wide.inRound l) n P md ops Q fuel listed a w
  | 0, _, _, _, h => h
  | fuel + 1, _, _, _, h => ⟨h.1, fun i hi => wpOpIn_of_wpOp (hnd i) hQ (fun a' w' h' => wpAnyIn_of_wpAny hnd hQ fuel _ a' w' h') (h.2 i hi)⟩
/-- No operation of the region is a defer statement. -/
def noDefer (ops : Array Oper) : Bool := ops.all fun o => match o.op with | .defer _ => false | _ => true
theorem noDefer_spec {ops : Array Oper} (h : noDefer ops = true) (i : Nat) (o : Oper) (ho : ops[i]? = some o) (c : Call) : o.op ≠ .defer c := by
  have := (Array.all_eq_true'.1 h) o (Array.mem_of_getElem? ho)
  intro e
  rw [e] at this
  cases this
/-- Reads and quiet calls before one store (or the like), within a round: walked in the text's order. -/
theorem wpIn_still_tail {P : Program} {id l n0 : Nat} {Q : Exit → Act → World → Prop} {a : Act} {w : World} {ops : List Oper} (n : Nat) (hm : P.follows .mixedOrders = true) (hB : Region.lexTailB .any ops.toArray n = true) (hd : noDefer ops.toArray = true) (hQ : ¬ LetsOut Q)
    (h : wpStill P ops.toArray { w with drawn := w.drawn + 1 } (fun a' => wpList P ops.toArray Q (ops.drop n) a' { w with drawn := w.drawn + 1 }) (ops.take n) a) : (Code.region id ops.toArray true).wpIn (Fence.wide.inRound l) n0 P Q a w := by
  refine wpIn_region_any hm (wpAnyIn_of_wpAny (noDefer_spec hd) hQ _ _ _ _ ?_)
  simp only [Region.lexTailB, Bool.and_eq_true, decide_eq_true_eq] at hB
  obtain ⟨⟨⟨⟨hsel, hn⟩, hs⟩, hc⟩, hlex⟩ := hB
  have hn' : n < ops.length := by simpa using hn
  have htl : (ops.take n).length = n := by simp; omega
  have hdl : (ops.drop n).length = ops.toArray.size - n := by simp
  have H := wpAnyL_lex (md := .any) (g := ops.toArray.size - n) hsel hs hc hn (ops.take n) 0 _ a (fun j hj => by
    have hj' : j < n := by rw [htl] at hj; exact hj
    simp [hj']) (by simpa using htl)
    ⟨(by simp : (Array.replicate ops.toArray.size false).size = ops.toArray.size), fun j oj _ hl => (by rw [getD_replicate_false] at hl; cases hl), fun t _ ht => getD_in (by simpa using ht) (getD_replicate_false _ _)⟩ (by rw [htl]; exact hlex) h
  have := wpAny_of_head (Q' := Q) (g := ops.toArray.size - n) (fun listed a' hL => by
    have := wpAny_of_seq (md := .any) (Q' := Q) (ops.drop n) n listed a' { w with drawn := w.drawn + 1 } (fun j => by simp [List.getElem?_drop]) (by rw [hdl]; exact hL.1) hL.2
    rwa [hdl] at this) _ _ _ H
  rw [htl, show n + (ops.toArray.size - n) = ops.toArray.size by omega] at this
  exact this
end Go.Proofs.YtpdgnncnejmhfaaDoor.Core
namespace Go.Proofs.YtpdgnncnejmhfaaDoor.Core
open Go Go.RowKit Go.Shelf
attribute [local go_sem] Oper.semAt_some wide_fn wide_depth
/-- The table of math/bits lies in the world. -/
def Tab (w : World) : Prop := ∀ i : Nat, i < 32 → w.cell? ⟨0, i, none⟩ = some (.int .u8 ((tabL.getD i 0 : Nat) : Int))
theorem Tab.lt {w : World} (h : Tab w) : 0 < w.heap.size := World.block_lt_of_cell? w _ (h 0 (by omega))
theorem Tab.below {w w' : World} {B : Nat} (h : Tab w) (hb : Below B w w') (hB : w.heap.size ≤ B) : Tab w' := fun i hi => (hb.cell (p := ⟨0, i, none⟩) (Nat.lt_of_lt_of_le h.lt hB)).trans (h i hi)
set_option maxHeartbeats 1000000 in
theorem tz16 (x : Nat) (hx : x < 256) (h0 : x ≠ 0) (w : World) (hT : Tab w) :
    Calls Tryd.prog 40 #[.int .u16 (x : Int)] w fun e w' => e = .returned (.int .i64 (tzN x : Int)) ∧ w = w' := by
  have hi := (elemsN_step hx h0).2
  have hc : w.cell? ⟨0, (bits .and .u16 (x : Int) (IntKind.u16.wrap (-(x : Int))) % 4294967296 * 125613361 % 4294967296 / 134217728).toNat, none⟩ = some (.int .u8 (tzN x : Int)) := by
    rw [tz_index hx h0]; exact hT _ hi.1
  have h1 : ((x : Int) == 0) = false := beq_eq_false_iff_ne.2 (by omega)
  have h2 : (tzN x : Int) ≤ 7 := by omega
  have h3 : 0 ≤ (tzN x : Int) := by omega
  clear hi hx h0
  generalize (tzN x : Int) = t at *
  go_enter Tryd.func40, Tryd.ntmps40
  go_wp2
  go_ret
  exact ⟨rfl, rfl⟩
set_option maxRecDepth 100000 in
set_option maxHeartbeats 1000000 in
/-- The function that set.all hands back, for every loop's body. -/
theorem all1 (l Bn s : Nat) (hs : s < 256) (J Jx : List (Elt (elems s)) → World → Prop)
    (hY : ∀ pre x W, J pre W → pre.length < 16 → YieldAt Fence.wide 0 Tryd.prog l (eltEnc (elems s) x) W fun e W' =>
      (e = .returned (.bool true) ∧ J (pre ++ [x]) W' ∧ (Tab W → Tab W')) ∨ (e = .returned (.bool false) ∧ Jx (pre ++ [x]) W'))
    (W : World) (hT : Tab W) (hBn : W.cell? ⟨Bn, 0, none⟩ = some (.int .u16 (s : Int))) (h0 : J [] W) :
    CallsIn Fence.wide 0 Tryd.prog 39 #[.func (.yield l) #[] #[], .pointer (some ⟨Bn, 0, none⟩)] W fun e W' => (∃ v, e = .returned v) ∧
      ((∃ ys : List (Elt (elems s)), ys.map (·.1) = elems s ∧ J ys W') ∨ (∃ pre, True ∧ Jx pre W')) := by
  refine callsIn_of_wp Tryd.func39 rfl trivial ?_ rfl
  simp only [Tryd.ntmps39, List.size_toArray, List.length_cons, List.length_nil, Nat.reduceAdd, Nat.reduceSub, Array.replicate_succ, Array.replicate_zero, List.push_toArray, List.append_toArray, List.nil_append, List.cons_append]
  gi_wp2
  gi_loopw [3] (fun p wr => ∃ (pre : List (Elt (elems s))) (r : Nat), p = .int .u16 (r : Int) ∧ r < 256 ∧ pre.map (·.1) ++ elems r = elems s ∧ Tab wr ∧ J pre wr)
    (fun p wr => (elems (intOf p).toNat).length)
  case atStart =>
    exact ⟨[], s, rfl, hs, rfl, hT, h0⟩
  case round =>
    obtain ⟨pre, r, rfl, hr, he, hT1, hj⟩ := hrel
    by_cases hz : r = 0
    · subst hz
      have he' := Lib.hid he
      clear he hY
      gi_wp2
      go_end0
      exact ⟨⟨_, rfl⟩, .inl ⟨pre, by simpa [elems_zero] using he'.out, hj⟩⟩
    · have hst := elems_step hr hz
      have hmem : ((tzN r : Nat) : Int) ∈ elems s := by rw [← he, hst]; simp
      have hlen : pre.length < 16 := by
        have h1 := congrArg List.length he
        have h2 := elems_length s
        rw [hst] at h1
        simp at h1
        omega
      obtain ⟨fn, tmps, assign, body, hy, hR⟩ := hY pre ⟨_, hmem⟩ wr hj hlen
      dsimp only [eltEnc] at hy
      have hne : ((r : Int) == 0) = false := beq_eq_false_iff_ne.2 (by omega)
      have hne2 : ((r : Int) != 0) = true := bne_iff_ne.2 (by omega)
      have han := Lib.hid (and_pred hr hz)
      have hlt : r &&& (r - 1) < 256 := Nat.lt_of_le_of_lt Nat.and_le_left hr
      have he' := Lib.hid he
      have hst' := Lib.hid hst
      clear he hst hY
      gi_wp2_with (gi_at_call 40; refine (callsIn_wide.2 (tz16 r hr hz _ hT1)).mono ?_; rintro e w' ⟨rfl, rfl⟩)
      refine hR.mono ?_
      rintro e W3 (⟨rfl, hJ3, hk3⟩ | ⟨rfl, hJx3⟩)
      · have hT3 := hk3 hT1
        gi_wp2
        go_roundw
        case rel =>
          refine ⟨pre ++ [⟨_, hmem⟩], r &&& (r - 1), by rw [han.out], hlt, ?_, hT3, hJ3⟩
          refine Eq.trans ?_ he'.out
          rw [hst'.out]; simp
        case measure => simp only [intOf]; rw [han.out, Int.toNat_natCast, Int.toNat_natCast, hst'.out]; simp
      · gi_wp2
        refine bodyPost_ret (results_none rfl _ _ _) rfl ?_
        exact ⟨⟨_, rfl⟩, .inr ⟨_, trivial, hJx3⟩⟩
set_option maxHeartbeats 1000000 in
/-- set.all: the set is boxed; the function value captures the box. -/
theorem all_calls (s : Nat) (w : World) :
    Calls Tryd.prog 23 #[.int .u16 (s : Int)] w fun e w' => e = .returned (.func (.func 39) #[] #[.pointer (some ⟨w.heap.size, 0, none⟩)]) ∧ w.alloc (.cells #[.int .u16 (s : Int)] 51) = w' := by
  go_enter Tryd.func23, Tryd.ntmps23
  go_wp2
  go_ret
  exact ⟨rfl, rfl⟩
/-- What set.all hands back gives the set's numbers. -/
theorem all_seq (Bn s : Nat) (hs : s < 256) (w : World) (hT : Tab w) (hBn : w.cell? ⟨Bn, 0, none⟩ = some (.int .u16 (s : Int))) :
    SetSeq Tab Tryd.prog 39 #[.pointer (some ⟨Bn, 0, none⟩)] (elems s) w :=
  fun l J Jx W hW _ _ hY h0 => all1 l Bn s hs J Jx hY W (hT.below hW (Nat.le_refl _)) ((hW.cell (p := ⟨Bn, 0, none⟩) (World.block_lt_of_cell? w _ hBn)).trans hBn) h0
end Go.Proofs.YtpdgnncnejmhfaaDoor.Core
namespace Go.Proofs.YtpdgnncnejmhfaaDoor.Core
open Go Go.RowKit Go.Proofs.YtpdgnncnejmhfaaDoorW.PrintWords
theorem Tame.row {B base e size n : Nat} {v : Value} {xs : List Value} {W W' : World} (h : Tame B W W') (ho : W.ownsRow base e size v n xs) : W'.ownsRow base e size v n xs :=
  own_move ho (fun k hk => h.block k (own_lt ho k hk) (.inr (by obtain ⟨cs, hc⟩ := own_typed ho k hk; exact ⟨_, _, _, hc⟩)))
theorem Tame.R {B base e : Nat} {α : Type} {d : Kd α} {ok : Nat → Prop} {v : Value} {xs : List α} {W W' : World} (h : Tame B W W') (ho : d.R e W base ok v xs) : d.R e W' base ok v xs :=
  Kd.R_mono (Kd.R_move (Kd.R_bound ho) (fun k hk => by
    obtain ⟨_, _, hlt, q, _, cs, hc⟩ := hk
    exact h.block k hlt (.inr ⟨_, _, _, hc⟩))) (fun _ hk => hk.1)
theorem Tab.tame (B : Nat) (W W' : World) (h : Tame B W W') (hT : Tab W) : Tab W' := by
  obtain ⟨o, ho, hc⟩ := cells_of_cell (hT 0 (by omega))
  cases o with
  | cells cs t fr => exact fun i hi => (World.cell?_of_block (w := W) (w' := W') (a := ⟨0, i, none⟩) (h.block _ hT.lt (.inr ⟨_, _, _, ho⟩))).trans (hT i hi)
  | _ => cases hc
theorem Tab.of {w W : World} (hT : Tab w) (hB : Below w.heap.size w W) : Tab W := hT.below hB (Nat.le_refl _)
/-- A slice's value is stored: one cell. -/
theorem store_row {P : Program} {v : Value} {n : Nat} (h : ∃ A c, v = .slice A n c) (ad : Addr) (W : World) (h1 : (W.cell? ad).isSome = true) (h2 : W.frozen? ad = false) : Sem.run P (store ad v) W = .ok () (W.setCell ad v) := by
  obtain ⟨A, c, rfl⟩ := h
  obtain ⟨u, hu⟩ := Option.isSome_iff_exists.1 h1
  go_simp
/-- make([]T, 0, n): no elements, a capacity of its own. -/
theorem _root_.Go.Proofs.YtpdgnncnejmhfaaDoorW.PrintWords.Kd.R_make0 {α : Type} {P : Program} {ops : Array Oper} {rest : List Oper} {o : Oper} {a : Act} {Q : Exit → Act → World → Prop} (d : Kd α) {w0 W : World} (base e : Nat) (hgd : o.guard = none) {N : Tmp} (_hd : o.dst = some N) (t : TypeId) (x y : Operand) (ho : o.op = .makeSlice t x y) (n : Int) (hx : a.eval x = .int .i64 0) (hy : a.eval y = .int .i64 n)
    (ht : P.underlying t = some (.slice e)) (z : Value) (bytes : Nat) (hinfo : (P.info? e).map (fun i => (i.zero, i.size, i.bytes)) = some (some z, d.sz, bytes)) (hz : z.cells.size = d.sz) (hs0 : 0 < d.sz) (hb0 : 0 < bytes)
    {ok : Nat → Prop} (hfresh : ok W.heap.size) (h0 : 0 ≤ n) (hl : n.toNat * bytes ≤ 281474976710656) (HB : Below base w0 W) (hbase : base ≤ W.heap.size)
    (h : ∀ v1 w1, d.R e w1 base ok v1 [] → Below base w0 w1 → W.grownBy w1 none → (∃ b, v1.ownBlock = some b ∧ W.heap.size ≤ b) → wpList P ops Q rest (a.put o.dst v1) w1) : wpList P ops Q (o :: rest) a W := by
  obtain ⟨m, rfl⟩ := Int.eq_ofNat_of_zero_le h0
  simp only [Int.toNat_natCast] at hl
  obtain ⟨i0, hi, hzz⟩ := Option.map_eq_some_iff.1 hinfo
  simp only [Prod.mk.injEq] at hzz
  obtain ⟨hz0, hz1, hz2⟩ := hzz
  have hm : m ≤ 281474976710656 := Nat.le_trans (Nat.le_mul_of_pos_right _ hb0) hl
  have hr := run_make (P := P) W t e i0 z ht hi hz0 .i64 .i64 (0 : Int) (m : Int) (by omega) (by omega)
    (by
      have h3 : ((i0.bytes * m : Nat) : Int) ≤ 281474976710656 := by rw [hz2, Nat.mul_comm]; omega
      rwa [Int.natCast_mul] at h3) (by omega)
  simp only [Int.toNat_natCast, Int.toNat_zero] at hr
  rw [hz1] at hr
  have hown := World.ownsRow_made (base := base) (e := e) (size := d.sz) W (madeCells z.cells (m * d.sz)) m hbase (by unfold maxLen; omega) (by simp [size_madeCells])
  refine Kd.event_run (v := .slice (some ⟨W.heap.size, 0, none⟩) 0 m) (w1 := W.alloc (.cells (madeCells z.cells (m * d.sz)) e)) hgd ?_ (h _ _ ⟨fun k hk => ?_, [], hown, Reps.none _ _⟩ (HB.alloc hbase _) (World.grownBy_alloc W _ none) ⟨W.heap.size, by simp [Value.ownBlock], Nat.le_refl _⟩)
  · simp [execOp, ho, hx, hy, hr]
  · have : W.heap.size = k := by simpa [Value.ownBlock] using hk
    subst this
    exact hfresh
/-- An append turns a block of cells, or none: the marks stay. -/
theorem Marks.grow {lo hi : Nat} {W W' : World} {ds : List Deferred} {row : Option Nat} (h : Marks lo hi W ds) (hg : W.grownBy W' row) (hr : ∀ k, row = some k → ∃ cs t, W.heap[k]? = some (.cells cs t (0, 0))) : Marks lo hi W' ds :=
  ⟨h.1, fun d hd => by
    obtain ⟨D, e, h1, h2, h3⟩ := h.2 d hd
    refine ⟨D, e, h1, h2, (hg.block D (Array.getElem?_eq_some_iff.1 h3).1 (fun e' => ?_)).trans h3⟩
    obtain ⟨cs, t, hc⟩ := hr D e'.symm
    rw [h3] at hc; cases hc⟩
/-- A slice whose row may begin inside its block (out[1:]): read as any slice, made as a queue's. -/
def _root_.Go.Proofs.YtpdgnncnejmhfaaDoorW.PrintWords.Kd.sliceQ {α : Type} (e : Nat) (d : Kd α) : Kd (List α) where
  sz := 1
  E := e :: d.E
  K := (Kd.slice e d).K
  M := fun w base ok xs cs => ∃ v, cs = [v] ∧ d.Q e w base ok v xs
  K_len := fun h => (Kd.slice e d).K_len h
  K_one := fun h => (Kd.slice e d).K_one h
  K_below := fun hb h => (Kd.slice e d).K_below hb h
  K_of_M := by
    rintro w base ok x cs ⟨v, rfl, h⟩
    obtain ⟨A, c, rfl, hl, hr⟩ := Kd.Q_reads h
    exact ⟨A, c, rfl, hl, hr⟩
  M_mono := by
    rintro w base ok ok' x cs hok ⟨v, rfl, h⟩
    exact ⟨v, rfl, Kd.Q_mono h hok⟩
  M_bound := by
    rintro w base ok x cs ⟨v, rfl, h⟩
    exact ⟨v, rfl, Kd.Q_bound h⟩
  M_move := by
    rintro w w1 base ok x cs hm ⟨v, rfl, h⟩
    exact ⟨v, rfl, Kd.Q_move h hm⟩
  M_lower := by
    rintro w base base' ok x cs hb ⟨v, rfl, h⟩
    exact ⟨v, rfl, Kd.Q_lower h hb⟩
end Go.Proofs.YtpdgnncnejmhfaaDoor.Core
end
section
namespace Go.Proofs.YtpdgnncnejmhfaaDoor.P
open Go.RowKit Go.Proofs.YtpdgnncnejmhfaaDoorW.PrintWords Go.Proofs.YtpdgnncnejmhfaaDoorW.PrintLast Go.Proofs.YtpdgnncnejmhfaaDoorW.PrintMore
attribute [local go_sem] max2_int min2_int max_two min_two max_three min_three max_four min_four   -- for this text's walks alone
set_option linter.unusedVariables false
set_option linter.unusedSimpArgs false
def errW : Option Int → Value
  | none => .nilIface
  | some c => .iface 0 (.int .i64 c)
theorem errW_none : errW none = .nilIface := rfl
theorem errW_some (c : Int) : errW (some c) = .iface 0 (.int .i64 c) := rfl
theorem info3 : (Tryd.prog.info? 3).map (fun i => (i.zero, i.size, i.bytes)) = some (some (.int .i64 0), 1, 8) := by kernel_rfl
theorem info35 : (Tryd.prog.info? 35).map (fun i => (i.zero, i.size, i.bytes)) = some (some (.slice none 0 0), 1, 24) := by kernel_rfl
theorem info39 : (Tryd.prog.info? 39).map (fun i => (i.zero, i.size, i.bytes)) = some (some (.agg #[(.int .i64 0), (.slice none 0 0), (.int .i64 0), (.int .i64 0)]), 4, 48) := by kernel_rfl
theorem info51 : (Tryd.prog.info? 51).map (fun i => (i.zero, i.size, i.bytes)) = some (some (.int .u16 0), 1, 2) := by kernel_rfl
def rd_L1 (xs : List (List Int)) (i : Int) : (List Int) := xs.getD i.toNat ([] : List Int)
theorem at_L1 {w : World} {A : Option Addr} {n : Nat} {xs : List (List Int)} (h : Kd.C (Kd.slice 3 (Kd.int .i64)) w A n xs) (i : Int) (h0 : 0 ≤ i) (h1 : i < n) : ∃ ad A0 c0, A = some ad ∧ w.cell? (ad.add i.toNat) = some (.slice A0 (rd_L1 xs i).length c0) ∧ (rd_L1 xs i).length ≤ c0 ∧ (Kd.int .i64).C w A0 (rd_L1 xs i).length (rd_L1 xs i) := by
  obtain ⟨ad, c, e, _, hK, hc0⟩ := Kd.C_get h ([] : List Int) i h0 h1
  have hc : ∀ j u, c[j]? = some u → w.cell? (ad.add (i.toNat * 1 + j)) = some u := hc0
  obtain ⟨A0, c0, rfl, l0, g0⟩ := hK
  exact ⟨ad, A0, c0, e, by have hq := hc 0 _ rfl; rwa [Nat.mul_one, Nat.add_zero] at hq, l0, g0⟩
structure S37 where
  f0 : Int
  f1 : (List Int)
  f2 : Int
  f3 : Int
def z37 : S37 := ⟨(0 : Int), ([] : List Int), (0 : Int), (0 : Int)⟩
def k37 : Kd S37 := Kd.iso (Kd.pair (Kd.int .i64) (Kd.pair (Kd.slice 3 (Kd.int .i64)) (Kd.pair (Kd.int .i64) (Kd.int .i64)))) (fun x : S37 => (x.f0, x.f1, x.f2, x.f3))
theorem k37_open {w : World} {x : S37} {cs : List Value} (h : k37.K w x cs) : ∃ A1 c1, cs = [.int .i64 x.f0, .slice A1 x.f1.length c1, .int .i64 x.f2, .int .i64 x.f3] ∧ x.f1.length ≤ c1 ∧ (Kd.int .i64).C w A1 x.f1.length x.f1 := by
  obtain ⟨_, _, rfl, rfl, ⟨_, _, rfl, ⟨A1, c1, rfl, l1, g1⟩, ⟨_, _, rfl, rfl, rfl⟩⟩⟩ := h
  exact ⟨A1, c1, rfl, l1, g1⟩
def rd_T37 (xs : List S37) (i : Int) : S37 := xs.getD i.toNat z37
theorem at_T37 {w : World} {A : Option Addr} {n : Nat} {xs : List S37} (h : Kd.C k37 w A n xs) (i : Int) (h0 : 0 ≤ i) (h1 : i < n) : ∃ ad A1 c1, A = some ad ∧ w.cell? (ad.add (i.toNat * 4)) = some (.int .i64 (rd_T37 xs i).f0) ∧ w.cell? ⟨(ad.add (i.toNat * 4)).block, (ad.add (i.toNat * 4)).off + 1, none⟩ = some (.slice A1 (rd_T37 xs i).f1.length c1) ∧ w.cell? ⟨(ad.add (i.toNat * 4)).block, (ad.add (i.toNat * 4)).off + 2, none⟩ = some (.int .i64 (rd_T37 xs i).f2) ∧ w.cell? ⟨(ad.add (i.toNat * 4)).block, (ad.add (i.toNat * 4)).off + 3, none⟩ = some (.int .i64 (rd_T37 xs i).f3) ∧ (rd_T37 xs i).f1.length ≤ c1 ∧ (Kd.int .i64).C w A1 (rd_T37 xs i).f1.length (rd_T37 xs i).f1 := by
  obtain ⟨ad, c, e, _, hK, hc0⟩ := Kd.C_get h z37 i h0 h1
  have hc : ∀ j u, c[j]? = some u → w.cell? (ad.add (i.toNat * 4 + j)) = some u := hc0
  obtain ⟨A1, c1, rfl, l1, g1⟩ := k37_open hK
  exact ⟨ad, A1, c1, e, hc 0 _ rfl, by rw [← add_field _ _ 1 (by omega)]; exact hc 1 _ rfl, by rw [← add_field _ _ 2 (by omega)]; exact hc 2 _ rfl, by rw [← add_field _ _ 3 (by omega)]; exact hc 3 _ rfl, l1, g1⟩
structure S39 where
  f0 : Int
  f1 : (List Int)
  f2 : Int
  f3 : Int
def z39 : S39 := ⟨(0 : Int), ([] : List Int), (0 : Int), (0 : Int)⟩
def k39 : Kd S39 := Kd.iso (Kd.pair (Kd.int .i64) (Kd.pair (Kd.sliceQ 3 (Kd.int .i64)) (Kd.pair (Kd.int .i64) (Kd.int .i64)))) (fun x : S39 => (x.f0, x.f1, x.f2, x.f3))
theorem k39_open {w : World} {x : S39} {cs : List Value} (h : k39.K w x cs) : ∃ A1 c1, cs = [.int .i64 x.f0, .slice A1 x.f1.length c1, .int .i64 x.f2, .int .i64 x.f3] ∧ x.f1.length ≤ c1 ∧ (Kd.int .i64).C w A1 x.f1.length x.f1 := by
  obtain ⟨_, _, rfl, rfl, ⟨_, _, rfl, ⟨A1, c1, rfl, l1, g1⟩, ⟨_, _, rfl, rfl, rfl⟩⟩⟩ := h
  exact ⟨A1, c1, rfl, l1, g1⟩
theorem k39_openM {w : World} {base : Nat} {ok : Nat → Prop} {x : S39} {cs : List Value} (h : k39.M w base ok x cs) : ∃ v1, cs = [.int .i64 x.f0, v1, .int .i64 x.f2, .int .i64 x.f3] ∧ (Kd.int .i64).Q 3 w base ok v1 x.f1 := by
  obtain ⟨_, _, rfl, rfl, ⟨_, _, rfl, ⟨v1, rfl, g1⟩, ⟨_, _, rfl, rfl, rfl⟩⟩⟩ := h
  exact ⟨v1, rfl, g1⟩
theorem k39_mkM (w : World) (base : Nat) (ok : Nat → Prop) (x : S39) {v1 : Value} (g1 : (Kd.int .i64).R 3 w base ok v1 x.f1) : k39.M w base ok x [.int .i64 x.f0, v1, .int .i64 x.f2, .int .i64 x.f3] := ⟨[.int .i64 x.f0], [v1, .int .i64 x.f2, .int .i64 x.f3], rfl, rfl, ⟨[v1], [.int .i64 x.f2, .int .i64 x.f3], rfl, ⟨v1, rfl, Kd.Q_of_R g1⟩, ⟨[.int .i64 x.f2], [.int .i64 x.f3], rfl, rfl, rfl⟩⟩⟩
def rd_T39 (xs : List S39) (i : Int) : S39 := xs.getD i.toNat z39
theorem at_T39 {w : World} {A : Option Addr} {n : Nat} {xs : List S39} (h : Kd.C k39 w A n xs) (i : Int) (h0 : 0 ≤ i) (h1 : i < n) : ∃ ad A1 c1, A = some ad ∧ w.cell? (ad.add (i.toNat * 4)) = some (.int .i64 (rd_T39 xs i).f0) ∧ w.cell? ⟨(ad.add (i.toNat * 4)).block, (ad.add (i.toNat * 4)).off + 1, none⟩ = some (.slice A1 (rd_T39 xs i).f1.length c1) ∧ w.cell? ⟨(ad.add (i.toNat * 4)).block, (ad.add (i.toNat * 4)).off + 2, none⟩ = some (.int .i64 (rd_T39 xs i).f2) ∧ w.cell? ⟨(ad.add (i.toNat * 4)).block, (ad.add (i.toNat * 4)).off + 3, none⟩ = some (.int .i64 (rd_T39 xs i).f3) ∧ (rd_T39 xs i).f1.length ≤ c1 ∧ (Kd.int .i64).C w A1 (rd_T39 xs i).f1.length (rd_T39 xs i).f1 := by
  obtain ⟨ad, c, e, _, hK, hc0⟩ := Kd.C_get h z39 i h0 h1
  have hc : ∀ j u, c[j]? = some u → w.cell? (ad.add (i.toNat * 4 + j)) = some u := hc0
  obtain ⟨A1, c1, rfl, l1, g1⟩ := k39_open hK
  exact ⟨ad, A1, c1, e, hc 0 _ rfl, by rw [← add_field _ _ 1 (by omega)]; exact hc 1 _ rfl, by rw [← add_field _ _ 2 (by omega)]; exact hc 2 _ rfl, by rw [← add_field _ _ 3 (by omega)]; exact hc 3 _ rfl, l1, g1⟩
end Go.Proofs.YtpdgnncnejmhfaaDoor.P
end
section
namespace Go.Proofs.YtpdgnncnejmhfaaDoor.P
open Go.RowKit Go.Proofs.YtpdgnncnejmhfaaDoorW.PrintWords Go.Proofs.YtpdgnncnejmhfaaDoorW.PrintLast Go.Proofs.YtpdgnncnejmhfaaDoorW.PrintMore
attribute [local go_sem] max2_int min2_int max_two min_two max_three min_three max_four min_four   -- for this text's walks alone
set_option linter.unusedVariables false
set_option linter.unusedSimpArgs false
def impl_set_with.f (a0 : Int) (a1 : Int) : Option (Int) := if 0 ≤ a1 then (some (Go.bits .or .u16 a0 (shl .u16 1 a1))) else (none)
set_option maxHeartbeats 8000000 in
set_option maxRecDepth 100000 in
theorem impl_set_with.calls (a0 : Int) (a1 : Int) (r : Int) (w : World) (h : impl_set_with.f a0 a1 = some r) :
    Calls Tryd.prog 38 #[.int .u16 a0, .int .i64 a1] w fun e w' => e = .returned (.int .u16 r) ∧ Drawn0 w w' := by
  have H : (if 0 ≤ a1 then (some (Go.bits .or .u16 a0 (shl .u16 1 a1))) else (none)) = some r := h
  clear h
  by_cases c3 : 0 ≤ a1
  · rw [if_pos c3] at H
    have c3b0 := eq_true c3
    have c3b1 : decide (0 ≤ a1) = true := decide_eq_true c3
    clear c3
    obtain ⟨ji4, hji4⟩ : ∃ j_ : Int, (shl .u16 1 a1) = j_ := ⟨_, rfl⟩
    replace H : (some (Go.bits .or .u16 a0 (ji4))) = some r := by first | (rw [hji4] at H; exact H) | (simp only [hji4] at H ⊢; exact H)
    have hji4_ : (IntKind.u16.wrap (1 * 2 ^ min a1.toNat 16)) = ji4 := hji4
    have hji4z : a1 ≤ 16 → (IntKind.u16.wrap (1 * 2 ^ a1.toNat)) = ji4 := shl_small hji4
    have hji4u : (IntKind.u16.wrap (2 ^ min a1.toNat 16)) = ji4 := by have h_ := hji4_; rw [Int.one_mul] at h_; exact h_
    have hji4v : a1 ≤ 16 → (IntKind.u16.wrap (2 ^ a1.toNat)) = ji4 := fun hle_ => by have h_ := hji4z hle_; rw [Int.one_mul] at h_; exact h_
    obtain rfl := Option.some.inj H
    go_enter Tryd.func38, Tryd.ntmps38
    go_wp2
    go_ret
    exact ⟨by first | rfl | (simp; done) | (simp only [← hji4] <;> (first | rfl | simp)) | (simp [*]; done), by repeat (first | exact Drawn0.refl _ | apply Drawn0.step)⟩
  · rw [if_neg c3] at H
    exact absurd H (by simp)
def impl_within.f (a0 : Int) (a1 : Int) (a2 : Int) : Option (Bool) := if a0 ≥ a1 then (some (decide (a0 ≤ a2))) else (some false)
set_option maxHeartbeats 8000000 in
set_option maxRecDepth 100000 in
theorem impl_within.calls (a0 : Int) (a1 : Int) (a2 : Int) (r : Bool) (w : World) (h : impl_within.f a0 a1 a2 = some r) :
    Calls Tryd.prog 44 #[.int .i64 a0, .int .i64 a1, .int .i64 a2] w fun e w' => e = .returned (.bool r) ∧ Drawn0 w w' := by
  have H : (if a0 ≥ a1 then (some (decide (a0 ≤ a2))) else (some false)) = some r := h
  clear h
  by_cases c4 : a0 ≥ a1
  · rw [if_pos c4] at H
    have c4b0 : decide (a1 ≤ a0) = true := decide_eq_true c4
    clear c4
    obtain rfl := Option.some.inj H
    go_enter Tryd.func44, Tryd.ntmps44
    go_wp2
    go_ret
    exact ⟨by first | rfl | (simp; done) | (simp [*]; done), by repeat (first | exact Drawn0.refl _ | apply Drawn0.step)⟩
  · rw [if_neg c4] at H
    have c4b0 : decide (a1 ≤ a0) = false := decide_eq_false c4
    clear c4
    obtain rfl := Option.some.inj H
    go_enter Tryd.func44, Tryd.ntmps44
    go_wp2
    go_ret
    exact ⟨by first | rfl | (simp; done) | (simp [*]; done), by repeat (first | exact Drawn0.refl _ | apply Drawn0.step)⟩
def impl_setOf.l0 : Nat → Int → Int → Int → List Int → Int → Int → Option (Int × Bool)
  | 0, _, _, _, _, _, _ => none
  | k + 1, x1, x6, x7, x10, x11, x12 => if x12 < x11 then (if 0 ≤ x12 then (if x12 < (x10.length : Int) then ((impl_within.f (rd x10 x12) (wrap64 (x7 + 1)) (wrap64 (x1 - 1))).bind fun t197 => (if t197 = true then ((impl_set_with.f x6 (rd x10 x12)).bind fun t198 => (impl_setOf.l0 k x1 t198 (rd x10 x12) x10 x11 (wrap64 (x12 + 1)))) else (some (0, false)))) else (none)) else (none)) else (some (x6, true))
def impl_setOf.f (k : Nat) (l0 : List Int) (a1 : Int) : Option (Int × Bool) := impl_setOf.l0 k a1 0 (-1) l0 (l0.length : Int) 0
theorem impl_setOf.mono_l : ∀ k, (∀ y0 y1 y2 y3 y4 y5, LeO (impl_setOf.l0 k y0 y1 y2 y3 y4 y5) (impl_setOf.l0 (k + 1) y0 y1 y2 y3 y4 y5))
  | 0 => fun _ _ _ _ _ _ r h => by simp [impl_setOf.l0] at h
  | k + 1 => by
    have ih0 := impl_setOf.mono_l k
    · intro y0 y1 y2 y3 y4 y5
      unfold impl_setOf.l0
      repeat' first
      | (with_reducible exact ih0 _ _ _ _ _ _)
      | (with_reducible exact LeO.refl _)
      | (with_reducible exact LeO.none _)
      | (with_reducible refine LeO.ite ?_ ?_)
      | (with_reducible refine LeO.bind ?_ (fun _ => ?_))
      | exact ih0 _ _ _ _ _ _
      | exact LeO.none _
      | refine LeO.ite ?_ ?_
      | refine LeO.bind ?_ (fun _ => ?_)
theorem impl_setOf.mono : ∀ a0 a1 k, LeO (impl_setOf.f k a0 a1) (impl_setOf.f (k + 1) a0 a1) := by
  intro a0 a1 k
  have ih0 := impl_setOf.mono_l k
  unfold impl_setOf.f
  repeat' first
      | (with_reducible exact ih0 _ _ _ _ _ _)
      | (with_reducible exact LeO.refl _)
      | (with_reducible exact LeO.none _)
      | (with_reducible refine LeO.ite ?_ ?_)
      | (with_reducible refine LeO.bind ?_ (fun _ => ?_))
      | exact ih0 _ _ _ _ _ _
      | exact LeO.none _
      | refine LeO.ite ?_ ?_
      | refine LeO.bind ?_ (fun _ => ?_)
set_option maxHeartbeats 8000000 in
set_option maxRecDepth 100000 in
theorem impl_setOf.calls (k : Nat) (A0 : Option Addr) (c0 : Nat) (l0 : List Int) (a1 : Int) (r1 : Int) (r2 : Bool) (w : World) (hr0 : Kd.C (Kd.int .i64) w A0 l0.length l0) (hc0 : l0.length ≤ c0) (h : impl_setOf.f k l0 a1 = some (r1, r2)) :
    Calls Tryd.prog 43 #[.slice A0 l0.length c0, .int .i64 a1] w fun e w' => e = .returned (.tuple #[.int .u16 r1, .bool r2]) ∧ Drawn0 w w' := by
  have HR0 := Aside0.mk hr0
  have HC0 := Aside0.mk hc0
  clear hr0 hc0
  have H : (impl_setOf.l0 k a1 0 (-1) l0 (l0.length : Int) 0) = some (r1, r2) := h
  clear h
  have H' := Aside0.mk H
  clear H
  go_enter Tryd.func43, Tryd.ntmps43
  go_wp2
  go_loopg [6, 7, 12] k (fun kq v6 v7 v12 w' => ∃ (x6_1 : Int) (x7_1 : Int) (x12_1 : Int), v6 = .int .u16 x6_1 ∧ v7 = .int .i64 x7_1 ∧ v12 = .int .i64 x12_1 ∧ Aside0 (impl_setOf.l0 kq a1 x6_1 x7_1 l0 (l0.length : Int) x12_1 = some (r1, r2)) ∧ Aside0 (kq ≤ k) ∧ Drawn0 w w')
  case atStart => exact ⟨(0), ((-1)), (0), (by first | rfl | (simp; done) | (simp [*]; done)), (by first | rfl | (simp; done) | (simp [*]; done)), (by first | rfl | (simp; done) | (simp [*]; done)), H', ⟨Nat.le_refl _⟩, by repeat (first | exact Drawn0.refl _ | apply Drawn0.step)⟩
  case round =>
    clear H'
    try clear p2
    obtain ⟨x6_1, x7_1, x12_1, rfl, rfl, rfl, HA, HK1, ⟨m1, rfl⟩⟩ := hrel
    cases gk with
    | zero => exact absurd HA.out (by simp [impl_setOf.l0])
    | succ k1 =>
      have H := HA.out
      clear HA
      simp only [impl_setOf.l0] at H
      by_cases c3 : x12_1 < (l0.length : Int)
      · rw [if_pos c3] at H
        have c3b0 : decide (x12_1 < (l0.length : Int)) = true := decide_eq_true c3
        clear c3
        by_cases c4 : 0 ≤ x12_1
        · rw [if_pos c4] at H
          have c4b0 : decide (0 ≤ x12_1) = true := decide_eq_true c4
          clear c4
          by_cases c5 : x12_1 < (l0.length : Int)
          · rw [if_pos c5] at H
            have c5b0 : decide (x12_1 < (l0.length : Int)) = true := decide_eq_true c5
            clear c5
            replace H := Option.bind_eq_some_iff.mp H
            obtain ⟨t197, A60, H⟩ := H
            replace H : (if t197 = true then ((impl_set_with.f x6_1 (rd l0 x12_1)).bind fun t198 => (impl_setOf.l0 k1 a1 t198 (rd l0 x12_1) l0 (l0.length : Int) (wrap64 (x12_1 + 1)))) else (some (0, false))) = some (r1, r2) := H
            have A6 := Aside0.mk A60
            clear A60
            by_cases c7 : t197 = true
            · subst c7
              have H1 : ((impl_set_with.f x6_1 (rd l0 x12_1)).bind fun t198 => (impl_setOf.l0 k1 a1 t198 (rd l0 x12_1) l0 (l0.length : Int) (wrap64 (x12_1 + 1)))) = some (r1, r2) := by rw [if_pos rfl] at H; exact H
              clear H
              have H := H1
              clear H1
              replace H := Option.bind_eq_some_iff.mp H
              obtain ⟨t198, A80, H⟩ := H
              replace H : (impl_setOf.l0 k1 a1 t198 (rd l0 x12_1) l0 (l0.length : Int) (wrap64 (x12_1 + 1))) = some (r1, r2) := H
              have A8 := Aside0.mk A80
              clear A80
              have H' := Aside0.mk H
              clear H
              have p196 : 0 ≤ (x12_1 : Int) := of_decide_eq_true (by first | (with_reducible assumption) | assumption)
              have q196 : x12_1 < (l0.length : Int) := of_decide_eq_true (by first | (with_reducible assumption) | assumption)
              obtain ⟨ad196, e196, hx196_0⟩ := Kd.at_int HR0.out x12_1 p196 q196
              cases e196
              replace p196 := eq_true p196
              replace q196 := eq_true q196
              go_wp2_with (first | ((with_reducible refine gate_callee (f := 44) rfl ?_); refine goesL_ (some 21) rfl rfl Tryd.func44 (by kernel_rfl) rfl #[.int .i64 (rd l0 x12_1), .int .i64 (wrap64 (x7_1 + 1)), .int .i64 (wrap64 (a1 - 1))] rfl (by (try simp only [List.map_toArray, List.map_cons, List.map_nil]); first | done | rfl | (simp only [List.length_drop, List.length_take]; rfl)) ?_; (with_reducible refine (impl_within.calls (rd l0 x12_1) (wrap64 (x7_1 + 1)) (wrap64 (a1 - 1)) true _ A6.out).mono ?_); rintro e w' ⟨rfl, ⟨nd, rfl⟩⟩; refine ⟨_, rfl, ?_⟩) | ((with_reducible refine gate_callee (f := 38) rfl ?_); refine goesL_ (some 25) rfl rfl Tryd.func38 (by kernel_rfl) rfl #[.int .u16 x6_1, .int .i64 (rd l0 x12_1)] rfl (by (try simp only [List.map_toArray, List.map_cons, List.map_nil]); first | done | rfl | (simp only [List.length_drop, List.length_take]; rfl)) ?_; (with_reducible refine (impl_set_with.calls x6_1 (rd l0 x12_1) t198 _ A8.out).mono ?_); rintro e w' ⟨rfl, ⟨nd, rfl⟩⟩; refine ⟨_, rfl, ?_⟩))
              go_roundg k1
              case measure => have := HK1.out; omega
              case rel => exact ⟨(t198), (rd l0 x12_1), (wrap64 (x12_1 + 1)), (by first | rfl | (simp; done) | (simp [*]; done)), (by first | rfl | (simp; done) | (simp [*]; done)), (by first | rfl | (simp; done) | (simp [*]; done)), H', ⟨by have := HK1.out; omega⟩, by repeat (first | exact Drawn0.refl _ | apply Drawn0.step)⟩
            · replace c7 := Bool.eq_false_iff.mpr c7
              subst c7
              have H1 : (some (0, false)) = some (r1, r2) := by rw [if_neg (show ¬ (false = true) by decide)] at H; exact H
              clear H
              have H := H1
              clear H1
              simp only [Option.some.injEq, Prod.mk.injEq] at H
              obtain ⟨rfl, rfl⟩ := H
              have p196 : 0 ≤ (x12_1 : Int) := of_decide_eq_true (by first | (with_reducible assumption) | assumption)
              have q196 : x12_1 < (l0.length : Int) := of_decide_eq_true (by first | (with_reducible assumption) | assumption)
              obtain ⟨ad196, e196, hx196_0⟩ := Kd.at_int HR0.out x12_1 p196 q196
              cases e196
              replace p196 := eq_true p196
              replace q196 := eq_true q196
              go_wp2_with (first | ((with_reducible refine gate_callee (f := 44) rfl ?_); refine goesL_ (some 21) rfl rfl Tryd.func44 (by kernel_rfl) rfl #[.int .i64 (rd l0 x12_1), .int .i64 (wrap64 (x7_1 + 1)), .int .i64 (wrap64 (a1 - 1))] rfl (by (try simp only [List.map_toArray, List.map_cons, List.map_nil]); first | done | rfl | (simp only [List.length_drop, List.length_take]; rfl)) ?_; (with_reducible refine (impl_within.calls (rd l0 x12_1) (wrap64 (x7_1 + 1)) (wrap64 (a1 - 1)) false _ A6.out).mono ?_); rintro e w' ⟨rfl, ⟨nd, rfl⟩⟩; refine ⟨_, rfl, ?_⟩))
              go_ret2
              exact ⟨by first | rfl | (simp; done) | (simp [*]; done), by repeat (first | exact Drawn0.refl _ | apply Drawn0.step)⟩
          · rw [if_neg c5] at H
            exact absurd H (by simp)
        · rw [if_neg c4] at H
          exact absurd H (by simp)
      · rw [if_neg c3] at H
        have c3b0 : decide (x12_1 < (l0.length : Int)) = false := decide_eq_false c3
        clear c3
        simp only [Option.some.injEq, Prod.mk.injEq] at H
        obtain ⟨rfl, rfl⟩ := H
        go_wp2
        go_ret2
        exact ⟨by first | rfl | (simp; done) | (simp [*]; done), by repeat (first | exact Drawn0.refl _ | apply Drawn0.step)⟩
def impl_needsOf.l0 : Nat → List (S39) → List Int → List (S39) → Int → Int → Option (List Int × Bool)
  | 0, _, _, _, _, _ => none
  | k + 1, x0, x4, x15, x16, x17 => if x17 < x16 then (if 0 ≤ x17 then (if x17 < (x15.length : Int) then ((impl_setOf.f k ((rd_T39 x15 x17).f1) (x0.length : Int)).bind fun bt204 => (if bt204.2 = true then ((impl_within.f ((rd_T39 x15 x17).f0) 1 20).bind fun t206 => (if t206 = true then ((impl_within.f ((rd_T39 x15 x17).f2) 0 2).bind fun t207 => (if t207 = true then ((impl_within.f ((rd_T39 x15 x17).f3) 1 4).bind fun t208 => (if t208 = true then (if x4.length < 70368744177664 then (impl_needsOf.l0 k x0 (x4 ++ [bt204.1]) x15 x16 (wrap64 (x17 + 1))) else (none)) else (some (([] : List Int), false)))) else (some (([] : List Int), false)))) else (some (([] : List Int), false)))) else (some (([] : List Int), false)))) else (none)) else (none)) else (some (x4, true))
def impl_needsOf.f (k : Nat) (l0 : List (S39)) : Option (List Int × Bool) := if (l0.length : Int) > 8 then (some (([] : List Int), false)) else (if 0 ≤ (l0.length : Int) then (if ((l0.length : Int) : Int).toNat ≤ 140737488355328 then (impl_needsOf.l0 k l0 (([] : List Int)) l0 (l0.length : Int) 0) else (none)) else (none))
theorem impl_needsOf.mono_l : ∀ k, (∀ y0 y1 y2 y3 y4, LeO (impl_needsOf.l0 k y0 y1 y2 y3 y4) (impl_needsOf.l0 (k + 1) y0 y1 y2 y3 y4))
  | 0 => fun _ _ _ _ _ r h => by simp [impl_needsOf.l0] at h
  | k + 1 => by
    have ih0 := impl_needsOf.mono_l k
    · intro y0 y1 y2 y3 y4
      unfold impl_needsOf.l0
      repeat' first
      | (with_reducible exact ih0 _ _ _ _ _)
      | (with_reducible exact impl_setOf.mono _ _ _)
      | (with_reducible exact LeO.refl _)
      | (with_reducible exact LeO.none _)
      | (with_reducible refine LeO.ite ?_ ?_)
      | (with_reducible refine LeO.bind ?_ (fun _ => ?_))
      | exact ih0 _ _ _ _ _
      | exact impl_setOf.mono _ _ _
      | exact LeO.none _
      | refine LeO.ite ?_ ?_
      | refine LeO.bind ?_ (fun _ => ?_)
theorem impl_needsOf.mono : ∀ a0 k, LeO (impl_needsOf.f k a0) (impl_needsOf.f (k + 1) a0) := by
  intro a0 k
  have ih0 := impl_needsOf.mono_l k
  unfold impl_needsOf.f
  repeat' first
      | (with_reducible exact ih0 _ _ _ _ _)
      | (with_reducible exact impl_setOf.mono _ _ _)
      | (with_reducible exact LeO.refl _)
      | (with_reducible exact LeO.none _)
      | (with_reducible refine LeO.ite ?_ ?_)
      | (with_reducible refine LeO.bind ?_ (fun _ => ?_))
      | exact ih0 _ _ _ _ _
      | exact impl_setOf.mono _ _ _
      | exact LeO.none _
      | refine LeO.ite ?_ ?_
      | refine LeO.bind ?_ (fun _ => ?_)
set_option maxHeartbeats 8000000 in
set_option maxRecDepth 100000 in
theorem impl_needsOf.calls (k : Nat) (A0 : Option Addr) (c0 : Nat) (l0 : List (S39)) (r1 : List Int) (r2 : Bool) (w : World) (hr0 : Kd.C k39 w A0 l0.length l0) (hc0 : l0.length ≤ c0) (h : impl_needsOf.f k l0 = some (r1, r2)) :
    Calls Tryd.prog 35 #[.slice A0 l0.length c0] w fun e w' => ∃ v0_ : Value, e = .returned (.tuple #[v0_, .bool r2]) ∧ Kd.R (Kd.int .u16) 51 w' w.heap.size (fun _ => True) v0_ r1 ∧ Below w.heap.size w w' := by
  have hu39 := Tryd.underlying39
  have HR0 := Aside0.mk hr0
  have HC0 := Aside0.mk hc0
  clear hr0 hc0
  have HB := Aside0.mk (Below.refl w.heap.size w)
  have H : (if (l0.length : Int) > 8 then (some (([] : List Int), false)) else (if 0 ≤ (l0.length : Int) then (if ((l0.length : Int) : Int).toNat ≤ 140737488355328 then (impl_needsOf.l0 k l0 (([] : List Int)) l0 (l0.length : Int) 0) else (none)) else (none))) = some (r1, r2) := h
  clear h
  by_cases c2 : (l0.length : Int) > 8
  · rw [if_pos c2] at H
    have c2b0 : decide (8 < (l0.length : Int)) = true := decide_eq_true c2
    have c2b1 : decide (8 < l0.length) = true := decide_eq_true (by omega)
    clear c2
    simp only [Option.some.injEq, Prod.mk.injEq] at H
    obtain ⟨rfl, rfl⟩ := H
    go_enter Tryd.func35, Tryd.ntmps35
    go_wp2
    go_ret2
    exact ⟨_, by first | rfl | (simp [errW_none, errW_some] <;> rfl) | (simp [*, errW_none, errW_some] <;> rfl), by first | exact Kd.R_nil _ _ _ _ _ | exact Kd.N_nil _ _ _ _ _ | exact Kd.V_nil _ _ _ _ _ | exact Kd.Q_nil _ _ _ _ _ | exact Kd.S_nil _ _ _ _ _, by repeat (first | (with_reducible first | exact HB.out | apply below_alloc | apply pw_below_drewN | apply below_drew1) | exact HB.out)⟩
  · rw [if_neg c2] at H
    have c2b0 : decide (8 < (l0.length : Int)) = false := decide_eq_false c2
    have c2b1 : decide (8 < l0.length) = false := decide_eq_false (by omega)
    clear c2
    by_cases c3 : 0 ≤ (l0.length : Int)
    · rw [if_pos c3] at H
      have c3b0 := eq_true c3
      have c3b1 : decide (0 ≤ (l0.length : Int)) = true := decide_eq_true c3
      clear c3
      by_cases c4 : ((l0.length : Int) : Int).toNat ≤ 140737488355328
      · rw [if_pos c4] at H
        have c4b0 := eq_true c4
        have c4b1 : decide (((l0.length : Int) : Int).toNat ≤ 140737488355328) = true := decide_eq_true c4
        clear c4
        obtain ⟨y199, hy199⟩ : ∃ y_ : List Int, y_ = (([] : List Int)) := ⟨_, rfl⟩
        replace H : (impl_needsOf.l0 k l0 y199 l0 (l0.length : Int) 0) = some (r1, r2) := by first | (rw [hy199]; with_reducible exact H) | (have H2_ := (Option.bind_some _ _).symm.trans H; rw [hy199]; with_reducible exact H2_) | (have H2_ := (Option.bind_some _ _).symm.trans H; with_reducible exact H2_) | with_reducible exact H | (rw [hy199]; exact H) | exact H
        have Ny199 := Aside0.mk hy199
        clear hy199
        have H' := Aside0.mk H
        clear H
        go_enter Tryd.func35, Tryd.ntmps35
        go_wp2_with (first | ((with_reducible refine gate_dst (N := 14) rfl ?_); refine Kd.R_make0 (Kd.int .u16) _ 51 rfl (N := 14) rfl 45 _ _ rfl (l0.length : Int) rfl rfl Tryd.underlying45 (.int .u16 0) 2 info51 rfl (by decide) (by omega) (ok := fun _ => True) trivial (of_decide_eq_true (by first | (with_reducible assumption) | assumption)) (Nat.le_trans (Nat.mul_le_mul_right _ (of_decide_eq_true (by first | (with_reducible assumption) | assumption) : (l0.length : Int).toNat ≤ 140737488355328)) (by omega)) (Below.refl _ _) (Nat.le_refl _) ?_; intro v200 w5 ho6 hb hg_ hnew_; clear hg_ hnew_; (first | rw [← Ny199.out] at ho6 | (simp only [Int.reduceToNat] at ho6; rw [← Ny199.out] at ho6)); have n0_ := Aside0.mk (Kd.R_lower ho6 (below_size (by repeat (first | (with_reducible first | exact HB.out | apply below_alloc | apply pw_below_drewN | apply below_drew1) | exact HB.out)))); have n1_ := Aside0.mk (below_step (by repeat (first | (with_reducible first | exact HB.out | apply below_alloc | apply pw_below_drewN | apply below_drew1) | exact HB.out)) hb); clear HB; have HO201 := n0_; have HB := n1_; clear n0_ n1_; clear hb ho6))
        go_loopg [4, 17] k (fun kq v4 v17 w' => ∃ (x4_1 : List Int) (x17_1 : Int), v17 = .int .i64 x17_1 ∧ Aside0 (impl_needsOf.l0 kq l0 x4_1 l0 (l0.length : Int) x17_1 = some (r1, r2)) ∧ Aside0 (kq ≤ k) ∧ Aside0 (Kd.R (Kd.int .u16) 51 w' w.heap.size (fun _ => True) v4 x4_1) ∧ Aside0 (Below w.heap.size w w'))
        case atStart => exact ⟨(y199), (0), (by first | rfl | (simp; done) | (simp [*]; done)), H', ⟨Nat.le_refl _⟩, ⟨by (with_reducible repeat (first | apply Kd.R_alloc | apply Kd.R_drewN | apply Kd.R_drew)); exact HO201.out⟩, ⟨by repeat (first | (with_reducible first | exact HB.out | apply below_alloc | apply pw_below_drewN | apply below_drew1) | exact HB.out)⟩⟩
        case round =>
          clear H'
          try clear c2
          try clear c2b0
          try clear c2b1
          try clear p2
          try clear c3
          try clear c3b0
          try clear c3b1
          try clear c4
          try clear c4b0
          try clear c4b1
          obtain ⟨x4_1, x17_1, rfl, HA, HK1, HO_4, HB⟩ := hrel
          cases gk with
          | zero => exact absurd HA.out (by simp [impl_needsOf.l0])
          | succ k1 =>
            have H := HA.out
            clear HA
            simp only [impl_needsOf.l0] at H
            by_cases c7 : x17_1 < (l0.length : Int)
            · rw [if_pos c7] at H
              have c7b0 : decide (x17_1 < (l0.length : Int)) = true := decide_eq_true c7
              clear c7
              by_cases c8 : 0 ≤ x17_1
              · rw [if_pos c8] at H
                have c8b0 : decide (0 ≤ x17_1) = true := decide_eq_true c8
                clear c8
                by_cases c9 : x17_1 < (l0.length : Int)
                · rw [if_pos c9] at H
                  have c9b0 : decide (x17_1 < (l0.length : Int)) = true := decide_eq_true c9
                  clear c9
                  replace H := Option.bind_eq_some_iff.mp H
                  obtain ⟨⟨t204, t205⟩, A100, H⟩ := H
                  replace H : (if t205 = true then ((impl_within.f ((rd_T39 l0 x17_1).f0) 1 20).bind fun t206 => (if t206 = true then ((impl_within.f ((rd_T39 l0 x17_1).f2) 0 2).bind fun t207 => (if t207 = true then ((impl_within.f ((rd_T39 l0 x17_1).f3) 1 4).bind fun t208 => (if t208 = true then (if x4_1.length < 70368744177664 then (impl_needsOf.l0 k1 l0 (x4_1 ++ [t204]) l0 (l0.length : Int) (wrap64 (x17_1 + 1))) else (none)) else (some (([] : List Int), false)))) else (some (([] : List Int), false)))) else (some (([] : List Int), false)))) else (some (([] : List Int), false))) = some (r1, r2) := H
                  have A10 := Aside0.mk A100
                  clear A100
                  by_cases c11 : t205 = true
                  · subst c11
                    have H1 : ((impl_within.f ((rd_T39 l0 x17_1).f0) 1 20).bind fun t206 => (if t206 = true then ((impl_within.f ((rd_T39 l0 x17_1).f2) 0 2).bind fun t207 => (if t207 = true then ((impl_within.f ((rd_T39 l0 x17_1).f3) 1 4).bind fun t208 => (if t208 = true then (if x4_1.length < 70368744177664 then (impl_needsOf.l0 k1 l0 (x4_1 ++ [t204]) l0 (l0.length : Int) (wrap64 (x17_1 + 1))) else (none)) else (some (([] : List Int), false)))) else (some (([] : List Int), false)))) else (some (([] : List Int), false)))) = some (r1, r2) := by rw [if_pos rfl] at H; exact H
                    clear H
                    have H := H1
                    clear H1
                    replace H := Option.bind_eq_some_iff.mp H
                    obtain ⟨t206, A120, H⟩ := H
                    replace H : (if t206 = true then ((impl_within.f ((rd_T39 l0 x17_1).f2) 0 2).bind fun t207 => (if t207 = true then ((impl_within.f ((rd_T39 l0 x17_1).f3) 1 4).bind fun t208 => (if t208 = true then (if x4_1.length < 70368744177664 then (impl_needsOf.l0 k1 l0 (x4_1 ++ [t204]) l0 (l0.length : Int) (wrap64 (x17_1 + 1))) else (none)) else (some (([] : List Int), false)))) else (some (([] : List Int), false)))) else (some (([] : List Int), false))) = some (r1, r2) := H
                    have A12 := Aside0.mk A120
                    clear A120
                    by_cases c13 : t206 = true
                    · subst c13
                      have H1 : ((impl_within.f ((rd_T39 l0 x17_1).f2) 0 2).bind fun t207 => (if t207 = true then ((impl_within.f ((rd_T39 l0 x17_1).f3) 1 4).bind fun t208 => (if t208 = true then (if x4_1.length < 70368744177664 then (impl_needsOf.l0 k1 l0 (x4_1 ++ [t204]) l0 (l0.length : Int) (wrap64 (x17_1 + 1))) else (none)) else (some (([] : List Int), false)))) else (some (([] : List Int), false)))) = some (r1, r2) := by rw [if_pos rfl] at H; exact H
                      clear H
                      have H := H1
                      clear H1
                      replace H := Option.bind_eq_some_iff.mp H
                      obtain ⟨t207, A140, H⟩ := H
                      replace H : (if t207 = true then ((impl_within.f ((rd_T39 l0 x17_1).f3) 1 4).bind fun t208 => (if t208 = true then (if x4_1.length < 70368744177664 then (impl_needsOf.l0 k1 l0 (x4_1 ++ [t204]) l0 (l0.length : Int) (wrap64 (x17_1 + 1))) else (none)) else (some (([] : List Int), false)))) else (some (([] : List Int), false))) = some (r1, r2) := H
                      have A14 := Aside0.mk A140
                      clear A140
                      by_cases c15 : t207 = true
                      · subst c15
                        have H1 : ((impl_within.f ((rd_T39 l0 x17_1).f3) 1 4).bind fun t208 => (if t208 = true then (if x4_1.length < 70368744177664 then (impl_needsOf.l0 k1 l0 (x4_1 ++ [t204]) l0 (l0.length : Int) (wrap64 (x17_1 + 1))) else (none)) else (some (([] : List Int), false)))) = some (r1, r2) := by rw [if_pos rfl] at H; exact H
                        clear H
                        have H := H1
                        clear H1
                        replace H := Option.bind_eq_some_iff.mp H
                        obtain ⟨t208, A160, H⟩ := H
                        replace H : (if t208 = true then (if x4_1.length < 70368744177664 then (impl_needsOf.l0 k1 l0 (x4_1 ++ [t204]) l0 (l0.length : Int) (wrap64 (x17_1 + 1))) else (none)) else (some (([] : List Int), false))) = some (r1, r2) := H
                        have A16 := Aside0.mk A160
                        clear A160
                        by_cases c17 : t208 = true
                        · subst c17
                          have H1 : (if x4_1.length < 70368744177664 then (impl_needsOf.l0 k1 l0 (x4_1 ++ [t204]) l0 (l0.length : Int) (wrap64 (x17_1 + 1))) else (none)) = some (r1, r2) := by rw [if_pos rfl] at H; exact H
                          clear H
                          have H := H1
                          clear H1
                          by_cases c18 : x4_1.length < 70368744177664
                          · rw [if_pos c18] at H
                            have LMc18 := Aside0.mk c18
                            clear c18
                            obtain ⟨y209, hy209⟩ : ∃ y_ : List Int, y_ = (x4_1 ++ [t204]) := ⟨_, rfl⟩
                            replace H : (impl_needsOf.l0 k1 l0 y209 l0 (l0.length : Int) (wrap64 (x17_1 + 1))) = some (r1, r2) := by first | (rw [hy209]; with_reducible exact H) | (have H2_ := (Option.bind_some _ _).symm.trans H; rw [hy209]; with_reducible exact H2_) | (have H2_ := (Option.bind_some _ _).symm.trans H; with_reducible exact H2_) | with_reducible exact H | (rw [hy209]; exact H) | exact H
                            have Ny209 := Aside0.mk hy209
                            clear hy209
                            have H' := Aside0.mk H
                            clear H
                            have p202 : 0 ≤ (x17_1 : Int) := of_decide_eq_true (by first | (with_reducible assumption) | assumption)
                            have q202 : x17_1 < (l0.length : Int) := of_decide_eq_true (by first | (with_reducible assumption) | assumption)
                            obtain ⟨ad202, A202_1, c202_1, e202, hx202_0, hx202_1, hx202_2, hx202_3, hl202_1, hi202_1⟩ := at_T39 HR0.out x17_1 p202 q202
                            cases e202
                            (try replace hx202_0 := (HB.out.cell (World.block_lt_of_cell? w _ hx202_0)).trans hx202_0)
                            (try replace hx202_1 := (HB.out.cell (World.block_lt_of_cell? w _ hx202_1)).trans hx202_1)
                            (try replace hx202_2 := (HB.out.cell (World.block_lt_of_cell? w _ hx202_2)).trans hx202_2)
                            (try replace hx202_3 := (HB.out.cell (World.block_lt_of_cell? w _ hx202_3)).trans hx202_3)
                            have HR202_1 := Aside0.mk hi202_1
                            have HC202_1 := Aside0.mk hl202_1
                            clear hi202_1 hl202_1
                            replace p202 := eq_true p202
                            replace q202 := eq_true q202
                            go_wp2_with (first | ((with_reducible refine gate_dst (N := 6) rfl ?_); refine box_event ?hg (N := 6) ?hd (cs := #[.int .i64 0, .slice none 0 0, .int .i64 0, .int .i64 0]) (t := 39) ?hr ?_; (case hd => rfl); (case hg => rfl); (case hr => first | (go_simp; done) | (go_simp; rfl)); intro gb203 hg w19 hbox hb; have n0_ := Aside0.mk (Kd.R_below (by (with_reducible repeat (first | apply Kd.R_alloc | apply Kd.R_drewN | apply Kd.R_drew)); exact HO_4.out) hb); have n1_ := Aside0.mk (below_step (by repeat (first | (with_reducible first | exact HB.out | apply below_alloc | apply pw_below_drewN | apply below_drew1) | exact HB.out)) hb); have n2_ := Aside0.mk (hbox); have n3_ := Aside0.mk ((by rw [hg]; exact (below_size (by repeat (first | (with_reducible first | exact HB.out | apply below_alloc | apply pw_below_drewN | apply below_drew1) | exact HB.out))) : w.heap.size ≤ gb203)); have n4_ := Aside0.mk ((by rw [hg]; exact (below_size (by repeat (first | (with_reducible first | exact HB.out | apply below_alloc | apply pw_below_drewN | apply below_drew1) | exact HB.out))) : w.heap.size ≤ gb203)); clear HO_4; clear HB; have HO_4 := n0_; have HB := n1_; have BK203 := n2_; have GW203 := n3_; have GE203 := n4_; clear n0_ n1_ n2_ n3_ n4_; clear hb hbox hg; have hcz20_0 : w19.cell? ⟨gb203, 0, none⟩ = some (.int .i64 0) := (blk_cell BK203.out 0).trans rfl; have hcz20_1 : w19.cell? ⟨gb203, 1, none⟩ = some (.slice none 0 0) := (blk_cell BK203.out 1).trans rfl; have hcz20_2 : w19.cell? ⟨gb203, 2, none⟩ = some (.int .i64 0) := (blk_cell BK203.out 2).trans rfl; have hcz20_3 : w19.cell? ⟨gb203, 3, none⟩ = some (.int .i64 0) := (blk_cell BK203.out 3).trans rfl; have hfz20_0 := blk_frozen BK203.out 0; have hfz20_1 := blk_frozen BK203.out 1; have hfz20_2 := blk_frozen BK203.out 2; have hfz20_3 := blk_frozen BK203.out 3) | ((with_reducible refine gate_callee (f := 43) rfl ?_); refine goesL_ (some 26) rfl rfl Tryd.func43 (by kernel_rfl) rfl #[.slice A202_1 ((rd_T39 l0 x17_1).f1).length c202_1, .int .i64 (l0.length : Int)] rfl (by (try simp only [List.map_toArray, List.map_cons, List.map_nil]); first | done | rfl | (simp only [List.length_drop, List.length_take]; rfl)) ?_; (with_reducible refine (impl_setOf.calls k1 _ _ ((rd_T39 l0 x17_1).f1) (l0.length : Int) t204 true _ ?side1 ?side2 A10.out).mono ?_); (case side1 => exact Kd.C_below HR202_1.out (by repeat (first | (with_reducible first | exact HB.out | apply below_alloc | apply pw_below_drewN | apply below_drew1 | refine below_set ?_ GE203.out) | exact HB.out))); (case side2 => exact HC202_1.out); rintro e w' ⟨rfl, ⟨nd, rfl⟩⟩; refine ⟨_, rfl, ?_⟩) | (go_at_call 44; (with_reducible refine (impl_within.calls ((rd_T39 l0 x17_1).f0) 1 20 true _ A12.out).mono ?_); rintro e w' ⟨rfl, ⟨nd, rfl⟩⟩) | (go_at_call 44; (with_reducible refine (impl_within.calls ((rd_T39 l0 x17_1).f2) 0 2 true _ A14.out).mono ?_); rintro e w' ⟨rfl, ⟨nd, rfl⟩⟩) | (go_at_call 44; (with_reducible refine (impl_within.calls ((rd_T39 l0 x17_1).f3) 1 4 true _ A16.out).mono ?_); rintro e w' ⟨rfl, ⟨nd, rfl⟩⟩) | ((with_reducible refine gate_builtin (b := .append) (xs := #[.tmp 49, .tmp 51]) rfl ?_); at_builtin; refine Kd.R_append (Kd.int .u16) (w0 := w) w.heap.size rfl (.tmp 49) (.tmp 51) 45 51 (.int .u16 0) 2 rfl Tryd.underlying45 info51 rfl (by decide) (by omega) u4 x4_1 t204 [.int .u16 t204] (fun _ => True) (fun _ => False) rfl (by first | (go_simp; done) | (go_simp; rfl)) ?aP (fun _ hk => hk.elim) ?aF ?aO ?aB ?aS ?aL ?_; (case aP => exact rfl); (case aB => exact (by repeat (first | (with_reducible first | exact HB.out | apply below_alloc | apply pw_below_drewN | apply below_drew1 | refine below_set ?_ GE203.out) | exact HB.out))); (case aF => exact (fun _ _ => trivial)); (case aO => exact (by (with_reducible repeat (first | apply Kd.R_alloc | apply Kd.R_drewN | apply Kd.R_drew)); exact Kd.R_mono (Kd.R_far (p := ⟨gb203, 3, none⟩) (Kd.R_far (p := ⟨gb203, 2, none⟩) (Kd.R_far (p := ⟨gb203, 1, none⟩) (Kd.R_far (p := ⟨gb203, 0, none⟩) (Kd.R_types HO_4.out BK203.out (by decide)) (fun _ hk => hk.2) (.int .i64 ((rd_T39 l0 x17_1).f0))) (fun _ hk => hk.2) (.slice A202_1 ((rd_T39 l0 x17_1).f1).length c202_1)) (fun _ hk => hk.2) (.int .i64 ((rd_T39 l0 x17_1).f2))) (fun _ hk => hk.2) (.int .i64 ((rd_T39 l0 x17_1).f3))) (fun _ hk => trivial))); (case aS => exact (below_size (by repeat (first | (with_reducible first | exact HB.out | apply below_alloc | apply pw_below_drewN | apply below_drew1 | refine below_set ?_ GE203.out) | exact HB.out)))); (case aL => have := LMc18.out; omega); intro v210 w21 ho hb hg hat; rw [← Ny209.out] at ho; have n0_ := Aside0.mk (blk_grown (g := gb203) (o := .cells #[.int .i64 ((rd_T39 l0 x17_1).f0), .slice A202_1 ((rd_T39 l0 x17_1).f1).length c202_1, .int .i64 ((rd_T39 l0 x17_1).f2), .int .i64 ((rd_T39 l0 x17_1).f3)] 39 (0, 0)) (by (with_reducible repeat (first | refine blk_drewN ?_ _ | refine blk_drew ?_ | refine blk_alloc ?_ _)); refine blk_put (cs := #[.int .i64 ((rd_T39 l0 x17_1).f0), .slice A202_1 ((rd_T39 l0 x17_1).f1).length c202_1, .int .i64 ((rd_T39 l0 x17_1).f2), .int .i64 0]) ?_ 3 _ rfl; (with_reducible repeat (first | refine blk_drewN ?_ _ | refine blk_drew ?_ | refine blk_alloc ?_ _)); refine blk_put (cs := #[.int .i64 ((rd_T39 l0 x17_1).f0), .slice A202_1 ((rd_T39 l0 x17_1).f1).length c202_1, .int .i64 0, .int .i64 0]) ?_ 2 _ rfl; (with_reducible repeat (first | refine blk_drewN ?_ _ | refine blk_drew ?_ | refine blk_alloc ?_ _)); refine blk_put (cs := #[.int .i64 ((rd_T39 l0 x17_1).f0), .slice none 0 0, .int .i64 0, .int .i64 0]) ?_ 1 _ rfl; (with_reducible repeat (first | refine blk_drewN ?_ _ | refine blk_drew ?_ | refine blk_alloc ?_ _)); refine blk_put (cs := #[.int .i64 0, .slice none 0 0, .int .i64 0, .int .i64 0]) ?_ 0 _ rfl; (with_reducible repeat (first | refine blk_drewN ?_ _ | refine blk_drew ?_ | refine blk_alloc ?_ _)); exact BK203.out) hg (Kd.R_ne HO_4.out BK203.out (by decide))); have n1_ := Aside0.mk (hb); have n2_ := Aside0.mk (ho); clear BK203; clear HB; clear HO_4; have BK203 := n0_; have HB := n1_; have HO211 := n2_; clear n0_ n1_ n2_; clear ho hb hg hat))
                            go_roundg k1
                            case measure => have := HK1.out; omega
                            case rel => exact ⟨(y209), (wrap64 (x17_1 + 1)), (by first | rfl | (simp; done) | (simp [*]; done)), H', ⟨by have := HK1.out; omega⟩, ⟨by (with_reducible repeat (first | apply Kd.R_alloc | apply Kd.R_drewN | apply Kd.R_drew)); exact HO211.out⟩, ⟨by repeat (first | (with_reducible first | exact HB.out | apply below_alloc | apply pw_below_drewN | apply below_drew1 | refine below_set ?_ GE203.out) | exact HB.out)⟩⟩
                          · rw [if_neg c18] at H
                            exact absurd H (by simp)
                        · replace c17 := Bool.eq_false_iff.mpr c17
                          subst c17
                          have H1 : (some (([] : List Int), false)) = some (r1, r2) := by rw [if_neg (show ¬ (false = true) by decide)] at H; exact H
                          clear H
                          have H := H1
                          clear H1
                          simp only [Option.some.injEq, Prod.mk.injEq] at H
                          obtain ⟨rfl, rfl⟩ := H
                          have p202 : 0 ≤ (x17_1 : Int) := of_decide_eq_true (by first | (with_reducible assumption) | assumption)
                          have q202 : x17_1 < (l0.length : Int) := of_decide_eq_true (by first | (with_reducible assumption) | assumption)
                          obtain ⟨ad202, A202_1, c202_1, e202, hx202_0, hx202_1, hx202_2, hx202_3, hl202_1, hi202_1⟩ := at_T39 HR0.out x17_1 p202 q202
                          cases e202
                          (try replace hx202_0 := (HB.out.cell (World.block_lt_of_cell? w _ hx202_0)).trans hx202_0)
                          (try replace hx202_1 := (HB.out.cell (World.block_lt_of_cell? w _ hx202_1)).trans hx202_1)
                          (try replace hx202_2 := (HB.out.cell (World.block_lt_of_cell? w _ hx202_2)).trans hx202_2)
                          (try replace hx202_3 := (HB.out.cell (World.block_lt_of_cell? w _ hx202_3)).trans hx202_3)
                          have HR202_1 := Aside0.mk hi202_1
                          have HC202_1 := Aside0.mk hl202_1
                          clear hi202_1 hl202_1
                          replace p202 := eq_true p202
                          replace q202 := eq_true q202
                          go_wp2_with (first | ((with_reducible refine gate_dst (N := 6) rfl ?_); refine box_event ?hg (N := 6) ?hd (cs := #[.int .i64 0, .slice none 0 0, .int .i64 0, .int .i64 0]) (t := 39) ?hr ?_; (case hd => rfl); (case hg => rfl); (case hr => first | (go_simp; done) | (go_simp; rfl)); intro gb203 hg w22 hbox hb; have n0_ := Aside0.mk (Kd.R_below (by (with_reducible repeat (first | apply Kd.R_alloc | apply Kd.R_drewN | apply Kd.R_drew)); exact HO_4.out) hb); have n1_ := Aside0.mk (below_step (by repeat (first | (with_reducible first | exact HB.out | apply below_alloc | apply pw_below_drewN | apply below_drew1) | exact HB.out)) hb); have n2_ := Aside0.mk (hbox); have n3_ := Aside0.mk ((by rw [hg]; exact (below_size (by repeat (first | (with_reducible first | exact HB.out | apply below_alloc | apply pw_below_drewN | apply below_drew1) | exact HB.out))) : w.heap.size ≤ gb203)); have n4_ := Aside0.mk ((by rw [hg]; exact (below_size (by repeat (first | (with_reducible first | exact HB.out | apply below_alloc | apply pw_below_drewN | apply below_drew1) | exact HB.out))) : w.heap.size ≤ gb203)); clear HO_4; clear HB; have HO_4 := n0_; have HB := n1_; have BK203 := n2_; have GW203 := n3_; have GE203 := n4_; clear n0_ n1_ n2_ n3_ n4_; clear hb hbox hg; have hcz23_0 : w22.cell? ⟨gb203, 0, none⟩ = some (.int .i64 0) := (blk_cell BK203.out 0).trans rfl; have hcz23_1 : w22.cell? ⟨gb203, 1, none⟩ = some (.slice none 0 0) := (blk_cell BK203.out 1).trans rfl; have hcz23_2 : w22.cell? ⟨gb203, 2, none⟩ = some (.int .i64 0) := (blk_cell BK203.out 2).trans rfl; have hcz23_3 : w22.cell? ⟨gb203, 3, none⟩ = some (.int .i64 0) := (blk_cell BK203.out 3).trans rfl; have hfz23_0 := blk_frozen BK203.out 0; have hfz23_1 := blk_frozen BK203.out 1; have hfz23_2 := blk_frozen BK203.out 2; have hfz23_3 := blk_frozen BK203.out 3) | ((with_reducible refine gate_callee (f := 43) rfl ?_); refine goesL_ (some 26) rfl rfl Tryd.func43 (by kernel_rfl) rfl #[.slice A202_1 ((rd_T39 l0 x17_1).f1).length c202_1, .int .i64 (l0.length : Int)] rfl (by (try simp only [List.map_toArray, List.map_cons, List.map_nil]); first | done | rfl | (simp only [List.length_drop, List.length_take]; rfl)) ?_; (with_reducible refine (impl_setOf.calls k1 _ _ ((rd_T39 l0 x17_1).f1) (l0.length : Int) t204 true _ ?side1 ?side2 A10.out).mono ?_); (case side1 => exact Kd.C_below HR202_1.out (by repeat (first | (with_reducible first | exact HB.out | apply below_alloc | apply pw_below_drewN | apply below_drew1 | refine below_set ?_ GE203.out) | exact HB.out))); (case side2 => exact HC202_1.out); rintro e w' ⟨rfl, ⟨nd, rfl⟩⟩; refine ⟨_, rfl, ?_⟩) | (go_at_call 44; (with_reducible refine (impl_within.calls ((rd_T39 l0 x17_1).f0) 1 20 true _ A12.out).mono ?_); rintro e w' ⟨rfl, ⟨nd, rfl⟩⟩) | (go_at_call 44; (with_reducible refine (impl_within.calls ((rd_T39 l0 x17_1).f2) 0 2 true _ A14.out).mono ?_); rintro e w' ⟨rfl, ⟨nd, rfl⟩⟩) | (go_at_call 44; (with_reducible refine (impl_within.calls ((rd_T39 l0 x17_1).f3) 1 4 false _ A16.out).mono ?_); rintro e w' ⟨rfl, ⟨nd, rfl⟩⟩))
                          go_ret2
                          exact ⟨_, by first | rfl | (simp [errW_none, errW_some] <;> rfl) | (simp [*, errW_none, errW_some] <;> rfl), by first | exact Kd.R_nil _ _ _ _ _ | exact Kd.N_nil _ _ _ _ _ | exact Kd.V_nil _ _ _ _ _ | exact Kd.Q_nil _ _ _ _ _ | exact Kd.S_nil _ _ _ _ _, by repeat (first | (with_reducible first | exact HB.out | apply below_alloc | apply pw_below_drewN | apply below_drew1 | refine below_set ?_ GE203.out) | exact HB.out)⟩
                      · replace c15 := Bool.eq_false_iff.mpr c15
                        subst c15
                        have H1 : (some (([] : List Int), false)) = some (r1, r2) := by rw [if_neg (show ¬ (false = true) by decide)] at H; exact H
                        clear H
                        have H := H1
                        clear H1
                        simp only [Option.some.injEq, Prod.mk.injEq] at H
                        obtain ⟨rfl, rfl⟩ := H
                        have p202 : 0 ≤ (x17_1 : Int) := of_decide_eq_true (by first | (with_reducible assumption) | assumption)
                        have q202 : x17_1 < (l0.length : Int) := of_decide_eq_true (by first | (with_reducible assumption) | assumption)
                        obtain ⟨ad202, A202_1, c202_1, e202, hx202_0, hx202_1, hx202_2, hx202_3, hl202_1, hi202_1⟩ := at_T39 HR0.out x17_1 p202 q202
                        cases e202
                        (try replace hx202_0 := (HB.out.cell (World.block_lt_of_cell? w _ hx202_0)).trans hx202_0)
                        (try replace hx202_1 := (HB.out.cell (World.block_lt_of_cell? w _ hx202_1)).trans hx202_1)
                        (try replace hx202_2 := (HB.out.cell (World.block_lt_of_cell? w _ hx202_2)).trans hx202_2)
                        (try replace hx202_3 := (HB.out.cell (World.block_lt_of_cell? w _ hx202_3)).trans hx202_3)
                        have HR202_1 := Aside0.mk hi202_1
                        have HC202_1 := Aside0.mk hl202_1
                        clear hi202_1 hl202_1
                        replace p202 := eq_true p202
                        replace q202 := eq_true q202
                        go_wp2_with (first | ((with_reducible refine gate_dst (N := 6) rfl ?_); refine box_event ?hg (N := 6) ?hd (cs := #[.int .i64 0, .slice none 0 0, .int .i64 0, .int .i64 0]) (t := 39) ?hr ?_; (case hd => rfl); (case hg => rfl); (case hr => first | (go_simp; done) | (go_simp; rfl)); intro gb203 hg w24 hbox hb; have n0_ := Aside0.mk (Kd.R_below (by (with_reducible repeat (first | apply Kd.R_alloc | apply Kd.R_drewN | apply Kd.R_drew)); exact HO_4.out) hb); have n1_ := Aside0.mk (below_step (by repeat (first | (with_reducible first | exact HB.out | apply below_alloc | apply pw_below_drewN | apply below_drew1) | exact HB.out)) hb); have n2_ := Aside0.mk (hbox); have n3_ := Aside0.mk ((by rw [hg]; exact (below_size (by repeat (first | (with_reducible first | exact HB.out | apply below_alloc | apply pw_below_drewN | apply below_drew1) | exact HB.out))) : w.heap.size ≤ gb203)); have n4_ := Aside0.mk ((by rw [hg]; exact (below_size (by repeat (first | (with_reducible first | exact HB.out | apply below_alloc | apply pw_below_drewN | apply below_drew1) | exact HB.out))) : w.heap.size ≤ gb203)); clear HO_4; clear HB; have HO_4 := n0_; have HB := n1_; have BK203 := n2_; have GW203 := n3_; have GE203 := n4_; clear n0_ n1_ n2_ n3_ n4_; clear hb hbox hg; have hcz25_0 : w24.cell? ⟨gb203, 0, none⟩ = some (.int .i64 0) := (blk_cell BK203.out 0).trans rfl; have hcz25_1 : w24.cell? ⟨gb203, 1, none⟩ = some (.slice none 0 0) := (blk_cell BK203.out 1).trans rfl; have hcz25_2 : w24.cell? ⟨gb203, 2, none⟩ = some (.int .i64 0) := (blk_cell BK203.out 2).trans rfl; have hcz25_3 : w24.cell? ⟨gb203, 3, none⟩ = some (.int .i64 0) := (blk_cell BK203.out 3).trans rfl; have hfz25_0 := blk_frozen BK203.out 0; have hfz25_1 := blk_frozen BK203.out 1; have hfz25_2 := blk_frozen BK203.out 2; have hfz25_3 := blk_frozen BK203.out 3) | ((with_reducible refine gate_callee (f := 43) rfl ?_); refine goesL_ (some 26) rfl rfl Tryd.func43 (by kernel_rfl) rfl #[.slice A202_1 ((rd_T39 l0 x17_1).f1).length c202_1, .int .i64 (l0.length : Int)] rfl (by (try simp only [List.map_toArray, List.map_cons, List.map_nil]); first | done | rfl | (simp only [List.length_drop, List.length_take]; rfl)) ?_; (with_reducible refine (impl_setOf.calls k1 _ _ ((rd_T39 l0 x17_1).f1) (l0.length : Int) t204 true _ ?side1 ?side2 A10.out).mono ?_); (case side1 => exact Kd.C_below HR202_1.out (by repeat (first | (with_reducible first | exact HB.out | apply below_alloc | apply pw_below_drewN | apply below_drew1 | refine below_set ?_ GE203.out) | exact HB.out))); (case side2 => exact HC202_1.out); rintro e w' ⟨rfl, ⟨nd, rfl⟩⟩; refine ⟨_, rfl, ?_⟩) | (go_at_call 44; (with_reducible refine (impl_within.calls ((rd_T39 l0 x17_1).f0) 1 20 true _ A12.out).mono ?_); rintro e w' ⟨rfl, ⟨nd, rfl⟩⟩) | (go_at_call 44; (with_reducible refine (impl_within.calls ((rd_T39 l0 x17_1).f2) 0 2 false _ A14.out).mono ?_); rintro e w' ⟨rfl, ⟨nd, rfl⟩⟩))
                        go_ret2
                        exact ⟨_, by first | rfl | (simp [errW_none, errW_some] <;> rfl) | (simp [*, errW_none, errW_some] <;> rfl), by first | exact Kd.R_nil _ _ _ _ _ | exact Kd.N_nil _ _ _ _ _ | exact Kd.V_nil _ _ _ _ _ | exact Kd.Q_nil _ _ _ _ _ | exact Kd.S_nil _ _ _ _ _, by repeat (first | (with_reducible first | exact HB.out | apply below_alloc | apply pw_below_drewN | apply below_drew1 | refine below_set ?_ GE203.out) | exact HB.out)⟩
                    · replace c13 := Bool.eq_false_iff.mpr c13
                      subst c13
                      have H1 : (some (([] : List Int), false)) = some (r1, r2) := by rw [if_neg (show ¬ (false = true) by decide)] at H; exact H
                      clear H
                      have H := H1
                      clear H1
                      simp only [Option.some.injEq, Prod.mk.injEq] at H
                      obtain ⟨rfl, rfl⟩ := H
                      have p202 : 0 ≤ (x17_1 : Int) := of_decide_eq_true (by first | (with_reducible assumption) | assumption)
                      have q202 : x17_1 < (l0.length : Int) := of_decide_eq_true (by first | (with_reducible assumption) | assumption)
                      obtain ⟨ad202, A202_1, c202_1, e202, hx202_0, hx202_1, hx202_2, hx202_3, hl202_1, hi202_1⟩ := at_T39 HR0.out x17_1 p202 q202
                      cases e202
                      (try replace hx202_0 := (HB.out.cell (World.block_lt_of_cell? w _ hx202_0)).trans hx202_0)
                      (try replace hx202_1 := (HB.out.cell (World.block_lt_of_cell? w _ hx202_1)).trans hx202_1)
                      (try replace hx202_2 := (HB.out.cell (World.block_lt_of_cell? w _ hx202_2)).trans hx202_2)
                      (try replace hx202_3 := (HB.out.cell (World.block_lt_of_cell? w _ hx202_3)).trans hx202_3)
                      have HR202_1 := Aside0.mk hi202_1
                      have HC202_1 := Aside0.mk hl202_1
                      clear hi202_1 hl202_1
                      replace p202 := eq_true p202
                      replace q202 := eq_true q202
                      go_wp2_with (first | ((with_reducible refine gate_dst (N := 6) rfl ?_); refine box_event ?hg (N := 6) ?hd (cs := #[.int .i64 0, .slice none 0 0, .int .i64 0, .int .i64 0]) (t := 39) ?hr ?_; (case hd => rfl); (case hg => rfl); (case hr => first | (go_simp; done) | (go_simp; rfl)); intro gb203 hg w26 hbox hb; have n0_ := Aside0.mk (Kd.R_below (by (with_reducible repeat (first | apply Kd.R_alloc | apply Kd.R_drewN | apply Kd.R_drew)); exact HO_4.out) hb); have n1_ := Aside0.mk (below_step (by repeat (first | (with_reducible first | exact HB.out | apply below_alloc | apply pw_below_drewN | apply below_drew1) | exact HB.out)) hb); have n2_ := Aside0.mk (hbox); have n3_ := Aside0.mk ((by rw [hg]; exact (below_size (by repeat (first | (with_reducible first | exact HB.out | apply below_alloc | apply pw_below_drewN | apply below_drew1) | exact HB.out))) : w.heap.size ≤ gb203)); have n4_ := Aside0.mk ((by rw [hg]; exact (below_size (by repeat (first | (with_reducible first | exact HB.out | apply below_alloc | apply pw_below_drewN | apply below_drew1) | exact HB.out))) : w.heap.size ≤ gb203)); clear HO_4; clear HB; have HO_4 := n0_; have HB := n1_; have BK203 := n2_; have GW203 := n3_; have GE203 := n4_; clear n0_ n1_ n2_ n3_ n4_; clear hb hbox hg; have hcz27_0 : w26.cell? ⟨gb203, 0, none⟩ = some (.int .i64 0) := (blk_cell BK203.out 0).trans rfl; have hcz27_1 : w26.cell? ⟨gb203, 1, none⟩ = some (.slice none 0 0) := (blk_cell BK203.out 1).trans rfl; have hcz27_2 : w26.cell? ⟨gb203, 2, none⟩ = some (.int .i64 0) := (blk_cell BK203.out 2).trans rfl; have hcz27_3 : w26.cell? ⟨gb203, 3, none⟩ = some (.int .i64 0) := (blk_cell BK203.out 3).trans rfl; have hfz27_0 := blk_frozen BK203.out 0; have hfz27_1 := blk_frozen BK203.out 1; have hfz27_2 := blk_frozen BK203.out 2; have hfz27_3 := blk_frozen BK203.out 3) | ((with_reducible refine gate_callee (f := 43) rfl ?_); refine goesL_ (some 26) rfl rfl Tryd.func43 (by kernel_rfl) rfl #[.slice A202_1 ((rd_T39 l0 x17_1).f1).length c202_1, .int .i64 (l0.length : Int)] rfl (by (try simp only [List.map_toArray, List.map_cons, List.map_nil]); first | done | rfl | (simp only [List.length_drop, List.length_take]; rfl)) ?_; (with_reducible refine (impl_setOf.calls k1 _ _ ((rd_T39 l0 x17_1).f1) (l0.length : Int) t204 true _ ?side1 ?side2 A10.out).mono ?_); (case side1 => exact Kd.C_below HR202_1.out (by repeat (first | (with_reducible first | exact HB.out | apply below_alloc | apply pw_below_drewN | apply below_drew1 | refine below_set ?_ GE203.out) | exact HB.out))); (case side2 => exact HC202_1.out); rintro e w' ⟨rfl, ⟨nd, rfl⟩⟩; refine ⟨_, rfl, ?_⟩) | (go_at_call 44; (with_reducible refine (impl_within.calls ((rd_T39 l0 x17_1).f0) 1 20 false _ A12.out).mono ?_); rintro e w' ⟨rfl, ⟨nd, rfl⟩⟩))
                      go_ret2
                      exact ⟨_, by first | rfl | (simp [errW_none, errW_some] <;> rfl) | (simp [*, errW_none, errW_some] <;> rfl), by first | exact Kd.R_nil _ _ _ _ _ | exact Kd.N_nil _ _ _ _ _ | exact Kd.V_nil _ _ _ _ _ | exact Kd.Q_nil _ _ _ _ _ | exact Kd.S_nil _ _ _ _ _, by repeat (first | (with_reducible first | exact HB.out | apply below_alloc | apply pw_below_drewN | apply below_drew1 | refine below_set ?_ GE203.out) | exact HB.out)⟩
                  · replace c11 := Bool.eq_false_iff.mpr c11
                    subst c11
                    have H1 : (some (([] : List Int), false)) = some (r1, r2) := by rw [if_neg (show ¬ (false = true) by decide)] at H; exact H
                    clear H
                    have H := H1
                    clear H1
                    simp only [Option.some.injEq, Prod.mk.injEq] at H
                    obtain ⟨rfl, rfl⟩ := H
                    have p202 : 0 ≤ (x17_1 : Int) := of_decide_eq_true (by first | (with_reducible assumption) | assumption)
                    have q202 : x17_1 < (l0.length : Int) := of_decide_eq_true (by first | (with_reducible assumption) | assumption)
                    obtain ⟨ad202, A202_1, c202_1, e202, hx202_0, hx202_1, hx202_2, hx202_3, hl202_1, hi202_1⟩ := at_T39 HR0.out x17_1 p202 q202
                    cases e202
                    (try replace hx202_0 := (HB.out.cell (World.block_lt_of_cell? w _ hx202_0)).trans hx202_0)
                    (try replace hx202_1 := (HB.out.cell (World.block_lt_of_cell? w _ hx202_1)).trans hx202_1)
                    (try replace hx202_2 := (HB.out.cell (World.block_lt_of_cell? w _ hx202_2)).trans hx202_2)
                    (try replace hx202_3 := (HB.out.cell (World.block_lt_of_cell? w _ hx202_3)).trans hx202_3)
                    have HR202_1 := Aside0.mk hi202_1
                    have HC202_1 := Aside0.mk hl202_1
                    clear hi202_1 hl202_1
                    replace p202 := eq_true p202
                    replace q202 := eq_true q202
                    go_wp2_with (first | ((with_reducible refine gate_dst (N := 6) rfl ?_); refine box_event ?hg (N := 6) ?hd (cs := #[.int .i64 0, .slice none 0 0, .int .i64 0, .int .i64 0]) (t := 39) ?hr ?_; (case hd => rfl); (case hg => rfl); (case hr => first | (go_simp; done) | (go_simp; rfl)); intro gb203 hg w28 hbox hb; have n0_ := Aside0.mk (Kd.R_below (by (with_reducible repeat (first | apply Kd.R_alloc | apply Kd.R_drewN | apply Kd.R_drew)); exact HO_4.out) hb); have n1_ := Aside0.mk (below_step (by repeat (first | (with_reducible first | exact HB.out | apply below_alloc | apply pw_below_drewN | apply below_drew1) | exact HB.out)) hb); have n2_ := Aside0.mk (hbox); have n3_ := Aside0.mk ((by rw [hg]; exact (below_size (by repeat (first | (with_reducible first | exact HB.out | apply below_alloc | apply pw_below_drewN | apply below_drew1) | exact HB.out))) : w.heap.size ≤ gb203)); have n4_ := Aside0.mk ((by rw [hg]; exact (below_size (by repeat (first | (with_reducible first | exact HB.out | apply below_alloc | apply pw_below_drewN | apply below_drew1) | exact HB.out))) : w.heap.size ≤ gb203)); clear HO_4; clear HB; have HO_4 := n0_; have HB := n1_; have BK203 := n2_; have GW203 := n3_; have GE203 := n4_; clear n0_ n1_ n2_ n3_ n4_; clear hb hbox hg; have hcz29_0 : w28.cell? ⟨gb203, 0, none⟩ = some (.int .i64 0) := (blk_cell BK203.out 0).trans rfl; have hcz29_1 : w28.cell? ⟨gb203, 1, none⟩ = some (.slice none 0 0) := (blk_cell BK203.out 1).trans rfl; have hcz29_2 : w28.cell? ⟨gb203, 2, none⟩ = some (.int .i64 0) := (blk_cell BK203.out 2).trans rfl; have hcz29_3 : w28.cell? ⟨gb203, 3, none⟩ = some (.int .i64 0) := (blk_cell BK203.out 3).trans rfl; have hfz29_0 := blk_frozen BK203.out 0; have hfz29_1 := blk_frozen BK203.out 1; have hfz29_2 := blk_frozen BK203.out 2; have hfz29_3 := blk_frozen BK203.out 3) | ((with_reducible refine gate_callee (f := 43) rfl ?_); refine goesL_ (some 26) rfl rfl Tryd.func43 (by kernel_rfl) rfl #[.slice A202_1 ((rd_T39 l0 x17_1).f1).length c202_1, .int .i64 (l0.length : Int)] rfl (by (try simp only [List.map_toArray, List.map_cons, List.map_nil]); first | done | rfl | (simp only [List.length_drop, List.length_take]; rfl)) ?_; (with_reducible refine (impl_setOf.calls k1 _ _ ((rd_T39 l0 x17_1).f1) (l0.length : Int) t204 false _ ?side1 ?side2 A10.out).mono ?_); (case side1 => exact Kd.C_below HR202_1.out (by repeat (first | (with_reducible first | exact HB.out | apply below_alloc | apply pw_below_drewN | apply below_drew1 | refine below_set ?_ GE203.out) | exact HB.out))); (case side2 => exact HC202_1.out); rintro e w' ⟨rfl, ⟨nd, rfl⟩⟩; refine ⟨_, rfl, ?_⟩))
                    go_ret2
                    exact ⟨_, by first | rfl | (simp [errW_none, errW_some] <;> rfl) | (simp [*, errW_none, errW_some] <;> rfl), by first | exact Kd.R_nil _ _ _ _ _ | exact Kd.N_nil _ _ _ _ _ | exact Kd.V_nil _ _ _ _ _ | exact Kd.Q_nil _ _ _ _ _ | exact Kd.S_nil _ _ _ _ _, by repeat (first | (with_reducible first | exact HB.out | apply below_alloc | apply pw_below_drewN | apply below_drew1 | refine below_set ?_ GE203.out) | exact HB.out)⟩
                · rw [if_neg c9] at H
                  exact absurd H (by simp)
              · rw [if_neg c8] at H
                exact absurd H (by simp)
            · rw [if_neg c7] at H
              have c7b0 : decide (x17_1 < (l0.length : Int)) = false := decide_eq_false c7
              clear c7
              simp only [Option.some.injEq, Prod.mk.injEq] at H
              obtain ⟨rfl, rfl⟩ := H
              go_wp2
              go_ret2
              exact ⟨_, by first | rfl | (simp [errW_none, errW_some] <;> rfl) | (simp [*, errW_none, errW_some] <;> rfl), by (with_reducible repeat (first | apply Kd.R_alloc | apply Kd.R_drewN | apply Kd.R_drew)); exact HO_4.out, by repeat (first | (with_reducible first | exact HB.out | apply below_alloc | apply pw_below_drewN | apply below_drew1) | exact HB.out)⟩
      · rw [if_neg c4] at H
        exact absurd H (by simp)
    · rw [if_neg c3] at H
      exact absurd H (by simp)
def impl_set_has.f (a0 : Int) (a1 : Int) : Option (Bool) := if 0 ≤ a1 then (some ((Go.bits .and .u16 (shr .u16 a0 a1) 1) == 1)) else (none)
set_option maxHeartbeats 8000000 in
set_option maxRecDepth 100000 in
theorem impl_set_has.calls (a0 : Int) (a1 : Int) (r : Bool) (w : World) (h : impl_set_has.f a0 a1 = some r) :
    Calls Tryd.prog 45 #[.int .u16 a0, .int .i64 a1] w fun e w' => e = .returned (.bool r) ∧ Drawn0 w w' := by
  have H : (if 0 ≤ a1 then (some ((Go.bits .and .u16 (shr .u16 a0 a1) 1) == 1)) else (none)) = some r := h
  clear h
  by_cases c3 : 0 ≤ a1
  · rw [if_pos c3] at H
    have c3b0 := eq_true c3
    have c3b1 : decide (0 ≤ a1) = true := decide_eq_true c3
    clear c3
    obtain ⟨ji4, hji4⟩ : ∃ j_ : Int, (shr .u16 a0 a1) = j_ := ⟨_, rfl⟩
    replace H : (some ((Go.bits .and .u16 (ji4) 1) == 1)) = some r := by first | (rw [hji4] at H; exact H) | (simp only [hji4] at H ⊢; exact H)
    have hji4_ : (a0 / 2 ^ min a1.toNat 16) = ji4 := hji4
    have hji4z : a1 ≤ 16 → (a0 / 2 ^ a1.toNat) = ji4 := shr_small hji4
    obtain rfl := Option.some.inj H
    go_enter Tryd.func45, Tryd.ntmps45
    go_wp2
    go_ret
    exact ⟨by first | rfl | (simp; done) | (simp only [← hji4] <;> (first | rfl | simp)) | (simp [*]; done), by repeat (first | exact Drawn0.refl _ | apply Drawn0.step)⟩
  · rw [if_neg c3] at H
    exact absurd H (by simp)
mutual
def impl_order.l0 : Nat → List Int → List Int → Int → Int → Int → Option (List Int × Int)
  | 0, _, _, _, _, _ => none
  | k + 1, x0, x4, x5, x10, x11 => if x11 < x10 then (impl_order.l1 k x0 x4 x5 x10 x11 x0 (x0.length : Int) 0) else (some (x4, x5))
def impl_order.l1 : Nat → List Int → List Int → Int → Int → Int → List Int → Int → Int → Option (List Int × Int)
  | 0, _, _, _, _, _, _, _, _ => none
  | k + 1, x0, x4, x5, x10, x11, x13, x14, x15 => if x15 < x14 then (if 0 ≤ x15 then (if x15 < (x13.length : Int) then ((impl_set_has.f x5 x15).bind fun t216 => (if t216 = true then (impl_order.l1 k x0 x4 x5 x10 x11 x13 x14 (wrap64 (x15 + 1))) else (if (Go.bits .andNot .u16 (rd x13 x15) x5) = 0 then (if x4.length < 17592186044416 then ((impl_set_with.f x5 x15).bind fun t220 => (impl_order.l0 k x0 (x4 ++ [x15]) t220 x10 (wrap64 (x11 + 1)))) else (none)) else (impl_order.l1 k x0 x4 x5 x10 x11 x13 x14 (wrap64 (x15 + 1)))))) else (none)) else (none)) else (impl_order.l0 k x0 x4 x5 x10 (wrap64 (x11 + 1)))
end
def impl_order.f (k : Nat) (l0 : List Int) : Option (List Int × Int) := impl_order.l0 k l0 (([] : List Int)) 0 (l0.length : Int) 0
theorem impl_order.mono_l : ∀ k, (∀ y0 y1 y2 y3 y4, LeO (impl_order.l0 k y0 y1 y2 y3 y4) (impl_order.l0 (k + 1) y0 y1 y2 y3 y4)) ∧ (∀ y0 y1 y2 y3 y4 y5 y6 y7, LeO (impl_order.l1 k y0 y1 y2 y3 y4 y5 y6 y7) (impl_order.l1 (k + 1) y0 y1 y2 y3 y4 y5 y6 y7))
  | 0 => ⟨fun _ _ _ _ _ r h => by simp [impl_order.l0] at h, fun _ _ _ _ _ _ _ _ r h => by simp [impl_order.l1] at h⟩
  | k + 1 => by
    obtain ⟨ih0, ih1⟩ := impl_order.mono_l k
    refine ⟨?_, ?_⟩
    · intro y0 y1 y2 y3 y4
      unfold impl_order.l0
      repeat' first
      | (with_reducible exact ih0 _ _ _ _ _)
      | (with_reducible exact ih1 _ _ _ _ _ _ _ _)
      | (with_reducible exact LeO.refl _)
      | (with_reducible exact LeO.none _)
      | (with_reducible refine LeO.ite ?_ ?_)
      | (with_reducible refine LeO.bind ?_ (fun _ => ?_))
      | exact ih0 _ _ _ _ _
      | exact ih1 _ _ _ _ _ _ _ _
      | exact LeO.none _
      | refine LeO.ite ?_ ?_
      | refine LeO.bind ?_ (fun _ => ?_)
    · intro y0 y1 y2 y3 y4 y5 y6 y7
      unfold impl_order.l1
      repeat' first
      | (with_reducible exact ih0 _ _ _ _ _)
      | (with_reducible exact ih1 _ _ _ _ _ _ _ _)
      | (with_reducible exact LeO.refl _)
      | (with_reducible exact LeO.none _)
      | (with_reducible refine LeO.ite ?_ ?_)
      | (with_reducible refine LeO.bind ?_ (fun _ => ?_))
      | exact ih0 _ _ _ _ _
      | exact ih1 _ _ _ _ _ _ _ _
      | exact LeO.none _
      | refine LeO.ite ?_ ?_
      | refine LeO.bind ?_ (fun _ => ?_)
theorem impl_order.mono : ∀ a0 k, LeO (impl_order.f k a0) (impl_order.f (k + 1) a0) := by
  intro a0 k
  obtain ⟨ih0, ih1⟩ := impl_order.mono_l k
  unfold impl_order.f
  repeat' first
      | (with_reducible exact ih0 _ _ _ _ _)
      | (with_reducible exact ih1 _ _ _ _ _ _ _ _)
      | (with_reducible exact LeO.refl _)
      | (with_reducible exact LeO.none _)
      | (with_reducible refine LeO.ite ?_ ?_)
      | (with_reducible refine LeO.bind ?_ (fun _ => ?_))
      | exact ih0 _ _ _ _ _
      | exact ih1 _ _ _ _ _ _ _ _
      | exact LeO.none _
      | refine LeO.ite ?_ ?_
      | refine LeO.bind ?_ (fun _ => ?_)
set_option maxHeartbeats 8000000 in
set_option maxRecDepth 100000 in
theorem impl_order.calls (k : Nat) (A0 : Option Addr) (c0 : Nat) (l0 : List Int) (r1 : List Int) (r2 : Int) (w : World) (hr0 : Kd.C (Kd.int .u16) w A0 l0.length l0) (hc0 : l0.length ≤ c0) (h : impl_order.f k l0 = some (r1, r2)) :
    Calls Tryd.prog 36 #[.slice A0 l0.length c0] w fun e w' => ∃ v0_ : Value, e = .returned (.tuple #[v0_, .int .u16 r2]) ∧ Kd.R (Kd.int .i64) 3 w' w.heap.size (fun _ => True) v0_ r1 ∧ Below w.heap.size w w' := by
  have HR0 := Aside0.mk hr0
  have HC0 := Aside0.mk hc0
  clear hr0 hc0
  have HB := Aside0.mk (Below.refl w.heap.size w)
  have H : (impl_order.l0 k l0 (([] : List Int)) 0 (l0.length : Int) 0) = some (r1, r2) := h
  clear h
  obtain ⟨y212, hy212⟩ : ∃ y_ : List Int, y_ = (([] : List Int)) := ⟨_, rfl⟩
  replace H : (impl_order.l0 k l0 y212 0 (l0.length : Int) 0) = some (r1, r2) := by first | (rw [hy212]; with_reducible exact H) | (have H2_ := (Option.bind_some _ _).symm.trans H; rw [hy212]; with_reducible exact H2_) | (have H2_ := (Option.bind_some _ _).symm.trans H; with_reducible exact H2_) | with_reducible exact H | (rw [hy212]; exact H) | exact H
  have Ny212 := Aside0.mk hy212
  clear hy212
  have H' := Aside0.mk H
  clear H
  go_enter Tryd.func36, Tryd.ntmps36
  go_wp2_with (first | ((with_reducible refine gate_dst (N := 8) rfl ?_); refine Kd.R_lit (Kd.int .i64) _ 3 ?hg (N := 8) ?hd (xs := ([] : List Int)) (inner := []) (ok := fun _ => True) (okp := fun _ => True) ?hr ?hp (fun _ hk => hk) trivial (Below.refl _ _) (Nat.le_refl _) (by simp) ?_; (case hd => rfl); (case hg => rfl); (case hr => first | (go_simp; done) | (go_simp; rfl)); (case hp => exact (Reps.none _ _)); intro v213 w2 ho3 hb hg_ hnew_; clear hg_ hnew_; (first | rw [← Ny212.out] at ho3 | (simp only [Int.reduceToNat] at ho3; rw [← Ny212.out] at ho3)); have n0_ := Aside0.mk (Kd.R_lower ho3 (below_size (by repeat (first | (with_reducible first | exact HB.out | apply below_alloc | apply pw_below_drewN | apply below_drew1) | exact HB.out)))); have n1_ := Aside0.mk (below_step (by repeat (first | (with_reducible first | exact HB.out | apply below_alloc | apply pw_below_drewN | apply below_drew1) | exact HB.out)) hb); clear HB; have HO214 := n0_; have HB := n1_; clear n0_ n1_; clear hb ho3))
  go_loopg [4, 5, 11] k (fun kq v4 v5 v11 w' => ∃ (x4_1 : List Int) (x5_1 : Int) (x11_1 : Int), v5 = .int .u16 x5_1 ∧ v11 = .int .i64 x11_1 ∧ Aside0 (impl_order.l0 kq l0 x4_1 x5_1 (l0.length : Int) x11_1 = some (r1, r2)) ∧ Aside0 (kq ≤ k) ∧ Aside0 (Kd.R (Kd.int .i64) 3 w' w.heap.size (fun _ => True) v4 x4_1) ∧ Aside0 (Below w.heap.size w w'))
  case atStart => exact ⟨(y212), (0), (0), (by first | rfl | (simp; done) | (simp [*]; done)), (by first | rfl | (simp; done) | (simp [*]; done)), H', ⟨Nat.le_refl _⟩, ⟨by (with_reducible repeat (first | apply Kd.R_alloc | apply Kd.R_drewN | apply Kd.R_drew)); exact HO214.out⟩, ⟨by repeat (first | (with_reducible first | exact HB.out | apply below_alloc | apply pw_below_drewN | apply below_drew1) | exact HB.out)⟩⟩
  case round =>
    clear H'
    try clear p2
    try clear c3
    obtain ⟨x4_1, x5_1, x11_1, rfl, rfl, HA, HK1, HO_4, HB⟩ := hrel
    cases gk with
    | zero => exact absurd HA.out (by simp [impl_order.l0])
    | succ k1 =>
      have H := HA.out
      clear HA
      simp only [impl_order.l0] at H
      by_cases c4 : x11_1 < (l0.length : Int)
      · rw [if_pos c4] at H
        have c4b0 : decide (x11_1 < (l0.length : Int)) = true := decide_eq_true c4
        clear c4
        have H' := Aside0.mk H
        clear H
        go_wp2
        go_loopg [4, 5, 15] k1 (fun kq v4 v5 v15 w' => ∃ (x4_2 : List Int) (x5_2 : Int) (x15_2 : Int), v5 = .int .u16 x5_2 ∧ v15 = .int .i64 x15_2 ∧ Aside0 (impl_order.l1 kq l0 x4_2 x5_2 (l0.length : Int) x11_1 l0 (l0.length : Int) x15_2 = some (r1, r2)) ∧ Aside0 (kq ≤ k1) ∧ Aside0 (Kd.R (Kd.int .i64) 3 w' w.heap.size (fun _ => True) v4 x4_2) ∧ Aside0 (Below w.heap.size w w'))
        case atStart => exact ⟨(x4_1), (x5_1), (0), (by first | rfl | (simp; done) | (simp [*]; done)), (by first | rfl | (simp; done) | (simp [*]; done)), H', ⟨Nat.le_refl _⟩, ⟨by (with_reducible repeat (first | apply Kd.R_alloc | apply Kd.R_drewN | apply Kd.R_drew)); exact HO_4.out⟩, ⟨by repeat (first | (with_reducible first | exact HB.out | apply below_alloc | apply pw_below_drewN | apply below_drew1) | exact HB.out)⟩⟩
        case round =>
          clear H'
          try clear p2
          try clear c3
          try clear c4
          try clear c4b0
          try clear p2
          obtain ⟨x4_2, x5_2, x15_2, rfl, rfl, HA, HK2, HO_4, HB⟩ := hrel
          cases gk with
          | zero => exact absurd HA.out (by simp [impl_order.l1])
          | succ k2 =>
            have H := HA.out
            clear HA
            simp only [impl_order.l1] at H
            by_cases c5 : x15_2 < (l0.length : Int)
            · rw [if_pos c5] at H
              have c5b0 : decide (x15_2 < (l0.length : Int)) = true := decide_eq_true c5
              clear c5
              by_cases c6 : 0 ≤ x15_2
              · rw [if_pos c6] at H
                have c6b0 : decide (0 ≤ x15_2) = true := decide_eq_true c6
                clear c6
                by_cases c7 : x15_2 < (l0.length : Int)
                · rw [if_pos c7] at H
                  have c7b0 : decide (x15_2 < (l0.length : Int)) = true := decide_eq_true c7
                  clear c7
                  replace H := Option.bind_eq_some_iff.mp H
                  obtain ⟨t216, A80, H⟩ := H
                  replace H : (if t216 = true then (impl_order.l1 k2 l0 x4_2 x5_2 (l0.length : Int) x11_1 l0 (l0.length : Int) (wrap64 (x15_2 + 1))) else (if (Go.bits .andNot .u16 (rd l0 x15_2) x5_2) = 0 then (if x4_2.length < 17592186044416 then ((impl_set_with.f x5_2 x15_2).bind fun t220 => (impl_order.l0 k2 l0 (x4_2 ++ [x15_2]) t220 (l0.length : Int) (wrap64 (x11_1 + 1)))) else (none)) else (impl_order.l1 k2 l0 x4_2 x5_2 (l0.length : Int) x11_1 l0 (l0.length : Int) (wrap64 (x15_2 + 1))))) = some (r1, r2) := H
                  have A8 := Aside0.mk A80
                  clear A80
                  by_cases c9 : t216 = true
                  · subst c9
                    have H1 : (impl_order.l1 k2 l0 x4_2 x5_2 (l0.length : Int) x11_1 l0 (l0.length : Int) (wrap64 (x15_2 + 1))) = some (r1, r2) := by rw [if_pos rfl] at H; exact H
                    clear H
                    have H := H1
                    clear H1
                    have H' := Aside0.mk H
                    clear H
                    have p215 : 0 ≤ (x15_2 : Int) := of_decide_eq_true (by first | (with_reducible assumption) | assumption)
                    have q215 : x15_2 < (l0.length : Int) := of_decide_eq_true (by first | (with_reducible assumption) | assumption)
                    obtain ⟨ad215, e215, hx215_0⟩ := Kd.at_int HR0.out x15_2 p215 q215
                    cases e215
                    (try replace hx215_0 := (HB.out.cell (World.block_lt_of_cell? w _ hx215_0)).trans hx215_0)
                    replace p215 := eq_true p215
                    replace q215 := eq_true q215
                    go_wp2_with (first | ((with_reducible refine gate_callee (f := 45) rfl ?_); refine goesL_ (some 22) rfl rfl Tryd.func45 (by kernel_rfl) rfl #[.int .u16 x5_2, .int .i64 x15_2] rfl (by (try simp only [List.map_toArray, List.map_cons, List.map_nil]); first | done | rfl | (simp only [List.length_drop, List.length_take]; rfl)) ?_; (with_reducible refine (impl_set_has.calls x5_2 x15_2 true _ A8.out).mono ?_); rintro e w' ⟨rfl, ⟨nd, rfl⟩⟩; refine ⟨_, rfl, ?_⟩))
                    go_roundg k2
                    case measure => have := HK1.out; have := HK2.out; omega
                    case rel => exact ⟨(x4_2), (x5_2), (wrap64 (x15_2 + 1)), (by first | rfl | (simp; done) | (simp [*]; done)), (by first | rfl | (simp; done) | (simp [*]; done)), H', ⟨by have := HK1.out; have := HK2.out; omega⟩, ⟨by (with_reducible repeat (first | apply Kd.R_alloc | apply Kd.R_drewN | apply Kd.R_drew)); exact HO_4.out⟩, ⟨by repeat (first | (with_reducible first | exact HB.out | apply below_alloc | apply pw_below_drewN | apply below_drew1) | exact HB.out)⟩⟩
                  · replace c9 := Bool.eq_false_iff.mpr c9
                    subst c9
                    have H1 : (if (Go.bits .andNot .u16 (rd l0 x15_2) x5_2) = 0 then (if x4_2.length < 17592186044416 then ((impl_set_with.f x5_2 x15_2).bind fun t220 => (impl_order.l0 k2 l0 (x4_2 ++ [x15_2]) t220 (l0.length : Int) (wrap64 (x11_1 + 1)))) else (none)) else (impl_order.l1 k2 l0 x4_2 x5_2 (l0.length : Int) x11_1 l0 (l0.length : Int) (wrap64 (x15_2 + 1)))) = some (r1, r2) := by rw [if_neg (show ¬ (false = true) by decide)] at H; exact H
                    clear H
                    have H := H1
                    clear H1
                    by_cases c10 : (Go.bits .andNot .u16 (rd l0 x15_2) x5_2) = 0
                    · rw [if_pos c10] at H
                      have c10b0 : ((Go.bits .andNot .u16 (rd l0 x15_2) x5_2) == 0) = true := beq_iff_eq.mpr c10
                      have c10b1 : ((Go.bits .andNot .u16 (rd l0 x15_2) x5_2) != 0) = false := bne_eq_false_iff_eq.mpr c10
                      clear c10
                      by_cases c11 : x4_2.length < 17592186044416
                      · rw [if_pos c11] at H
                        have LMc11 := Aside0.mk c11
                        clear c11
                        obtain ⟨y217, hy217⟩ : ∃ y_ : List Int, y_ = (x4_2 ++ [x15_2]) := ⟨_, rfl⟩
                        replace H : ((impl_set_with.f x5_2 x15_2).bind fun t220 => (impl_order.l0 k2 l0 y217 t220 (l0.length : Int) (wrap64 (x11_1 + 1)))) = some (r1, r2) := by first | (rw [hy217]; with_reducible exact H) | (have H2_ := (Option.bind_some _ _).symm.trans H; rw [hy217]; with_reducible exact H2_) | (have H2_ := (Option.bind_some _ _).symm.trans H; with_reducible exact H2_) | with_reducible exact H | (rw [hy217]; exact H) | exact H
                        have Ny217 := Aside0.mk hy217
                        clear hy217
                        replace H := Option.bind_eq_some_iff.mp H
                        obtain ⟨t220, A120, H⟩ := H
                        replace H : (impl_order.l0 k2 l0 y217 t220 (l0.length : Int) (wrap64 (x11_1 + 1))) = some (r1, r2) := H
                        have A12 := Aside0.mk A120
                        clear A120
                        have H' := Aside0.mk H
                        clear H
                        have p215 : 0 ≤ (x15_2 : Int) := of_decide_eq_true (by first | (with_reducible assumption) | assumption)
                        have q215 : x15_2 < (l0.length : Int) := of_decide_eq_true (by first | (with_reducible assumption) | assumption)
                        obtain ⟨ad215, e215, hx215_0⟩ := Kd.at_int HR0.out x15_2 p215 q215
                        cases e215
                        (try replace hx215_0 := (HB.out.cell (World.block_lt_of_cell? w _ hx215_0)).trans hx215_0)
                        replace p215 := eq_true p215
                        replace q215 := eq_true q215
                        go_wp2_with (first | ((with_reducible refine gate_callee (f := 45) rfl ?_); refine goesL_ (some 22) rfl rfl Tryd.func45 (by kernel_rfl) rfl #[.int .u16 x5_2, .int .i64 x15_2] rfl (by (try simp only [List.map_toArray, List.map_cons, List.map_nil]); first | done | rfl | (simp only [List.length_drop, List.length_take]; rfl)) ?_; (with_reducible refine (impl_set_has.calls x5_2 x15_2 false _ A8.out).mono ?_); rintro e w' ⟨rfl, ⟨nd, rfl⟩⟩; refine ⟨_, rfl, ?_⟩) | ((with_reducible refine gate_builtin (b := .append) (xs := #[.tmp 30, .tmp 32]) rfl ?_); at_builtin; refine Kd.R_append (Kd.int .i64) (w0 := w) w.heap.size rfl (.tmp 30) (.tmp 32) 35 3 (.int .i64 0) 8 rfl Tryd.underlying35 info3 rfl (by decide) (by omega) u4 x4_2 x15_2 [.int .i64 x15_2] (fun _ => True) (fun _ => False) rfl rfl ?aP (fun _ hk => hk.elim) ?aF ?aO ?aB ?aS ?aL ?_; (case aP => exact rfl); (case aB => exact (by repeat (first | (with_reducible first | exact HB.out | apply below_alloc | apply pw_below_drewN | apply below_drew1) | exact HB.out))); (case aF => exact (fun _ _ => trivial)); (case aO => exact (by (with_reducible repeat (first | apply Kd.R_alloc | apply Kd.R_drewN | apply Kd.R_drew)); exact HO_4.out)); (case aS => exact (below_size (by repeat (first | (with_reducible first | exact HB.out | apply below_alloc | apply pw_below_drewN | apply below_drew1) | exact HB.out)))); (case aL => have := LMc11.out; omega); intro v218 w13 ho hb hg hat; rw [← Ny217.out] at ho; have n0_ := Aside0.mk (hb); have n1_ := Aside0.mk (ho); clear HB; clear HO_4; have HB := n0_; have HO219 := n1_; clear n0_ n1_; clear ho hb hg hat) | ((with_reducible refine gate_callee (f := 38) rfl ?_); refine goesL_ (some 36) rfl rfl Tryd.func38 (by kernel_rfl) rfl #[.int .u16 x5_2, .int .i64 x15_2] rfl (by (try simp only [List.map_toArray, List.map_cons, List.map_nil]); first | done | rfl | (simp only [List.length_drop, List.length_take]; rfl)) ?_; (with_reducible refine (impl_set_with.calls x5_2 x15_2 t220 _ A12.out).mono ?_); rintro e w' ⟨rfl, ⟨nd, rfl⟩⟩; refine ⟨_, rfl, ?_⟩))
                        go_roundg k2
                        case measure => have := HK1.out; have := HK2.out; omega
                        case rel => exact ⟨(y217), (t220), (wrap64 (x11_1 + 1)), (by first | rfl | (simp; done) | (simp [*]; done)), (by first | rfl | (simp; done) | (simp [*]; done)), H', ⟨by have := HK1.out; have := HK2.out; omega⟩, ⟨by (with_reducible repeat (first | apply Kd.R_alloc | apply Kd.R_drewN | apply Kd.R_drew)); exact HO219.out⟩, ⟨by repeat (first | (with_reducible first | exact HB.out | apply below_alloc | apply pw_below_drewN | apply below_drew1) | exact HB.out)⟩⟩
                      · rw [if_neg c11] at H
                        exact absurd H (by simp)
                    · rw [if_neg c10] at H
                      have c10b0 : ((Go.bits .andNot .u16 (rd l0 x15_2) x5_2) == 0) = false := beq_eq_false_iff_ne.mpr c10
                      have c10b1 : ((Go.bits .andNot .u16 (rd l0 x15_2) x5_2) != 0) = true := bne_iff_ne.mpr c10
                      have H' := Aside0.mk H
                      clear H
                      have p215 : 0 ≤ (x15_2 : Int) := of_decide_eq_true (by first | (with_reducible assumption) | assumption)
                      have q215 : x15_2 < (l0.length : Int) := of_decide_eq_true (by first | (with_reducible assumption) | assumption)
                      obtain ⟨ad215, e215, hx215_0⟩ := Kd.at_int HR0.out x15_2 p215 q215
                      cases e215
                      (try replace hx215_0 := (HB.out.cell (World.block_lt_of_cell? w _ hx215_0)).trans hx215_0)
                      replace p215 := eq_true p215
                      replace q215 := eq_true q215
                      go_wp2_with (first | ((with_reducible refine gate_callee (f := 45) rfl ?_); refine goesL_ (some 22) rfl rfl Tryd.func45 (by kernel_rfl) rfl #[.int .u16 x5_2, .int .i64 x15_2] rfl (by (try simp only [List.map_toArray, List.map_cons, List.map_nil]); first | done | rfl | (simp only [List.length_drop, List.length_take]; rfl)) ?_; (with_reducible refine (impl_set_has.calls x5_2 x15_2 false _ A8.out).mono ?_); rintro e w' ⟨rfl, ⟨nd, rfl⟩⟩; refine ⟨_, rfl, ?_⟩))
                      go_roundg k2
                      case measure => have := HK1.out; have := HK2.out; omega
                      case rel => exact ⟨(x4_2), (x5_2), (wrap64 (x15_2 + 1)), (by first | rfl | (simp; done) | (simp [*]; done)), (by first | rfl | (simp; done) | (simp [*]; done)), H', ⟨by have := HK1.out; have := HK2.out; omega⟩, ⟨by (with_reducible repeat (first | apply Kd.R_alloc | apply Kd.R_drewN | apply Kd.R_drew)); exact HO_4.out⟩, ⟨by repeat (first | (with_reducible first | exact HB.out | apply below_alloc | apply pw_below_drewN | apply below_drew1) | exact HB.out)⟩⟩
                · rw [if_neg c7] at H
                  exact absurd H (by simp)
              · rw [if_neg c6] at H
                exact absurd H (by simp)
            · rw [if_neg c5] at H
              have c5b0 : decide (x15_2 < (l0.length : Int)) = false := decide_eq_false c5
              clear c5
              have H' := Aside0.mk H
              clear H
              go_wp2
              go_roundg k2
              case measure => have := HK1.out; have := HK2.out; omega
              case rel => exact ⟨(x4_2), (x5_2), (wrap64 (x11_1 + 1)), (by first | rfl | (simp; done) | (simp [*]; done)), (by first | rfl | (simp; done) | (simp [*]; done)), H', ⟨by have := HK1.out; have := HK2.out; omega⟩, ⟨by (with_reducible repeat (first | apply Kd.R_alloc | apply Kd.R_drewN | apply Kd.R_drew)); exact HO_4.out⟩, ⟨by repeat (first | (with_reducible first | exact HB.out | apply below_alloc | apply pw_below_drewN | apply below_drew1) | exact HB.out)⟩⟩
      · rw [if_neg c4] at H
        have c4b0 : decide (x11_1 < (l0.length : Int)) = false := decide_eq_false c4
        clear c4
        simp only [Option.some.injEq, Prod.mk.injEq] at H
        obtain ⟨rfl, rfl⟩ := H
        go_wp2
        go_ret2
        exact ⟨_, by first | rfl | (simp [errW_none, errW_some] <;> rfl) | (simp [*, errW_none, errW_some] <;> rfl), by (with_reducible repeat (first | apply Kd.R_alloc | apply Kd.R_drewN | apply Kd.R_drew)); exact HO_4.out, by repeat (first | (with_reducible first | exact HB.out | apply below_alloc | apply pw_below_drewN | apply below_drew1) | exact HB.out)⟩
end Go.Proofs.YtpdgnncnejmhfaaDoor.P
end
section
set_option linter.unusedVariables false
set_option linter.unusedSimpArgs false
namespace Go.Proofs.YtpdgnncnejmhfaaDoor.P
open Go Core
abbrev Tk := S39
end Go.Proofs.YtpdgnncnejmhfaaDoor.P
namespace Go.Proofs.YtpdgnncnejmhfaaDoor.Core
open Go Go.Proofs.YtpdgnncnejmhfaaDoor.P
/-- Sets as the program's numbers. -/
def up (L : List Nat) : List Int := L.map Int.ofNat
theorem up_length (L : List Nat) : (up L).length = L.length := by simp [up]
def below1 (n : Nat) (L : List Nat) : Prop := ∀ x ∈ L, x < 2 ^ n
def bStep (i : Nat) (L : List Nat) (k : Nat) : List Nat := L.set i (L.getD i 0 ||| (L.getD k 0 ||| 2 ^ k))
def aStep (i : Nat) (U : List Nat) (k : Nat) : List Nat := U.set k (U.getD k 0 ||| 2 ^ i)
def rStep (N : List Nat) (LU : List Nat × List Nat) (i : Nat) : List Nat × List Nat :=
  ((elemsN (N.getD i 0)).foldl (bStep i) LU.1, (elemsN (((elemsN (N.getD i 0)).foldl (bStep i) LU.1).getD i 0)).foldl (aStep i) LU.2)
def reach (N order : List Nat) (n : Nat) : List Nat × List Nat := order.foldl (rStep N) (List.replicate n 0, List.replicate n 0)
theorem getD_lt {n : Nat} {L : List Nat} (h : below1 n L) (i : Nat) : L.getD i 0 < 2 ^ n := by
  rw [List.getD_eq_getElem?_getD]
  cases e : L[i]? with
  | none => exact Nat.two_pow_pos n
  | some x => exact h x (List.mem_of_getElem? e)
theorem bStep_length (i : Nat) (L : List Nat) (k : Nat) : (bStep i L k).length = L.length := by simp [bStep]
theorem aStep_length (i : Nat) (L : List Nat) (k : Nat) : (aStep i L k).length = L.length := by simp [aStep]
theorem set_below {n i x : Nat} {L : List Nat} (h : below1 n L) (hx : x < 2 ^ n) : below1 n (L.set i x) := by
  intro y hy
  rcases List.mem_or_eq_of_mem_set hy with h1 | h1
  · exact h y h1
  · rw [h1]; exact hx
theorem bStep_below {n i k : Nat} {L : List Nat} (h : below1 n L) (hk : k < n) : below1 n (bStep i L k) :=
  set_below h (Nat.or_lt_two_pow (getD_lt h i) (Nat.or_lt_two_pow (getD_lt h k) (Nat.pow_lt_pow_right (by omega) hk)))
theorem aStep_below {n i k : Nat} {L : List Nat} (h : below1 n L) (hi : i < n) : below1 n (aStep i L k) :=
  set_below h (Nat.or_lt_two_pow (getD_lt h k) (Nat.pow_lt_pow_right (by omega) hi))
theorem pow8 {n : Nat} (h : n ≤ 8) : 2 ^ n ≤ 256 := Nat.pow_le_pow_right (by omega) h
end Go.Proofs.YtpdgnncnejmhfaaDoor.Core
namespace Go.Proofs.YtpdgnncnejmhfaaDoor.Core
open Go Go.RowKit Go.Shelf Go.Proofs.YtpdgnncnejmhfaaDoorW.PrintWords
attribute [local go_sem] Oper.semAt_some wide_fn wide_depth
set_option maxHeartbeats 1000000 in
theorem with_calls (s k : Nat) (hs : s < 256) (hk : k < 8) (w : World) :
    Calls Tryd.prog 38 #[.int .u16 (s : Int), .int .i64 (k : Int)] w fun e w' => e = .returned (.int .u16 ((s ||| 2 ^ k : Nat) : Int)) ∧ w = w' := by
  go_enter Tryd.func38, Tryd.ntmps38
  go_wp2
  go_ret
  exact ⟨by rw [with_eq hs hk]; rfl, rfl⟩
set_option maxHeartbeats 1000000 in
theorem everything_calls (n : Nat) (hn : n ≤ 8) (w : World) :
    Calls Tryd.prog 37 #[.int .i64 (n : Int)] w fun e w' => e = .returned (.int .u16 ((2 ^ n - 1 : Nat) : Int)) ∧ w = w' := by
  go_enter Tryd.func37, Tryd.ntmps37
  go_wp2
  go_ret
  exact ⟨by rw [everything_eq hn]; rfl, rfl⟩
end Go.Proofs.YtpdgnncnejmhfaaDoor.Core
namespace Go.Proofs.YtpdgnncnejmhfaaDoor.Core
open Go Go.RowKit Go.Shelf Go.Proofs.YtpdgnncnejmhfaaDoorW.PrintWords Go.Proofs.YtpdgnncnejmhfaaDoorW.PrintLast Go.Proofs.YtpdgnncnejmhfaaDoorW.PrintMore Go.Proofs.YtpdgnncnejmhfaaDoor.P
attribute [local go_sem] Oper.semAt_some wide_fn wide_depth
/-- What is known of a graph: tasks, needs, order, below, above. -/
structure GD where
  tasks : List Tk
  needs : List Nat
  order : List Nat
  below : List Nat
  above : List Nat
/-- Block b holds the graph's struct; what its slices lead to. -/
def IsG (w : World) (b : Nat) (G : GD) : Prop :=
  ∃ (A0 A1 A2 A3 A4 : Option Addr) (c0 c1 c2 c3 c4 : Nat),
    w.heap[b]? = some (.cells #[.slice A0 G.tasks.length c0, .slice A1 G.needs.length c1, .slice A2 G.order.length c2, .slice A3 G.below.length c3, .slice A4 G.above.length c4] 47 (0, 0)) ∧
    (G.tasks.length ≤ c0 ∧ k39.C w A0 G.tasks.length G.tasks) ∧ (G.needs.length ≤ c1 ∧ (Kd.int .u16).C w A1 G.needs.length (up G.needs)) ∧
    (G.order.length ≤ c2 ∧ (Kd.int .i64).C w A2 G.order.length (up G.order)) ∧ (G.below.length ≤ c3 ∧ (Kd.int .u16).C w A3 G.below.length (up G.below)) ∧ (G.above.length ≤ c4 ∧ (Kd.int .u16).C w A4 G.above.length (up G.above))
theorem cells_alloc {W : World} {p : Nat} {o : Obj} (h : W.heap[p]? = some o) (x : Obj) : (W.alloc x).heap[p]? = some o :=
  ((World.grownBy_alloc W x none).block p (Array.getElem?_eq_some_iff.1 h).1 (by simp)).trans h
theorem cells_new (W : World) (x : Obj) : (W.alloc x).heap[W.heap.size]? = some x := World.alloc_heap_new W x
theorem cells_lt {W : World} {p : Nat} {o : Obj} (h : W.heap[p]? = some o) : p < W.heap.size := (Array.getElem?_eq_some_iff.1 h).1
theorem below_put {b p : Nat} {w W W1 : World} (hg : W.grownBy W1 (some p)) (h : Below b w W) (hb : b ≤ w.heap.size) (hp : b ≤ p) : Below b w W1 :=
  ⟨hg.os.trans h.os, hg.tape.trans h.tape, hg.output.trans h.output, Nat.le_trans h.size hg.size, fun k hk =>
    (hg.block k (Nat.lt_of_lt_of_le hk (Nat.le_trans hb h.size)) (fun e => by injection e with e; omega)).trans (h.block k hk)⟩
theorem exec_make {P : Program} {ρ : Operand → Value} {o : Oper} {t : TypeId} {l c : Operand} {W W1 : World} {v : Value} (ho : o.op = .makeSlice t l c) (h : (Instr.makeSlice t (ρ l) (ρ c)).run P W = .ok v W1) : (execOp ρ o).run P W = .ok (.value v) W1 := by
  unfold execOp
  rw [ho]
  go_simp
theorem wp_normal {c : Code} {P : Program} {K : Act → World → Prop} {Q' : Exit → Act → World → Prop} {a : Act} {w : World} (h : c.wp P (fun e a' w' => match e with | .normal => K a' w' | _ => False) a w) : c.wp P (Exit.then K Q') a w := by
  refine wp_mono h ?_
  intro e a' w' q
  cases e with
  | normal => exact q
  | _ => exact q.elim
set_option maxRecDepth 100000 in
set_option maxHeartbeats 4000000 in
theorem graphOf_no1 (k : Nat) (A0 : Option Addr) (c0 : Nat) (l0 : List Tk) (N : List Int) (w : World) (hr0 : k39.C w A0 l0.length l0) (hc0 : l0.length ≤ c0) (h : impl_needsOf.f k l0 = some (N, false)) :
    Calls Tryd.prog 21 #[.slice A0 l0.length c0] w fun e w' => e = .returned (.tuple #[.pointer none, .bool false]) ∧ Below w.heap.size w w' := by
  have h' := Lib.hid h
  clear h
  refine calls_marks Tryd.func21 rfl ?_
  simp only [Tryd.ntmps21, List.size_toArray, List.length_cons, List.length_nil, Nat.reduceAdd, Nat.reduceSub, Array.replicate_succ, Array.replicate_zero, List.push_toArray, List.append_toArray, List.nil_append, List.cons_append]
  go_wp2_with (go_at_call 35; refine (impl_needsOf.calls k A0 c0 l0 _ _ _ hr0 hc0 h'.out).mono ?_; rintro e w' ⟨v0, rfl, hR, hB⟩)
  refine leave_ret (Marks.nil w.heap.size w.heap.size _) (fun W => results_tmp2 rfl _ _ _) ?_
  intro W' ht
  exact ⟨rfl, ht.below hB (Nat.le_refl _) (Nat.le_refl _)⟩
theorem madeCells1 (v : Value) (n : Nat) : madeCells #[v] n = Array.replicate n v := by
  apply Array.ext
  · simp [madeCells]
  · intro i h1 h2
    simp [madeCells, Nat.mod_one]
def zcells (n : Nat) : Array Value := Array.replicate n (.int .u16 0)
theorem infoSet : (Tryd.prog.info? 51).map (fun i => (i.zero, i.size, i.bytes)) = some (some (.int .u16 0), 1, 2) := by kernel_rfl
theorem run_make_sets (n : Nat) (hn : n ≤ 8) (W : World) : (Instr.makeSlice 45 (.int .i64 (n : Int)) (.int .i64 (n : Int))).run Tryd.prog W = .ok (.slice (some ⟨W.heap.size, 0, none⟩) n n) (W.alloc (.cells (zcells n) 51)) := by
  obtain ⟨i0, hi, hz0, hz1, hz2⟩ := info_parts infoSet
  have hr := run_make (P := Tryd.prog) W 45 51 i0 (.int .u16 0) Tryd.underlying45 hi hz0 .i64 .i64 (n : Int) (n : Int) (by omega) (by omega) (by rw [hz2]; omega) (by omega)
  rw [hz1] at hr
  simp only [Int.toNat_natCast, Nat.mul_one] at hr
  rw [hr]
  rw [show madeCells (Value.cells (.int .u16 0)) n = zcells n from madeCells1 _ n]
theorem fold_len {f : List Nat → Nat → List Nat} (h : ∀ L k, (f L k).length = L.length) : ∀ (ks L : List Nat), (ks.foldl f L).length = L.length
  | [], _ => rfl
  | k :: ks, L => by rw [List.foldl_cons, fold_len h ks, h]
theorem rfold_len (N : List Nat) : ∀ (O : List Nat) (LU : List Nat × List Nat), (O.foldl (rStep N) LU).1.length = LU.1.length ∧ (O.foldl (rStep N) LU).2.length = LU.2.length
  | [], _ => ⟨rfl, rfl⟩
  | i :: O, LU => by
    rw [List.foldl_cons]
    have := rfold_len N O (rStep N LU i)
    rw [this.1, this.2]
    exact ⟨fold_len (bStep_length i) _ _, fold_len (aStep_length i) _ _⟩
theorem reach_len1 (N O : List Nat) (n : Nat) : (reach N O n).1.length = n := by rw [reach, (rfold_len N O _).1]; simp
theorem reach_len2 (N O : List Nat) (n : Nat) : (reach N O n).2.length = n := by rw [reach, (rfold_len N O _).2]; simp
theorem bfold_below {n i : Nat} : ∀ {ks L : List Nat}, below1 n L → (∀ k ∈ ks, k < n) → below1 n (ks.foldl (bStep i) L)
  | [], _, h, _ => h
  | k :: ks, L, h, hk => by
    rw [List.foldl_cons]
    exact bfold_below (bStep_below h (hk k (List.mem_cons_self))) (fun x hx => hk x (List.mem_cons_of_mem _ hx))
theorem afold_below {n i : Nat} (hi : i < n) : ∀ {ks L : List Nat}, below1 n L → below1 n (ks.foldl (aStep i) L)
  | [], _, h => h
  | k :: ks, L, h => by
    rw [List.foldl_cons]
    exact afold_below hi (aStep_below h hi)
theorem elemsN_lt {s n k : Nat} (hs : s < 2 ^ n) (h : k ∈ elemsN s) : k < n := by
  have := elems_lt (x := (k : Int)) hs (List.mem_map.2 ⟨k, h, rfl⟩)
  omega
theorem reach_below {n : Nat} {N : List Nat} (hN : below1 n N) : ∀ {O : List Nat}, (∀ i ∈ O, i < n) → below1 n (reach N O n).1 ∧ below1 n (reach N O n).2 := by
  have : ∀ (O : List Nat) (LU : List Nat × List Nat), (∀ i ∈ O, i < n) → below1 n LU.1 ∧ below1 n LU.2 → below1 n (O.foldl (rStep N) LU).1 ∧ below1 n (O.foldl (rStep N) LU).2 := by
    intro O
    induction O with
    | nil => exact fun LU _ h => h
    | cons i O ih =>
      intro LU hi h
      rw [List.foldl_cons]
      refine ih _ (fun x hx => hi x (List.mem_cons_of_mem _ hx)) ⟨bfold_below h.1 (fun k hk => elemsN_lt (getD_lt hN i) hk), afold_below (hi i List.mem_cons_self) h.2⟩
  intro O hO
  have hz : below1 n (List.replicate n 0) := fun x hx => by rw [(List.mem_replicate.1 hx).2]; exact Nat.two_pow_pos n
  exact this O _ hO ⟨hz, hz⟩
theorem reach_snoc (N pre : List Nat) (i n : Nat) : reach N (pre ++ [i]) n = rStep N (reach N pre n) i := by simp [reach, List.foldl_append]
theorem up_inj {a b : List Nat} (h : up a = up b) : a = b := by
  have : ∀ (a b : List Nat), up a = up b → a = b := by
    intro a
    induction a with
    | nil => intro b h; cases b with
      | nil => rfl
      | cons => simp [up] at h
    | cons x a ih => intro b h; cases b with
      | nil => simp [up] at h
      | cons y b =>
        simp only [up, List.map_cons, List.cons.injEq] at h
        rw [ih b h.2, Int.ofNat.inj h.1]
  exact this a b h
/-- A row of sets in memory. -/
def scells (L : List Nat) : Array Value := (L.map fun (x : Nat) => Value.int .u16 (x : Int)).toArray
theorem zcells_eq (n : Nat) : zcells n = scells (List.replicate n 0) := by simp [zcells, scells]
/-- What the loops of graphOf hold: the rows of what is below and above, the struct, its variable. -/
structure GI (w2 : World) (p5 p8 p10 p11 : Nat) (gc : Array Value) (W : World) (B U : List Nat) : Prop where
  b5 : W.heap[p5]? = some (.cells (scells B) 51 (0, 0))
  b8 : W.heap[p8]? = some (.cells (scells U) 51 (0, 0))
  b10 : W.heap[p10]? = some (.cells gc 47 (0, 0))
  b11 : Boxed W p11 42 (.pointer (some ⟨p10, 0, none⟩))
  below : Below w2.heap.size w2 W
theorem GI.tame {w2 : World} {p5 p8 p10 p11 : Nat} {gc : Array Value} {W W' : World} {B U : List Nat} (h : GI w2 p5 p8 p10 p11 gc W B U) {b : Nat} (hb : w2.heap.size ≤ b) (ht : Tame b W W') : GI w2 p5 p8 p10 p11 gc W' B U :=
  ⟨ht.cells h.b5, ht.cells h.b8, ht.cells h.b10, ht.boxed h.b11, ht.below h.below (Nat.le_refl _) hb⟩
theorem GI.alloc {w2 : World} {p5 p8 p10 p11 : Nat} {gc : Array Value} {W : World} {B U : List Nat} (h : GI w2 p5 p8 p10 p11 gc W B U) (o : Obj) : GI w2 p5 p8 p10 p11 gc (W.alloc o) B U :=
  ⟨cells_alloc h.b5 o, cells_alloc h.b8 o, cells_alloc h.b10 o, h.b11.alloc o, h.below.alloc h.below.size o⟩
theorem GI.move {w2 : World} {p5 p8 p10 p11 : Nat} {gc : Array Value} {W W' : World} {B U : List Nat} (h : GI w2 p5 p8 p10 p11 gc W B U) (hb : Below W.heap.size W W') : GI w2 p5 p8 p10 p11 gc W' B U :=
  ⟨(hb.block p5 (cells_lt h.b5)).trans h.b5, (hb.block p8 (cells_lt h.b8)).trans h.b8, (hb.block p10 (cells_lt h.b10)).trans h.b10, (hb.block p11 h.b11.lt).trans h.b11, below_step h.below hb⟩
theorem scell {W : World} {p t : Nat} {L : List Nat} (h : W.heap[p]? = some (.cells (scells L) t (0, 0))) (i : Nat) (hi : i < L.length) : W.cell? ⟨p, i, none⟩ = some (.int .u16 ((L.getD i 0 : Nat) : Int)) := by
  simp [World.cell?, h, scells, hi]
theorem sfrozen {W : World} {p t : Nat} {L : List Nat} (h : W.heap[p]? = some (.cells (scells L) t (0, 0))) (i : Nat) : W.frozen? ⟨p, i, none⟩ = false := by
  simp [World.frozen?, h]
theorem add_own (p j : Nat) : Addr.add ⟨p, 0, none⟩ j = ⟨p, j, none⟩ := by
  unfold Addr.add
  by_cases h : j = 0 <;> simp [h]
theorem C_scells {W : World} {p t : Nat} {L : List Nat} (h : W.heap[p]? = some (.cells (scells L) t (0, 0))) (hl : L.length ≤ 8) : (Kd.int .u16).C W (some ⟨p, 0, none⟩) L.length (up L) := by
  refine ⟨up_length L, by omega, fun _ => ⟨_, rfl, fun j x hx => ⟨[.int .u16 x], rfl, rfl, fun i u hu => ?_⟩⟩⟩
  have hj : j < L.length := by
    have := (List.getElem?_eq_some_iff.1 hx).1
    rwa [up_length] at this
  have hx' : x = ((L.getD j 0 : Nat) : Int) := by
    have h2 : (up L)[j]? = some ((L.getD j 0 : Nat) : Int) := by simp [up, hj]
    rw [h2] at hx
    exact (Option.some.inj hx).symm
  cases i with
  | succ i => simp at hu
  | zero =>
    have hu' : u = .int .u16 x := by simpa using hu.symm
    subst hu' hx'
    have := scell h j hj
    show W.cell? (Addr.add ⟨p, 0, none⟩ (j * 1 + 0)) = _
    rw [Nat.mul_one, Nat.add_zero, add_own]
    exact this
theorem sset {W : World} {p t : Nat} {L : List Nat} (h : W.heap[p]? = some (.cells (scells L) t (0, 0))) (i x : Nat) : (W.setCell ⟨p, i, none⟩ (.int .u16 (x : Int))).heap[p]? = some (.cells (scells (L.set i x)) t (0, 0)) := by
  obtain ⟨hlt, hk⟩ := Array.getElem?_eq_some_iff.1 h
  show (W.heap.modify p _)[p]? = _
  rw [Array.getElem?_eq_getElem (by rw [Array.size_modify]; exact hlt), Array.getElem_modify_self, hk]
  simp [scells, List.map_set]
theorem grownBy_setCell'' (W : World) (b i : Nat) (v : Value) : W.grownBy (W.setCell ⟨b, i, none⟩ v) (some b) :=
  ⟨rfl, rfl, rfl, (KeepsWalks.setCell W _ v).size, fun k _ hk => Below.heap_setCell _ _ _ k (fun e => hk (by rw [e]))⟩
theorem sother {W : World} {p q i : Nat} (v : Value) (h : p ≠ q) : (W.setCell ⟨q, i, none⟩ v).heap[p]? = W.heap[p]? := Below.heap_setCell W ⟨q, i, none⟩ v p h
theorem rd_up {L : List Nat} {i : Nat} {x : Int} (h : x = (i : Int)) : rd (up L) x = ((L.getD i 0 : Nat) : Int) := by
  subst h
  simp only [rd, up, Int.toNat_natCast, List.getD_eq_getElem?_getD, List.getElem?_map]
  cases L[i]? <;> rfl
theorem GI.set5 {w2 : World} {p5 p8 p10 p11 : Nat} {gc : Array Value} {W : World} {B U : List Nat} (h : GI w2 p5 p8 p10 p11 gc W B U) (hp : p8 ≠ p5) (hp5 : w2.heap.size ≤ p5) (i x : Nat) : GI w2 p5 p8 p10 p11 gc (W.setCell ⟨p5, i, none⟩ (.int .u16 (x : Int))) (B.set i x) U :=
  ⟨sset h.b5 i x, (sother _ hp).trans h.b8, (sother _ (fun e => by subst e; exact absurd (h.b5.symm.trans h.b10) (by simp))).trans h.b10,
    (sother _ (fun e => by subst e; exact absurd (h.b5.symm.trans h.b11) (by simp))).trans h.b11, below_put (grownBy_setCell'' W p5 i _) h.below (Nat.le_refl _) hp5⟩
theorem GI.set8 {w2 : World} {p5 p8 p10 p11 : Nat} {gc : Array Value} {W : World} {B U : List Nat} (h : GI w2 p5 p8 p10 p11 gc W B U) (hp : p5 ≠ p8) (hp8 : w2.heap.size ≤ p8) (i x : Nat) : GI w2 p5 p8 p10 p11 gc (W.setCell ⟨p8, i, none⟩ (.int .u16 (x : Int))) B (U.set i x) :=
  ⟨(sother _ hp).trans h.b5, sset h.b8 i x, (sother _ (fun e => by subst e; exact absurd (h.b8.symm.trans h.b10) (by simp))).trans h.b10,
    (sother _ (fun e => by subst e; exact absurd (h.b8.symm.trans h.b11) (by simp))).trans h.b11, below_put (grownBy_setCell'' W p8 i _) h.below (Nat.le_refl _) hp8⟩
def graphOf.T7 : Bool × List (List Nat × List Nat) := (true, [([], []), ([], []), ([], []), ([], []), ([3], [3]), ([4, 4], [4]), ([], []), ([6], [6]), ([7, 7], [7]), ([0, 1, 2, 5, 8], [0, 1, 2, 5, 8]), ([9], [9]), ([], []), ([11, 10, 0, 1, 2, 3, 4, 5, 6, 7, 8, 9, 10, 11], [10, 11])])
def graphOf.B7 : List Nat := [0, 0, 0, 0, 8, 24, 0, 64, 192, 511, 1023, 0, 4095]
theorem graphOf.tab7 : Go.Proofs.YtpdgnncnejmhfaaDoorW.PrintLast.rtab .any (Go.Proofs.YtpdgnncnejmhfaaDoorW.PrintLast.opsOf Tryd.f21 7) = graphOf.T7 := by kernel_rfl
theorem graphOf.bits7 : Go.Proofs.YtpdgnncnejmhfaaDoorW.PrintLast.waitsOk graphOf.T7.2 graphOf.B7 = true := by kernel_rfl
def gframe (f : Nat → Value) (v4 v8 v41 v42 v43 : Value) : Array Value := #[f 0, f 1, f 2, f 3, v4, f 5, f 6, f 7, v8, f 9, f 10, f 11, f 12, f 13, f 14, f 15, f 16, f 17, f 18, f 19, f 20, f 21, f 22, f 23, f 24, f 25, f 26, f 27, f 28, f 29, f 30, f 31, f 32, f 33, f 34, f 35, f 36, f 37, f 38, f 39, f 40, v41, v42, v43, f 44, f 45, f 46, f 47, f 48, f 49, f 50, f 51, f 52, f 53, f 54, f 55, f 56, f 57, f 58, f 59, f 60, f 61, f 62, f 63, f 64, f 65, f 66, f 67, f 68, f 69, f 70, f 71, f 72, f 73, f 74, f 75, f 76, f 77, f 78, f 79, f 80, f 81, f 82, f 83, f 84, f 85, f 86, f 87, f 88, f 89, f 90, f 91, f 92, f 93, f 94, f 95, f 96]
theorem frame_lit {T : Array Value} {v4 v8 v41 v42 v43 : Value} (hs : T.size = 97) (h4 : T[4]? = some v4) (h8 : T[8]? = some v8) (h41 : T[41]? = some v41) (h42 : T[42]? = some v42) (h43 : T[43]? = some v43) : ∃ f, T = gframe f v4 v8 v41 v42 v43 := by
  refine ⟨fun j => T.getD j undef, ?_⟩
  have h0 : T = ((List.range 97).map fun j => T.getD j undef).toArray := by
    apply Array.ext
    · simp [hs]
    · intro i h1 h2
      simp [Array.getD_eq_getD_getElem?, h1]
  have e (j : Nat) (v : Value) (h : T[j]? = some v) : v = T.getD j undef := by rw [Array.getD_eq_getD_getElem?, h]; rfl
  obtain rfl := e _ _ h4
  obtain rfl := e _ _ h8
  obtain rfl := e _ _ h41
  obtain rfl := e _ _ h42
  obtain rfl := e _ _ h43
  exact h0
set_option maxRecDepth 100000 in
set_option maxHeartbeats 8000000 in
theorem graphOf_yes (k : Nat) (A0 : Option Addr) (c0 : Nat) (l0 : List Tk) (N O : List Nat) (w : World) (hT : Tab w) (hr0 : k39.C w A0 l0.length l0) (hc0 : l0.length ≤ c0) (h8 : l0.length ≤ 8) (hN : N.length = l0.length) (hNb : below1 l0.length N) (hO : ∀ i ∈ O, i < l0.length) (hOl : O.length ≤ 8)
    (h : impl_needsOf.f k l0 = some (up N, true)) (ho : impl_order.f k (up N) = some (up O, ((2 ^ l0.length - 1 : Nat) : Int))) :
    Calls Tryd.prog 21 #[.slice A0 l0.length c0] w fun e w' => ∃ (b : Nat) (v : Value), e = .returned (.tuple #[.pointer (some ⟨b, 0, none⟩), .bool true]) ∧ Below w.heap.size w w' ∧ w.heap.size ≤ b ∧ IsG w' b ⟨l0, N, O, (reach N O l0.length).1, (reach N O l0.length).2⟩ ∧ w'.cell? ⟨b, 2, none⟩ = some v ∧ (Kd.int .i64).R 3 w' w.heap.size (fun _ => True) v (up O) ∧ (∀ W2 : World, k39.C W2 A0 l0.length l0 → (∀ k, w.heap.size ≤ k → k < w'.heap.size → W2.heap[k]? = w'.heap[k]?) → IsG W2 b ⟨l0, N, O, (reach N O l0.length).1, (reach N O l0.length).2⟩) := by
  have h' := Lib.hid h
  have ho' := Lib.hid ho
  clear h ho
  refine calls_marks Tryd.func21 rfl ?_
  simp only [Tryd.ntmps21, List.size_toArray, List.length_cons, List.length_nil, Nat.reduceAdd, Nat.reduceSub, Array.replicate_succ, Array.replicate_zero, List.push_toArray, List.append_toArray, List.nil_append, List.cons_append]
  go_wp2_with (first | (go_at_call 35; refine (impl_needsOf.calls k A0 c0 l0 _ _ _ hr0 hc0 h'.out).mono ?_; rintro e w1 ⟨v0, rfl, hR1, hB1⟩; obtain ⟨A1, c1, rfl, hl1', hC1⟩ := Kd.R_reads hR1; have hz1 := Lib.hid (up_length N)) | (go_at_call 36; refine (impl_order.calls k _ _ (up N) _ _ _ hC1 hl1' ho'.out).mono ?_; rintro e w2 ⟨v1, rfl, hR2, hB2⟩; obtain ⟨A2, c2, rfl, hl2', hC2⟩ := Kd.R_reads hR2) | (go_at_call 37; refine (everything_calls l0.length h8 _).mono ?_; rintro e w3 ⟨rfl, rfl⟩))
  have hmk := run_make_sets l0.length h8
  have HBs := Aside0.mk (below_step hB1 hB2)
  rename_i hK_
  refine wp_normal ?_
  -- R7
  refine start_ (n := 13) (S := fun w' => True) (ds := []) #[false, false, false, false, false, false, false, false, false, false, false, false, false] (by kernel_rfl) rfl rfl trivial (fun hHeld => ?_)
  refine with_tabW graphOf.tab7 graphOf.bits7 (fun HT_ HW_ => ?_)
  have HB : Below w.heap.size w w2.drew := below_drew HBs.out
  have HM : Below w2.heap.size w2 w2.drew := below_drew (Below.refl _ _)
  generalize w2.drew = wr at HB HM ⊢
  refine pure_ (i := 0) (N := some 30) (v := ?_) (a' := ?_) #[true, false, false, false, false, false, false, false, false, false, false, false, false] rfl rfl (any_of HT_.out (by kernel_rfl)) (fun _ _ _ h => h) (Or.inl ⟨by rfl, ?_⟩) ?_ ?_
  rotate_left
  · intro w'
    go_simp
    with_reducible rfl
  rotate_left
  · simp only [Act.put, List.setIfInBounds_toArray, List.set_cons_zero, List.set_cons_succ, i64_w, i32_w]
    rfl
  refine pure_ (i := 1) (N := some 31) (v := ?_) (a' := ?_) #[true, true, false, false, false, false, false, false, false, false, false, false, false] rfl rfl (any_of HT_.out (by kernel_rfl)) (fun _ _ _ h => h) (Or.inl ⟨by rfl, ?_⟩) ?_ ?_
  rotate_left
  · intro w'
    go_simp
    with_reducible rfl
  rotate_left
  · simp only [Act.put, List.setIfInBounds_toArray, List.set_cons_zero, List.set_cons_succ, i64_w, i32_w]
    rfl
  refine pure_ (i := 2) (N := some 32) (v := ?_) (a' := ?_) #[true, true, true, false, false, false, false, false, false, false, false, false, false] rfl rfl (any_of HT_.out (by kernel_rfl)) (fun _ _ _ h => h) (Or.inl ⟨by rfl, ?_⟩) ?_ ?_
  rotate_left
  · intro w'
    go_simp
    with_reducible rfl
  rotate_left
  · simp only [Act.put, List.setIfInBounds_toArray, List.set_cons_zero, List.set_cons_succ, i64_w, i32_w]
    rfl
  refine pure_ (i := 3) (N := some 33) (v := ?_) (a' := ?_) #[true, true, true, true, false, false, false, false, false, false, false, false, false] rfl rfl (any_of HT_.out (by kernel_rfl)) (fun _ _ _ h => h) (Or.inl ⟨by rfl, ?_⟩) ?_ ?_
  rotate_left
  · intro w'
    go_simp
    with_reducible rfl
  rotate_left
  · simp only [Act.put, List.setIfInBounds_toArray, List.set_cons_zero, List.set_cons_succ, i64_w, i32_w]
    rfl
  refine pure_ (i := 4) (N := some 34) (v := ?_) (a' := ?_) #[true, true, true, true, true, false, false, false, false, false, false, false, false] rfl rfl (any_of HT_.out (by kernel_rfl)) (fun _ _ _ h => h) (Or.inl ⟨by rfl, ?_⟩) ?_ ?_
  rotate_left
  · intro w'
    go_simp
    with_reducible rfl
  rotate_left
  · simp only [Act.put, List.setIfInBounds_toArray, List.set_cons_zero, List.set_cons_succ, i64_w, i32_w]
    rfl
  refine pure_ (i := 6) (N := some 36) (v := ?_) (a' := ?_) #[true, true, true, true, true, false, true, false, false, false, false, false, false] rfl rfl (any_of HT_.out (by kernel_rfl)) (fun _ _ _ h => h) (Or.inl ⟨by rfl, ?_⟩) ?_ ?_
  rotate_left
  · intro w'
    go_simp
    with_reducible rfl
  rotate_left
  · simp only [Act.put, List.setIfInBounds_toArray, List.set_cons_zero, List.set_cons_succ, i64_w, i32_w]
    rfl
  refine pure_ (i := 7) (N := some 37) (v := ?_) (a' := ?_) #[true, true, true, true, true, false, true, true, false, false, false, false, false] rfl rfl (any_of HT_.out (by kernel_rfl)) (fun _ _ _ h => h) (Or.inl ⟨by rfl, ?_⟩) ?_ ?_
  rotate_left
  · intro w'
    go_simp
    with_reducible rfl
  rotate_left
  · simp only [Act.put, List.setIfInBounds_toArray, List.set_cons_zero, List.set_cons_succ, i64_w, i32_w]
    rfl
  refine inv_at [5, 8, 9, 10, 11, 12] (fun a0_ b a w' => ∃ (p5 : Nat) (p8 : Nat) (p10 : Nat) (p11 : Nat) (m5_ : Value) (m8_ : Value) (m9_ : Value) (m10_ : Value) (m11_ : Value), a = putSel a0_ b [(5, 35, m5_), (8, 38, m8_), (9, 39, m9_), (10, 40, m10_), (11, 8, m11_)] ∧ (Below w.heap.size w w') ∧ (Below w2.heap.size w2 w') ∧ (b 5 = true → w'.heap[p5]? = some (.cells (zcells l0.length) 51 (0, 0)) ∧ w2.heap.size ≤ p5) ∧ (b 8 = true → w'.heap[p8]? = some (.cells (zcells l0.length) 51 (0, 0)) ∧ w2.heap.size ≤ p8) ∧ (b 5 = true → b 8 = true → p5 ≠ p8) ∧ (b 10 = true → w'.heap[p10]? = some (.cells #[.slice A0 l0.length c0, .slice A1 (up N).length c1, .slice A2 (up O).length c2, (.slice (some ⟨p5, 0, none⟩) l0.length l0.length), (.slice (some ⟨p8, 0, none⟩) l0.length l0.length)] 47 (0, 0)) ∧ w2.heap.size ≤ p10) ∧ (b 11 = true → b 12 = false → Boxed w' p11 42 (.pointer none) ∧ w2.heap.size ≤ p11) ∧ (b 12 = true → Boxed w' p11 42 (.pointer (some ⟨p10, 0, none⟩)) ∧ w2.heap.size ≤ p11) ∧ (b 5 = true → (m5_ : Value) = .slice (some ⟨p5, 0, none⟩) l0.length l0.length) ∧ (b 8 = true → (m8_ : Value) = .slice (some ⟨p8, 0, none⟩) l0.length l0.length) ∧ (b 9 = true → (m9_ : Value) = .agg #[.slice A0 l0.length c0, .slice A1 (up N).length c1, .slice A2 (up O).length c2, (.slice (some ⟨p5, 0, none⟩) l0.length l0.length), (.slice (some ⟨p8, 0, none⟩) l0.length l0.length)]) ∧ (b 10 = true → (m10_ : Value) = .pointer (some ⟨p10, 0, none⟩)) ∧ (b 11 = true → (m11_ : Value) = .pointer (some ⟨p11, 0, none⟩))) HT_.out HW_.out (by kernel_rfl) (by kernel_rfl) ?_ ?_ ?_
  · exact ⟨0, 0, 0, 0, .bool false, .bool false, .bool false, .bool false, .bool false, by simp only [putSel, Bool.false_eq_true, if_false], HB, HM, fun h_ => absurd h_ (by decide), fun h_ => absurd h_ (by decide), fun h_ => absurd h_ (by decide), fun h_ => absurd h_ (by decide), fun h_ => absurd h_ (by decide), fun h_ => absurd h_ (by decide), fun h_ => absurd h_ (by decide), fun h_ => absurd h_ (by decide), fun h_ => absurd h_ (by decide), fun h_ => absurd h_ (by decide), fun h_ => absurd h_ (by decide)⟩
  · skip
    clear HB HM
    refine steps_cons ?_ ?_
    · rintro b a w' ⟨p5, p8, p10, p11, m5_, m8_, m9_, m10_, m11_, ha, Q_HB, Q_HM, Q_G5, Q_G8, Q_N58, Q_G10, Q_G11, Q_G12, Q_X5_, Q_X8_, Q_X9_, Q_X10_, Q_X11_⟩ hb_ hon hoff
      refine ⟨_, rfl, fun K hK => ?_⟩
      have e34 : a.tmps[34]? = some (.int .i64 (l0.length : Int)) := by rw [ha]; exact (putSel_off rfl).trans rfl
      replace ha := Aside0.mk ha
      have HB := Aside0.mk Q_HB
      have HM := Aside0.mk Q_HM
      refine value_ (w1 := w'.alloc (.cells (zcells l0.length) 51)) (v := .slice (some ⟨w'.heap.size, 0, none⟩) l0.length l0.length) (by rfl) rfl ?_ ?_
      · exact exec_make rfl (by simp only [Act.eval, Array.getD_eq_getD_getElem?, e34, Option.getD_some]; exact hmk w')
      refine hK.out _ _ ⟨w'.heap.size, p8, p10, p11, (.slice (some ⟨w'.heap.size, 0, none⟩) l0.length l0.length), m8_, m9_, m10_, m11_, (by rw [ha.out]; exact putSel_upk 0 hb_ rfl rfl rfl), HB.out.alloc HB.out.size (.cells (zcells l0.length) 51), HM.out.alloc HM.out.size (.cells (zcells l0.length) 51), fun _ => ⟨cells_new w' _, HM.out.size⟩, fun h0_ => ⟨cells_alloc (Q_G8 h0_).1 _, (Q_G8 h0_).2⟩, fun _ _ => by (rename_i h5_ h8_; exact Nat.ne_of_gt (cells_lt (Q_G8 h8_).1)), fun h0_ => absurd ((hoff 10 (by kernel_rfl)).symm.trans h0_) (by decide), fun h0_ h1_ => ⟨cells_alloc (Q_G11 h0_ h1_).1 _, (Q_G11 h0_ h1_).2⟩, fun h0_ => absurd ((hoff 12 (by kernel_rfl)).symm.trans h0_) (by decide), fun _ => rfl, Q_X8_, fun h0_ => absurd ((hoff 9 (by kernel_rfl)).symm.trans h0_) (by decide), fun h0_ => absurd ((hoff 10 (by kernel_rfl)).symm.trans h0_) (by decide), Q_X11_⟩
    refine steps_cons ?_ ?_
    · rintro b a w' ⟨p5, p8, p10, p11, m5_, m8_, m9_, m10_, m11_, ha, Q_HB, Q_HM, Q_G5, Q_G8, Q_N58, Q_G10, Q_G11, Q_G12, Q_X5_, Q_X8_, Q_X9_, Q_X10_, Q_X11_⟩ hb_ hon hoff
      refine ⟨_, rfl, fun K hK => ?_⟩
      have e37 : a.tmps[37]? = some (.int .i64 (l0.length : Int)) := by rw [ha]; exact (putSel_off rfl).trans rfl
      replace ha := Aside0.mk ha
      have HB := Aside0.mk Q_HB
      have HM := Aside0.mk Q_HM
      refine value_ (w1 := w'.alloc (.cells (zcells l0.length) 51)) (v := .slice (some ⟨w'.heap.size, 0, none⟩) l0.length l0.length) (by rfl) rfl ?_ ?_
      · exact exec_make rfl (by simp only [Act.eval, Array.getD_eq_getD_getElem?, e37, Option.getD_some]; exact hmk w')
      refine hK.out _ _ ⟨p5, w'.heap.size, p10, p11, m5_, (.slice (some ⟨w'.heap.size, 0, none⟩) l0.length l0.length), m9_, m10_, m11_, (by rw [ha.out]; exact putSel_upk 1 hb_ rfl rfl rfl), HB.out.alloc HB.out.size (.cells (zcells l0.length) 51), HM.out.alloc HM.out.size (.cells (zcells l0.length) 51), fun h0_ => ⟨cells_alloc (Q_G5 h0_).1 _, (Q_G5 h0_).2⟩, fun _ => ⟨cells_new w' _, HM.out.size⟩, fun _ _ => by (rename_i h5_ h8_; exact Nat.ne_of_lt (cells_lt (Q_G5 h5_).1)), fun h0_ => absurd ((hoff 10 (by kernel_rfl)).symm.trans h0_) (by decide), fun h0_ h1_ => ⟨cells_alloc (Q_G11 h0_ h1_).1 _, (Q_G11 h0_ h1_).2⟩, fun h0_ => absurd ((hoff 12 (by kernel_rfl)).symm.trans h0_) (by decide), Q_X5_, fun _ => rfl, fun h0_ => absurd ((hoff 9 (by kernel_rfl)).symm.trans h0_) (by decide), fun h0_ => absurd ((hoff 10 (by kernel_rfl)).symm.trans h0_) (by decide), Q_X11_⟩
    refine steps_cons ?_ ?_
    · rintro b a w' ⟨p5, p8, p10, p11, m5_, m8_, m9_, m10_, m11_, ha, Q_HB, Q_HM, Q_G5, Q_G8, Q_N58, Q_G10, Q_G11, Q_G12, Q_X5_, Q_X8_, Q_X9_, Q_X10_, Q_X11_⟩ hb_ hon hoff
      refine ⟨_, rfl, fun K hK => ?_⟩
      have e30 : a.tmps[30]? = some (.slice A0 l0.length c0) := by rw [ha]; exact (putSel_off rfl).trans rfl
      have e31 : a.tmps[31]? = some (.slice A1 (up N).length c1) := by rw [ha]; exact (putSel_off rfl).trans rfl
      have e32 : a.tmps[32]? = some (.slice A2 (up O).length c2) := by rw [ha]; exact (putSel_off rfl).trans rfl
      have e35 : a.tmps[35]? = some (m5_) := by rw [ha]; exact putSel_on (e := (5, 35, m5_)) 0 rfl rfl (hon 5 (by kernel_rfl)) rfl
      rw [Q_X5_ (hon 5 (by kernel_rfl))] at e35
      have e38 : a.tmps[38]? = some (m8_) := by rw [ha]; exact putSel_on (e := (8, 38, m8_)) 1 rfl rfl (hon 8 (by kernel_rfl)) rfl
      rw [Q_X8_ (hon 8 (by kernel_rfl))] at e38
      replace ha := Aside0.mk ha
      have HB := Aside0.mk Q_HB
      have HM := Aside0.mk Q_HM
      have G5 := Aside0.mk (Q_G5 (hon 5 (by kernel_rfl)))
      have G8 := Aside0.mk (Q_G8 (hon 8 (by kernel_rfl)))
      have N58 := Aside0.mk (Q_N58 (hon 5 (by kernel_rfl)) (hon 8 (by kernel_rfl)))
      refine value_ (w1 := w') (v := .agg #[.slice A0 l0.length c0, .slice A1 (up N).length c1, .slice A2 (up O).length c2, (.slice (some ⟨p5, 0, none⟩) l0.length l0.length), (.slice (some ⟨p8, 0, none⟩) l0.length l0.length)]) (by rfl) rfl ?_ ?_
      · go_simp
        (try simp only [i64_w])
        try rfl
      refine hK.out _ _ ⟨p5, p8, p10, p11, m5_, m8_, (.agg #[.slice A0 l0.length c0, .slice A1 (up N).length c1, .slice A2 (up O).length c2, (.slice (some ⟨p5, 0, none⟩) l0.length l0.length), (.slice (some ⟨p8, 0, none⟩) l0.length l0.length)]), m10_, m11_, (by rw [ha.out]; exact putSel_upk 2 hb_ rfl rfl rfl), Q_HB, Q_HM, Q_G5, Q_G8, Q_N58, fun h0_ => absurd ((hoff 10 (by kernel_rfl)).symm.trans h0_) (by decide), Q_G11, fun h0_ => absurd ((hoff 12 (by kernel_rfl)).symm.trans h0_) (by decide), Q_X5_, Q_X8_, fun _ => rfl, fun h0_ => absurd ((hoff 10 (by kernel_rfl)).symm.trans h0_) (by decide), Q_X11_⟩
    refine steps_cons ?_ ?_
    · rintro b a w' ⟨p5, p8, p10, p11, m5_, m8_, m9_, m10_, m11_, ha, Q_HB, Q_HM, Q_G5, Q_G8, Q_N58, Q_G10, Q_G11, Q_G12, Q_X5_, Q_X8_, Q_X9_, Q_X10_, Q_X11_⟩ hb_ hon hoff
      refine ⟨_, rfl, fun K hK => ?_⟩
      have e39 : a.tmps[39]? = some (m9_) := by rw [ha]; exact putSel_on (e := (9, 39, m9_)) 2 rfl rfl (hon 9 (by kernel_rfl)) rfl
      rw [Q_X9_ (hon 9 (by kernel_rfl))] at e39
      replace ha := Aside0.mk ha
      have HB := Aside0.mk Q_HB
      have HM := Aside0.mk Q_HM
      have G5 := Aside0.mk (Q_G5 (hon 5 (by kernel_rfl)))
      have G8 := Aside0.mk (Q_G8 (hon 8 (by kernel_rfl)))
      have N58 := Aside0.mk (Q_N58 (hon 5 (by kernel_rfl)) (hon 8 (by kernel_rfl)))
      refine value_ (w1 := w'.alloc (.cells #[.slice A0 l0.length c0, .slice A1 (up N).length c1, .slice A2 (up O).length c2, (.slice (some ⟨p5, 0, none⟩) l0.length l0.length), (.slice (some ⟨p8, 0, none⟩) l0.length l0.length)] 47)) (v := .pointer (some ⟨w'.heap.size, 0, none⟩)) (by rfl) rfl ?_ ?_
      · go_simp; try rfl
      refine hK.out _ _ ⟨p5, p8, w'.heap.size, p11, m5_, m8_, m9_, (.pointer (some ⟨w'.heap.size, 0, none⟩)), m11_, (by rw [ha.out]; exact putSel_upk 3 hb_ rfl rfl rfl), HB.out.alloc HB.out.size (.cells #[.slice A0 l0.length c0, .slice A1 (up N).length c1, .slice A2 (up O).length c2, (.slice (some ⟨p5, 0, none⟩) l0.length l0.length), (.slice (some ⟨p8, 0, none⟩) l0.length l0.length)] 47), HM.out.alloc HM.out.size (.cells #[.slice A0 l0.length c0, .slice A1 (up N).length c1, .slice A2 (up O).length c2, (.slice (some ⟨p5, 0, none⟩) l0.length l0.length), (.slice (some ⟨p8, 0, none⟩) l0.length l0.length)] 47), fun _ => ⟨cells_alloc G5.out.1 _, G5.out.2⟩, fun _ => ⟨cells_alloc G8.out.1 _, G8.out.2⟩, Q_N58, fun _ => ⟨cells_new w' _, HM.out.size⟩, fun h0_ h1_ => ⟨cells_alloc (Q_G11 h0_ h1_).1 _, (Q_G11 h0_ h1_).2⟩, fun h0_ => absurd ((hoff 12 (by kernel_rfl)).symm.trans h0_) (by decide), Q_X5_, Q_X8_, Q_X9_, fun _ => rfl, Q_X11_⟩
    refine steps_cons ?_ ?_
    · rintro b a w' ⟨p5, p8, p10, p11, m5_, m8_, m9_, m10_, m11_, ha, Q_HB, Q_HM, Q_G5, Q_G8, Q_N58, Q_G10, Q_G11, Q_G12, Q_X5_, Q_X8_, Q_X9_, Q_X10_, Q_X11_⟩ hb_ hon hoff
      refine ⟨_, rfl, fun K hK => ?_⟩
      replace ha := Aside0.mk ha
      have HB := Aside0.mk Q_HB
      have HM := Aside0.mk Q_HM
      refine value_ (w1 := w'.alloc (.cells #[.pointer none] 42)) (v := .pointer (some ⟨w'.heap.size, 0, none⟩)) (by rfl) rfl ?_ ?_
      · go_simp; try rfl
      refine hK.out _ _ ⟨p5, p8, p10, w'.heap.size, m5_, m8_, m9_, m10_, (.pointer (some ⟨w'.heap.size, 0, none⟩)), (by rw [ha.out]; exact putSel_upk 4 hb_ rfl rfl rfl), HB.out.alloc HB.out.size (.cells #[.pointer none] 42), HM.out.alloc HM.out.size (.cells #[.pointer none] 42), fun h0_ => ⟨cells_alloc (Q_G5 h0_).1 _, (Q_G5 h0_).2⟩, fun h0_ => ⟨cells_alloc (Q_G8 h0_).1 _, (Q_G8 h0_).2⟩, Q_N58, fun h0_ => ⟨cells_alloc (Q_G10 h0_).1 _, (Q_G10 h0_).2⟩, fun _ _ => ⟨cells_new w' _, HM.out.size⟩, fun h0_ => absurd ((hoff 12 (by kernel_rfl)).symm.trans h0_) (by decide), Q_X5_, Q_X8_, Q_X9_, Q_X10_, fun _ => rfl⟩
    refine steps_cons ?_ ?_
    · rintro b a w' ⟨p5, p8, p10, p11, m5_, m8_, m9_, m10_, m11_, ha, Q_HB, Q_HM, Q_G5, Q_G8, Q_N58, Q_G10, Q_G11, Q_G12, Q_X5_, Q_X8_, Q_X9_, Q_X10_, Q_X11_⟩ hb_ hon hoff
      refine ⟨_, rfl, fun K hK => ?_⟩
      have e8 : a.tmps[8]? = some (m11_) := by rw [ha]; exact putSel_on (e := (11, 8, m11_)) 4 rfl rfl (hon 11 (by kernel_rfl)) rfl
      rw [Q_X11_ (hon 11 (by kernel_rfl))] at e8
      have e40 : a.tmps[40]? = some (m10_) := by rw [ha]; exact putSel_on (e := (10, 40, m10_)) 3 rfl rfl (hon 10 (by kernel_rfl)) rfl
      rw [Q_X10_ (hon 10 (by kernel_rfl))] at e40
      replace ha := Aside0.mk ha
      have HB := Aside0.mk Q_HB
      have HM := Aside0.mk Q_HM
      have G5 := Aside0.mk (Q_G5 (hon 5 (by kernel_rfl)))
      have G8 := Aside0.mk (Q_G8 (hon 8 (by kernel_rfl)))
      have N58 := Aside0.mk (Q_N58 (hon 5 (by kernel_rfl)) (hon 8 (by kernel_rfl)))
      have G10 := Aside0.mk (Q_G10 (hon 10 (by kernel_rfl)))
      have G11 := Aside0.mk (Q_G11 (hon 11 (by kernel_rfl)) hb_)
      have hcg := G11.out.1.cell
      have hfg := G11.out.1.frozen
      have hb1 := grownBy_setCell' w' p11 (.pointer (some ⟨p10, 0, none⟩))
      have hk1 := G11.out.1.set (.pointer (some ⟨p10, 0, none⟩))
      refine skip_ (w1 := w'.setCell ⟨p11, 0, none⟩ (.pointer (some ⟨p10, 0, none⟩))) (by rfl) rfl ?_ ?_
      · go_simp
      replace HB := Aside0.mk (below_put hb1 HB.out (Nat.le_refl _) (Nat.le_trans HBs.out.size G11.out.2))
      replace HM := Aside0.mk (below_put hb1 HM.out (Nat.le_refl _) G11.out.2)
      refine hK.out _ _ ⟨p5, p8, p10, p11, m5_, m8_, m9_, m10_, m11_, (by rw [ha.out]; exact putSel_none (v := undef) rfl), HB.out, HM.out, fun _ => ⟨(hb1.block p5 (cells_lt G5.out.1) (fun e => by injection e with e; subst e; exact absurd (G5.out.1.symm.trans G11.out.1) (by simp))).trans G5.out.1, G5.out.2⟩, fun _ => ⟨(hb1.block p8 (cells_lt G8.out.1) (fun e => by injection e with e; subst e; exact absurd (G8.out.1.symm.trans G11.out.1) (by simp))).trans G8.out.1, G8.out.2⟩, Q_N58, fun _ => ⟨(hb1.block p10 (cells_lt G10.out.1) (fun e => by injection e with e; subst e; exact absurd (G10.out.1.symm.trans G11.out.1) (by simp))).trans G10.out.1, G10.out.2⟩, fun _ h1_ => absurd ((up_self b 12).symm.trans h1_) (by decide), fun _ => ⟨hk1, G11.out.2⟩, Q_X5_, Q_X8_, Q_X9_, Q_X10_, Q_X11_⟩
    exact steps_nil
  · rintro b a w' hall ⟨p5, p8, p10, p11, m5_, m8_, m9_, m10_, m11_, ha, Q_HB, Q_HM, Q_G5, Q_G8, Q_N58, Q_G10, Q_G11, Q_G12, Q_X5_, Q_X8_, Q_X9_, Q_X10_, Q_X11_⟩
    clear HB HM
    have hb5_ := hall 5 (by kernel_rfl)
    have hb8_ := hall 8 (by kernel_rfl)
    have hb9_ := hall 9 (by kernel_rfl)
    have hb10_ := hall 10 (by kernel_rfl)
    have hb11_ := hall 11 (by kernel_rfl)
    have hb12_ := hall 12 (by kernel_rfl)
    subst ha
    obtain rfl := Q_X5_ hb5_
    obtain rfl := Q_X8_ hb8_
    obtain rfl := Q_X9_ hb9_
    obtain rfl := Q_X10_ hb10_
    obtain rfl := Q_X11_ hb11_
    simp only [putSel, hb5_, hb8_, hb9_, hb10_, hb11_, hb12_, if_true, Act.put, List.setIfInBounds_toArray, List.set_cons_zero, List.set_cons_succ]
    have HB := Aside0.mk Q_HB
    clear Q_HB
    have HM := Aside0.mk Q_HM
    clear Q_HM
    have G5 := Aside0.mk (Q_G5 hb5_)
    clear Q_G5
    have G8 := Aside0.mk (Q_G8 hb8_)
    clear Q_G8
    have N58 := Aside0.mk (Q_N58 hb5_ hb8_)
    clear Q_N58
    have G10 := Aside0.mk (Q_G10 hb10_)
    clear Q_G10
    clear Q_G11
    have G12 := Aside0.mk (Q_G12 hb12_)
    clear Q_G12
    clear hall hb5_ hb8_ hb9_ hb10_ hb11_ hb12_
  -- R7 END
    refine hK_ _ _ ?_
    clear hK_ hmk
    have hlO := Lib.hid (up_length O)
    have hG0 : GI w2 p5 p8 p10 p11 #[.slice A0 l0.length c0, .slice A1 (up N).length c1, .slice A2 (up O).length c2, .slice (some ⟨p5, 0, none⟩) l0.length l0.length, .slice (some ⟨p8, 0, none⟩) l0.length l0.length] w' (reach N [] l0.length).1 (reach N [] l0.length).2 :=
      ⟨by rw [reach, List.foldl_nil, ← zcells_eq]; exact G5.out.1, by rw [reach, List.foldl_nil, ← zcells_eq]; exact G8.out.1, G10.out.1, G12.out.1, HM.out⟩
    have HN := Aside0.mk (show p5 ≠ p8 ∧ w2.heap.size ≤ p5 ∧ w2.heap.size ≤ p8 ∧ w2.heap.size ≤ p10 ∧ w2.heap.size ≤ p11 from ⟨N58.out, G5.out.2, G8.out.2, G10.out.2, G12.out.2⟩)
    clear G5 G8 N58 G10 G12 HM HB
    have HG0 := Aside0.mk hG0
    clear hG0
    go_wp2
    refine wp_loop_ghost_k (fun n a W => ∃ pre suf, O = pre ++ suf ∧ n = suf.length ∧ a.tmps.size = 97 ∧ a.tmps[4]? = some (.slice A1 (up N).length c1) ∧ a.tmps[8]? = some (.pointer (some ⟨p11, 0, none⟩)) ∧ a.tmps[41]? = some (.slice A2 (up O).length c2) ∧ a.tmps[42]? = some (.int .i64 ((up O).length : Int)) ∧ a.tmps[43]? = some (.int .i64 (pre.length : Int)) ∧ (∃ hi, Marks w2.heap.size hi W a.defers ∧ w2.heap.size ≤ hi ∧ hi ≤ W.heap.size) ∧ GI w2 p5 p8 p10 p11 #[.slice A0 l0.length c0, .slice A1 (up N).length c1, .slice A2 (up O).length c2, .slice (some ⟨p5, 0, none⟩) l0.length l0.length, .slice (some ⟨p8, 0, none⟩) l0.length l0.length] W (reach N pre l0.length).1 (reach N pre l0.length).2) O.length ⟨[], O, rfl, rfl, rfl, rfl, rfl, rfl, rfl, rfl, ⟨_, Marks.nil _ w'.heap.size _, HG0.out.below.size, Nat.le_refl _⟩, HG0.out⟩ ?_
    rintro n ⟨tmps, ds⟩ W ⟨pre, suf, hO_, rfl, hsz, h4, h8', h41, h42, h43, ⟨hi, hM, hlo, hhi⟩, hG⟩ J K hJ hK
    generalize hj : (pre.length : Int) = j at h43
    obtain ⟨f, rfl⟩ := frame_lit hsz h4 h8' h41 h42 h43
    clear hsz h4 h8' h41 h42 h43 HG0
    unfold gframe
    have hO' := Lib.hid hO_
    clear hO_
    have HM := Aside0.mk hM
    have HG := Aside0.mk hG
    clear hM hG
    cases suf with
    | nil =>
      have hlt : decide (j < ((up O).length : Int)) = false := by
        rw [← hj, up_length, hO'.out]; simp
      have hc11 := HG.out.b11.cell
      go_wp2
      refine leave_ret HM.out (fun W => results_tmp2 rfl _ _ _) ?_
      intro W' ht
      have hpre : pre = O := by rw [hO'.out]; simp
      subst hpre
      have hG := HG.out.tame (Nat.le_refl _) ht
      have hBw := below_step HBs.out hG.below
      have hle := HBs.out.size
      have h10 := hG.b10
      have hl1 : (reach N pre l0.length).1.length = l0.length := reach_len1 N pre l0.length
      have hl2 : (reach N pre l0.length).2.length = l0.length := reach_len2 N pre l0.length
      refine ⟨p10, rfl, hBw, Nat.le_trans hle HN.out.2.2.2.1, ⟨A0, A1, A2, some ⟨p5, 0, none⟩, some ⟨p8, 0, none⟩, c0, c1, c2, l0.length, l0.length, ?_, ⟨hc0, Kd.C_below hr0 hBw⟩, ⟨by rw [← up_length]; exact hl1', ?_⟩, ⟨by rw [← up_length]; exact hl2', ?_⟩, ⟨Nat.le_of_eq hl1, C_scells hG.b5 (Nat.le_trans (Nat.le_of_eq hl1) h8)⟩, ⟨Nat.le_of_eq hl2, C_scells hG.b8 (Nat.le_trans (Nat.le_of_eq hl2) h8)⟩⟩, .slice A2 (up pre).length c2, ?_, ?_, ?_⟩
      · rw [h10, up_length, up_length, hl1, hl2]
      · rw [← up_length N]; exact Kd.C_below hC1 (below_step hB2 hG.below)
      · rw [← up_length pre]; exact Kd.C_below hC2 hG.below
      · simp [World.cell?, h10]
      · exact Kd.R_below (Kd.R_lower hR2 hB1.size) hG.below
      · intro W2 hC2' hS
        have hRn := Kd.R_move (Kd.R_bound (Kd.R_below hR1 (below_step hB2 hG.below))) (fun k hk => hS k hk.2.1 hk.2.2.1)
        have hRo := Kd.R_move (Kd.R_bound (Kd.R_below (Kd.R_lower hR2 hB1.size) hG.below)) (fun k hk => hS k hk.2.1 hk.2.2.1)
        have k5 := (hS p5 (Nat.le_trans hle HN.out.2.1) (cells_lt hG.b5)).trans hG.b5
        have k8 := (hS p8 (Nat.le_trans hle HN.out.2.2.1) (cells_lt hG.b8)).trans hG.b8
        have k10 := (hS p10 (Nat.le_trans hle HN.out.2.2.2.1) (cells_lt hG.b10)).trans hG.b10
        refine ⟨A0, A1, A2, some ⟨p5, 0, none⟩, some ⟨p8, 0, none⟩, c0, c1, c2, l0.length, l0.length, ?_, ⟨hc0, hC2'⟩, ⟨by rw [← up_length]; exact hl1', ?_⟩, ⟨by rw [← up_length]; exact hl2', ?_⟩, ⟨Nat.le_of_eq hl1, C_scells k5 (Nat.le_trans (Nat.le_of_eq hl1) h8)⟩, ⟨Nat.le_of_eq hl2, C_scells k8 (Nat.le_trans (Nat.le_of_eq hl2) h8)⟩⟩
        · rw [k10, up_length, up_length, hl1, hl2]
        · rw [← up_length N]; exact (Kd.R_reads' hRn).2.2
        · rw [← up_length pre]; exact (Kd.R_reads' hRo).2.2
    | cons i suf =>
      have hlt : decide (j < ((up O).length : Int)) = true := by
        rw [← hj, up_length, hO'.out]; simp; omega
      have q0 : j < ((up O).length : Int) := of_decide_eq_true hlt
      have p0 : 0 ≤ j := by omega
      obtain ⟨ad, e0, hx0⟩ := Kd.at_int (Kd.C_below hC2 HG.out.below) j p0 q0
      subst e0
      rw [rd_up (i := pre.length) hj.symm] at hx0
      have hi0 : O.getD pre.length 0 = i := by rw [hO'.out]; simp
      rw [hi0] at hx0
      have hil : i < l0.length := hO i (by rw [hO'.out]; simp)
      generalize hxi : ((i : Nat) : Int) = xi at hx0
      have p1 : 0 ≤ xi := by omega
      have q1 : xi < ((up N).length : Int) := by rw [up_length, hN]; omega
      obtain ⟨ad1, e1, hx1⟩ := Kd.at_int (Kd.C_below hC1 (below_step hB2 HG.out.below)) xi p1 q1
      subst e1
      rw [rd_up (i := i) hxi.symm] at hx1
      have hNi : N.getD i 0 < 2 ^ l0.length := getD_lt hNb i
      generalize hs_ : N.getD i 0 = s at hx1 hNi
      replace p0 := eq_true p0
      replace q0 := eq_true q0
      replace p1 := eq_true p1
      replace q1 := eq_true q1
      have hbi := Boxed.new W 3 (.int .i64 xi)
      have hG1 := HG.out.alloc (.cells #[.int .i64 xi] 3)
      have hM1 := HM.out.below ((Below.refl W.heap.size W).alloc (Nat.le_refl _) (.cells #[.int .i64 xi] 3))
      have hsz1 : (W.alloc (.cells #[.int .i64 xi] 3)).heap.size = W.heap.size + 1 := by simp
      replace hx1 := (((Below.refl W.heap.size W).alloc (Nat.le_refl _) (.cells #[.int .i64 xi] 3)).cell (World.block_lt_of_cell? W _ hx1)).trans hx1
      go_wp2_with (go_at_call 23; refine (all_calls s _).mono ?_; rintro e w' ⟨rfl, rfl⟩)
      clear hx1 hx0
      revert hbi hG1 hM1 hsz1
      generalize W.alloc (.cells #[.int .i64 xi] 3) = Wa
      intro hbi hG1 hM1 hsz1
      have hs2 := Boxed.new Wa 51 (.int .u16 (s : Int))
      rw [hsz1] at hs2
      have hbi2 := hbi.alloc (.cells #[.int .u16 (s : Int)] 51)
      have hG2 := hG1.alloc (.cells #[.int .u16 (s : Int)] 51)
      have hM2 := hM1.below ((Below.refl Wa.heap.size Wa).alloc (Nat.le_refl _) (.cells #[.int .u16 (s : Int)] 51))
      have hsz2 : (Wa.alloc (.cells #[.int .u16 (s : Int)] 51)).heap.size = W.heap.size + 1 + 1 := by simp [hsz1]
      revert hs2 hbi2 hG2 hM2 hsz2
      generalize Wa.alloc (.cells #[.int .u16 (s : Int)] 51) = Wb
      intro hs2 hbi2 hG2 hM2 hsz2
      clear hbi hG1 hM1
      have hNi2 : s < 256 := Nat.lt_of_lt_of_le hNi (pow8 h8)
      have hb1 : w2.heap.size ≤ Wb.heap.size := hG2.below.size
      have hb2 : hi ≤ Wb.heap.size := by omega
      refine wp_rangeSet Tab.tame (w := Wb) (w0 := Wb) (p := 52) (d := 11) rfl (enters_of Tryd.func39 (by kernel_rfl) rfl)
        (all_seq (W.heap.size + 1) s hNi2 Wb (hT.of (below_step HBs.out hG2.below)) hs2.cell) (Below.refl _ _) (by simp)
        (fun ys W' => ∃ zs : List Nat, (∀ z ∈ zs, z < l0.length) ∧ ys = up zs ∧ GI w2 p5 p8 p10 p11 #[.slice A0 l0.length c0, .slice (some ad1) (up N).length c1, .slice (some ad) (up O).length c2, .slice (some ⟨p5, 0, none⟩) l0.length l0.length, .slice (some ⟨p8, 0, none⟩) l0.length l0.length] W' (zs.foldl (bStep i) (reach N pre l0.length).1) (reach N pre l0.length).2 ∧ Boxed W' W.heap.size 3 (.int .i64 xi) ∧ Marks w2.heap.size hi W' ds ∧ Wb.heap.size ≤ W'.heap.size) (fun _ _ _ => False)
        (ownFrom_tame (fun ys W' W'' ht ⟨zs, z, a, b, c, d, e⟩ => ⟨zs, z, a, b.tame hb1 ht, ht.boxed c, d.tame ht hb2, Nat.le_trans e ht.size⟩)) (fun _ => ownFrom_tame (fun _ _ _ _ h => h))
        ⟨[], by simp, rfl, hG2, hbi2, hM2, Nat.le_refl _⟩ (fun ys W' ⟨_, _, _, b, _⟩ => hT.of (below_step HBs.out b.below)) ?body1 ?done1 (fun _ _ _ _ _ h _ => h.elim)
      case body1 =>
        rintro l pre1 x W1 hx ⟨zs, hzl, rfl, hG3, hbi3, hM3, hsz3⟩ hlt1
        gi_wp2
        obtain ⟨k0, hxk, hk0, _⟩ := mem_elems.1 hx
        have hkn : k0 < l0.length := by have := elems_lt hNi hx; omega
        have hL1 : (zs.foldl (bStep i) (reach N pre l0.length).1).length = l0.length := by rw [fold_len (bStep_length i), reach_len1]
        have hzs' : ∀ k ∈ zs, k < l0.length := hzl
        have hLb := bfold_below (i := i) (ks := zs) (reach_below hNb (O := pre) (fun x hx => hO x (by rw [hO'.out]; simp [hx]))).1 hzs'
        have hsi := getD_lt hLb i
        have hsk := getD_lt hLb k0
        have h256 := pow8 h8
        refine wpIn_still_tail 18 rfl (by kernel_rfl) (by kernel_rfl) (fun ⟨_, _, h⟩ => h) ?_
        change wpStill _ _ W1.drew (fun a' => wpList _ _ _ _ a' W1.drew) _ _
        have hdr : Below W1.heap.size W1 W1.drew := below_drew (Below.refl _ _)
        have hko := KeepsOthers.drew W1
        revert hdr hko
        generalize W1.drew = Wd
        intro hdr hko
        have hG4 := hG3.move hdr
        have hbi4 : Boxed Wd W.heap.size 3 (.int .i64 xi) := (hdr.block _ hbi3.lt).trans hbi3
        have hM4 := hM3.below hdr
        have hc11 := hG4.b11.cell
        obtain ⟨ad5, had5⟩ : ∃ ad5 : Addr, ad5 = ⟨p5, 0, none⟩ := ⟨_, rfl⟩
        have hc10 : Wd.cell? ⟨p10, 3, none⟩ = some (.slice (some ad5) l0.length l0.length) := by rw [had5]; simp [World.cell?, hG4.b10]
        have hci := hbi4.cell
        have hLi := scell hG4.b5 i (by omega)
        have hLk := scell hG4.b5 k0 (by omega)
        have hfi := sfrozen hG4.b5 i
        have hit : xi.toNat = i := by omega
        have hkt : x.toNat = k0 := by omega
        have hset := sset hG4.b5 i
        have hg5 := grownBy_setCell'' Wd p5 i
        generalize hsi_ : (zs.foldl (bStep i) (reach N pre l0.length).1).getD i 0 = si at *
        generalize hsk_ : (zs.foldl (bStep i) (reach N pre l0.length).1).getD k0 0 = sk at *
        have hw := (with_calls sk k0 (Nat.lt_of_lt_of_le hsk h256) hk0 Wd).mono (R' := fun e w' => e = .returned (.int .u16 ((sk ||| 2 ^ k0 : Nat) : Int)) ∧ w' = Wd) (fun _ _ h => ⟨h.1, h.2.symm⟩)
        have hr2 : sk ||| 2 ^ k0 < 2 ^ l0.length := Nat.or_lt_two_pow hsk (Nat.pow_lt_pow_right (by omega) hkn)
        generalize hr2_ : sk ||| 2 ^ k0 = r2 at hw hr2
        have hor := or_eq (a := si) (b := r2) (Nat.lt_of_lt_of_le hsi h256) (Nat.lt_of_lt_of_le hr2 h256)
        generalize hr3_ : si ||| r2 = r3 at hor
        rw [← add_own, ← had5, ← hit] at hLi hfi
        rw [← add_own, ← had5, ← hkt] at hLk
        rw [← hxk] at hw
        have p2 : (0 ≤ x) = True := eq_true (by omega)
        have q2 : (x < (l0.length : Int)) = True := eq_true (by omega)
        have q3 : (xi < (l0.length : Int)) = True := eq_true (by omega)
        have HH := Aside0.mk (show x = (k0 : Int) ∧ xi.toNat = i ∧ ad5 = ⟨p5, 0, none⟩ ∧ (zs.foldl (bStep i) (reach N pre l0.length).1).getD i 0 = si ∧ (zs.foldl (bStep i) (reach N pre l0.length).1).getD k0 0 = sk ∧ sk ||| 2 ^ k0 = r2 ∧ si ||| r2 = r3 from ⟨hxk, hit, had5, hsi_, hsk_, hr2_, hr3_⟩)
        clear hxk hit hkt had5 hsi_ hsk_ hr2_ hr3_ hxi hj hs_ hx
        simp only [List.take_succ_cons, List.take_zero, List.drop_succ_cons, List.drop_zero]
        repeat still_step
        still_call hw
        repeat still_step
        refine wpStill_nil ?_
        go_wp2
        obtain ⟨hxk, hit, had5, hsi_, hsk_, hr2_, hr3_⟩ := HH.out
        rw [show ad5.add xi.toNat = ⟨p5, i, none⟩ by rw [had5, add_own, hit]]
        have e2 : (zs ++ [k0]).foldl (bStep i) (reach N pre l0.length).1 = (zs.foldl (bStep i) (reach N pre l0.length).1).set i r3 := by
          rw [List.foldl_append, List.foldl_cons, List.foldl_nil, bStep, hsi_, hsk_, hr2_, hr3_]
        refine ⟨(hko.trans (KeepsOthers.setCell _ _ _)).from _, zs ++ [k0], ?_, ?_, ?_, ?_, ?_, ?_⟩
        · intro z hz
          rcases List.mem_append.1 hz with hz | hz
          · exact hzl z hz
          · rw [List.mem_singleton.1 hz]; exact hkn
        · rw [hxk]; simp [up]
        · rw [e2]; exact hG4.set5 (Ne.symm HN.out.1) HN.out.2.1 i r3
        · exact (sother _ (fun e => by rw [← e] at hG4; exact absurd (hG4.b5.symm.trans hbi4) (by simp))).trans hbi4
        · exact hM4.grow (grownBy_setCell'' _ _ _ _) (fun k hk => ⟨_, _, by cases hk; exact hG4.b5⟩)
        · exact Nat.le_trans hsz3 (Nat.le_trans hdr.size (KeepsOthers.setCell _ _ _).size)
      case done1 =>
        rintro D W2 hD ⟨zs, hzl, hzs, hG3, hbi3, hM3, hsz3⟩ hk
        obtain rfl : elemsN s = zs := up_inj hzs
        have hM4 := hM3.cons (Nat.le_trans hb2 hD) hlo hk
        have hL1 : ((elemsN s).foldl (bStep i) (reach N pre l0.length).1).length = l0.length := by rw [fold_len (bStep_length i), reach_len1]
        have hLb := bfold_below (i := i) (ks := elemsN s) (reach_below hNb (O := pre) (fun x hx => hO x (by rw [hO'.out]; simp [hx]))).1 hzl
        have HH := Aside0.mk hs_
        have HX := Aside0.mk hxi
        have HJ := Aside0.mk hj
        clear hzs hk hs_ hxi hj hs2 hbi2 hG2 hM2
        go_wp2
        refine wp_region_still_tail 7 rfl (by kernel_rfl) ?_
        change wpStill _ _ W2.drew (fun a' => wpList _ _ _ _ a' W2.drew) _ _
        have hdr : Below W2.heap.size W2 W2.drew := below_drew (Below.refl _ _)
        revert hdr
        generalize W2.drew = W3
        intro hdr
        have hG5 := hG3.move hdr
        have hbi5 : Boxed W3 W.heap.size 3 (.int .i64 xi) := (hdr.block _ hbi3.lt).trans hbi3
        have hM5 := hM4.below hdr
        have hsz5 : Wb.heap.size ≤ W3.heap.size := Nat.le_trans hsz3 hdr.size
        have hsz6 : W2.heap.size ≤ W3.heap.size := hdr.size
        have hb5 : w2.heap.size ≤ W2.heap.size := Nat.le_trans hb1 hsz3
        clear hG3 hbi3 hM3 hM4 hsz3
        have hc11 := hG5.b11.cell
        obtain ⟨ad5, had5⟩ : ∃ ad5 : Addr, ad5 = ⟨p5, 0, none⟩ := ⟨_, rfl⟩
        have hc10 : W3.cell? ⟨p10, 3, none⟩ = some (.slice (some ad5) l0.length l0.length) := by rw [had5]; simp [World.cell?, hG5.b10]
        have hci := hbi5.cell
        have hLi := scell hG5.b5 i (by omega)
        rw [← add_own, ← had5, show i = xi.toNat by have := HX.out; omega] at hLi
        have hxt : xi.toNat = i := by have := HX.out; omega
        have hsi := getD_lt hLb i
        rw [hxt] at hLi
        generalize hsb_ : ((elemsN s).foldl (bStep i) (reach N pre l0.length).1).getD i 0 = sb at hLi hsi
        rw [← hxt] at hLi
        have h256 := pow8 h8
        have q3 : (xi < (l0.length : Int)) = True := eq_true (by omega)
        have HS := Aside0.mk hsb_
        have HT := Aside0.mk hxt
        clear hsb_ hxt had5
        simp only [List.take_succ_cons, List.take_zero, List.drop_succ_cons, List.drop_zero]
        repeat still_step
        refine wpStill_nil ?_
        go_wp2_with (go_at_call 23; refine (all_calls sb _).mono ?_; rintro e w' ⟨rfl, rfl⟩)
        have hs6 := Boxed.new W3 51 (.int .u16 (sb : Int))
        have hbi6 := hbi5.alloc (.cells #[.int .u16 (sb : Int)] 51)
        have hG6 := hG5.alloc (.cells #[.int .u16 (sb : Int)] 51)
        have hM6 := hM5.below ((Below.refl W3.heap.size W3).alloc (Nat.le_refl _) (.cells #[.int .u16 (sb : Int)] 51))
        have hsz7 : (W3.alloc (.cells #[.int .u16 (sb : Int)] 51)).heap.size = W3.heap.size + 1 := by simp
        revert hs6 hbi6 hG6 hM6 hsz7
        generalize W3.alloc (.cells #[.int .u16 (sb : Int)] 51) = Wc
        intro hs6 hbi6 hG6 hM6 hsz7
        have hb3 : w2.heap.size ≤ Wc.heap.size := hG6.below.size
        have hb4 : W2.heap.size ≤ Wc.heap.size := by omega
        have hb6 : sb < 256 := Nat.lt_of_lt_of_le hsi h256
        refine wp_rangeSet Tab.tame (w := Wc) (w0 := Wc) (p := 79) (d := 12) rfl (enters_of Tryd.func39 (by kernel_rfl) rfl)
          (all_seq W3.heap.size sb hb6 Wc (hT.of (below_step HBs.out hG6.below)) hs6.cell) (Below.refl _ _) (by simp)
          (fun ys W' => ∃ zs : List Nat, (∀ z ∈ zs, z < l0.length) ∧ ys = up zs ∧ GI w2 p5 p8 p10 p11 #[.slice A0 l0.length c0, .slice (some ad1) (up N).length c1, .slice (some ad) (up O).length c2, .slice (some ⟨p5, 0, none⟩) l0.length l0.length, .slice (some ⟨p8, 0, none⟩) l0.length l0.length] W' ((elemsN s).foldl (bStep i) (reach N pre l0.length).1) (zs.foldl (aStep i) (reach N pre l0.length).2) ∧ Boxed W' W.heap.size 3 (.int .i64 xi) ∧ Marks w2.heap.size W2.heap.size W' ({ target := .collected D, args := #[] } :: ds) ∧ Wc.heap.size ≤ W'.heap.size) (fun _ _ _ => False)
          (ownFrom_tame (fun ys W' W'' ht ⟨zs, z, a, b, c, d, e⟩ => ⟨zs, z, a, b.tame hb3 ht, ht.boxed c, d.tame ht hb4, Nat.le_trans e ht.size⟩)) (fun _ => ownFrom_tame (fun _ _ _ _ h => h))
          ⟨[], by simp, rfl, hG6, hbi6, hM6, Nat.le_refl _⟩ (fun ys W' ⟨_, _, _, b, _⟩ => hT.of (below_step HBs.out b.below)) ?body2 ?done2 (fun _ _ _ _ _ h _ => h.elim)
        case body2 =>
          rintro l pre1 x W1 hx ⟨zs, hzl2, rfl, hG7, hbi7, hM7, hsz8⟩ hlt1
          gi_wp2
          obtain ⟨k0, hxk, hk0, _⟩ := mem_elems.1 hx
          have hkn : k0 < l0.length := by have := elems_lt hsi hx; omega
          have hL2 : (zs.foldl (aStep i) (reach N pre l0.length).2).length = l0.length := by rw [fold_len (aStep_length i), reach_len2]
          have hUb := afold_below (i := i) hil (ks := zs) (reach_below hNb (O := pre) (fun x hx => hO x (by rw [hO'.out]; simp [hx]))).2
          have hsk := getD_lt hUb k0
          refine wpIn_still_tail 15 rfl (by kernel_rfl) (by kernel_rfl) (fun ⟨_, _, h⟩ => h) ?_
          change wpStill _ _ W1.drew (fun a' => wpList _ _ _ _ a' W1.drew) _ _
          have hdr : Below W1.heap.size W1 W1.drew := below_drew (Below.refl _ _)
          have hko := KeepsOthers.drew W1
          revert hdr hko
          generalize W1.drew = Wd
          intro hdr hko
          have hG4 := hG7.move hdr
          have hbi4 : Boxed Wd W.heap.size 3 (.int .i64 xi) := (hdr.block _ hbi7.lt).trans hbi7
          have hM4 := hM7.below hdr
          have hc11 := hG4.b11.cell
          obtain ⟨ad8, had8⟩ : ∃ ad8 : Addr, ad8 = ⟨p8, 0, none⟩ := ⟨_, rfl⟩
          have hc10 : Wd.cell? ⟨p10, 4, none⟩ = some (.slice (some ad8) l0.length l0.length) := by rw [had8]; simp [World.cell?, hG4.b10]
          have hci := hbi4.cell
          have hLk := scell hG4.b8 k0 (by omega)
          have hfk := sfrozen hG4.b8 k0
          have hit := HT.out
          have hxi := HX.out
          have hkt : x.toNat = k0 := by omega
          generalize hsk_ : (zs.foldl (aStep i) (reach N pre l0.length).2).getD k0 0 = sk at *
          have hw := (with_calls sk i (Nat.lt_of_lt_of_le hsk h256) (by omega) Wd).mono (R' := fun e w' => e = .returned (.int .u16 ((sk ||| 2 ^ i : Nat) : Int)) ∧ w' = Wd) (fun _ _ h => ⟨h.1, h.2.symm⟩)
          generalize hr2_ : sk ||| 2 ^ i = r2 at hw
          rw [← add_own, ← had8, ← hkt] at hLk hfk
          rw [hxi] at hw
          have p2 : (0 ≤ x) = True := eq_true (by omega)
          have q2 : (x < (l0.length : Int)) = True := eq_true (by omega)
          have HH2 := Aside0.mk (show x = (k0 : Int) ∧ x.toNat = k0 ∧ ad8 = ⟨p8, 0, none⟩ ∧ (zs.foldl (aStep i) (reach N pre l0.length).2).getD k0 0 = sk ∧ sk ||| 2 ^ i = r2 from ⟨hxk, hkt, had8, hsk_, hr2_⟩)
          clear hxk hit hkt had8 hsk_ hr2_ hxi hx
          simp only [List.take_succ_cons, List.take_zero, List.drop_succ_cons, List.drop_zero]
          repeat still_step
          still_call hw
          repeat still_step
          refine wpStill_nil ?_
          go_wp2
          obtain ⟨hxk, hkt, had8, hsk_, hr2_⟩ := HH2.out
          rw [show ad8.add x.toNat = ⟨p8, k0, none⟩ by rw [had8, add_own, hkt]]
          have e2 : (zs ++ [k0]).foldl (aStep i) (reach N pre l0.length).2 = (zs.foldl (aStep i) (reach N pre l0.length).2).set k0 r2 := by
            rw [List.foldl_append, List.foldl_cons, List.foldl_nil, aStep, hsk_, hr2_]
          refine ⟨(hko.trans (KeepsOthers.setCell _ _ _)).from _, zs ++ [k0], ?_, ?_, ?_, ?_, ?_, ?_⟩
          · intro z hz
            rcases List.mem_append.1 hz with hz | hz
            · exact hzl2 z hz
            · rw [List.mem_singleton.1 hz]; exact hkn
          · rw [hxk]; simp [up]
          · rw [e2]; exact hG4.set8 HN.out.1 HN.out.2.2.1 k0 r2
          · exact (sother _ (fun e => by rw [← e] at hG4; exact absurd (hG4.b8.symm.trans hbi4) (by simp))).trans hbi4
          · exact hM4.grow (grownBy_setCell'' _ _ _ _) (fun k hk => ⟨_, _, by cases hk; exact hG4.b8⟩)
          · exact Nat.le_trans hsz8 (Nat.le_trans hdr.size (KeepsOthers.setCell _ _ _).size)
        case done2 =>
          rintro D2 W4 hD2 ⟨zs, hzl2, hzs, hG7, hbi7, hM7, hsz8⟩ hk
          obtain rfl : elemsN sb = zs := up_inj hzs
          have hM8 := hM7.cons (Nat.le_trans hb4 hD2) hb5 hk
          clear hzs hk hs6 hbi6 hG6 hM6
          go_wp2
          have hl8 : pre.length + suf.length + 1 ≤ 8 := by
            have := hOl
            rw [hO'.out] at this
            simp at this
            omega
          have hj1 : wrap64 (j + 1) = ((pre ++ [i]).length : Int) := by
            have := HJ.out
            rw [show wrap64 (j + 1) = j + 1 by unfold wrap64; omega, List.length_append]
            simp
            omega
          refine ⟨suf.length, by simp, hJ _ _ _ ⟨pre ++ [i], suf, by rw [hO'.out]; simp, rfl, rfl, rfl, rfl, rfl, rfl, by rw [← hj1]; rfl, ⟨_, hM8, hG7.below.size, Nat.le_refl _⟩, ?_⟩⟩
          rw [reach_snoc, rStep, HH.out, HS.out]
          exact hG7
end Go.Proofs.YtpdgnncnejmhfaaDoor.Core
end
section
namespace Go.Proofs.YtpdgnncnejmhfaaDoor.P
open Go.RowKit Go.Proofs.YtpdgnncnejmhfaaDoorW.PrintWords Go.Proofs.YtpdgnncnejmhfaaDoorW.PrintLast Go.Proofs.YtpdgnncnejmhfaaDoorW.PrintMore
attribute [local go_sem] max2_int min2_int max_two min_two max_three min_three max_four min_four   -- for this text's walks alone
set_option linter.unusedVariables false
set_option linter.unusedSimpArgs false
def laws_heldIntS.l0 : Nat → List Int → Int → Int → Option (Int)
  | 0, _, _, _ => none
  | k + 1, x0, x1, x5 => if x5 < (x0.length : Int) then (if 0 ≤ x5 then (if (rd x0 x5) = x1 then (laws_heldIntS.l0 k x0 (wrap64 (x1 + 1)) (wrap64 (x5 + 1))) else (some (-1))) else (none)) else (some x1)
def laws_heldIntS.f (k : Nat) (l0 : List Int) (a1 : Int) : Option (Int) := laws_heldIntS.l0 k l0 a1 0
theorem laws_heldIntS.mono_l : ∀ k, (∀ y0 y1 y2, LeO (laws_heldIntS.l0 k y0 y1 y2) (laws_heldIntS.l0 (k + 1) y0 y1 y2))
  | 0 => fun _ _ _ r h => by simp [laws_heldIntS.l0] at h
  | k + 1 => by
    have ih0 := laws_heldIntS.mono_l k
    · intro y0 y1 y2
      unfold laws_heldIntS.l0
      repeat' first
      | (with_reducible exact ih0 _ _ _)
      | (with_reducible exact LeO.refl _)
      | (with_reducible exact LeO.none _)
      | (with_reducible refine LeO.ite ?_ ?_)
      | (with_reducible refine LeO.bind ?_ (fun _ => ?_))
      | exact ih0 _ _ _
      | exact LeO.none _
      | refine LeO.ite ?_ ?_
      | refine LeO.bind ?_ (fun _ => ?_)
theorem laws_heldIntS.mono : ∀ a0 a1 k, LeO (laws_heldIntS.f k a0 a1) (laws_heldIntS.f (k + 1) a0 a1) := by
  intro a0 a1 k
  have ih0 := laws_heldIntS.mono_l k
  unfold laws_heldIntS.f
  repeat' first
      | (with_reducible exact ih0 _ _ _)
      | (with_reducible exact LeO.refl _)
      | (with_reducible exact LeO.none _)
      | (with_reducible refine LeO.ite ?_ ?_)
      | (with_reducible refine LeO.bind ?_ (fun _ => ?_))
      | exact ih0 _ _ _
      | exact LeO.none _
      | refine LeO.ite ?_ ?_
      | refine LeO.bind ?_ (fun _ => ?_)
set_option maxHeartbeats 8000000 in
set_option maxRecDepth 100000 in
theorem laws_heldIntS.calls (k : Nat) (A0 : Option Addr) (c0 : Nat) (l0 : List Int) (a1 : Int) (r : Int) (w : World) (hr0 : Kd.C (Kd.int .i64) w A0 l0.length l0) (hc0 : l0.length ≤ c0) (h : laws_heldIntS.f k l0 a1 = some r) :
    Calls Tryd.prog 27 #[.slice A0 l0.length c0, .int .i64 a1] w fun e w' => e = .returned (.int .i64 r) ∧ Drawn0 w w' := by
  have HR0 := Aside0.mk hr0
  have HC0 := Aside0.mk hc0
  clear hr0 hc0
  have H : (laws_heldIntS.l0 k l0 a1 0) = some r := h
  clear h
  have H' := Aside0.mk H
  clear H
  go_enter Tryd.func27, Tryd.ntmps27
  go_wp2
  go_loopg [1, 5] k (fun kq v1 v5 w' => ∃ (x1_1 : Int) (x5_1 : Int), v1 = .int .i64 x1_1 ∧ v5 = .int .i64 x5_1 ∧ Aside0 (laws_heldIntS.l0 kq l0 x1_1 x5_1 = some r) ∧ Aside0 (kq ≤ k) ∧ Drawn0 w w')
  case atStart => exact ⟨(a1), (0), (by first | rfl | (simp; done) | (simp [*]; done)), (by first | rfl | (simp; done) | (simp [*]; done)), H', ⟨Nat.le_refl _⟩, by repeat (first | exact Drawn0.refl _ | apply Drawn0.step)⟩
  case round =>
    clear H'
    try clear c2
    try clear p2
    obtain ⟨x1_1, x5_1, rfl, rfl, HA, HK1, ⟨m1, rfl⟩⟩ := hrel
    cases gk with
    | zero => exact absurd HA.out (by simp [laws_heldIntS.l0])
    | succ k1 =>
      have H := HA.out
      clear HA
      simp only [laws_heldIntS.l0] at H
      by_cases c3 : x5_1 < (l0.length : Int)
      · rw [if_pos c3] at H
        have c3b0 : decide (x5_1 < (l0.length : Int)) = true := decide_eq_true c3
        clear c3
        by_cases c4 : 0 ≤ x5_1
        · rw [if_pos c4] at H
          have c4b0 : decide (0 ≤ x5_1) = true := decide_eq_true c4
          clear c4
          by_cases c5 : (rd l0 x5_1) = x1_1
          · rw [if_pos c5] at H
            have c5b0 : ((rd l0 x5_1) == x1_1) = true := beq_iff_eq.mpr c5
            have c5b1 : ((rd l0 x5_1) != x1_1) = false := bne_eq_false_iff_eq.mpr c5
            clear c5
            have H' := Aside0.mk H
            clear H
            have p234 : 0 ≤ (x5_1 : Int) := of_decide_eq_true (by first | (with_reducible assumption) | assumption)
            have q234 : x5_1 < (l0.length : Int) := of_decide_eq_true (by first | (with_reducible assumption) | assumption)
            obtain ⟨ad234, e234, hx234_0⟩ := Kd.at_int HR0.out x5_1 p234 q234
            cases e234
            replace p234 := eq_true p234
            replace q234 := eq_true q234
            go_wp2
            go_roundg k1
            case measure => have := HK1.out; omega
            case rel => exact ⟨(wrap64 (x1_1 + 1)), (wrap64 (x5_1 + 1)), (by first | rfl | (simp; done) | (simp [*]; done)), (by first | rfl | (simp; done) | (simp [*]; done)), H', ⟨by have := HK1.out; omega⟩, by repeat (first | exact Drawn0.refl _ | apply Drawn0.step)⟩
          · rw [if_neg c5] at H
            have c5b0 : ((rd l0 x5_1) == x1_1) = false := beq_eq_false_iff_ne.mpr c5
            have c5b1 : ((rd l0 x5_1) != x1_1) = true := bne_iff_ne.mpr c5
            obtain rfl := Option.some.inj H
            have p234 : 0 ≤ (x5_1 : Int) := of_decide_eq_true (by first | (with_reducible assumption) | assumption)
            have q234 : x5_1 < (l0.length : Int) := of_decide_eq_true (by first | (with_reducible assumption) | assumption)
            obtain ⟨ad234, e234, hx234_0⟩ := Kd.at_int HR0.out x5_1 p234 q234
            cases e234
            replace p234 := eq_true p234
            replace q234 := eq_true q234
            go_wp2
            go_ret
            exact ⟨by first | rfl | (simp; done) | (simp [*]; done), by repeat (first | exact Drawn0.refl _ | apply Drawn0.step)⟩
        · rw [if_neg c4] at H
          exact absurd H (by simp)
      · rw [if_neg c3] at H
        have c3b0 : decide (x5_1 < (l0.length : Int)) = false := decide_eq_false c3
        clear c3
        obtain rfl := Option.some.inj H
        go_wp2
        go_ret
        exact ⟨by first | rfl | (simp; done) | (simp [*]; done), by repeat (first | exact Drawn0.refl _ | apply Drawn0.step)⟩
end Go.Proofs.YtpdgnncnejmhfaaDoor.P
end
section
namespace Go.Proofs.YtpdgnncnejmhfaaDoor.P
open Go.RowKit Go.Proofs.YtpdgnncnejmhfaaDoorW.PrintWords Go.Proofs.YtpdgnncnejmhfaaDoorW.PrintLast Go.Proofs.YtpdgnncnejmhfaaDoorW.PrintMore
attribute [local go_sem] max2_int min2_int max_two min_two max_three min_three max_four min_four   -- for this text's walks alone
set_option linter.unusedVariables false
set_option linter.unusedSimpArgs false
def spec_isIn.l0 : Nat → List Int → Int → Int → Option (Bool)
  | 0, _, _, _ => none
  | k + 1, x0, x1, x5 => if x5 < (x0.length : Int) then (if 0 ≤ x5 then (if (rd x0 x5) = x1 then (some true) else (spec_isIn.l0 k x0 x1 (wrap64 (x5 + 1)))) else (none)) else (some false)
def spec_isIn.f (k : Nat) (l0 : List Int) (a1 : Int) : Option (Bool) := spec_isIn.l0 k l0 a1 0
theorem spec_isIn.mono_l : ∀ k, (∀ y0 y1 y2, LeO (spec_isIn.l0 k y0 y1 y2) (spec_isIn.l0 (k + 1) y0 y1 y2))
  | 0 => fun _ _ _ r h => by simp [spec_isIn.l0] at h
  | k + 1 => by
    have ih0 := spec_isIn.mono_l k
    · intro y0 y1 y2
      unfold spec_isIn.l0
      repeat' first
      | (with_reducible exact ih0 _ _ _)
      | (with_reducible exact LeO.refl _)
      | (with_reducible exact LeO.none _)
      | (with_reducible refine LeO.ite ?_ ?_)
      | (with_reducible refine LeO.bind ?_ (fun _ => ?_))
      | exact ih0 _ _ _
      | exact LeO.none _
      | refine LeO.ite ?_ ?_
      | refine LeO.bind ?_ (fun _ => ?_)
theorem spec_isIn.mono : ∀ a0 a1 k, LeO (spec_isIn.f k a0 a1) (spec_isIn.f (k + 1) a0 a1) := by
  intro a0 a1 k
  have ih0 := spec_isIn.mono_l k
  unfold spec_isIn.f
  repeat' first
      | (with_reducible exact ih0 _ _ _)
      | (with_reducible exact LeO.refl _)
      | (with_reducible exact LeO.none _)
      | (with_reducible refine LeO.ite ?_ ?_)
      | (with_reducible refine LeO.bind ?_ (fun _ => ?_))
      | exact ih0 _ _ _
      | exact LeO.none _
      | refine LeO.ite ?_ ?_
      | refine LeO.bind ?_ (fun _ => ?_)
set_option maxHeartbeats 8000000 in
set_option maxRecDepth 100000 in
theorem spec_isIn.calls (k : Nat) (A0 : Option Addr) (c0 : Nat) (l0 : List Int) (a1 : Int) (r : Bool) (w : World) (hr0 : Kd.C (Kd.int .i64) w A0 l0.length l0) (hc0 : l0.length ≤ c0) (h : spec_isIn.f k l0 a1 = some r) :
    Calls Tryd.prog 32 #[.slice A0 l0.length c0, .int .i64 a1] w fun e w' => e = .returned (.bool r) ∧ Drawn0 w w' := by
  have HR0 := Aside0.mk hr0
  have HC0 := Aside0.mk hc0
  clear hr0 hc0
  have H : (spec_isIn.l0 k l0 a1 0) = some r := h
  clear h
  have H' := Aside0.mk H
  clear H
  go_enter Tryd.func32, Tryd.ntmps32
  go_wp2
  go_loopg [5] k (fun kq v5 w' => ∃ (x5_1 : Int), v5 = .int .i64 x5_1 ∧ Aside0 (spec_isIn.l0 kq l0 a1 x5_1 = some r) ∧ Aside0 (kq ≤ k) ∧ Drawn0 w w')
  case atStart => exact ⟨(0), (by first | rfl | (simp; done) | (simp [*]; done)), H', ⟨Nat.le_refl _⟩, by repeat (first | exact Drawn0.refl _ | apply Drawn0.step)⟩
  case round =>
    clear H'
    try clear p2
    obtain ⟨x5_1, rfl, HA, HK1, ⟨m1, rfl⟩⟩ := hrel
    cases gk with
    | zero => exact absurd HA.out (by simp [spec_isIn.l0])
    | succ k1 =>
      have H := HA.out
      clear HA
      simp only [spec_isIn.l0] at H
      by_cases c3 : x5_1 < (l0.length : Int)
      · rw [if_pos c3] at H
        have c3b0 : decide (x5_1 < (l0.length : Int)) = true := decide_eq_true c3
        clear c3
        by_cases c4 : 0 ≤ x5_1
        · rw [if_pos c4] at H
          have c4b0 : decide (0 ≤ x5_1) = true := decide_eq_true c4
          clear c4
          by_cases c5 : (rd l0 x5_1) = a1
          · rw [if_pos c5] at H
            have c5b0 : ((rd l0 x5_1) == a1) = true := beq_iff_eq.mpr c5
            have c5b1 : ((rd l0 x5_1) != a1) = false := bne_eq_false_iff_eq.mpr c5
            clear c5
            obtain rfl := Option.some.inj H
            have p117 : 0 ≤ (x5_1 : Int) := of_decide_eq_true (by first | (with_reducible assumption) | assumption)
            have q117 : x5_1 < (l0.length : Int) := of_decide_eq_true (by first | (with_reducible assumption) | assumption)
            obtain ⟨ad117, e117, hx117_0⟩ := Kd.at_int HR0.out x5_1 p117 q117
            cases e117
            replace p117 := eq_true p117
            replace q117 := eq_true q117
            go_wp2
            go_ret
            exact ⟨by first | rfl | (simp; done) | (simp [*]; done), by repeat (first | exact Drawn0.refl _ | apply Drawn0.step)⟩
          · rw [if_neg c5] at H
            have c5b0 : ((rd l0 x5_1) == a1) = false := beq_eq_false_iff_ne.mpr c5
            have c5b1 : ((rd l0 x5_1) != a1) = true := bne_iff_ne.mpr c5
            have H' := Aside0.mk H
            clear H
            have p117 : 0 ≤ (x5_1 : Int) := of_decide_eq_true (by first | (with_reducible assumption) | assumption)
            have q117 : x5_1 < (l0.length : Int) := of_decide_eq_true (by first | (with_reducible assumption) | assumption)
            obtain ⟨ad117, e117, hx117_0⟩ := Kd.at_int HR0.out x5_1 p117 q117
            cases e117
            replace p117 := eq_true p117
            replace q117 := eq_true q117
            go_wp2
            go_roundg k1
            case measure => have := HK1.out; omega
            case rel => exact ⟨(wrap64 (x5_1 + 1)), (by first | rfl | (simp; done) | (simp [*]; done)), H', ⟨by have := HK1.out; omega⟩, by repeat (first | exact Drawn0.refl _ | apply Drawn0.step)⟩
        · rw [if_neg c4] at H
          exact absurd H (by simp)
      · rw [if_neg c3] at H
        have c3b0 : decide (x5_1 < (l0.length : Int)) = false := decide_eq_false c3
        clear c3
        obtain rfl := Option.some.inj H
        go_wp2
        go_ret
        exact ⟨by first | rfl | (simp; done) | (simp [*]; done), by repeat (first | exact Drawn0.refl _ | apply Drawn0.step)⟩
end Go.Proofs.YtpdgnncnejmhfaaDoor.P
end
section
namespace Go.Proofs.YtpdgnncnejmhfaaDoor.P
open Go.RowKit Go.Proofs.YtpdgnncnejmhfaaDoorW.PrintWords Go.Proofs.YtpdgnncnejmhfaaDoorW.PrintLast Go.Proofs.YtpdgnncnejmhfaaDoorW.PrintMore
attribute [local go_sem] max2_int min2_int max_two min_two max_three min_three max_four min_four   -- for this text's walks alone
set_option linter.unusedVariables false
set_option linter.unusedSimpArgs false
def spec_inRange.f (a0 : Int) (a1 : Int) (a2 : Int) : Option (Bool) := if a1 ≤ a0 then (some (decide (a0 ≤ a2))) else (some false)
set_option maxHeartbeats 8000000 in
set_option maxRecDepth 100000 in
theorem spec_inRange.calls (a0 : Int) (a1 : Int) (a2 : Int) (r : Bool) (w : World) (h : spec_inRange.f a0 a1 a2 = some r) :
    Calls Tryd.prog 46 #[.int .i64 a0, .int .i64 a1, .int .i64 a2] w fun e w' => e = .returned (.bool r) ∧ Drawn0 w w' := by
  have H : (if a1 ≤ a0 then (some (decide (a0 ≤ a2))) else (some false)) = some r := h
  clear h
  by_cases c4 : a1 ≤ a0
  · rw [if_pos c4] at H
    have c4b0 : decide (a1 ≤ a0) = true := decide_eq_true c4
    clear c4
    obtain rfl := Option.some.inj H
    go_enter Tryd.func46, Tryd.ntmps46
    go_wp2
    go_ret
    exact ⟨by first | rfl | (simp; done) | (simp [*]; done), by repeat (first | exact Drawn0.refl _ | apply Drawn0.step)⟩
  · rw [if_neg c4] at H
    have c4b0 : decide (a1 ≤ a0) = false := decide_eq_false c4
    clear c4
    obtain rfl := Option.some.inj H
    go_enter Tryd.func46, Tryd.ntmps46
    go_wp2
    go_ret
    exact ⟨by first | rfl | (simp; done) | (simp [*]; done), by repeat (first | exact Drawn0.refl _ | apply Drawn0.step)⟩
end Go.Proofs.YtpdgnncnejmhfaaDoor.P
end
section
namespace Go.Proofs.YtpdgnncnejmhfaaDoor.P
open Go.RowKit Go.Proofs.YtpdgnncnejmhfaaDoorW.PrintWords Go.Proofs.YtpdgnncnejmhfaaDoorW.PrintLast Go.Proofs.YtpdgnncnejmhfaaDoorW.PrintMore
attribute [local go_sem] max2_int min2_int max_two min_two max_three min_three max_four min_four   -- for this text's walks alone
set_option linter.unusedVariables false
set_option linter.unusedSimpArgs false
def spec_allIn.l0 : Nat → List Int → Int → Int → Int → Option (Bool)
  | 0, _, _, _, _ => none
  | k + 1, x0, x1, x2, x7 => if x7 < (x0.length : Int) then (if 0 ≤ x7 then ((spec_inRange.f (rd x0 x7) x1 x2).bind fun t106 => (if t106 = true then (spec_allIn.l0 k x0 x1 x2 (wrap64 (x7 + 1))) else (some false))) else (none)) else (some true)
def spec_allIn.f (k : Nat) (l0 : List Int) (a1 : Int) (a2 : Int) : Option (Bool) := spec_allIn.l0 k l0 a1 a2 0
theorem spec_allIn.mono_l : ∀ k, (∀ y0 y1 y2 y3, LeO (spec_allIn.l0 k y0 y1 y2 y3) (spec_allIn.l0 (k + 1) y0 y1 y2 y3))
  | 0 => fun _ _ _ _ r h => by simp [spec_allIn.l0] at h
  | k + 1 => by
    have ih0 := spec_allIn.mono_l k
    · intro y0 y1 y2 y3
      unfold spec_allIn.l0
      repeat' first
      | (with_reducible exact ih0 _ _ _ _)
      | (with_reducible exact LeO.refl _)
      | (with_reducible exact LeO.none _)
      | (with_reducible refine LeO.ite ?_ ?_)
      | (with_reducible refine LeO.bind ?_ (fun _ => ?_))
      | exact ih0 _ _ _ _
      | exact LeO.none _
      | refine LeO.ite ?_ ?_
      | refine LeO.bind ?_ (fun _ => ?_)
theorem spec_allIn.mono : ∀ a0 a1 a2 k, LeO (spec_allIn.f k a0 a1 a2) (spec_allIn.f (k + 1) a0 a1 a2) := by
  intro a0 a1 a2 k
  have ih0 := spec_allIn.mono_l k
  unfold spec_allIn.f
  repeat' first
      | (with_reducible exact ih0 _ _ _ _)
      | (with_reducible exact LeO.refl _)
      | (with_reducible exact LeO.none _)
      | (with_reducible refine LeO.ite ?_ ?_)
      | (with_reducible refine LeO.bind ?_ (fun _ => ?_))
      | exact ih0 _ _ _ _
      | exact LeO.none _
      | refine LeO.ite ?_ ?_
      | refine LeO.bind ?_ (fun _ => ?_)
set_option maxHeartbeats 8000000 in
set_option maxRecDepth 100000 in
theorem spec_allIn.calls (k : Nat) (A0 : Option Addr) (c0 : Nat) (l0 : List Int) (a1 : Int) (a2 : Int) (r : Bool) (w : World) (hr0 : Kd.C (Kd.int .i64) w A0 l0.length l0) (hc0 : l0.length ≤ c0) (h : spec_allIn.f k l0 a1 a2 = some r) :
    Calls Tryd.prog 47 #[.slice A0 l0.length c0, .int .i64 a1, .int .i64 a2] w fun e w' => e = .returned (.bool r) ∧ Drawn0 w w' := by
  have HR0 := Aside0.mk hr0
  have HC0 := Aside0.mk hc0
  clear hr0 hc0
  have H : (spec_allIn.l0 k l0 a1 a2 0) = some r := h
  clear h
  have H' := Aside0.mk H
  clear H
  go_enter Tryd.func47, Tryd.ntmps47
  go_wp2
  go_loopg [7] k (fun kq v7 w' => ∃ (x7_1 : Int), v7 = .int .i64 x7_1 ∧ Aside0 (spec_allIn.l0 kq l0 a1 a2 x7_1 = some r) ∧ Aside0 (kq ≤ k) ∧ Drawn0 w w')
  case atStart => exact ⟨(0), (by first | rfl | (simp; done) | (simp [*]; done)), H', ⟨Nat.le_refl _⟩, by repeat (first | exact Drawn0.refl _ | apply Drawn0.step)⟩
  case round =>
    clear H'
    try clear p2
    obtain ⟨x7_1, rfl, HA, HK1, ⟨m1, rfl⟩⟩ := hrel
    cases gk with
    | zero => exact absurd HA.out (by simp [spec_allIn.l0])
    | succ k1 =>
      have H := HA.out
      clear HA
      simp only [spec_allIn.l0] at H
      by_cases c4 : x7_1 < (l0.length : Int)
      · rw [if_pos c4] at H
        have c4b0 : decide (x7_1 < (l0.length : Int)) = true := decide_eq_true c4
        clear c4
        by_cases c5 : 0 ≤ x7_1
        · rw [if_pos c5] at H
          have c5b0 : decide (0 ≤ x7_1) = true := decide_eq_true c5
          clear c5
          replace H := Option.bind_eq_some_iff.mp H
          obtain ⟨t106, A60, H⟩ := H
          replace H : (if t106 = true then (spec_allIn.l0 k1 l0 a1 a2 (wrap64 (x7_1 + 1))) else (some false)) = some r := H
          have A6 := Aside0.mk A60
          clear A60
          by_cases c7 : t106 = true
          · subst c7
            have H1 : (spec_allIn.l0 k1 l0 a1 a2 (wrap64 (x7_1 + 1))) = some r := by rw [if_pos rfl] at H; exact H
            clear H
            have H := H1
            clear H1
            have H' := Aside0.mk H
            clear H
            have p105 : 0 ≤ (x7_1 : Int) := of_decide_eq_true (by first | (with_reducible assumption) | assumption)
            have q105 : x7_1 < (l0.length : Int) := of_decide_eq_true (by first | (with_reducible assumption) | assumption)
            obtain ⟨ad105, e105, hx105_0⟩ := Kd.at_int HR0.out x7_1 p105 q105
            cases e105
            replace p105 := eq_true p105
            replace q105 := eq_true q105
            go_wp2_with (first | ((with_reducible refine gate_callee (f := 46) rfl ?_); refine goesL_ (some 20) rfl rfl Tryd.func46 (by kernel_rfl) rfl #[.int .i64 (rd l0 x7_1), .int .i64 a1, .int .i64 a2] rfl (by (try simp only [List.map_toArray, List.map_cons, List.map_nil]); first | done | rfl | (simp only [List.length_drop, List.length_take]; rfl)) ?_; (with_reducible refine (spec_inRange.calls (rd l0 x7_1) a1 a2 true _ A6.out).mono ?_); rintro e w' ⟨rfl, ⟨nd, rfl⟩⟩; refine ⟨_, rfl, ?_⟩))
            go_roundg k1
            case measure => have := HK1.out; omega
            case rel => exact ⟨(wrap64 (x7_1 + 1)), (by first | rfl | (simp; done) | (simp [*]; done)), H', ⟨by have := HK1.out; omega⟩, by repeat (first | exact Drawn0.refl _ | apply Drawn0.step)⟩
          · replace c7 := Bool.eq_false_iff.mpr c7
            subst c7
            have H1 : (some false) = some r := by rw [if_neg (show ¬ (false = true) by decide)] at H; exact H
            clear H
            have H := H1
            clear H1
            obtain rfl := Option.some.inj H
            have p105 : 0 ≤ (x7_1 : Int) := of_decide_eq_true (by first | (with_reducible assumption) | assumption)
            have q105 : x7_1 < (l0.length : Int) := of_decide_eq_true (by first | (with_reducible assumption) | assumption)
            obtain ⟨ad105, e105, hx105_0⟩ := Kd.at_int HR0.out x7_1 p105 q105
            cases e105
            replace p105 := eq_true p105
            replace q105 := eq_true q105
            go_wp2_with (first | ((with_reducible refine gate_callee (f := 46) rfl ?_); refine goesL_ (some 20) rfl rfl Tryd.func46 (by kernel_rfl) rfl #[.int .i64 (rd l0 x7_1), .int .i64 a1, .int .i64 a2] rfl (by (try simp only [List.map_toArray, List.map_cons, List.map_nil]); first | done | rfl | (simp only [List.length_drop, List.length_take]; rfl)) ?_; (with_reducible refine (spec_inRange.calls (rd l0 x7_1) a1 a2 false _ A6.out).mono ?_); rintro e w' ⟨rfl, ⟨nd, rfl⟩⟩; refine ⟨_, rfl, ?_⟩))
            go_ret
            exact ⟨by first | rfl | (simp; done) | (simp [*]; done), by repeat (first | exact Drawn0.refl _ | apply Drawn0.step)⟩
        · rw [if_neg c5] at H
          exact absurd H (by simp)
      · rw [if_neg c4] at H
        have c4b0 : decide (x7_1 < (l0.length : Int)) = false := decide_eq_false c4
        clear c4
        obtain rfl := Option.some.inj H
        go_wp2
        go_ret
        exact ⟨by first | rfl | (simp; done) | (simp [*]; done), by repeat (first | exact Drawn0.refl _ | apply Drawn0.step)⟩
end Go.Proofs.YtpdgnncnejmhfaaDoor.P
end
section
namespace Go.Proofs.YtpdgnncnejmhfaaDoor.P
open Go.RowKit Go.Proofs.YtpdgnncnejmhfaaDoorW.PrintWords Go.Proofs.YtpdgnncnejmhfaaDoorW.PrintLast Go.Proofs.YtpdgnncnejmhfaaDoorW.PrintMore
attribute [local go_sem] max2_int min2_int max_two min_two max_three min_three max_four min_four   -- for this text's walks alone
set_option linter.unusedVariables false
set_option linter.unusedSimpArgs false
def spec_ascends.l0 : Nat → List Int → Int → Option (Bool)
  | 0, _, _ => none
  | k + 1, x0, x3 => if x3 < (x0.length : Int) then (if 0 ≤ x3 then (if 0 ≤ (wrap64 (x3 - 1)) then (if (wrap64 (x3 - 1)) < (x0.length : Int) then (if (rd x0 x3) ≤ (rd x0 (wrap64 (x3 - 1))) then (some false) else (spec_ascends.l0 k x0 (wrap64 (x3 + 1)))) else (none)) else (none)) else (none)) else (some true)
def spec_ascends.f (k : Nat) (l0 : List Int) : Option (Bool) := spec_ascends.l0 k l0 1
theorem spec_ascends.mono_l : ∀ k, (∀ y0 y1, LeO (spec_ascends.l0 k y0 y1) (spec_ascends.l0 (k + 1) y0 y1))
  | 0 => fun _ _ r h => by simp [spec_ascends.l0] at h
  | k + 1 => by
    have ih0 := spec_ascends.mono_l k
    · intro y0 y1
      unfold spec_ascends.l0
      repeat' first
      | (with_reducible exact ih0 _ _)
      | (with_reducible exact LeO.refl _)
      | (with_reducible exact LeO.none _)
      | (with_reducible refine LeO.ite ?_ ?_)
      | (with_reducible refine LeO.bind ?_ (fun _ => ?_))
      | exact ih0 _ _
      | exact LeO.none _
      | refine LeO.ite ?_ ?_
      | refine LeO.bind ?_ (fun _ => ?_)
theorem spec_ascends.mono : ∀ a0 k, LeO (spec_ascends.f k a0) (spec_ascends.f (k + 1) a0) := by
  intro a0 k
  have ih0 := spec_ascends.mono_l k
  unfold spec_ascends.f
  repeat' first
      | (with_reducible exact ih0 _ _)
      | (with_reducible exact LeO.refl _)
      | (with_reducible exact LeO.none _)
      | (with_reducible refine LeO.ite ?_ ?_)
      | (with_reducible refine LeO.bind ?_ (fun _ => ?_))
      | exact ih0 _ _
      | exact LeO.none _
      | refine LeO.ite ?_ ?_
      | refine LeO.bind ?_ (fun _ => ?_)
set_option maxHeartbeats 8000000 in
set_option maxRecDepth 100000 in
theorem spec_ascends.calls (k : Nat) (A0 : Option Addr) (c0 : Nat) (l0 : List Int) (r : Bool) (w : World) (hr0 : Kd.C (Kd.int .i64) w A0 l0.length l0) (hc0 : l0.length ≤ c0) (h : spec_ascends.f k l0 = some r) :
    Calls Tryd.prog 48 #[.slice A0 l0.length c0] w fun e w' => e = .returned (.bool r) ∧ Drawn0 w w' := by
  have HR0 := Aside0.mk hr0
  have HC0 := Aside0.mk hc0
  clear hr0 hc0
  have H : (spec_ascends.l0 k l0 1) = some r := h
  clear h
  have H' := Aside0.mk H
  clear H
  go_enter Tryd.func48, Tryd.ntmps48
  go_wp2
  repeat (go_quiet (fail); try go_wp2)
  go_loopg [3] k (fun kq v3 w' => ∃ (x3_1 : Int), v3 = .int .i64 x3_1 ∧ Aside0 (spec_ascends.l0 kq l0 x3_1 = some r) ∧ Aside0 (kq ≤ k) ∧ Drawn0 w w')
  case atStart => exact ⟨(1), (by first | rfl | (simp; done) | (simp [*]; done)), H', ⟨Nat.le_refl _⟩, by repeat (first | exact Drawn0.refl _ | apply Drawn0.step)⟩
  case round =>
    clear H'
    obtain ⟨x3_1, rfl, HA, HK1, ⟨m1, rfl⟩⟩ := hrel
    cases gk with
    | zero => exact absurd HA.out (by simp [spec_ascends.l0])
    | succ k1 =>
      have H := HA.out
      clear HA
      simp only [spec_ascends.l0] at H
      by_cases c2 : x3_1 < (l0.length : Int)
      · rw [if_pos c2] at H
        have c2b0 : decide (x3_1 < (l0.length : Int)) = true := decide_eq_true c2
        clear c2
        by_cases c3 : 0 ≤ x3_1
        · rw [if_pos c3] at H
          have c3b0 : decide (0 ≤ x3_1) = true := decide_eq_true c3
          clear c3
          obtain ⟨ji4, hji4⟩ : ∃ j_ : Int, (wrap64 (x3_1 - 1)) = j_ := ⟨_, rfl⟩
          replace H : (if 0 ≤ (ji4) then (if (ji4) < (l0.length : Int) then (if (rd l0 x3_1) ≤ (rd l0 (ji4)) then (some false) else (spec_ascends.l0 k1 l0 (wrap64 (x3_1 + 1)))) else (none)) else (none)) = some r := by first | (rw [hji4] at H; exact H) | (simp only [hji4] at H ⊢; exact H)
          have hji4w : (IntKind.i64.wrap (x3_1 - 1)) = ji4 := (i64_w _).trans hji4
          by_cases c5 : 0 ≤ (ji4)
          · rw [if_pos c5] at H
            have c5b0 : decide (0 ≤ (ji4)) = true := decide_eq_true c5
            clear c5
            by_cases c6 : (ji4) < (l0.length : Int)
            · rw [if_pos c6] at H
              have c6b0 : decide ((ji4) < (l0.length : Int)) = true := decide_eq_true c6
              clear c6
              by_cases c7 : (rd l0 x3_1) ≤ (rd l0 (ji4))
              · rw [if_pos c7] at H
                have c7b0 : decide ((rd l0 x3_1) ≤ (rd l0 (ji4))) = true := decide_eq_true c7
                clear c7
                obtain rfl := Option.some.inj H
                have p107 : 0 ≤ (x3_1 : Int) := of_decide_eq_true (by first | (with_reducible assumption) | assumption)
                have q107 : x3_1 < (l0.length : Int) := of_decide_eq_true (by first | (with_reducible assumption) | assumption)
                obtain ⟨ad107, e107, hx107_0⟩ := Kd.at_int HR0.out x3_1 p107 q107
                cases e107
                replace p107 := eq_true p107
                replace q107 := eq_true q107
                have p108 : 0 ≤ ((ji4) : Int) := of_decide_eq_true (by first | (with_reducible assumption) | assumption)
                have q108 : (ji4) < (l0.length : Int) := of_decide_eq_true (by first | (with_reducible assumption) | assumption)
                obtain ⟨ad108, e108, hx108_0⟩ := Kd.at_int HR0.out (ji4) p108 q108
                obtain rfl : ad107 = ad108 := (by injection e108)
                replace p108 := eq_true p108
                replace q108 := eq_true q108
                go_wp2
                repeat (go_quiet (fail); try go_wp2)
                go_ret
                exact ⟨by first | rfl | (simp; done) | (simp only [← hji4] <;> (first | rfl | simp)) | (simp [*]; done), by repeat (first | exact Drawn0.refl _ | apply Drawn0.step)⟩
              · rw [if_neg c7] at H
                have c7b0 : decide ((rd l0 x3_1) ≤ (rd l0 (ji4))) = false := decide_eq_false c7
                clear c7
                have H' := Aside0.mk H
                clear H
                have p107 : 0 ≤ (x3_1 : Int) := of_decide_eq_true (by first | (with_reducible assumption) | assumption)
                have q107 : x3_1 < (l0.length : Int) := of_decide_eq_true (by first | (with_reducible assumption) | assumption)
                obtain ⟨ad107, e107, hx107_0⟩ := Kd.at_int HR0.out x3_1 p107 q107
                cases e107
                replace p107 := eq_true p107
                replace q107 := eq_true q107
                have p108 : 0 ≤ ((ji4) : Int) := of_decide_eq_true (by first | (with_reducible assumption) | assumption)
                have q108 : (ji4) < (l0.length : Int) := of_decide_eq_true (by first | (with_reducible assumption) | assumption)
                obtain ⟨ad108, e108, hx108_0⟩ := Kd.at_int HR0.out (ji4) p108 q108
                obtain rfl : ad107 = ad108 := (by injection e108)
                replace p108 := eq_true p108
                replace q108 := eq_true q108
                go_wp2
                repeat (go_quiet (fail); try go_wp2)
                go_roundg k1
                case measure => have := HK1.out; omega
                case rel => exact ⟨(wrap64 (x3_1 + 1)), (by first | rfl | (simp; done) | (simp [*]; done)), H', ⟨by have := HK1.out; omega⟩, by repeat (first | exact Drawn0.refl _ | apply Drawn0.step)⟩
            · rw [if_neg c6] at H
              exact absurd H (by simp)
          · rw [if_neg c5] at H
            exact absurd H (by simp)
        · rw [if_neg c3] at H
          exact absurd H (by simp)
      · rw [if_neg c2] at H
        have c2b0 : decide (x3_1 < (l0.length : Int)) = false := decide_eq_false c2
        clear c2
        obtain rfl := Option.some.inj H
        go_wp2
        repeat (go_quiet (fail); try go_wp2)
        go_ret
        exact ⟨by first | rfl | (simp; done) | (simp [*]; done), by repeat (first | exact Drawn0.refl _ | apply Drawn0.step)⟩
end Go.Proofs.YtpdgnncnejmhfaaDoor.P
end
section
namespace Go.Proofs.YtpdgnncnejmhfaaDoor.P
open Go.RowKit Go.Proofs.YtpdgnncnejmhfaaDoorW.PrintWords Go.Proofs.YtpdgnncnejmhfaaDoorW.PrintLast Go.Proofs.YtpdgnncnejmhfaaDoorW.PrintMore
attribute [local go_sem] max2_int min2_int max_two min_two max_three min_three max_four min_four   -- for this text's walks alone
set_option linter.unusedVariables false
set_option linter.unusedSimpArgs false
def spec_allDone.l0 : Nat → List Int → List Int → Int → Option (Bool)
  | 0, _, _, _ => none
  | k + 1, x0, x1, x5 => if x5 < (x0.length : Int) then (if 0 ≤ x5 then ((spec_isIn.f k x1 (rd x0 x5)).bind fun t119 => (if t119 = true then (spec_allDone.l0 k x0 x1 (wrap64 (x5 + 1))) else (some false))) else (none)) else (some true)
def spec_allDone.f (k : Nat) (l0 : List Int) (l1 : List Int) : Option (Bool) := spec_allDone.l0 k l0 l1 0
theorem spec_allDone.mono_l : ∀ k, (∀ y0 y1 y2, LeO (spec_allDone.l0 k y0 y1 y2) (spec_allDone.l0 (k + 1) y0 y1 y2))
  | 0 => fun _ _ _ r h => by simp [spec_allDone.l0] at h
  | k + 1 => by
    have ih0 := spec_allDone.mono_l k
    · intro y0 y1 y2
      unfold spec_allDone.l0
      repeat' first
      | (with_reducible exact ih0 _ _ _)
      | (with_reducible exact spec_isIn.mono _ _ _)
      | (with_reducible exact LeO.refl _)
      | (with_reducible exact LeO.none _)
      | (with_reducible refine LeO.ite ?_ ?_)
      | (with_reducible refine LeO.bind ?_ (fun _ => ?_))
      | exact ih0 _ _ _
      | exact spec_isIn.mono _ _ _
      | exact LeO.none _
      | refine LeO.ite ?_ ?_
      | refine LeO.bind ?_ (fun _ => ?_)
theorem spec_allDone.mono : ∀ a0 a1 k, LeO (spec_allDone.f k a0 a1) (spec_allDone.f (k + 1) a0 a1) := by
  intro a0 a1 k
  have ih0 := spec_allDone.mono_l k
  unfold spec_allDone.f
  repeat' first
      | (with_reducible exact ih0 _ _ _)
      | (with_reducible exact spec_isIn.mono _ _ _)
      | (with_reducible exact LeO.refl _)
      | (with_reducible exact LeO.none _)
      | (with_reducible refine LeO.ite ?_ ?_)
      | (with_reducible refine LeO.bind ?_ (fun _ => ?_))
      | exact ih0 _ _ _
      | exact spec_isIn.mono _ _ _
      | exact LeO.none _
      | refine LeO.ite ?_ ?_
      | refine LeO.bind ?_ (fun _ => ?_)
set_option maxHeartbeats 8000000 in
set_option maxRecDepth 100000 in
theorem spec_allDone.calls (k : Nat) (A0 : Option Addr) (c0 : Nat) (l0 : List Int) (A1 : Option Addr) (c1 : Nat) (l1 : List Int) (r : Bool) (w : World) (hr0 : Kd.C (Kd.int .i64) w A0 l0.length l0) (hc0 : l0.length ≤ c0) (hr1 : Kd.C (Kd.int .i64) w A1 l1.length l1) (hc1 : l1.length ≤ c1) (h : spec_allDone.f k l0 l1 = some r) :
    Calls Tryd.prog 42 #[.slice A0 l0.length c0, .slice A1 l1.length c1] w fun e w' => e = .returned (.bool r) ∧ Drawn0 w w' := by
  have HR0 := Aside0.mk hr0
  have HC0 := Aside0.mk hc0
  clear hr0 hc0
  have HR1 := Aside0.mk hr1
  have HC1 := Aside0.mk hc1
  clear hr1 hc1
  have H : (spec_allDone.l0 k l0 l1 0) = some r := h
  clear h
  have H' := Aside0.mk H
  clear H
  go_enter Tryd.func42, Tryd.ntmps42
  go_wp2
  go_loopg [5] k (fun kq v5 w' => ∃ (x5_1 : Int), v5 = .int .i64 x5_1 ∧ Aside0 (spec_allDone.l0 kq l0 l1 x5_1 = some r) ∧ Aside0 (kq ≤ k) ∧ Drawn0 w w')
  case atStart => exact ⟨(0), (by first | rfl | (simp; done) | (simp [*]; done)), H', ⟨Nat.le_refl _⟩, by repeat (first | exact Drawn0.refl _ | apply Drawn0.step)⟩
  case round =>
    clear H'
    try clear c1
    try clear p2
    obtain ⟨x5_1, rfl, HA, HK1, ⟨m1, rfl⟩⟩ := hrel
    cases gk with
    | zero => exact absurd HA.out (by simp [spec_allDone.l0])
    | succ k1 =>
      have H := HA.out
      clear HA
      simp only [spec_allDone.l0] at H
      by_cases c3 : x5_1 < (l0.length : Int)
      · rw [if_pos c3] at H
        have c3b0 : decide (x5_1 < (l0.length : Int)) = true := decide_eq_true c3
        clear c3
        by_cases c4 : 0 ≤ x5_1
        · rw [if_pos c4] at H
          have c4b0 : decide (0 ≤ x5_1) = true := decide_eq_true c4
          clear c4
          replace H := Option.bind_eq_some_iff.mp H
          obtain ⟨t119, A50, H⟩ := H
          replace H : (if t119 = true then (spec_allDone.l0 k1 l0 l1 (wrap64 (x5_1 + 1))) else (some false)) = some r := H
          have A5 := Aside0.mk A50
          clear A50
          by_cases c6 : t119 = true
          · subst c6
            have H1 : (spec_allDone.l0 k1 l0 l1 (wrap64 (x5_1 + 1))) = some r := by rw [if_pos rfl] at H; exact H
            clear H
            have H := H1
            clear H1
            have H' := Aside0.mk H
            clear H
            have p118 : 0 ≤ (x5_1 : Int) := of_decide_eq_true (by first | (with_reducible assumption) | assumption)
            have q118 : x5_1 < (l0.length : Int) := of_decide_eq_true (by first | (with_reducible assumption) | assumption)
            obtain ⟨ad118, e118, hx118_0⟩ := Kd.at_int HR0.out x5_1 p118 q118
            cases e118
            replace p118 := eq_true p118
            replace q118 := eq_true q118
            go_wp2_with (first | ((with_reducible refine gate_callee (f := 32) rfl ?_); refine goesL_ (some 17) rfl rfl Tryd.func32 (by kernel_rfl) rfl #[.slice A1 l1.length c1, .int .i64 (rd l0 x5_1)] rfl (by (try simp only [List.map_toArray, List.map_cons, List.map_nil]); first | done | rfl | (simp only [List.length_drop, List.length_take]; rfl)) ?_; (with_reducible refine (spec_isIn.calls k1 _ _ l1 (rd l0 x5_1) true _ ?side1 ?side2 A5.out).mono ?_); (case side1 => repeat (first | exact HR1.out | (with_reducible refine Kd.C_alloc ?_ _) | (with_reducible refine Kd.C_drewN ?_ _) | (with_reducible refine Kd.C_drew ?_))); (case side2 => exact HC1.out); rintro e w' ⟨rfl, ⟨nd, rfl⟩⟩; refine ⟨_, rfl, ?_⟩))
            go_roundg k1
            case measure => have := HK1.out; omega
            case rel => exact ⟨(wrap64 (x5_1 + 1)), (by first | rfl | (simp; done) | (simp [*]; done)), H', ⟨by have := HK1.out; omega⟩, by repeat (first | exact Drawn0.refl _ | apply Drawn0.step)⟩
          · replace c6 := Bool.eq_false_iff.mpr c6
            subst c6
            have H1 : (some false) = some r := by rw [if_neg (show ¬ (false = true) by decide)] at H; exact H
            clear H
            have H := H1
            clear H1
            obtain rfl := Option.some.inj H
            have p118 : 0 ≤ (x5_1 : Int) := of_decide_eq_true (by first | (with_reducible assumption) | assumption)
            have q118 : x5_1 < (l0.length : Int) := of_decide_eq_true (by first | (with_reducible assumption) | assumption)
            obtain ⟨ad118, e118, hx118_0⟩ := Kd.at_int HR0.out x5_1 p118 q118
            cases e118
            replace p118 := eq_true p118
            replace q118 := eq_true q118
            go_wp2_with (first | ((with_reducible refine gate_callee (f := 32) rfl ?_); refine goesL_ (some 17) rfl rfl Tryd.func32 (by kernel_rfl) rfl #[.slice A1 l1.length c1, .int .i64 (rd l0 x5_1)] rfl (by (try simp only [List.map_toArray, List.map_cons, List.map_nil]); first | done | rfl | (simp only [List.length_drop, List.length_take]; rfl)) ?_; (with_reducible refine (spec_isIn.calls k1 _ _ l1 (rd l0 x5_1) false _ ?side1 ?side2 A5.out).mono ?_); (case side1 => repeat (first | exact HR1.out | (with_reducible refine Kd.C_alloc ?_ _) | (with_reducible refine Kd.C_drewN ?_ _) | (with_reducible refine Kd.C_drew ?_))); (case side2 => exact HC1.out); rintro e w' ⟨rfl, ⟨nd, rfl⟩⟩; refine ⟨_, rfl, ?_⟩))
            go_ret
            exact ⟨by first | rfl | (simp; done) | (simp [*]; done), by repeat (first | exact Drawn0.refl _ | apply Drawn0.step)⟩
        · rw [if_neg c4] at H
          exact absurd H (by simp)
      · rw [if_neg c3] at H
        have c3b0 : decide (x5_1 < (l0.length : Int)) = false := decide_eq_false c3
        clear c3
        obtain rfl := Option.some.inj H
        go_wp2
        go_ret
        exact ⟨by first | rfl | (simp; done) | (simp [*]; done), by repeat (first | exact Drawn0.refl _ | apply Drawn0.step)⟩
end Go.Proofs.YtpdgnncnejmhfaaDoor.P
end
section
namespace Go.Proofs.YtpdgnncnejmhfaaDoor.P
open Go.RowKit Go.Proofs.YtpdgnncnejmhfaaDoorW.PrintWords Go.Proofs.YtpdgnncnejmhfaaDoorW.PrintLast Go.Proofs.YtpdgnncnejmhfaaDoorW.PrintMore
attribute [local go_sem] max2_int min2_int max_two min_two max_three min_three max_four min_four   -- for this text's walks alone
set_option linter.unusedVariables false
set_option linter.unusedSimpArgs false
def spec_validTask.f (k : Nat) (a0_0 : Int) (l0_1 : List Int) (a0_2 : Int) (a0_3 : Int) (a1 : Int) : Option (Bool) := (spec_inRange.f a0_0 1 20).bind fun t110 => (if t110 = true then ((spec_inRange.f a0_2 0 2).bind fun t111 => (if t111 = true then ((spec_inRange.f a0_3 1 4).bind fun t112 => (if t112 = true then ((spec_allIn.f k l0_1 0 (wrap64 (a1 - 1))).bind fun t113 => (if t113 = true then ((spec_ascends.f k l0_1).bind fun t114 => (some t114)) else (some false))) else (some false))) else (some false))) else (some false))
theorem spec_validTask.mono : ∀ a0 a1 a2 a3 a4 k, LeO (spec_validTask.f k a0 a1 a2 a3 a4) (spec_validTask.f (k + 1) a0 a1 a2 a3 a4) := by
  intro a0 a1 a2 a3 a4 k
  unfold spec_validTask.f
  repeat' first
      | (with_reducible exact spec_allIn.mono _ _ _ _)
      | (with_reducible exact spec_ascends.mono _ _)
      | (with_reducible exact LeO.refl _)
      | (with_reducible exact LeO.none _)
      | (with_reducible refine LeO.ite ?_ ?_)
      | (with_reducible refine LeO.bind ?_ (fun _ => ?_))
      | exact spec_allIn.mono _ _ _ _
      | exact spec_ascends.mono _ _
      | exact LeO.none _
      | refine LeO.ite ?_ ?_
      | refine LeO.bind ?_ (fun _ => ?_)
set_option maxHeartbeats 8000000 in
set_option maxRecDepth 100000 in
theorem spec_validTask.calls (k : Nat) (a0_0 : Int) (A0_1 : Option Addr) (c0_1 : Nat) (l0_1 : List Int) (a0_2 : Int) (a0_3 : Int) (a1 : Int) (r : Bool) (w : World) (hr0_1 : Kd.C (Kd.int .i64) w A0_1 l0_1.length l0_1) (hc0_1 : l0_1.length ≤ c0_1) (h : spec_validTask.f k a0_0 l0_1 a0_2 a0_3 a1 = some r) :
    Calls Tryd.prog 41 #[.agg #[.int .i64 a0_0, .slice A0_1 l0_1.length c0_1, .int .i64 a0_2, .int .i64 a0_3], .int .i64 a1] w fun e w' => e = .returned (.bool r) ∧ Below w.heap.size w w' := by
  have hu39 := Tryd.underlying39
  have HR0_1 := Aside0.mk hr0_1
  have HC0_1 := Aside0.mk hc0_1
  clear hr0_1 hc0_1
  have HB := Aside0.mk (Below.refl w.heap.size w)
  have H : ((spec_inRange.f a0_0 1 20).bind fun t110 => (if t110 = true then ((spec_inRange.f a0_2 0 2).bind fun t111 => (if t111 = true then ((spec_inRange.f a0_3 1 4).bind fun t112 => (if t112 = true then ((spec_allIn.f k l0_1 0 (wrap64 (a1 - 1))).bind fun t113 => (if t113 = true then ((spec_ascends.f k l0_1).bind fun t114 => (some t114)) else (some false))) else (some false))) else (some false))) else (some false))) = some r := h
  clear h
  replace H := Option.bind_eq_some_iff.mp H
  obtain ⟨t110, A30, H⟩ := H
  replace H : (if t110 = true then ((spec_inRange.f a0_2 0 2).bind fun t111 => (if t111 = true then ((spec_inRange.f a0_3 1 4).bind fun t112 => (if t112 = true then ((spec_allIn.f k l0_1 0 (wrap64 (a1 - 1))).bind fun t113 => (if t113 = true then ((spec_ascends.f k l0_1).bind fun t114 => (some t114)) else (some false))) else (some false))) else (some false))) else (some false)) = some r := H
  have A3 := Aside0.mk A30
  clear A30
  by_cases c4 : t110 = true
  · subst c4
    have H1 : ((spec_inRange.f a0_2 0 2).bind fun t111 => (if t111 = true then ((spec_inRange.f a0_3 1 4).bind fun t112 => (if t112 = true then ((spec_allIn.f k l0_1 0 (wrap64 (a1 - 1))).bind fun t113 => (if t113 = true then ((spec_ascends.f k l0_1).bind fun t114 => (some t114)) else (some false))) else (some false))) else (some false))) = some r := by rw [if_pos rfl] at H; exact H
    clear H
    have H := H1
    clear H1
    replace H := Option.bind_eq_some_iff.mp H
    obtain ⟨t111, A50, H⟩ := H
    replace H : (if t111 = true then ((spec_inRange.f a0_3 1 4).bind fun t112 => (if t112 = true then ((spec_allIn.f k l0_1 0 (wrap64 (a1 - 1))).bind fun t113 => (if t113 = true then ((spec_ascends.f k l0_1).bind fun t114 => (some t114)) else (some false))) else (some false))) else (some false)) = some r := H
    have A5 := Aside0.mk A50
    clear A50
    by_cases c6 : t111 = true
    · subst c6
      have H1 : ((spec_inRange.f a0_3 1 4).bind fun t112 => (if t112 = true then ((spec_allIn.f k l0_1 0 (wrap64 (a1 - 1))).bind fun t113 => (if t113 = true then ((spec_ascends.f k l0_1).bind fun t114 => (some t114)) else (some false))) else (some false))) = some r := by rw [if_pos rfl] at H; exact H
      clear H
      have H := H1
      clear H1
      replace H := Option.bind_eq_some_iff.mp H
      obtain ⟨t112, A70, H⟩ := H
      replace H : (if t112 = true then ((spec_allIn.f k l0_1 0 (wrap64 (a1 - 1))).bind fun t113 => (if t113 = true then ((spec_ascends.f k l0_1).bind fun t114 => (some t114)) else (some false))) else (some false)) = some r := H
      have A7 := Aside0.mk A70
      clear A70
      by_cases c8 : t112 = true
      · subst c8
        have H1 : ((spec_allIn.f k l0_1 0 (wrap64 (a1 - 1))).bind fun t113 => (if t113 = true then ((spec_ascends.f k l0_1).bind fun t114 => (some t114)) else (some false))) = some r := by rw [if_pos rfl] at H; exact H
        clear H
        have H := H1
        clear H1
        replace H := Option.bind_eq_some_iff.mp H
        obtain ⟨t113, A90, H⟩ := H
        replace H : (if t113 = true then ((spec_ascends.f k l0_1).bind fun t114 => (some t114)) else (some false)) = some r := H
        have A9 := Aside0.mk A90
        clear A90
        by_cases c10 : t113 = true
        · subst c10
          have H1 : ((spec_ascends.f k l0_1).bind fun t114 => (some t114)) = some r := by rw [if_pos rfl] at H; exact H
          clear H
          have H := H1
          clear H1
          replace H := Option.bind_eq_some_iff.mp H
          obtain ⟨t114, A110, H⟩ := H
          replace H : (some t114) = some r := H
          have A11 := Aside0.mk A110
          clear A110
          obtain rfl := Option.some.inj H
          go_enter Tryd.func41, Tryd.ntmps41
          go_wp2_with (first | ((with_reducible refine gate_dst (N := 2) rfl ?_); refine box_event ?hg (N := 2) ?hd (cs := #[.int .i64 a0_0, .slice A0_1 l0_1.length c0_1, .int .i64 a0_2, .int .i64 a0_3]) (t := 39) ?hr ?_; (case hd => rfl); (case hg => rfl); (case hr => first | (go_simp; done) | (go_simp; rfl)); intro gb109 hg w12 hbox hb; have n0_ := Aside0.mk (below_step (by repeat (first | (with_reducible first | exact HB.out | apply below_alloc | apply pw_below_drewN | apply below_drew1) | exact HB.out)) hb); have n1_ := Aside0.mk (hbox); have n2_ := Aside0.mk ((by rw [hg]; exact (below_size (by repeat (first | (with_reducible first | exact HB.out | apply below_alloc | apply pw_below_drewN | apply below_drew1) | exact HB.out))) : w.heap.size ≤ gb109)); have n3_ := Aside0.mk ((by rw [hg]; exact (below_size (by repeat (first | (with_reducible first | exact HB.out | apply below_alloc | apply pw_below_drewN | apply below_drew1) | exact HB.out))) : w.heap.size ≤ gb109)); clear HB; have HB := n0_; have BK109 := n1_; have GW109 := n2_; have GE109 := n3_; clear n0_ n1_ n2_ n3_; clear hb hbox hg; have hcz13_0 : w12.cell? ⟨gb109, 0, none⟩ = some (.int .i64 a0_0) := (blk_cell BK109.out 0).trans rfl; have hcz13_1 : w12.cell? ⟨gb109, 1, none⟩ = some (.slice A0_1 l0_1.length c0_1) := (blk_cell BK109.out 1).trans rfl; have hcz13_2 : w12.cell? ⟨gb109, 2, none⟩ = some (.int .i64 a0_2) := (blk_cell BK109.out 2).trans rfl; have hcz13_3 : w12.cell? ⟨gb109, 3, none⟩ = some (.int .i64 a0_3) := (blk_cell BK109.out 3).trans rfl; have hfz13_0 := blk_frozen BK109.out 0; have hfz13_1 := blk_frozen BK109.out 1; have hfz13_2 := blk_frozen BK109.out 2; have hfz13_3 := blk_frozen BK109.out 3) | ((with_reducible refine gate_callee (f := 46) rfl ?_); refine goesL_ (some 7) rfl rfl Tryd.func46 (by kernel_rfl) rfl #[.int .i64 a0_0, .int .i64 1, .int .i64 20] rfl (by (try simp only [List.map_toArray, List.map_cons, List.map_nil]); first | done | rfl | (simp only [List.length_drop, List.length_take]; rfl)) ?_; (with_reducible refine (spec_inRange.calls a0_0 1 20 true _ A3.out).mono ?_); rintro e w' ⟨rfl, ⟨nd, rfl⟩⟩; refine ⟨_, rfl, ?_⟩) | (go_at_call 46; (with_reducible refine (spec_inRange.calls a0_2 0 2 true _ A5.out).mono ?_); rintro e w' ⟨rfl, ⟨nd, rfl⟩⟩) | (go_at_call 46; (with_reducible refine (spec_inRange.calls a0_3 1 4 true _ A7.out).mono ?_); rintro e w' ⟨rfl, ⟨nd, rfl⟩⟩) | (go_at_call 47; (with_reducible refine (spec_allIn.calls k _ _ l0_1 0 (wrap64 (a1 - 1)) true _ ?side1 ?side2 A9.out).mono ?_); (case side1 => repeat (first | exact (Kd.C_below HR0_1.out (by repeat (first | (with_reducible first | exact HB.out | apply below_alloc | apply pw_below_drewN | apply below_drew1 | refine below_set ?_ GE109.out) | exact HB.out))) | (with_reducible refine Kd.C_alloc ?_ _) | (with_reducible refine Kd.C_drewN ?_ _) | (with_reducible refine Kd.C_drew ?_))); (case side2 => exact HC0_1.out); rintro e w' ⟨rfl, ⟨nd, rfl⟩⟩) | (go_at_call 48; (with_reducible refine (spec_ascends.calls k _ _ l0_1 t114 _ ?side1 ?side2 A11.out).mono ?_); (case side1 => repeat (first | exact (Kd.C_below HR0_1.out (by repeat (first | (with_reducible first | exact HB.out | apply below_alloc | apply pw_below_drewN | apply below_drew1 | refine below_set ?_ GE109.out) | exact HB.out))) | (with_reducible refine Kd.C_alloc ?_ _) | (with_reducible refine Kd.C_drewN ?_ _) | (with_reducible refine Kd.C_drew ?_))); (case side2 => exact HC0_1.out); rintro e w' ⟨rfl, ⟨nd, rfl⟩⟩))
          go_ret
          exact ⟨by first | rfl | (simp [errW_none, errW_some] <;> rfl) | (simp [*, errW_none, errW_some] <;> rfl), by repeat (first | (with_reducible first | exact HB.out | apply below_alloc | apply pw_below_drewN | apply below_drew1 | refine below_set ?_ GE109.out) | exact HB.out)⟩
        · replace c10 := Bool.eq_false_iff.mpr c10
          subst c10
          have H1 : (some false) = some r := by rw [if_neg (show ¬ (false = true) by decide)] at H; exact H
          clear H
          have H := H1
          clear H1
          obtain rfl := Option.some.inj H
          go_enter Tryd.func41, Tryd.ntmps41
          go_wp2_with (first | ((with_reducible refine gate_dst (N := 2) rfl ?_); refine box_event ?hg (N := 2) ?hd (cs := #[.int .i64 a0_0, .slice A0_1 l0_1.length c0_1, .int .i64 a0_2, .int .i64 a0_3]) (t := 39) ?hr ?_; (case hd => rfl); (case hg => rfl); (case hr => first | (go_simp; done) | (go_simp; rfl)); intro gb109 hg w14 hbox hb; have n0_ := Aside0.mk (below_step (by repeat (first | (with_reducible first | exact HB.out | apply below_alloc | apply pw_below_drewN | apply below_drew1) | exact HB.out)) hb); have n1_ := Aside0.mk (hbox); have n2_ := Aside0.mk ((by rw [hg]; exact (below_size (by repeat (first | (with_reducible first | exact HB.out | apply below_alloc | apply pw_below_drewN | apply below_drew1) | exact HB.out))) : w.heap.size ≤ gb109)); have n3_ := Aside0.mk ((by rw [hg]; exact (below_size (by repeat (first | (with_reducible first | exact HB.out | apply below_alloc | apply pw_below_drewN | apply below_drew1) | exact HB.out))) : w.heap.size ≤ gb109)); clear HB; have HB := n0_; have BK109 := n1_; have GW109 := n2_; have GE109 := n3_; clear n0_ n1_ n2_ n3_; clear hb hbox hg; have hcz15_0 : w14.cell? ⟨gb109, 0, none⟩ = some (.int .i64 a0_0) := (blk_cell BK109.out 0).trans rfl; have hcz15_1 : w14.cell? ⟨gb109, 1, none⟩ = some (.slice A0_1 l0_1.length c0_1) := (blk_cell BK109.out 1).trans rfl; have hcz15_2 : w14.cell? ⟨gb109, 2, none⟩ = some (.int .i64 a0_2) := (blk_cell BK109.out 2).trans rfl; have hcz15_3 : w14.cell? ⟨gb109, 3, none⟩ = some (.int .i64 a0_3) := (blk_cell BK109.out 3).trans rfl; have hfz15_0 := blk_frozen BK109.out 0; have hfz15_1 := blk_frozen BK109.out 1; have hfz15_2 := blk_frozen BK109.out 2; have hfz15_3 := blk_frozen BK109.out 3) | ((with_reducible refine gate_callee (f := 46) rfl ?_); refine goesL_ (some 7) rfl rfl Tryd.func46 (by kernel_rfl) rfl #[.int .i64 a0_0, .int .i64 1, .int .i64 20] rfl (by (try simp only [List.map_toArray, List.map_cons, List.map_nil]); first | done | rfl | (simp only [List.length_drop, List.length_take]; rfl)) ?_; (with_reducible refine (spec_inRange.calls a0_0 1 20 true _ A3.out).mono ?_); rintro e w' ⟨rfl, ⟨nd, rfl⟩⟩; refine ⟨_, rfl, ?_⟩) | (go_at_call 46; (with_reducible refine (spec_inRange.calls a0_2 0 2 true _ A5.out).mono ?_); rintro e w' ⟨rfl, ⟨nd, rfl⟩⟩) | (go_at_call 46; (with_reducible refine (spec_inRange.calls a0_3 1 4 true _ A7.out).mono ?_); rintro e w' ⟨rfl, ⟨nd, rfl⟩⟩) | (go_at_call 47; (with_reducible refine (spec_allIn.calls k _ _ l0_1 0 (wrap64 (a1 - 1)) false _ ?side1 ?side2 A9.out).mono ?_); (case side1 => repeat (first | exact (Kd.C_below HR0_1.out (by repeat (first | (with_reducible first | exact HB.out | apply below_alloc | apply pw_below_drewN | apply below_drew1 | refine below_set ?_ GE109.out) | exact HB.out))) | (with_reducible refine Kd.C_alloc ?_ _) | (with_reducible refine Kd.C_drewN ?_ _) | (with_reducible refine Kd.C_drew ?_))); (case side2 => exact HC0_1.out); rintro e w' ⟨rfl, ⟨nd, rfl⟩⟩))
          go_ret
          exact ⟨by first | rfl | (simp [errW_none, errW_some] <;> rfl) | (simp [*, errW_none, errW_some] <;> rfl), by repeat (first | (with_reducible first | exact HB.out | apply below_alloc | apply pw_below_drewN | apply below_drew1 | refine below_set ?_ GE109.out) | exact HB.out)⟩
      · replace c8 := Bool.eq_false_iff.mpr c8
        subst c8
        have H1 : (some false) = some r := by rw [if_neg (show ¬ (false = true) by decide)] at H; exact H
        clear H
        have H := H1
        clear H1
        obtain rfl := Option.some.inj H
        go_enter Tryd.func41, Tryd.ntmps41
        go_wp2_with (first | ((with_reducible refine gate_dst (N := 2) rfl ?_); refine box_event ?hg (N := 2) ?hd (cs := #[.int .i64 a0_0, .slice A0_1 l0_1.length c0_1, .int .i64 a0_2, .int .i64 a0_3]) (t := 39) ?hr ?_; (case hd => rfl); (case hg => rfl); (case hr => first | (go_simp; done) | (go_simp; rfl)); intro gb109 hg w16 hbox hb; have n0_ := Aside0.mk (below_step (by repeat (first | (with_reducible first | exact HB.out | apply below_alloc | apply pw_below_drewN | apply below_drew1) | exact HB.out)) hb); have n1_ := Aside0.mk (hbox); have n2_ := Aside0.mk ((by rw [hg]; exact (below_size (by repeat (first | (with_reducible first | exact HB.out | apply below_alloc | apply pw_below_drewN | apply below_drew1) | exact HB.out))) : w.heap.size ≤ gb109)); have n3_ := Aside0.mk ((by rw [hg]; exact (below_size (by repeat (first | (with_reducible first | exact HB.out | apply below_alloc | apply pw_below_drewN | apply below_drew1) | exact HB.out))) : w.heap.size ≤ gb109)); clear HB; have HB := n0_; have BK109 := n1_; have GW109 := n2_; have GE109 := n3_; clear n0_ n1_ n2_ n3_; clear hb hbox hg; have hcz17_0 : w16.cell? ⟨gb109, 0, none⟩ = some (.int .i64 a0_0) := (blk_cell BK109.out 0).trans rfl; have hcz17_1 : w16.cell? ⟨gb109, 1, none⟩ = some (.slice A0_1 l0_1.length c0_1) := (blk_cell BK109.out 1).trans rfl; have hcz17_2 : w16.cell? ⟨gb109, 2, none⟩ = some (.int .i64 a0_2) := (blk_cell BK109.out 2).trans rfl; have hcz17_3 : w16.cell? ⟨gb109, 3, none⟩ = some (.int .i64 a0_3) := (blk_cell BK109.out 3).trans rfl; have hfz17_0 := blk_frozen BK109.out 0; have hfz17_1 := blk_frozen BK109.out 1; have hfz17_2 := blk_frozen BK109.out 2; have hfz17_3 := blk_frozen BK109.out 3) | ((with_reducible refine gate_callee (f := 46) rfl ?_); refine goesL_ (some 7) rfl rfl Tryd.func46 (by kernel_rfl) rfl #[.int .i64 a0_0, .int .i64 1, .int .i64 20] rfl (by (try simp only [List.map_toArray, List.map_cons, List.map_nil]); first | done | rfl | (simp only [List.length_drop, List.length_take]; rfl)) ?_; (with_reducible refine (spec_inRange.calls a0_0 1 20 true _ A3.out).mono ?_); rintro e w' ⟨rfl, ⟨nd, rfl⟩⟩; refine ⟨_, rfl, ?_⟩) | (go_at_call 46; (with_reducible refine (spec_inRange.calls a0_2 0 2 true _ A5.out).mono ?_); rintro e w' ⟨rfl, ⟨nd, rfl⟩⟩) | (go_at_call 46; (with_reducible refine (spec_inRange.calls a0_3 1 4 false _ A7.out).mono ?_); rintro e w' ⟨rfl, ⟨nd, rfl⟩⟩))
        go_ret
        exact ⟨by first | rfl | (simp [errW_none, errW_some] <;> rfl) | (simp [*, errW_none, errW_some] <;> rfl), by repeat (first | (with_reducible first | exact HB.out | apply below_alloc | apply pw_below_drewN | apply below_drew1 | refine below_set ?_ GE109.out) | exact HB.out)⟩
    · replace c6 := Bool.eq_false_iff.mpr c6
      subst c6
      have H1 : (some false) = some r := by rw [if_neg (show ¬ (false = true) by decide)] at H; exact H
      clear H
      have H := H1
      clear H1
      obtain rfl := Option.some.inj H
      go_enter Tryd.func41, Tryd.ntmps41
      go_wp2_with (first | ((with_reducible refine gate_dst (N := 2) rfl ?_); refine box_event ?hg (N := 2) ?hd (cs := #[.int .i64 a0_0, .slice A0_1 l0_1.length c0_1, .int .i64 a0_2, .int .i64 a0_3]) (t := 39) ?hr ?_; (case hd => rfl); (case hg => rfl); (case hr => first | (go_simp; done) | (go_simp; rfl)); intro gb109 hg w18 hbox hb; have n0_ := Aside0.mk (below_step (by repeat (first | (with_reducible first | exact HB.out | apply below_alloc | apply pw_below_drewN | apply below_drew1) | exact HB.out)) hb); have n1_ := Aside0.mk (hbox); have n2_ := Aside0.mk ((by rw [hg]; exact (below_size (by repeat (first | (with_reducible first | exact HB.out | apply below_alloc | apply pw_below_drewN | apply below_drew1) | exact HB.out))) : w.heap.size ≤ gb109)); have n3_ := Aside0.mk ((by rw [hg]; exact (below_size (by repeat (first | (with_reducible first | exact HB.out | apply below_alloc | apply pw_below_drewN | apply below_drew1) | exact HB.out))) : w.heap.size ≤ gb109)); clear HB; have HB := n0_; have BK109 := n1_; have GW109 := n2_; have GE109 := n3_; clear n0_ n1_ n2_ n3_; clear hb hbox hg; have hcz19_0 : w18.cell? ⟨gb109, 0, none⟩ = some (.int .i64 a0_0) := (blk_cell BK109.out 0).trans rfl; have hcz19_1 : w18.cell? ⟨gb109, 1, none⟩ = some (.slice A0_1 l0_1.length c0_1) := (blk_cell BK109.out 1).trans rfl; have hcz19_2 : w18.cell? ⟨gb109, 2, none⟩ = some (.int .i64 a0_2) := (blk_cell BK109.out 2).trans rfl; have hcz19_3 : w18.cell? ⟨gb109, 3, none⟩ = some (.int .i64 a0_3) := (blk_cell BK109.out 3).trans rfl; have hfz19_0 := blk_frozen BK109.out 0; have hfz19_1 := blk_frozen BK109.out 1; have hfz19_2 := blk_frozen BK109.out 2; have hfz19_3 := blk_frozen BK109.out 3) | ((with_reducible refine gate_callee (f := 46) rfl ?_); refine goesL_ (some 7) rfl rfl Tryd.func46 (by kernel_rfl) rfl #[.int .i64 a0_0, .int .i64 1, .int .i64 20] rfl (by (try simp only [List.map_toArray, List.map_cons, List.map_nil]); first | done | rfl | (simp only [List.length_drop, List.length_take]; rfl)) ?_; (with_reducible refine (spec_inRange.calls a0_0 1 20 true _ A3.out).mono ?_); rintro e w' ⟨rfl, ⟨nd, rfl⟩⟩; refine ⟨_, rfl, ?_⟩) | (go_at_call 46; (with_reducible refine (spec_inRange.calls a0_2 0 2 false _ A5.out).mono ?_); rintro e w' ⟨rfl, ⟨nd, rfl⟩⟩))
      go_ret
      exact ⟨by first | rfl | (simp [errW_none, errW_some] <;> rfl) | (simp [*, errW_none, errW_some] <;> rfl), by repeat (first | (with_reducible first | exact HB.out | apply below_alloc | apply pw_below_drewN | apply below_drew1 | refine below_set ?_ GE109.out) | exact HB.out)⟩
  · replace c4 := Bool.eq_false_iff.mpr c4
    subst c4
    have H1 : (some false) = some r := by rw [if_neg (show ¬ (false = true) by decide)] at H; exact H
    clear H
    have H := H1
    clear H1
    obtain rfl := Option.some.inj H
    go_enter Tryd.func41, Tryd.ntmps41
    go_wp2_with (first | ((with_reducible refine gate_dst (N := 2) rfl ?_); refine box_event ?hg (N := 2) ?hd (cs := #[.int .i64 a0_0, .slice A0_1 l0_1.length c0_1, .int .i64 a0_2, .int .i64 a0_3]) (t := 39) ?hr ?_; (case hd => rfl); (case hg => rfl); (case hr => first | (go_simp; done) | (go_simp; rfl)); intro gb109 hg w20 hbox hb; have n0_ := Aside0.mk (below_step (by repeat (first | (with_reducible first | exact HB.out | apply below_alloc | apply pw_below_drewN | apply below_drew1) | exact HB.out)) hb); have n1_ := Aside0.mk (hbox); have n2_ := Aside0.mk ((by rw [hg]; exact (below_size (by repeat (first | (with_reducible first | exact HB.out | apply below_alloc | apply pw_below_drewN | apply below_drew1) | exact HB.out))) : w.heap.size ≤ gb109)); have n3_ := Aside0.mk ((by rw [hg]; exact (below_size (by repeat (first | (with_reducible first | exact HB.out | apply below_alloc | apply pw_below_drewN | apply below_drew1) | exact HB.out))) : w.heap.size ≤ gb109)); clear HB; have HB := n0_; have BK109 := n1_; have GW109 := n2_; have GE109 := n3_; clear n0_ n1_ n2_ n3_; clear hb hbox hg; have hcz21_0 : w20.cell? ⟨gb109, 0, none⟩ = some (.int .i64 a0_0) := (blk_cell BK109.out 0).trans rfl; have hcz21_1 : w20.cell? ⟨gb109, 1, none⟩ = some (.slice A0_1 l0_1.length c0_1) := (blk_cell BK109.out 1).trans rfl; have hcz21_2 : w20.cell? ⟨gb109, 2, none⟩ = some (.int .i64 a0_2) := (blk_cell BK109.out 2).trans rfl; have hcz21_3 : w20.cell? ⟨gb109, 3, none⟩ = some (.int .i64 a0_3) := (blk_cell BK109.out 3).trans rfl; have hfz21_0 := blk_frozen BK109.out 0; have hfz21_1 := blk_frozen BK109.out 1; have hfz21_2 := blk_frozen BK109.out 2; have hfz21_3 := blk_frozen BK109.out 3) | ((with_reducible refine gate_callee (f := 46) rfl ?_); refine goesL_ (some 7) rfl rfl Tryd.func46 (by kernel_rfl) rfl #[.int .i64 a0_0, .int .i64 1, .int .i64 20] rfl (by (try simp only [List.map_toArray, List.map_cons, List.map_nil]); first | done | rfl | (simp only [List.length_drop, List.length_take]; rfl)) ?_; (with_reducible refine (spec_inRange.calls a0_0 1 20 false _ A3.out).mono ?_); rintro e w' ⟨rfl, ⟨nd, rfl⟩⟩; refine ⟨_, rfl, ?_⟩))
    go_ret
    exact ⟨by first | rfl | (simp [errW_none, errW_some] <;> rfl) | (simp [*, errW_none, errW_some] <;> rfl), by repeat (first | (with_reducible first | exact HB.out | apply below_alloc | apply pw_below_drewN | apply below_drew1 | refine below_set ?_ GE109.out) | exact HB.out)⟩
end Go.Proofs.YtpdgnncnejmhfaaDoor.P
end
section
namespace Go.Proofs.YtpdgnncnejmhfaaDoor.P
open Go.RowKit Go.Proofs.YtpdgnncnejmhfaaDoorW.PrintWords Go.Proofs.YtpdgnncnejmhfaaDoorW.PrintLast Go.Proofs.YtpdgnncnejmhfaaDoorW.PrintMore
attribute [local go_sem] max2_int min2_int max_two min_two max_three min_three max_four min_four   -- for this text's walks alone
set_option linter.unusedVariables false
set_option linter.unusedSimpArgs false
def spec_tasksFine.l0 : Nat → List (S39) → Int → Option (Bool)
  | 0, _, _ => none
  | k + 1, x0, x3 => if x3 < (x0.length : Int) then (if 0 ≤ x3 then ((spec_validTask.f k ((rd_T39 x0 x3).f0) ((rd_T39 x0 x3).f1) ((rd_T39 x0 x3).f2) ((rd_T39 x0 x3).f3) (x0.length : Int)).bind fun t116 => (if t116 = true then (spec_tasksFine.l0 k x0 (wrap64 (x3 + 1))) else (some false))) else (none)) else (some (decide ((x0.length : Int) ≤ 8)))
def spec_tasksFine.f (k : Nat) (l0 : List (S39)) : Option (Bool) := spec_tasksFine.l0 k l0 0
theorem spec_tasksFine.mono_l : ∀ k, (∀ y0 y1, LeO (spec_tasksFine.l0 k y0 y1) (spec_tasksFine.l0 (k + 1) y0 y1))
  | 0 => fun _ _ r h => by simp [spec_tasksFine.l0] at h
  | k + 1 => by
    have ih0 := spec_tasksFine.mono_l k
    · intro y0 y1
      unfold spec_tasksFine.l0
      repeat' first
      | (with_reducible exact ih0 _ _)
      | (with_reducible exact spec_validTask.mono _ _ _ _ _ _)
      | (with_reducible exact LeO.refl _)
      | (with_reducible exact LeO.none _)
      | (with_reducible refine LeO.ite ?_ ?_)
      | (with_reducible refine LeO.bind ?_ (fun _ => ?_))
      | exact ih0 _ _
      | exact spec_validTask.mono _ _ _ _ _ _
      | exact LeO.none _
      | refine LeO.ite ?_ ?_
      | refine LeO.bind ?_ (fun _ => ?_)
theorem spec_tasksFine.mono : ∀ a0 k, LeO (spec_tasksFine.f k a0) (spec_tasksFine.f (k + 1) a0) := by
  intro a0 k
  have ih0 := spec_tasksFine.mono_l k
  unfold spec_tasksFine.f
  repeat' first
      | (with_reducible exact ih0 _ _)
      | (with_reducible exact spec_validTask.mono _ _ _ _ _ _)
      | (with_reducible exact LeO.refl _)
      | (with_reducible exact LeO.none _)
      | (with_reducible refine LeO.ite ?_ ?_)
      | (with_reducible refine LeO.bind ?_ (fun _ => ?_))
      | exact ih0 _ _
      | exact spec_validTask.mono _ _ _ _ _ _
      | exact LeO.none _
      | refine LeO.ite ?_ ?_
      | refine LeO.bind ?_ (fun _ => ?_)
set_option maxHeartbeats 8000000 in
set_option maxRecDepth 100000 in
theorem spec_tasksFine.calls (k : Nat) (A0 : Option Addr) (c0 : Nat) (l0 : List (S39)) (r : Bool) (w : World) (hr0 : Kd.C k39 w A0 l0.length l0) (hc0 : l0.length ≤ c0) (h : spec_tasksFine.f k l0 = some r) :
    Calls Tryd.prog 30 #[.slice A0 l0.length c0] w fun e w' => e = .returned (.bool r) ∧ Below w.heap.size w w' := by
  have hu39 := Tryd.underlying39
  have HR0 := Aside0.mk hr0
  have HC0 := Aside0.mk hc0
  clear hr0 hc0
  have HB := Aside0.mk (Below.refl w.heap.size w)
  have H : (spec_tasksFine.l0 k l0 0) = some r := h
  clear h
  have H' := Aside0.mk H
  clear H
  go_enter Tryd.func30, Tryd.ntmps30
  go_wp2
  go_loopg [3] k (fun kq v3 w' => ∃ (x3_1 : Int), v3 = .int .i64 x3_1 ∧ Aside0 (spec_tasksFine.l0 kq l0 x3_1 = some r) ∧ Aside0 (kq ≤ k) ∧ Aside0 (Below w.heap.size w w'))
  case atStart => exact ⟨(0), (by first | rfl | (simp; done) | (simp [*]; done)), H', ⟨Nat.le_refl _⟩, ⟨by repeat (first | (with_reducible first | exact HB.out | apply below_alloc | apply pw_below_drewN | apply below_drew1) | exact HB.out)⟩⟩
  case round =>
    clear H'
    obtain ⟨x3_1, rfl, HA, HK1, HB⟩ := hrel
    cases gk with
    | zero => exact absurd HA.out (by simp [spec_tasksFine.l0])
    | succ k1 =>
      have H := HA.out
      clear HA
      simp only [spec_tasksFine.l0] at H
      by_cases c2 : x3_1 < (l0.length : Int)
      · rw [if_pos c2] at H
        have c2b0 : decide (x3_1 < (l0.length : Int)) = true := decide_eq_true c2
        clear c2
        by_cases c3 : 0 ≤ x3_1
        · rw [if_pos c3] at H
          have c3b0 : decide (0 ≤ x3_1) = true := decide_eq_true c3
          clear c3
          replace H := Option.bind_eq_some_iff.mp H
          obtain ⟨t116, A40, H⟩ := H
          replace H : (if t116 = true then (spec_tasksFine.l0 k1 l0 (wrap64 (x3_1 + 1))) else (some false)) = some r := H
          have A4 := Aside0.mk A40
          clear A40
          by_cases c5 : t116 = true
          · subst c5
            have H1 : (spec_tasksFine.l0 k1 l0 (wrap64 (x3_1 + 1))) = some r := by rw [if_pos rfl] at H; exact H
            clear H
            have H := H1
            clear H1
            have H' := Aside0.mk H
            clear H
            have p115 : 0 ≤ (x3_1 : Int) := of_decide_eq_true (by first | (with_reducible assumption) | assumption)
            have q115 : x3_1 < (l0.length : Int) := of_decide_eq_true (by first | (with_reducible assumption) | assumption)
            obtain ⟨ad115, A115_1, c115_1, e115, hx115_0, hx115_1, hx115_2, hx115_3, hl115_1, hi115_1⟩ := at_T39 HR0.out x3_1 p115 q115
            cases e115
            (try replace hx115_0 := (HB.out.cell (World.block_lt_of_cell? w _ hx115_0)).trans hx115_0)
            (try replace hx115_1 := (HB.out.cell (World.block_lt_of_cell? w _ hx115_1)).trans hx115_1)
            (try replace hx115_2 := (HB.out.cell (World.block_lt_of_cell? w _ hx115_2)).trans hx115_2)
            (try replace hx115_3 := (HB.out.cell (World.block_lt_of_cell? w _ hx115_3)).trans hx115_3)
            have HR115_1 := Aside0.mk hi115_1
            have HC115_1 := Aside0.mk hl115_1
            clear hi115_1 hl115_1
            replace p115 := eq_true p115
            replace q115 := eq_true q115
            go_wp2_with (first | ((with_reducible refine gate_callee (f := 41) rfl ?_); refine goesL_ (some 16) rfl rfl Tryd.func41 (by kernel_rfl) rfl #[.agg #[.int .i64 ((rd_T39 l0 x3_1).f0), .slice A115_1 ((rd_T39 l0 x3_1).f1).length c115_1, .int .i64 ((rd_T39 l0 x3_1).f2), .int .i64 ((rd_T39 l0 x3_1).f3)], .int .i64 (l0.length : Int)] rfl (by (try simp only [List.map_toArray, List.map_cons, List.map_nil]); first | done | rfl | (simp only [List.length_drop, List.length_take]; rfl)) ?_; (with_reducible refine (spec_validTask.calls k1 ((rd_T39 l0 x3_1).f0) _ _ ((rd_T39 l0 x3_1).f1) ((rd_T39 l0 x3_1).f2) ((rd_T39 l0 x3_1).f3) (l0.length : Int) true _ ?side1 ?side2 A4.out).mono ?_); (case side1 => repeat (first | exact (Kd.C_below HR115_1.out HB.out) | exact HR115_1.out | (with_reducible refine Kd.C_alloc ?_ _) | (with_reducible refine Kd.C_drewN ?_ _) | (with_reducible refine Kd.C_drew ?_))); (case side2 => exact HC115_1.out); rintro e w6 ⟨rfl, hb⟩; refine ⟨_, rfl, ?_⟩; have n0_ := Aside0.mk (below_step (by repeat (first | (with_reducible first | exact HB.out | apply below_alloc | apply pw_below_drewN | apply below_drew1) | exact HB.out)) hb); clear HB; have HB := n0_; clear n0_; (try clear hb); (try clear hb2); (try clear hk); (try clear hi)))
            go_roundg k1
            case measure => have := HK1.out; omega
            case rel => exact ⟨(wrap64 (x3_1 + 1)), (by first | rfl | (simp; done) | (simp [*]; done)), H', ⟨by have := HK1.out; omega⟩, ⟨by repeat (first | (with_reducible first | exact HB.out | apply below_alloc | apply pw_below_drewN | apply below_drew1) | exact HB.out)⟩⟩
          · replace c5 := Bool.eq_false_iff.mpr c5
            subst c5
            have H1 : (some false) = some r := by rw [if_neg (show ¬ (false = true) by decide)] at H; exact H
            clear H
            have H := H1
            clear H1
            obtain rfl := Option.some.inj H
            have p115 : 0 ≤ (x3_1 : Int) := of_decide_eq_true (by first | (with_reducible assumption) | assumption)
            have q115 : x3_1 < (l0.length : Int) := of_decide_eq_true (by first | (with_reducible assumption) | assumption)
            obtain ⟨ad115, A115_1, c115_1, e115, hx115_0, hx115_1, hx115_2, hx115_3, hl115_1, hi115_1⟩ := at_T39 HR0.out x3_1 p115 q115
            cases e115
            (try replace hx115_0 := (HB.out.cell (World.block_lt_of_cell? w _ hx115_0)).trans hx115_0)
            (try replace hx115_1 := (HB.out.cell (World.block_lt_of_cell? w _ hx115_1)).trans hx115_1)
            (try replace hx115_2 := (HB.out.cell (World.block_lt_of_cell? w _ hx115_2)).trans hx115_2)
            (try replace hx115_3 := (HB.out.cell (World.block_lt_of_cell? w _ hx115_3)).trans hx115_3)
            have HR115_1 := Aside0.mk hi115_1
            have HC115_1 := Aside0.mk hl115_1
            clear hi115_1 hl115_1
            replace p115 := eq_true p115
            replace q115 := eq_true q115
            go_wp2_with (first | ((with_reducible refine gate_callee (f := 41) rfl ?_); refine goesL_ (some 16) rfl rfl Tryd.func41 (by kernel_rfl) rfl #[.agg #[.int .i64 ((rd_T39 l0 x3_1).f0), .slice A115_1 ((rd_T39 l0 x3_1).f1).length c115_1, .int .i64 ((rd_T39 l0 x3_1).f2), .int .i64 ((rd_T39 l0 x3_1).f3)], .int .i64 (l0.length : Int)] rfl (by (try simp only [List.map_toArray, List.map_cons, List.map_nil]); first | done | rfl | (simp only [List.length_drop, List.length_take]; rfl)) ?_; (with_reducible refine (spec_validTask.calls k1 ((rd_T39 l0 x3_1).f0) _ _ ((rd_T39 l0 x3_1).f1) ((rd_T39 l0 x3_1).f2) ((rd_T39 l0 x3_1).f3) (l0.length : Int) false _ ?side1 ?side2 A4.out).mono ?_); (case side1 => repeat (first | exact (Kd.C_below HR115_1.out HB.out) | exact HR115_1.out | (with_reducible refine Kd.C_alloc ?_ _) | (with_reducible refine Kd.C_drewN ?_ _) | (with_reducible refine Kd.C_drew ?_))); (case side2 => exact HC115_1.out); rintro e w7 ⟨rfl, hb⟩; refine ⟨_, rfl, ?_⟩; have n0_ := Aside0.mk (below_step (by repeat (first | (with_reducible first | exact HB.out | apply below_alloc | apply pw_below_drewN | apply below_drew1) | exact HB.out)) hb); clear HB; have HB := n0_; clear n0_; (try clear hb); (try clear hb2); (try clear hk); (try clear hi)))
            go_ret
            exact ⟨by first | rfl | (simp [errW_none, errW_some] <;> rfl) | (simp [*, errW_none, errW_some] <;> rfl), by repeat (first | (with_reducible first | exact HB.out | apply below_alloc | apply pw_below_drewN | apply below_drew1) | exact HB.out)⟩
        · rw [if_neg c3] at H
          exact absurd H (by simp)
      · rw [if_neg c2] at H
        have c2b0 : decide (x3_1 < (l0.length : Int)) = false := decide_eq_false c2
        clear c2
        obtain rfl := Option.some.inj H
        go_wp2
        go_ret
        exact ⟨by first | rfl | (simp [errW_none, errW_some] <;> rfl) | (simp [*, errW_none, errW_some] <;> rfl), by repeat (first | (with_reducible first | exact HB.out | apply below_alloc | apply pw_below_drewN | apply below_drew1) | exact HB.out)⟩
end Go.Proofs.YtpdgnncnejmhfaaDoor.P
end
section
namespace Go.Proofs.YtpdgnncnejmhfaaDoor.P
open Go.RowKit Go.Proofs.YtpdgnncnejmhfaaDoorW.PrintWords Go.Proofs.YtpdgnncnejmhfaaDoorW.PrintLast Go.Proofs.YtpdgnncnejmhfaaDoorW.PrintMore
attribute [local go_sem] max2_int min2_int max_two min_two max_three min_three max_four min_four   -- for this text's walks alone
set_option linter.unusedVariables false
set_option linter.unusedSimpArgs false
def laws_szIntS.f (l0 : List Int) (a1 : Int) : Option (Int) := if (wrap64 (a1 - (l0.length : Int))) < 0 then (some (-1)) else (some (wrap64 (a1 - (l0.length : Int))))
set_option maxHeartbeats 8000000 in
set_option maxRecDepth 100000 in
theorem laws_szIntS.calls (A0 : Option Addr) (c0 : Nat) (l0 : List Int) (a1 : Int) (r : Int) (w : World) (hr0 : Kd.C (Kd.int .i64) w A0 l0.length l0) (hc0 : l0.length ≤ c0) (h : laws_szIntS.f l0 a1 = some r) :
    Calls Tryd.prog 29 #[.slice A0 l0.length c0, .int .i64 a1] w fun e w' => e = .returned (.int .i64 r) ∧ Drawn0 w w' := by
  have HR0 := Aside0.mk hr0
  have HC0 := Aside0.mk hc0
  clear hr0 hc0
  have H : (if (wrap64 (a1 - (l0.length : Int))) < 0 then (some (-1)) else (some (wrap64 (a1 - (l0.length : Int))))) = some r := h
  clear h
  by_cases c3 : (wrap64 (a1 - (l0.length : Int))) < 0
  · rw [if_pos c3] at H
    have c3b0 : decide ((wrap64 (a1 - (l0.length : Int))) < 0) = true := decide_eq_true c3
    clear c3
    obtain rfl := Option.some.inj H
    go_enter Tryd.func29, Tryd.ntmps29
    go_wp2
    go_ret
    exact ⟨by first | rfl | (simp; done) | (simp [*]; done), by repeat (first | exact Drawn0.refl _ | apply Drawn0.step)⟩
  · rw [if_neg c3] at H
    have c3b0 : decide ((wrap64 (a1 - (l0.length : Int))) < 0) = false := decide_eq_false c3
    clear c3
    obtain rfl := Option.some.inj H
    go_enter Tryd.func29, Tryd.ntmps29
    go_wp2
    go_ret
    exact ⟨by first | rfl | (simp; done) | (simp [*]; done), by repeat (first | exact Drawn0.refl _ | apply Drawn0.step)⟩
def laws_szTask.f (a0_0 : Int) (l0_1 : List Int) (a0_2 : Int) (a0_3 : Int) (a1 : Int) : Option (Int) := (laws_szIntS.f l0_1 a1).bind fun t102 => (if t102 < 0 then (some (-1)) else (some t102))
set_option maxHeartbeats 8000000 in
set_option maxRecDepth 100000 in
theorem laws_szTask.calls (a0_0 : Int) (A0_1 : Option Addr) (c0_1 : Nat) (l0_1 : List Int) (a0_2 : Int) (a0_3 : Int) (a1 : Int) (r : Int) (w : World) (hr0_1 : Kd.C (Kd.int .i64) w A0_1 l0_1.length l0_1) (hc0_1 : l0_1.length ≤ c0_1) (h : laws_szTask.f a0_0 l0_1 a0_2 a0_3 a1 = some r) :
    Calls Tryd.prog 17 #[.agg #[.int .i64 a0_0, .slice A0_1 l0_1.length c0_1, .int .i64 a0_2, .int .i64 a0_3], .int .i64 a1] w fun e w' => e = .returned (.int .i64 r) ∧ Below w.heap.size w w' := by
  have hu37 := Tryd.underlying37
  have HR0_1 := Aside0.mk hr0_1
  have HC0_1 := Aside0.mk hc0_1
  clear hr0_1 hc0_1
  have HB := Aside0.mk (Below.refl w.heap.size w)
  have H : ((laws_szIntS.f l0_1 a1).bind fun t102 => (if t102 < 0 then (some (-1)) else (some t102))) = some r := h
  clear h
  replace H := Option.bind_eq_some_iff.mp H
  obtain ⟨t102, A30, H⟩ := H
  replace H : (if t102 < 0 then (some (-1)) else (some t102)) = some r := H
  have A3 := Aside0.mk A30
  clear A30
  by_cases c4 : t102 < 0
  · rw [if_pos c4] at H
    have c4b0 : decide (t102 < 0) = true := decide_eq_true c4
    clear c4
    obtain rfl := Option.some.inj H
    go_enter Tryd.func17, Tryd.ntmps17
    go_wp2_with (first | ((with_reducible refine gate_dst (N := 2) rfl ?_); refine box_event ?hg (N := 2) ?hd (cs := #[.int .i64 a0_0, .slice A0_1 l0_1.length c0_1, .int .i64 a0_2, .int .i64 a0_3]) (t := 37) ?hr ?_; (case hd => rfl); (case hg => rfl); (case hr => first | (go_simp; done) | (go_simp; rfl)); intro gb101 hg w5 hbox hb; have n0_ := Aside0.mk (below_step (by repeat (first | (with_reducible first | exact HB.out | apply below_alloc | apply pw_below_drewN | apply below_drew1) | exact HB.out)) hb); have n1_ := Aside0.mk (hbox); have n2_ := Aside0.mk ((by rw [hg]; exact (below_size (by repeat (first | (with_reducible first | exact HB.out | apply below_alloc | apply pw_below_drewN | apply below_drew1) | exact HB.out))) : w.heap.size ≤ gb101)); have n3_ := Aside0.mk ((by rw [hg]; exact (below_size (by repeat (first | (with_reducible first | exact HB.out | apply below_alloc | apply pw_below_drewN | apply below_drew1) | exact HB.out))) : w.heap.size ≤ gb101)); clear HB; have HB := n0_; have BK101 := n1_; have GW101 := n2_; have GE101 := n3_; clear n0_ n1_ n2_ n3_; clear hb hbox hg; have hcz6_0 : w5.cell? ⟨gb101, 0, none⟩ = some (.int .i64 a0_0) := (blk_cell BK101.out 0).trans rfl; have hcz6_1 : w5.cell? ⟨gb101, 1, none⟩ = some (.slice A0_1 l0_1.length c0_1) := (blk_cell BK101.out 1).trans rfl; have hcz6_2 : w5.cell? ⟨gb101, 2, none⟩ = some (.int .i64 a0_2) := (blk_cell BK101.out 2).trans rfl; have hcz6_3 : w5.cell? ⟨gb101, 3, none⟩ = some (.int .i64 a0_3) := (blk_cell BK101.out 3).trans rfl; have hfz6_0 := blk_frozen BK101.out 0; have hfz6_1 := blk_frozen BK101.out 1; have hfz6_2 := blk_frozen BK101.out 2; have hfz6_3 := blk_frozen BK101.out 3) | ((with_reducible refine gate_callee (f := 29) rfl ?_); refine goesL_ (some 8) rfl rfl Tryd.func29 (by kernel_rfl) rfl #[.slice A0_1 l0_1.length c0_1, .int .i64 a1] rfl (by (try simp only [List.map_toArray, List.map_cons, List.map_nil]); first | done | rfl | (simp only [List.length_drop, List.length_take]; rfl)) ?_; (with_reducible refine (laws_szIntS.calls _ _ l0_1 a1 t102 _ ?side1 ?side2 A3.out).mono ?_); (case side1 => repeat (first | exact (Kd.C_below HR0_1.out HB.out) | exact HR0_1.out | (with_reducible refine Kd.C_alloc ?_ _) | (with_reducible refine Kd.C_drewN ?_ _) | (with_reducible refine Kd.C_drew ?_))); (case side2 => exact HC0_1.out); rintro e w' ⟨rfl, ⟨nd, rfl⟩⟩; refine ⟨_, rfl, ?_⟩))
    go_ret
    exact ⟨by first | rfl | (simp [errW_none, errW_some] <;> rfl) | (simp [*, errW_none, errW_some] <;> rfl), by repeat (first | (with_reducible first | exact HB.out | apply below_alloc | apply pw_below_drewN | apply below_drew1 | refine below_set ?_ GE101.out) | exact HB.out)⟩
  · rw [if_neg c4] at H
    have c4b0 : decide (t102 < 0) = false := decide_eq_false c4
    clear c4
    obtain rfl := Option.some.inj H
    go_enter Tryd.func17, Tryd.ntmps17
    go_wp2_with (first | ((with_reducible refine gate_dst (N := 2) rfl ?_); refine box_event ?hg (N := 2) ?hd (cs := #[.int .i64 a0_0, .slice A0_1 l0_1.length c0_1, .int .i64 a0_2, .int .i64 a0_3]) (t := 37) ?hr ?_; (case hd => rfl); (case hg => rfl); (case hr => first | (go_simp; done) | (go_simp; rfl)); intro gb101 hg w7 hbox hb; have n0_ := Aside0.mk (below_step (by repeat (first | (with_reducible first | exact HB.out | apply below_alloc | apply pw_below_drewN | apply below_drew1) | exact HB.out)) hb); have n1_ := Aside0.mk (hbox); have n2_ := Aside0.mk ((by rw [hg]; exact (below_size (by repeat (first | (with_reducible first | exact HB.out | apply below_alloc | apply pw_below_drewN | apply below_drew1) | exact HB.out))) : w.heap.size ≤ gb101)); have n3_ := Aside0.mk ((by rw [hg]; exact (below_size (by repeat (first | (with_reducible first | exact HB.out | apply below_alloc | apply pw_below_drewN | apply below_drew1) | exact HB.out))) : w.heap.size ≤ gb101)); clear HB; have HB := n0_; have BK101 := n1_; have GW101 := n2_; have GE101 := n3_; clear n0_ n1_ n2_ n3_; clear hb hbox hg; have hcz8_0 : w7.cell? ⟨gb101, 0, none⟩ = some (.int .i64 a0_0) := (blk_cell BK101.out 0).trans rfl; have hcz8_1 : w7.cell? ⟨gb101, 1, none⟩ = some (.slice A0_1 l0_1.length c0_1) := (blk_cell BK101.out 1).trans rfl; have hcz8_2 : w7.cell? ⟨gb101, 2, none⟩ = some (.int .i64 a0_2) := (blk_cell BK101.out 2).trans rfl; have hcz8_3 : w7.cell? ⟨gb101, 3, none⟩ = some (.int .i64 a0_3) := (blk_cell BK101.out 3).trans rfl; have hfz8_0 := blk_frozen BK101.out 0; have hfz8_1 := blk_frozen BK101.out 1; have hfz8_2 := blk_frozen BK101.out 2; have hfz8_3 := blk_frozen BK101.out 3) | ((with_reducible refine gate_callee (f := 29) rfl ?_); refine goesL_ (some 8) rfl rfl Tryd.func29 (by kernel_rfl) rfl #[.slice A0_1 l0_1.length c0_1, .int .i64 a1] rfl (by (try simp only [List.map_toArray, List.map_cons, List.map_nil]); first | done | rfl | (simp only [List.length_drop, List.length_take]; rfl)) ?_; (with_reducible refine (laws_szIntS.calls _ _ l0_1 a1 t102 _ ?side1 ?side2 A3.out).mono ?_); (case side1 => repeat (first | exact (Kd.C_below HR0_1.out HB.out) | exact HR0_1.out | (with_reducible refine Kd.C_alloc ?_ _) | (with_reducible refine Kd.C_drewN ?_ _) | (with_reducible refine Kd.C_drew ?_))); (case side2 => exact HC0_1.out); rintro e w' ⟨rfl, ⟨nd, rfl⟩⟩; refine ⟨_, rfl, ?_⟩))
    go_ret
    exact ⟨by first | rfl | (simp [errW_none, errW_some] <;> rfl) | (simp [*, errW_none, errW_some] <;> rfl), by repeat (first | (with_reducible first | exact HB.out | apply below_alloc | apply pw_below_drewN | apply below_drew1 | refine below_set ?_ GE101.out) | exact HB.out)⟩
end Go.Proofs.YtpdgnncnejmhfaaDoor.P
end
section
namespace Go.Proofs.YtpdgnncnejmhfaaDoor.P
open Go.RowKit Go.Proofs.YtpdgnncnejmhfaaDoorW.PrintWords Go.Proofs.YtpdgnncnejmhfaaDoorW.PrintLast Go.Proofs.YtpdgnncnejmhfaaDoorW.PrintMore
attribute [local go_sem] max2_int min2_int max_two min_two max_three min_three max_four min_four   -- for this text's walks alone
set_option linter.unusedVariables false
set_option linter.unusedSimpArgs false
def laws_szTaskS.l0 : Nat → List (S37) → Int → Int → Option (Int)
  | 0, _, _, _ => none
  | k + 1, x0, x1, x5 => if x5 < (x0.length : Int) then (if 0 ≤ x5 then ((laws_szTask.f ((rd_T37 x0 x5).f0) ((rd_T37 x0 x5).f1) ((rd_T37 x0 x5).f2) ((rd_T37 x0 x5).f3) x1).bind fun t104 => (if t104 < 0 then (some (-1)) else (laws_szTaskS.l0 k x0 t104 (wrap64 (x5 + 1))))) else (none)) else (some x1)
def laws_szTaskS.f (k : Nat) (l0 : List (S37)) (a1 : Int) : Option (Int) := if (wrap64 (a1 - (l0.length : Int))) < 0 then (some (-1)) else (laws_szTaskS.l0 k l0 (wrap64 (a1 - (l0.length : Int))) 0)
theorem laws_szTaskS.mono_l : ∀ k, (∀ y0 y1 y2, LeO (laws_szTaskS.l0 k y0 y1 y2) (laws_szTaskS.l0 (k + 1) y0 y1 y2))
  | 0 => fun _ _ _ r h => by simp [laws_szTaskS.l0] at h
  | k + 1 => by
    have ih0 := laws_szTaskS.mono_l k
    · intro y0 y1 y2
      unfold laws_szTaskS.l0
      repeat' first
      | (with_reducible exact ih0 _ _ _)
      | (with_reducible exact LeO.refl _)
      | (with_reducible exact LeO.none _)
      | (with_reducible refine LeO.ite ?_ ?_)
      | (with_reducible refine LeO.bind ?_ (fun _ => ?_))
      | exact ih0 _ _ _
      | exact LeO.none _
      | refine LeO.ite ?_ ?_
      | refine LeO.bind ?_ (fun _ => ?_)
theorem laws_szTaskS.mono : ∀ a0 a1 k, LeO (laws_szTaskS.f k a0 a1) (laws_szTaskS.f (k + 1) a0 a1) := by
  intro a0 a1 k
  have ih0 := laws_szTaskS.mono_l k
  unfold laws_szTaskS.f
  repeat' first
      | (with_reducible exact ih0 _ _ _)
      | (with_reducible exact LeO.refl _)
      | (with_reducible exact LeO.none _)
      | (with_reducible refine LeO.ite ?_ ?_)
      | (with_reducible refine LeO.bind ?_ (fun _ => ?_))
      | exact ih0 _ _ _
      | exact LeO.none _
      | refine LeO.ite ?_ ?_
      | refine LeO.bind ?_ (fun _ => ?_)
set_option maxHeartbeats 8000000 in
set_option maxRecDepth 100000 in
theorem laws_szTaskS.calls (k : Nat) (A0 : Option Addr) (c0 : Nat) (l0 : List (S37)) (a1 : Int) (r : Int) (w : World) (hr0 : Kd.C k37 w A0 l0.length l0) (hc0 : l0.length ≤ c0) (h : laws_szTaskS.f k l0 a1 = some r) :
    Calls Tryd.prog 5 #[.slice A0 l0.length c0, .int .i64 a1] w fun e w' => e = .returned (.int .i64 r) ∧ Below w.heap.size w w' := by
  have hu37 := Tryd.underlying37
  have HR0 := Aside0.mk hr0
  have HC0 := Aside0.mk hc0
  clear hr0 hc0
  have HB := Aside0.mk (Below.refl w.heap.size w)
  have H : (if (wrap64 (a1 - (l0.length : Int))) < 0 then (some (-1)) else (laws_szTaskS.l0 k l0 (wrap64 (a1 - (l0.length : Int))) 0)) = some r := h
  clear h
  by_cases c3 : (wrap64 (a1 - (l0.length : Int))) < 0
  · rw [if_pos c3] at H
    have c3b0 : decide ((wrap64 (a1 - (l0.length : Int))) < 0) = true := decide_eq_true c3
    clear c3
    obtain rfl := Option.some.inj H
    go_enter Tryd.func5, Tryd.ntmps5
    go_wp2
    go_ret
    exact ⟨by first | rfl | (simp [errW_none, errW_some] <;> rfl) | (simp [*, errW_none, errW_some] <;> rfl), by repeat (first | (with_reducible first | exact HB.out | apply below_alloc | apply pw_below_drewN | apply below_drew1) | exact HB.out)⟩
  · rw [if_neg c3] at H
    have c3b0 : decide ((wrap64 (a1 - (l0.length : Int))) < 0) = false := decide_eq_false c3
    clear c3
    have H' := Aside0.mk H
    clear H
    go_enter Tryd.func5, Tryd.ntmps5
    go_wp2
    go_loopg [1, 5] k (fun kq v1 v5 w' => ∃ (x1_1 : Int) (x5_1 : Int), v1 = .int .i64 x1_1 ∧ v5 = .int .i64 x5_1 ∧ Aside0 (laws_szTaskS.l0 kq l0 x1_1 x5_1 = some r) ∧ Aside0 (kq ≤ k) ∧ Aside0 (Below w.heap.size w w'))
    case atStart => exact ⟨(wrap64 (a1 - (l0.length : Int))), (0), (by first | rfl | (simp; done) | (simp [*]; done)), (by first | rfl | (simp; done) | (simp [*]; done)), H', ⟨Nat.le_refl _⟩, ⟨by repeat (first | (with_reducible first | exact HB.out | apply below_alloc | apply pw_below_drewN | apply below_drew1) | exact HB.out)⟩⟩
    case round =>
      clear H'
      try clear p2
      try clear c3
      try clear c3b0
      obtain ⟨x1_1, x5_1, rfl, rfl, HA, HK1, HB⟩ := hrel
      cases gk with
      | zero => exact absurd HA.out (by simp [laws_szTaskS.l0])
      | succ k1 =>
        have H := HA.out
        clear HA
        simp only [laws_szTaskS.l0] at H
        by_cases c4 : x5_1 < (l0.length : Int)
        · rw [if_pos c4] at H
          have c4b0 : decide (x5_1 < (l0.length : Int)) = true := decide_eq_true c4
          clear c4
          by_cases c5 : 0 ≤ x5_1
          · rw [if_pos c5] at H
            have c5b0 : decide (0 ≤ x5_1) = true := decide_eq_true c5
            clear c5
            replace H := Option.bind_eq_some_iff.mp H
            obtain ⟨t104, A60, H⟩ := H
            replace H : (if t104 < 0 then (some (-1)) else (laws_szTaskS.l0 k1 l0 t104 (wrap64 (x5_1 + 1)))) = some r := H
            have A6 := Aside0.mk A60
            clear A60
            by_cases c7 : t104 < 0
            · rw [if_pos c7] at H
              have c7b0 : decide (t104 < 0) = true := decide_eq_true c7
              clear c7
              obtain rfl := Option.some.inj H
              have p103 : 0 ≤ (x5_1 : Int) := of_decide_eq_true (by first | (with_reducible assumption) | assumption)
              have q103 : x5_1 < (l0.length : Int) := of_decide_eq_true (by first | (with_reducible assumption) | assumption)
              obtain ⟨ad103, A103_1, c103_1, e103, hx103_0, hx103_1, hx103_2, hx103_3, hl103_1, hi103_1⟩ := at_T37 HR0.out x5_1 p103 q103
              cases e103
              (try replace hx103_0 := (HB.out.cell (World.block_lt_of_cell? w _ hx103_0)).trans hx103_0)
              (try replace hx103_1 := (HB.out.cell (World.block_lt_of_cell? w _ hx103_1)).trans hx103_1)
              (try replace hx103_2 := (HB.out.cell (World.block_lt_of_cell? w _ hx103_2)).trans hx103_2)
              (try replace hx103_3 := (HB.out.cell (World.block_lt_of_cell? w _ hx103_3)).trans hx103_3)
              have HR103_1 := Aside0.mk hi103_1
              have HC103_1 := Aside0.mk hl103_1
              clear hi103_1 hl103_1
              replace p103 := eq_true p103
              replace q103 := eq_true q103
              go_wp2_with (first | ((with_reducible refine gate_callee (f := 17) rfl ?_); refine goesL_ (some 23) rfl rfl Tryd.func17 (by kernel_rfl) rfl #[.agg #[.int .i64 ((rd_T37 l0 x5_1).f0), .slice A103_1 ((rd_T37 l0 x5_1).f1).length c103_1, .int .i64 ((rd_T37 l0 x5_1).f2), .int .i64 ((rd_T37 l0 x5_1).f3)], .int .i64 x1_1] rfl (by (try simp only [List.map_toArray, List.map_cons, List.map_nil]); first | done | rfl | (simp only [List.length_drop, List.length_take]; rfl)) ?_; (with_reducible refine (laws_szTask.calls ((rd_T37 l0 x5_1).f0) _ _ ((rd_T37 l0 x5_1).f1) ((rd_T37 l0 x5_1).f2) ((rd_T37 l0 x5_1).f3) x1_1 t104 _ ?side1 ?side2 A6.out).mono ?_); (case side1 => repeat (first | exact (Kd.C_below HR103_1.out HB.out) | exact HR103_1.out | (with_reducible refine Kd.C_alloc ?_ _) | (with_reducible refine Kd.C_drewN ?_ _) | (with_reducible refine Kd.C_drew ?_))); (case side2 => exact HC103_1.out); rintro e w8 ⟨rfl, hb⟩; refine ⟨_, rfl, ?_⟩; have n0_ := Aside0.mk (below_step (by repeat (first | (with_reducible first | exact HB.out | apply below_alloc | apply pw_below_drewN | apply below_drew1) | exact HB.out)) hb); clear HB; have HB := n0_; clear n0_; (try clear hb); (try clear hb2); (try clear hk); (try clear hi)))
              go_ret
              exact ⟨by first | rfl | (simp [errW_none, errW_some] <;> rfl) | (simp [*, errW_none, errW_some] <;> rfl), by repeat (first | (with_reducible first | exact HB.out | apply below_alloc | apply pw_below_drewN | apply below_drew1) | exact HB.out)⟩
            · rw [if_neg c7] at H
              have c7b0 : decide (t104 < 0) = false := decide_eq_false c7
              clear c7
              have H' := Aside0.mk H
              clear H
              have p103 : 0 ≤ (x5_1 : Int) := of_decide_eq_true (by first | (with_reducible assumption) | assumption)
              have q103 : x5_1 < (l0.length : Int) := of_decide_eq_true (by first | (with_reducible assumption) | assumption)
              obtain ⟨ad103, A103_1, c103_1, e103, hx103_0, hx103_1, hx103_2, hx103_3, hl103_1, hi103_1⟩ := at_T37 HR0.out x5_1 p103 q103
              cases e103
              (try replace hx103_0 := (HB.out.cell (World.block_lt_of_cell? w _ hx103_0)).trans hx103_0)
              (try replace hx103_1 := (HB.out.cell (World.block_lt_of_cell? w _ hx103_1)).trans hx103_1)
              (try replace hx103_2 := (HB.out.cell (World.block_lt_of_cell? w _ hx103_2)).trans hx103_2)
              (try replace hx103_3 := (HB.out.cell (World.block_lt_of_cell? w _ hx103_3)).trans hx103_3)
              have HR103_1 := Aside0.mk hi103_1
              have HC103_1 := Aside0.mk hl103_1
              clear hi103_1 hl103_1
              replace p103 := eq_true p103
              replace q103 := eq_true q103
              go_wp2_with (first | ((with_reducible refine gate_callee (f := 17) rfl ?_); refine goesL_ (some 23) rfl rfl Tryd.func17 (by kernel_rfl) rfl #[.agg #[.int .i64 ((rd_T37 l0 x5_1).f0), .slice A103_1 ((rd_T37 l0 x5_1).f1).length c103_1, .int .i64 ((rd_T37 l0 x5_1).f2), .int .i64 ((rd_T37 l0 x5_1).f3)], .int .i64 x1_1] rfl (by (try simp only [List.map_toArray, List.map_cons, List.map_nil]); first | done | rfl | (simp only [List.length_drop, List.length_take]; rfl)) ?_; (with_reducible refine (laws_szTask.calls ((rd_T37 l0 x5_1).f0) _ _ ((rd_T37 l0 x5_1).f1) ((rd_T37 l0 x5_1).f2) ((rd_T37 l0 x5_1).f3) x1_1 t104 _ ?side1 ?side2 A6.out).mono ?_); (case side1 => repeat (first | exact (Kd.C_below HR103_1.out HB.out) | exact HR103_1.out | (with_reducible refine Kd.C_alloc ?_ _) | (with_reducible refine Kd.C_drewN ?_ _) | (with_reducible refine Kd.C_drew ?_))); (case side2 => exact HC103_1.out); rintro e w9 ⟨rfl, hb⟩; refine ⟨_, rfl, ?_⟩; have n0_ := Aside0.mk (below_step (by repeat (first | (with_reducible first | exact HB.out | apply below_alloc | apply pw_below_drewN | apply below_drew1) | exact HB.out)) hb); clear HB; have HB := n0_; clear n0_; (try clear hb); (try clear hb2); (try clear hk); (try clear hi)))
              go_roundg k1
              case measure => have := HK1.out; omega
              case rel => exact ⟨(t104), (wrap64 (x5_1 + 1)), (by first | rfl | (simp; done) | (simp [*]; done)), (by first | rfl | (simp; done) | (simp [*]; done)), H', ⟨by have := HK1.out; omega⟩, ⟨by repeat (first | (with_reducible first | exact HB.out | apply below_alloc | apply pw_below_drewN | apply below_drew1) | exact HB.out)⟩⟩
          · rw [if_neg c5] at H
            exact absurd H (by simp)
        · rw [if_neg c4] at H
          have c4b0 : decide (x5_1 < (l0.length : Int)) = false := decide_eq_false c4
          clear c4
          obtain rfl := Option.some.inj H
          go_wp2
          go_ret
          exact ⟨by first | rfl | (simp [errW_none, errW_some] <;> rfl) | (simp [*, errW_none, errW_some] <;> rfl), by repeat (first | (with_reducible first | exact HB.out | apply below_alloc | apply pw_below_drewN | apply below_drew1) | exact HB.out)⟩
end Go.Proofs.YtpdgnncnejmhfaaDoor.P
end
