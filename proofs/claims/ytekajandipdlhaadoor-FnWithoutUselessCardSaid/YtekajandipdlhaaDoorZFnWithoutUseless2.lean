/- The law FnWithoutUseless holds of the given program: the proof's own part, with its row and its card, part 2 of 3. -/
import Derived.Test.YtekajandipdlhaaDoorZFnWithoutUseless1
import Derived.Laws.BitsAllLaws
import Derived.KernelRfl
import Derived.RangeFuncNested
import Derived.RangeFuncBound
import Derived.RangeFuncCalls
import Derived.RangeFuncLeaves
import Derived.Shelf.Abstract
import Derived.Shelf.RegionOpen
import Derived.WalkKit
import Derived.OwnWalkIn
import Derived.TacticsInMore
import Derived.LoopNIn
import Derived.LoopIn
import Derived.StillTailTactics
import Derived.OrdersIn
import Derived.Test.YtekajandipdlhaaDoorProg
import Derived.Laws.BitsLemmas
import Derived.Lib.Hide
import Derived.Below
import Derived.Deep.Draws
import Derived.Deep.AppendLies
import Derived.Maps.AppendAt
import Derived.OwnWalk
import Derived.Laws.BytesArg
import Derived.Laws.MakeOwn
import Derived.Laws.OwnMore
import Derived.Deep.OwnRows
import Derived.Tactics
import Derived.Lib.ConvBytes
import Derived.Laws.Slices
import Derived.RowKit3
import Derived.Deep.LoopGhost
import Derived.Deep.QuietTactic
import Derived.BigQuiet
import Derived.WideLaws
import Derived.Deep.DeepCutAuto
import Derived.Deep.CutBlock
import Derived.Deep.RegionHeld3
import Derived.Laws.Rows
import Derived.Lib.AppendStr
import Derived.ArgAppend
import Derived.Laws.IdiomCopy
import Derived.OrdersHeld
import Derived.RowKit
section
set_option linter.unusedVariables false
set_option linter.unusedSimpArgs false
namespace Go.Proofs.YtekajandipdlhaaDoor.Core
open Go
end Go.Proofs.YtekajandipdlhaaDoor.Core
namespace Go.Proofs.YtekajandipdlhaaDoor.Core
open Go Go.RowKit Go.Shelf
attribute [local go_sem] Oper.semAt_some
theorem keepsOthers_below {W W' : World} (h : Below W.heap.size W W') : KeepsOthers W W' :=
  ⟨h.size, fun k _ hk _ => (h.block k (Array.getElem?_eq_some_iff.1 hk).1).trans hk⟩
end Go.Proofs.YtekajandipdlhaaDoor.Core
namespace Go.Proofs.YtekajandipdlhaaDoor.Core
open Go Go.RowKit Go.Shelf
attribute [local go_sem] Oper.semAt_some wide_fn wide_depth
end Go.Proofs.YtekajandipdlhaaDoor.Core
namespace Go.Proofs.YtekajandipdlhaaDoor.Core
open Go Go.RowKit Go.Proofs.YtekajandipdlhaaDoorW.PrintWords
end Go.Proofs.YtekajandipdlhaaDoor.Core
end
section
namespace Go.Proofs.YtekajandipdlhaaDoor.P
open Go.RowKit Go.Proofs.YtekajandipdlhaaDoorW.PrintWords Go.Proofs.YtekajandipdlhaaDoorW.PrintLast Go.Proofs.YtekajandipdlhaaDoorW.PrintMore
attribute [local go_sem] max2_int min2_int max_two min_two max_three min_three max_four min_four   -- for this text's walks alone
set_option linter.unusedVariables false
set_option linter.unusedSimpArgs false
theorem info35 : (Tryd.prog.info? 35).map (fun i => (i.zero, i.size, i.bytes)) = some (some (.slice none 0 0), 1, 24) := by kernel_rfl
end Go.Proofs.YtekajandipdlhaaDoor.P
end
section
set_option linter.unusedVariables false
set_option linter.unusedSimpArgs false
namespace Go.Proofs.YtekajandipdlhaaDoor.Core
open Go Go.RowKit Go.Proofs.YtekajandipdlhaaDoorW.PrintWords
section
variable {F : Fence} {nF : Nat} {P : Program} {ops : Array Oper} {rest : List Oper} {o : Oper} {a : Act} {Q : Exit → Act → World → Prop}
theorem gate_dstIn {N : Tmp} {W : World} (_hN : o.dst = some N) (h : wpListIn F nF P ops Q (o :: rest) a W) : wpListIn F nF P ops Q (o :: rest) a W := h
theorem R_litIn {α : Type} (d : Kd α) {w0 W : World} (base e : Nat) (hgd : o.guard = none) {N : Tmp} (_hd : o.dst = some N) (t : TypeId) (m : Nat) (es : Array (Nat × Operand)) (ho : o.op = .buildSlice t m es) {xs : List α} {inner : List Value} {ok okp : Nat → Prop}
    (hrun : (execOp a.eval o).run P W = .ok (.value (.slice (some ⟨W.heap.size, 0, none⟩) xs.length xs.length)) (W.alloc (.cells inner.toArray e)))
    (hrep : Reps (d.M W base okp) d.sz xs inner) (hok : ∀ k, okp k → ok k) (hfresh : ok W.heap.size) (HB : Below base w0 W) (hbase : base ≤ W.heap.size) (hm : xs.length ≤ 9223372036854775807)
    (h : ∀ v1 w1, d.R e w1 base ok v1 xs → Below base w0 w1 → W.grownBy w1 none → (∃ b, v1.ownBlock = some b ∧ W.heap.size ≤ b) → wpListIn F nF P ops Q rest (a.put o.dst v1) w1) : wpListIn F nF P ops Q (o :: rest) a W := by
  refine wpListIn_plain hgd fun K hK => ?_
  unfold Oper.wpIn
  refine ⟨by simp [Oper.about, ho], ?_⟩
  rw [Oper.semAt_plain F _ _ (by rw [ho]; intro c hc'; cases hc'), hrun]
  refine hK _ _ (h _ _ ⟨fun k hk => ?_, inner, ?_, ?_⟩ (HB.alloc hbase _) (World.grownBy_alloc W _ none) ⟨W.heap.size, by simp [Value.ownBlock], Nat.le_refl _⟩)
  · have : W.heap.size = k := by simpa [Value.ownBlock] using hk
    subst this
    exact hfresh
  · have h2 := World.ownsRow_lit (base := base) (e := e) (size := d.sz) W inner.toArray xs.length hbase (by simpa [maxLen] using hm) (by simpa using hrep.1)
    simpa using h2
  · refine hrep.imp_ (fun p c hp => d.M_mono (fun k hk => ⟨hok k hk.1, fun he => ?_⟩) (Kd.M_below (d.M_bound hp) (below_alloc (Below.refl _ _) _)))
    have h3 : k = W.heap.size := by simpa [Value.ownBlock] using he
    have := hk.2.2.1
    omega
theorem R_appendIn {α : Type} (d : Kd α) {w0 W : World} (base : Nat) (hgd : o.guard = none) (s x : Operand) (t e : TypeId) (z : Value) (bytes : Nat)
    (ho : o.op = .call { callee := .builtin .append, args := #[s, x], argTypes := #[t, t] })
    (ht : P.underlying t = some (.slice e)) (hinfo : (P.info? e).map (fun i => (i.zero, i.size, i.bytes)) = some (some z, d.sz, bytes)) (hz : z.cells.size = d.sz) (hs0 : 0 < d.sz) (hb0 : 0 < bytes)
    (v : Value) (xs : List α) (p : α) (cs : List Value) (ok okp : Nat → Prop) (hs : a.eval s = v) (hx : a.eval x = .slice (some ⟨W.heap.size, 0, none⟩) 1 1) (hp : d.M W base okp p cs) (hokp : ∀ k, okp k → ok k ∧ some k ≠ v.ownBlock) (hfresh : ∀ k, W.heap.size ≤ k → ok k)
    (HO : d.R e W base ok v xs) (HB : Below base w0 W) (hbase : base ≤ W.heap.size) (hl : (xs.length + 1) * bytes ≤ 140737488355328)
    (h : ∀ v1 w1, d.R e w1 base ok v1 (xs ++ [p]) → Below base w0 w1 → W.grownBy w1 v.ownBlock → (v1.ownBlock = v.ownBlock ∨ ∃ b, v1.ownBlock = some b ∧ W.heap.size ≤ b) → wpListIn F nF P ops Q rest (a.put o.dst v1) w1) :
    wpListIn F nF P ops Q (o :: rest) a (W.alloc (.cells cs.toArray e)) := by
  obtain ⟨h0, inner, hown, hr⟩ := HO
  obtain ⟨i0, hi, hzz⟩ := Option.map_eq_some_iff.1 hinfo
  simp only [Prod.mk.injEq] at hzz
  obtain ⟨hz0, hz1, hz2⟩ := hzz
  have hlen : xs.length + 1 ≤ 140737488355328 := Nat.le_trans (Nat.le_mul_of_pos_right _ hb0) hl
  obtain ⟨v1, w1, hrn, hown1, hg, _, hat⟩ := run_append_own_at (P := P) (W.alloc (.cells cs.toArray e)) base t o.type e i0 z d.sz bytes ht hi hz0 hz1 hz2 hz hs0 v xs.length inner (hown.alloc _) ⟨W.heap.size, 0, none⟩ 1 1 cs (by rw [d.K_len (d.K_of_M hp)]; simp)
    (by simpa using World.news_of_block (cs := cs.toArray) (t := e) (fr := (0, 0)) (heap_alloc_new W (.cells cs.toArray e))) (d.K_one (d.K_of_M hp)) (by simp only [maxLen]; omega) hl (by simp; omega)
  have hg1 := World.grownBy.trans (World.grownBy_alloc W (.cells cs.toArray e) v.ownBlock) hg
  have hat1 : v1.ownBlock = v.ownBlock ∨ ∃ b, v1.ownBlock = some b ∧ W.heap.size ≤ b := hat.imp id (fun h => ⟨_, h, by simp⟩)
  have hfin := h v1 w1 (Kd.R_appended h0 hr hp hokp hfresh hown1 hg1 hat1) ((HB.alloc hbase _).grown hg (by simp; omega) (own_base hown)) hg1 hat1
  refine wpListIn_plain hgd fun K hK => ?_
  unfold Oper.wpIn
  refine ⟨by simp [Oper.about, ho, resolve, Target.leads, Sem.run_pure], ?_⟩
  rw [Oper.semAt_plain F _ _ (by rw [ho]; intro c hc'; cases hc')]
  simp [execOp, ho, resolve, invoke, builtin, hs, hx, hrn, Result.andThen]
  exact hK _ _ hfin
theorem S_appendIn {α : Type} (d : Kd α) {w0 W : World} (base : Nat) (hgd : o.guard = none) (s x : Operand) (t e : TypeId) (z : Value) (bytes : Nat)
    (ho : o.op = .call { callee := .builtin .append, args := #[s, x], argTypes := #[t, t] })
    (ht : P.underlying t = some (.slice e)) (hinfo : (P.info? e).map (fun i => (i.zero, i.size, i.bytes)) = some (some z, d.sz, bytes)) (hz : z.cells.size = d.sz) (hs0 : 0 < d.sz) (hb0 : 0 < bytes)
    (v : Value) (xs : List α) (p : α) (cs : List Value) (ok okp : Nat → Prop) (hs : a.eval s = v) (hx : a.eval x = .slice (some ⟨W.heap.size, 0, none⟩) 1 1) (hp : d.M W base okp p cs) (hokp : ∀ k, okp k → ok k ∧ some k ≠ v.ownBlock) (hfresh : ∀ k, W.heap.size ≤ k → ok k)
    (HO : Kd.S d e W base (fun k => ok k ∧ ¬ okp k) v xs) (HB : Below base w0 W) (hbase : base ≤ W.heap.size) (hl : (xs.length + 1) * bytes ≤ 140737488355328)
    (h : ∀ v1 w1, Kd.S d e w1 base ok v1 (xs ++ [p]) → Below base w0 w1 → W.grownBy w1 v.ownBlock → (v1.ownBlock = v.ownBlock ∨ ∃ b, v1.ownBlock = some b ∧ W.heap.size ≤ b) → wpListIn F nF P ops Q rest (a.put o.dst v1) w1) :
    wpListIn F nF P ops Q (o :: rest) a (W.alloc (.cells cs.toArray e)) := by
  obtain ⟨f, hf, hR⟩ := Kd.S_tag HO xs.length okp (fun _ hk h2 => h2.2 hk)
  refine R_appendIn (Kd.tag f d) base hgd s x t e z bytes ho ht hinfo hz hs0 hb0 v xs.zipIdx (p, xs.length) cs ok okp hs hx (d.M_mono (fun k hk => ⟨hk, hf k hk⟩) hp) hokp hfresh (Kd.R_mono hR (fun _ hk => hk.1)) HB hbase (by rw [List.length_zipIdx]; exact hl) ?_
  intro v1 w1 hr
  rw [← Kd.zip_snoc] at hr
  exact h v1 w1 ⟨f, hr⟩
end
end Go.Proofs.YtekajandipdlhaaDoor.Core
end
section
set_option linter.unusedVariables false
set_option linter.unusedSimpArgs false
namespace Go.Proofs.YtekajandipdlhaaDoor.Core
open Go Go.RowKit Go.Shelf Go.Proofs.YtekajandipdlhaaDoorW.PrintWords Go.Proofs.YtekajandipdlhaaDoorW.PrintLast Go.Proofs.YtekajandipdlhaaDoorW.PrintMore Go.Proofs.YtekajandipdlhaaDoor.P
def uframe (f : Nat → Value) (v3 v5 v20 v21 : Value) : Array Value := #[f 0, f 1, f 2, v3, f 4, v5, f 6, f 7, f 8, f 9, f 10, f 11, f 12, f 13, f 14, f 15, f 16, f 17, f 18, f 19, v20, v21, f 22, f 23, f 24, f 25, f 26, f 27, f 28, f 29, f 30, f 31, f 32, f 33, f 34, f 35, f 36]
theorem uframe_lit {T : Array Value} {v3 v5 v20 v21 : Value} (hs : T.size = 37) (h3 : T[3]? = some v3) (h5 : T[5]? = some v5) (h20 : T[20]? = some v20) (h21 : T[21]? = some v21) : ∃ f, T = uframe f v3 v5 v20 v21 := by
  refine ⟨fun j => T.getD j undef, ?_⟩
  have hT0 : T = ((List.range 37).map fun j => T.getD j undef).toArray := by
    apply Array.ext
    · simp [hs]
    · intro i h1 h2
      simp [Array.getD_eq_getD_getElem?, h1]
  have e (j : Nat) (v : Value) (h : T[j]? = some v) : v = T.getD j undef := by rw [Array.getD_eq_getD_getElem?, h]; rfl
  obtain rfl := e _ _ h3
  obtain rfl := e _ _ h5
  obtain rfl := e _ _ h20
  obtain rfl := e _ _ h21
  exact hT0
/-- A task's useless needs, as pairs. -/
def uRow (i k : Nat) : List Int := [(i : Int), (k : Int)]
def uPairs (G : GD) (i : Nat) : List (List Int) := (elemsN (uselessD G i)).map (uRow i)
def uTo (G : GD) : Nat → List (List Int)
  | 0 => []
  | n + 1 => uTo G n ++ uPairs G n
theorem uPairs_length (G : GD) (i : Nat) : (uPairs G i).length ≤ 8 := by unfold uPairs; rw [List.length_map]; exact elemsN_length _
theorem uTo_length (G : GD) : ∀ n, (uTo G n).length ≤ n * 8
  | 0 => Nat.le_refl _
  | n + 1 => by
    have := uTo_length G n
    have := uPairs_length G n
    rw [uTo, List.length_append]
    omega
def uselessND (g : List Tk) : List (List Int) := match graphD g with
  | none => []
  | some G => uTo G g.length
/-- The row in its box, over a world. -/
def UI (w1 : World) (gb : Nat) (W : World) (rows : List (List Int)) : Prop :=
  (∃ A c, Boxed W gb 24 (.slice A rows.length c) ∧ Kd.S (Kd.slice 3 (Kd.int .i64)) 35 W w1.heap.size (fun _ => True) (.slice A rows.length c) rows) ∧ Below w1.heap.size w1 W
theorem UI.move {w1 : World} {gb : Nat} {W W' : World} {rows : List (List Int)} (h : UI w1 gb W rows) (hb : Below W.heap.size W W') : UI w1 gb W' rows := by
  obtain ⟨⟨A, c, h1, h2⟩, h3⟩ := h
  exact ⟨⟨A, c, (hb.block _ h1.lt).trans h1, Kd.S_below h2 hb⟩, below_step h3 hb⟩
theorem UI.alloc {w1 : World} {gb : Nat} {W : World} {rows : List (List Int)} (h : UI w1 gb W rows) (o : Obj) : UI w1 gb (W.alloc o) rows := h.move (below_alloc (Below.refl _ _) o)
theorem UI.tame {w1 : World} {gb B : Nat} {W W' : World} {rows : List (List Int)} (h : UI w1 gb W rows) (hB : w1.heap.size ≤ B) (ht : Tame B W W') : UI w1 gb W' rows := by
  obtain ⟨⟨A, c, h1, ⟨f, h2⟩⟩, h3⟩ := h
  exact ⟨⟨A, c, ht.boxed h1, ⟨f, ht.R h2⟩⟩, ht.below h3 (Nat.le_refl _) hB⟩
end Go.Proofs.YtekajandipdlhaaDoor.Core
namespace Go.Proofs.YtekajandipdlhaaDoor.P
open Go Go.RowKit Go.Shelf Go.Proofs.YtekajandipdlhaaDoorW.PrintWords Go.Proofs.YtekajandipdlhaaDoorW.PrintLast Go.Proofs.YtekajandipdlhaaDoorW.PrintMore Go.Proofs.YtekajandipdlhaaDoor.Core
attribute [local go_sem] Oper.semAt_some wide_fn wide_depth
def impl_UselessNeeds.f (l0 : List S37) : Option (List (List Int)) := some (uselessND l0)
set_option maxRecDepth 100000 in
set_option maxHeartbeats 1000000 in
theorem impl_UselessNeeds.calls (A0 : Option Addr) (c0 : Nat) (l0 : List S37) (r : List (List Int)) (w : World) (hr0 : Kd.C k37 w A0 l0.length l0) (hc0 : l0.length ≤ c0) (hT : Tab w) (h : impl_UselessNeeds.f l0 = some r) :
    Calls Tryd.prog 18 #[.slice A0 l0.length c0] w fun e w' => ∃ v0_ : Value, e = .returned (v0_) ∧ Kd.S (Kd.slice 3 (Kd.int .i64)) 35 w' w.heap.size (fun _ => True) v0_ r ∧ Below w.heap.size w w' := by
  have hr : r = uselessND l0 := (Option.some.inj h).symm
  subst hr
  clear h
  cases hg : graphD l0 with
  | none =>
    have hcd : uselessND l0 = [] := by unfold uselessND; rw [hg]
    rw [hcd]
    have HG := Aside0.mk (graphOf_none A0 c0 l0 w hT hr0 hc0 hg)
    clear hr0 hT hg hcd
    go_enter Tryd.func18, Tryd.ntmps18
    go_wp2_with (go_at_call 60; refine HG.out.mono ?_; rintro e w' ⟨rfl, hB⟩)
    go_ret
    exact ⟨_, rfl, Kd.S_nil _ _ _ _ _, hB⟩
  | some G =>
    have hcd : uselessND l0 = uTo G G.tasks.length := by unfold uselessND; rw [hg, graphD_tasks hg]
    rw [hcd]
    have HG := Aside0.mk (graphOf_some A0 c0 l0 G w hT hr0 hc0 hg)
    have OK := Aside0.mk (graphD_ok hg)
    have HT := Aside0.mk hT
    clear hr0 hT hg hcd hc0
    refine calls_marks Tryd.func18 rfl ?_
    simp only [Tryd.ntmps18, List.size_toArray, List.length_cons, List.length_nil, Nat.reduceAdd, Nat.reduceSub, Array.replicate_succ, Array.replicate_zero, List.push_toArray, List.append_toArray, List.nil_append, List.cons_append]
    go_wp2_with (first
      | (go_at_call 60; refine HG.out.mono ?_; rintro e w1 ⟨b, rfl, hB, hI⟩; have HB1 := Aside0.mk hB; have HI := Aside0.mk hI; clear hB hI HG)
      | ((with_reducible refine gate_dst (N := 15) rfl ?_); refine Kd.S_lit (Kd.slice 3 (Kd.int .i64)) _ 35 ?hg (N := 15) ?hd (xs := ([] : List (List Int))) (inner := []) (ok := fun _ => True) (okp := fun _ => True) ?hr ?hp (fun _ hk => hk) trivial (Below.refl _ _) (Nat.le_refl _) (by simp) ?_; (case hd => rfl); (case hg => rfl); (case hr => first | (go_simp; done) | (go_simp; rfl)); (case hp => exact (Reps.none _ _)); intro v15 w3 ho hb hg_ hnew_; obtain ⟨Ao, co, eo⟩ := Kd.S_slice ho; subst eo; have HO := Aside0.mk ho; have HB := Aside0.mk hb; clear hg_ hnew_ ho hb)
      | ((with_reducible refine gate_dst (N := 5) rfl ?_); refine box_event ?hg (N := 5) ?hd (cs := #[.slice none 0 0]) (t := 24) ?hr ?_; (case hd => rfl); (case hg => rfl); (case hr => first | (go_simp; done) | (go_simp; rfl)); intro gb hg w4 hbox hb; have n0 := Aside0.mk (Kd.S_below HO.out hb); have n1 := Aside0.mk (below_step HB.out hb); have GE := Aside0.mk (show w1.heap.size ≤ gb by rw [hg]; exact HB.out.size); clear HO HB hb hg; have HO := n0; have HB := n1; have BK := Aside0.mk hbox; clear n0 n1 hbox; have z0 : w4.cell? ⟨gb, 0, none⟩ = some (.slice none 0 0) := (blk_cell BK.out 0).trans rfl; have f0 := blk_frozen BK.out 0)
      | ((with_reducible refine gate_store (t := 24) (p := 5) rfl ?_); refine store_event (t := 24) (p := 5) (v := ?vo) (w1 := w4.setCell ⟨gb, 0, none⟩ (.slice Ao ([] : List (List Int)).length co)) ?hg ?ho ?hn ?hr ?_; (case ho => rfl); (case hg => rfl); (case hn => rfl); (case hr => first | (go_simp; done) | (go_simp; rfl)); intro w5 hw; have hb5 : Below w1.heap.size w1 w5 := (by rw [hw]; exact HB.out.setCell (p := ⟨gb, 0, none⟩) GE.out _); have HU := Aside0.mk (show UI w1 gb w5 (uTo G 0) from ⟨⟨Ao, co, by rw [hw]; exact Boxed.set _ BK.out, by rw [hw]; exact Kd.S_set HO.out BK.out (by decide) 0 _⟩, hb5⟩); have hI5 := HI.out.move hb5; obtain ⟨An, cn, hcn, _, _⟩ := hI5.needs; clear hw hI5 hb5 z0 f0 HO HB BK))
    clear hcn
    rename_i _ _
    have HWL := Aside0.mk (show w.heap.size ≤ w1.heap.size from HB1.out.size)
    refine wp_loop_ghost_k (fun n a W => ∃ i, i + n = G.tasks.length ∧ a.tmps.size = 37 ∧ a.tmps[3]? = some (.pointer (some ⟨b, 0, none⟩)) ∧ a.tmps[5]? = some (.pointer (some ⟨gb, 0, none⟩)) ∧ a.tmps[20]? = some (.int .i64 (G.needs.length : Int)) ∧ a.tmps[21]? = some (.int .i64 (i : Int)) ∧ (∃ hi, Marks w.heap.size hi W a.defers ∧ w.heap.size ≤ hi ∧ hi ≤ W.heap.size) ∧ UI w1 gb W (uTo G i)) G.tasks.length ⟨0, Nat.zero_add _, rfl, rfl, rfl, rfl, rfl, ⟨_, Marks.nil _ w5.heap.size _, Nat.le_trans HB1.out.size HU.out.2.size, Nat.le_refl _⟩, HU.out⟩ ?_
    rintro n ⟨tmps, ds⟩ W ⟨i, hin, hsz, h3, h5, h20, h21, ⟨hi, hM, hlo, hhi⟩, hU⟩ J K hJ hK
    generalize hj : (i : Int) = j at h21
    generalize hnl : (G.needs.length : Int) = nl at h20
    obtain ⟨f, rfl⟩ := uframe_lit hsz h3 h5 h20 h21
    clear hsz h3 h5 h20 h21 HU
    unfold uframe
    have HM := Aside0.mk hM
    have HU := Aside0.mk hU
    have HJ := Aside0.mk (show i + n = G.tasks.length ∧ j = (i : Int) ∧ nl = (G.tasks.length : Int) from ⟨hin, hj.symm, by rw [← hnl, OK.out.nl]⟩)
    have HNL := Aside0.mk (show G.needs.length = G.tasks.length from OK.out.nl)
    clear hM hU hj hnl hin
    cases n with
    | zero =>
      have hlt : decide (j < nl) = false := decide_eq_false (by obtain ⟨e1, e2, e3⟩ := HJ.out; omega)
      have hfin : uTo G i = uTo G G.tasks.length := by rw [show i = G.tasks.length by have := HJ.out.1; omega]
      obtain ⟨⟨A, c, hbx, hS⟩, hBw⟩ := HU.out
      have hcb := hbx.cell
      have HS := Aside0.mk hS
      have HBw := Aside0.mk hBw
      have HF := Aside0.mk hfin
      clear hS hBw hfin
      go_wp2
      refine leave_ret HM.out (fun W => results_tmp rfl _ _ _) ?_
      intro W' ht
      obtain ⟨f2, hS⟩ := HS.out
      exact ⟨_, rfl, by rw [← HF.out]; exact Kd.S_lower ⟨f2, ht.R hS⟩ HWL.out, ht.below (below_step HB1.out HBw.out) (Nat.le_refl _) (Nat.le_refl _)⟩
    | succ n =>
      have hlt : decide (j < nl) = true := decide_eq_true (by obtain ⟨e1, e2, e3⟩ := HJ.out; omega)
      have hil : i < G.tasks.length := by have := HJ.out.1; omega
      have HUC := fun W hT hg => useless_calls b G i W hT hg OK.out hil
      rw [← HJ.out.2.1] at HUC
      have hul := uselessD_lt OK.out i
      have hst : uTo G (i + 1) = uTo G i ++ (elemsN (uselessD G i)).map (uRow i) := rfl
      generalize uselessD G i = u at HUC hul hst
      have h8 := OK.out.n8
      have hul8 : u < 256 := Nat.lt_of_lt_of_le hul (pow8 h8)
      have HUC := Aside0.mk HUC
      have HST := Aside0.mk hst
      have HRL := Aside0.mk (show (uTo G i).length ≤ 64 from Nat.le_trans (uTo_length G i) (by omega))
      clear hst hul h8
      go_wp2_with (first
        | ((with_reducible refine gate_dst (N := 6) rfl ?_); refine box_event ?hg (N := 6) ?hd (cs := #[.int .i64 0]) (t := 3) ?hr ?_; (case hd => rfl); (case hg => rfl); (case hr => first | (go_simp; done) | (go_simp; rfl)); intro gi hg w6 hbox hb; have GEI := Aside0.mk (show W.heap.size ≤ gi by rw [hg]; exact Nat.le_refl _); have HX := Aside0.mk hb; clear hb hg; have BK := Aside0.mk hbox; clear hbox; have z0 : w6.cell? ⟨gi, 0, none⟩ = some (.int .i64 0) := (blk_cell BK.out 0).trans rfl; have f0 := blk_frozen BK.out 0)
        | ((with_reducible refine gate_store (t := 3) (p := 6) rfl ?_); go_loud (refine store_event (t := 3) (p := 6) (v := ?vo7) (w1 := w6.setCell ⟨gi, 0, none⟩ (.int .i64 j)) ?hg ?ho ?hn ?hr ?_; (case ho => rfl); (case hg => rfl); (case hn => rfl); (case hr => first | (go_simp; done) | (go_simp; rfl)); intro w7 hw; have hb := (show Below W.heap.size W w7 by rw [hw]; exact HX.out.setCell (p := ⟨gi, 0, none⟩) GEI.out _); have hbi := (show Boxed w7 gi 3 (.int .i64 j) by rw [hw]; exact Boxed.set _ BK.out); have HNE := Aside0.mk (show gb ≠ gi by (obtain ⟨⟨A, c, hbx, _⟩, _⟩ := HU.out; have h1 := hbx.lt; have h2 := GEI.out; omega)); have HU7 := HU.out.move hb; have HM7 := HM.out.below hb; have HZ := Aside0.mk hb.size; clear hw z0 f0 BK HX HU HM hb; have HU := Aside0.mk HU7; have HM := Aside0.mk HM7; clear HU7 HM7; have HBI := Aside0.mk hbi; have hci := hbi.cell; clear hbi))
        | (go_at_call 61; go_loud (refine (HUC.out w7 (HT.out.of (below_step HB1.out HU.out.2)) (HI.out.move HU.out.2)).mono ?_; rintro e w8 ⟨rfl, hb⟩; clear hci; have HU7 := HU.out.move hb; have HM7 := HM.out.below hb; have hbi7 := (hb.block _ HBI.out.lt).trans HBI.out; have hz7 := Nat.le_trans HZ.out hb.size; clear HU HM HBI HZ hb HUC; have HU := Aside0.mk HU7; have HM := Aside0.mk HM7; have HBI := Aside0.mk (show Boxed w8 gi 3 (.int .i64 j) from hbi7); have HZ := Aside0.mk hz7; clear HU7 HM7 hbi7 hz7))
        | (go_at_call 62; refine (all_calls u _).mono ?_; rintro e w' ⟨rfl, rfl⟩))
      have hs3 := Boxed.new w8 70 (.int .u16 (u : Int))
      have hU3 := HU.out.alloc (.cells #[.int .u16 (u : Int)] 70)
      have hbi3 := HBI.out.alloc (.cells #[.int .u16 (u : Int)] 70)
      have hM3 := HM.out.below ((Below.refl w8.heap.size w8).alloc (Nat.le_refl _) (.cells #[.int .u16 (u : Int)] 70))
      have hsz3 : (w8.alloc (.cells #[.int .u16 (u : Int)] 70)).heap.size = w8.heap.size + 1 := by simp
      have hz := HZ.out
      clear HU HM HBI HZ
      revert hs3 hbi3 hU3 hM3 hsz3
      generalize w8.alloc (.cells #[.int .u16 (u : Int)] 70) = Wb
      intro hs3 hU3 hbi3 hM3 hsz3
      have hb1 : w1.heap.size ≤ Wb.heap.size := hU3.2.size
      have hb2 : hi ≤ Wb.heap.size := by omega
      refine wp_rangeSet Tab.tame (w := Wb) (w0 := Wb) (p := 28) (d := 7) rfl (enters_of Tryd.func101 (by kernel_rfl) rfl)
        (all_seq w8.heap.size u hul8 Wb (HT.out.of (below_step HB1.out hU3.2)) hs3.cell) (Below.refl _ _) (by simp)
        (fun ys W' => ∃ zs : List Nat, ys = up zs ∧ UI w1 gb W' (uTo G i ++ zs.map (uRow i)) ∧ Boxed W' gi 3 (.int .i64 j) ∧ Marks w.heap.size hi W' ds ∧ Wb.heap.size ≤ W'.heap.size) (fun _ _ _ => False)
        (ownFrom_tame (fun ys W' W'' ht ⟨zs, a, b, c, d, e⟩ => ⟨zs, a, b.tame hb1 ht, ht.boxed c, d.tame ht hb2, Nat.le_trans e ht.size⟩)) (fun _ => ownFrom_tame (fun _ _ _ _ h => h))
        ⟨[], rfl, by rw [List.map_nil, List.append_nil]; exact hU3, hbi3, hM3, Nat.le_refl _⟩ (fun ys W' ⟨_, _, b, _⟩ => HT.out.of (below_step HB1.out b.2)) ?body1 ?done1 (fun _ _ _ _ _ h _ => h.elim)
      case body1 =>
        rintro l pre1 x Wd hx ⟨zs, rfl, hU4, hbi4, hM4, hsz4⟩ hlt1
        obtain ⟨k0, hxk, hk0, _⟩ := mem_elems.1 hx
        have hzl16 : zs.length < 16 := by rwa [up_length] at hlt1
        have hRl : (uTo G i ++ zs.map (uRow i)).length ≤ 100 := by rw [List.length_append, List.length_map]; have := HRL.out; omega
        have hstep : uTo G i ++ (zs ++ [k0]).map (uRow i) = (uTo G i ++ zs.map (uRow i)) ++ [[j, x]] := by rw [List.map_append, ← List.append_assoc, hxk, HJ.out.2.1]; rfl
        generalize uTo G i ++ zs.map (uRow i) = R at hU4 hRl hstep
        obtain ⟨⟨A, c, hbx, hS⟩, hBw⟩ := hU4
        have hcu := hbx.cell
        have hci := hbi4.cell
        have HS := Aside0.mk hS
        have HBX := Aside0.mk hbx
        have HBW := Aside0.mk hBw
        have HBI := Aside0.mk hbi4
        have HM := Aside0.mk hM4
        have HXK := Aside0.mk hxk
        have HSTEP := Aside0.mk hstep
        have HRl := Aside0.mk hRl
        have HSZ := Aside0.mk hsz4
        have HKO := Aside0.mk (KeepsOthers.refl Wd)
        clear hS hbx hBw hbi4 hM4 hxk hstep hRl hsz4 hlt1 hlt hx hzl16 hbi3 hU3 hM3 hs3
        gi_wp2_with (first
          | ((with_reducible refine gate_dstIn (N := 32) rfl ?_); go_loud (refine R_litIn (Kd.int .i64) _ 3 ?hg (N := 32) ?hd _ _ _ rfl (xs := [j, x]) (inner := [.int .i64 j, .int .i64 x]) (ok := fun _ => True) (okp := fun _ => True) ?hr ?hp (fun _ hk => hk) trivial (Below.refl _ _) (Nat.le_refl _) (by simp) ?_; (case hd => rfl); (case hg => rfl); (case hr => first | (go_simp; done) | (go_simp; rfl)); (case hp => exact Kd.reps_scalar (enc := Value.int .i64) [j, x]); intro v32 w9 ho hb hg_ hnew_; obtain ⟨A9, c9, e9⟩ := Kd.R_slice ho; rw [show ([j, x] : List Int).length = 2 from rfl] at e9; subst e9; have HL := Aside0.mk ho; have HS9 := Aside0.mk (Kd.S_old HS.out hb); have HB9 := Aside0.mk (below_step HBW.out hb); have HBX9 := Aside0.mk (show Boxed w9 gb 24 (.slice A R.length c) from (hb.block _ HBX.out.lt).trans HBX.out); have HBI9 := Aside0.mk (show Boxed w9 gi 3 (.int .i64 j) from (hb.block _ HBI.out.lt).trans HBI.out); have HM9 := Aside0.mk (HM.out.below hb); have HKO9 := Aside0.mk (HKO.out.trans (keepsOthers_below hb)); have HSZ9 := Aside0.mk (Nat.le_trans HSZ.out hb.size); have HZD := Aside0.mk (show w1.heap.size ≤ Wd.heap.size from HBW.out.size); clear hg_ hnew_ ho hb HBW HBX HBI HM HKO HSZ hcu hci))
          | (gi_at_builtin; go_loud (refine S_appendIn (Kd.slice 3 (Kd.int .i64)) (w0 := w1) w1.heap.size rfl (.tmp 29) (.tmp 33) 24 35 (.slice none 0 0) 24 rfl Tryd.underlying24 info35 rfl (by decide) (by omega) (.slice A R.length c) R [j, x] [.slice A9 2 c9] (fun _ => True) (fun k_ => some k_ = (.slice A9 2 c9 : Value).ownBlock) rfl rfl ?aP ?aH ?aF ?aO ?aB ?aS ?aL ?_; (case aP => exact Kd.M_row (Kd.R_lower (Kd.R_tight rfl HL.out) HZD.out)); (case aH => exact fun k hk => ⟨trivial, fun e => by have h1 := Kd.R_base HL.out k hk.symm; have h2 := Kd.S_lt HS.out k e.symm; omega⟩); (case aF => exact fun _ _ => trivial); (case aO => exact Kd.S_mono HS9.out (fun k hk => ⟨trivial, fun e => by have h1 := Kd.R_base HL.out k e.symm; have h2 := hk.2; omega⟩)); (case aB => exact HB9.out); (case aS => exact HB9.out.size); (case aL => have h1 := HRl.out; omega); intro v10 w10 ho hb hg hat; obtain ⟨A10, c10, e10⟩ := Kd.S_slice ho; rw [show (R ++ [[j, x]]).length = R.length + 1 by simp] at e10; subst e10; have hty := Kd.S_typed HS9.out; have hbx := HBX9.out.kept hg (fun e => by obtain ⟨cs, hc⟩ := hty gb e.symm; have h1 := HBX9.out.symm.trans hc; injection h1 with h1; injection h1 with _ h2; exact absurd h2 (by decide)); have hbi := HBI9.out.kept hg (fun e => by obtain ⟨cs, hc⟩ := hty gi e.symm; have h1 := HBI9.out.symm.trans hc; injection h1 with h1; injection h1 with _ h2; exact absurd h2 (by decide)); have HM10 := Aside0.mk (HM9.out.grow hg (fun k hk => by obtain ⟨cs, hc⟩ := hty k hk; exact ⟨_, _, hc⟩)); have HKO10 := Aside0.mk (HKO9.out.trans (KeepsOthers.of_grownBy hg (fun jj o ej hj => by obtain ⟨cs, hc⟩ := hty jj ej; rw [hc] at hj; cases hj; rfl))); have HSZ10 := Aside0.mk (Nat.le_trans HSZ9.out hg.size); have HS10 := Aside0.mk ho; have HB10 := Aside0.mk hb; have HBX10 := Aside0.mk hbx; have HBI10 := Aside0.mk hbi; have hcb := hbx.cell; have hfb := hbx.frozen; clear hty hbx hbi ho hb hg hat HS9 HB9 HBX9 HBI9 HM9 HKO9 HSZ9 HL)))
        refine ⟨(HKO10.out.trans (KeepsOthers.setCell _ _ _)).from _, zs ++ [k0], by rw [HXK.out]; simp [Core.up], ?_, ?_, ?_, ?_⟩
        · rw [HSTEP.out]
          refine ⟨⟨A10, c10, ?_, ?_⟩, HB10.out.setCell (p := ⟨gb, 0, none⟩) GE.out _⟩
          · rw [show (R ++ [[j, x]]).length = R.length + 1 by simp]
            exact HBX10.out.set _
          · rw [show (R ++ [[j, x]]).length = R.length + 1 by simp]
            exact Kd.S_set HS10.out HBX10.out (by decide) 0 _
        · exact HBI10.out.kept (grownBy_setCell' _ _ _) (fun e => by injection e with e; exact HNE.out e.symm)
        · exact HM10.out.grow (grownBy_setCell' _ _ _) (fun k hk => ⟨_, _, by cases hk; exact HBX10.out⟩)
        · exact Nat.le_trans HSZ10.out (KeepsOthers.setCell _ _ _).size
      case done1 =>
        rintro D W2 hD ⟨zs, hzs, hU4, hbi4, hM4, hsz4⟩ hk
        obtain rfl : elemsN u = zs := up_inj hzs
        have hM5 := hM4.cons (Nat.le_trans hb2 hD) hlo hk
        rw [← HST.out] at hU4
        have HU5 := Aside0.mk hU4
        have HM5 := Aside0.mk hM5
        clear hzs hk hs3 hbi3 hU3 hM3 hU4 hM5 hM4
        go_wp2
        have hj1 : wrap64 (j + 1) = ((i + 1 : Nat) : Int) := by
          have h1 := HJ.out
          have h2 := OK.out.n8
          rw [w64 (n := j + 1) (by omega) (by omega)]
          omega
        exact ⟨n, by omega, hJ _ _ _ ⟨i + 1, by have := HJ.out.1; omega, rfl, rfl, rfl, by rw [HNL.out, ← HJ.out.2.2]; rfl, by rw [← hj1]; rfl, ⟨_, HM5.out, Nat.le_trans HWL.out HU5.out.2.size, Nat.le_refl _⟩, HU5.out⟩⟩
end Go.Proofs.YtekajandipdlhaaDoor.P
end
section
set_option linter.unusedVariables false
set_option linter.unusedSimpArgs false
namespace Go.Proofs.YtekajandipdlhaaDoor.P
open Go Go.RowKit Go.Shelf Go.Proofs.YtekajandipdlhaaDoorW.PrintWords Go.Proofs.YtekajandipdlhaaDoorW.PrintMore Go.Proofs.YtekajandipdlhaaDoor.Core
attribute [local go_sem] Oper.semAt_some wide_fn wide_depth
def impl_ValidGraph.f (l0 : List S37) : Option Bool := some (graphD l0).isSome
set_option maxRecDepth 100000 in
set_option maxHeartbeats 4000000 in
theorem impl_ValidGraph.calls (A0 : Option Addr) (c0 : Nat) (l0 : List S37) (r : Bool) (w : World) (hr0 : Kd.C k37 w A0 l0.length l0) (hc0 : l0.length ≤ c0) (hT : Tab w) (h : impl_ValidGraph.f l0 = some r) :
    Calls Tryd.prog 34 #[.slice A0 l0.length c0] w fun e w' => e = .returned (.bool r) ∧ Below w.heap.size w w' := by
  have hr : r = (graphD l0).isSome := (Option.some.inj h).symm
  subst hr
  clear h
  cases hg : graphD l0 with
  | none =>
    have HG := Aside0.mk (graphOf_none A0 c0 l0 w hT hr0 hc0 hg)
    clear hr0 hT hg
    go_enter Tryd.func34, Tryd.ntmps34
    go_wp2_with (go_at_call 60; refine HG.out.mono ?_; rintro e w' ⟨rfl, hB⟩)
    go_ret
    exact ⟨rfl, hB⟩
  | some G =>
    have HG := Aside0.mk (graphOf_some A0 c0 l0 G w hT hr0 hc0 hg)
    clear hr0 hT hg
    go_enter Tryd.func34, Tryd.ntmps34
    go_wp2_with (go_at_call 60; refine HG.out.mono ?_; rintro e w' ⟨b, rfl, hB, _⟩)
    go_ret
    exact ⟨rfl, hB⟩
end Go.Proofs.YtekajandipdlhaaDoor.P
end
section
namespace Go.Proofs.YtekajandipdlhaaDoor.P
open Go.Proofs.YtekajandipdlhaaDoor.Core (Tab Tab.of)
open Go.RowKit Go.Proofs.YtekajandipdlhaaDoorW.PrintWords Go.Proofs.YtekajandipdlhaaDoorW.PrintLast Go.Proofs.YtekajandipdlhaaDoorW.PrintMore
attribute [local go_sem] max2_int min2_int max_two min_two max_three min_three max_four min_four   -- for this text's walks alone
set_option linter.unusedVariables false
set_option linter.unusedSimpArgs false
mutual
noncomputable def laws_FnWithoutUseless.j0 : Nat → List (S37) → List (S37) → Bool → Option (Bool)
  | 0, _, _, _ => none
  | k + 1, x3, x4, x22 => if x22 = true then ((spec_WithoutUseless.f k x3).bind fun t497 => ((laws_equalTasks.f k x4 t497).bind fun t500 => (some t500))) else (laws_FnWithoutUseless.l0 k x3 x4 0)
noncomputable def laws_FnWithoutUseless.l0 : Nat → List (S37) → List (S37) → Int → Option (Bool)
  | 0, _, _, _ => none
  | k + 1, x3, x4, x5 => if x5 < (x3.length : Int) then ((impl_AllNeeds.f x4 x5).bind fun t505 => ((impl_AllNeeds.f x3 x5).bind fun t508 => ((laws_equalInts.f k t505 t508).bind fun t511 => (if t511 = true then (laws_FnWithoutUseless.l0 k x3 x4 (wrap64 (x5 + 1))) else (some false))))) else ((impl_UselessNeeds.f x4).bind fun t501 => (if (t501.length : Int) = 0 then ((impl_ValidGraph.f x4).bind fun t504 => (if t504 = true then (some ((x4.length : Int) == (x3.length : Int))) else (some false))) else (some false)))
end
noncomputable def laws_FnWithoutUseless.f (k : Nat) (l0 : List Int) : Option (Bool) := if (l0.length : Int) > 1048576 then (some true) else ((spec_DrawWithoutUseless.f l0).bind fun t487 => ((impl_WithoutUseless.f t487).bind fun t490 => ((spec_WithoutUseless.f k t487).bind fun t493 => ((laws_equalTasks.f k t490 t493).bind fun t496 => (if t496 = true then (laws_FnWithoutUseless.j0 k t487 t490 ((t490.length : Int) == 0)) else (laws_FnWithoutUseless.j0 k t487 t490 true))))))
theorem laws_FnWithoutUseless.mono_l : ∀ k, (∀ y0 y1 y2, LeO (laws_FnWithoutUseless.j0 k y0 y1 y2) (laws_FnWithoutUseless.j0 (k + 1) y0 y1 y2)) ∧ (∀ y0 y1 y2, LeO (laws_FnWithoutUseless.l0 k y0 y1 y2) (laws_FnWithoutUseless.l0 (k + 1) y0 y1 y2))
  | 0 => ⟨fun _ _ _ r h => by simp [laws_FnWithoutUseless.j0] at h, fun _ _ _ r h => by simp [laws_FnWithoutUseless.l0] at h⟩
  | k + 1 => by
    obtain ⟨ih0, ih1⟩ := laws_FnWithoutUseless.mono_l k
    refine ⟨?_, ?_⟩
    · intro y0 y1 y2
      unfold laws_FnWithoutUseless.j0
      repeat' first
      | (with_reducible exact ih0 _ _ _)
      | (with_reducible exact ih1 _ _ _)
      | (with_reducible exact laws_equalInts.mono _ _ _)
      | (with_reducible exact laws_equalTasks.mono _ _ _)
      | (with_reducible exact spec_WithoutUseless.mono _ _)
      | (with_reducible exact LeO.refl _)
      | (with_reducible exact LeO.none _)
      | (with_reducible refine LeO.ite ?_ ?_)
      | (with_reducible refine LeO.bind ?_ (fun _ => ?_))
      | exact ih0 _ _ _
      | exact ih1 _ _ _
      | exact laws_equalInts.mono _ _ _
      | exact laws_equalTasks.mono _ _ _
      | exact spec_WithoutUseless.mono _ _
      | exact LeO.none _
      | refine LeO.ite ?_ ?_
      | refine LeO.bind ?_ (fun _ => ?_)
    · intro y0 y1 y2
      unfold laws_FnWithoutUseless.l0
      repeat' first
      | (with_reducible exact ih0 _ _ _)
      | (with_reducible exact ih1 _ _ _)
      | (with_reducible exact laws_equalInts.mono _ _ _)
      | (with_reducible exact laws_equalTasks.mono _ _ _)
      | (with_reducible exact spec_WithoutUseless.mono _ _)
      | (with_reducible exact LeO.refl _)
      | (with_reducible exact LeO.none _)
      | (with_reducible refine LeO.ite ?_ ?_)
      | (with_reducible refine LeO.bind ?_ (fun _ => ?_))
      | exact ih0 _ _ _
      | exact ih1 _ _ _
      | exact laws_equalInts.mono _ _ _
      | exact laws_equalTasks.mono _ _ _
      | exact spec_WithoutUseless.mono _ _
      | exact LeO.none _
      | refine LeO.ite ?_ ?_
      | refine LeO.bind ?_ (fun _ => ?_)
theorem laws_FnWithoutUseless.mono : ∀ a0 k, LeO (laws_FnWithoutUseless.f k a0) (laws_FnWithoutUseless.f (k + 1) a0) := by
  intro a0 k
  obtain ⟨ih0, ih1⟩ := laws_FnWithoutUseless.mono_l k
  unfold laws_FnWithoutUseless.f
  repeat' first
      | (with_reducible exact ih0 _ _ _)
      | (with_reducible exact ih1 _ _ _)
      | (with_reducible exact laws_equalInts.mono _ _ _)
      | (with_reducible exact laws_equalTasks.mono _ _ _)
      | (with_reducible exact spec_WithoutUseless.mono _ _)
      | (with_reducible exact LeO.refl _)
      | (with_reducible exact LeO.none _)
      | (with_reducible refine LeO.ite ?_ ?_)
      | (with_reducible refine LeO.bind ?_ (fun _ => ?_))
      | exact ih0 _ _ _
      | exact ih1 _ _ _
      | exact laws_equalInts.mono _ _ _
      | exact laws_equalTasks.mono _ _ _
      | exact spec_WithoutUseless.mono _ _
      | exact LeO.none _
      | refine LeO.ite ?_ ?_
      | refine LeO.bind ?_ (fun _ => ?_)
set_option maxHeartbeats 8000000 in
set_option maxRecDepth 100000 in
theorem laws_FnWithoutUseless.calls (k : Nat) (A0 : Option Addr) (c0 : Nat) (l0 : List Int) (r : Bool) (w : World) (hr0 : Kd.C (Kd.int .u8) w A0 l0.length l0) (hc0 : l0.length ≤ c0) (hT : Tab w) (h : laws_FnWithoutUseless.f k l0 = some r) :
    Calls Tryd.prog 7 #[.slice A0 l0.length c0] w fun e w' => e = .returned (.bool r) ∧ Below w.heap.size w w' := by
  have HT := Aside0.mk hT
  clear hT
  have HR0 := Aside0.mk hr0
  have HC0 := Aside0.mk hc0
  clear hr0 hc0
  have HB := Aside0.mk (Below.refl w.heap.size w)
  have H : (if (l0.length : Int) > 1048576 then (some true) else ((spec_DrawWithoutUseless.f l0).bind fun t487 => ((impl_WithoutUseless.f t487).bind fun t490 => ((spec_WithoutUseless.f k t487).bind fun t493 => ((laws_equalTasks.f k t490 t493).bind fun t496 => (if t496 = true then (laws_FnWithoutUseless.j0 k t487 t490 ((t490.length : Int) == 0)) else (laws_FnWithoutUseless.j0 k t487 t490 true))))))) = some r := h
  clear h
  by_cases c2 : (l0.length : Int) > 1048576
  · rw [if_pos c2] at H
    have c2b0 : decide (1048576 < (l0.length : Int)) = true := decide_eq_true c2
    have c2b1 : decide (1048576 < l0.length) = true := decide_eq_true (by omega)
    clear c2
    obtain rfl := Option.some.inj H
    go_enter Tryd.func7, Tryd.ntmps7
    go_wp2
    go_ret
    exact ⟨by first | rfl | (simp [errW_none, errW_some] <;> rfl) | (simp [*, errW_none, errW_some] <;> rfl), by repeat (first | (with_reducible first | exact HB.out | apply below_alloc | apply pw_below_drewN | apply below_drew1) | exact HB.out)⟩
  · rw [if_neg c2] at H
    have c2b0 : decide (1048576 < (l0.length : Int)) = false := decide_eq_false c2
    have c2b1 : decide (1048576 < l0.length) = false := decide_eq_false (by omega)
    clear c2
    replace H := Option.bind_eq_some_iff.mp H
    obtain ⟨t487, A30, H⟩ := H
    replace H : ((impl_WithoutUseless.f t487).bind fun t490 => ((spec_WithoutUseless.f k t487).bind fun t493 => ((laws_equalTasks.f k t490 t493).bind fun t496 => (if t496 = true then (laws_FnWithoutUseless.j0 k t487 t490 ((t490.length : Int) == 0)) else (laws_FnWithoutUseless.j0 k t487 t490 true))))) = some r := H
    have A3 := Aside0.mk A30
    clear A30
    replace H := Option.bind_eq_some_iff.mp H
    obtain ⟨t490, A40, H⟩ := H
    replace H : ((spec_WithoutUseless.f k t487).bind fun t493 => ((laws_equalTasks.f k t490 t493).bind fun t496 => (if t496 = true then (laws_FnWithoutUseless.j0 k t487 t490 ((t490.length : Int) == 0)) else (laws_FnWithoutUseless.j0 k t487 t490 true)))) = some r := H
    have A4 := Aside0.mk A40
    clear A40
    have HC5 := Aside0.mk H
    clear H
    go_enter Tryd.func7, Tryd.ntmps7
    go_upto_region 5 with (first | ((with_reducible refine gate_callee (f := 28) rfl ?_); refine goesL_ (some 10) rfl rfl Tryd.func28 (by kernel_rfl) rfl #[.slice A0 l0.length c0] rfl (by (try simp only [List.map_toArray, List.map_cons, List.map_nil]); first | done | rfl | (simp only [List.length_drop, List.length_take]; rfl)) ?_; (with_reducible refine (spec_DrawWithoutUseless.calls _ _ l0 t487 _ ?side1 ?side2 A3.out).mono ?_); (case side1 => repeat (first | exact HR0.out | (with_reducible refine Kd.C_alloc ?_ _) | (with_reducible refine Kd.C_drewN ?_ _) | (with_reducible refine Kd.C_drew ?_))); (case side2 => exact HC0.out); rintro e w6 ⟨v488, rfl, ho0, hb⟩; refine ⟨_, rfl, ?_⟩; have n0_ := Aside0.mk (Kd.S_lower ho0 (below_size (by repeat (first | (with_reducible first | exact HB.out | apply below_alloc | apply pw_below_drewN | apply below_drew1) | exact HB.out)))); have n1_ := Aside0.mk (below_step (by repeat (first | (with_reducible first | exact HB.out | apply below_alloc | apply pw_below_drewN | apply below_drew1) | exact HB.out)) hb); clear HB; have HO489 := n0_; have HB := n1_; clear n0_ n1_; (try clear hb); (try clear hb2); (try clear hk); (try clear hi); (try clear ho0); obtain ⟨Ao7, co7, eo7⟩ := Kd.S_slice HO489.out; subst eo7) | ((with_reducible refine gate_callee (f := 29) rfl ?_); refine goesL_ (some 12) rfl rfl Tryd.func29 (by kernel_rfl) rfl #[.slice Ao7 t487.length co7] rfl (by (try simp only [List.map_toArray, List.map_cons, List.map_nil]); first | done | rfl | (simp only [List.length_drop, List.length_take]; rfl)) ?_; (with_reducible refine (impl_WithoutUseless.calls _ _ t487 t490 _ ?side1 ?side2 ?side3 A4.out).mono ?_); (case side1 => repeat (first | exact (Kd.S_reads' HO489.out).2.2 | (with_reducible refine Kd.C_alloc ?_ _) | (with_reducible refine Kd.C_drewN ?_ _) | (with_reducible refine Kd.C_drew ?_))); (case side2 => exact (Kd.S_reads' HO489.out).2.1); (case side3 => exact Tab.of HT.out (by repeat (first | (with_reducible first | exact HB.out | apply below_alloc | apply pw_below_drewN | apply below_drew1) | exact HB.out))); rintro e w8 ⟨v491, rfl, ho0, hb⟩; refine ⟨_, rfl, ?_⟩; have n0_ := Aside0.mk (Kd.S_elder' (by (with_reducible repeat (first | apply Kd.S_alloc | apply Kd.S_drewN | apply Kd.S_drew)); exact HO489.out) (Kd.S_base ho0) hb); have n1_ := Aside0.mk (Kd.S_lower (Kd.S_new' ho0 (Kd.S_lt (by (with_reducible repeat (first | apply Kd.S_alloc | apply Kd.S_drewN | apply Kd.S_drew)); exact HO489.out))) (below_size (by repeat (first | (with_reducible first | exact HB.out | apply below_alloc | apply pw_below_drewN | apply below_drew1) | exact HB.out)))); have n2_ := Aside0.mk (below_step (by repeat (first | (with_reducible first | exact HB.out | apply below_alloc | apply pw_below_drewN | apply below_drew1) | exact HB.out)) hb); clear HO489; clear HB; have HO489 := n0_; have HO492 := n1_; have HB := n2_; clear n0_ n1_ n2_; (try clear hb); (try clear hb2); (try clear hk); (try clear hi); (try clear ho0)))
    (try simp only [Act.put, List.setIfInBounds_toArray, List.set_cons_zero, List.set_cons_succ])
    go_cut [22] (fun v22 wc => ∃ (kq : Nat) (x22_4 : Bool), v22 = .bool x22_4 ∧ Aside0 (laws_FnWithoutUseless.j0 kq t487 t490 x22_4 = some r) ∧ Aside0 (kq ≤ k) ∧ Aside0 (Kd.S k37 37 wc w.heap.size (fun k_ => some k_ ≠ (v491 : Value).ownBlock) (.slice Ao7 t487.length co7) t487) ∧ Aside0 (Kd.S k37 37 wc w.heap.size (fun k_ => some k_ ≠ ((.slice Ao7 t487.length co7) : Value).ownBlock) v491 t490) ∧ Aside0 (Below w.heap.size w wc))
    case first =>
      have H := HC5.out
      clear HC5
      replace H := Option.bind_eq_some_iff.mp H
      obtain ⟨t493, A90, H⟩ := H
      replace H : ((laws_equalTasks.f k t490 t493).bind fun t496 => (if t496 = true then (laws_FnWithoutUseless.j0 k t487 t490 ((t490.length : Int) == 0)) else (laws_FnWithoutUseless.j0 k t487 t490 true))) = some r := H
      have A9 := Aside0.mk A90
      clear A90
      replace H := Option.bind_eq_some_iff.mp H
      obtain ⟨t496, A100, H⟩ := H
      replace H : (if t496 = true then (laws_FnWithoutUseless.j0 k t487 t490 ((t490.length : Int) == 0)) else (laws_FnWithoutUseless.j0 k t487 t490 true)) = some r := H
      have A10 := Aside0.mk A100
      clear A100
      by_cases c11 : t496 = true
      · subst c11
        have H1 : (laws_FnWithoutUseless.j0 k t487 t490 ((t490.length : Int) == 0)) = some r := by rw [if_pos rfl] at H; exact H
        clear H
        have H := H1
        clear H1
        have H' := Aside0.mk H
        clear H
        go_wp2_with (first | ((with_reducible refine gate_callee (f := 31) rfl ?_); refine goesL_ (some 15) rfl rfl Tryd.func31 (by kernel_rfl) rfl #[.slice Ao7 t487.length co7] rfl (by (try simp only [List.map_toArray, List.map_cons, List.map_nil]); first | done | rfl | (simp only [List.length_drop, List.length_take]; rfl)) ?_; (with_reducible refine (spec_WithoutUseless.calls k _ _ t487 t493 _ ?side1 ?side2 A9.out).mono ?_); (case side1 => repeat (first | exact (Kd.S_reads' HO489.out).2.2 | (with_reducible refine Kd.C_alloc ?_ _) | (with_reducible refine Kd.C_drewN ?_ _) | (with_reducible refine Kd.C_drew ?_))); (case side2 => exact (Kd.S_reads' HO489.out).2.1); rintro e w12 ⟨v494, rfl, ho0, hb⟩; refine ⟨_, rfl, ?_⟩; have n0_ := Aside0.mk (Kd.S_elder' (by (with_reducible repeat (first | apply Kd.S_alloc | apply Kd.S_drewN | apply Kd.S_drew)); exact HO489.out) (Kd.S_base ho0) hb); have n1_ := Aside0.mk (Kd.S_elder' (by (with_reducible repeat (first | apply Kd.S_alloc | apply Kd.S_drewN | apply Kd.S_drew)); exact HO492.out) (Kd.S_base ho0) hb); have n2_ := Aside0.mk (Kd.S_lower (Kd.S_new' (Kd.S_new' ho0 (Kd.S_lt (by (with_reducible repeat (first | apply Kd.S_alloc | apply Kd.S_drewN | apply Kd.S_drew)); exact HO489.out))) (Kd.S_lt (by (with_reducible repeat (first | apply Kd.S_alloc | apply Kd.S_drewN | apply Kd.S_drew)); exact HO492.out))) (below_size (by repeat (first | (with_reducible first | exact HB.out | apply below_alloc | apply pw_below_drewN | apply below_drew1) | exact HB.out)))); have n3_ := Aside0.mk (below_step (by repeat (first | (with_reducible first | exact HB.out | apply below_alloc | apply pw_below_drewN | apply below_drew1) | exact HB.out)) hb); clear HO489; clear HO492; clear HB; have HO489 := n0_; have HO492 := n1_; have HO495 := n2_; have HB := n3_; clear n0_ n1_ n2_ n3_; (try clear hb); (try clear hb2); (try clear hk); (try clear hi); (try clear ho0); obtain ⟨Ao13, co13, eo13⟩ := Kd.S_slice HO492.out; subst eo13; obtain ⟨Ao14, co14, eo14⟩ := Kd.S_slice HO495.out; subst eo14) | ((with_reducible refine gate_callee (f := 30) rfl ?_); refine goesL_ (some 16) rfl rfl Tryd.func30 (by kernel_rfl) rfl #[.slice Ao13 t490.length co13, .slice Ao14 t493.length co14] rfl (by (try simp only [List.map_toArray, List.map_cons, List.map_nil]); first | done | rfl | (simp only [List.length_drop, List.length_take]; rfl)) ?_; (with_reducible refine (laws_equalTasks.calls k _ _ t490 _ _ t493 true _ ?side1 ?side2 ?side3 ?side4 A10.out).mono ?_); (case side1 => repeat (first | exact (Kd.S_reads' HO492.out).2.2 | (with_reducible refine Kd.C_alloc ?_ _) | (with_reducible refine Kd.C_drewN ?_ _) | (with_reducible refine Kd.C_drew ?_))); (case side2 => exact (Kd.S_reads' HO492.out).2.1); (case side3 => repeat (first | exact (Kd.S_reads' HO495.out).2.2 | (with_reducible refine Kd.C_alloc ?_ _) | (with_reducible refine Kd.C_drewN ?_ _) | (with_reducible refine Kd.C_drew ?_))); (case side4 => exact (Kd.S_reads' HO495.out).2.1); rintro e w15 ⟨rfl, hb⟩; refine ⟨_, rfl, ?_⟩; have n0_ := Aside0.mk (Kd.S_below (by (with_reducible repeat (first | apply Kd.S_alloc | apply Kd.S_drewN | apply Kd.S_drew)); exact HO489.out) hb); have n1_ := Aside0.mk (Kd.S_below (by (with_reducible repeat (first | apply Kd.S_alloc | apply Kd.S_drewN | apply Kd.S_drew)); exact HO492.out) hb); have n2_ := Aside0.mk (Kd.S_below (by (with_reducible repeat (first | apply Kd.S_alloc | apply Kd.S_drewN | apply Kd.S_drew)); exact HO495.out) hb); have n3_ := Aside0.mk (below_step (by repeat (first | (with_reducible first | exact HB.out | apply below_alloc | apply pw_below_drewN | apply below_drew1) | exact HB.out)) hb); clear HO489; clear HO492; clear HO495; clear HB; have HO489 := n0_; have HO492 := n1_; have HO495 := n2_; have HB := n3_; clear n0_ n1_ n2_ n3_; (try clear hb); (try clear hb2); (try clear hk); (try clear hi)))
        go_meet
        case rel => exact ⟨_, (((t490.length : Int) == 0)), (by first | rfl | (simp; done) | (simp [*]; done)), H', ⟨by first | omega | exact Nat.le_refl _⟩, ⟨by (with_reducible repeat (first | apply Kd.S_alloc | apply Kd.S_drewN | apply Kd.S_drew)); exact Kd.S_mono HO489.out (fun _ hk => hk.1.2)⟩, ⟨by (with_reducible repeat (first | apply Kd.S_alloc | apply Kd.S_drewN | apply Kd.S_drew)); exact Kd.S_mono HO492.out (fun _ hk => hk.1.2)⟩, ⟨by repeat (first | (with_reducible first | exact HB.out | apply below_alloc | apply pw_below_drewN | apply below_drew1) | exact HB.out)⟩⟩
      · replace c11 := Bool.eq_false_iff.mpr c11
        subst c11
        have H1 : (laws_FnWithoutUseless.j0 k t487 t490 true) = some r := by rw [if_neg (show ¬ (false = true) by decide)] at H; exact H
        clear H
        have H := H1
        clear H1
        have H' := Aside0.mk H
        clear H
        go_wp2_with (first | ((with_reducible refine gate_callee (f := 31) rfl ?_); refine goesL_ (some 15) rfl rfl Tryd.func31 (by kernel_rfl) rfl #[.slice Ao7 t487.length co7] rfl (by (try simp only [List.map_toArray, List.map_cons, List.map_nil]); first | done | rfl | (simp only [List.length_drop, List.length_take]; rfl)) ?_; (with_reducible refine (spec_WithoutUseless.calls k _ _ t487 t493 _ ?side1 ?side2 A9.out).mono ?_); (case side1 => repeat (first | exact (Kd.S_reads' HO489.out).2.2 | (with_reducible refine Kd.C_alloc ?_ _) | (with_reducible refine Kd.C_drewN ?_ _) | (with_reducible refine Kd.C_drew ?_))); (case side2 => exact (Kd.S_reads' HO489.out).2.1); rintro e w16 ⟨v494, rfl, ho0, hb⟩; refine ⟨_, rfl, ?_⟩; have n0_ := Aside0.mk (Kd.S_elder' (by (with_reducible repeat (first | apply Kd.S_alloc | apply Kd.S_drewN | apply Kd.S_drew)); exact HO489.out) (Kd.S_base ho0) hb); have n1_ := Aside0.mk (Kd.S_elder' (by (with_reducible repeat (first | apply Kd.S_alloc | apply Kd.S_drewN | apply Kd.S_drew)); exact HO492.out) (Kd.S_base ho0) hb); have n2_ := Aside0.mk (Kd.S_lower (Kd.S_new' (Kd.S_new' ho0 (Kd.S_lt (by (with_reducible repeat (first | apply Kd.S_alloc | apply Kd.S_drewN | apply Kd.S_drew)); exact HO489.out))) (Kd.S_lt (by (with_reducible repeat (first | apply Kd.S_alloc | apply Kd.S_drewN | apply Kd.S_drew)); exact HO492.out))) (below_size (by repeat (first | (with_reducible first | exact HB.out | apply below_alloc | apply pw_below_drewN | apply below_drew1) | exact HB.out)))); have n3_ := Aside0.mk (below_step (by repeat (first | (with_reducible first | exact HB.out | apply below_alloc | apply pw_below_drewN | apply below_drew1) | exact HB.out)) hb); clear HO489; clear HO492; clear HB; have HO489 := n0_; have HO492 := n1_; have HO495 := n2_; have HB := n3_; clear n0_ n1_ n2_ n3_; (try clear hb); (try clear hb2); (try clear hk); (try clear hi); (try clear ho0); obtain ⟨Ao17, co17, eo17⟩ := Kd.S_slice HO492.out; subst eo17; obtain ⟨Ao18, co18, eo18⟩ := Kd.S_slice HO495.out; subst eo18) | ((with_reducible refine gate_callee (f := 30) rfl ?_); refine goesL_ (some 16) rfl rfl Tryd.func30 (by kernel_rfl) rfl #[.slice Ao17 t490.length co17, .slice Ao18 t493.length co18] rfl (by (try simp only [List.map_toArray, List.map_cons, List.map_nil]); first | done | rfl | (simp only [List.length_drop, List.length_take]; rfl)) ?_; (with_reducible refine (laws_equalTasks.calls k _ _ t490 _ _ t493 false _ ?side1 ?side2 ?side3 ?side4 A10.out).mono ?_); (case side1 => repeat (first | exact (Kd.S_reads' HO492.out).2.2 | (with_reducible refine Kd.C_alloc ?_ _) | (with_reducible refine Kd.C_drewN ?_ _) | (with_reducible refine Kd.C_drew ?_))); (case side2 => exact (Kd.S_reads' HO492.out).2.1); (case side3 => repeat (first | exact (Kd.S_reads' HO495.out).2.2 | (with_reducible refine Kd.C_alloc ?_ _) | (with_reducible refine Kd.C_drewN ?_ _) | (with_reducible refine Kd.C_drew ?_))); (case side4 => exact (Kd.S_reads' HO495.out).2.1); rintro e w19 ⟨rfl, hb⟩; refine ⟨_, rfl, ?_⟩; have n0_ := Aside0.mk (Kd.S_below (by (with_reducible repeat (first | apply Kd.S_alloc | apply Kd.S_drewN | apply Kd.S_drew)); exact HO489.out) hb); have n1_ := Aside0.mk (Kd.S_below (by (with_reducible repeat (first | apply Kd.S_alloc | apply Kd.S_drewN | apply Kd.S_drew)); exact HO492.out) hb); have n2_ := Aside0.mk (Kd.S_below (by (with_reducible repeat (first | apply Kd.S_alloc | apply Kd.S_drewN | apply Kd.S_drew)); exact HO495.out) hb); have n3_ := Aside0.mk (below_step (by repeat (first | (with_reducible first | exact HB.out | apply below_alloc | apply pw_below_drewN | apply below_drew1) | exact HB.out)) hb); clear HO489; clear HO492; clear HO495; clear HB; have HO489 := n0_; have HO492 := n1_; have HO495 := n2_; have HB := n3_; clear n0_ n1_ n2_ n3_; (try clear hb); (try clear hb2); (try clear hk); (try clear hi)))
        go_meet
        case rel => exact ⟨_, (true), (by first | rfl | (simp; done) | (simp [*]; done)), H', ⟨by first | omega | exact Nat.le_refl _⟩, ⟨by (with_reducible repeat (first | apply Kd.S_alloc | apply Kd.S_drewN | apply Kd.S_drew)); exact Kd.S_mono HO489.out (fun _ hk => hk.1.2)⟩, ⟨by (with_reducible repeat (first | apply Kd.S_alloc | apply Kd.S_drewN | apply Kd.S_drew)); exact Kd.S_mono HO492.out (fun _ hk => hk.1.2)⟩, ⟨by repeat (first | (with_reducible first | exact HB.out | apply below_alloc | apply pw_below_drewN | apply below_drew1) | exact HB.out)⟩⟩
    case rest =>
      clear HC5
      try clear c1
      try clear c2
      try clear c2b0
      try clear c2b1
      try clear p2
      try clear c3
      try clear c7
      try clear c11
      obtain ⟨kq, x22_4, rfl, HA, HJ4, HO_3, HO_4, HB⟩ := hcut
      cases kq with
      | zero => exact absurd HA.out (by simp [laws_FnWithoutUseless.j0])
      | succ kj4 =>
        have H := HA.out
        clear HA
        simp only [laws_FnWithoutUseless.j0] at H
        by_cases c20 : x22_4 = true
        · subst c20
          have H1 : ((spec_WithoutUseless.f kj4 t487).bind fun t497 => ((laws_equalTasks.f kj4 t490 t497).bind fun t500 => (some t500))) = some r := by rw [if_pos rfl] at H; exact H
          clear H
          have H := H1
          clear H1
          replace H := Option.bind_eq_some_iff.mp H
          obtain ⟨t497, A210, H⟩ := H
          replace H : ((laws_equalTasks.f kj4 t490 t497).bind fun t500 => (some t500)) = some r := H
          have A21 := Aside0.mk A210
          clear A210
          replace H := Option.bind_eq_some_iff.mp H
          obtain ⟨t500, A220, H⟩ := H
          replace H : (some t500) = some r := H
          have A22 := Aside0.mk A220
          clear A220
          obtain rfl := Option.some.inj H
          go_wp2_with (first | ((with_reducible refine gate_callee (f := 31) rfl ?_); refine goesL_ (some 25) rfl rfl Tryd.func31 (by kernel_rfl) rfl #[.slice Ao7 t487.length co7] rfl (by (try simp only [List.map_toArray, List.map_cons, List.map_nil]); first | done | rfl | (simp only [List.length_drop, List.length_take]; rfl)) ?_; (with_reducible refine (spec_WithoutUseless.calls kj4 _ _ t487 t497 _ ?side1 ?side2 A21.out).mono ?_); (case side1 => repeat (first | exact (Kd.S_reads' HO_3.out).2.2 | (with_reducible refine Kd.C_alloc ?_ _) | (with_reducible refine Kd.C_drewN ?_ _) | (with_reducible refine Kd.C_drew ?_))); (case side2 => exact (Kd.S_reads' HO_3.out).2.1); rintro e w23 ⟨v498, rfl, ho0, hb⟩; refine ⟨_, rfl, ?_⟩; have n0_ := Aside0.mk (Kd.S_elder' (by (with_reducible repeat (first | apply Kd.S_alloc | apply Kd.S_drewN | apply Kd.S_drew)); exact HO_3.out) (Kd.S_base ho0) hb); have n1_ := Aside0.mk (Kd.S_elder' (by (with_reducible repeat (first | apply Kd.S_alloc | apply Kd.S_drewN | apply Kd.S_drew)); exact HO_4.out) (Kd.S_base ho0) hb); have n2_ := Aside0.mk (Kd.S_lower (Kd.S_new' (Kd.S_new' ho0 (Kd.S_lt (by (with_reducible repeat (first | apply Kd.S_alloc | apply Kd.S_drewN | apply Kd.S_drew)); exact HO_3.out))) (Kd.S_lt (by (with_reducible repeat (first | apply Kd.S_alloc | apply Kd.S_drewN | apply Kd.S_drew)); exact HO_4.out))) (below_size (by repeat (first | (with_reducible first | exact HB.out | apply below_alloc | apply pw_below_drewN | apply below_drew1) | exact HB.out)))); have n3_ := Aside0.mk (below_step (by repeat (first | (with_reducible first | exact HB.out | apply below_alloc | apply pw_below_drewN | apply below_drew1) | exact HB.out)) hb); clear HO_3; clear HO_4; clear HB; have HO_3 := n0_; have HO_4 := n1_; have HO499 := n2_; have HB := n3_; clear n0_ n1_ n2_ n3_; (try clear hb); (try clear hb2); (try clear hk); (try clear hi); (try clear ho0); obtain ⟨Ao24, co24, eo24⟩ := Kd.S_slice HO_4.out; subst eo24; obtain ⟨Ao25, co25, eo25⟩ := Kd.S_slice HO499.out; subst eo25) | ((with_reducible refine gate_callee (f := 30) rfl ?_); refine goesL_ (some 26) rfl rfl Tryd.func30 (by kernel_rfl) rfl #[.slice Ao24 t490.length co24, .slice Ao25 t497.length co25] rfl (by (try simp only [List.map_toArray, List.map_cons, List.map_nil]); first | done | rfl | (simp only [List.length_drop, List.length_take]; rfl)) ?_; (with_reducible refine (laws_equalTasks.calls kj4 _ _ t490 _ _ t497 t500 _ ?side1 ?side2 ?side3 ?side4 A22.out).mono ?_); (case side1 => repeat (first | exact (Kd.S_reads' HO_4.out).2.2 | (with_reducible refine Kd.C_alloc ?_ _) | (with_reducible refine Kd.C_drewN ?_ _) | (with_reducible refine Kd.C_drew ?_))); (case side2 => exact (Kd.S_reads' HO_4.out).2.1); (case side3 => repeat (first | exact (Kd.S_reads' HO499.out).2.2 | (with_reducible refine Kd.C_alloc ?_ _) | (with_reducible refine Kd.C_drewN ?_ _) | (with_reducible refine Kd.C_drew ?_))); (case side4 => exact (Kd.S_reads' HO499.out).2.1); rintro e w26 ⟨rfl, hb⟩; refine ⟨_, rfl, ?_⟩; have n0_ := Aside0.mk (Kd.S_below (by (with_reducible repeat (first | apply Kd.S_alloc | apply Kd.S_drewN | apply Kd.S_drew)); exact HO_3.out) hb); have n1_ := Aside0.mk (Kd.S_below (by (with_reducible repeat (first | apply Kd.S_alloc | apply Kd.S_drewN | apply Kd.S_drew)); exact HO_4.out) hb); have n2_ := Aside0.mk (Kd.S_below (by (with_reducible repeat (first | apply Kd.S_alloc | apply Kd.S_drewN | apply Kd.S_drew)); exact HO499.out) hb); have n3_ := Aside0.mk (below_step (by repeat (first | (with_reducible first | exact HB.out | apply below_alloc | apply pw_below_drewN | apply below_drew1) | exact HB.out)) hb); clear HO_3; clear HO_4; clear HO499; clear HB; have HO_3 := n0_; have HO_4 := n1_; have HO499 := n2_; have HB := n3_; clear n0_ n1_ n2_ n3_; (try clear hb); (try clear hb2); (try clear hk); (try clear hi)))
          go_ret
          exact ⟨by first | rfl | (simp [errW_none, errW_some] <;> rfl) | (simp [*, errW_none, errW_some] <;> rfl), by repeat (first | (with_reducible first | exact HB.out | apply below_alloc | apply pw_below_drewN | apply below_drew1) | exact HB.out)⟩
        · replace c20 := Bool.eq_false_iff.mpr c20
          subst c20
          have H1 : (laws_FnWithoutUseless.l0 kj4 t487 t490 0) = some r := by rw [if_neg (show ¬ (false = true) by decide)] at H; exact H
          clear H
          have H := H1
          clear H1
          have H' := Aside0.mk H
          clear H
          go_wp2
          go_loopg [5] kj4 (fun kq v5 w' => ∃ (x5_2 : Int), v5 = .int .i64 x5_2 ∧ Aside0 (laws_FnWithoutUseless.l0 kq t487 t490 x5_2 = some r) ∧ Aside0 (kq ≤ kj4) ∧ Aside0 (Kd.S k37 37 w' w.heap.size (fun k_ => some k_ ≠ (v491 : Value).ownBlock) (.slice Ao7 t487.length co7) t487) ∧ Aside0 (Kd.S k37 37 w' w.heap.size (fun k_ => some k_ ≠ ((.slice Ao7 t487.length co7) : Value).ownBlock) v491 t490) ∧ Aside0 (Below w.heap.size w w'))
          case atStart => exact ⟨(0), (by first | rfl | (simp; done) | (simp [*]; done)), H', ⟨Nat.le_refl _⟩, ⟨by (with_reducible repeat (first | apply Kd.S_alloc | apply Kd.S_drewN | apply Kd.S_drew)); exact HO_3.out⟩, ⟨by (with_reducible repeat (first | apply Kd.S_alloc | apply Kd.S_drewN | apply Kd.S_drew)); exact HO_4.out⟩, ⟨by repeat (first | (with_reducible first | exact HB.out | apply below_alloc | apply pw_below_drewN | apply below_drew1) | exact HB.out)⟩⟩
          case round =>
            clear H'
            try clear c1
            try clear c2
            try clear c2b0
            try clear c2b1
            try clear p2
            try clear c3
            try clear c7
            try clear c11
            try clear c20
            try clear p2
            obtain ⟨x5_2, rfl, HA, HK2, HO_3, HO_4, HB⟩ := hrel
            cases gk with
            | zero => exact absurd HA.out (by simp [laws_FnWithoutUseless.l0])
            | succ k2 =>
              have H := HA.out
              clear HA
              simp only [laws_FnWithoutUseless.l0] at H
              by_cases c27 : x5_2 < (t487.length : Int)
              · rw [if_pos c27] at H
                have c27b0 : decide (x5_2 < (t487.length : Int)) = true := decide_eq_true c27
                clear c27
                replace H := Option.bind_eq_some_iff.mp H
                obtain ⟨t505, A280, H⟩ := H
                replace H : ((impl_AllNeeds.f t487 x5_2).bind fun t508 => ((laws_equalInts.f k2 t505 t508).bind fun t511 => (if t511 = true then (laws_FnWithoutUseless.l0 k2 t487 t490 (wrap64 (x5_2 + 1))) else (some false)))) = some r := H
                have A28 := Aside0.mk A280
                clear A280
                replace H := Option.bind_eq_some_iff.mp H
                obtain ⟨t508, A290, H⟩ := H
                replace H : ((laws_equalInts.f k2 t505 t508).bind fun t511 => (if t511 = true then (laws_FnWithoutUseless.l0 k2 t487 t490 (wrap64 (x5_2 + 1))) else (some false))) = some r := H
                have A29 := Aside0.mk A290
                clear A290
                replace H := Option.bind_eq_some_iff.mp H
                obtain ⟨t511, A300, H⟩ := H
                replace H : (if t511 = true then (laws_FnWithoutUseless.l0 k2 t487 t490 (wrap64 (x5_2 + 1))) else (some false)) = some r := H
                have A30 := Aside0.mk A300
                clear A300
                by_cases c31 : t511 = true
                · subst c31
                  have H1 : (laws_FnWithoutUseless.l0 k2 t487 t490 (wrap64 (x5_2 + 1))) = some r := by rw [if_pos rfl] at H; exact H
                  clear H
                  have H := H1
                  clear H1
                  have H' := Aside0.mk H
                  clear H
                  obtain ⟨Ao32, co32, eo32⟩ := Kd.S_slice HO_4.out
                  subst eo32
                  go_wp2_with (first | ((with_reducible refine gate_callee (f := 27) rfl ?_); refine goesL_ (some 35) rfl rfl Tryd.func27 (by kernel_rfl) rfl #[.slice Ao32 t490.length co32, .int .i64 x5_2] rfl (by (try simp only [List.map_toArray, List.map_cons, List.map_nil]); first | done | rfl | (simp only [List.length_drop, List.length_take]; rfl)) ?_; (with_reducible refine (impl_AllNeeds.calls _ _ t490 x5_2 t505 _ ?side1 ?side2 ?side3 A28.out).mono ?_); (case side1 => repeat (first | exact (Kd.S_reads' HO_4.out).2.2 | (with_reducible refine Kd.C_alloc ?_ _) | (with_reducible refine Kd.C_drewN ?_ _) | (with_reducible refine Kd.C_drew ?_))); (case side2 => exact (Kd.S_reads' HO_4.out).2.1); (case side3 => exact Tab.of HT.out (by repeat (first | (with_reducible first | exact HB.out | apply below_alloc | apply pw_below_drewN | apply below_drew1) | exact HB.out))); rintro e w33 ⟨v506, rfl, ho0, hb⟩; refine ⟨_, rfl, ?_⟩; have n0_ := Aside0.mk (Kd.S_elder' (by (with_reducible repeat (first | apply Kd.S_alloc | apply Kd.S_drewN | apply Kd.S_drew)); exact HO_3.out) (Kd.R_base ho0) hb); have n1_ := Aside0.mk (Kd.S_elder' (by (with_reducible repeat (first | apply Kd.S_alloc | apply Kd.S_drewN | apply Kd.S_drew)); exact HO_4.out) (Kd.R_base ho0) hb); have n2_ := Aside0.mk (Kd.R_lower ho0 (below_size (by repeat (first | (with_reducible first | exact HB.out | apply below_alloc | apply pw_below_drewN | apply below_drew1) | exact HB.out)))); have n3_ := Aside0.mk (below_step (by repeat (first | (with_reducible first | exact HB.out | apply below_alloc | apply pw_below_drewN | apply below_drew1) | exact HB.out)) hb); clear HO_3; clear HO_4; clear HB; have HO_3 := n0_; have HO_4 := n1_; have HO507 := n2_; have HB := n3_; clear n0_ n1_ n2_ n3_; (try clear hb); (try clear hb2); (try clear hk); (try clear hi); (try clear ho0)) | ((with_reducible refine gate_callee (f := 27) rfl ?_); refine goesL_ (some 38) rfl rfl Tryd.func27 (by kernel_rfl) rfl #[.slice Ao7 t487.length co7, .int .i64 x5_2] rfl (by (try simp only [List.map_toArray, List.map_cons, List.map_nil]); first | done | rfl | (simp only [List.length_drop, List.length_take]; rfl)) ?_; (with_reducible refine (impl_AllNeeds.calls _ _ t487 x5_2 t508 _ ?side1 ?side2 ?side3 A29.out).mono ?_); (case side1 => repeat (first | exact (Kd.S_reads' HO_3.out).2.2 | (with_reducible refine Kd.C_alloc ?_ _) | (with_reducible refine Kd.C_drewN ?_ _) | (with_reducible refine Kd.C_drew ?_))); (case side2 => exact (Kd.S_reads' HO_3.out).2.1); (case side3 => exact Tab.of HT.out (by repeat (first | (with_reducible first | exact HB.out | apply below_alloc | apply pw_below_drewN | apply below_drew1) | exact HB.out))); rintro e w34 ⟨v509, rfl, ho0, hb⟩; refine ⟨_, rfl, ?_⟩; have n0_ := Aside0.mk (Kd.S_elder' (by (with_reducible repeat (first | apply Kd.S_alloc | apply Kd.S_drewN | apply Kd.S_drew)); exact HO_3.out) (Kd.R_base ho0) hb); have n1_ := Aside0.mk (Kd.S_elder' (by (with_reducible repeat (first | apply Kd.S_alloc | apply Kd.S_drewN | apply Kd.S_drew)); exact HO_4.out) (Kd.R_base ho0) hb); have n2_ := Aside0.mk (Kd.R_elder' (by (with_reducible repeat (first | apply Kd.R_alloc | apply Kd.R_drewN | apply Kd.R_drew)); exact HO507.out) (Kd.R_base ho0) hb); have n3_ := Aside0.mk (Kd.R_lower (Kd.R_new' ho0 (Kd.R_lt (by (with_reducible repeat (first | apply Kd.R_alloc | apply Kd.R_drewN | apply Kd.R_drew)); exact HO507.out))) (below_size (by repeat (first | (with_reducible first | exact HB.out | apply below_alloc | apply pw_below_drewN | apply below_drew1) | exact HB.out)))); have n4_ := Aside0.mk (below_step (by repeat (first | (with_reducible first | exact HB.out | apply below_alloc | apply pw_below_drewN | apply below_drew1) | exact HB.out)) hb); clear HO_3; clear HO_4; clear HO507; clear HB; have HO_3 := n0_; have HO_4 := n1_; have HO507 := n2_; have HO510 := n3_; have HB := n4_; clear n0_ n1_ n2_ n3_ n4_; (try clear hb); (try clear hb2); (try clear hk); (try clear hi); (try clear ho0); obtain ⟨Ao35, co35, eo35⟩ := Kd.R_slice HO507.out; subst eo35; obtain ⟨Ao36, co36, eo36⟩ := Kd.R_slice HO510.out; subst eo36) | ((with_reducible refine gate_callee (f := 33) rfl ?_); refine goesL_ (some 39) rfl rfl Tryd.func33 (by kernel_rfl) rfl #[.slice Ao35 t505.length co35, .slice Ao36 t508.length co36] rfl (by (try simp only [List.map_toArray, List.map_cons, List.map_nil]); first | done | rfl | (simp only [List.length_drop, List.length_take]; rfl)) ?_; (with_reducible refine (laws_equalInts.calls k2 _ _ t505 _ _ t508 true _ ?side1 ?side2 ?side3 ?side4 A30.out).mono ?_); (case side1 => repeat (first | exact (Kd.R_reads' HO507.out).2.2 | (with_reducible refine Kd.C_alloc ?_ _) | (with_reducible refine Kd.C_drewN ?_ _) | (with_reducible refine Kd.C_drew ?_))); (case side2 => exact (Kd.R_reads' HO507.out).2.1); (case side3 => repeat (first | exact (Kd.R_reads' HO510.out).2.2 | (with_reducible refine Kd.C_alloc ?_ _) | (with_reducible refine Kd.C_drewN ?_ _) | (with_reducible refine Kd.C_drew ?_))); (case side4 => exact (Kd.R_reads' HO510.out).2.1); rintro e w' ⟨rfl, ⟨nd, rfl⟩⟩; refine ⟨_, rfl, ?_⟩))
                  go_roundg k2
                  case measure => have := HJ4.out; have := HK2.out; omega
                  case rel => exact ⟨(wrap64 (x5_2 + 1)), (by first | rfl | (simp; done) | (simp [*]; done)), H', ⟨by have := HJ4.out; have := HK2.out; omega⟩, ⟨by (with_reducible repeat (first | apply Kd.S_alloc | apply Kd.S_drewN | apply Kd.S_drew)); exact Kd.S_mono HO_3.out (fun _ hk => hk.1.1)⟩, ⟨by (with_reducible repeat (first | apply Kd.S_alloc | apply Kd.S_drewN | apply Kd.S_drew)); exact Kd.S_mono HO_4.out (fun _ hk => hk.1.1)⟩, ⟨by repeat (first | (with_reducible first | exact HB.out | apply below_alloc | apply pw_below_drewN | apply below_drew1) | exact HB.out)⟩⟩
                · replace c31 := Bool.eq_false_iff.mpr c31
                  subst c31
                  have H1 : (some false) = some r := by rw [if_neg (show ¬ (false = true) by decide)] at H; exact H
                  clear H
                  have H := H1
                  clear H1
                  obtain rfl := Option.some.inj H
                  obtain ⟨Ao37, co37, eo37⟩ := Kd.S_slice HO_4.out
                  subst eo37
                  go_wp2_with (first | ((with_reducible refine gate_callee (f := 27) rfl ?_); refine goesL_ (some 35) rfl rfl Tryd.func27 (by kernel_rfl) rfl #[.slice Ao37 t490.length co37, .int .i64 x5_2] rfl (by (try simp only [List.map_toArray, List.map_cons, List.map_nil]); first | done | rfl | (simp only [List.length_drop, List.length_take]; rfl)) ?_; (with_reducible refine (impl_AllNeeds.calls _ _ t490 x5_2 t505 _ ?side1 ?side2 ?side3 A28.out).mono ?_); (case side1 => repeat (first | exact (Kd.S_reads' HO_4.out).2.2 | (with_reducible refine Kd.C_alloc ?_ _) | (with_reducible refine Kd.C_drewN ?_ _) | (with_reducible refine Kd.C_drew ?_))); (case side2 => exact (Kd.S_reads' HO_4.out).2.1); (case side3 => exact Tab.of HT.out (by repeat (first | (with_reducible first | exact HB.out | apply below_alloc | apply pw_below_drewN | apply below_drew1) | exact HB.out))); rintro e w38 ⟨v506, rfl, ho0, hb⟩; refine ⟨_, rfl, ?_⟩; have n0_ := Aside0.mk (Kd.S_elder' (by (with_reducible repeat (first | apply Kd.S_alloc | apply Kd.S_drewN | apply Kd.S_drew)); exact HO_3.out) (Kd.R_base ho0) hb); have n1_ := Aside0.mk (Kd.S_elder' (by (with_reducible repeat (first | apply Kd.S_alloc | apply Kd.S_drewN | apply Kd.S_drew)); exact HO_4.out) (Kd.R_base ho0) hb); have n2_ := Aside0.mk (Kd.R_lower ho0 (below_size (by repeat (first | (with_reducible first | exact HB.out | apply below_alloc | apply pw_below_drewN | apply below_drew1) | exact HB.out)))); have n3_ := Aside0.mk (below_step (by repeat (first | (with_reducible first | exact HB.out | apply below_alloc | apply pw_below_drewN | apply below_drew1) | exact HB.out)) hb); clear HO_3; clear HO_4; clear HB; have HO_3 := n0_; have HO_4 := n1_; have HO507 := n2_; have HB := n3_; clear n0_ n1_ n2_ n3_; (try clear hb); (try clear hb2); (try clear hk); (try clear hi); (try clear ho0)) | ((with_reducible refine gate_callee (f := 27) rfl ?_); refine goesL_ (some 38) rfl rfl Tryd.func27 (by kernel_rfl) rfl #[.slice Ao7 t487.length co7, .int .i64 x5_2] rfl (by (try simp only [List.map_toArray, List.map_cons, List.map_nil]); first | done | rfl | (simp only [List.length_drop, List.length_take]; rfl)) ?_; (with_reducible refine (impl_AllNeeds.calls _ _ t487 x5_2 t508 _ ?side1 ?side2 ?side3 A29.out).mono ?_); (case side1 => repeat (first | exact (Kd.S_reads' HO_3.out).2.2 | (with_reducible refine Kd.C_alloc ?_ _) | (with_reducible refine Kd.C_drewN ?_ _) | (with_reducible refine Kd.C_drew ?_))); (case side2 => exact (Kd.S_reads' HO_3.out).2.1); (case side3 => exact Tab.of HT.out (by repeat (first | (with_reducible first | exact HB.out | apply below_alloc | apply pw_below_drewN | apply below_drew1) | exact HB.out))); rintro e w39 ⟨v509, rfl, ho0, hb⟩; refine ⟨_, rfl, ?_⟩; have n0_ := Aside0.mk (Kd.S_elder' (by (with_reducible repeat (first | apply Kd.S_alloc | apply Kd.S_drewN | apply Kd.S_drew)); exact HO_3.out) (Kd.R_base ho0) hb); have n1_ := Aside0.mk (Kd.S_elder' (by (with_reducible repeat (first | apply Kd.S_alloc | apply Kd.S_drewN | apply Kd.S_drew)); exact HO_4.out) (Kd.R_base ho0) hb); have n2_ := Aside0.mk (Kd.R_elder' (by (with_reducible repeat (first | apply Kd.R_alloc | apply Kd.R_drewN | apply Kd.R_drew)); exact HO507.out) (Kd.R_base ho0) hb); have n3_ := Aside0.mk (Kd.R_lower (Kd.R_new' ho0 (Kd.R_lt (by (with_reducible repeat (first | apply Kd.R_alloc | apply Kd.R_drewN | apply Kd.R_drew)); exact HO507.out))) (below_size (by repeat (first | (with_reducible first | exact HB.out | apply below_alloc | apply pw_below_drewN | apply below_drew1) | exact HB.out)))); have n4_ := Aside0.mk (below_step (by repeat (first | (with_reducible first | exact HB.out | apply below_alloc | apply pw_below_drewN | apply below_drew1) | exact HB.out)) hb); clear HO_3; clear HO_4; clear HO507; clear HB; have HO_3 := n0_; have HO_4 := n1_; have HO507 := n2_; have HO510 := n3_; have HB := n4_; clear n0_ n1_ n2_ n3_ n4_; (try clear hb); (try clear hb2); (try clear hk); (try clear hi); (try clear ho0); obtain ⟨Ao40, co40, eo40⟩ := Kd.R_slice HO507.out; subst eo40; obtain ⟨Ao41, co41, eo41⟩ := Kd.R_slice HO510.out; subst eo41) | ((with_reducible refine gate_callee (f := 33) rfl ?_); refine goesL_ (some 39) rfl rfl Tryd.func33 (by kernel_rfl) rfl #[.slice Ao40 t505.length co40, .slice Ao41 t508.length co41] rfl (by (try simp only [List.map_toArray, List.map_cons, List.map_nil]); first | done | rfl | (simp only [List.length_drop, List.length_take]; rfl)) ?_; (with_reducible refine (laws_equalInts.calls k2 _ _ t505 _ _ t508 false _ ?side1 ?side2 ?side3 ?side4 A30.out).mono ?_); (case side1 => repeat (first | exact (Kd.R_reads' HO507.out).2.2 | (with_reducible refine Kd.C_alloc ?_ _) | (with_reducible refine Kd.C_drewN ?_ _) | (with_reducible refine Kd.C_drew ?_))); (case side2 => exact (Kd.R_reads' HO507.out).2.1); (case side3 => repeat (first | exact (Kd.R_reads' HO510.out).2.2 | (with_reducible refine Kd.C_alloc ?_ _) | (with_reducible refine Kd.C_drewN ?_ _) | (with_reducible refine Kd.C_drew ?_))); (case side4 => exact (Kd.R_reads' HO510.out).2.1); rintro e w' ⟨rfl, ⟨nd, rfl⟩⟩; refine ⟨_, rfl, ?_⟩))
                  go_ret
                  exact ⟨by first | rfl | (simp [errW_none, errW_some] <;> rfl) | (simp [*, errW_none, errW_some] <;> rfl), by repeat (first | (with_reducible first | exact HB.out | apply below_alloc | apply pw_below_drewN | apply below_drew1) | exact HB.out)⟩
              · rw [if_neg c27] at H
                have c27b0 : decide (x5_2 < (t487.length : Int)) = false := decide_eq_false c27
                clear c27
                replace H := Option.bind_eq_some_iff.mp H
                obtain ⟨t501, A420, H⟩ := H
                replace H : (if (t501.length : Int) = 0 then ((impl_ValidGraph.f t490).bind fun t504 => (if t504 = true then (some ((t490.length : Int) == (t487.length : Int))) else (some false))) else (some false)) = some r := H
                have A42 := Aside0.mk A420
                clear A420
                by_cases c43 : (t501.length : Int) = 0
                · rw [if_pos c43] at H
                  have c43b0 : ((t501.length : Int) == 0) = true := beq_iff_eq.mpr c43
                  have c43b1 : ((t501.length : Int) != 0) = false := bne_eq_false_iff_eq.mpr c43
                  clear c43
                  replace H := Option.bind_eq_some_iff.mp H
                  obtain ⟨t504, A440, H⟩ := H
                  replace H : (if t504 = true then (some ((t490.length : Int) == (t487.length : Int))) else (some false)) = some r := H
                  have A44 := Aside0.mk A440
                  clear A440
                  by_cases c45 : t504 = true
                  · subst c45
                    have H1 : (some ((t490.length : Int) == (t487.length : Int))) = some r := by rw [if_pos rfl] at H; exact H
                    clear H
                    have H := H1
                    clear H1
                    obtain rfl := Option.some.inj H
                    obtain ⟨Ao46, co46, eo46⟩ := Kd.S_slice HO_4.out
                    subst eo46
                    go_wp2_with (first | ((with_reducible refine gate_callee (f := 18) rfl ?_); refine goesL_ (some 42) rfl rfl Tryd.func18 (by kernel_rfl) rfl #[.slice Ao46 t490.length co46] rfl (by (try simp only [List.map_toArray, List.map_cons, List.map_nil]); first | done | rfl | (simp only [List.length_drop, List.length_take]; rfl)) ?_; (with_reducible refine (impl_UselessNeeds.calls _ _ t490 t501 _ ?side1 ?side2 ?side3 A42.out).mono ?_); (case side1 => repeat (first | exact (Kd.S_reads' HO_4.out).2.2 | (with_reducible refine Kd.C_alloc ?_ _) | (with_reducible refine Kd.C_drewN ?_ _) | (with_reducible refine Kd.C_drew ?_))); (case side2 => exact (Kd.S_reads' HO_4.out).2.1); (case side3 => exact Tab.of HT.out (by repeat (first | (with_reducible first | exact HB.out | apply below_alloc | apply pw_below_drewN | apply below_drew1) | exact HB.out))); rintro e w47 ⟨v502, rfl, ho0, hb⟩; refine ⟨_, rfl, ?_⟩; have n0_ := Aside0.mk (Kd.S_below (by (with_reducible repeat (first | apply Kd.S_alloc | apply Kd.S_drewN | apply Kd.S_drew)); exact HO_3.out) hb); have n1_ := Aside0.mk (Kd.S_below (by (with_reducible repeat (first | apply Kd.S_alloc | apply Kd.S_drewN | apply Kd.S_drew)); exact HO_4.out) hb); have n2_ := Aside0.mk (Kd.S_lower ho0 (below_size (by repeat (first | (with_reducible first | exact HB.out | apply below_alloc | apply pw_below_drewN | apply below_drew1) | exact HB.out)))); have n3_ := Aside0.mk (below_step (by repeat (first | (with_reducible first | exact HB.out | apply below_alloc | apply pw_below_drewN | apply below_drew1) | exact HB.out)) hb); clear HO_3; clear HO_4; clear HB; have HO_3 := n0_; have HO_4 := n1_; have HO503 := n2_; have HB := n3_; clear n0_ n1_ n2_ n3_; (try clear hb); (try clear hb2); (try clear hk); (try clear hi); (try clear ho0); obtain ⟨Ao48, co48, eo48⟩ := Kd.S_slice HO503.out; subst eo48) | (go_at_call 34; (with_reducible refine (impl_ValidGraph.calls _ _ t490 true _ ?side1 ?side2 ?side3 A44.out).mono ?_); (case side1 => repeat (first | exact (Kd.S_reads' HO_4.out).2.2 | (with_reducible refine Kd.C_alloc ?_ _) | (with_reducible refine Kd.C_drewN ?_ _) | (with_reducible refine Kd.C_drew ?_))); (case side2 => exact (Kd.S_reads' HO_4.out).2.1); (case side3 => exact Tab.of HT.out (by repeat (first | (with_reducible first | exact HB.out | apply below_alloc | apply pw_below_drewN | apply below_drew1) | exact HB.out))); rintro e w49 ⟨rfl, hb⟩; have n0_ := Aside0.mk (Kd.S_below (by (with_reducible repeat (first | apply Kd.S_alloc | apply Kd.S_drewN | apply Kd.S_drew)); exact HO_3.out) hb); have n1_ := Aside0.mk (Kd.S_below (by (with_reducible repeat (first | apply Kd.S_alloc | apply Kd.S_drewN | apply Kd.S_drew)); exact HO_4.out) hb); have n2_ := Aside0.mk (Kd.S_below (by (with_reducible repeat (first | apply Kd.S_alloc | apply Kd.S_drewN | apply Kd.S_drew)); exact HO503.out) hb); have n3_ := Aside0.mk (below_step (by repeat (first | (with_reducible first | exact HB.out | apply below_alloc | apply pw_below_drewN | apply below_drew1) | exact HB.out)) hb); clear HO_3; clear HO_4; clear HO503; clear HB; have HO_3 := n0_; have HO_4 := n1_; have HO503 := n2_; have HB := n3_; clear n0_ n1_ n2_ n3_; (try clear hb); (try clear hb2); (try clear hk); (try clear hi)))
                    go_ret
                    exact ⟨by first | rfl | (simp [errW_none, errW_some] <;> rfl) | (simp [*, errW_none, errW_some] <;> rfl), by repeat (first | (with_reducible first | exact HB.out | apply below_alloc | apply pw_below_drewN | apply below_drew1) | exact HB.out)⟩
                  · replace c45 := Bool.eq_false_iff.mpr c45
                    subst c45
                    have H1 : (some false) = some r := by rw [if_neg (show ¬ (false = true) by decide)] at H; exact H
                    clear H
                    have H := H1
                    clear H1
                    obtain rfl := Option.some.inj H
                    obtain ⟨Ao50, co50, eo50⟩ := Kd.S_slice HO_4.out
                    subst eo50
                    go_wp2_with (first | ((with_reducible refine gate_callee (f := 18) rfl ?_); refine goesL_ (some 42) rfl rfl Tryd.func18 (by kernel_rfl) rfl #[.slice Ao50 t490.length co50] rfl (by (try simp only [List.map_toArray, List.map_cons, List.map_nil]); first | done | rfl | (simp only [List.length_drop, List.length_take]; rfl)) ?_; (with_reducible refine (impl_UselessNeeds.calls _ _ t490 t501 _ ?side1 ?side2 ?side3 A42.out).mono ?_); (case side1 => repeat (first | exact (Kd.S_reads' HO_4.out).2.2 | (with_reducible refine Kd.C_alloc ?_ _) | (with_reducible refine Kd.C_drewN ?_ _) | (with_reducible refine Kd.C_drew ?_))); (case side2 => exact (Kd.S_reads' HO_4.out).2.1); (case side3 => exact Tab.of HT.out (by repeat (first | (with_reducible first | exact HB.out | apply below_alloc | apply pw_below_drewN | apply below_drew1) | exact HB.out))); rintro e w51 ⟨v502, rfl, ho0, hb⟩; refine ⟨_, rfl, ?_⟩; have n0_ := Aside0.mk (Kd.S_below (by (with_reducible repeat (first | apply Kd.S_alloc | apply Kd.S_drewN | apply Kd.S_drew)); exact HO_3.out) hb); have n1_ := Aside0.mk (Kd.S_below (by (with_reducible repeat (first | apply Kd.S_alloc | apply Kd.S_drewN | apply Kd.S_drew)); exact HO_4.out) hb); have n2_ := Aside0.mk (Kd.S_lower ho0 (below_size (by repeat (first | (with_reducible first | exact HB.out | apply below_alloc | apply pw_below_drewN | apply below_drew1) | exact HB.out)))); have n3_ := Aside0.mk (below_step (by repeat (first | (with_reducible first | exact HB.out | apply below_alloc | apply pw_below_drewN | apply below_drew1) | exact HB.out)) hb); clear HO_3; clear HO_4; clear HB; have HO_3 := n0_; have HO_4 := n1_; have HO503 := n2_; have HB := n3_; clear n0_ n1_ n2_ n3_; (try clear hb); (try clear hb2); (try clear hk); (try clear hi); (try clear ho0); obtain ⟨Ao52, co52, eo52⟩ := Kd.S_slice HO503.out; subst eo52) | (go_at_call 34; (with_reducible refine (impl_ValidGraph.calls _ _ t490 false _ ?side1 ?side2 ?side3 A44.out).mono ?_); (case side1 => repeat (first | exact (Kd.S_reads' HO_4.out).2.2 | (with_reducible refine Kd.C_alloc ?_ _) | (with_reducible refine Kd.C_drewN ?_ _) | (with_reducible refine Kd.C_drew ?_))); (case side2 => exact (Kd.S_reads' HO_4.out).2.1); (case side3 => exact Tab.of HT.out (by repeat (first | (with_reducible first | exact HB.out | apply below_alloc | apply pw_below_drewN | apply below_drew1) | exact HB.out))); rintro e w53 ⟨rfl, hb⟩; have n0_ := Aside0.mk (Kd.S_below (by (with_reducible repeat (first | apply Kd.S_alloc | apply Kd.S_drewN | apply Kd.S_drew)); exact HO_3.out) hb); have n1_ := Aside0.mk (Kd.S_below (by (with_reducible repeat (first | apply Kd.S_alloc | apply Kd.S_drewN | apply Kd.S_drew)); exact HO_4.out) hb); have n2_ := Aside0.mk (Kd.S_below (by (with_reducible repeat (first | apply Kd.S_alloc | apply Kd.S_drewN | apply Kd.S_drew)); exact HO503.out) hb); have n3_ := Aside0.mk (below_step (by repeat (first | (with_reducible first | exact HB.out | apply below_alloc | apply pw_below_drewN | apply below_drew1) | exact HB.out)) hb); clear HO_3; clear HO_4; clear HO503; clear HB; have HO_3 := n0_; have HO_4 := n1_; have HO503 := n2_; have HB := n3_; clear n0_ n1_ n2_ n3_; (try clear hb); (try clear hb2); (try clear hk); (try clear hi)))
                    go_ret
                    exact ⟨by first | rfl | (simp [errW_none, errW_some] <;> rfl) | (simp [*, errW_none, errW_some] <;> rfl), by repeat (first | (with_reducible first | exact HB.out | apply below_alloc | apply pw_below_drewN | apply below_drew1) | exact HB.out)⟩
                · rw [if_neg c43] at H
                  have c43b0 : ((t501.length : Int) == 0) = false := beq_eq_false_iff_ne.mpr c43
                  have c43b1 : ((t501.length : Int) != 0) = true := bne_iff_ne.mpr c43
                  have c43b2 : ¬ (t501 = []) := fun h_ => c43 (by rw [h_]; rfl)
                  obtain rfl := Option.some.inj H
                  obtain ⟨Ao54, co54, eo54⟩ := Kd.S_slice HO_4.out
                  subst eo54
                  go_wp2_with (first | ((with_reducible refine gate_callee (f := 18) rfl ?_); refine goesL_ (some 42) rfl rfl Tryd.func18 (by kernel_rfl) rfl #[.slice Ao54 t490.length co54] rfl (by (try simp only [List.map_toArray, List.map_cons, List.map_nil]); first | done | rfl | (simp only [List.length_drop, List.length_take]; rfl)) ?_; (with_reducible refine (impl_UselessNeeds.calls _ _ t490 t501 _ ?side1 ?side2 ?side3 A42.out).mono ?_); (case side1 => repeat (first | exact (Kd.S_reads' HO_4.out).2.2 | (with_reducible refine Kd.C_alloc ?_ _) | (with_reducible refine Kd.C_drewN ?_ _) | (with_reducible refine Kd.C_drew ?_))); (case side2 => exact (Kd.S_reads' HO_4.out).2.1); (case side3 => exact Tab.of HT.out (by repeat (first | (with_reducible first | exact HB.out | apply below_alloc | apply pw_below_drewN | apply below_drew1) | exact HB.out))); rintro e w55 ⟨v502, rfl, ho0, hb⟩; refine ⟨_, rfl, ?_⟩; have n0_ := Aside0.mk (Kd.S_below (by (with_reducible repeat (first | apply Kd.S_alloc | apply Kd.S_drewN | apply Kd.S_drew)); exact HO_3.out) hb); have n1_ := Aside0.mk (Kd.S_below (by (with_reducible repeat (first | apply Kd.S_alloc | apply Kd.S_drewN | apply Kd.S_drew)); exact HO_4.out) hb); have n2_ := Aside0.mk (Kd.S_lower ho0 (below_size (by repeat (first | (with_reducible first | exact HB.out | apply below_alloc | apply pw_below_drewN | apply below_drew1) | exact HB.out)))); have n3_ := Aside0.mk (below_step (by repeat (first | (with_reducible first | exact HB.out | apply below_alloc | apply pw_below_drewN | apply below_drew1) | exact HB.out)) hb); clear HO_3; clear HO_4; clear HB; have HO_3 := n0_; have HO_4 := n1_; have HO503 := n2_; have HB := n3_; clear n0_ n1_ n2_ n3_; (try clear hb); (try clear hb2); (try clear hk); (try clear hi); (try clear ho0); obtain ⟨Ao56, co56, eo56⟩ := Kd.S_slice HO503.out; subst eo56))
                  go_ret
                  exact ⟨by first | rfl | (simp [errW_none, errW_some] <;> rfl) | (simp [*, errW_none, errW_some] <;> rfl), by repeat (first | (with_reducible first | exact HB.out | apply below_alloc | apply pw_below_drewN | apply below_drew1) | exact HB.out)⟩
end Go.Proofs.YtekajandipdlhaaDoor.P
end
section
set_option linter.unusedVariables false
set_option linter.unusedSimpArgs false
namespace Go.Proofs.YtekajandipdlhaaDoor.Core
open Go Go.RowKit Go.Proofs.YtekajandipdlhaaDoorW.PrintWords Go.Proofs.YtekajandipdlhaaDoorW.PrintMore Go.Proofs.YtekajandipdlhaaDoor.P
theorem uTo_nil {G : GD} : ∀ n, (∀ i, i < n → uselessD G i = 0) → uTo G n = []
  | 0, _ => rfl
  | n + 1, h => by
    unfold uTo uPairs
    rw [uTo_nil n (fun i hi => h i (by omega)), h n (by omega)]
    rfl
theorem FnWithoutUseless_pure (l0 : List Int) (hW : Bytes l0) : ∃ k, laws_FnWithoutUseless.f k l0 = some true := by
  refine Ev.one (f := fun k => laws_FnWithoutUseless.f k l0) (EvP.ev ?_)
  unfold laws_FnWithoutUseless.f
  refine EvP.ite (fun _ => EvP.ret rfl) (fun hlen => ?_)
  have hd : EvP (fun (k : Nat) => spec_DrawWithoutUseless.f l0) (fun r => GSmall 16 10 r) := by
    unfold spec_DrawWithoutUseless.f
    exact (ev_newReader hW).bind fun a ha => (ev_anyGraph ha (by omega)).bind fun c hc => EvP.ret hc.1
  refine hd.bind fun g hg => ?_
  have hf := hg.fits (by unfold big; omega) (by unfold big; omega)
  have hs := ev_WithoutUseless hf
  have he := ev_equalTasks (withoutD_fits g)
  have hyes : EvP (fun k => laws_FnWithoutUseless.j0 k g (withoutD g) true) (fun x => x = true) := by
    refine EvP.succ ?_
    simp only [laws_FnWithoutUseless.j0]
    exact EvP.pos (by first | rfl | trivial) (Ev.bindP hs (Ev.bindP he (EvP.ret rfl)))
  refine Ev.bindP (Ev.const (withoutD g)) (Ev.bindP hs (Ev.bindP he (EvP.pos rfl ?_)))
  by_cases h0 : (withoutD g).length = 0
  · rw [h0]; exact hyes
  rw [show (((withoutD g).length : Int) == 0) = false from by rw [beq_eq_false_iff_ne]; omega]
  obtain ⟨G, hG⟩ := withoutD_none h0
  have v := vg_of hG
  have h8 := v.n8
  obtain ⟨hl, G2, hG2, hb⟩ := without_graph hG
  have hbel := without_below hG hG2
  have hno := without_none hG hG2
  have ha (i : Nat) (hi : i < g.length) : allNeedsD (withoutD g) (i : Int) = allNeedsD g (i : Int) := by
    unfold allNeedsD
    rw [hG, hG2, hl]
    simp only [Int.toNat_natCast]
    rw [hbel i hi]
  have hal (i : Nat) : (allNeedsD g (i : Int)).length ≤ 8 := by
    unfold allNeedsD
    rw [hG]
    simp only []
    split
    · exact elems_length _
    · simp
  have hu : uselessND (withoutD g) = [] := by
    unfold uselessND
    rw [hG2, hl]
    exact uTo_nil _ hno
  have hv : (graphD (withoutD g)).isSome = true := by rw [hG2]; rfl
  refine EvP.succ ?_
  simp only [laws_FnWithoutUseless.j0]
  refine EvP.neg (by simp) ?_
  have key : ∀ (m i : Nat), i + m = g.length → EvP (fun k => laws_FnWithoutUseless.l0 k g (withoutD g) (i : Int)) (fun x => x = true) := by
    intro m
    induction m with
    | zero =>
      intro i hi
      refine EvP.succ ?_
      simp only [laws_FnWithoutUseless.l0]
      refine EvP.neg (by omega) (Ev.bindP (Ev.const (uselessND (withoutD g))) ?_)
      rw [hu]
      refine EvP.pos (by first | rfl | trivial) (Ev.bindP (Ev.const (graphD (withoutD g)).isSome) ?_)
      rw [hv]
      exact EvP.pos (by first | rfl | trivial) (EvP.ret (by rw [hl]; simp))
    | succ m ih =>
      intro i hi
      have hn := ih (i + 1) (by omega)
      have hw : wrap64 ((i : Int) + 1) = ((i + 1 : Nat) : Int) := w64s (by unfold big; omega)
      have hig : i < g.length := by omega
      have he2 := ev_equalInts (a := allNeedsD g (i : Int)) (b := allNeedsD g (i : Int)) (by have := hal i; omega)
      rw [decide_eq_true rfl] at he2
      refine EvP.succ ?_
      simp only [laws_FnWithoutUseless.l0, hw]
      refine EvP.pos (by omega) (Ev.bindP (Ev.const (allNeedsD (withoutD g) (i : Int))) (Ev.bindP (Ev.const (allNeedsD g (i : Int))) ?_))
      rw [ha i hig]
      exact Ev.bindP he2 (EvP.pos rfl hn)
  exact key g.length 0 (by omega)
end Go.Proofs.YtekajandipdlhaaDoor.Core
end
