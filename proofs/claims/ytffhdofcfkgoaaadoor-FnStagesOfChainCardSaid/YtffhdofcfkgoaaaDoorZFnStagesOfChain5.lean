/- The law FnStagesOfChain holds of the given program: part 5: words and contracts that the proof uses. -/
import Derived.Test.YtffhdofcfkgoaaaDoorZFnStagesOfChain4
section
set_option linter.unusedVariables false
set_option linter.unusedSimpArgs false
namespace Go.Proofs.YtffhdofcfkgoaaaDoor.Core
open Go Go.RowKit Go.Proofs.YtffhdofcfkgoaaaDoorW.PrintWords Go.Proofs.YtffhdofcfkgoaaaDoorW.PrintMore Go.Proofs.YtffhdofcfkgoaaaDoor.P
theorem VG.list {g : List Tk} {G : GD} (v : VG g G) {i : Nat} (hi : i < g.length) : (g.getD i z33).f1 = up (elemsN (G.needs.getD i 0)) := by
  have hg : g.getD i z33 ∈ g := by
    rw [List.getD_eq_getElem?_getD, List.getElem?_eq_getElem hi]
    exact List.getElem_mem hi
  have hf := (v.fine.1 _ hg).2
  refine asc_ext hf.2 (asc_elems _) (fun x => ?_)
  show _ ↔ x ∈ elems _
  rw [mem_elems]
  constructor
  · intro hx
    have hb := hf.1 x hx
    have h8 := v.n8
    refine ⟨x.toNat, by omega, by omega, ?_⟩
    rw [v.bits i hi, decide_eq_true_eq, show ((x.toNat : Nat) : Int) = x by omega]
    exact hx
  · rintro ⟨k, rfl, _, hk⟩
    rw [v.bits i hi, decide_eq_true_eq] at hk
    exact hk
theorem up_set (L : List Nat) (i x : Nat) : (up L).set i (x : Int) = up (L.set i x) := by
  unfold up
  rw [List.map_set]
  rfl
theorem ev_lev1 {g : List Tk} {G : GD} (v : VG g G) {list : List Int} {j i : Nat} (hi : i < g.length) {R : List Int} : ∀ (r pre Ls : List Nat) (b : Nat), elemsN (G.needs.getD i 0) = pre ++ r → Ls.length = g.length → le1 b Ls → b + r.length ≤ 1000 →
    Ev (fun k => spec_levels.l0 k g (up (r.foldl (sStep i) Ls)) list (wrap64 ((j : Int) + 1))) R → Ev (fun k => spec_levels.l1 k g (up Ls) list (j : Int) (i : Int) (pre.length : Int)) R
  | [], pre, Ls, b, hp, hl, hb, hB, h => by
    have hL : (g.getD i z33).f1.length = pre.length := by rw [v.list hi, up_length, hp]; simp
    refine Ev.succ (h.of fun k => ?_)
    rw [spec_levels.l1, if_pos (by omega), if_pos (by omega), rdT_nat, if_neg (by rw [hL]; omega)]
    rfl
  | x :: r, pre, Ls, b, hp, hl, hb, hB, h => by
    have hL : (g.getD i z33).f1.length = pre.length + (r.length + 1) := by rw [v.list hi, up_length, hp]; simp
    have hx : (G.needs.getD i 0).testBit x = true := (mem_elemsN.1 (show x ∈ elemsN (G.needs.getD i 0) by rw [hp]; simp)).2
    have hxl : x < g.length := by
      have h1 := getD_lt v.nb i
      have h2 : 2 ^ x < 2 ^ g.length := Nat.lt_of_le_of_lt (Nat.ge_two_pow_of_testBit hx) h1
      exact (Nat.pow_lt_pow_iff_right (by omega)).1 h2
    have hrx : rd (g.getD i z33).f1 (pre.length : Int) = (x : Int) := by rw [v.list hi, rd_up (i := pre.length) rfl, hp]; simp
    have hri : rd (up Ls) (i : Int) = ((Ls.getD i 0 : Nat) : Int) := rd_up rfl
    have hrk : rd (up Ls) (x : Int) = ((Ls.getD x 0 : Nat) : Int) := rd_up rfl
    have hbx := hb x
    have hbi := hb i
    simp only [List.length_cons] at hB
    have e1 : mx ((Ls.getD i 0 : Nat) : Int) (wrap64 (((Ls.getD x 0 : Nat) : Int) + 1)) = ((max (Ls.getD i 0) (Ls.getD x 0 + 1) : Nat) : Int) := by
      rw [w64 (by omega) (by omega)]
      unfold mx
      split <;> omega
    have ih := ev_lev1 v (list := list) (j := j) hi (R := R) r (pre ++ [x]) (sStep i Ls x) (b + 1) (by rw [hp]; simp) (by unfold sStep; rw [List.length_set]; exact hl) (sStep_le hb x) (by omega) h
    refine Ev.succ (ih.of fun k => ?_)
    rw [spec_levels.l1, if_pos (by omega), if_pos (by omega), rdT_nat, if_pos (by rw [hL]; omega), if_pos (by rw [up_length, hl]; omega), if_pos (by omega), hrx, if_pos (by omega), if_pos (by rw [up_length, hl]; omega), hri, hrk, e1, Int.toNat_natCast, up_set, w64 (n := (pre.length : Int) + 1) (by omega) (by have := elemsN_length (G.needs.getD i 0); rw [hp] at this; simp at this; omega)]
    rw [show ((pre ++ [x]).length : Int) = (pre.length : Int) + 1 by simp]
    rfl
theorem ev_lev {g : List Tk} {G : GD} (v : VG g G) : ∀ (suf pre : List Nat), G.order = pre ++ suf → Ev (fun k => spec_levels.l0 k g (up (stTo G.needs g.length pre)) (up G.order) (pre.length : Int)) (up (stTo G.needs g.length G.order))
  | [], pre, ho => by
    rw [List.append_nil] at ho
    refine Ev.succ ((Ev.const _).of fun k => ?_)
    rw [spec_levels.l0, if_neg (by rw [up_length, ho]; omega), ho]
  | i :: suf, pre, ho => by
    have hlen : G.order.length = pre.length + (suf.length + 1) := by rw [ho]; simp
    have hi : i < g.length := v.mem.1 (by rw [ho]; simp)
    have h8 := v.n8
    have hol : G.order.length = g.length := by
      have := v.ord.len
      rw [v.nl, zb_full _ _ (Nat.le_refl _)] at this
      omega
    have ih := ev_lev v suf (pre ++ [i]) (by rw [ho]; simp)
    rw [stTo_snoc] at ih
    have hle := stTo_le G.needs g.length pre
    have hr : rd (up G.order) (pre.length : Int) = (i : Int) := by rw [rd_up (i := pre.length) rfl, ho]; simp
    have h1 := ev_lev1 v (list := up G.order) (j := pre.length) hi (R := up (stTo G.needs g.length G.order)) (elemsN (G.needs.getD i 0)) [] (stTo G.needs g.length pre) _ rfl (stTo_length _ _ _) hle (by have := elemsN_length (G.needs.getD i 0); omega) (by
      rw [w64 (by omega) (by omega)]
      rw [show ((pre ++ [i]).length : Int) = (pre.length : Int) + 1 by simp] at ih
      exact ih)
    refine Ev.succ (h1.of fun k => ?_)
    rw [spec_levels.l0, if_pos (by rw [up_length]; omega), if_pos (by omega), hr]
    rfl
theorem ev_levels {g : List Tk} (hg : Fits g) {G : GD} (hG : graphD g = some G) : Ev (fun k => spec_levels.f k g) (up (stagesN G)) := by
  have v := vg_of hG
  have h8 := v.n8
  have ht := ev_topOrder hg v.needsD
  have ho : (orderD G.needs).1 = G.order := by
    obtain ⟨N, hN, hf, rfl⟩ := graphD_spec hG
    rfl
  rw [ho] at ht
  unfold spec_levels.f
  refine Ev.pos (by omega) (Ev.pos (by omega) (Ev.bind ht ?_))
  have := ev_lev v G.order [] rfl
  unfold stagesN
  rw [v.tasks]
  refine this.of fun k => ?_
  rw [Int.toNat_natCast]
  congr 1
  show List.replicate g.length 0 = up (List.replicate g.length 0)
  simp [up]
end Go.Proofs.YtffhdofcfkgoaaaDoor.Core
end
section
set_option linter.unusedVariables false
set_option linter.unusedSimpArgs false
namespace Go.Proofs.YtffhdofcfkgoaaaDoor.Core
open Go Go.RowKit Go.Proofs.YtffhdofcfkgoaaaDoorW.PrintWords Go.Proofs.YtffhdofcfkgoaaaDoorW.PrintMore Go.Proofs.YtffhdofcfkgoaaaDoor.P
/-- The tasks of a stage, among the first n. -/
def partN (S : List Nat) (s n : Nat) : List Nat := (List.range n).filter (fun i => decide (S.getD i 0 = s))
theorem partN_succ (S : List Nat) (s n : Nat) : partN S s (n + 1) = if S.getD n 0 = s then partN S s n ++ [n] else partN S s n := by
  unfold partN
  rw [List.range_succ, List.filter_append]
  by_cases h : S.getD n 0 = s
  · rw [if_pos h, List.filter_cons_of_pos (by simpa using h)]; rfl
  · rw [if_neg h, List.filter_cons_of_neg (by simpa using h), List.filter_nil, List.append_nil]
theorem partN_length (S : List Nat) (s n : Nat) : (partN S s n).length ≤ n := by
  have := List.length_filter_le (fun i => decide (S.getD i 0 = s)) (List.range n)
  rw [List.length_range] at this
  exact this
/-- The stages that have tasks. -/
def partsTo (S : List Nat) (n : Nat) : Nat → List (List Int)
  | 0 => []
  | s + 1 => if partN S s n = [] then partsTo S n s else partsTo S n s ++ [up (partN S s n)]
theorem partsTo_length (S : List Nat) (n : Nat) : ∀ s, (partsTo S n s).length ≤ s
  | 0 => Nat.le_refl _
  | s + 1 => by
    have := partsTo_length S n s
    unfold partsTo
    split
    · omega
    · rw [List.length_append, List.length_singleton]; omega
theorem ev_sp1 {g : List Tk} (hn : g.length ≤ 1000) {S : List Nat} (hS : S.length = g.length) {s : Nat} (hs : s < g.length) {out : List (List Int)} (ho : out.length ≤ 1000) {R : List (List Int)} (h : Ev (fun k => spec_StagesOf.l0 k g (if partN S s g.length = [] then out else out ++ [up (partN S s g.length)]) (up S) ((s + 1 : Nat) : Int)) R) :
    ∀ (d i : Nat), i + d = g.length → Ev (fun k => spec_StagesOf.l1 k g out (up S) (s : Int) (up (partN S s i)) (i : Int)) R
  | 0, i, hd => by
    have hi : i = g.length := by omega
    subst hi
    have hw : wrap64 ((s : Int) + 1) = ((s + 1 : Nat) : Int) := by rw [w64 (by omega) (by omega)]; omega
    refine Ev.succ (h.of fun k => ?_)
    rw [spec_StagesOf.l1, if_neg (by omega), hw]
    by_cases he : partN S s g.length = []
    · rw [if_pos he, he, if_neg (by simp [up])]
    · have hl : 0 < (partN S s g.length).length := List.length_pos_iff.2 he
      rw [if_neg he, if_pos (by rw [up_length]; omega), if_pos (by omega)]
  | d + 1, i, hd => by
    have ih := ev_sp1 hn hS hs ho h d (i + 1) (by omega)
    have hr : rd (up S) (i : Int) = ((S.getD i 0 : Nat) : Int) := rd_up rfl
    have hw : wrap64 ((i : Int) + 1) = ((i + 1 : Nat) : Int) := by rw [w64 (by omega) (by omega)]; omega
    have hpl := partN_length S s i
    refine Ev.succ (ih.of fun k => ?_)
    rw [spec_StagesOf.l1, if_pos (by omega), if_pos (by omega), if_pos (by rw [up_length, hS]; omega), hr, hw, partN_succ]
    by_cases he : S.getD i 0 = s
    · rw [if_pos (by omega), if_pos he, if_pos (by rw [up_length]; omega)]
      congr 1
      simp [up]
    · rw [if_neg (by omega), if_neg he]
theorem ev_sp0 {g : List Tk} (hn : g.length ≤ 1000) {S : List Nat} (hS : S.length = g.length) : ∀ (d s : Nat), s + d = g.length → Ev (fun k => spec_StagesOf.l0 k g (partsTo S g.length s) (up S) (s : Int)) (partsTo S g.length g.length)
  | 0, s, hd => by
    have hs : s = g.length := by omega
    subst hs
    refine Ev.succ ((Ev.const _).of fun k => ?_)
    rw [spec_StagesOf.l0, if_neg (by omega)]
  | d + 1, s, hd => by
    have ih := ev_sp0 hn hS d (s + 1) (by omega)
    have hpl := partsTo_length S g.length s
    have h1 := ev_sp1 hn hS (s := s) (by omega) (out := partsTo S g.length s) (by omega) (R := partsTo S g.length g.length) ih g.length 0 (by omega)
    refine Ev.succ (h1.of fun k => ?_)
    rw [spec_StagesOf.l0, if_pos (by omega)]
    rfl
def specStages (g : List Tk) : List (List Int) := match graphD g with
  | none => []
  | some G => partsTo (stagesN G) g.length g.length
theorem ev_StagesOf {g : List Tk} (hg : Fits g) : Ev (fun k => spec_StagesOf.f k g) (specStages g) := by
  unfold spec_StagesOf.f
  refine Ev.bind (ev_validGraph hg) ?_
  unfold specStages
  cases hG : graphD g with
  | none => exact Ev.neg (by simp) (Ev.const _)
  | some G =>
    have v := vg_of hG
    have h8 := v.n8
    have hS : (stagesN G).length = g.length := by unfold stagesN; rw [stTo_length, v.tasks]
    exact Ev.pos rfl (Ev.bind (ev_levels hg hG) (ev_sp0 (by omega) hS g.length 0 (by omega)))
end Go.Proofs.YtffhdofcfkgoaaaDoor.Core
end
section
namespace Go.Proofs.YtffhdofcfkgoaaaDoor.P
open Go.Proofs.YtffhdofcfkgoaaaDoor.Core
open Go.RowKit Go.Proofs.YtffhdofcfkgoaaaDoorW.PrintWords Go.Proofs.YtffhdofcfkgoaaaDoorW.PrintLast Go.Proofs.YtffhdofcfkgoaaaDoorW.PrintMore
attribute [local go_sem] max2_int min2_int max_two min_two max_three min_three max_four min_four   -- for this text's walks alone
set_option linter.unusedVariables false
set_option linter.unusedSimpArgs false
def impl_stages.f (l0 : List (S33)) : Option (List Int) := match graphD l0 with
  | none => none
  | some G => some (up (stagesN G))
mutual
def impl_StagesOf0.l0 : Nat → List (List Int) → List Int → Int → Int → Option ((List (List Int)))
  | 0, _, _, _, _ => none
  | k + 1, x5, x17, x18, x19 => if x19 < x18 then (if 0 ≤ x19 then (if x19 < (x17.length : Int) then (impl_StagesOf0.l1 k x5 x19 (rd x17 x19) x17 x18 x19) else (none)) else (none)) else (some x5)
def impl_StagesOf0.l1 : Nat → List (List Int) → Int → Int → List Int → Int → Int → Option ((List (List Int)))
  | 0, _, _, _, _, _, _ => none
  | k + 1, x5, x6, x7, x17, x18, x19 => if (x5.length : Int) ≤ x7 then (if x5.length < 5864062014805 then (impl_StagesOf0.l1 k (x5 ++ [(([] : List Int))]) x6 x7 x17 x18 x19) else (none)) else (if 0 ≤ x7 then (if x7 < (x5.length : Int) then (if (rd_L1 x5 x7).length < 17592186044416 then (impl_StagesOf0.l0 k (x5.set (x7 : Int).toNat ((rd_L1 x5 x7) ++ [x6])) x17 x18 (wrap64 (x19 + 1))) else (none)) else (none)) else (none))
end
def impl_StagesOf0.f (k : Nat) (l0 : List (S33)) : Option ((List (List Int))) := (impl_stages.f l0).bind fun t219 => (impl_StagesOf0.l0 k (([] : List (List Int))) t219 (t219.length : Int) 0)
theorem impl_StagesOf0.mono_l : ∀ k, (∀ y0 y1 y2 y3, LeO (impl_StagesOf0.l0 k y0 y1 y2 y3) (impl_StagesOf0.l0 (k + 1) y0 y1 y2 y3)) ∧ (∀ y0 y1 y2 y3 y4 y5, LeO (impl_StagesOf0.l1 k y0 y1 y2 y3 y4 y5) (impl_StagesOf0.l1 (k + 1) y0 y1 y2 y3 y4 y5))
  | 0 => ⟨fun _ _ _ _ r h => by simp [impl_StagesOf0.l0] at h, fun _ _ _ _ _ _ r h => by simp [impl_StagesOf0.l1] at h⟩
  | k + 1 => by
    obtain ⟨ih0, ih1⟩ := impl_StagesOf0.mono_l k
    refine ⟨?_, ?_⟩
    · intro y0 y1 y2 y3
      unfold impl_StagesOf0.l0
      repeat' first
      | (with_reducible exact ih0 _ _ _ _)
      | (with_reducible exact ih1 _ _ _ _ _ _)
      | (with_reducible exact LeO.refl _)
      | (with_reducible exact LeO.none _)
      | (with_reducible refine LeO.ite ?_ ?_)
      | (with_reducible refine LeO.bind ?_ (fun _ => ?_))
      | exact ih0 _ _ _ _
      | exact ih1 _ _ _ _ _ _
      | exact LeO.none _
      | refine LeO.ite ?_ ?_
      | refine LeO.bind ?_ (fun _ => ?_)
    · intro y0 y1 y2 y3 y4 y5
      unfold impl_StagesOf0.l1
      repeat' first
      | (with_reducible exact ih0 _ _ _ _)
      | (with_reducible exact ih1 _ _ _ _ _ _)
      | (with_reducible exact LeO.refl _)
      | (with_reducible exact LeO.none _)
      | (with_reducible refine LeO.ite ?_ ?_)
      | (with_reducible refine LeO.bind ?_ (fun _ => ?_))
      | exact ih0 _ _ _ _
      | exact ih1 _ _ _ _ _ _
      | exact LeO.none _
      | refine LeO.ite ?_ ?_
      | refine LeO.bind ?_ (fun _ => ?_)
theorem impl_StagesOf0.mono : ∀ a0 k, LeO (impl_StagesOf0.f k a0) (impl_StagesOf0.f (k + 1) a0) := by
  intro a0 k
  obtain ⟨ih0, ih1⟩ := impl_StagesOf0.mono_l k
  unfold impl_StagesOf0.f
  repeat' first
      | (with_reducible exact ih0 _ _ _ _)
      | (with_reducible exact ih1 _ _ _ _ _ _)
      | (with_reducible exact LeO.refl _)
      | (with_reducible exact LeO.none _)
      | (with_reducible refine LeO.ite ?_ ?_)
      | (with_reducible refine LeO.bind ?_ (fun _ => ?_))
      | exact ih0 _ _ _ _
      | exact ih1 _ _ _ _ _ _
      | exact LeO.none _
      | refine LeO.ite ?_ ?_
      | refine LeO.bind ?_ (fun _ => ?_)
set_option maxHeartbeats 8000000 in
set_option maxRecDepth 100000 in
theorem impl_StagesOf0.calls (k : Nat) (A0 : Option Addr) (c0 : Nat) (l0 : List (S33)) (r : List (List Int)) (w : World) (hr0 : Kd.C k33 w A0 l0.length l0) (hc0 : l0.length ≤ c0) (G : GD) (hT : Tab w) (hgr : graphD l0 = some G) (h : impl_StagesOf0.f k l0 = some r) :
    Calls Tryd.prog 40 #[.slice A0 l0.length c0] w fun e w' => ∃ v0_ : Value, e = .returned (v0_) ∧ Kd.S (Kd.slice 3 (Kd.int .i64)) 31 w' w.heap.size (fun _ => True) v0_ r ∧ Below w.heap.size w w' := by
  have HGx := Aside0.mk (graphOf_some A0 c0 l0 G w hT hr0 hc0 hgr)
  have OKx := Aside0.mk (graphD_ok hgr)
  have HT := Aside0.mk hT
  clear hT
  have HR0 := Aside0.mk hr0
  have HC0 := Aside0.mk hc0
  clear hr0 hc0
  have HB := Aside0.mk (Below.refl w.heap.size w)
  have H : ((impl_stages.f l0).bind fun t219 => (impl_StagesOf0.l0 k (([] : List (List Int))) t219 (t219.length : Int) 0)) = some r := h
  clear h
  obtain ⟨y216, hy216⟩ : ∃ y_ : List (List Int), y_ = (([] : List (List Int))) := ⟨_, rfl⟩
  replace H : ((impl_stages.f l0).bind fun t219 => (impl_StagesOf0.l0 k y216 t219 (t219.length : Int) 0)) = some r := by first | (rw [hy216]; with_reducible exact H) | (have H2_ := (Option.bind_some _ _).symm.trans H; rw [hy216]; with_reducible exact H2_) | (have H2_ := (Option.bind_some _ _).symm.trans H; with_reducible exact H2_) | with_reducible exact H | (rw [hy216]; exact H) | exact H
  have Ny216 := Aside0.mk hy216
  clear hy216
  replace H := Option.bind_eq_some_iff.mp H
  obtain ⟨t219, A20, H⟩ := H
  replace H : (impl_StagesOf0.l0 k y216 t219 (t219.length : Int) 0) = some r := H
  have A2 := Aside0.mk A20
  have HSTx := Aside0.mk (show t219 = up (stagesN G) by have h_ := A20; unfold impl_stages.f at h_; rw [hgr] at h_; exact (Option.some.inj h_).symm)
  clear hgr
  clear A20
  have H' := Aside0.mk H
  clear H
  go_enter Tryd.func40, Tryd.ntmps40
  go_wp2_with (first | (go_at_call 47; refine HGx.out.mono ?_; rintro e wG ⟨bG, rfl, hbG, hIG⟩; have HIG := Aside0.mk hIG; have n0_ := Aside0.mk hbG; clear HB hIG hbG HGx; have HB := n0_; clear n0_) | ((with_reducible refine gate_dst (N := 15) rfl ?_); refine Kd.S_lit (Kd.slice 3 (Kd.int .i64)) _ 31 ?hg (N := 15) ?hd (xs := ([] : List (List Int))) (inner := []) (ok := fun _ => True) (okp := fun _ => True) ?hr ?hp (fun _ hk => hk) trivial (Below.refl _ _) (Nat.le_refl _) (by simp) ?_; (case hd => rfl); (case hg => rfl); (case hr => first | (go_simp; done) | (go_simp; rfl)); (case hp => exact (Reps.none _ _)); intro v217 w3 ho4 hb hg_ hnew_; clear hg_ hnew_; have nI_ := Aside0.mk (IsG.move HIG.out hb); clear HIG; have HIG := nI_; clear nI_; (first | rw [← Ny216.out] at ho4 | (simp only [Int.reduceToNat] at ho4; rw [← Ny216.out] at ho4)); have n0_ := Aside0.mk (Kd.S_lower ho4 (below_size (by repeat (first | (with_reducible first | exact HB.out | apply below_alloc | apply pw_below_drewN | apply below_drew1) | exact HB.out)))); have n1_ := Aside0.mk (below_step (by repeat (first | (with_reducible first | exact HB.out | apply below_alloc | apply pw_below_drewN | apply below_drew1) | exact HB.out)) hb); clear HB; have HO218 := n0_; have HB := n1_; clear n0_ n1_; clear hb ho4) | (go_at_call 66; refine ((stages_calls bG G _ (Tab.of HT.out HB.out) HIG.out OKx.out).mono (fun e_ w_ ⟨v_, h1_, h2_, h3_⟩ => (⟨v_, h1_, (by rw [HSTx.out]; exact h2_), h3_⟩ : ∃ v_, e_ = _root_.Go.Ending.returned v_ ∧ Kd.R (Kd.int .i64) 3 w_ _ (fun _ => True) v_ t219 ∧ Below _ _ w_))).mono ?_; rintro e w5 ⟨v220, rfl, ho0, hb⟩; have n0_ := Aside0.mk (Kd.S_elder' (by (with_reducible repeat (first | apply Kd.S_alloc | apply Kd.S_drewN | apply Kd.S_drew)); exact HO218.out) (Kd.R_base ho0) hb); have n1_ := Aside0.mk (Kd.R_lower ho0 (below_size (by repeat (first | (with_reducible first | exact HB.out | apply below_alloc | apply pw_below_drewN | apply below_drew1) | exact HB.out)))); have n2_ := Aside0.mk (below_step (by repeat (first | (with_reducible first | exact HB.out | apply below_alloc | apply pw_below_drewN | apply below_drew1) | exact HB.out)) hb); clear HO218; clear HB; have HO218 := n0_; have HO221 := n1_; have HB := n2_; clear n0_ n1_ n2_; (try clear hb); (try clear hb2); (try clear hk); (try clear hi); (try clear ho0); obtain ⟨Ao6, co6, eo6⟩ := Kd.R_slice HO221.out; subst eo6))
  go_loopg [5, 19] k (fun kq v5 v19 w' => ∃ (x5_1 : List (List Int)) (x19_1 : Int), v19 = .int .i64 x19_1 ∧ Aside0 (impl_StagesOf0.l0 kq x5_1 t219 (t219.length : Int) x19_1 = some r) ∧ Aside0 (kq ≤ k) ∧ Aside0 (Kd.S (Kd.slice 3 (Kd.int .i64)) 31 w' w.heap.size (fun k_ => some k_ ≠ ((.slice Ao6 t219.length co6) : Value).ownBlock) v5 x5_1) ∧ Aside0 (Kd.R (Kd.int .i64) 3 w' w.heap.size (fun _ => True) (.slice Ao6 t219.length co6) t219) ∧ Aside0 (Below w.heap.size w w'))
  case atStart => exact ⟨(y216), (0), (by first | rfl | (simp; done) | (simp [*]; done)), H', ⟨Nat.le_refl _⟩, ⟨by (with_reducible repeat (first | apply Kd.S_alloc | apply Kd.S_drewN | apply Kd.S_drew)); exact Kd.S_mono HO218.out (fun _ hk => hk.2)⟩, ⟨by (with_reducible repeat (first | apply Kd.R_alloc | apply Kd.R_drewN | apply Kd.R_drew)); exact HO221.out⟩, ⟨by repeat (first | (with_reducible first | exact HB.out | apply below_alloc | apply pw_below_drewN | apply below_drew1) | exact HB.out)⟩⟩
  case round =>
    clear H'
    try clear p2
    try clear c4
    try clear c6
    obtain ⟨x5_1, x19_1, rfl, HA, HK1, HO_5, HO_17, HB⟩ := hrel
    cases gk with
    | zero => exact absurd HA.out (by simp [impl_StagesOf0.l0])
    | succ k1 =>
      have H := HA.out
      clear HA
      simp only [impl_StagesOf0.l0] at H
      by_cases c7 : x19_1 < (t219.length : Int)
      · rw [if_pos c7] at H
        have c7b0 : decide (x19_1 < (t219.length : Int)) = true := decide_eq_true c7
        clear c7
        by_cases c8 : 0 ≤ x19_1
        · rw [if_pos c8] at H
          have c8b0 : decide (0 ≤ x19_1) = true := decide_eq_true c8
          clear c8
          by_cases c9 : x19_1 < (t219.length : Int)
          · rw [if_pos c9] at H
            have c9b0 : decide (x19_1 < (t219.length : Int)) = true := decide_eq_true c9
            clear c9
            have H' := Aside0.mk H
            clear H
            have p222 : 0 ≤ (x19_1 : Int) := of_decide_eq_true (by first | (with_reducible assumption) | assumption)
            have q222 : x19_1 < (t219.length : Int) := of_decide_eq_true (by first | (with_reducible assumption) | assumption)
            obtain ⟨ad222, e222, hx222_0⟩ := Kd.at_int (Kd.R_reads' HO_17.out).2.2 x19_1 p222 q222
            cases e222
            replace p222 := eq_true p222
            replace q222 := eq_true q222
            go_wp2
            go_loopg [5] k1 (fun kq v5 w' => ∃ (x5_2 : List (List Int)), Aside0 (impl_StagesOf0.l1 kq x5_2 x19_1 (rd t219 x19_1) t219 (t219.length : Int) x19_1 = some r) ∧ Aside0 (kq ≤ k1) ∧ Aside0 (Kd.S (Kd.slice 3 (Kd.int .i64)) 31 w' w.heap.size (fun k_ => some k_ ≠ ((.slice (some ad222) t219.length co6) : Value).ownBlock) v5 x5_2) ∧ Aside0 (Kd.R (Kd.int .i64) 3 w' w.heap.size (fun _ => True) (.slice (some ad222) t219.length co6) t219) ∧ Aside0 (Below w.heap.size w w'))
            case atStart => exact ⟨(x5_1), H', ⟨Nat.le_refl _⟩, ⟨by (with_reducible repeat (first | apply Kd.S_alloc | apply Kd.S_drewN | apply Kd.S_drew)); exact HO_5.out⟩, ⟨by (with_reducible repeat (first | apply Kd.R_alloc | apply Kd.R_drewN | apply Kd.R_drew)); exact HO_17.out⟩, ⟨by repeat (first | (with_reducible first | exact HB.out | apply below_alloc | apply pw_below_drewN | apply below_drew1) | exact HB.out)⟩⟩
            case round =>
              clear H'
              try clear p2
              try clear q2
              try clear hx2
              try clear c4
              try clear c6
              try clear c7
              try clear c7b0
              try clear c8
              try clear c8b0
              try clear c9
              try clear c9b0
              try clear hx222_0
              try clear p2
              try clear p222
              try clear q222
              obtain ⟨x5_2, HA, HK2, HO_5, HO_17, HB⟩ := hrel
              cases gk with
              | zero => exact absurd HA.out (by simp [impl_StagesOf0.l1])
              | succ k2 =>
                have H := HA.out
                clear HA
                simp only [impl_StagesOf0.l1] at H
                by_cases c10 : (x5_2.length : Int) ≤ (rd t219 x19_1)
                · rw [if_pos c10] at H
                  have c10b0 : decide ((x5_2.length : Int) ≤ (rd t219 x19_1)) = true := decide_eq_true c10
                  clear c10
                  obtain ⟨y223, hy223⟩ : ∃ y_ : List Int, y_ = (([] : List Int)) := ⟨_, rfl⟩
                  replace H : (if x5_2.length < 5864062014805 then (impl_StagesOf0.l1 k2 (x5_2 ++ [y223]) x19_1 (rd t219 x19_1) t219 (t219.length : Int) x19_1) else (none)) = some r := by first | (rw [hy223]; with_reducible exact H) | (have H2_ := (Option.bind_some _ _).symm.trans H; rw [hy223]; with_reducible exact H2_) | (have H2_ := (Option.bind_some _ _).symm.trans H; with_reducible exact H2_) | with_reducible exact H | (rw [hy223]; exact H) | exact H
                  have Ny223 := Aside0.mk hy223
                  clear hy223
                  by_cases c11 : x5_2.length < 5864062014805
                  · rw [if_pos c11] at H
                    have LMc11 := Aside0.mk c11
                    clear c11
                    obtain ⟨y226, hy226⟩ : ∃ y_ : List (List Int), y_ = (x5_2 ++ [y223]) := ⟨_, rfl⟩
                    replace H : (impl_StagesOf0.l1 k2 y226 x19_1 (rd t219 x19_1) t219 (t219.length : Int) x19_1) = some r := by first | (rw [hy226]; with_reducible exact H) | (have H2_ := (Option.bind_some _ _).symm.trans H; rw [hy226]; with_reducible exact H2_) | (have H2_ := (Option.bind_some _ _).symm.trans H; with_reducible exact H2_) | with_reducible exact H | (rw [hy226]; exact H) | exact H
                    have Ny226 := Aside0.mk hy226
                    clear hy226
                    have H' := Aside0.mk H
                    clear H
                    obtain ⟨Ao12, co12, eo12⟩ := Kd.S_slice HO_5.out
                    subst eo12
                    go_wp2_with (first | ((with_reducible refine gate_dst (N := 29) rfl ?_); refine Kd.R_lit (Kd.int .i64) _ 3 ?hg (N := 29) ?hd (xs := ([] : List Int)) (inner := []) (ok := fun _ => True) (okp := fun _ => True) ?hr ?hp (fun _ hk => hk) trivial (Below.refl _ _) (Nat.le_refl _) (by simp) ?_; (case hd => rfl); (case hg => rfl); (case hr => first | (go_simp; done) | (go_simp; rfl)); (case hp => exact (Reps.none _ _)); intro v224 w13 ho14 hb hg_ hnew_; clear hg_ hnew_; (first | rw [← Ny223.out] at ho14 | (simp only [Int.reduceToNat] at ho14; rw [← Ny223.out] at ho14)); have n0_ := Aside0.mk (Kd.S_elder' (by (with_reducible repeat (first | apply Kd.S_alloc | apply Kd.S_drewN | apply Kd.S_drew)); exact HO_5.out) (Kd.R_base ho14) hb); have n1_ := Aside0.mk (Kd.R_elder' (by (with_reducible repeat (first | apply Kd.R_alloc | apply Kd.R_drewN | apply Kd.R_drew)); exact HO_17.out) (Kd.R_base ho14) hb); have n2_ := Aside0.mk (Kd.R_lower (Kd.R_new' ho14 (Kd.R_lt (by (with_reducible repeat (first | apply Kd.R_alloc | apply Kd.R_drewN | apply Kd.R_drew)); exact HO_17.out))) (below_size (by repeat (first | (with_reducible first | exact HB.out | apply below_alloc | apply pw_below_drewN | apply below_drew1) | exact HB.out)))); have n3_ := Aside0.mk (below_step (by repeat (first | (with_reducible first | exact HB.out | apply below_alloc | apply pw_below_drewN | apply below_drew1) | exact HB.out)) hb); clear HO_5; clear HO_17; clear HB; have HO_5 := n0_; have HO_17 := n1_; have HO225 := n2_; have HB := n3_; clear n0_ n1_ n2_ n3_; clear hb ho14; obtain ⟨Ao16, co16, eo16⟩ := Kd.R_slice HO225.out; subst eo16) | ((with_reducible refine gate_builtin (b := .append) (xs := #[.tmp 28, .tmp 30]) rfl ?_); at_builtin; refine Kd.S_append (Kd.slice 3 (Kd.int .i64)) (w0 := w) w.heap.size rfl (.tmp 28) (.tmp 30) 53 31 (.slice none 0 0) 24 rfl Tryd.underlying53 info31 rfl (by decide) (by omega) (.slice Ao12 x5_2.length co12) x5_2 y223 [.slice Ao16 y223.length co16] (fun k_ => some k_ ≠ (.slice (some ad222) t219.length co6 : Value).ownBlock) (fun k_ => some k_ = (.slice Ao16 y223.length co16 : Value).ownBlock) rfl rfl ?aP (fun k_ hk_ => ((Kd.R_mono (ok' := fun k_ => ((fun k_ => some k_ ≠ (.slice (some ad222) t219.length co6 : Value).ownBlock)) k_ ∧ some k_ ≠ (.slice Ao12 x5_2.length co12 : Value).ownBlock) (Kd.R_apart' (HO225.out) (Kd.S_typed HO_5.out) (by decide)) (fun k_ hk => ⟨hk.1.2, hk.2⟩))).1 k_ hk_.symm) ?aF ?aO ?aB ?aS ?aL ?_; (case aP => exact Kd.M_row (Kd.R_mono (Kd.R_tight rfl (Kd.R_mono (ok' := fun k_ => ((fun k_ => some k_ ≠ (.slice (some ad222) t219.length co6 : Value).ownBlock)) k_ ∧ some k_ ≠ (.slice Ao12 x5_2.length co12 : Value).ownBlock) (Kd.R_apart' (HO225.out) (Kd.S_typed HO_5.out) (by decide)) (fun k_ hk => ⟨hk.1.2, hk.2⟩))) (fun _ h_ => h_))); (case aB => exact (by repeat (first | (with_reducible first | exact HB.out | apply below_alloc | apply pw_below_drewN | apply below_drew1) | exact HB.out))); (case aF => exact (fun k_ hk => Kd.fresh' (Kd.R_lt (by (with_reducible repeat (first | apply Kd.R_alloc | apply Kd.R_drewN | apply Kd.R_drew)); exact HO_17.out)) k_ hk)); (case aO => exact (by (with_reducible repeat (first | apply Kd.S_alloc | apply Kd.S_drewN | apply Kd.S_drew)); exact Kd.S_mono HO_5.out (fun k_ hk => ⟨hk.1, fun e_ => hk.2 e_⟩))); (case aS => exact (below_size (by repeat (first | (with_reducible first | exact HB.out | apply below_alloc | apply pw_below_drewN | apply below_drew1) | exact HB.out)))); (case aL => have := LMc11.out; omega); intro v227 w15 ho hb hg hat; rw [← Ny226.out] at ho; have n0_ := Aside0.mk (Kd.R_over' (by (with_reducible repeat (first | apply Kd.R_alloc | apply Kd.R_drewN | apply Kd.R_drew)); exact HO_17.out) (Kd.S_typed (by (with_reducible repeat (first | apply Kd.S_alloc | apply Kd.S_drewN | apply Kd.S_drew)); exact HO_5.out)) (by decide) hg); have n1_ := Aside0.mk (hb); have n2_ := Aside0.mk (ho); clear HO_17; clear HB; clear HO_5; clear HO225; have HO_17 := n0_; have HB := n1_; have HO228 := n2_; clear n0_ n1_ n2_; clear ho hb hg hat))
                    go_roundg k2
                    case measure => have := HK1.out; have := HK2.out; omega
                    case rel => exact ⟨(y226), H', ⟨by have := HK1.out; have := HK2.out; omega⟩, ⟨by (with_reducible repeat (first | apply Kd.S_alloc | apply Kd.S_drewN | apply Kd.S_drew)); exact HO228.out⟩, ⟨by (with_reducible repeat (first | apply Kd.R_alloc | apply Kd.R_drewN | apply Kd.R_drew)); exact Kd.R_mono HO_17.out (fun _ hk => trivial)⟩, ⟨by repeat (first | (with_reducible first | exact HB.out | apply below_alloc | apply pw_below_drewN | apply below_drew1) | exact HB.out)⟩⟩
                  · rw [if_neg c11] at H
                    exact absurd H (by simp)
                · rw [if_neg c10] at H
                  have c10b0 : decide ((x5_2.length : Int) ≤ (rd t219 x19_1)) = false := decide_eq_false c10
                  clear c10
                  by_cases c17 : 0 ≤ (rd t219 x19_1)
                  · rw [if_pos c17] at H
                    have c17b0 : decide (0 ≤ (rd t219 x19_1)) = true := decide_eq_true c17
                    clear c17
                    by_cases c18 : (rd t219 x19_1) < (x5_2.length : Int)
                    · rw [if_pos c18] at H
                      have c18b0 : decide ((rd t219 x19_1) < (x5_2.length : Int)) = true := decide_eq_true c18
                      clear c18
                      by_cases c19 : (rd_L1 x5_2 (rd t219 x19_1)).length < 17592186044416
                      · rw [if_pos c19] at H
                        have LMc19 := Aside0.mk c19
                        clear c19
                        obtain ⟨y230, hy230⟩ : ∃ y_ : List Int, y_ = ((rd_L1 x5_2 (rd t219 x19_1)) ++ [x19_1]) := ⟨_, rfl⟩
                        replace H : (impl_StagesOf0.l0 k2 (x5_2.set ((rd t219 x19_1) : Int).toNat y230) t219 (t219.length : Int) (wrap64 (x19_1 + 1))) = some r := by first | (rw [hy230]; with_reducible exact H) | (have H2_ := (Option.bind_some _ _).symm.trans H; rw [hy230]; with_reducible exact H2_) | (have H2_ := (Option.bind_some _ _).symm.trans H; with_reducible exact H2_) | with_reducible exact H | (rw [hy230]; exact H) | exact H
                        have Ny230 := Aside0.mk hy230
                        clear hy230
                        obtain ⟨y233, hy233⟩ : ∃ y_ : List (List Int), y_ = (x5_2.set ((rd t219 x19_1) : Int).toNat y230) := ⟨_, rfl⟩
                        replace H : (impl_StagesOf0.l0 k2 y233 t219 (t219.length : Int) (wrap64 (x19_1 + 1))) = some r := by first | (rw [hy233]; with_reducible exact H) | (have H2_ := (Option.bind_some _ _).symm.trans H; rw [hy233]; with_reducible exact H2_) | (have H2_ := (Option.bind_some _ _).symm.trans H; with_reducible exact H2_) | with_reducible exact H | (rw [hy233]; exact H) | exact H
                        have Ny233 := Aside0.mk hy233
                        clear hy233
                        have H' := Aside0.mk H
                        clear H
                        obtain ⟨Ao21, co21, eo21⟩ := Kd.S_slice HO_5.out
                        subst eo21
                        have p229 : 0 ≤ ((rd t219 x19_1) : Int) := of_decide_eq_true (by first | (with_reducible assumption) | assumption)
                        have q229 : (rd t219 x19_1) < (x5_2.length : Int) := of_decide_eq_true (by first | (with_reducible assumption) | assumption)
                        obtain ⟨ad229, A229_0, c229_0, e229, hx229_0, hl229_0, hi229_0⟩ := at_L1 (Kd.S_reads' HO_5.out).2.2 (rd t219 x19_1) p229 q229
                        cases e229
                        obtain ⟨ce229, hce229, hMe229, hcc229⟩ := Kd.S_get HO_5.out [] (rd t219 x19_1) p229 (by first | exact q229 | exact of_decide_eq_true (by first | (with_reducible assumption) | assumption) | (have e_ := (Kd.S_reads' HO_5.out).1; omega))
                        obtain ⟨ve229_0, rfl, ge229_0⟩ := hMe229
                        have hv229_0 := hcc229 0 _ rfl
                        rw [Nat.add_zero, show ((Kd.slice 3 (Kd.int .i64))).sz = 1 from rfl, Nat.mul_one] at hv229_0
                        replace hv229_0 := Option.some.inj (hv229_0.symm.trans hx229_0)
                        rw [hv229_0] at ge229_0
                        have HL229_0 := Aside0.mk (show Kd.R (Kd.int .i64) 3 _ _ _ _ (rd_L1 x5_2 (rd t219 x19_1)) from ge229_0)
                        clear hv229_0 ge229_0
                        have HX229_0 := Aside0.mk hx229_0
                        clear hcc229 hce229
                        have HR229_0 := Aside0.mk hi229_0
                        have HC229_0 := Aside0.mk hl229_0
                        clear hi229_0 hl229_0
                        replace p229 := eq_true p229
                        replace q229 := eq_true q229
                        obtain ⟨go22, co22, eo22, gb22, gl22, cl22, HG22⟩ := Kd.S_form HO_5.out (by have h_ : ((rd t219 x19_1) : Int) < ((x5_2.length : Int) : Int) := of_decide_eq_true (by first | (with_reducible assumption) | assumption); have h2_ : 0 ≤ ((rd t219 x19_1) : Int) := (of_decide_eq_true (by first | (with_reducible assumption) | assumption)); omega)
                        (first | cases eo22 | (injection eo22 with ea_ en_ ec_; (first | subst ea_ | (injection ea_ with ea_; subst ea_)); subst ec_; clear en_))
                        have GB22 := Aside0.mk gb22
                        have GG22 := Aside0.mk HG22
                        clear gb22 gl22 HG22
                        (first | simp only [add_plain] at hx229_0 | skip)
                        obtain ⟨oki22, ce22, hcl22, hM22, hcc22, _, _, hH22⟩ := Kd.S_elem HO_5.out [] ((rd t219 x19_1) : Int) (of_decide_eq_true (by first | (with_reducible assumption) | assumption)) (by have h_ : ((rd t219 x19_1) : Int) < ((x5_2.length : Int) : Int) := of_decide_eq_true (by first | (with_reducible assumption) | assumption); first | exact h_ | (have e_ := (Kd.S_reads' HO_5.out).1; omega) | simpa using h_)
                        obtain ⟨ve22_0, rfl, ge22_0⟩ := hM22
                        have hv22 := hcc22 0 _ rfl
                        have hX22 := HX229_0.out
                        (try simp only [add_plain] at hX22)
                        (try simp only [Nat.add_zero] at hv22)
                        (try rw [show ((Kd.slice 3 (Kd.int .i64))).sz = 1 from rfl, Nat.mul_one] at hv22)
                        replace hv22 := Option.some.inj (hv22.symm.trans hX22)
                        subst hv22
                        clear hX22 hcc22 hcl22
                        have UU22 := Aside0.mk (show Kd.R (Kd.int .i64) 3 _ w.heap.size oki22 (.slice A229_0 (rd_L1 x5_2 (rd t219 x19_1)).length c229_0) (rd_L1 x5_2 (rd t219 x19_1)) from ge22_0)
                        have HH22 := Aside0.mk hH22
                        have HN22 := Aside0.mk (Kd.S_reads' HO_5.out).1
                        clear hH22 ge22_0
                        go_wp2_with (first | ((with_reducible refine gate_builtin (b := .append) (xs := #[.tmp 37, .tmp 39]) rfl ?_); at_builtin; refine Kd.R_append (Kd.int .i64) (w0 := w) w.heap.size rfl (.tmp 37) (.tmp 39) 31 3 (.int .i64 0) 8 rfl Tryd.underlying31 info3 rfl (by decide) (by omega) (.slice A229_0 (rd_L1 x5_2 (rd t219 x19_1)).length c229_0) (rd_L1 x5_2 (rd t219 x19_1)) x19_1 [.int .i64 x19_1] (fun k_ => oki22 k_ ∨ ((fun k_ => some k_ ≠ (.slice (some ad222) t219.length co6 : Value).ownBlock)) k_ ∧ wr.heap.size ≤ k_) (fun _ => False) rfl rfl ?aP (fun _ hk => hk.elim) ?aF ?aO ?aB ?aS ?aL ?_; (case aP => exact rfl); (case aB => exact (by repeat (first | (with_reducible first | exact HB.out | apply below_alloc | apply pw_below_drewN | apply below_drew1) | exact HB.out))); (case aF => exact (fun k_ hk => .inr ⟨Kd.fresh' (Kd.R_lt (by (with_reducible repeat (first | apply Kd.Q_alloc | apply Kd.Q_drewN | apply Kd.Q_drew)); exact HO_17.out)) k_ hk, hk⟩)); (case aO => exact (by (with_reducible repeat (first | apply Kd.Q_alloc | apply Kd.Q_drewN | apply Kd.Q_drew)); exact Kd.R_mono UU22.out (fun _ hk => .inl hk))); (case aS => exact (below_size (by repeat (first | (with_reducible first | exact HB.out | apply below_alloc | apply pw_below_drewN | apply below_drew1) | exact HB.out)))); (case aL => have := LMc19.out; omega); intro v231 w23 ho hb hg hat; rw [← Ny230.out] at ho; have n0_ := Aside0.mk (Kd.R_grown2 (by (with_reducible repeat (first | apply Kd.Q_alloc | apply Kd.Q_drewN | apply Kd.Q_drew)); exact HO_17.out) rfl hg (fun k_ e_ => (HL229_0.out.1 k_ e_).1)); have n1_ := Aside0.mk (hb); have n2_ := Aside0.mk (Kd.H_grown (Kd.H_widen (by repeat (first | exact HH22.out | refine Kd.H_alloc ?_ _ | refine Kd.H_drewN ?_ _ | refine Kd.H_drew ?_))) hg (fun k_ e_ => .inl (UU22.out.1 k_ e_))); have n3_ := Aside0.mk (ho); clear HO_17; clear HB; clear HH22; clear HO_5; clear UU22; clear HL229_0; have HO_17 := n0_; have HB := n1_; have HH22 := n2_; have HO232 := n3_; clear n0_ n1_ n2_ n3_; clear ho hb hg hat; have p20 : 0 ≤ ((rd t219 x19_1) : Int) := of_decide_eq_true (by first | (with_reducible assumption) | assumption); have q20 : ((rd t219 x19_1) : Int) < ((x5_2.length : Int) : Int) := of_decide_eq_true (by first | (with_reducible assumption) | assumption); replace p20 := eq_true p20; replace q20 := eq_true q20; obtain ⟨Ao26, co26, eo26⟩ := Kd.R_slice HO232.out; subst eo26; obtain ⟨_, _, hraw24, _, _, hcc24, _⟩ := Kd.H_raw HH22.out (of_decide_eq_true (by first | (with_reducible assumption) | assumption)) (by have h_ : ((rd t219 x19_1) : Int) < ((x5_2.length : Int) : Int) := of_decide_eq_true (by first | (with_reducible assumption) | assumption); first | exact h_ | (have e_ := (HN22.out); omega) | simpa using h_); obtain ⟨_, hfr24⟩ := Kd.H_at HH22.out (of_decide_eq_true (by first | (with_reducible assumption) | assumption)) (by have h_ : ((rd t219 x19_1) : Int) < ((x5_2.length : Int) : Int) := of_decide_eq_true (by first | (with_reducible assumption) | assumption); first | exact h_ | (have e_ := (HN22.out); omega) | simpa using h_); have hx24_0 := hcc24 0 _ rfl; have hf24_0 := hfr24 0; (try simp only [Nat.add_zero] at hx24_0 hf24_0); (try rw [show ((Kd.slice 3 (Kd.int .i64))).sz = 1 from rfl, Nat.mul_one] at hx24_0); (try rw [show ((Kd.slice 3 (Kd.int .i64))).sz = 1 from rfl, Nat.mul_one] at hf24_0); have HP24 := Kd.S_seg0 HH22.out (of_decide_eq_true (by first | (with_reducible assumption) | assumption)) (by have h_ : ((rd t219 x19_1) : Int) < ((x5_2.length : Int) : Int) := of_decide_eq_true (by first | (with_reducible assumption) | assumption); first | exact h_ | (have e_ := (HN22.out); omega) | simpa using h_) (seg := [.slice Ao26 y230.length co26]) (j := 0) (show 1 ≤ 1 from by decide) (x' := y230) (Kd.M_row HO232.out) (fun _ hk => hk); (try simp only [show ((Kd.slice 3 (Kd.int .i64))).sz = 1 from rfl, Nat.mul_one, Nat.add_zero] at HP24); clear hcc24 hfr24) | ((with_reducible refine gate_store (t := 31) (p := 41) rfl ?_); refine store_event (t := 31) (p := 41) (v := ?vo_w25) (w1 := (w23.setCell ⟨go22, ((rd t219 x19_1) : Int).toNat, none⟩ (.slice Ao26 y230.length co26))) ?hg ?ho ?hn ?hr ?_; (case ho => rfl); (case hg => rfl); (case hn => rfl); (case hr => first | (go_simp; done) | (go_simp; rfl)); intro w25 hw; have hg : w23.grownBy w25 (some go22) := (by rw [hw]; exact HP24.2); have hp_ : Kd.S (Kd.slice 3 (Kd.int .i64)) 31 w25 w.heap.size (fun k_ => some k_ ≠ (.slice (some ad222) t219.length co6 : Value).ownBlock) (.slice (some ⟨go22, 0, none⟩) x5_2.length co21) y233 := (by rw [hw, Ny233.out]; exact HP24.1); clear HP24; have n0_ := Aside0.mk (Kd.R_over' (v := (.slice (some ⟨go22, 0, none⟩) x5_2.length co21)) (by (with_reducible repeat (first | apply Kd.Q_alloc | apply Kd.Q_drewN | apply Kd.Q_drew)); exact HO_17.out) (Kd.R_typed hraw24) (by decide) hg); have n1_ := Aside0.mk ((by rw [hw]; exact below_set HB.out GB22.out : Below w.heap.size w w25)); have n2_ := Aside0.mk (hp_); clear HO_17; clear HB; clear HO232; clear HH22; have HO_17 := n0_; have HB := n1_; have HO_5 := n2_; clear n0_ n1_ n2_; clear hg hw hp_ hraw24))
                        go_roundg k2
                        case measure => have := HK1.out; have := HK2.out; omega
                        case rel => exact ⟨(y233), (wrap64 (x19_1 + 1)), (by first | rfl | (simp; done) | (simp [*]; done)), H', ⟨by have := HK1.out; have := HK2.out; omega⟩, ⟨by (with_reducible repeat (first | apply Kd.S_alloc | apply Kd.S_drewN | apply Kd.S_drew)); exact HO_5.out⟩, ⟨by (with_reducible repeat (first | apply Kd.R_alloc | apply Kd.R_drewN | apply Kd.R_drew)); exact HO_17.out⟩, ⟨by repeat (first | (with_reducible first | exact HB.out | apply below_alloc | apply pw_below_drewN | apply below_drew1) | exact HB.out)⟩⟩
                      · rw [if_neg c19] at H
                        exact absurd H (by simp)
                    · rw [if_neg c18] at H
                      exact absurd H (by simp)
                  · rw [if_neg c17] at H
                    exact absurd H (by simp)
          · rw [if_neg c9] at H
            exact absurd H (by simp)
        · rw [if_neg c8] at H
          exact absurd H (by simp)
      · rw [if_neg c7] at H
        have c7b0 : decide (x19_1 < (t219.length : Int)) = false := decide_eq_false c7
        clear c7
        obtain rfl := Option.some.inj H
        go_wp2
        go_ret
        exact ⟨_, by first | rfl | (simp [errW_none, errW_some] <;> rfl) | (simp [*, errW_none, errW_some] <;> rfl), by (with_reducible repeat (first | apply Kd.S_alloc | apply Kd.S_drewN | apply Kd.S_drew)); exact Kd.S_mono HO_5.out (fun _ hk => trivial), by repeat (first | (with_reducible first | exact HB.out | apply below_alloc | apply pw_below_drewN | apply below_drew1) | exact HB.out)⟩
end Go.Proofs.YtffhdofcfkgoaaaDoor.P
end
section
set_option linter.unusedVariables false
set_option linter.unusedSimpArgs false
namespace Go.Proofs.YtffhdofcfkgoaaaDoor.Core
open Go Go.RowKit Go.Proofs.YtffhdofcfkgoaaaDoorW.PrintWords Go.Proofs.YtffhdofcfkgoaaaDoorW.PrintMore Go.Proofs.YtffhdofcfkgoaaaDoor.P
/-- A task put to its stage. -/
def putS (out : List (List Int)) (i s : Nat) : List (List Int) :=
  (out ++ List.replicate (s + 1 - out.length) []).set s ((out ++ List.replicate (s + 1 - out.length) []).getD s [] ++ [(i : Int)])
def soGo : List Nat → Nat → List (List Int) → List (List Int)
  | [], _, out => out
  | s :: r, i, out => soGo r (i + 1) (putS out i s)
def stagesOfD (g : List Tk) : List (List Int) := match graphD g with
  | none => []
  | some G => soGo (stagesN G) 0 []
/-- Few and short. -/
def fewS (b : Nat) (out : List (List Int)) : Prop := out.length ≤ 1000 ∧ ∀ x ∈ out, x.length ≤ b
theorem fewS_pad {b : Nat} {out : List (List Int)} (h : fewS b out) {s : Nat} (hs : s < 1000) : fewS b (out ++ List.replicate (s + 1 - out.length) []) := by
  refine ⟨by rw [List.length_append, List.length_replicate]; have := h.1; omega, fun x hx => ?_⟩
  rcases List.mem_append.1 hx with hx | hx
  · exact h.2 x hx
  · rw [(List.mem_replicate.1 hx).2]; simp
theorem fewS_get {b : Nat} {out : List (List Int)} (h : fewS b out) (s : Nat) : (out.getD s []).length ≤ b := by
  rw [List.getD_eq_getElem?_getD]
  cases e : out[s]? with
  | none => simp
  | some x => exact h.2 x (List.mem_of_getElem? e)
theorem fewS_put {b : Nat} {out : List (List Int)} (h : fewS b out) (i : Nat) {s : Nat} (hs : s < 1000) : fewS (b + 1) (putS out i s) := by
  have hp := fewS_pad h hs
  refine ⟨by unfold putS; rw [List.length_set]; exact hp.1, fun x hx => ?_⟩
  unfold putS at hx
  rcases List.mem_or_eq_of_mem_set hx with hx | hx
  · exact Nat.le_succ_of_le (hp.2 x hx)
  · rw [hx, List.length_append]
    have := fewS_get hp s
    simp only [List.length_singleton]
    omega
theorem ev_so1 {S : List Nat} {i s : Nat} (hs : s < 1000) {R : List (List Int)} : ∀ (d : Nat) (out : List (List Int)), s + 1 - out.length = d → fewS 1000 out →
    Ev (fun k => impl_StagesOf0.l0 k (putS out i s) (up S) ((up S).length : Int) (wrap64 ((i : Int) + 1))) R → Ev (fun k => impl_StagesOf0.l1 k out (i : Int) (s : Int) (up S) ((up S).length : Int) (i : Int)) R
  | 0, out, hd, hf, h => by
    have hl := hf.1
    have e : putS out i s = out.set s (out.getD s [] ++ [(i : Int)]) := by unfold putS; rw [hd, List.replicate_zero, List.append_nil]
    rw [e] at h
    refine Ev.succ (h.of fun k => ?_)
    have hg := fewS_get hf s
    have hrd : rd_L1 out (s : Int) = out.getD s [] := by simp [rd_L1]
    rw [impl_StagesOf0.l1, if_neg (by omega), if_pos (by omega), if_pos (by omega), hrd, if_pos (by omega), Int.toNat_natCast]
  | d + 1, out, hd, hf, h => by
    have hl := hf.1
    have e : putS (out ++ [[]]) i s = putS out i s := by
      unfold putS
      have : out ++ [[]] ++ List.replicate (s + 1 - (out ++ [([] : List Int)]).length) [] = out ++ List.replicate (s + 1 - out.length) [] := by
        rw [List.append_assoc, List.length_append, List.length_singleton, hd, show s + 1 - (out.length + 1) = d by omega, List.replicate_succ]
        rfl
      rw [this]
    have hf2 : fewS 1000 (out ++ [[]]) := ⟨by rw [List.length_append, List.length_singleton]; omega, fun x hx => by
      rcases List.mem_append.1 hx with hx | hx
      · exact hf.2 x hx
      · rw [List.mem_singleton.1 hx]; simp⟩
    have := ev_so1 (S := S) (i := i) hs (R := R) d (out ++ [[]]) (by rw [List.length_append, List.length_singleton]; omega) hf2 (by rw [e]; exact h)
    refine Ev.succ (this.of fun k => ?_)
    rw [impl_StagesOf0.l1, if_pos (by omega), if_pos (by omega)]
theorem ev_so (S : List Nat) (hS : S.length ≤ 900) (hs : ∀ x ∈ S, x < 1000) : ∀ (r pre : List Nat) (out : List (List Int)), S = pre ++ r → fewS pre.length out → Ev (fun k => impl_StagesOf0.l0 k out (up S) ((up S).length : Int) (pre.length : Int)) (soGo r pre.length out)
  | [], pre, out, hp, hf => by
    rw [List.append_nil] at hp
    refine Ev.succ ((Ev.const _).of fun k => ?_)
    rw [impl_StagesOf0.l0, if_neg (by rw [up_length, hp]; omega)]
    rfl
  | s :: r, pre, out, hp, hf => by
    have hl : S.length = pre.length + (r.length + 1) := by rw [hp]; simp
    have hsx := hs s (by rw [hp]; simp)
    have hrd : rd (up S) (pre.length : Int) = (s : Int) := by rw [rd_up (i := pre.length) rfl, hp]; simp
    have hput := fewS_put hf pre.length hsx
    have ih := ev_so S hS hs r (pre ++ [s]) (putS out pre.length s) (by rw [hp]; simp) (by rw [List.length_append, List.length_singleton]; exact hput)
    rw [List.length_append, List.length_singleton] at ih
    have h1 := ev_so1 (S := S) (i := pre.length) hsx (R := soGo r (pre.length + 1) (putS out pre.length s)) _ out rfl ⟨hf.1, fun x hx => by have := hf.2 x hx; omega⟩ (by rw [w64 (by omega) (by omega)]; exact_mod_cast ih)
    refine Ev.succ (h1.of fun k => ?_)
    rw [impl_StagesOf0.l0, if_pos (by rw [up_length]; omega), if_pos (by omega), if_pos (by rw [up_length]; omega), hrd]
theorem stagesN_few (G : GD) (ok : GOk G) : (stagesN G).length ≤ 8 ∧ ∀ x ∈ stagesN G, x ≤ 64 := by
  have h8 := ok.n8
  have ho := ok.ol
  refine ⟨by unfold stagesN; rw [stTo_length]; exact h8, fun x hx => ?_⟩
  obtain ⟨i, hi, e⟩ := List.mem_iff_getElem.1 hx
  have := stTo_le G.needs G.tasks.length G.order i
  rw [List.getD_eq_getElem?_getD, show (stTo G.needs G.tasks.length G.order)[i]? = some x from by rw [← e]; exact List.getElem?_eq_getElem hi] at this
  simp only [Option.getD_some] at this
  omega
end Go.Proofs.YtffhdofcfkgoaaaDoor.Core
namespace Go.Proofs.YtffhdofcfkgoaaaDoor.P
open Go Go.RowKit Go.Shelf Go.Proofs.YtffhdofcfkgoaaaDoorW.PrintWords Go.Proofs.YtffhdofcfkgoaaaDoorW.PrintLast Go.Proofs.YtffhdofcfkgoaaaDoorW.PrintMore Go.Proofs.YtffhdofcfkgoaaaDoor.Core
attribute [local go_sem] Oper.semAt_some wide_fn wide_depth
def impl_StagesOf.f (l0 : List S33) : Option (List (List Int)) := some (stagesOfD l0)
set_option maxRecDepth 100000 in
set_option maxHeartbeats 4000000 in
theorem impl_StagesOf.calls (A0 : Option Addr) (c0 : Nat) (l0 : List S33) (r : List (List Int)) (w : World) (hr0 : Kd.C k33 w A0 l0.length l0) (hc0 : l0.length ≤ c0) (hT : Tab w) (h : impl_StagesOf.f l0 = some r) :
    Calls Tryd.prog 40 #[.slice A0 l0.length c0] w fun e w' => ∃ v0_ : Value, e = .returned (v0_) ∧ Kd.S (Kd.slice 3 (Kd.int .i64)) 31 w' w.heap.size (fun _ => True) v0_ r ∧ Below w.heap.size w w' := by
  have hr : r = stagesOfD l0 := (Option.some.inj h).symm
  subst hr
  clear h
  cases hg : graphD l0 with
  | none =>
    have hcd : stagesOfD l0 = [] := by unfold stagesOfD; rw [hg]
    rw [hcd]
    have HG := Aside0.mk (graphOf_none A0 c0 l0 w hT hr0 hc0 hg)
    clear hr0 hT hg hcd
    go_enter Tryd.func40, Tryd.ntmps40
    go_wp2_with (go_at_call 47; refine HG.out.mono ?_; rintro e w' ⟨rfl, hB⟩)
    go_ret
    exact ⟨_, rfl, Kd.S_nil _ _ _ _ _, hB⟩
  | some G =>
    have hcd : stagesOfD l0 = soGo (stagesN G) 0 [] := by unfold stagesOfD; rw [hg]
    rw [hcd]
    obtain ⟨h1, h2⟩ := stagesN_few G (graphD_ok hg)
    obtain ⟨k, hk⟩ := ev_so (stagesN G) (by omega) (fun x hx => by have := h2 x hx; omega) (stagesN G) [] [] rfl ⟨by simp, by simp⟩
    refine impl_StagesOf0.calls k A0 c0 l0 _ w hr0 hc0 G hT hg ?_
    have := hk k (Nat.le_refl _)
    unfold impl_StagesOf0.f impl_stages.f
    rw [hg]
    exact this
end Go.Proofs.YtffhdofcfkgoaaaDoor.P
end
section
set_option linter.unusedVariables false
set_option linter.unusedSimpArgs false
namespace Go.Proofs.YtffhdofcfkgoaaaDoor.Core
open Go Go.RowKit Go.Proofs.YtffhdofcfkgoaaaDoorW.PrintWords Go.Proofs.YtffhdofcfkgoaaaDoorW.PrintMore Go.Proofs.YtffhdofcfkgoaaaDoor.P
def chainN (N L : List Nat) : Prop := ∀ pre x y suf, L = pre ++ x :: y :: suf → (N.getD y 0).testBit x = true
theorem only_one {l : List Nat} {a : Nat} (hn : l.Nodup) (h : ∀ x ∈ l, x = a) (ha : a ∈ l) : l = [a] := by
  match l, hn, h, ha with
  | [x], _, h, _ => rw [h x List.mem_cons_self]
  | x :: y :: t, hn, h, _ =>
    have e1 := h x (by simp)
    have e2 := h y (by simp)
    rw [List.nodup_cons] at hn
    exact absurd (by rw [e1, e2]; simp) hn.1
theorem two_sum {f : Nat → Nat} : ∀ {l : List Nat} {x y : Nat}, x ∈ l → y ∈ l → x ≠ y → f x + f y ≤ (l.map f).sum
  | z :: l, x, y, hx, hy, hne => by
    rw [List.map_cons, List.sum_cons]
    by_cases h1 : x = z
    · rw [h1] at hne ⊢
      have h2 : y ∈ l := (List.mem_cons.1 hy).resolve_left (fun e => hne e.symm)
      have := mem_sum (f := f) h2
      omega
    · have h1' : x ∈ l := (List.mem_cons.1 hx).resolve_left h1
      by_cases h2 : y = z
      · rw [h2]
        have := mem_sum (f := f) h1'
        omega
      · have := two_sum (f := f) h1' ((List.mem_cons.1 hy).resolve_left h2) hne
        omega
theorem VG.len {g : List Tk} {G : GD} (v : VG g G) : G.order.length = g.length := by
  have := v.ord.len
  rw [v.nl, zb_full _ _ (Nat.le_refl _)] at this
  omega
theorem VG.ready_nodup {g : List Tk} {G : GD} (v : VG g G) (p : Nat) : (elemsN (G.ready p)).Nodup := by
  rw [elemsN_ready v.needs_len]
  exact List.nodup_range.sublist List.filter_sublist
theorem VG.bit_lt {g : List Tk} {G : GD} (v : VG g G) {p : Nat} {pre suf : List Nat} (ho : G.order = pre ++ suf) (hb : ∀ i, p.testBit i = true ↔ i ∈ pre) : p < 2 ^ g.length := by
  refine Nat.lt_pow_two_of_testBit p fun i hi => ?_
  cases h : p.testBit i with
  | false => rfl
  | true =>
    have := v.mem.1 (show i ∈ G.order by rw [ho]; exact List.mem_append_left _ ((hb i).1 h))
    omega
theorem VG.sub_iff {g : List Tk} {G : GD} (v : VG g G) {p i : Nat} (hp : p < 2 ^ g.length) : sub (G.needs.getD i 0) p = 0 ↔ ∀ j, (G.needs.getD i 0).testBit j = true → p.testBit j = true := by
  have h256 : 2 ^ g.length ≤ 256 := pow8 v.n8
  have := getD_lt v.nb i
  exact sub_zero (by omega) (by omega)
theorem VG.first_ready {g : List Tk} {G : GD} (v : VG g G) {p a : Nat} {pre s : List Nat} (ho : G.order = pre ++ a :: s) (hb : ∀ i, p.testBit i = true ↔ i ∈ pre) : a ∈ elemsN (G.ready p) := by
  have hp := v.bit_lt ho hb
  refine v.mem_ready.2 ⟨v.mem.1 (by rw [ho]; simp), ?_, (v.sub_iff hp).2 fun k hk => (hb k).2 (v.ord.needs pre a s ho k hk)⟩
  cases h : p.testBit a with
  | false => rfl
  | true =>
    have hn := v.ord.nodup
    rw [ho, List.nodup_append] at hn
    exact absurd rfl (hn.2.2 a ((hb a).1 h) a List.mem_cons_self)
theorem VG.not_full {g : List Tk} {G : GD} (v : VG g G) {p a : Nat} {pre s : List Nat} (ho : G.order = pre ++ a :: s) (hb : ∀ i, p.testBit i = true ↔ i ∈ pre) : p ≠ 2 ^ g.length - 1 := by
  intro he
  have h := (v.mem_ready.1 (v.first_ready ho hb)).2.1
  have h2 := v.mem.1 (show a ∈ G.order by rw [ho]; simp)
  rw [he, Nat.testBit_two_pow_sub_one] at h
  simp at h
  omega
theorem bits_snoc {p a : Nat} {pre : List Nat} (hb : ∀ i, p.testBit i = true ↔ i ∈ pre) : ∀ i, (p ||| 2 ^ a).testBit i = true ↔ i ∈ pre ++ [a] := by
  intro i
  rw [or_bit, Bool.or_eq_true, hb, List.mem_append, List.mem_singleton, decide_eq_true_eq, eq_comm]
/-- A chain has one order. -/
theorem VG.chain_one {g : List Tk} {G : GD} (v : VG g G) (hc : chainN G.needs G.order) : ∀ (suf pre : List Nat) (p k : Nat), G.order = pre ++ suf → (∀ i, p.testBit i = true ↔ i ∈ pre) → suf.length < k → ordersF G k p = 1
  | [], pre, p, k + 1, ho, hb, _ => by
    rw [List.append_nil] at ho
    have hp : p = 2 ^ g.length - 1 := full_of_bits (v.bit_lt (suf := []) (by rw [ho]; simp) hb) fun i hi => (hb i).2 (by rw [← ho]; exact v.mem.2 hi)
    unfold ordersF
    rw [v.tasks, if_pos hp]
  | a :: s, pre, p, k + 1, ho, hb, hk => by
    have hp := v.bit_lt ho hb
    have hr := v.first_ready ho hb
    have hn := v.ord.nodup
    have he : elemsN (G.ready p) = [a] := by
      refine only_one (v.ready_nodup p) (fun x hx => ?_) hr
      obtain ⟨h1, h2, h3⟩ := v.mem_ready.1 hx
      have hm := v.mem.2 h1
      rw [ho] at hm
      rcases List.mem_append.1 hm with hm | hm
      · rw [(hb x).2 hm] at h2; cases h2
      · rcases List.mem_cons.1 hm with hm | hm
        · exact hm
        · exfalso
          obtain ⟨s1, s2, rfl⟩ := List.append_of_mem hm
          obtain ⟨t, z, hz⟩ : ∃ t z, a :: s1 = t ++ [z] := ⟨(a :: s1).dropLast, (a :: s1).getLast (by simp), (List.dropLast_concat_getLast (by simp)).symm⟩
          have ho2 : G.order = (pre ++ t) ++ z :: x :: s2 := by
            rw [ho, show a :: (s1 ++ x :: s2) = (a :: s1) ++ x :: s2 from rfl, hz]; simp
          have hl := (hb z).1 ((v.sub_iff hp).1 h3 z (hc _ _ _ _ ho2))
          rw [ho2, List.append_assoc, List.nodup_append] at hn
          exact hn.2.2 z hl z (by simp) rfl
    unfold ordersF
    rw [v.tasks, if_neg (v.not_full ho hb), he]
    simp only [List.map_cons, List.map_nil, List.sum_cons, List.sum_nil, Nat.add_zero]
    exact v.chain_one hc s (pre ++ [a]) _ k (by rw [ho]; simp) (bits_snoc hb) (by simp at hk; omega)
  | _ :: _, _, _, 0, _, _, h => by omega
  | [], _, _, 0, _, _, h => by omega
/-- Where there is one order, there is one on the way. -/
theorem VG.one_on {g : List Tk} {G : GD} (v : VG g G) (h1 : ordersF G 9 0 = 1) : ∀ (j : Nat) (pre suf : List Nat), pre.length = j → G.order = pre ++ suf → ∃ p k, (∀ i, p.testBit i = true ↔ i ∈ pre) ∧ suf.length < k ∧ zb g.length p < k ∧ ordersF G k p = 1
  | 0, pre, suf, hl, ho => by
    have : pre = [] := List.length_eq_zero_iff.1 hl
    subst this
    have hlen := v.len
    have := v.n8
    rw [ho, List.nil_append] at hlen
    exact ⟨0, 9, by simp, by omega, by rw [zb_zero]; omega, h1⟩
  | j + 1, pre, suf, hl, ho => by
    obtain ⟨pre0, a, rfl⟩ : ∃ t z, pre = t ++ [z] := by
      have hne : pre ≠ [] := by intro h; rw [h] at hl; simp at hl
      exact ⟨pre.dropLast, pre.getLast hne, (List.dropLast_concat_getLast hne).symm⟩
    have ho' : G.order = pre0 ++ a :: suf := by rw [ho]; simp
    obtain ⟨p, k, hb, hk, hz, hone⟩ := v.one_on h1 j pre0 (a :: suf) (by simp at hl; omega) ho'
    have hp := v.bit_lt ho' hb
    have hr := v.first_ready ho' hb
    obtain ⟨r1, r2, r3⟩ := v.mem_ready.1 hr
    have hzs := zb_step r2 r1
    cases k with
    | zero => omega
    | succ k =>
      unfold ordersF at hone
      rw [v.tasks, if_neg (v.not_full ho' hb)] at hone
      have hle := mem_sum (f := fun i => ordersF G k (p ||| 2 ^ i)) hr
      have hge := v.orders_pos k (p ||| 2 ^ a) (v.bit_lt (suf := suf) (by rw [ho]) (bits_snoc hb)) (by omega)
      refine ⟨p ||| 2 ^ a, k, bits_snoc hb, by simp at hk; omega, by omega, ?_⟩
      have hle2 : ordersF G k (p ||| 2 ^ a) ≤ 1 := Nat.le_trans hle (Nat.le_of_eq hone)
      omega
theorem VG.one_chain {g : List Tk} {G : GD} (v : VG g G) (h1 : ordersF G 9 0 = 1) : chainN G.needs G.order := by
  intro pre x y suf ho
  obtain ⟨p, k, hb, hk, hz, hone⟩ := v.one_on h1 pre.length pre (x :: y :: suf) rfl ho
  have hp := v.bit_lt ho hb
  have hn := v.ord.nodup
  refine Decidable.byContradiction fun hno => ?_
  have hx := v.first_ready ho hb
  have ho2 : G.order = (pre ++ [x]) ++ y :: suf := by rw [ho]; simp
  have hy : y ∈ elemsN (G.ready p) := by
    have hyl : y < g.length := v.mem.1 (by rw [ho]; simp)
    refine v.mem_ready.2 ⟨hyl, ?_, (v.sub_iff hp).2 fun k hk => ?_⟩
    · cases h : p.testBit y with
      | false => rfl
      | true =>
        rw [ho, List.nodup_append] at hn
        exact absurd rfl (hn.2.2 y ((hb y).1 h) y (by simp))
    · have := v.ord.needs _ y suf ho2 k hk
      rcases List.mem_append.1 this with h | h
      · exact (hb k).2 h
      · rw [List.mem_singleton.1 h] at hk
        exact absurd hk hno
  have hxy : x ≠ y := by
    intro e
    rw [ho, List.nodup_append] at hn
    have := hn.2.1
    rw [List.nodup_cons] at this
    exact this.1 (by rw [e]; simp)
  cases k with
  | zero => omega
  | succ k =>
    unfold ordersF at hone
    rw [v.tasks, if_neg (v.not_full ho hb)] at hone
    have h2 := two_sum (f := fun i => ordersF G k (p ||| 2 ^ i)) hx hy hxy
    have pos : ∀ i, i ∈ elemsN (G.ready p) → 1 ≤ ordersF G k (p ||| 2 ^ i) := by
      intro i hi
      obtain ⟨r1, r2, r3⟩ := v.mem_ready.1 hi
      have hzs := zb_step r2 r1
      exact v.orders_pos k (p ||| 2 ^ i) (Nat.or_lt_two_pow hp (Nat.pow_lt_pow_right (by omega) r1)) (by omega)
    have := pos x hx
    have := pos y hy
    have h2' : ordersF G k (p ||| 2 ^ x) + ordersF G k (p ||| 2 ^ y) ≤ 1 := Nat.le_trans h2 (Nat.le_of_eq hone)
    omega
theorem VG.chain_iff {g : List Tk} {G : GD} (v : VG g G) : ordersF G 9 0 = 1 ↔ chainN G.needs G.order :=
  ⟨v.one_chain, fun hc => v.chain_one hc G.order [] 0 9 rfl (by simp) (by have := v.len; have := v.n8; omega)⟩
end Go.Proofs.YtffhdofcfkgoaaaDoor.Core
end
section
set_option linter.unusedVariables false
set_option linter.unusedSimpArgs false
namespace Go.Proofs.YtffhdofcfkgoaaaDoor.Core
open Go Go.RowKit Go.Proofs.YtffhdofcfkgoaaaDoorW.PrintWords Go.Proofs.YtffhdofcfkgoaaaDoorW.PrintMore Go.Proofs.YtffhdofcfkgoaaaDoor.P
theorem fold_s (i : Nat) : ∀ (ks : List Nat) (B : List Nat), i < B.length → (∀ m ∈ ks, m ≠ i) →
    (∀ j, j ≠ i → (ks.foldl (sStep i) B).getD j 0 = B.getD j 0) ∧ (∀ m ∈ ks, B.getD m 0 + 1 ≤ (ks.foldl (sStep i) B).getD i 0) ∧ B.getD i 0 ≤ (ks.foldl (sStep i) B).getD i 0 ∧ ((ks.foldl (sStep i) B).getD i 0 = B.getD i 0 ∨ ∃ m ∈ ks, (ks.foldl (sStep i) B).getD i 0 = B.getD m 0 + 1)
  | [], B, hi, hk => ⟨fun _ _ => rfl, (fun _ h => by cases h), Nat.le_refl _, .inl rfl⟩
  | m :: ks, B, hi, hk => by
    have hm : m ≠ i := hk m List.mem_cons_self
    have hk' : ∀ x ∈ ks, x ≠ i := fun x hx => hk x (List.mem_cons_of_mem _ hx)
    obtain ⟨h1, h2, h3, h4⟩ := fold_s i ks (sStep i B m) (by unfold sStep; rw [List.length_set]; exact hi) hk'
    have e1 : ∀ j, j ≠ i → (sStep i B m).getD j 0 = B.getD j 0 := by
      intro j hj
      unfold sStep
      rw [List.getD_eq_getElem?_getD, List.getElem?_set_ne (Ne.symm hj), ← List.getD_eq_getElem?_getD]
    have e2 : (sStep i B m).getD i 0 = max (B.getD i 0) (B.getD m 0 + 1) := by
      unfold sStep
      rw [List.getD_eq_getElem?_getD, List.getElem?_set_self hi]
      rfl
    rw [List.foldl_cons]
    rw [e2] at h3 h4
    refine ⟨fun j hj => (h1 j hj).trans (e1 j hj), fun x hx => ?_, by omega, ?_⟩
    · rcases List.mem_cons.1 hx with rfl | hx
      · omega
      · have := h2 x hx
        rwa [e1 x (hk' x hx)] at this
    · rcases h4 with h4 | ⟨x, hx, h4⟩
      · by_cases hc : B.getD m 0 + 1 ≤ B.getD i 0
        · exact .inl (by omega)
        · exact .inr ⟨m, List.mem_cons_self, by omega⟩
      · rw [e1 x (hk' x hx)] at h4
        exact .inr ⟨x, List.mem_cons_of_mem _ hx, h4⟩
def SInv (N : List Nat) (n : Nat) (pre : List Nat) (B : List Nat) : Prop :=
  B.length = n ∧ (∀ i, i ∉ pre → B.getD i 0 = 0) ∧ ∀ i ∈ pre, (∀ m, (N.getD i 0).testBit m = true → B.getD m 0 + 1 ≤ B.getD i 0) ∧ (B.getD i 0 = 0 ∨ ∃ m, (N.getD i 0).testBit m = true ∧ B.getD i 0 = B.getD m 0 + 1)
theorem sinv_step {N L : List Nat} {n : Nat} (hn : n ≤ 8) (hnd : L.Nodup) (hlt : ∀ i ∈ L, i < n) (hnx : ∀ pre i suf, L = pre ++ i :: suf → ∀ k, (N.getD i 0).testBit k = true → k ∈ pre) :
    ∀ (pre suf : List Nat), L = pre ++ suf → SInv N n pre (stTo N n pre) := by
  have key : ∀ (c : Nat) (pre suf : List Nat), pre.length = c → L = pre ++ suf → SInv N n pre (stTo N n pre) := by
    intro c
    induction c with
    | zero =>
      intro pre suf hl hL
      have : pre = [] := List.length_eq_zero_iff.1 hl
      subst this
      refine ⟨stTo_length _ _ _, fun i _ => ?_, fun i hi => by cases hi⟩
      show (List.replicate n 0).getD i 0 = 0
      rw [List.getD_eq_getElem?_getD, List.getElem?_replicate]
      split <;> rfl
    | succ c ih =>
      intro pre suf hl hL
      obtain ⟨pre0, i, rfl⟩ : ∃ t z, pre = t ++ [z] := by
        have hne : pre ≠ [] := by intro h; rw [h] at hl; simp at hl
        exact ⟨pre.dropLast, pre.getLast hne, (List.dropLast_concat_getLast hne).symm⟩
      have hL' : L = pre0 ++ i :: suf := by rw [hL]; simp
      obtain ⟨hlen, h0, hI⟩ := ih pre0 (i :: suf) (by simp at hl; omega) hL'
      have hni : i ∉ pre0 := by
        intro hm
        rw [hL', List.nodup_append] at hnd
        exact hnd.2.2 i hm i List.mem_cons_self rfl
      have hil : i < n := hlt i (by rw [hL']; simp)
      have hneed := hnx pre0 i suf hL'
      have hel : ∀ m, m ∈ elemsN (N.getD i 0) ↔ (N.getD i 0).testBit m = true := by
        intro m
        rw [mem_elemsN]
        refine ⟨fun h => h.2, fun h => ⟨?_, h⟩⟩
        have := hlt m (by rw [hL']; exact List.mem_append_left _ (hneed m h))
        omega
      have hmi : ∀ m, (N.getD i 0).testBit m = true → m ≠ i := fun m hm e => hni (e ▸ hneed m hm)
      obtain ⟨f1, f2, f3, f4⟩ := fold_s i (elemsN (N.getD i 0)) (stTo N n pre0) (by rw [hlen]; exact hil) (fun m hm => hmi m ((hel m).1 hm))
      rw [stTo_snoc]
      refine ⟨by rw [sfold_length, hlen], fun j hj => ?_, fun j hj => ?_⟩
      · simp only [List.mem_append, List.mem_singleton, not_or] at hj
        exact (f1 j hj.2).trans (h0 j hj.1)
      · rcases List.mem_append.1 hj with hj | hj
        · have hji : j ≠ i := fun e => hni (e ▸ hj)
          have hjm : ∀ m, (N.getD j 0).testBit m = true → m ≠ i := by
            intro m hm e
            obtain ⟨a, b, hab⟩ := List.append_of_mem hj
            have := hnx a j (b ++ i :: suf) (by rw [hL', hab]; simp) m hm
            exact hni (by rw [← e, hab]; exact List.mem_append_left _ this)
          obtain ⟨g1, g2⟩ := hI j hj
          rw [f1 j hji]
          refine ⟨fun m hm => by rw [f1 m (hjm m hm)]; exact g1 m hm, g2.imp_right ?_⟩
          rintro ⟨m, hm, h⟩
          exact ⟨m, hm, by rw [f1 m (hjm m hm)]; exact h⟩
        · rw [List.mem_singleton.1 hj]
          rw [h0 i hni] at f4
          refine ⟨fun m hm => by rw [f1 m (hmi m hm)]; exact f2 m ((hel m).2 hm), f4.imp_right ?_⟩
          rintro ⟨m, hm, h⟩
          exact ⟨m, (hel m).1 hm, by rw [f1 m (hmi m ((hel m).1 hm))]; exact h⟩
  exact fun pre suf h => key pre.length pre suf rfl h
theorem VG.stage {g : List Tk} {G : GD} (v : VG g G) {i : Nat} (hi : i < g.length) : (∀ m, (G.needs.getD i 0).testBit m = true → (stagesN G).getD m 0 + 1 ≤ (stagesN G).getD i 0) ∧ ((stagesN G).getD i 0 = 0 ∨ ∃ m, (G.needs.getD i 0).testBit m = true ∧ (stagesN G).getD i 0 = (stagesN G).getD m 0 + 1) := by
  have h := sinv_step (N := G.needs) (L := G.order) v.n8 v.ord.nodup (fun i hi => v.mem.1 hi) v.ord.needs G.order [] (by simp)
  unfold stagesN
  rw [v.tasks]
  exact h.2.2 i (v.mem.2 hi)
end Go.Proofs.YtffhdofcfkgoaaaDoor.Core
end
section
set_option linter.unusedVariables false
set_option linter.unusedSimpArgs false
namespace Go.Proofs.YtffhdofcfkgoaaaDoor.Core
open Go Go.RowKit Go.Proofs.YtffhdofcfkgoaaaDoorW.PrintWords Go.Proofs.YtffhdofcfkgoaaaDoorW.PrintMore Go.Proofs.YtffhdofcfkgoaaaDoor.P
/-- How many stages the first n tasks have. -/
def mS (S : List Nat) : Nat → Nat
  | 0 => 0
  | n + 1 => max (mS S n) (S.getD n 0 + 1)
theorem mS_lt (S : List Nat) : ∀ {n i : Nat}, i < n → S.getD i 0 < mS S n
  | n + 1, i, h => by
    rw [mS]
    by_cases e : i = n
    · subst e; omega
    · have := mS_lt S (n := n) (i := i) (by omega); omega
theorem mS_at (S : List Nat) : ∀ {n : Nat}, 0 < mS S n → ∃ i, i < n ∧ mS S n = S.getD i 0 + 1
  | 0, h => by simp [mS] at h
  | n + 1, h => by
    rw [mS] at h ⊢
    by_cases hc : mS S n ≤ S.getD n 0 + 1
    · exact ⟨n, by omega, by omega⟩
    · obtain ⟨i, hi, e⟩ := mS_at S (n := n) (by omega)
      exact ⟨i, by omega, by omega⟩
theorem partN_none (S : List Nat) {n t : Nat} (h : mS S n ≤ t) : partN S t n = [] := by
  unfold partN
  rw [List.filter_eq_nil_iff]
  intro i hi
  have := mS_lt S (List.mem_range.1 hi)
  simp only [decide_eq_true_eq]
  omega
def rowsS (S : List Nat) (n m : Nat) : List (List Int) := (List.range m).map fun s => up (partN S s n)
theorem rowsS_pad (S : List Nat) (n d : Nat) : rowsS S n (mS S n) ++ List.replicate d [] = rowsS S n (mS S n + d) := by
  unfold rowsS
  rw [List.range_add, List.map_append, List.map_map]
  congr 1
  refine List.ext_getElem (by simp) fun i h1 h2 => ?_
  rw [List.getElem_replicate, List.getElem_map]
  simp only [Function.comp]
  rw [partN_none S (by omega)]
  rfl
theorem putS_rows (S : List Nat) (n : Nat) : putS (rowsS S n (mS S n)) n (S.getD n 0) = rowsS S (n + 1) (mS S (n + 1)) := by
  have hl : (rowsS S n (mS S n)).length = mS S n := by simp [rowsS]
  unfold putS
  rw [hl, rowsS_pad, show mS S n + (S.getD n 0 + 1 - mS S n) = mS S (n + 1) by rw [mS]; omega]
  have hs : S.getD n 0 < mS S (n + 1) := mS_lt S (by omega)
  refine List.ext_getElem (by simp [rowsS]) fun i h1 h2 => ?_
  have hi : i < mS S (n + 1) := by simpa [rowsS] using h2
  rw [List.getElem_set]
  by_cases e : S.getD n 0 = i
  · rw [if_pos e]
    have e2 : (rowsS S n (mS S (n + 1))).getD (S.getD n 0) [] = up (partN S (S.getD n 0) n) := by
      rw [List.getD_eq_getElem?_getD, List.getElem?_eq_getElem (by simp [rowsS]; exact hs)]
      simp [rowsS]
    rw [e2]
    have e3 : (rowsS S (n + 1) (mS S (n + 1)))[i] = up (partN S i (n + 1)) := by simp [rowsS]
    rw [e3, partN_succ, if_pos e, e]
    simp [up]
  · rw [if_neg e]
    have e3 : (rowsS S (n + 1) (mS S (n + 1)))[i] = up (partN S i (n + 1)) := by simp [rowsS]
    have e4 : (rowsS S n (mS S (n + 1)))[i]'(by simp [rowsS]; exact hi) = up (partN S i n) := by simp [rowsS]
    rw [e3, partN_succ, if_neg e]
    exact e4
theorem soGo_rows (S : List Nat) : ∀ (r pre : List Nat), S = pre ++ r → soGo r pre.length (rowsS S pre.length (mS S pre.length)) = rowsS S S.length (mS S S.length)
  | [], pre, h => by
    rw [List.append_nil] at h
    rw [soGo, h]
  | s :: r, pre, h => by
    have hs : S.getD pre.length 0 = s := by rw [h, List.getD_eq_getElem?_getD]; simp
    have ih := soGo_rows S r (pre ++ [s]) (by rw [h]; simp)
    rw [List.length_append, List.length_singleton] at ih
    rw [soGo, ← hs, putS_rows, ih]
theorem parts_rows (S : List Nat) (n : Nat) (hne : ∀ s, s < mS S n → partN S s n ≠ []) : ∀ s, partsTo S n s = rowsS S n (min s (mS S n))
  | 0 => by simp [partsTo, rowsS]
  | s + 1 => by
    have ih := parts_rows S n hne s
    unfold partsTo
    by_cases h : s < mS S n
    · rw [if_neg (hne s h), ih, show min s (mS S n) = s by omega, show min (s + 1) (mS S n) = s + 1 by omega]
      unfold rowsS
      rw [List.range_succ, List.map_append]
      rfl
    · rw [if_pos (partN_none S (by omega)), ih, show min s (mS S n) = mS S n by omega, show min (s + 1) (mS S n) = mS S n by omega]
/-- Each stage up to a task's has a task. -/
theorem VG.stage_down {g : List Tk} {G : GD} (v : VG g G) : ∀ (d i s : Nat), i < g.length → s + d = (stagesN G).getD i 0 → ∃ k, k < g.length ∧ (stagesN G).getD k 0 = s
  | 0, i, s, hi, h => ⟨i, hi, by omega⟩
  | d + 1, i, s, hi, h => by
    rcases (v.stage hi).2 with h0 | ⟨m, hm, h0⟩
    · omega
    · have hml : m < g.length := by
        have h1 := getD_lt v.nb i
        have h2 : 2 ^ m < 2 ^ g.length := Nat.lt_of_le_of_lt (Nat.ge_two_pow_of_testBit hm) h1
        exact (Nat.pow_lt_pow_iff_right (by omega)).1 h2
      exact v.stage_down d m s hml (by omega)
theorem VG.part_ne {g : List Tk} {G : GD} (v : VG g G) {s : Nat} (hs : s < mS (stagesN G) g.length) : partN (stagesN G) s g.length ≠ [] := by
  obtain ⟨i, hi, e⟩ := mS_at (stagesN G) (n := g.length) (by omega)
  obtain ⟨k, hk, ek⟩ := v.stage_down ((stagesN G).getD i 0 - s) i s hi (by omega)
  intro he
  have : k ∈ partN (stagesN G) s g.length := List.mem_filter.2 ⟨List.mem_range.2 hk, by simpa using ek⟩
  rw [he] at this
  cases this
end Go.Proofs.YtffhdofcfkgoaaaDoor.Core
end
section
set_option linter.unusedVariables false
set_option linter.unusedSimpArgs false
namespace Go.Proofs.YtffhdofcfkgoaaaDoor.Core
open Go Go.RowKit Go.Shelf Go.Proofs.YtffhdofcfkgoaaaDoorW.PrintWords Go.Proofs.YtffhdofcfkgoaaaDoorW.PrintLast Go.Proofs.YtffhdofcfkgoaaaDoorW.PrintMore Go.Proofs.YtffhdofcfkgoaaaDoor.P
attribute [local go_sem] Oper.semAt_some wide_fn wide_depth
/-- The answer that some number of rounds gives. -/
noncomputable def lim {α : Type} (f : Nat → Option α) : Option α := open Classical in if h : ∃ k r, f k = some r then some h.choose_spec.choose else none
theorem lim_some {α : Type} {f : Nat → Option α} {r : α} (h : lim f = some r) : ∃ k, f k = some r := by
  unfold lim at h
  by_cases hh : ∃ k r, f k = some r
  · rw [dif_pos hh] at h
    cases h
    exact ⟨_, hh.choose_spec.choose_spec⟩
  · rw [dif_neg hh] at h; cases h
theorem lim_of {α : Type} {f : Nat → Option α} (hm : ∀ k, LeO (f k) (f (k + 1))) {k : Nat} {r : α} (h : f k = some r) : lim f = some r := by
  have hh : ∃ k r, f k = some r := ⟨k, r, h⟩
  have h2 := hh.choose_spec.choose_spec
  unfold lim
  rw [dif_pos hh]
  rcases Nat.le_total k hh.choose with hle | hle
  · have := at_rounds hm hle h
    rw [h2] at this; exact this
  · have := at_rounds hm hle h2
    rw [h] at this; exact this.symm
theorem mkQ (w : World) (base : Nat) (ok : Nat → Prop) (x : Tk) {v1 : Value} (g1 : (Kd.int .i64).Q 3 w base ok v1 x.f1) : k33.M w base ok x [.int .i64 x.f0, v1, .int .i64 x.f2, .int .i64 x.f3] :=
  ⟨[.int .i64 x.f0], [v1, .int .i64 x.f2, .int .i64 x.f3], rfl, rfl, ⟨[v1], [.int .i64 x.f2, .int .i64 x.f3], rfl, ⟨v1, rfl, g1⟩, ⟨[.int .i64 x.f2], [.int .i64 x.f3], rfl, rfl, rfl⟩⟩⟩
theorem S_put0 {W : World} {base gb n cap : Nat} {ok : Nat → Prop} {xs : List Tk} (h : Kd.S k33 33 W base ok (.slice (some ⟨gb, 0, none⟩) n cap) xs) (i : Int) (h0 : 0 ≤ i) (h1 : i < n) :
    (∃ u, W.cell? ⟨gb, i.toNat * 4, none⟩ = some (.int .i64 u)) ∧ W.frozen? ⟨gb, i.toNat * 4, none⟩ = false ∧ ∀ t : Int,
      Kd.S k33 33 (W.setCell ⟨gb, i.toNat * 4, none⟩ (.int .i64 t)) base ok (.slice (some ⟨gb, 0, none⟩) n cap) (xs.set i.toNat { rd_T33 xs i with f0 := t }) ∧ W.grownBy (W.setCell ⟨gb, i.toNat * 4, none⟩ (.int .i64 t)) (some gb) := by
  obtain ⟨oki, c, hcl, hM, hcc, hfr, hoki, hH⟩ := Kd.S_elem (Kd.S_mono (ok' := fun k => ok k ∧ ¬ False) h (fun k hk => ⟨hk, id⟩)) z33 i h0 h1
  obtain ⟨v1, rfl, g1⟩ := k33_openM hM
  refine ⟨⟨_, hcc 0 _ rfl⟩, hfr 0, fun t => ?_⟩
  exact Kd.S_seg (okg := fun _ => False) hH h0 h1 (seg := [.int .i64 t]) (j := 0) (show 0 + 1 ≤ 4 from by decide) (x' := { rd_T33 xs i with f0 := t }) (mkQ _ _ _ { rd_T33 xs i with f0 := t } g1) (fun k hk => .inl hk) (fun k hk => hk.elim)
theorem S_put2 {W : World} {base gb n cap : Nat} {ok : Nat → Prop} {xs : List Tk} (h : Kd.S k33 33 W base ok (.slice (some ⟨gb, 0, none⟩) n cap) xs) (i : Int) (h0 : 0 ≤ i) (h1 : i < n) :
    (∃ u, W.cell? ⟨gb, i.toNat * 4 + 2, none⟩ = some (.int .i64 u)) ∧ W.frozen? ⟨gb, i.toNat * 4 + 2, none⟩ = false ∧ ∀ t : Int,
      Kd.S k33 33 (W.setCell ⟨gb, i.toNat * 4 + 2, none⟩ (.int .i64 t)) base ok (.slice (some ⟨gb, 0, none⟩) n cap) (xs.set i.toNat { rd_T33 xs i with f2 := t }) ∧ W.grownBy (W.setCell ⟨gb, i.toNat * 4 + 2, none⟩ (.int .i64 t)) (some gb) := by
  obtain ⟨oki, c, hcl, hM, hcc, hfr, hoki, hH⟩ := Kd.S_elem (Kd.S_mono (ok' := fun k => ok k ∧ ¬ False) h (fun k hk => ⟨hk, id⟩)) z33 i h0 h1
  obtain ⟨v1, rfl, g1⟩ := k33_openM hM
  refine ⟨⟨_, hcc 2 _ rfl⟩, hfr 2, fun t => ?_⟩
  exact Kd.S_seg (okg := fun _ => False) hH h0 h1 (seg := [.int .i64 t]) (j := 2) (show 2 + 1 ≤ 4 from by decide) (x' := { rd_T33 xs i with f2 := t }) (mkQ _ _ _ { rd_T33 xs i with f2 := t } g1) (fun k hk => .inl hk) (fun k hk => hk.elim)
theorem S_put3 {W : World} {base gb n cap : Nat} {ok : Nat → Prop} {xs : List Tk} (h : Kd.S k33 33 W base ok (.slice (some ⟨gb, 0, none⟩) n cap) xs) (i : Int) (h0 : 0 ≤ i) (h1 : i < n) :
    (∃ u, W.cell? ⟨gb, i.toNat * 4 + 3, none⟩ = some (.int .i64 u)) ∧ W.frozen? ⟨gb, i.toNat * 4 + 3, none⟩ = false ∧ ∀ t : Int,
      Kd.S k33 33 (W.setCell ⟨gb, i.toNat * 4 + 3, none⟩ (.int .i64 t)) base ok (.slice (some ⟨gb, 0, none⟩) n cap) (xs.set i.toNat { rd_T33 xs i with f3 := t }) ∧ W.grownBy (W.setCell ⟨gb, i.toNat * 4 + 3, none⟩ (.int .i64 t)) (some gb) := by
  obtain ⟨oki, c, hcl, hM, hcc, hfr, hoki, hH⟩ := Kd.S_elem (Kd.S_mono (ok' := fun k => ok k ∧ ¬ False) h (fun k hk => ⟨hk, id⟩)) z33 i h0 h1
  obtain ⟨v1, rfl, g1⟩ := k33_openM hM
  refine ⟨⟨_, hcc 3 _ rfl⟩, hfr 3, fun t => ?_⟩
  exact Kd.S_seg (okg := fun _ => False) hH h0 h1 (seg := [.int .i64 t]) (j := 3) (show 3 + 1 ≤ 4 from by decide) (x' := { rd_T33 xs i with f3 := t }) (mkQ _ _ _ { rd_T33 xs i with f3 := t } g1) (fun k hk => .inl hk) (fun k hk => hk.elim)
def spec_anyGraph.fk (k : Nat) (s0 : List Int) (s1 : Int) : Option (List Tk × Int) :=
  (spec_someGraph.f k s0 s1 8).bind fun a =>
  if a.1.length = 0 then some (a.1, a.2) else
  (spec_reader_pick.f k s0 a.2 (a.1.length : Int)).bind fun p =>
  (spec_reader_pick.f k s0 p.2 24).bind fun q =>
  if ¬ (0 ≤ p.1 ∧ p.1 < (a.1.length : Int)) then none else
  if q.1 = 0 then (spec_reader_one.f k s0 q.2 [0, 21, 20]).bind fun t => some (a.1.set p.1.toNat { rd_T33 a.1 p.1 with f0 := t.1 }, t.2)
  else if q.1 = 1 then (spec_reader_pick.f k s0 q.2 (a.1.length : Int)).bind fun b =>
    if (rd_T33 a.1 p.1).f1.length < 1000 then (spec_reader_spoil.f k s0 b.2 ((rd_T33 a.1 p.1).f1 ++ [b.1]) 8).bind fun c => some (a.1.set p.1.toNat { rd_T33 a.1 p.1 with f1 := c.1 }, c.2) else none
  else if q.1 = 2 then (spec_reader_one.f k s0 q.2 [-1, 3]).bind fun t => some (a.1.set p.1.toNat { rd_T33 a.1 p.1 with f2 := t.1 }, t.2)
  else if q.1 = 3 then (spec_reader_one.f k s0 q.2 [0, 5]).bind fun t => some (a.1.set p.1.toNat { rd_T33 a.1 p.1 with f3 := t.1 }, t.2)
  else if q.1 = 4 then (spec_someGraph.f k s0 q.2 8).bind fun b => if a.1.length + b.1.length < 1000 then some (a.1 ++ b.1, b.2) else none
  else some (a.1, q.2)
theorem spec_anyGraph.mono : ∀ a0 a1 k, LeO (spec_anyGraph.fk k a0 a1) (spec_anyGraph.fk (k + 1) a0 a1) := by
  intro a0 a1 k
  unfold spec_anyGraph.fk
  repeat' first
      | (with_reducible exact spec_someGraph.mono _ _ _ _)
      | (with_reducible exact spec_reader_pick.mono _ _ _ _)
      | (with_reducible exact spec_reader_one.mono _ _ _ _)
      | (with_reducible exact spec_reader_spoil.mono _ _ _ _ _)
      | (with_reducible exact LeO.refl _)
      | (with_reducible exact LeO.none _)
      | (with_reducible refine LeO.ite ?_ ?_)
      | (with_reducible refine LeO.bind ?_ (fun _ => ?_))
      | exact LeO.none _
      | refine LeO.ite ?_ ?_
      | refine LeO.bind ?_ (fun _ => ?_)
/-- What anyGraph leaves. -/
def anyPost (w0 w : World) (g : Nat) (s0 : List Int) (r1 : List Tk) (r2 : Int) (e : Ending) (w' : World) : Prop :=
  ∃ v0_ : Value, e = .returned (v0_) ∧ Kd.S k33 33 w' w.heap.size (fun _ => True) v0_ r1 ∧ IsS98 w0 w' g s0 r2 ∧ Below w0.heap.size w0 w' ∧ KeepBut w w' g none
theorem R_lits {w : World} {b base t : Nat} {l : List Int} (h : w.heap[b]? = some (.cells (l.map (Value.int .i64)).toArray t (0, 0))) (hb : base ≤ b) (hl : l.length ≤ maxLen) : (Kd.int .i64).R t w base (fun _ => True) (.slice (some ⟨b, 0, none⟩) l.length l.length) l :=
  row_R (k := .i64) ⟨by simp, .inr ⟨b, l.length, _, rfl, hb, h, Nat.le_refl _, hl, by simp, by simp [List.take_of_length_le]⟩⟩
theorem C_lits {w : World} {b t : Nat} {l : List Int} (h : w.heap[b]? = some (.cells (l.map (Value.int .i64)).toArray t (0, 0))) (hl : l.length ≤ maxLen) : (Kd.int .i64).C w (some ⟨b, 0, none⟩) l.length l :=
  (Kd.R_reads' (R_lits (base := 0) h (Nat.zero_le _) hl)).2.2
set_option maxRecDepth 100000 in
set_option maxHeartbeats 4000000 in
theorem any_empty (k g : Nat) (s0 : List Int) (s1 : Int) (w0 w : World) (hI : IsS98 w0 w g s0 s1) (hB : Below w0.heap.size w0 w) (a2 : Int) (h1 : spec_someGraph.f k s0 s1 8 = some ([], a2)) : Calls Tryd.prog 60 #[.pointer (some ⟨g, 0, none⟩)] w (anyPost w0 w g s0  [] a2) := by
  have A1 := Aside0.mk h1
  clear h1
  obtain ⟨a, ha⟩ : ∃ a : List Tk, a = [] := ⟨_, rfl⟩
  rw [← ha] at A1
  have hlen : (a.length : Int) = 0 := by rw [ha]; rfl
  have HA := Aside0.mk ha
  clear ha
  have hz : ((a.length : Int) == 0) = true := by simp [hlen]
  have HL := Aside0.mk hlen
  clear hlen
  go_enter Tryd.func60, Tryd.ntmps60
  go_wp2_with (go_at_call 81; refine (spec_someGraph.calls k g s0 s1 8 a a2 w0 _ hI hB A1.out).mono ?_; rintro e w1 ⟨v1, rfl, hS1, hI1, hB1, hK1⟩; clear hI hB; obtain ⟨A, c, rfl⟩ := Kd.S_slice hS1)
  go_ret
  exact ⟨_, rfl, by rw [← HA.out]; exact hS1, hI1, hB1, hK1⟩
set_option maxRecDepth 100000 in
set_option maxHeartbeats 4000000 in
theorem any_same (k g : Nat) (s0 : List Int) (s1 : Int) (w0 w : World) (hI : IsS98 w0 w g s0 s1) (hB : Below w0.heap.size w0 w) (a : List Tk) (a2 p p2 q q2 : Int) (hpos : 0 < a.length) (hp0 : 0 ≤ p) (hp1 : p < (a.length : Int)) (h1 : spec_someGraph.f k s0 s1 8 = some (a, a2)) (h2 : spec_reader_pick.f k s0 a2 (a.length : Int) = some (p, p2)) (h3 : spec_reader_pick.f k s0 p2 24 = some (q, q2)) (hq : q ≠ 0 ∧ q ≠ 1 ∧ q ≠ 2 ∧ q ≠ 3 ∧ q ≠ 4) : Calls Tryd.prog 60 #[.pointer (some ⟨g, 0, none⟩)] w (anyPost w0 w g s0  a q2) := by
  have A1 := Aside0.mk h1
  have A2 := Aside0.mk h2
  have A3 := Aside0.mk h3
  clear h1 h2 h3
  have hz : ((a.length : Int) == 0) = false := beq_eq_false_iff_ne.2 (by omega)
  have hglt : g < w.heap.size := hI.lt
  have hq0 : (q == 0) = false := beq_eq_false_iff_ne.2 (by omega)
  have hq1 : (q == 1) = false := beq_eq_false_iff_ne.2 (by omega)
  have hq2 : (q == 2) = false := beq_eq_false_iff_ne.2 (by omega)
  have hq3 : (q == 3) = false := beq_eq_false_iff_ne.2 (by omega)
  have hq4 : (q == 4) = false := beq_eq_false_iff_ne.2 (by omega)
  go_enter Tryd.func60, Tryd.ntmps60
  go_wp2_with (first | (go_at_call 81; refine (spec_someGraph.calls k g s0 s1 8 a a2 w0 _ hI hB A1.out).mono ?_; rintro e w1 ⟨v1, rfl, hS1, hI1, hB1, hK1⟩; clear hI hB; obtain ⟨gb, cap, rfl, hgb, hgl, cells, hcells⟩ := Kd.S_form hS1 hpos) | (go_at_call 80; refine (spec_reader_pick.calls k g s0 a2 (a.length : Int) p p2 w0 _ hI1 hB1 A2.out).mono ?_; rintro e w2 ⟨rfl, hI2, hB2, hK2⟩; clear hI1 hB1) | (go_at_call 80; refine (spec_reader_pick.calls k g s0 p2 24 q q2 w0 _ hI2 hB2 A3.out).mono ?_; rintro e w3 ⟨rfl, hI3, hB3, hK3⟩; clear hI2 hB2))
  have hS3 : Kd.S k33 33 w3 w.heap.size (fun k => k ≠ g) (.slice (some ⟨gb, 0, none⟩) a.length cap) a := Kd.S_keep (Kd.S_keep (Kd.S_mono (Kd.S_bound hS1) (fun k hk => Nat.ne_of_gt (Nat.lt_of_lt_of_le hglt hk.2.1))) hK2 (fun k hk => hk)) hK3 (fun k hk => hk)
  have hK4 := (hK1.trans hK2 (.inl rfl)).trans hK3 (.inl rfl)
  clear hS1 hK1 hK2 hK3
  go_ret
  exact ⟨_, rfl, Kd.S_mono hS3 (fun _ _ => trivial), hI3, hB3, hK4⟩
set_option maxRecDepth 100000 in
set_option maxHeartbeats 4000000 in
theorem any_case0 (k g : Nat) (s0 : List Int) (s1 : Int) (w0 w : World) (hI : IsS98 w0 w g s0 s1) (hB : Below w0.heap.size w0 w) (a : List Tk) (a2 p p2 q q2 : Int) (hpos : 0 < a.length) (hp0 : 0 ≤ p) (hp1 : p < (a.length : Int)) (h1 : spec_someGraph.f k s0 s1 8 = some (a, a2)) (h2 : spec_reader_pick.f k s0 a2 (a.length : Int) = some (p, p2)) (h3 : spec_reader_pick.f k s0 p2 24 = some (q, q2)) (hq : q = 0) (t t2 : Int) (h4 : spec_reader_one.f k s0 q2 [0, 21, 20] = some (t, t2)) : Calls Tryd.prog 60 #[.pointer (some ⟨g, 0, none⟩)] w (anyPost w0 w g s0  (a.set p.toNat { rd_T33 a p with f0 := t }) t2) := by
  have A1 := Aside0.mk h1
  have A2 := Aside0.mk h2
  have A3 := Aside0.mk h3
  clear h1 h2 h3
  have hz : ((a.length : Int) == 0) = false := beq_eq_false_iff_ne.2 (by omega)
  have hglt : g < w.heap.size := hI.lt
  have A4 := Aside0.mk h4
  clear h4
  have hq0 : (q == 0) = true := by simp [hq]
  have hp0' := eq_true hp0
  have hp1' := eq_true hp1
  go_enter Tryd.func60, Tryd.ntmps60
  go_wp2_with (first | (go_at_call 81; refine (spec_someGraph.calls k g s0 s1 8 a a2 w0 _ hI hB A1.out).mono ?_; rintro e w1 ⟨v1, rfl, hS1, hI1, hB1, hK1⟩; clear hI hB; obtain ⟨gb, cap, rfl, hgb, hgl, cells, hcells⟩ := Kd.S_form hS1 hpos) | (go_at_call 80; refine (spec_reader_pick.calls k g s0 a2 (a.length : Int) p p2 w0 _ hI1 hB1 A2.out).mono ?_; rintro e w2 ⟨rfl, hI2, hB2, hK2⟩; clear hI1 hB1) | (go_at_call 80; refine (spec_reader_pick.calls k g s0 p2 24 q q2 w0 _ hI2 hB2 A3.out).mono ?_; rintro e w3 ⟨rfl, hI3, hB3, hK3⟩; clear hI2 hB2) | (go_at_call 85; have hS3 : Kd.S k33 33 w3 w.heap.size (fun k => k ≠ g) (.slice (some ⟨gb, 0, none⟩) a.length cap) a := Kd.S_keep (Kd.S_keep (Kd.S_mono (Kd.S_bound hS1) (fun k hk => Nat.ne_of_gt (Nat.lt_of_lt_of_le hglt hk.2.1))) hK2 (fun k hk => hk)) hK3 (fun k hk => hk); have hK4 := (hK1.trans hK2 (.inl rfl)).trans hK3 (.inl rfl); clear hS1 hK1 hK2 hK3; have hN4 := cells_new w3 (.cells #[.int .i64 0, .int .i64 21, .int .i64 20] 3); have hI4 := hI3.alloc (.cells #[.int .i64 0, .int .i64 21, .int .i64 20] 3); have hB4 := hB3.alloc hB3.size (.cells #[.int .i64 0, .int .i64 21, .int .i64 20] 3); have hS4 := Kd.S_alloc hS3 (.cells #[.int .i64 0, .int .i64 21, .int .i64 20] 3); have hK5 := keep_alloc hK4 (.cells #[.int .i64 0, .int .i64 21, .int .i64 20] 3); have hsz := hI3.lt; refine (spec_reader_one.calls k g s0 q2 _ _ [0, 21, 20] t t2 w0 _ hI4 hB4 (C_lits (l := [0, 21, 20]) hN4 (by decide)) (by decide) (fun ad e _ => by cases e; show w3.heap.size ≠ g; omega) A4.out).mono ?_; rintro e w5 ⟨rfl, hI5, hB5, hK6⟩; have hS5 := Kd.S_keep hS4 hK6 (fun k hk => hk); obtain ⟨⟨u, hcu⟩, hfu, hput⟩ := S_put0 hS5 p hp0 hp1; have hK7 := hK5.trans hK6 (.inl rfl); have HPUT := Aside0.mk hput; have hI6 := Aside0.mk hI5; clear hS4 hS3 hI3 hB3 hK4 hI4 hB4 hN4 hK5 hK6 hput hI5))
  go_ret
  obtain ⟨hS6, hg6⟩ := HPUT.out t
  exact ⟨_, rfl, Kd.S_mono hS6 (fun _ _ => trivial), hI6.out.grown hg6 (fun e => by injection e with e; omega), below_put hg6 hB5 (Nat.le_refl _) (by have := hI6.out.ge; omega), hK7.trans (KeepBut.of_grown hg6 g) (.inr ⟨gb, rfl, hgb⟩)⟩
set_option maxRecDepth 100000 in
set_option maxHeartbeats 4000000 in
theorem any_case2 (k g : Nat) (s0 : List Int) (s1 : Int) (w0 w : World) (hI : IsS98 w0 w g s0 s1) (hB : Below w0.heap.size w0 w) (a : List Tk) (a2 p p2 q q2 : Int) (hpos : 0 < a.length) (hp0 : 0 ≤ p) (hp1 : p < (a.length : Int)) (h1 : spec_someGraph.f k s0 s1 8 = some (a, a2)) (h2 : spec_reader_pick.f k s0 a2 (a.length : Int) = some (p, p2)) (h3 : spec_reader_pick.f k s0 p2 24 = some (q, q2)) (hq : q = 2) (t t2 : Int) (h4 : spec_reader_one.f k s0 q2 [-1, 3] = some (t, t2)) : Calls Tryd.prog 60 #[.pointer (some ⟨g, 0, none⟩)] w (anyPost w0 w g s0  (a.set p.toNat { rd_T33 a p with f2 := t }) t2) := by
  have A1 := Aside0.mk h1
  have A2 := Aside0.mk h2
  have A3 := Aside0.mk h3
  clear h1 h2 h3
  have hz : ((a.length : Int) == 0) = false := beq_eq_false_iff_ne.2 (by omega)
  have hglt : g < w.heap.size := hI.lt
  have A4 := Aside0.mk h4
  clear h4
  have hq0 : (q == 0) = false := beq_eq_false_iff_ne.2 (by omega)
  have hq1 : (q == 1) = false := beq_eq_false_iff_ne.2 (by omega)
  have hq2 : (q == 2) = true := by simp [hq]
  have hp0' := eq_true hp0
  have hp1' := eq_true hp1
  go_enter Tryd.func60, Tryd.ntmps60
  go_wp2_with (first | (go_at_call 81; refine (spec_someGraph.calls k g s0 s1 8 a a2 w0 _ hI hB A1.out).mono ?_; rintro e w1 ⟨v1, rfl, hS1, hI1, hB1, hK1⟩; clear hI hB; obtain ⟨gb, cap, rfl, hgb, hgl, cells, hcells⟩ := Kd.S_form hS1 hpos) | (go_at_call 80; refine (spec_reader_pick.calls k g s0 a2 (a.length : Int) p p2 w0 _ hI1 hB1 A2.out).mono ?_; rintro e w2 ⟨rfl, hI2, hB2, hK2⟩; clear hI1 hB1) | (go_at_call 80; refine (spec_reader_pick.calls k g s0 p2 24 q q2 w0 _ hI2 hB2 A3.out).mono ?_; rintro e w3 ⟨rfl, hI3, hB3, hK3⟩; clear hI2 hB2) | (go_at_call 85; have hS3 : Kd.S k33 33 w3 w.heap.size (fun k => k ≠ g) (.slice (some ⟨gb, 0, none⟩) a.length cap) a := Kd.S_keep (Kd.S_keep (Kd.S_mono (Kd.S_bound hS1) (fun k hk => Nat.ne_of_gt (Nat.lt_of_lt_of_le hglt hk.2.1))) hK2 (fun k hk => hk)) hK3 (fun k hk => hk); have hK4 := (hK1.trans hK2 (.inl rfl)).trans hK3 (.inl rfl); clear hS1 hK1 hK2 hK3; have hN4 := cells_new w3 (.cells #[.int .i64 (-1), .int .i64 3] 3); have hI4 := hI3.alloc (.cells #[.int .i64 (-1), .int .i64 3] 3); have hB4 := hB3.alloc hB3.size (.cells #[.int .i64 (-1), .int .i64 3] 3); have hS4 := Kd.S_alloc hS3 (.cells #[.int .i64 (-1), .int .i64 3] 3); have hK5 := keep_alloc hK4 (.cells #[.int .i64 (-1), .int .i64 3] 3); have hsz := hI3.lt; refine (spec_reader_one.calls k g s0 q2 _ _ [-1, 3] t t2 w0 _ hI4 hB4 (C_lits (l := [-1, 3]) hN4 (by decide)) (by decide) (fun ad e _ => by cases e; show w3.heap.size ≠ g; omega) A4.out).mono ?_; rintro e w5 ⟨rfl, hI5, hB5, hK6⟩; have hS5 := Kd.S_keep hS4 hK6 (fun k hk => hk); obtain ⟨⟨u, hcu⟩, hfu, hput⟩ := S_put2 hS5 p hp0 hp1; have hK7 := hK5.trans hK6 (.inl rfl); have HPUT := Aside0.mk hput; have hI6 := Aside0.mk hI5; clear hS4 hS3 hI3 hB3 hK4 hI4 hB4 hN4 hK5 hK6 hput hI5))
  go_ret
  obtain ⟨hS6, hg6⟩ := HPUT.out t
  exact ⟨_, rfl, Kd.S_mono hS6 (fun _ _ => trivial), hI6.out.grown hg6 (fun e => by injection e with e; omega), below_put hg6 hB5 (Nat.le_refl _) (by have := hI6.out.ge; omega), hK7.trans (KeepBut.of_grown hg6 g) (.inr ⟨gb, rfl, hgb⟩)⟩
set_option maxRecDepth 100000 in
set_option maxHeartbeats 4000000 in
theorem any_case3 (k g : Nat) (s0 : List Int) (s1 : Int) (w0 w : World) (hI : IsS98 w0 w g s0 s1) (hB : Below w0.heap.size w0 w) (a : List Tk) (a2 p p2 q q2 : Int) (hpos : 0 < a.length) (hp0 : 0 ≤ p) (hp1 : p < (a.length : Int)) (h1 : spec_someGraph.f k s0 s1 8 = some (a, a2)) (h2 : spec_reader_pick.f k s0 a2 (a.length : Int) = some (p, p2)) (h3 : spec_reader_pick.f k s0 p2 24 = some (q, q2)) (hq : q = 3) (t t2 : Int) (h4 : spec_reader_one.f k s0 q2 [0, 5] = some (t, t2)) : Calls Tryd.prog 60 #[.pointer (some ⟨g, 0, none⟩)] w (anyPost w0 w g s0  (a.set p.toNat { rd_T33 a p with f3 := t }) t2) := by
  have A1 := Aside0.mk h1
  have A2 := Aside0.mk h2
  have A3 := Aside0.mk h3
  clear h1 h2 h3
  have hz : ((a.length : Int) == 0) = false := beq_eq_false_iff_ne.2 (by omega)
  have hglt : g < w.heap.size := hI.lt
  have A4 := Aside0.mk h4
  clear h4
  have hq0 : (q == 0) = false := beq_eq_false_iff_ne.2 (by omega)
  have hq1 : (q == 1) = false := beq_eq_false_iff_ne.2 (by omega)
  have hq2 : (q == 2) = false := beq_eq_false_iff_ne.2 (by omega)
  have hq3 : (q == 3) = true := by simp [hq]
  have hp0' := eq_true hp0
  have hp1' := eq_true hp1
  go_enter Tryd.func60, Tryd.ntmps60
  go_wp2_with (first | (go_at_call 81; refine (spec_someGraph.calls k g s0 s1 8 a a2 w0 _ hI hB A1.out).mono ?_; rintro e w1 ⟨v1, rfl, hS1, hI1, hB1, hK1⟩; clear hI hB; obtain ⟨gb, cap, rfl, hgb, hgl, cells, hcells⟩ := Kd.S_form hS1 hpos) | (go_at_call 80; refine (spec_reader_pick.calls k g s0 a2 (a.length : Int) p p2 w0 _ hI1 hB1 A2.out).mono ?_; rintro e w2 ⟨rfl, hI2, hB2, hK2⟩; clear hI1 hB1) | (go_at_call 80; refine (spec_reader_pick.calls k g s0 p2 24 q q2 w0 _ hI2 hB2 A3.out).mono ?_; rintro e w3 ⟨rfl, hI3, hB3, hK3⟩; clear hI2 hB2) | (go_at_call 85; have hS3 : Kd.S k33 33 w3 w.heap.size (fun k => k ≠ g) (.slice (some ⟨gb, 0, none⟩) a.length cap) a := Kd.S_keep (Kd.S_keep (Kd.S_mono (Kd.S_bound hS1) (fun k hk => Nat.ne_of_gt (Nat.lt_of_lt_of_le hglt hk.2.1))) hK2 (fun k hk => hk)) hK3 (fun k hk => hk); have hK4 := (hK1.trans hK2 (.inl rfl)).trans hK3 (.inl rfl); clear hS1 hK1 hK2 hK3; have hN4 := cells_new w3 (.cells #[.int .i64 0, .int .i64 5] 3); have hI4 := hI3.alloc (.cells #[.int .i64 0, .int .i64 5] 3); have hB4 := hB3.alloc hB3.size (.cells #[.int .i64 0, .int .i64 5] 3); have hS4 := Kd.S_alloc hS3 (.cells #[.int .i64 0, .int .i64 5] 3); have hK5 := keep_alloc hK4 (.cells #[.int .i64 0, .int .i64 5] 3); have hsz := hI3.lt; refine (spec_reader_one.calls k g s0 q2 _ _ [0, 5] t t2 w0 _ hI4 hB4 (C_lits (l := [0, 5]) hN4 (by decide)) (by decide) (fun ad e _ => by cases e; show w3.heap.size ≠ g; omega) A4.out).mono ?_; rintro e w5 ⟨rfl, hI5, hB5, hK6⟩; have hS5 := Kd.S_keep hS4 hK6 (fun k hk => hk); obtain ⟨⟨u, hcu⟩, hfu, hput⟩ := S_put3 hS5 p hp0 hp1; have hK7 := hK5.trans hK6 (.inl rfl); have HPUT := Aside0.mk hput; have hI6 := Aside0.mk hI5; clear hS4 hS3 hI3 hB3 hK4 hI4 hB4 hN4 hK5 hK6 hput hI5))
  go_ret
  obtain ⟨hS6, hg6⟩ := HPUT.out t
  exact ⟨_, rfl, Kd.S_mono hS6 (fun _ _ => trivial), hI6.out.grown hg6 (fun e => by injection e with e; omega), below_put hg6 hB5 (Nat.le_refl _) (by have := hI6.out.ge; omega), hK7.trans (KeepBut.of_grown hg6 g) (.inr ⟨gb, rfl, hgb⟩)⟩
theorem infoTask : (Tryd.prog.info? 33).map (fun i => (i.zero, i.size, i.bytes)) = some (some (.agg #[.int .i64 0, .slice none 0 0, .int .i64 0, .int .i64 0]), 4, 48) := by kernel_rfl
theorem zip_app (xs ys : List Tk) : (xs ++ ys).zipIdx = xs.zipIdx ++ ys.zipIdx xs.length := by rw [List.zipIdx_append]; simp
/-- Two rows' elements behind each other: the owners of the second one's rows are told anew. -/
theorem S_two {W : World} {b1 N : Nat} {ok : Nat → Prop} {v v2 : Value} {xs ys : List Tk} (h1 : Kd.S k33 33 W b1 (fun k => ok k ∧ k < N) v xs) (h2 : Kd.S k33 33 W N (fun _ => True) v2 ys) (hb : b1 ≤ N) :
    ∃ f A c, v2 = .slice A ys.length c ∧ (Kd.tag f k33).R 33 W b1 (fun k => ok k ∧ k < N) v xs.zipIdx ∧ ReadsRow ((Kd.tag f k33).M W b1 (fun k => N ≤ k)) 4 W A ys.length (ys.zipIdx xs.length) := by
  obtain ⟨f1, hf1⟩ := h1
  obtain ⟨f2, hf2⟩ := h2
  refine ⟨fun k => if k < N then f1 k else f2 k + xs.length, ?_⟩
  have hR2 := Kd.R_bound hf2
  obtain ⟨A, c, rfl, hl, hr⟩ := OwnRow.reads hR2.2
  rw [List.length_zipIdx] at hr
  refine ⟨A, c, by rw [List.length_zipIdx], Kd.R_tag hf1 (fun k hk _ => if_pos hk.2), by simp, hr.2.1, fun hn => ?_⟩
  obtain ⟨ad, e, hc⟩ := hr.2.2 hn
  refine ⟨ad, e, fun j p hj => ?_⟩
  rw [List.getElem?_zipIdx] at hj
  obtain ⟨x, hx, rfl⟩ := Option.map_eq_some_iff.1 hj
  obtain ⟨cs, h3, h4, h5⟩ := hc j (x, j) (by rw [List.getElem?_zipIdx, hx]; simp)
  refine ⟨cs, h3, ?_, h5⟩
  refine Kd.M_lower k33 hb (Kd.M_mono k33 (fun k hk => ?_) h4)
  have hk1 := hk.1.1.2.1
  have hk2 : f2 k = j := hk.2
  refine ⟨hk1, ?_⟩
  show (if k < N then f1 k else f2 k + xs.length) = xs.length + j
  rw [if_neg (by omega), hk2]
  omega
set_option maxRecDepth 100000 in
set_option maxHeartbeats 4000000 in
theorem any_case4 (k g : Nat) (s0 : List Int) (s1 : Int) (w0 w : World) (hI : IsS98 w0 w g s0 s1) (hB : Below w0.heap.size w0 w) (a : List Tk) (a2 p p2 q q2 : Int) (hpos : 0 < a.length) (hp0 : 0 ≤ p) (hp1 : p < (a.length : Int)) (h1 : spec_someGraph.f k s0 s1 8 = some (a, a2)) (h2 : spec_reader_pick.f k s0 a2 (a.length : Int) = some (p, p2)) (h3 : spec_reader_pick.f k s0 p2 24 = some (q, q2)) (hq : q = 4) (c : List Tk) (c2 : Int) (hlen : a.length + c.length < 1000) (h4 : spec_someGraph.f k s0 q2 8 = some (c, c2)) : Calls Tryd.prog 60 #[.pointer (some ⟨g, 0, none⟩)] w (anyPost w0 w g s0  (a ++ c) c2) := by
  have A1 := Aside0.mk h1
  have A2 := Aside0.mk h2
  have A3 := Aside0.mk h3
  clear h1 h2 h3
  have hz : ((a.length : Int) == 0) = false := beq_eq_false_iff_ne.2 (by omega)
  have hglt : g < w.heap.size := hI.lt
  have A4 := Aside0.mk h4
  clear h4
  have hq0 : (q == 0) = false := beq_eq_false_iff_ne.2 (by omega)
  have hq1 : (q == 1) = false := beq_eq_false_iff_ne.2 (by omega)
  have hq2 : (q == 2) = false := beq_eq_false_iff_ne.2 (by omega)
  have hq3 : (q == 3) = false := beq_eq_false_iff_ne.2 (by omega)
  have hq4 : (q == 4) = true := by simp [hq]
  go_enter Tryd.func60, Tryd.ntmps60
  go_wp2_with (first | (go_at_call 81; refine (spec_someGraph.calls k g s0 s1 8 a a2 w0 _ hI hB A1.out).mono ?_; rintro e w1 ⟨v1, rfl, hS1, hI1, hB1, hK1⟩; clear hI hB; obtain ⟨gb, cap, rfl, hgb, hgl, cells, hcells⟩ := Kd.S_form hS1 hpos) | (go_at_call 80; refine (spec_reader_pick.calls k g s0 a2 (a.length : Int) p p2 w0 _ hI1 hB1 A2.out).mono ?_; rintro e w2 ⟨rfl, hI2, hB2, hK2⟩; clear hI1 hB1) | (go_at_call 80; refine (spec_reader_pick.calls k g s0 p2 24 q q2 w0 _ hI2 hB2 A3.out).mono ?_; rintro e w3 ⟨rfl, hI3, hB3, hK3⟩; clear hI2 hB2) | (go_at_call 81; have hS3 : Kd.S k33 33 w3 w.heap.size (fun k => k ≠ g) (.slice (some ⟨gb, 0, none⟩) a.length cap) a := Kd.S_keep (Kd.S_keep (Kd.S_mono (Kd.S_bound hS1) (fun k hk => Nat.ne_of_gt (Nat.lt_of_lt_of_le hglt hk.2.1))) hK2 (fun k hk => hk)) hK3 (fun k hk => hk); have hK4 := (hK1.trans hK2 (.inl rfl)).trans hK3 (.inl rfl); clear hS1 hK1 hK2 hK3; have HGL3 := Aside0.mk hI3.lt; have HGB3 := Aside0.mk (Kd.S_lt hS3 gb (by simp [Value.ownBlock])); have hK4s := hK4.1; refine (spec_someGraph.calls k g s0 q2 8 c c2 w0 _ hI3 hB3 A4.out).mono ?_; rintro e w5 ⟨v2, rfl, hS5, hI5, hB5, hK5⟩; have hS4 : Kd.S k33 33 w5 w.heap.size (fun k => k ≠ g ∧ k < w3.heap.size) _ a := Kd.S_keep (Kd.S_mono (Kd.S_bound hS3) (fun k hk => ⟨hk.1, hk.2.2.1⟩)) hK5 (fun k hk => hk.1); obtain ⟨f, A, cc, rfl, hR6, hRR⟩ := S_two hS4 hS5 hK4s; have hK6 := hK4.trans hK5 (.inl rfl); have HR6 := Aside0.mk hR6; have HRR := Aside0.mk hRR; have HI5 := Aside0.mk hI5; have HB5 := Aside0.mk hB5; have HK6 := Aside0.mk hK6; have HLE := Aside0.mk hK5.1; clear hS3 hS4 hS5 hI3 hB3 hK4 hK5 hR6 hRR hI5 hB5 hK6 hK4s) | ((with_reducible refine gate_builtin (b := .append) (xs := #[.tmp 65, .tmp 67]) rfl ?_); go_loud (at_builtin; have hgb3 : gb < w3.heap.size := HGB3.out; have hle5 : w.heap.size ≤ w5.heap.size := HK6.out.1; refine Kd.R_append_rows (Kd.tag f k33) (w0 := w5) w.heap.size rfl (.tmp 65) (.tmp 67) 25 33 (.agg #[.int .i64 0, .slice none 0 0, .int .i64 0, .int .i64 0]) 48 rfl Tryd.underlying25 infoTask rfl (show 0 < 4 from by decide) (by decide) (.slice (some ⟨gb, 0, none⟩) a.length cap) a.zipIdx (c.zipIdx a.length) A c.length cc (fun k => k ≠ g) (fun k => w3.heap.size ≤ k) rfl rfl (Kd.R_mono HR6.out (fun _ hk => hk.1)) HRR.out (fun _ _ h => h) (fun k (hk : w3.heap.size ≤ k) => ⟨Nat.ne_of_gt (Nat.lt_of_lt_of_le HGL3.out hk), fun e => by have e2 : k = gb := (by simpa [Value.ownBlock] using e); omega⟩) (fun k hk => Nat.ne_of_gt (Nat.lt_of_lt_of_le HI5.out.lt hk)) (Below.refl _ _) hle5 (by simp; omega) ?_; intro v6 w6 ho hb hg hat)))
  go_ret
  have hS6 : Kd.S k33 33 w6 w.heap.size (fun k => k ≠ g) v6 (a ++ c) := ⟨f, by rw [zip_app]; exact ho⟩
  have hg' : w5.grownBy w6 (some gb) := by simpa [Value.ownBlock] using hg
  have hI6 := HI5.out.grown hg' (fun e => by injection e with e; omega)
  exact ⟨_, rfl, Kd.S_mono hS6 (fun _ _ => trivial), hI6, below_put hg' HB5.out (Nat.le_refl _) (by have := HI5.out.ge; omega), HK6.out.trans (KeepBut.of_grown hg' g) (.inr ⟨gb, rfl, hgb⟩)⟩
theorem infoInt_ : (Tryd.prog.info? 3).map (fun i => (i.zero, i.size, i.bytes)) = some (some (.int .i64 0), 1, 8) := by kernel_rfl
set_option maxRecDepth 100000 in
set_option maxHeartbeats 4000000 in
theorem any_case1 (k g : Nat) (s0 : List Int) (s1 : Int) (w0 w : World) (hI : IsS98 w0 w g s0 s1) (hB : Below w0.heap.size w0 w) (a : List Tk) (a2 p p2 q q2 : Int) (hpos : 0 < a.length) (hp0 : 0 ≤ p) (hp1 : p < (a.length : Int)) (h1 : spec_someGraph.f k s0 s1 8 = some (a, a2)) (h2 : spec_reader_pick.f k s0 a2 (a.length : Int) = some (p, p2)) (h3 : spec_reader_pick.f k s0 p2 24 = some (q, q2)) (hq : q = 1) (b b2 : Int) (r : List Int) (r2 : Int) (h4 : spec_reader_pick.f k s0 q2 (a.length : Int) = some (b, b2)) (hlen : (rd_T33 a p).f1.length < 1000) (h5 : spec_reader_spoil.f k s0 b2 ((rd_T33 a p).f1 ++ [b]) 8 = some (r, r2)) : Calls Tryd.prog 60 #[.pointer (some ⟨g, 0, none⟩)] w (anyPost w0 w g s0  (a.set p.toNat { rd_T33 a p with f1 := r }) r2) := by
  have A1 := Aside0.mk h1
  have A2 := Aside0.mk h2
  have A3 := Aside0.mk h3
  clear h1 h2 h3
  have hz : ((a.length : Int) == 0) = false := beq_eq_false_iff_ne.2 (by omega)
  have hglt : g < w.heap.size := hI.lt
  have A4 := Aside0.mk h4
  have A5 := Aside0.mk h5
  clear h4 h5
  have hq0 : (q == 0) = false := beq_eq_false_iff_ne.2 (by omega)
  have hq1 : (q == 1) = true := by simp [hq]
  go_enter Tryd.func60, Tryd.ntmps60
  go_wp2_with (first | (go_at_call 81; refine (spec_someGraph.calls k g s0 s1 8 a a2 w0 _ hI hB A1.out).mono ?_; rintro e w1 ⟨v1, rfl, hS1, hI1, hB1, hK1⟩; clear hI hB; obtain ⟨gb, cap, rfl, hgb, hgl, cells, hcells⟩ := Kd.S_form hS1 hpos) | (go_at_call 80; refine (spec_reader_pick.calls k g s0 a2 (a.length : Int) p p2 w0 _ hI1 hB1 A2.out).mono ?_; rintro e w2 ⟨rfl, hI2, hB2, hK2⟩; clear hI1 hB1) | (go_at_call 80; refine (spec_reader_pick.calls k g s0 p2 24 q q2 w0 _ hI2 hB2 A3.out).mono ?_; rintro e w3 ⟨rfl, hI3, hB3, hK3⟩; clear hI2 hB2))
  have hS3 : Kd.S k33 33 w3 w.heap.size (fun k => k ≠ g) (.slice (some ⟨gb, 0, none⟩) a.length cap) a := Kd.S_keep (Kd.S_keep (Kd.S_mono (Kd.S_bound hS1) (fun k hk => Nat.ne_of_gt (Nat.lt_of_lt_of_le hglt hk.2.1))) hK2 (fun k hk => hk)) hK3 (fun k hk => hk)
  have hK4 := (hK1.trans hK2 (.inl rfl)).trans hK3 (.inl rfl)
  clear hS1 hK1 hK2 hK3
  have hp0' := eq_true hp0
  have hp1' := eq_true hp1
  have hS3b : Kd.S k33 33 w3 w.heap.size (fun k => k ≠ g ∧ k < w3.heap.size) (.slice (some ⟨gb, 0, none⟩) a.length cap) a := Kd.S_mono (Kd.S_bound hS3) (fun k hk => ⟨hk.1, hk.2.2.1⟩)
  obtain ⟨oki, c, hcl, hM, hcc, hfr, hoki, hH⟩ := Kd.S_elem hS3b z33 p hp0 hp1
  obtain ⟨v4, rfl, g4⟩ := k33_openM hM
  clear hS3b
  have hx1 : w3.cell? ⟨gb, p.toNat * 4 + 1, none⟩ = some v4 := hcc 1 _ rfl
  have hgb3 : gb < w3.heap.size := Kd.S_lt hS3 gb (by simp [Value.ownBlock])
  clear hcc hfr hM hcl hS3
  have hI4 : IsS98 w0 w3.drew g s0 q2 := hI3.drew
  have hB4 : Below w0.heap.size w0 w3.drew := below_drew1 hB3
  have hK4' : KeepBut w w3.drew g none := keep_drew hK4
  have hH4 := Kd.H_drew hH
  have g4' := Kd.Q_drew g4
  have hsz4 : w3.drew.heap.size = w3.heap.size := rfl
  have hd4 : Below w3.heap.size w3 w3.drew := below_drew (Below.refl _ _)
  refine start_ (n := 18) (S := fun w' => w'.cell? ⟨gb, p.toNat * 4 + 1, none⟩ = some v4) (ds := [13, 14, 15, 16, 17]) #[false, false, false, false, false, false, false, false, false, false, false, false, false, false, false, false, false, false] rfl (by kernel_rfl) rfl ((hd4.cell hgb3).trans hx1) (fun hHeld => ?_)
  revert hI4 hB4 hK4' hH4 g4' hsz4 hHeld
  generalize w3.drew = w4
  intro hI4 hB4 hK4' hH4 g4' hsz4 hHeld
  clear hI3 hB3 hK4 hH g4 hx1 hd4
  refine pure_ (i := 0) (N := some 28) (v := ?_) (a' := ?_) #[true, false, false, false, false, false, false, false, false, false, false, false, false, false, false, false, false, false] rfl rfl (by kernel_rfl) (fun _ _ _ h => h) (Or.inl ⟨by rfl, ?_⟩) ?_ ?_
  rotate_left
  · intro w'
    go_simp
    with_reducible rfl
  rotate_left
  · simp only [Act.put, List.setIfInBounds_toArray, List.set_cons_zero, List.set_cons_succ, i64_w, i32_w]
    rfl
  refine pure_ (i := 1) (N := some 29) (v := ?_) (a' := ?_) #[true, true, false, false, false, false, false, false, false, false, false, false, false, false, false, false, false, false] rfl rfl (by kernel_rfl) (fun _ _ _ h => h) (Or.inl ⟨by rfl, ?_⟩) ?_ ?_
  rotate_left
  · intro w'
    go_simp
    with_reducible rfl
  rotate_left
  · simp only [Act.put, List.setIfInBounds_toArray, List.set_cons_zero, List.set_cons_succ, i64_w, i32_w]
    rfl
  refine pure_ (i := 2) (N := some 30) (v := ?_) (a' := ?_) #[true, true, true, false, false, false, false, false, false, false, false, false, false, false, false, false, false, false] rfl rfl (by kernel_rfl) (fun _ _ _ h => h) (Or.inl ⟨by rfl, ?_⟩) ?_ ?_
  rotate_left
  · intro w'
    go_simp
    with_reducible rfl
  rotate_left
  · simp only [Act.put, List.setIfInBounds_toArray, List.set_cons_zero, List.set_cons_succ, i64_w, i32_w]
    rfl
  refine pure_ (i := 3) (N := some 31) (v := ?_) (a' := ?_) #[true, true, true, true, false, false, false, false, false, false, false, false, false, false, false, false, false, false] rfl rfl (by kernel_rfl) (fun _ _ _ h => h) (Or.inl ⟨by rfl, ?_⟩) ?_ ?_
  rotate_left
  · intro w'
    go_simp
    with_reducible rfl
  rotate_left
  · simp only [Act.put, List.setIfInBounds_toArray, List.set_cons_zero, List.set_cons_succ, i64_w, i32_w]
    rfl
  refine pure_ (i := 4) (N := some 32) (v := ?_) (a' := ?_) #[true, true, true, true, true, false, false, false, false, false, false, false, false, false, false, false, false, false] rfl rfl (by kernel_rfl) (fun _ _ _ h => h) (Or.inl ⟨by rfl, ?_⟩) ?_ ?_
  rotate_left
  · intro w'
    go_simp
    with_reducible rfl
  rotate_left
  · simp only [Act.put, List.setIfInBounds_toArray, List.set_cons_zero, List.set_cons_succ, i64_w, i32_w]
    rfl
  refine pure_ (i := 5) (N := some 33) (v := ?_) (a' := ?_) #[true, true, true, true, true, true, false, false, false, false, false, false, false, false, false, false, false, false] rfl rfl (by kernel_rfl) (fun _ _ _ h => h) (Or.inl ⟨by rfl, ?_⟩) ?_ ?_
  rotate_left
  · intro w'
    go_simp
    with_reducible rfl
  rotate_left
  · simp only [Act.put, List.setIfInBounds_toArray, List.set_cons_zero, List.set_cons_succ, i64_w, i32_w]
    rfl
  refine pure_ (i := 6) (N := some 34) (v := ?_) (a' := ?_) #[true, true, true, true, true, true, true, false, false, false, false, false, false, false, false, false, false, false] rfl rfl (by kernel_rfl) (fun _ _ _ h => h) (Or.inl ⟨by rfl, ?_⟩) ?_ ?_
  rotate_left
  · intro w'
    go_simp
    with_reducible rfl
  rotate_left
  · simp only [Act.put, List.setIfInBounds_toArray, List.set_cons_zero, List.set_cons_succ, i64_w, i32_w]
    rfl
  refine take_ (i := 7) (N := some 35) (v := ?_) (a' := ?_) #[true, true, true, true, true, true, true, true, false, false, false, false, false, false, false, false, false, false] rfl rfl (by kernel_rfl) (fun _ _ _ h => h) (Or.inl ⟨by rfl, ?_⟩) hHeld ?_ ?_
  rotate_left
  · rintro w' hc
    go_simp
    with_reducible rfl
  rotate_left
  · simp only [Act.put, List.setIfInBounds_toArray, List.set_cons_zero, List.set_cons_succ, i64_w, i32_w]
    rfl
  refine pure_ (i := 8) (N := some 36) (v := ?_) (a' := ?_) #[true, true, true, true, true, true, true, true, true, false, false, false, false, false, false, false, false, false] rfl rfl (by kernel_rfl) (fun _ _ _ h => h) (Or.inl ⟨by rfl, ?_⟩) ?_ ?_
  rotate_left
  · intro w'
    go_simp
    with_reducible rfl
  rotate_left
  · simp only [Act.put, List.setIfInBounds_toArray, List.set_cons_zero, List.set_cons_succ, i64_w, i32_w]
    rfl
  refine pure_ (i := 9) (N := some 37) (v := ?_) (a' := ?_) #[true, true, true, true, true, true, true, true, true, true, false, false, false, false, false, false, false, false] rfl rfl (by kernel_rfl) (fun _ _ _ h => h) (Or.inl ⟨by rfl, ?_⟩) ?_ ?_
  rotate_left
  · intro w'
    go_simp
    with_reducible rfl
  rotate_left
  · simp only [Act.put, List.setIfInBounds_toArray, List.set_cons_zero, List.set_cons_succ, i64_w, i32_w]
    rfl
  refine pure_ (i := 10) (N := some 38) (v := ?_) (a' := ?_) #[true, true, true, true, true, true, true, true, true, true, true, false, false, false, false, false, false, false] rfl rfl (by kernel_rfl) (fun _ _ _ h => h) (Or.inl ⟨by rfl, ?_⟩) ?_ ?_
  rotate_left
  · intro w'
    go_simp
    with_reducible rfl
  rotate_left
  · simp only [Act.put, List.setIfInBounds_toArray, List.set_cons_zero, List.set_cons_succ, i64_w, i32_w]
    rfl
  refine one_ (i := 11) (N := some 39) #[true, true, true, true, true, true, true, true, true, true, true, true, false, false, false, false, false, false] rfl rfl (by kernel_rfl) (by decide) (fun K hK => ?_)
  refine goes_ Tryd.func80 (by kernel_rfl) rfl #[.pointer (some ⟨g, 0, none⟩), .int .i64 (a.length : Int)] (by rfl) rfl rfl (by (try simp only [List.map_toArray, List.map_cons, List.map_nil]); rfl) ?_
  refine (spec_reader_pick.calls k g s0 q2 (a.length : Int) b b2 w0 _ hI4 hB4 A4.out).mono ?_
  rintro e w5 ⟨rfl, hI5, hB5, hK5⟩
  have hgb4 : gb < w4.heap.size := by omega
  have hne : gb ≠ g := by have := Nat.lt_of_lt_of_le hglt hgb; omega
  refine ⟨_, rfl, hK.out _ _ (keep_cell hK5 hHeld hne) (fun hHeld5 => ?_)⟩
  clear hK K
  refine norm_ (a' := ?_) ?_ ?_
  rotate_left
  · show Act.put _ (some 39) _ = _
    simp only [Act.put, List.setIfInBounds_toArray, List.set_cons_zero, List.set_cons_succ, i64_w, i32_w]
    rfl
  have hH5 := Kd.H_keep hH4 hK5 (fun k hk => hk.1)
  have g5 := Kd.Q_keep g4' hK5 (fun k hk => (hoki k hk).1.1)
  have hg5lt := hI5.lt
  have hK6 := hK4'.trans hK5 (.inl rfl)
  have hsz5 : w3.heap.size ≤ w5.heap.size := by rw [← hsz4]; exact hK5.1
  clear hH4 g4' hK5 hK4' hI4 hB4 hHeld hsz4
  refine one_ (i := 12) (N := some 40) #[true, true, true, true, true, true, true, true, true, true, true, true, true, false, false, false, false, false] rfl rfl (by kernel_rfl) (by decide) (fun K hK => ?_)
  refine value_ (w1 := w5.alloc (.cells #[.int .i64 b] 3)) (v := .slice (some ⟨w5.heap.size, 0, none⟩) 1 1) (by rfl) rfl ?_ ?_
  · go_simp; try rfl
  refine hK.out _ _ ((((Below.refl w5.heap.size w5).alloc (Nat.le_refl _) (.cells #[.int .i64 b] 3)).cell (show gb < w5.heap.size by omega)).trans hHeld5) (fun hHeld6 => ?_)
  clear hK K
  refine norm_ (a' := ?_) ?_ ?_
  rotate_left
  · simp only [Act.put, List.setIfInBounds_toArray, List.set_cons_zero, List.set_cons_succ, i64_w, i32_w]
    rfl
  refine last_ (i := 13) (N := some 41) #[true, true, true, true, true, true, true, true, true, true, true, true, true, true, false, false, false, false] rfl rfl (by kernel_rfl) (by decide) (fun K hK => ?_)
  refine Kd.Q_append_step (Kd.int .i64) (w0 := w5) w.heap.size (by rfl) (.tmp 35) (.tmp 40) 31 3 (.int .i64 0) 8 rfl Tryd.underlying31 infoInt_ rfl (by decide) (by decide) v4 (rd_T33 a p).f1 b [.int .i64 b] (fun k => oki k ∨ w5.heap.size ≤ k) (fun _ => False) rfl rfl rfl (fun _ h => h.elim) (fun _ hk => .inr hk) (Kd.Q_mono g5 (fun _ hk => .inl hk)) (Below.refl _ _) hK6.1 (by omega) ?_
  intro v7 w7 hQ7 hB7 hg7 hat7
  refine hK.out _ _ ?_
  clear hK K
  refine norm_ (a' := ?_) ?_ ?_
  rotate_left
  · simp only [Act.put, List.setIfInBounds_toArray, List.set_cons_zero, List.set_cons_succ, i64_w, i32_w]
    rfl
  have hvo : ∀ k, v4.ownBlock = some k → oki k := fun k hk => g5.1 k hk
  have hH7 := Kd.H_grown hH5 hg7 hvo
  have hI7 := hI5.grown hg7 (fun e => (hoki g (hvo g e.symm)).1.1 rfl)
  have hB8 : Below w0.heap.size w0 w7 := by
    refine ⟨hg7.os.trans hB5.os, hg7.tape.trans hB5.tape, hg7.output.trans hB5.output, Nat.le_trans hB5.size hg7.size, fun k hk => (hg7.block k (Nat.lt_of_lt_of_le hk hB5.size) (fun e => ?_)).trans (hB5.block k hk)⟩
    have h1 := Kd.Q_base g5 k e.symm
    have h2 := hI5.ge
    omega
  have hK8 : KeepBut w w7 g none := ⟨Nat.le_trans hK6.1 hg7.size, fun k hk hkg hn => (hg7.block k (Nat.lt_of_lt_of_le hk hK6.1) (fun e => by have := Kd.Q_base g5 k e.symm; omega)).trans (hK6.2 k hk hkg hn)⟩
  have hsz7 := hg7.size
  obtain ⟨A7, c7, rfl, hl7, hC7⟩ := Kd.Q_reads hQ7
  have hlen7 : ((rd_T33 a p).f1 ++ [b]).length = (rd_T33 a p).f1.length + 1 := by simp
  have hQg := hQ7.1
  clear hH5 g5 hI5 hB5 hK6 hHeld5 hHeld6
  refine last_ (i := 14) (N := some 42) #[true, true, true, true, true, true, true, true, true, true, true, true, true, true, true, false, false, false] rfl rfl (by kernel_rfl) (by decide) (fun K hK => ?_)
  refine goes_ Tryd.func86 (by kernel_rfl) rfl #[.pointer (some ⟨g, 0, none⟩), .slice A7 ((rd_T33 a p).f1 ++ [b]).length c7, .int .i64 8] (by rfl) rfl rfl (by (try simp only [List.map_toArray, List.map_cons, List.map_nil]); rfl) ?_
  refine (spec_reader_spoil.calls k g s0 b2 A7 c7 ((rd_T33 a p).f1 ++ [b]) 8 r r2 w0 _ hI7 hB8 hC7 hl7 (fun ad e hpos7 => ?_) A5.out).mono ?_
  · subst e
    rcases hQg ad.block (by simp [Value.ownBlock]) with h | h
    · exact (hoki _ h).1.1
    · exact Nat.ne_of_gt (Nat.lt_of_lt_of_le hg5lt h)
  rintro e w9 ⟨v9, rfl, hQ9, hI9, hB9, hK9⟩
  refine ⟨_, rfl, hK.out _ _ ?_⟩
  clear hK K
  refine norm_ (a' := ?_) ?_ ?_
  rotate_left
  · simp only [Act.put, List.setIfInBounds_toArray, List.set_cons_zero, List.set_cons_succ, i64_w, i32_w]
    rfl
  have hH9 := Kd.H_keep hH7 hK9 (fun k hk => hk.1)
  have hH10 := Kd.H_mono (ok' := fun k => k ≠ g ∧ ¬ (w7.heap.size ≤ k)) hH9 (fun k hk => ⟨hk.1, by omega⟩)
  obtain ⟨hS11, hg11⟩ := Kd.S_seg (okg := fun k => w7.heap.size ≤ k) hH10 hp0 hp1 (seg := [v9]) (j := 1) (show 1 + 1 ≤ 4 from by decide) (x' := { rd_T33 a p with f1 := r }) (mkQ _ _ _ { rd_T33 a p with f1 := r } (Kd.Q_mono (Kd.Q_lower (Kd.Q_bound hQ9) (show w.heap.size ≤ w7.heap.size by have := hK8.1; omega)) (fun k hk => hk.2.1))) (fun k hk => .inr hk) (fun k hk => ⟨Nat.ne_of_gt (Nat.lt_of_lt_of_le hI7.lt hk), by omega⟩)
  obtain ⟨rows, _, hraw, _, _, hcc9, _⟩ := Kd.H_raw hH10 hp0 hp1
  have hcell9 : w9.cell? ⟨gb, p.toNat * 4 + 1, none⟩ = some v4 := hcc9 1 _ rfl
  obtain ⟨cs9, hcs9⟩ := Kd.R_typed hraw gb (by simp [Value.ownBlock])
  have hfz9 : w9.frozen? ⟨gb, p.toNat * 4 + 1, none⟩ = false := by simp [World.frozen?, hcs9]
  clear hraw hcc9 hcs9 hH10 hH9
  have hsl9 := Kd.Q_slice hQ9
  refine pure_ (i := 15) (N := some 43) (v := ?_) (a' := ?_) #[true, true, true, true, true, true, true, true, true, true, true, true, true, true, true, true, false, false] rfl rfl (by kernel_rfl) (fun _ _ _ h => h) (Or.inl ⟨by rfl, ?_⟩) ?_ ?_
  rotate_left
  · intro w'
    go_simp
    with_reducible rfl
  rotate_left
  · simp only [Act.put, List.setIfInBounds_toArray, List.set_cons_zero, List.set_cons_succ, i64_w, i32_w]
    rfl
  refine pure_ (i := 16) (N := some 44) (v := ?_) (a' := ?_) #[true, true, true, true, true, true, true, true, true, true, true, true, true, true, true, true, true, false] rfl rfl (by kernel_rfl) (fun _ _ _ h => h) (Or.inl ⟨by rfl, ?_⟩) ?_ ?_
  rotate_left
  · intro w'
    go_simp
    with_reducible rfl
  rotate_left
  · simp only [Act.put, List.setIfInBounds_toArray, List.set_cons_zero, List.set_cons_succ, i64_w, i32_w]
    rfl
  obtain ⟨A9, c9, hv9, _⟩ := hsl9
  refine last_ (i := 17) (N := none) #[true, true, true, true, true, true, true, true, true, true, true, true, true, true, true, true, true, true] rfl rfl (by kernel_rfl) (by decide) (fun K hK => ?_)
  refine skip_ (w1 := w9.setCell ⟨gb, p.toNat * 4 + 1, none⟩ v9) (by rfl) rfl ?_ ?_
  · subst hv9; go_simp
  refine hK.out _ _ ?_
  clear hK K
  refine done_ (by kernel_rfl) ?_
  have hS12 : Kd.S k33 33 (w9.setCell ⟨gb, p.toNat * 4 + 1, none⟩ v9) w.heap.size (fun k => k ≠ g) _ _ := hS11
  have hg12 : w9.grownBy (w9.setCell ⟨gb, p.toNat * 4 + 1, none⟩ v9) (some gb) := hg11
  have hI12 := hI9.grown hg12 (fun e => by injection e with e; have := Nat.lt_of_lt_of_le hglt hgb; omega)
  have hB12 := below_put hg12 hB9 (Nat.le_refl _) (by have := hI9.ge; omega)
  have hK12 := (hK8.trans hK9 (.inl rfl)).trans (KeepBut.of_grown hg12 g) (.inr ⟨gb, rfl, hgb⟩)
  revert hS12 hI12 hB12 hK12
  generalize w9.setCell ⟨gb, p.toNat * 4 + 1, none⟩ v9 = w13
  intro hS12 hI12 hB12 hK12
  clear hS11 hg11 hg12
  go_wp2
  go_ret
  exact ⟨_, rfl, Kd.S_mono hS12 (fun _ _ => trivial), hI12, hB12, hK12⟩
end Go.Proofs.YtffhdofcfkgoaaaDoor.Core
namespace Go.Proofs.YtffhdofcfkgoaaaDoor.P
open Go Go.RowKit Go.Shelf Go.Proofs.YtffhdofcfkgoaaaDoorW.PrintWords Go.Proofs.YtffhdofcfkgoaaaDoorW.PrintMore Go.Proofs.YtffhdofcfkgoaaaDoor.Core
noncomputable def spec_anyGraph.f (s0_0 : List Int) (s0_1 : Int) : Option (List S33 × Int) := lim (fun k => spec_anyGraph.fk k s0_0 s0_1)
theorem spec_anyGraph.calls (g : Nat) (s0_0 : List Int) (s0_1 : Int) (r1 : List S33) (r2 : Int) (w0 w : World) (hI : IsS98 w0 w g s0_0 s0_1) (hB : Below w0.heap.size w0 w) (h : spec_anyGraph.f s0_0 s0_1 = some (r1, r2)) :
    Calls Tryd.prog 60 #[.pointer (some ⟨g, 0, none⟩)] w fun e w' => ∃ v0_ : Value, e = .returned (v0_) ∧ Kd.S k33 33 w' w.heap.size (fun _ => True) v0_ r1 ∧ IsS98 w0 w' g s0_0 r2 ∧ Below w0.heap.size w0 w' ∧ KeepBut w w' g none := by
  obtain ⟨k, hk⟩ := lim_some h
  clear h
  unfold spec_anyGraph.fk at hk
  obtain ⟨⟨a, a2⟩, h1, hk⟩ := Option.bind_eq_some_iff.1 hk
  by_cases hl : a.length = 0
  · rw [if_pos hl] at hk
    cases hk
    obtain rfl := List.eq_nil_of_length_eq_zero hl
    exact any_empty k g s0_0 s0_1 w0 w hI hB _ h1
  · rw [if_neg hl] at hk
    obtain ⟨⟨p, p2⟩, h2, hk⟩ := Option.bind_eq_some_iff.1 hk
    obtain ⟨⟨q, q2⟩, h3, hk⟩ := Option.bind_eq_some_iff.1 hk
    by_cases hp : ¬ (0 ≤ p ∧ p < (a.length : Int))
    · rw [if_pos hp] at hk; cases hk
    · rw [if_neg hp] at hk
      obtain ⟨hp0, hp1⟩ := Decidable.not_not.1 hp
      have hpos : 0 < a.length := by omega
      by_cases e0 : q = 0
      · rw [if_pos e0] at hk
        obtain ⟨⟨t, t2⟩, h4, hk⟩ := Option.bind_eq_some_iff.1 hk
        cases hk
        exact any_case0 k g s0_0 s0_1 w0 w hI hB a a2 p p2 q q2 hpos hp0 hp1 h1 h2 h3 e0 t _ h4
      · rw [if_neg e0] at hk
        by_cases e1 : q = 1
        · rw [if_pos e1] at hk
          obtain ⟨⟨b, b2⟩, h4, hk⟩ := Option.bind_eq_some_iff.1 hk
          by_cases hlen : (rd_T33 a p).f1.length < 1000
          · simp only [hlen, if_true] at hk
            obtain ⟨⟨c, c2⟩, h5, hk⟩ := Option.bind_eq_some_iff.1 hk
            cases hk
            exact any_case1 k g s0_0 s0_1 w0 w hI hB a a2 p p2 q q2 hpos hp0 hp1 h1 h2 h3 e1 b b2 c _ h4 hlen h5
          · simp only [hlen, if_false] at hk; cases hk
        · rw [if_neg e1] at hk
          by_cases e2 : q = 2
          · rw [if_pos e2] at hk
            obtain ⟨⟨t, t2⟩, h4, hk⟩ := Option.bind_eq_some_iff.1 hk
            cases hk
            exact any_case2 k g s0_0 s0_1 w0 w hI hB a a2 p p2 q q2 hpos hp0 hp1 h1 h2 h3 e2 t _ h4
          · rw [if_neg e2] at hk
            by_cases e3 : q = 3
            · rw [if_pos e3] at hk
              obtain ⟨⟨t, t2⟩, h4, hk⟩ := Option.bind_eq_some_iff.1 hk
              cases hk
              exact any_case3 k g s0_0 s0_1 w0 w hI hB a a2 p p2 q q2 hpos hp0 hp1 h1 h2 h3 e3 t _ h4
            · rw [if_neg e3] at hk
              by_cases e4 : q = 4
              · rw [if_pos e4] at hk
                obtain ⟨⟨c, c2⟩, h4, hk⟩ := Option.bind_eq_some_iff.1 hk
                by_cases hlen : a.length + c.length < 1000
                · simp only [hlen, if_true] at hk
                  cases hk
                  exact any_case4 k g s0_0 s0_1 w0 w hI hB a a2 p p2 q q2 hpos hp0 hp1 h1 h2 h3 e4 c _ hlen h4
                · simp only [hlen, if_false] at hk; cases hk
              · rw [if_neg e4] at hk
                cases hk
                exact any_same k g s0_0 s0_1 w0 w hI hB a a2 p p2 q _ hpos hp0 hp1 h1 h2 h3 ⟨e0, e1, e2, e3, e4⟩
end Go.Proofs.YtffhdofcfkgoaaaDoor.P
namespace Go.Proofs.YtffhdofcfkgoaaaDoor.Core
end Go.Proofs.YtffhdofcfkgoaaaDoor.Core
end
section
namespace Go.Proofs.YtffhdofcfkgoaaaDoor.P
open Go.RowKit Go.Proofs.YtffhdofcfkgoaaaDoorW.PrintWords Go.Proofs.YtffhdofcfkgoaaaDoorW.PrintLast Go.Proofs.YtffhdofcfkgoaaaDoorW.PrintMore
attribute [local go_sem] max2_int min2_int max_two min_two max_three min_three max_four min_four   -- for this text's walks alone
set_option linter.unusedVariables false
set_option linter.unusedSimpArgs false
noncomputable def spec_smallGraph.f (k : Nat) (s0_0 : List Int) (s0_1 : Int) : Option ((List (S33)) × Int) := (spec_reader_pick.f k s0_0 s0_1 10).bind fun bt312 => (if bt312.1 = 0 then ((spec_anyGraph.f s0_0 bt312.2).bind fun bt314 => (some (bt314.1, bt314.2))) else ((spec_someGraph.f k s0_0 bt312.2 5).bind fun bt318 => (some (bt318.1, bt318.2))))
theorem spec_smallGraph.mono : ∀ a0 a1 k, LeO (spec_smallGraph.f k a0 a1) (spec_smallGraph.f (k + 1) a0 a1) := by
  intro a0 a1 k
  unfold spec_smallGraph.f
  repeat' first
      | (with_reducible exact spec_reader_pick.mono _ _ _ _)
      | (with_reducible exact spec_someGraph.mono _ _ _ _)
      | (with_reducible exact LeO.refl _)
      | (with_reducible exact LeO.none _)
      | (with_reducible refine LeO.ite ?_ ?_)
      | (with_reducible refine LeO.bind ?_ (fun _ => ?_))
      | exact spec_reader_pick.mono _ _ _ _
      | exact spec_someGraph.mono _ _ _ _
      | exact LeO.none _
      | refine LeO.ite ?_ ?_
      | refine LeO.bind ?_ (fun _ => ?_)
set_option maxHeartbeats 8000000 in
set_option maxRecDepth 100000 in
theorem spec_smallGraph.calls (k : Nat) (g : Nat) (s0_0 : List Int) (s0_1 : Int) (r1 : List (S33)) (r2 : Int) (w0 w : World) (hI : IsS98 w0 w g s0_0 s0_1) (hB : Below w0.heap.size w0 w) (h : spec_smallGraph.f k s0_0 s0_1 = some (r1, r2)) :
    Calls Tryd.prog 50 #[.pointer (some ⟨g, 0, none⟩)] w fun e w' => ∃ v0_ : Value, e = .returned (v0_) ∧ Kd.S k33 33 w' w.heap.size (fun _ => True) v0_ r1 ∧ IsS98 w0 w' g s0_0 r2 ∧ Below w0.heap.size w0 w' ∧ KeepBut w w' g none := by
  have HI0 := Aside0.mk hI
  have HK := Aside0.mk (KeepBut.refl w g none)
  have HL := Aside0.mk hB.size
  clear hI
  have HW0 := Aside0.mk hB.size
  have HB := Aside0.mk hB
  clear hB
  have H : ((spec_reader_pick.f k s0_0 s0_1 10).bind fun bt312 => (if bt312.1 = 0 then ((spec_anyGraph.f s0_0 bt312.2).bind fun bt314 => (some (bt314.1, bt314.2))) else ((spec_someGraph.f k s0_0 bt312.2 5).bind fun bt318 => (some (bt318.1, bt318.2))))) = some (r1, r2) := h
  clear h
  replace H := Option.bind_eq_some_iff.mp H
  obtain ⟨⟨t312, t313⟩, A20, H⟩ := H
  replace H : (if t312 = 0 then ((spec_anyGraph.f s0_0 t313).bind fun bt314 => (some (bt314.1, bt314.2))) else ((spec_someGraph.f k s0_0 t313 5).bind fun bt318 => (some (bt318.1, bt318.2)))) = some (r1, r2) := H
  have A2 := Aside0.mk A20
  clear A20
  by_cases c3 : t312 = 0
  · rw [if_pos c3] at H
    have c3b0 : (t312 == 0) = true := beq_iff_eq.mpr c3
    have c3b1 : (t312 != 0) = false := bne_eq_false_iff_eq.mpr c3
    clear c3
    replace H := Option.bind_eq_some_iff.mp H
    obtain ⟨⟨t314, t317⟩, A40, H⟩ := H
    replace H : (some (t314, t317)) = some (r1, r2) := H
    have A4 := Aside0.mk A40
    clear A40
    simp only [Option.some.injEq, Prod.mk.injEq] at H
    obtain ⟨rfl, rfl⟩ := H
    go_enter Tryd.func50, Tryd.ntmps50
    go_wp2_with (first | ((with_reducible refine gate_callee (f := 80) rfl ?_); refine goesL_ (some 4) rfl rfl Tryd.func80 (by kernel_rfl) rfl #[.pointer (some ⟨g, 0, none⟩), .int .i64 10] rfl (by (try simp only [List.map_toArray, List.map_cons, List.map_nil]); first | done | rfl | (simp only [List.length_drop, List.length_take]; rfl)) ?_; (with_reducible refine (spec_reader_pick.calls k g s0_0 s0_1 10 t312 t313 w0 _ ?side1 ?side2 A2.out).mono ?_); (case side1 => repeat (first | (with_reducible first | exact HI0.out | apply IsS98.alloc | apply IsS98.drewN | apply IsS98.drew | apply IsS98.set_1) | exact HI0.out)); (case side2 => repeat (first | (with_reducible first | exact HB.out | apply below_alloc | apply pw_below_drewN | apply below_drew1 | refine below_set ?_ (IsS98.ge HI0.out)) | exact HB.out)); rintro e w5 ⟨rfl, hi, hb, hk⟩; refine ⟨_, rfl, ?_⟩; have n0_ := Aside0.mk (KeepBut.trans (by repeat (first | (with_reducible first | exact HK.out | apply KeepBut.set_ | apply keep_drewN | apply keep_drew | apply keep_alloc) | exact HK.out)) hk (.inl rfl)); have n1_ := Aside0.mk (hb); have n2_ := Aside0.mk (hi); clear HK; clear HB; clear HI0; have HK := n0_; have HB := n1_; have HI0 := n2_; clear n0_ n1_ n2_; (try clear hb); (try clear hb2); (try clear hk); (try clear hi)) | ((with_reducible refine gate_callee (f := 60) rfl ?_); refine goesL_ (some 7) rfl rfl Tryd.func60 (by kernel_rfl) rfl #[.pointer (some ⟨g, 0, none⟩)] rfl (by (try simp only [List.map_toArray, List.map_cons, List.map_nil]); first | done | rfl | (simp only [List.length_drop, List.length_take]; rfl)) ?_; (with_reducible refine (spec_anyGraph.calls g s0_0 t313 t314 t317 w0 _ ?side1 ?side2 A4.out).mono ?_); (case side1 => repeat (first | (with_reducible first | exact HI0.out | apply IsS98.alloc | apply IsS98.drewN | apply IsS98.drew | apply IsS98.set_1) | exact HI0.out)); (case side2 => repeat (first | (with_reducible first | exact HB.out | apply below_alloc | apply pw_below_drewN | apply below_drew1 | refine below_set ?_ (IsS98.ge HI0.out)) | exact HB.out)); rintro e w6 ⟨v315, rfl, ho0, hi, hb, hk⟩; refine ⟨_, rfl, ?_⟩; have n0_ := Aside0.mk (Kd.S_lower ho0 (keep_size (w := w) (g := g) (row := none) (by repeat (first | (with_reducible first | exact HK.out | apply KeepBut.set_ | apply keep_drewN | apply keep_drew | apply keep_alloc) | exact HK.out)))); have n1_ := Aside0.mk (KeepBut.trans (by repeat (first | (with_reducible first | exact HK.out | apply KeepBut.set_ | apply keep_drewN | apply keep_drew | apply keep_alloc) | exact HK.out)) hk (.inl rfl)); have n2_ := Aside0.mk (hb); have n3_ := Aside0.mk (hi); clear HK; clear HB; clear HI0; have HO316 := n0_; have HK := n1_; have HB := n2_; have HI0 := n3_; clear n0_ n1_ n2_ n3_; (try clear hb); (try clear hb2); (try clear hk); (try clear hi); (try clear ho0)))
    go_ret
    exact ⟨_, by first | rfl | (simp [errW_none, errW_some] <;> rfl) | (simp [*, errW_none, errW_some] <;> rfl), by (with_reducible repeat (first | apply Kd.S_alloc | apply Kd.S_drewN | apply Kd.S_drew)); exact HO316.out, by repeat (first | (with_reducible first | exact HI0.out | apply IsS98.alloc | apply IsS98.drewN | apply IsS98.drew | apply IsS98.set_1) | exact HI0.out), by repeat (first | (with_reducible first | exact HB.out | apply below_alloc | apply pw_below_drewN | apply below_drew1 | refine below_set ?_ (IsS98.ge HI0.out)) | exact HB.out), by repeat (first | (with_reducible first | exact HK.out | apply KeepBut.set_ | apply keep_drewN | apply keep_drew | apply keep_alloc) | exact HK.out)⟩
  · rw [if_neg c3] at H
    have c3b0 : (t312 == 0) = false := beq_eq_false_iff_ne.mpr c3
    have c3b1 : (t312 != 0) = true := bne_iff_ne.mpr c3
    replace H := Option.bind_eq_some_iff.mp H
    obtain ⟨⟨t318, t321⟩, A70, H⟩ := H
    replace H : (some (t318, t321)) = some (r1, r2) := H
    have A7 := Aside0.mk A70
    clear A70
    simp only [Option.some.injEq, Prod.mk.injEq] at H
    obtain ⟨rfl, rfl⟩ := H
    go_enter Tryd.func50, Tryd.ntmps50
    go_wp2_with (first | ((with_reducible refine gate_callee (f := 80) rfl ?_); refine goesL_ (some 4) rfl rfl Tryd.func80 (by kernel_rfl) rfl #[.pointer (some ⟨g, 0, none⟩), .int .i64 10] rfl (by (try simp only [List.map_toArray, List.map_cons, List.map_nil]); first | done | rfl | (simp only [List.length_drop, List.length_take]; rfl)) ?_; (with_reducible refine (spec_reader_pick.calls k g s0_0 s0_1 10 t312 t313 w0 _ ?side1 ?side2 A2.out).mono ?_); (case side1 => repeat (first | (with_reducible first | exact HI0.out | apply IsS98.alloc | apply IsS98.drewN | apply IsS98.drew | apply IsS98.set_1) | exact HI0.out)); (case side2 => repeat (first | (with_reducible first | exact HB.out | apply below_alloc | apply pw_below_drewN | apply below_drew1 | refine below_set ?_ (IsS98.ge HI0.out)) | exact HB.out)); rintro e w8 ⟨rfl, hi, hb, hk⟩; refine ⟨_, rfl, ?_⟩; have n0_ := Aside0.mk (KeepBut.trans (by repeat (first | (with_reducible first | exact HK.out | apply KeepBut.set_ | apply keep_drewN | apply keep_drew | apply keep_alloc) | exact HK.out)) hk (.inl rfl)); have n1_ := Aside0.mk (hb); have n2_ := Aside0.mk (hi); clear HK; clear HB; clear HI0; have HK := n0_; have HB := n1_; have HI0 := n2_; clear n0_ n1_ n2_; (try clear hb); (try clear hb2); (try clear hk); (try clear hi)) | ((with_reducible refine gate_callee (f := 81) rfl ?_); refine goesL_ (some 9) rfl rfl Tryd.func81 (by kernel_rfl) rfl #[.pointer (some ⟨g, 0, none⟩), .int .i64 5] rfl (by (try simp only [List.map_toArray, List.map_cons, List.map_nil]); first | done | rfl | (simp only [List.length_drop, List.length_take]; rfl)) ?_; (with_reducible refine (spec_someGraph.calls k g s0_0 t313 5 t318 t321 w0 _ ?side1 ?side2 A7.out).mono ?_); (case side1 => repeat (first | (with_reducible first | exact HI0.out | apply IsS98.alloc | apply IsS98.drewN | apply IsS98.drew | apply IsS98.set_1) | exact HI0.out)); (case side2 => repeat (first | (with_reducible first | exact HB.out | apply below_alloc | apply pw_below_drewN | apply below_drew1 | refine below_set ?_ (IsS98.ge HI0.out)) | exact HB.out)); rintro e w9 ⟨v319, rfl, ho0, hi, hb, hk⟩; refine ⟨_, rfl, ?_⟩; have n0_ := Aside0.mk (Kd.S_lower ho0 (keep_size (w := w) (g := g) (row := none) (by repeat (first | (with_reducible first | exact HK.out | apply KeepBut.set_ | apply keep_drewN | apply keep_drew | apply keep_alloc) | exact HK.out)))); have n1_ := Aside0.mk (KeepBut.trans (by repeat (first | (with_reducible first | exact HK.out | apply KeepBut.set_ | apply keep_drewN | apply keep_drew | apply keep_alloc) | exact HK.out)) hk (.inl rfl)); have n2_ := Aside0.mk (hb); have n3_ := Aside0.mk (hi); clear HK; clear HB; clear HI0; have HO320 := n0_; have HK := n1_; have HB := n2_; have HI0 := n3_; clear n0_ n1_ n2_ n3_; (try clear hb); (try clear hb2); (try clear hk); (try clear hi); (try clear ho0)))
    go_ret
    exact ⟨_, by first | rfl | (simp [errW_none, errW_some] <;> rfl) | (simp [*, errW_none, errW_some] <;> rfl), by (with_reducible repeat (first | apply Kd.S_alloc | apply Kd.S_drewN | apply Kd.S_drew)); exact HO320.out, by repeat (first | (with_reducible first | exact HI0.out | apply IsS98.alloc | apply IsS98.drewN | apply IsS98.drew | apply IsS98.set_1) | exact HI0.out), by repeat (first | (with_reducible first | exact HB.out | apply below_alloc | apply pw_below_drewN | apply below_drew1 | refine below_set ?_ (IsS98.ge HI0.out)) | exact HB.out), by repeat (first | (with_reducible first | exact HK.out | apply KeepBut.set_ | apply keep_drewN | apply keep_drew | apply keep_alloc) | exact HK.out)⟩
def spec_newReader.f (l0 : List Int) : Option (List Int × Int) := if (l0.length : Int) > 2000 then (if 2000 ≤ (l0.length : Int) then (some (l0.take 2000, 0)) else (none)) else (some (l0, 0))
set_option maxHeartbeats 8000000 in
set_option maxRecDepth 100000 in
theorem spec_newReader.calls (A0 : Option Addr) (c0 : Nat) (l0 : List Int) (r1 : List Int) (r2 : Int) (w0 w : World) (hB : Below w0.heap.size w0 w) (hr0 : Kd.C (Kd.int .u8) w0 A0 l0.length l0) (hc0 : l0.length ≤ c0) (h : spec_newReader.f l0 = some (r1, r2)) :
    Calls Tryd.prog 51 #[.slice A0 l0.length c0] w fun e w' => ∃ g_ : Nat, e = .returned (.pointer (some ⟨g_, 0, none⟩)) ∧ IsS98 w0 w' g_ r1 r2 ∧ Below w0.heap.size w0 w' ∧ Below w.heap.size w w' := by
  have hu98 := Tryd.underlying98
  have HR0 := Aside0.mk hr0
  have HC0 := Aside0.mk hc0
  clear hr0 hc0
  have HBW := Aside0.mk (Below.refl w.heap.size w)
  have HW0 := Aside0.mk hB.size
  have HB := Aside0.mk hB
  clear hB
  have H : (if (l0.length : Int) > 2000 then (if 2000 ≤ (l0.length : Int) then (some (l0.take 2000, 0)) else (none)) else (some (l0, 0))) = some (r1, r2) := h
  clear h
  by_cases c2 : (l0.length : Int) > 2000
  · rw [if_pos c2] at H
    have c2b0 : decide (2000 < (l0.length : Int)) = true := decide_eq_true c2
    have c2b1 : decide (2000 < l0.length) = true := decide_eq_true (by omega)
    clear c2
    by_cases c3 : 2000 ≤ (l0.length : Int)
    · rw [if_pos c3] at H
      have c3b0 := eq_true c3
      have c3b1 : decide (2000 ≤ (l0.length : Int)) = true := decide_eq_true c3
      clear c3
      simp only [Option.some.injEq, Prod.mk.injEq] at H
      obtain ⟨rfl, rfl⟩ := H
      obtain ⟨i04, hi04, _, hsz4, _⟩ := info_parts info5
      obtain ⟨hcut4, hA4, hC4⟩ := print_take_of (P := Tryd.prog) (Value.int .u8) 0 29 5 .i64 Tryd.underlying29 hi04 hsz4 A0 c0 l0 2000 (by omega) (of_decide_eq_true (by first | (with_reducible assumption) | assumption)) HC0.out
      have HR322 := Aside0.mk (Kd.C_of_reads (h1 := fun _ => rfl) (hA4 _ (Kd.reads_of_C HR0.out)))
      have HC322 := Aside0.mk hC4
      clear hA4 hC4 hi04 hsz4
      go_enter Tryd.func51, Tryd.ntmps51
      go_wp2_with (first | ((with_reducible refine gate_dst (N := 10) rfl ?_); refine box_event ?hg (N := 10) ?hd (cs := #[.slice A0 (l0.take 2000).length c0, .int .i64 0]) (t := 98) ?hr ?_; (case hd => rfl); (case hg => rfl); (case hr => first | (go_simp; done) | (go_simp; rfl)); intro gb323 hg w5 hbox hb; have n0_ := Aside0.mk (below_step HBW.out hb); have n1_ := Aside0.mk (below_step (by repeat (first | (with_reducible first | exact HB.out | apply below_alloc | apply pw_below_drewN | apply below_drew1) | exact HB.out)) hb); have n2_ := Aside0.mk (hbox); have n3_ := Aside0.mk ((by rw [hg]; exact (below_size (by repeat (first | (with_reducible first | exact HBW.out | apply below_alloc | apply pw_below_drewN | apply below_drew1) | exact HBW.out))) : w.heap.size ≤ gb323)); have n4_ := Aside0.mk ((Nat.le_trans HW0.out (by rw [hg]; exact (below_size (by repeat (first | (with_reducible first | exact HBW.out | apply below_alloc | apply pw_below_drewN | apply below_drew1) | exact HBW.out))) : w.heap.size ≤ gb323) : w0.heap.size ≤ gb323)); clear HBW; clear HB; have HBW := n0_; have HB := n1_; have BK323 := n2_; have GW323 := n3_; have GE323 := n4_; clear n0_ n1_ n2_ n3_ n4_; clear hb hbox hg))
      go_ret
      exact ⟨_, rfl, (show IsS98 w0 _ gb323 (l0.take 2000) 0 from ⟨_, _, by (with_reducible repeat (first | refine blk_drewN ?_ _ | refine blk_drew ?_ | refine blk_alloc ?_ _)); exact BK323.out, GE323.out, HR322.out⟩), by repeat (first | (with_reducible first | exact HB.out | apply below_alloc | apply pw_below_drewN | apply below_drew1 | refine below_set ?_ GE323.out) | exact HB.out), by repeat (first | (with_reducible first | exact HBW.out | apply below_alloc | apply pw_below_drewN | apply below_drew1 | refine below_set ?_ GW323.out) | exact HBW.out)⟩
    · rw [if_neg c3] at H
      exact absurd H (by simp)
  · rw [if_neg c2] at H
    have c2b0 : decide (2000 < (l0.length : Int)) = false := decide_eq_false c2
    have c2b1 : decide (2000 < l0.length) = false := decide_eq_false (by omega)
    clear c2
    simp only [Option.some.injEq, Prod.mk.injEq] at H
    obtain ⟨rfl, rfl⟩ := H
    go_enter Tryd.func51, Tryd.ntmps51
    go_wp2_with (first | ((with_reducible refine gate_dst (N := 10) rfl ?_); refine box_event ?hg (N := 10) ?hd (cs := #[.slice A0 l0.length c0, .int .i64 0]) (t := 98) ?hr ?_; (case hd => rfl); (case hg => rfl); (case hr => first | (go_simp; done) | (go_simp; rfl)); intro gb324 hg w6 hbox hb; have n0_ := Aside0.mk (below_step HBW.out hb); have n1_ := Aside0.mk (below_step (by repeat (first | (with_reducible first | exact HB.out | apply below_alloc | apply pw_below_drewN | apply below_drew1) | exact HB.out)) hb); have n2_ := Aside0.mk (hbox); have n3_ := Aside0.mk ((by rw [hg]; exact (below_size (by repeat (first | (with_reducible first | exact HBW.out | apply below_alloc | apply pw_below_drewN | apply below_drew1) | exact HBW.out))) : w.heap.size ≤ gb324)); have n4_ := Aside0.mk ((Nat.le_trans HW0.out (by rw [hg]; exact (below_size (by repeat (first | (with_reducible first | exact HBW.out | apply below_alloc | apply pw_below_drewN | apply below_drew1) | exact HBW.out))) : w.heap.size ≤ gb324) : w0.heap.size ≤ gb324)); clear HBW; clear HB; have HBW := n0_; have HB := n1_; have BK324 := n2_; have GW324 := n3_; have GE324 := n4_; clear n0_ n1_ n2_ n3_ n4_; clear hb hbox hg))
    go_ret
    exact ⟨_, rfl, (show IsS98 w0 _ gb324 l0 0 from ⟨_, _, by (with_reducible repeat (first | refine blk_drewN ?_ _ | refine blk_drew ?_ | refine blk_alloc ?_ _)); exact BK324.out, GE324.out, HR0.out⟩), by repeat (first | (with_reducible first | exact HB.out | apply below_alloc | apply pw_below_drewN | apply below_drew1 | refine below_set ?_ GE324.out) | exact HB.out), by repeat (first | (with_reducible first | exact HBW.out | apply below_alloc | apply pw_below_drewN | apply below_drew1 | refine below_set ?_ GW324.out) | exact HBW.out)⟩
end Go.Proofs.YtffhdofcfkgoaaaDoor.P
end
section
namespace Go.Proofs.YtffhdofcfkgoaaaDoor.P
open Go.RowKit Go.Proofs.YtffhdofcfkgoaaaDoorW.PrintWords Go.Proofs.YtffhdofcfkgoaaaDoorW.PrintLast Go.Proofs.YtffhdofcfkgoaaaDoorW.PrintMore
attribute [local go_sem] max2_int min2_int max_two min_two max_three min_three max_four min_four   -- for this text's walks alone
set_option linter.unusedVariables false
set_option linter.unusedSimpArgs false
noncomputable def spec_DrawStagesOf.f (l0 : List Int) : Option ((List (S33))) := (spec_newReader.f l0).bind fun bt691 => ((spec_anyGraph.f bt691.1 bt691.2).bind fun bt694 => (some bt694.1))
set_option maxHeartbeats 8000000 in
set_option maxRecDepth 100000 in
theorem spec_DrawStagesOf.calls (A0 : Option Addr) (c0 : Nat) (l0 : List Int) (r : List (S33)) (w : World) (hr0 : Kd.C (Kd.int .u8) w A0 l0.length l0) (hc0 : l0.length ≤ c0) (h : spec_DrawStagesOf.f l0 = some r) :
    Calls Tryd.prog 39 #[.slice A0 l0.length c0] w fun e w' => ∃ v0_ : Value, e = .returned (v0_) ∧ Kd.S k33 33 w' w.heap.size (fun _ => True) v0_ r ∧ Below w.heap.size w w' := by
  have HR0 := Aside0.mk hr0
  have HC0 := Aside0.mk hc0
  clear hr0 hc0
  have HB := Aside0.mk (Below.refl w.heap.size w)
  have H : ((spec_newReader.f l0).bind fun bt691 => ((spec_anyGraph.f bt691.1 bt691.2).bind fun bt694 => (some bt694.1))) = some r := h
  clear h
  replace H := Option.bind_eq_some_iff.mp H
  obtain ⟨⟨t691, t692⟩, A20, H⟩ := H
  replace H : ((spec_anyGraph.f t691 t692).bind fun bt694 => (some bt694.1)) = some r := H
  have A2 := Aside0.mk A20
  clear A20
  replace H := Option.bind_eq_some_iff.mp H
  obtain ⟨⟨t694, t697⟩, A30, H⟩ := H
  replace H : (some t694) = some r := H
  have A3 := Aside0.mk A30
  clear A30
  obtain rfl := Option.some.inj H
  go_enter Tryd.func39, Tryd.ntmps39
  go_wp2_with (first | ((with_reducible refine gate_callee (f := 51) rfl ?_); refine goesL_ (some 4) rfl rfl Tryd.func51 (by kernel_rfl) rfl #[.slice A0 l0.length c0] rfl (by (try simp only [List.map_toArray, List.map_cons, List.map_nil]); first | done | rfl | (simp only [List.length_drop, List.length_take]; rfl)) ?_; (with_reducible refine (spec_newReader.calls _ _ l0 t691 t692 w _ ?side1 ?side2 ?side3 A2.out).mono ?_); (case side1 => repeat (first | (with_reducible first | exact HB.out | apply below_alloc | apply pw_below_drewN | apply below_drew1) | exact HB.out)); (case side2 => exact HR0.out); (case side3 => exact HC0.out); rintro e w4 ⟨g693, rfl, hi, hb, hb2⟩; refine ⟨_, rfl, ?_⟩; have n0_ := Aside0.mk (hb); have n1_ := Aside0.mk (hi); clear HB; have HB := n0_; have HI693 := n1_; clear n0_ n1_; (try clear hb); (try clear hb2); (try clear hk); (try clear hi)) | ((with_reducible refine gate_callee (f := 60) rfl ?_); refine goesL_ (some 5) rfl rfl Tryd.func60 (by kernel_rfl) rfl #[.pointer (some ⟨g693, 0, none⟩)] rfl (by (try simp only [List.map_toArray, List.map_cons, List.map_nil]); first | done | rfl | (simp only [List.length_drop, List.length_take]; rfl)) ?_; (with_reducible refine (spec_anyGraph.calls g693 t691 t692 t694 t697 w _ ?side1 ?side2 A3.out).mono ?_); (case side1 => repeat (first | (with_reducible first | exact HI693.out | apply IsS98.alloc | apply IsS98.drewN | apply IsS98.drew | apply IsS98.set_1) | exact HI693.out)); (case side2 => repeat (first | (with_reducible first | exact HB.out | apply below_alloc | apply pw_below_drewN | apply below_drew1 | refine below_set ?_ (IsS98.ge HI693.out)) | exact HB.out)); rintro e w5 ⟨v695, rfl, ho0, hi, hb, hk⟩; refine ⟨_, rfl, ?_⟩; have n0_ := Aside0.mk (Kd.S_lower ho0 (below_size (by repeat (first | (with_reducible first | exact HB.out | apply below_alloc | apply pw_below_drewN | apply below_drew1 | refine below_set ?_ (IsS98.ge HI693.out)) | exact HB.out)))); have n1_ := Aside0.mk (hb); have n2_ := Aside0.mk (hi); clear HB; clear HI693; have HO696 := n0_; have HB := n1_; have HI693 := n2_; clear n0_ n1_ n2_; (try clear hb); (try clear hb2); (try clear hk); (try clear hi); (try clear ho0)))
  go_ret
  exact ⟨_, by first | rfl | (simp [errW_none, errW_some] <;> rfl) | (simp [*, errW_none, errW_some] <;> rfl), by (with_reducible repeat (first | apply Kd.S_alloc | apply Kd.S_drewN | apply Kd.S_drew)); exact HO696.out, by repeat (first | (with_reducible first | exact HB.out | apply below_alloc | apply pw_below_drewN | apply below_drew1 | refine below_set ?_ (IsS98.ge HI693.out)) | exact HB.out)⟩
end Go.Proofs.YtffhdofcfkgoaaaDoor.P
end
section
namespace Go.Proofs.YtffhdofcfkgoaaaDoor.P
open Go.Proofs.YtffhdofcfkgoaaaDoor.Core (Tab Tab.of)
open Go.RowKit Go.Proofs.YtffhdofcfkgoaaaDoorW.PrintWords Go.Proofs.YtffhdofcfkgoaaaDoorW.PrintLast Go.Proofs.YtffhdofcfkgoaaaDoorW.PrintMore
attribute [local go_sem] max2_int min2_int max_two min_two max_three min_three max_four min_four   -- for this text's walks alone
set_option linter.unusedVariables false
set_option linter.unusedSimpArgs false
noncomputable def laws_FnStagesOfChain.j0 : Nat → List (S33) → List (List Int) → Bool → Option (Bool)
  | 0, _, _, _ => none
  | k + 1, x3, x4, x21 => if x21 = true then ((spec_StagesOf.f k x3).bind fun t742 => ((laws_equalLists.f k x4 t742).bind fun t745 => (some t745))) else ((impl_CountOrders.f x3).bind fun t746 => (some (((x4.length : Int) == (x3.length : Int)) == (t746 == 1))))
noncomputable def laws_FnStagesOfChain.f (k : Nat) (l0 : List Int) : Option (Bool) := if (l0.length : Int) > 1048576 then (some true) else ((spec_DrawStagesOf.f l0).bind fun t731 => ((impl_StagesOf.f t731).bind fun t734 => ((spec_StagesOf.f k t731).bind fun t737 => ((laws_equalLists.f k t734 t737).bind fun t740 => (if t740 = true then ((impl_CountOrders.f t731).bind fun t741 => (laws_FnStagesOfChain.j0 k t731 t734 (decide (t741 < 0)))) else (laws_FnStagesOfChain.j0 k t731 t734 true))))))
theorem laws_FnStagesOfChain.mono_l : ∀ k, (∀ y0 y1 y2, LeO (laws_FnStagesOfChain.j0 k y0 y1 y2) (laws_FnStagesOfChain.j0 (k + 1) y0 y1 y2))
  | 0 => fun _ _ _ r h => by simp [laws_FnStagesOfChain.j0] at h
  | k + 1 => by
    have ih0 := laws_FnStagesOfChain.mono_l k
    · intro y0 y1 y2
      unfold laws_FnStagesOfChain.j0
      repeat' first
      | (with_reducible exact ih0 _ _ _)
      | (with_reducible exact laws_equalLists.mono _ _ _)
      | (with_reducible exact spec_StagesOf.mono _ _)
      | (with_reducible exact LeO.refl _)
      | (with_reducible exact LeO.none _)
      | (with_reducible refine LeO.ite ?_ ?_)
      | (with_reducible refine LeO.bind ?_ (fun _ => ?_))
      | exact ih0 _ _ _
      | exact laws_equalLists.mono _ _ _
      | exact spec_StagesOf.mono _ _
      | exact LeO.none _
      | refine LeO.ite ?_ ?_
      | refine LeO.bind ?_ (fun _ => ?_)
theorem laws_FnStagesOfChain.mono : ∀ a0 k, LeO (laws_FnStagesOfChain.f k a0) (laws_FnStagesOfChain.f (k + 1) a0) := by
  intro a0 k
  have ih0 := laws_FnStagesOfChain.mono_l k
  unfold laws_FnStagesOfChain.f
  repeat' first
      | (with_reducible exact ih0 _ _ _)
      | (with_reducible exact laws_equalLists.mono _ _ _)
      | (with_reducible exact spec_StagesOf.mono _ _)
      | (with_reducible exact LeO.refl _)
      | (with_reducible exact LeO.none _)
      | (with_reducible refine LeO.ite ?_ ?_)
      | (with_reducible refine LeO.bind ?_ (fun _ => ?_))
      | exact ih0 _ _ _
      | exact laws_equalLists.mono _ _ _
      | exact spec_StagesOf.mono _ _
      | exact LeO.none _
      | refine LeO.ite ?_ ?_
      | refine LeO.bind ?_ (fun _ => ?_)
set_option maxHeartbeats 8000000 in
set_option maxRecDepth 100000 in
theorem laws_FnStagesOfChain.calls (k : Nat) (A0 : Option Addr) (c0 : Nat) (l0 : List Int) (r : Bool) (w : World) (hr0 : Kd.C (Kd.int .u8) w A0 l0.length l0) (hc0 : l0.length ≤ c0) (hT : Tab w) (h : laws_FnStagesOfChain.f k l0 = some r) :
    Calls Tryd.prog 14 #[.slice A0 l0.length c0] w fun e w' => e = .returned (.bool r) ∧ Below w.heap.size w w' := by
  have HT := Aside0.mk hT
  clear hT
  have HR0 := Aside0.mk hr0
  have HC0 := Aside0.mk hc0
  clear hr0 hc0
  have HB := Aside0.mk (Below.refl w.heap.size w)
  have H : (if (l0.length : Int) > 1048576 then (some true) else ((spec_DrawStagesOf.f l0).bind fun t731 => ((impl_StagesOf.f t731).bind fun t734 => ((spec_StagesOf.f k t731).bind fun t737 => ((laws_equalLists.f k t734 t737).bind fun t740 => (if t740 = true then ((impl_CountOrders.f t731).bind fun t741 => (laws_FnStagesOfChain.j0 k t731 t734 (decide (t741 < 0)))) else (laws_FnStagesOfChain.j0 k t731 t734 true))))))) = some r := h
  clear h
  by_cases c2 : (l0.length : Int) > 1048576
  · rw [if_pos c2] at H
    have c2b0 : decide (1048576 < (l0.length : Int)) = true := decide_eq_true c2
    have c2b1 : decide (1048576 < l0.length) = true := decide_eq_true (by omega)
    clear c2
    obtain rfl := Option.some.inj H
    go_enter Tryd.func14, Tryd.ntmps14
    go_wp2
    go_ret
    exact ⟨by first | rfl | (simp [errW_none, errW_some] <;> rfl) | (simp [*, errW_none, errW_some] <;> rfl), by repeat (first | (with_reducible first | exact HB.out | apply below_alloc | apply pw_below_drewN | apply below_drew1) | exact HB.out)⟩
  · rw [if_neg c2] at H
    have c2b0 : decide (1048576 < (l0.length : Int)) = false := decide_eq_false c2
    have c2b1 : decide (1048576 < l0.length) = false := decide_eq_false (by omega)
    clear c2
    replace H := Option.bind_eq_some_iff.mp H
    obtain ⟨t731, A30, H⟩ := H
    replace H : ((impl_StagesOf.f t731).bind fun t734 => ((spec_StagesOf.f k t731).bind fun t737 => ((laws_equalLists.f k t734 t737).bind fun t740 => (if t740 = true then ((impl_CountOrders.f t731).bind fun t741 => (laws_FnStagesOfChain.j0 k t731 t734 (decide (t741 < 0)))) else (laws_FnStagesOfChain.j0 k t731 t734 true))))) = some r := H
    have A3 := Aside0.mk A30
    clear A30
    replace H := Option.bind_eq_some_iff.mp H
    obtain ⟨t734, A40, H⟩ := H
    replace H : ((spec_StagesOf.f k t731).bind fun t737 => ((laws_equalLists.f k t734 t737).bind fun t740 => (if t740 = true then ((impl_CountOrders.f t731).bind fun t741 => (laws_FnStagesOfChain.j0 k t731 t734 (decide (t741 < 0)))) else (laws_FnStagesOfChain.j0 k t731 t734 true)))) = some r := H
    have A4 := Aside0.mk A40
    clear A40
    have HC5 := Aside0.mk H
    clear H
    go_enter Tryd.func14, Tryd.ntmps14
    go_upto_region 5 with (first | ((with_reducible refine gate_callee (f := 39) rfl ?_); refine goesL_ (some 9) rfl rfl Tryd.func39 (by kernel_rfl) rfl #[.slice A0 l0.length c0] rfl (by (try simp only [List.map_toArray, List.map_cons, List.map_nil]); first | done | rfl | (simp only [List.length_drop, List.length_take]; rfl)) ?_; (with_reducible refine (spec_DrawStagesOf.calls _ _ l0 t731 _ ?side1 ?side2 A3.out).mono ?_); (case side1 => repeat (first | exact HR0.out | (with_reducible refine Kd.C_alloc ?_ _) | (with_reducible refine Kd.C_drewN ?_ _) | (with_reducible refine Kd.C_drew ?_))); (case side2 => exact HC0.out); rintro e w6 ⟨v732, rfl, ho0, hb⟩; refine ⟨_, rfl, ?_⟩; have n0_ := Aside0.mk (Kd.S_lower ho0 (below_size (by repeat (first | (with_reducible first | exact HB.out | apply below_alloc | apply pw_below_drewN | apply below_drew1) | exact HB.out)))); have n1_ := Aside0.mk (below_step (by repeat (first | (with_reducible first | exact HB.out | apply below_alloc | apply pw_below_drewN | apply below_drew1) | exact HB.out)) hb); clear HB; have HO733 := n0_; have HB := n1_; clear n0_ n1_; (try clear hb); (try clear hb2); (try clear hk); (try clear hi); (try clear ho0); obtain ⟨Ao7, co7, eo7⟩ := Kd.S_slice HO733.out; subst eo7) | ((with_reducible refine gate_callee (f := 40) rfl ?_); refine goesL_ (some 11) rfl rfl Tryd.func40 (by kernel_rfl) rfl #[.slice Ao7 t731.length co7] rfl (by (try simp only [List.map_toArray, List.map_cons, List.map_nil]); first | done | rfl | (simp only [List.length_drop, List.length_take]; rfl)) ?_; (with_reducible refine (impl_StagesOf.calls _ _ t731 t734 _ ?side1 ?side2 ?side3 A4.out).mono ?_); (case side1 => repeat (first | exact (Kd.S_reads' HO733.out).2.2 | (with_reducible refine Kd.C_alloc ?_ _) | (with_reducible refine Kd.C_drewN ?_ _) | (with_reducible refine Kd.C_drew ?_))); (case side2 => exact (Kd.S_reads' HO733.out).2.1); (case side3 => exact Tab.of HT.out (by repeat (first | (with_reducible first | exact HB.out | apply below_alloc | apply pw_below_drewN | apply below_drew1) | exact HB.out))); rintro e w8 ⟨v735, rfl, ho0, hb⟩; refine ⟨_, rfl, ?_⟩; have n0_ := Aside0.mk (Kd.S_below (by (with_reducible repeat (first | apply Kd.S_alloc | apply Kd.S_drewN | apply Kd.S_drew)); exact HO733.out) hb); have n1_ := Aside0.mk (Kd.S_lower ho0 (below_size (by repeat (first | (with_reducible first | exact HB.out | apply below_alloc | apply pw_below_drewN | apply below_drew1) | exact HB.out)))); have n2_ := Aside0.mk (below_step (by repeat (first | (with_reducible first | exact HB.out | apply below_alloc | apply pw_below_drewN | apply below_drew1) | exact HB.out)) hb); clear HO733; clear HB; have HO733 := n0_; have HO736 := n1_; have HB := n2_; clear n0_ n1_ n2_; (try clear hb); (try clear hb2); (try clear hk); (try clear hi); (try clear ho0)))
    (try simp only [Act.put, List.setIfInBounds_toArray, List.set_cons_zero, List.set_cons_succ])
    go_cut [21] (fun v21 wc => ∃ (kq : Nat) (x21_4 : Bool), v21 = .bool x21_4 ∧ Aside0 (laws_FnStagesOfChain.j0 kq t731 t734 x21_4 = some r) ∧ Aside0 (kq ≤ k) ∧ Aside0 (Kd.S k33 33 wc w.heap.size (fun _ => True) (.slice Ao7 t731.length co7) t731) ∧ Aside0 (Kd.S (Kd.slice 3 (Kd.int .i64)) 31 wc w.heap.size (fun _ => True) v735 t734) ∧ Aside0 (Below w.heap.size w wc))
    case first =>
      have H := HC5.out
      clear HC5
      replace H := Option.bind_eq_some_iff.mp H
      obtain ⟨t737, A90, H⟩ := H
      replace H : ((laws_equalLists.f k t734 t737).bind fun t740 => (if t740 = true then ((impl_CountOrders.f t731).bind fun t741 => (laws_FnStagesOfChain.j0 k t731 t734 (decide (t741 < 0)))) else (laws_FnStagesOfChain.j0 k t731 t734 true))) = some r := H
      have A9 := Aside0.mk A90
      clear A90
      replace H := Option.bind_eq_some_iff.mp H
      obtain ⟨t740, A100, H⟩ := H
      replace H : (if t740 = true then ((impl_CountOrders.f t731).bind fun t741 => (laws_FnStagesOfChain.j0 k t731 t734 (decide (t741 < 0)))) else (laws_FnStagesOfChain.j0 k t731 t734 true)) = some r := H
      have A10 := Aside0.mk A100
      clear A100
      by_cases c11 : t740 = true
      · subst c11
        have H1 : ((impl_CountOrders.f t731).bind fun t741 => (laws_FnStagesOfChain.j0 k t731 t734 (decide (t741 < 0)))) = some r := by rw [if_pos rfl] at H; exact H
        clear H
        have H := H1
        clear H1
        replace H := Option.bind_eq_some_iff.mp H
        obtain ⟨t741, A120, H⟩ := H
        replace H : (laws_FnStagesOfChain.j0 k t731 t734 (decide (t741 < 0))) = some r := H
        have A12 := Aside0.mk A120
        clear A120
        have H' := Aside0.mk H
        clear H
        go_wp2_with (first | ((with_reducible refine gate_callee (f := 42) rfl ?_); refine goesL_ (some 14) rfl rfl Tryd.func42 (by kernel_rfl) rfl #[.slice Ao7 t731.length co7] rfl (by (try simp only [List.map_toArray, List.map_cons, List.map_nil]); first | done | rfl | (simp only [List.length_drop, List.length_take]; rfl)) ?_; (with_reducible refine (spec_StagesOf.calls k _ _ t731 t737 _ ?side1 ?side2 A9.out).mono ?_); (case side1 => repeat (first | exact (Kd.S_reads' HO733.out).2.2 | (with_reducible refine Kd.C_alloc ?_ _) | (with_reducible refine Kd.C_drewN ?_ _) | (with_reducible refine Kd.C_drew ?_))); (case side2 => exact (Kd.S_reads' HO733.out).2.1); rintro e w13 ⟨v738, rfl, ho0, hb⟩; refine ⟨_, rfl, ?_⟩; have n0_ := Aside0.mk (Kd.S_below (by (with_reducible repeat (first | apply Kd.S_alloc | apply Kd.S_drewN | apply Kd.S_drew)); exact HO733.out) hb); have n1_ := Aside0.mk (Kd.S_elder' (by (with_reducible repeat (first | apply Kd.S_alloc | apply Kd.S_drewN | apply Kd.S_drew)); exact HO736.out) (Kd.S_base ho0) hb); have n2_ := Aside0.mk (Kd.S_lower (Kd.S_new' ho0 (Kd.S_lt (by (with_reducible repeat (first | apply Kd.S_alloc | apply Kd.S_drewN | apply Kd.S_drew)); exact HO736.out))) (below_size (by repeat (first | (with_reducible first | exact HB.out | apply below_alloc | apply pw_below_drewN | apply below_drew1) | exact HB.out)))); have n3_ := Aside0.mk (below_step (by repeat (first | (with_reducible first | exact HB.out | apply below_alloc | apply pw_below_drewN | apply below_drew1) | exact HB.out)) hb); clear HO733; clear HO736; clear HB; have HO733 := n0_; have HO736 := n1_; have HO739 := n2_; have HB := n3_; clear n0_ n1_ n2_ n3_; (try clear hb); (try clear hb2); (try clear hk); (try clear hi); (try clear ho0); obtain ⟨Ao14, co14, eo14⟩ := Kd.S_slice HO736.out; subst eo14; obtain ⟨Ao15, co15, eo15⟩ := Kd.S_slice HO739.out; subst eo15) | ((with_reducible refine gate_callee (f := 41) rfl ?_); refine goesL_ (some 15) rfl rfl Tryd.func41 (by kernel_rfl) rfl #[.slice Ao14 t734.length co14, .slice Ao15 t737.length co15] rfl (by (try simp only [List.map_toArray, List.map_cons, List.map_nil]); first | done | rfl | (simp only [List.length_drop, List.length_take]; rfl)) ?_; (with_reducible refine (laws_equalLists.calls k _ _ t734 _ _ t737 true _ ?side1 ?side2 ?side3 ?side4 A10.out).mono ?_); (case side1 => repeat (first | exact (Kd.S_reads' HO736.out).2.2 | (with_reducible refine Kd.C_alloc ?_ _) | (with_reducible refine Kd.C_drewN ?_ _) | (with_reducible refine Kd.C_drew ?_))); (case side2 => exact (Kd.S_reads' HO736.out).2.1); (case side3 => repeat (first | exact (Kd.S_reads' HO739.out).2.2 | (with_reducible refine Kd.C_alloc ?_ _) | (with_reducible refine Kd.C_drewN ?_ _) | (with_reducible refine Kd.C_drew ?_))); (case side4 => exact (Kd.S_reads' HO739.out).2.1); rintro e w' ⟨rfl, ⟨nd, rfl⟩⟩; refine ⟨_, rfl, ?_⟩) | (go_at_call 18; (with_reducible refine (impl_CountOrders.calls _ _ t731 t741 _ ?side1 ?side2 ?side3 A12.out).mono ?_); (case side1 => repeat (first | exact (Kd.S_reads' HO733.out).2.2 | (with_reducible refine Kd.C_alloc ?_ _) | (with_reducible refine Kd.C_drewN ?_ _) | (with_reducible refine Kd.C_drew ?_))); (case side2 => exact (Kd.S_reads' HO733.out).2.1); (case side3 => exact Tab.of HT.out (by repeat (first | (with_reducible first | exact HB.out | apply below_alloc | apply pw_below_drewN | apply below_drew1) | exact HB.out))); rintro e w16 ⟨rfl, hb⟩; have n0_ := Aside0.mk (Kd.S_below (by (with_reducible repeat (first | apply Kd.S_alloc | apply Kd.S_drewN | apply Kd.S_drew)); exact HO733.out) hb); have n1_ := Aside0.mk (Kd.S_below (by (with_reducible repeat (first | apply Kd.S_alloc | apply Kd.S_drewN | apply Kd.S_drew)); exact HO736.out) hb); have n2_ := Aside0.mk (Kd.S_below (by (with_reducible repeat (first | apply Kd.S_alloc | apply Kd.S_drewN | apply Kd.S_drew)); exact HO739.out) hb); have n3_ := Aside0.mk (below_step (by repeat (first | (with_reducible first | exact HB.out | apply below_alloc | apply pw_below_drewN | apply below_drew1) | exact HB.out)) hb); clear HO733; clear HO736; clear HO739; clear HB; have HO733 := n0_; have HO736 := n1_; have HO739 := n2_; have HB := n3_; clear n0_ n1_ n2_ n3_; (try clear hb); (try clear hb2); (try clear hk); (try clear hi)))
        go_meet
        case rel => exact ⟨_, (decide (t741 < 0)), (by first | rfl | (simp; done) | (simp [*]; done)), H', ⟨by first | omega | exact Nat.le_refl _⟩, ⟨by (with_reducible repeat (first | apply Kd.S_alloc | apply Kd.S_drewN | apply Kd.S_drew)); exact HO733.out⟩, ⟨by (with_reducible repeat (first | apply Kd.S_alloc | apply Kd.S_drewN | apply Kd.S_drew)); exact Kd.S_mono HO736.out (fun _ hk => trivial)⟩, ⟨by repeat (first | (with_reducible first | exact HB.out | apply below_alloc | apply pw_below_drewN | apply below_drew1) | exact HB.out)⟩⟩
      · replace c11 := Bool.eq_false_iff.mpr c11
        subst c11
        have H1 : (laws_FnStagesOfChain.j0 k t731 t734 true) = some r := by rw [if_neg (show ¬ (false = true) by decide)] at H; exact H
        clear H
        have H := H1
        clear H1
        have H' := Aside0.mk H
        clear H
        go_wp2_with (first | ((with_reducible refine gate_callee (f := 42) rfl ?_); refine goesL_ (some 14) rfl rfl Tryd.func42 (by kernel_rfl) rfl #[.slice Ao7 t731.length co7] rfl (by (try simp only [List.map_toArray, List.map_cons, List.map_nil]); first | done | rfl | (simp only [List.length_drop, List.length_take]; rfl)) ?_; (with_reducible refine (spec_StagesOf.calls k _ _ t731 t737 _ ?side1 ?side2 A9.out).mono ?_); (case side1 => repeat (first | exact (Kd.S_reads' HO733.out).2.2 | (with_reducible refine Kd.C_alloc ?_ _) | (with_reducible refine Kd.C_drewN ?_ _) | (with_reducible refine Kd.C_drew ?_))); (case side2 => exact (Kd.S_reads' HO733.out).2.1); rintro e w17 ⟨v738, rfl, ho0, hb⟩; refine ⟨_, rfl, ?_⟩; have n0_ := Aside0.mk (Kd.S_below (by (with_reducible repeat (first | apply Kd.S_alloc | apply Kd.S_drewN | apply Kd.S_drew)); exact HO733.out) hb); have n1_ := Aside0.mk (Kd.S_elder' (by (with_reducible repeat (first | apply Kd.S_alloc | apply Kd.S_drewN | apply Kd.S_drew)); exact HO736.out) (Kd.S_base ho0) hb); have n2_ := Aside0.mk (Kd.S_lower (Kd.S_new' ho0 (Kd.S_lt (by (with_reducible repeat (first | apply Kd.S_alloc | apply Kd.S_drewN | apply Kd.S_drew)); exact HO736.out))) (below_size (by repeat (first | (with_reducible first | exact HB.out | apply below_alloc | apply pw_below_drewN | apply below_drew1) | exact HB.out)))); have n3_ := Aside0.mk (below_step (by repeat (first | (with_reducible first | exact HB.out | apply below_alloc | apply pw_below_drewN | apply below_drew1) | exact HB.out)) hb); clear HO733; clear HO736; clear HB; have HO733 := n0_; have HO736 := n1_; have HO739 := n2_; have HB := n3_; clear n0_ n1_ n2_ n3_; (try clear hb); (try clear hb2); (try clear hk); (try clear hi); (try clear ho0); obtain ⟨Ao18, co18, eo18⟩ := Kd.S_slice HO736.out; subst eo18; obtain ⟨Ao19, co19, eo19⟩ := Kd.S_slice HO739.out; subst eo19) | ((with_reducible refine gate_callee (f := 41) rfl ?_); refine goesL_ (some 15) rfl rfl Tryd.func41 (by kernel_rfl) rfl #[.slice Ao18 t734.length co18, .slice Ao19 t737.length co19] rfl (by (try simp only [List.map_toArray, List.map_cons, List.map_nil]); first | done | rfl | (simp only [List.length_drop, List.length_take]; rfl)) ?_; (with_reducible refine (laws_equalLists.calls k _ _ t734 _ _ t737 false _ ?side1 ?side2 ?side3 ?side4 A10.out).mono ?_); (case side1 => repeat (first | exact (Kd.S_reads' HO736.out).2.2 | (with_reducible refine Kd.C_alloc ?_ _) | (with_reducible refine Kd.C_drewN ?_ _) | (with_reducible refine Kd.C_drew ?_))); (case side2 => exact (Kd.S_reads' HO736.out).2.1); (case side3 => repeat (first | exact (Kd.S_reads' HO739.out).2.2 | (with_reducible refine Kd.C_alloc ?_ _) | (with_reducible refine Kd.C_drewN ?_ _) | (with_reducible refine Kd.C_drew ?_))); (case side4 => exact (Kd.S_reads' HO739.out).2.1); rintro e w' ⟨rfl, ⟨nd, rfl⟩⟩; refine ⟨_, rfl, ?_⟩))
        go_meet
        case rel => exact ⟨_, (true), (by first | rfl | (simp; done) | (simp [*]; done)), H', ⟨by first | omega | exact Nat.le_refl _⟩, ⟨by (with_reducible repeat (first | apply Kd.S_alloc | apply Kd.S_drewN | apply Kd.S_drew)); exact HO733.out⟩, ⟨by (with_reducible repeat (first | apply Kd.S_alloc | apply Kd.S_drewN | apply Kd.S_drew)); exact Kd.S_mono HO736.out (fun _ hk => trivial)⟩, ⟨by repeat (first | (with_reducible first | exact HB.out | apply below_alloc | apply pw_below_drewN | apply below_drew1) | exact HB.out)⟩⟩
    case rest =>
      clear HC5
      try clear c1
      try clear c2
      try clear c2b0
      try clear c2b1
      try clear p2
      try clear c3
      try clear c4
      try clear c11
      try clear c14
      obtain ⟨kq, x21_4, rfl, HA, HJ4, HO_3, HO_4, HB⟩ := hcut
      cases kq with
      | zero => exact absurd HA.out (by simp [laws_FnStagesOfChain.j0])
      | succ kj4 =>
        have H := HA.out
        clear HA
        simp only [laws_FnStagesOfChain.j0] at H
        by_cases c20 : x21_4 = true
        · subst c20
          have H1 : ((spec_StagesOf.f kj4 t731).bind fun t742 => ((laws_equalLists.f kj4 t734 t742).bind fun t745 => (some t745))) = some r := by rw [if_pos rfl] at H; exact H
          clear H
          have H := H1
          clear H1
          replace H := Option.bind_eq_some_iff.mp H
          obtain ⟨t742, A210, H⟩ := H
          replace H : ((laws_equalLists.f kj4 t734 t742).bind fun t745 => (some t745)) = some r := H
          have A21 := Aside0.mk A210
          clear A210
          replace H := Option.bind_eq_some_iff.mp H
          obtain ⟨t745, A220, H⟩ := H
          replace H : (some t745) = some r := H
          have A22 := Aside0.mk A220
          clear A220
          obtain rfl := Option.some.inj H
          go_wp2_with (first | ((with_reducible refine gate_callee (f := 42) rfl ?_); refine goesL_ (some 24) rfl rfl Tryd.func42 (by kernel_rfl) rfl #[.slice Ao7 t731.length co7] rfl (by (try simp only [List.map_toArray, List.map_cons, List.map_nil]); first | done | rfl | (simp only [List.length_drop, List.length_take]; rfl)) ?_; (with_reducible refine (spec_StagesOf.calls kj4 _ _ t731 t742 _ ?side1 ?side2 A21.out).mono ?_); (case side1 => repeat (first | exact (Kd.S_reads' HO_3.out).2.2 | (with_reducible refine Kd.C_alloc ?_ _) | (with_reducible refine Kd.C_drewN ?_ _) | (with_reducible refine Kd.C_drew ?_))); (case side2 => exact (Kd.S_reads' HO_3.out).2.1); rintro e w23 ⟨v743, rfl, ho0, hb⟩; refine ⟨_, rfl, ?_⟩; have n0_ := Aside0.mk (Kd.S_below (by (with_reducible repeat (first | apply Kd.S_alloc | apply Kd.S_drewN | apply Kd.S_drew)); exact HO_3.out) hb); have n1_ := Aside0.mk (Kd.S_elder' (by (with_reducible repeat (first | apply Kd.S_alloc | apply Kd.S_drewN | apply Kd.S_drew)); exact HO_4.out) (Kd.S_base ho0) hb); have n2_ := Aside0.mk (Kd.S_lower (Kd.S_new' ho0 (Kd.S_lt (by (with_reducible repeat (first | apply Kd.S_alloc | apply Kd.S_drewN | apply Kd.S_drew)); exact HO_4.out))) (below_size (by repeat (first | (with_reducible first | exact HB.out | apply below_alloc | apply pw_below_drewN | apply below_drew1) | exact HB.out)))); have n3_ := Aside0.mk (below_step (by repeat (first | (with_reducible first | exact HB.out | apply below_alloc | apply pw_below_drewN | apply below_drew1) | exact HB.out)) hb); clear HO_3; clear HO_4; clear HB; have HO_3 := n0_; have HO_4 := n1_; have HO744 := n2_; have HB := n3_; clear n0_ n1_ n2_ n3_; (try clear hb); (try clear hb2); (try clear hk); (try clear hi); (try clear ho0); obtain ⟨Ao24, co24, eo24⟩ := Kd.S_slice HO_4.out; subst eo24; obtain ⟨Ao25, co25, eo25⟩ := Kd.S_slice HO744.out; subst eo25) | ((with_reducible refine gate_callee (f := 41) rfl ?_); refine goesL_ (some 25) rfl rfl Tryd.func41 (by kernel_rfl) rfl #[.slice Ao24 t734.length co24, .slice Ao25 t742.length co25] rfl (by (try simp only [List.map_toArray, List.map_cons, List.map_nil]); first | done | rfl | (simp only [List.length_drop, List.length_take]; rfl)) ?_; (with_reducible refine (laws_equalLists.calls kj4 _ _ t734 _ _ t742 t745 _ ?side1 ?side2 ?side3 ?side4 A22.out).mono ?_); (case side1 => repeat (first | exact (Kd.S_reads' HO_4.out).2.2 | (with_reducible refine Kd.C_alloc ?_ _) | (with_reducible refine Kd.C_drewN ?_ _) | (with_reducible refine Kd.C_drew ?_))); (case side2 => exact (Kd.S_reads' HO_4.out).2.1); (case side3 => repeat (first | exact (Kd.S_reads' HO744.out).2.2 | (with_reducible refine Kd.C_alloc ?_ _) | (with_reducible refine Kd.C_drewN ?_ _) | (with_reducible refine Kd.C_drew ?_))); (case side4 => exact (Kd.S_reads' HO744.out).2.1); rintro e w' ⟨rfl, ⟨nd, rfl⟩⟩; refine ⟨_, rfl, ?_⟩))
          go_ret
          exact ⟨by first | rfl | (simp [errW_none, errW_some] <;> rfl) | (simp [*, errW_none, errW_some] <;> rfl), by repeat (first | (with_reducible first | exact HB.out | apply below_alloc | apply pw_below_drewN | apply below_drew1) | exact HB.out)⟩
        · replace c20 := Bool.eq_false_iff.mpr c20
          subst c20
          have H1 : ((impl_CountOrders.f t731).bind fun t746 => (some (((t734.length : Int) == (t731.length : Int)) == (t746 == 1)))) = some r := by rw [if_neg (show ¬ (false = true) by decide)] at H; exact H
          clear H
          have H := H1
          clear H1
          replace H := Option.bind_eq_some_iff.mp H
          obtain ⟨t746, A260, H⟩ := H
          replace H : (some (((t734.length : Int) == (t731.length : Int)) == (t746 == 1))) = some r := H
          have A26 := Aside0.mk A260
          clear A260
          obtain rfl := Option.some.inj H
          obtain ⟨Ao27, co27, eo27⟩ := Kd.S_slice HO_4.out
          subst eo27
          go_wp2_with (first | ((with_reducible refine gate_callee (f := 18) rfl ?_); refine goesL_ (some 32) rfl rfl Tryd.func18 (by kernel_rfl) rfl #[.slice Ao7 t731.length co7] rfl (by (try simp only [List.map_toArray, List.map_cons, List.map_nil]); first | done | rfl | (simp only [List.length_drop, List.length_take]; rfl)) ?_; (with_reducible refine (impl_CountOrders.calls _ _ t731 t746 _ ?side1 ?side2 ?side3 A26.out).mono ?_); (case side1 => repeat (first | exact (Kd.S_reads' HO_3.out).2.2 | (with_reducible refine Kd.C_alloc ?_ _) | (with_reducible refine Kd.C_drewN ?_ _) | (with_reducible refine Kd.C_drew ?_))); (case side2 => exact (Kd.S_reads' HO_3.out).2.1); (case side3 => exact Tab.of HT.out (by repeat (first | (with_reducible first | exact HB.out | apply below_alloc | apply pw_below_drewN | apply below_drew1) | exact HB.out))); rintro e w28 ⟨rfl, hb⟩; refine ⟨_, rfl, ?_⟩; have n0_ := Aside0.mk (Kd.S_below (by (with_reducible repeat (first | apply Kd.S_alloc | apply Kd.S_drewN | apply Kd.S_drew)); exact HO_3.out) hb); have n1_ := Aside0.mk (Kd.S_below (by (with_reducible repeat (first | apply Kd.S_alloc | apply Kd.S_drewN | apply Kd.S_drew)); exact HO_4.out) hb); have n2_ := Aside0.mk (below_step (by repeat (first | (with_reducible first | exact HB.out | apply below_alloc | apply pw_below_drewN | apply below_drew1) | exact HB.out)) hb); clear HO_3; clear HO_4; clear HB; have HO_3 := n0_; have HO_4 := n1_; have HB := n2_; clear n0_ n1_ n2_; (try clear hb); (try clear hb2); (try clear hk); (try clear hi)))
          go_ret
          exact ⟨by first | rfl | (simp [errW_none, errW_some] <;> rfl) | (simp [*, errW_none, errW_some] <;> rfl), by repeat (first | (with_reducible first | exact HB.out | apply below_alloc | apply pw_below_drewN | apply below_drew1) | exact HB.out)⟩
end Go.Proofs.YtffhdofcfkgoaaaDoor.P
end
section
set_option linter.unusedVariables false
set_option linter.unusedSimpArgs false
namespace Go.Proofs.YtffhdofcfkgoaaaDoor.Core
open Go Go.RowKit Go.Proofs.YtffhdofcfkgoaaaDoorW.PrintWords Go.Proofs.YtffhdofcfkgoaaaDoorW.PrintMore Go.Proofs.YtffhdofcfkgoaaaDoor.P
/-- A reader's state: few bytes, not far read. -/
def RS (s0 : List Int) (N p : Int) : Prop := s0.length ≤ 2000 ∧ (∀ x ∈ s0, 0 ≤ x ∧ x ≤ 255) ∧ 0 ≤ p ∧ p ≤ N ∧ N ≤ 100000
theorem RS.mono {s0 : List Int} {N M p : Int} (h : RS s0 N p) (hM : N ≤ M) (h2 : M ≤ 100000) : RS s0 M p := ⟨h.1, h.2.1, h.2.2.1, by have := h.2.2.2.1; omega, h2⟩
theorem rd_byte {s0 : List Int} {N p i : Int} (h : RS s0 N p) (h0 : 0 ≤ i) (h1 : i < (s0.length : Int)) : 0 ≤ rd s0 i ∧ rd s0 i ≤ 255 := by
  refine h.2.1 _ ?_
  unfold rd
  rw [List.getD_eq_getElem?_getD, List.getElem?_eq_getElem (by omega), Option.getD_some]
  exact List.getElem_mem _
/-- What pick answers. -/
def PickOk (n : Int) (s0 : List Int) (N : Int) (r : Int × Int) : Prop := (n < 1 → r.1 = 0) ∧ (1 ≤ n → 0 ≤ r.1 ∧ r.1 < n) ∧ RS s0 (N + 1) r.2
theorem ev_pick {s0 : List Int} {N p n : Int} (h : RS s0 N p) (hN : N < 100000) : EvP (fun k => spec_reader_pick.f k s0 p n) (PickOk n s0 N) := by
  obtain ⟨hl, hb, h0, h1, _⟩ := h
  have hp : wrap64 (p + 1) = p + 1 := w64 (by omega) (by omega)
  have hp1 : wrap64 (p + 1 - 1) = p := by rw [Int.add_sub_cancel]; exact w64 (by omega) (by omega)
  have hRS : RS s0 (N + 1) (p + 1) := ⟨hl, hb, by omega, by omega, by omega⟩
  have hz : EvP (fun k => spec_reader_pick.j0 k n true s0 (p + 1)) (fun r => r = (0, p + 1)) := by
    refine EvP.succ ?_
    simp only [spec_reader_pick.j0, if_true]
    exact EvP.ret rfl
  unfold spec_reader_pick.f
  rw [hp]
  refine EvP.ite (fun hn => hz.mono fun a e => ?_) (fun hn => ?_)
  · subst e; exact ⟨fun _ => rfl, fun _ => by omega, hRS⟩
  by_cases he : s0.length = 0
  · rw [show ((s0.length : Int) == 0) = true by simp [he]]
    exact hz.mono fun a e => by subst e; exact ⟨fun _ => rfl, fun _ => by omega, hRS⟩
  rw [show ((s0.length : Int) == 0) = false from beq_eq_false_iff_ne.2 (by omega)]
  refine EvP.succ ?_
  simp only [spec_reader_pick.j0, hp1, Bool.false_eq_true, if_false]
  refine EvP.ite (fun hlt => ?_) (fun hge => ?_)
  · have hr := hb (rd s0 p) (by
      unfold rd
      rw [List.getD_eq_getElem?_getD, List.getElem?_eq_getElem (by omega), Option.getD_some]
      exact List.getElem_mem _)
    refine EvP.pos h0 (EvP.neg (by omega) (EvP.ret ?_))
    rw [w64 (n := rd s0 p) (by omega) (by omega)]
    exact ⟨fun _ => by omega, fun _ => tmod_lt hr.1 (by omega), hRS⟩
  · have hpos : (0 : Int) < s0.length := by omega
    have hm1 := tmod_lt h0 hpos
    have h7 : wrap64 (p * 7) = p * 7 := w64 (by omega) (by omega)
    have h73 : wrap64 (p * 7 + 3) = p * 7 + 3 := w64 (by omega) (by omega)
    have hm2 := tmod_lt (a := p * 7 + 3) (by omega) hpos
    have hd := tdiv_le h0 hpos
    have hr1 := rd_byte ⟨hl, hb, h0, h1, by omega⟩ hm1.1 hm1.2
    have hr2 := rd_byte ⟨hl, hb, h0, h1, by omega⟩ hm2.1 hm2.2
    rw [h7, h73]
    refine EvP.neg (by omega) (EvP.pos hm1.1 (EvP.pos hm1.2 (EvP.pos hm2.1 (EvP.pos hm2.2 (EvP.neg (by omega) (EvP.ret ?_))))))
    generalize rd s0 (Int.tmod p s0.length) = x1 at *
    generalize rd s0 (Int.tmod (p * 7 + 3) s0.length) = x2 at *
    generalize Int.tdiv p s0.length = dd at *
    have e : wrap64 (wrap64 (wrap64 (wrap64 (wrap64 x1 * 131) + wrap64 (wrap64 x2 * 1117)) + wrap64 (p * 29)) + wrap64 (wrap64 dd * 53)) = x1 * 131 + x2 * 1117 + p * 29 + dd * 53 := by
      rw [w64 (n := x1) (by omega) (by omega), w64 (n := x2) (by omega) (by omega), w64 (n := dd) (by omega) (by omega), w64 (n := x1 * 131) (by omega) (by omega), w64 (n := x2 * 1117) (by omega) (by omega), w64 (n := x1 * 131 + x2 * 1117) (by omega) (by omega), w64 (n := p * 29) (by omega) (by omega), w64 (n := x1 * 131 + x2 * 1117 + p * 29) (by omega) (by omega), w64 (n := dd * 53) (by omega) (by omega), w64 (by omega) (by omega)]
    rw [e]
    generalize hy : x1 * 131 + x2 * 1117 + p * 29 + dd * 53 = y at *
    have hq := tdiv_le (a := y) (n := 64) (by omega) (by omega)
    rw [w64 (n := Int.tdiv y 64) (by omega) (by omega)]
    have hx := i64_xor y (Int.tdiv y 64) (by omega) (by omega) (by omega) (by omega)
    exact ⟨fun _ => by omega, fun _ => tmod_lt hx.1 (by omega), hRS⟩
theorem ev_one {s0 : List Int} {N p : Int} (h : RS s0 N p) (hN : N < 100000) (L : List Int) (hL : 0 < L.length) : EvP (fun k => spec_reader_one.f k s0 p L) (fun r => r.1 ∈ L ∧ RS s0 (N + 1) r.2) := by
  unfold spec_reader_one.f
  refine (ev_pick h hN).bind fun a ha => ?_
  have h2 := ha.2.1 (by omega)
  refine EvP.pos h2.1 (EvP.pos h2.2 (EvP.ret ⟨?_, ha.2.2⟩))
  show rd L a.1 ∈ L
  unfold rd
  rw [List.getD_eq_getElem?_getD, List.getElem?_eq_getElem (by omega), Option.getD_some]
  exact List.getElem_mem _
theorem ev_spoil {s0 : List Int} {N p : Int} (h : RS s0 N p) (hN : N + 2 < 100000) (L : List Int) (n : Int) (hL : L.length ≤ 10000) : EvP (fun k => spec_reader_spoil.f k s0 p L n) (fun r => r.1.length ≤ L.length + 1 ∧ RS s0 (N + 3) r.2) := by
  unfold spec_reader_spoil.f
  rw [show spec_copyInts.f L = some L from copyInts_eq (by unfold big; omega) (by omega)]
  refine EvP.sb ?_
  refine (ev_pick h (by omega)).bind fun a ha => ?_
  have hm := ha.2.2.mono (M := N + 3) (by omega) (by omega)
  refine EvP.ite (fun _ => EvP.pos (by omega) (EvP.ret ⟨by simp, hm⟩)) (fun _ => ?_)
  refine EvP.ite (fun _ => EvP.ite (fun h0 => EvP.pos (by omega) (EvP.ret ⟨by simp; omega, hm⟩)) (fun _ => EvP.ret ⟨by show L.length ≤ _; omega, hm⟩)) (fun _ => ?_)
  refine EvP.ite (fun _ => EvP.ite (fun h0 => ?_) (fun _ => EvP.ret ⟨by show L.length ≤ _; omega, hm⟩)) (fun _ => EvP.ret ⟨by show L.length ≤ _; omega, hm⟩)
  refine (ev_pick ha.2.2 (by omega)).bind fun b hb => ?_
  refine (ev_one hb.2.2 (by omega) _ (by simp)).bind fun c hc => ?_
  have h2 := hb.2.1 (by omega)
  exact EvP.pos h2.1 (EvP.pos h2.2 (EvP.ret ⟨by simp, hc.2.mono (by omega) (by omega)⟩))
/-- A graph of few tasks, whose lists of needs are short. -/
def GSmall (n m : Nat) (g : List Tk) : Prop := g.length ≤ n ∧ ∀ t ∈ g, t.f1.length ≤ m
theorem GSmall.fits {n m : Nat} {g : List Tk} (h : GSmall n m g) (hn : n < big) (hm : m < big) : Fits g := ⟨by have := h.1; omega, fun t ht => by have := h.2 t ht; omega⟩
theorem ev_turned_in (x0 : List Tk) (x3 : List Tk) (x4 x5 : Int) (f0 f2 f3 : Int) (L : List Int) (hL : L.length ≤ 10000) (R : List Tk → Prop) (hx3 : x3.length ≤ 100) (hk : ∀ L2 : List Int, L2.length = L.length → EvP (fun k => spec_turned.l0 k x0 (x3 ++ [⟨f0, L2, f2, f3⟩]) x4 (wrap64 (x5 - 1))) R) :
    ∀ (m : Nat) (x7 : List Int), m ≤ L.length → x7.length + m = L.length → EvP (fun k => spec_turned.l1 k x0 x3 x4 x5 x7 ((m : Int) - 1) f0 L f2 f3) R
  | 0, x7, _, h => by
    refine EvP.succ ?_
    simp only [spec_turned.l1]
    exact EvP.neg (by omega) (EvP.pos (by omega) (hk x7 (by omega)))
  | m + 1, x7, hm, h => by
    refine EvP.succ ?_
    simp only [spec_turned.l1]
    refine EvP.pos (by omega) (EvP.pos (by omega) (EvP.pos (by omega) (EvP.pos (by omega) ?_)))
    have := ev_turned_in x0 x3 x4 x5 f0 f2 f3 L hL R hx3 hk m (x7 ++ [wrap64 (x4 - rd L (((m + 1 : Nat) : Int) - 1))]) (by omega) (by simp; omega)
    rw [show wrap64 (((m + 1 : Nat) : Int) - 1 - 1) = (m : Int) - 1 by rw [w64 (by omega) (by omega)]; omega]
    exact this
theorem ev_turned {n m : Nat} {g : List Tk} (hg : GSmall n m g) (hn : n ≤ 100) (hm : m ≤ 10000) : EvP (fun k => spec_turned.f k g) (fun r => r.length = g.length ∧ GSmall n m r) := by
  have key : ∀ (j : Nat) (x3 : List Tk) (x4 : Int), j ≤ g.length → x3.length + j = g.length → (∀ t ∈ x3, t.f1.length ≤ m) → EvP (fun k => spec_turned.l0 k g x3 x4 ((j : Int) - 1)) (fun r => r.length = g.length ∧ GSmall n m r) := by
    intro j
    induction j with
    | zero =>
      intro x3 x4 hj hl ht
      refine EvP.succ ?_
      simp only [spec_turned.l0]
      exact EvP.neg (by omega) (EvP.ret ⟨by show x3.length = _; omega, by have := hg.1; show x3.length ≤ n; omega, ht⟩)
    | succ j ih =>
      intro x3 x4 hj hl ht
      have hgl := hg.1
      refine EvP.succ ?_
      simp only [spec_turned.l0]
      refine EvP.pos (by omega) (EvP.pos (by omega) (EvP.pos (by omega) ?_))
      have hmem : rd_T33 g (((j + 1 : Nat) : Int) - 1) ∈ g := by
        unfold rd_T33
        rw [List.getD_eq_getElem?_getD, List.getElem?_eq_getElem (by omega), Option.getD_some]
        exact List.getElem_mem _
      have hlen := hg.2 _ hmem
      generalize rd_T33 g (((j + 1 : Nat) : Int) - 1) = t at *
      rw [show wrap64 ((t.f1.length : Int) - 1) = (t.f1.length : Int) - 1 from w64 (by omega) (by omega)]
      refine ev_turned_in g x3 x4 (((j + 1 : Nat) : Int) - 1) t.f0 t.f2 t.f3 t.f1 (by omega) _ (by omega) (fun L2 h2 => ?_) t.f1.length [] (Nat.le_refl _) (by simp)
      rw [show wrap64 (((j + 1 : Nat) : Int) - 1 - 1) = (j : Int) - 1 by rw [w64 (by omega) (by omega)]; omega]
      refine ih _ _ (by omega) (by simp; omega) (fun u hu => ?_)
      rcases List.mem_append.1 hu with hu | hu
      · exact ht u hu
      · rw [List.mem_singleton.1 hu]; show L2.length ≤ m; omega
  have hgl := hg.1
  unfold spec_turned.f
  rw [show wrap64 ((g.length : Int) - 1) = (g.length : Int) - 1 from w64 (by omega) (by omega)]
  exact key g.length [] _ (Nat.le_refl _) (by simp) (by simp)
theorem ev_some_in (g : List Tk) (x6 : Int) (s0 : List Int) (f0 f2 f3 : Int) (N : Int) (hg : g.length ≤ 8) (hN : N + 8 < 100000) (R : List Tk × Int → Prop)
    (hk : ∀ (L : List Int) (p : Int), L.length ≤ 8 → RS s0 (N + 8) p → EvP (fun k => spec_someGraph.l0 k (g ++ [⟨f0, L, f2, f3⟩]) (wrap64 (x6 - 1)) s0 p) R) :
    ∀ (d i : Nat) (L : List Int) (p : Int), i + d = g.length → L.length ≤ i → RS s0 (N + i) p → EvP (fun k => spec_someGraph.l1 k g x6 (i : Int) s0 p f0 L f2 f3) R
  | 0, i, L, p, h, hL, hp => by
    refine EvP.succ ?_
    simp only [spec_someGraph.l1]
    exact EvP.neg (by omega) (EvP.pos (by omega) (hk L p (by omega) (hp.mono (by omega) (by omega))))
  | d + 1, i, L, p, h, hL, hp => by
    refine EvP.succ ?_
    simp only [spec_someGraph.l1]
    refine EvP.pos (by omega) ?_
    refine (ev_pick hp (by omega)).bind fun a ha => ?_
    have hp2 : RS s0 (N + ((i + 1 : Nat) : Int)) a.2 := ha.2.2.mono (by omega) (by omega)
    rw [show wrap64 ((i : Int) + 1) = ((i + 1 : Nat) : Int) by rw [w64 (by omega) (by omega)]; omega]
    refine EvP.ite (fun _ => EvP.pos (by omega) ?_) (fun _ => ?_)
    · exact ev_some_in g x6 s0 f0 f2 f3 N hg hN R hk d (i + 1) _ _ (by omega) (by simp; omega) hp2
    · exact ev_some_in g x6 s0 f0 f2 f3 N hg hN R hk d (i + 1) _ _ (by omega) (by omega) hp2
theorem ev_some_out (s0 : List Int) : ∀ (j : Nat) (g : List Tk) (N p : Int), g.length + j ≤ 8 → N + j * 11 + 1 < 100000 → (∀ t ∈ g, t.f1.length ≤ 8) → RS s0 N p →
    EvP (fun k => spec_someGraph.l0 k g (j : Int) s0 p) (fun r => GSmall 8 8 r.1 ∧ RS s0 (N + j * 11 + 1) r.2)
  | 0, g, N, p, hg, hN, ht, hp => by
    refine EvP.succ ?_
    simp only [spec_someGraph.l0]
    refine EvP.neg (by omega) ?_
    refine EvP.ite (fun h1 => ?_) (fun _ => EvP.ret ⟨⟨by show g.length ≤ 8; omega, ht⟩, hp.mono (by omega) (by omega)⟩)
    refine (ev_pick hp (by omega)).bind fun a ha => ?_
    refine EvP.ite (fun _ => ?_) (fun _ => EvP.ret ⟨⟨by show g.length ≤ 8; omega, ht⟩, ha.2.2.mono (by omega) (by omega)⟩)
    refine (ev_turned (n := 8) (m := 8) ⟨by omega, ht⟩ (by omega) (by omega)).bind fun r hr => ?_
    exact EvP.ret ⟨hr.2, ha.2.2.mono (by omega) (by omega)⟩
  | j + 1, g, N, p, hg, hN, ht, hp => by
    refine EvP.succ ?_
    simp only [spec_someGraph.l0]
    refine EvP.pos (by omega) ?_
    refine (ev_one hp (by omega) _ (by simp)).bind fun a ha => ?_
    refine (ev_pick ha.2 (by omega)).bind fun b hb => ?_
    refine (ev_pick hb.2.2 (by omega)).bind fun c hc => ?_
    refine ev_some_in g ((j + 1 : Nat) : Int) s0 a.1 b.1 (wrap64 (1 + c.1)) (N + 1 + 1 + 1) (by omega) (by omega) _ (fun L q hL hq => ?_) g.length 0 [] _ (by omega) (by simp) (hc.2.2.mono (by omega) (by omega))
    rw [show wrap64 (((j + 1 : Nat) : Int) - 1) = (j : Int) by rw [w64 (by omega) (by omega)]; omega]
    refine (ev_some_out s0 j _ (N + 11) q (by simp; omega) (by omega) (fun u hu => ?_) (hq.mono (by omega) (by omega))).mono fun r hr => ⟨hr.1, hr.2.mono (by omega) (by omega)⟩
    rcases List.mem_append.1 hu with hu | hu
    · exact ht u hu
    · rw [List.mem_singleton.1 hu]; exact hL
theorem ev_someGraph {s0 : List Int} {N p : Int} (h : RS s0 N p) (hN : N + 100 < 100000) (a : Int) (ha : 0 ≤ a) : EvP (fun k => spec_someGraph.f k s0 p a) (fun r => GSmall 8 8 r.1 ∧ RS s0 (N + 100) r.2) := by
  unfold spec_someGraph.f
  refine (ev_one h (by omega) _ (by simp)).bind fun b hb => ?_
  have hb8 : 0 ≤ mn a b.1 ∧ mn a b.1 ≤ 8 := by
    have := hb.1
    simp at this
    unfold mn
    split <;> omega
  generalize mn a b.1 = c at *
  obtain ⟨j, rfl⟩ := Int.eq_ofNat_of_zero_le hb8.1
  exact (ev_some_out s0 j [] (N + 1) b.2 (by simp; omega) (by omega) (by simp) hb.2).mono fun r hr => ⟨hr.1, hr.2.mono (by omega) (by omega)⟩
theorem lim_evP {α : Type} {f : Nat → Option α} {Q : α → Prop} (hm : ∀ k, LeO (f k) (f (k + 1))) (h : EvP f Q) : EvP (fun _ => lim f) Q := by
  obtain ⟨r, h, q⟩ := h
  obtain ⟨k, hk⟩ := h.one
  exact ⟨r, ⟨0, fun _ _ => lim_of hm hk⟩, q⟩
theorem rdT_small {n m : Nat} {g : List Tk} (h : GSmall n m g) {i : Int} (h0 : 0 ≤ i) (h1 : i < (g.length : Int)) : (rd_T33 g i).f1.length ≤ m := by
  refine h.2 _ ?_
  unfold rd_T33
  rw [List.getD_eq_getElem?_getD, List.getElem?_eq_getElem (by omega), Option.getD_some]
  exact List.getElem_mem _
theorem small_set {n m m2 : Nat} {g : List Tk} (h : GSmall n m g) (i : Nat) (t : Tk) (ht : t.f1.length ≤ m2) (hm : m ≤ m2) {n2 : Nat} (hn : n ≤ n2) : GSmall n2 m2 (g.set i t) := by
  refine ⟨by rw [List.length_set]; have := h.1; omega, fun u hu => ?_⟩
  rcases List.mem_or_eq_of_mem_set hu with h1 | h1
  · have := h.2 u h1; omega
  · rw [h1]; exact ht
theorem ev_anyGraph {s0 : List Int} {N p : Int} (h : RS s0 N p) (hN : N + 210 < 100000) : EvP (fun _ => spec_anyGraph.f s0 p) (fun r => GSmall 16 10 r.1 ∧ RS s0 (N + 210) r.2) := by
  unfold spec_anyGraph.f
  refine lim_evP (fun k => spec_anyGraph.mono s0 p k) ?_
  unfold spec_anyGraph.fk
  refine (ev_someGraph h (by omega) 8 (by omega)).bind fun a ha => ?_
  have hs : GSmall 16 10 a.1 := ⟨by have := ha.1.1; omega, fun t ht => by have := ha.1.2 t ht; omega⟩
  refine EvP.ite (fun _ => EvP.ret ⟨hs, ha.2.mono (by omega) (by omega)⟩) (fun hne => ?_)
  refine (ev_pick ha.2 (by omega)).bind fun b hb => ?_
  refine (ev_pick hb.2.2 (by omega)).bind fun c hc => ?_
  have hb2 := hb.2.1 (by omega)
  refine EvP.neg (fun hh => hh hb2) ?_
  have hl := rdT_small ha.1 hb2.1 hb2.2
  generalize rd_T33 a.1 b.1 = tk at hl
  refine EvP.ite (fun _ => (ev_one hc.2.2 (by omega) _ (by simp)).bind fun d hd => EvP.ret ⟨small_set ha.1 _ _ (by show tk.f1.length ≤ 10; omega) (by omega) (by omega), hd.2.mono (by omega) (by omega)⟩) (fun _ => ?_)
  refine EvP.ite (fun _ => ?_) (fun _ => ?_)
  · refine (ev_pick hc.2.2 (by omega)).bind fun d hd => ?_
    refine EvP.pos (by omega) ?_
    refine (ev_spoil hd.2.2 (by omega) _ 8 (by simp; omega)).bind fun e he => ?_
    have := he.1
    simp only [List.length_append, List.length_cons, List.length_nil] at this
    exact EvP.ret ⟨small_set ha.1 _ _ (by show e.1.length ≤ 10; omega) (by omega) (by omega), he.2.mono (by omega) (by omega)⟩
  refine EvP.ite (fun _ => (ev_one hc.2.2 (by omega) _ (by simp)).bind fun d hd => EvP.ret ⟨small_set ha.1 _ _ (by show tk.f1.length ≤ 10; omega) (by omega) (by omega), hd.2.mono (by omega) (by omega)⟩) (fun _ => ?_)
  refine EvP.ite (fun _ => (ev_one hc.2.2 (by omega) _ (by simp)).bind fun d hd => EvP.ret ⟨small_set ha.1 _ _ (by show tk.f1.length ≤ 10; omega) (by omega) (by omega), hd.2.mono (by omega) (by omega)⟩) (fun _ => ?_)
  refine EvP.ite (fun _ => ?_) (fun _ => EvP.ret ⟨hs, hc.2.2.mono (by omega) (by omega)⟩)
  refine (ev_someGraph hc.2.2 (by omega) 8 (by omega)).bind fun d hd => ?_
  have h1 := ha.1.1
  have h2 := hd.1.1
  refine EvP.pos (by omega) (EvP.ret ⟨⟨by simp; omega, fun t ht => ?_⟩, hd.2.mono (by omega) (by omega)⟩)
  rcases List.mem_append.1 ht with ht | ht
  · have := ha.1.2 t ht; omega
  · have := hd.1.2 t ht; omega
/-- The bytes of a code. -/
def Bytes (l : List Int) : Prop := ∀ x ∈ l, (Lit.int .u8 x).wf = true
theorem byte_of_wf {x : Int} (h : (Lit.int .u8 x).wf = true) : 0 ≤ x ∧ x ≤ 255 := by
  simp only [Lit.wf, IntKind.min, IntKind.max, IntKind.signed, IntKind.bits, Bool.and_eq_true, decide_eq_true_eq] at h
  simp at h
  omega
theorem ev_newReader {l : List Int} (h : Bytes l) : EvP (fun _ => spec_newReader.f l) (fun r => RS r.1 0 r.2) := by
  have hb : ∀ x ∈ l, 0 ≤ x ∧ x ≤ 255 := fun x hx => byte_of_wf (h x hx)
  unfold spec_newReader.f
  refine EvP.ite (fun h1 => EvP.pos (by omega) (EvP.ret ⟨by simp; omega, fun x hx => hb x (List.mem_of_mem_take hx), by omega, by omega, by omega⟩)) (fun h1 => EvP.ret ⟨by show l.length ≤ 2000; omega, hb, by show (0 : Int) ≤ 0; omega, by show (0 : Int) ≤ 0; omega, by omega⟩)
end Go.Proofs.YtffhdofcfkgoaaaDoor.Core
end
