/- The law FnLatestStartsSlack holds of the given program: the proof's own part, with its row and its card, part 5 of 10. -/
import Derived.Test.YtekajandipdlhaaDoorZFnLatestStartsSlack4
section
set_option linter.unusedVariables false
set_option linter.unusedSimpArgs false
namespace Go.Proofs.YtekajandipdlhaaDoor.Core
open Go Go.RowKit Go.Shelf Go.Proofs.YtekajandipdlhaaDoorW.PrintWords Go.Proofs.YtekajandipdlhaaDoorW.PrintLast Go.Proofs.YtekajandipdlhaaDoorW.PrintMore Go.Proofs.YtekajandipdlhaaDoor.P
attribute [local go_sem] Oper.semAt_some wide_fn wide_depth max2_int max_two
def hframe (f : Nat → Value) (v1 v3 v13 v14 v15 : Value) : Array Value := #[f 0, v1, f 2, v3, f 4, f 5, f 6, f 7, f 8, f 9, f 10, f 11, f 12, v13, v14, v15, f 16, f 17, f 18, f 19, f 20, f 21, f 22, f 23, f 24, f 25, f 26, f 27, f 28, f 29, f 30, f 31, f 32, f 33, f 34, f 35, f 36, f 37, f 38, f 39, f 40, f 41, f 42, f 43, f 44, f 45, f 46, f 47, f 48, f 49, f 50]
theorem hframe_lit {T : Array Value} {v1 v3 v13 v14 v15 : Value} (hs : T.size = 51) (h1 : T[1]? = some v1) (h3 : T[3]? = some v3) (h13 : T[13]? = some v13) (h14 : T[14]? = some v14) (h15 : T[15]? = some v15) : ∃ f, T = hframe f v1 v3 v13 v14 v15 := by
  refine ⟨fun j => T.getD j undef, ?_⟩
  have hT0 : T = ((List.range 51).map fun j => T.getD j undef).toArray := by
    apply Array.ext
    · simp [hs]
    · intro i h1 h2
      simp [Array.getD_eq_getD_getElem?, h1]
  have e (j : Nat) (v : Value) (h : T[j]? = some v) : v = T.getD j undef := by rw [Array.getD_eq_getD_getElem?, h]; rfl
  obtain rfl := e _ _ h1
  obtain rfl := e _ _ h3
  obtain rfl := e _ _ h13
  obtain rfl := e _ _ h14
  obtain rfl := e _ _ h15
  exact hT0
theorem headsN_length (G : GD) : (headsN G).length = G.tasks.length := hTo_length _ _ _ _
set_option maxRecDepth 100000 in
set_option maxHeartbeats 2000000 in
theorem heads_calls (b : Nat) (G : GD) (w : World) (hT : Tab w) (hg : IsG w b G) (ok : GOk G) (htk : ∀ t ∈ G.tasks, taskOk t) :
    Calls Tryd.prog 77 #[.pointer (some ⟨b, 0, none⟩)] w fun e w' => ∃ v, e = .returned v ∧ (Kd.int .i64).R 3 w' w.heap.size (fun _ => True) v (up (headsN G)) ∧ Below w.heap.size w w' := by
  have h8 := ok.n8
  have hmk := run_make_ints G.tasks.length h8
  have x1 := Boxed.new w 61 (.pointer (some ⟨b, 0, none⟩))
  have B1 := (Below.refl w.heap.size w).alloc (Nat.le_refl _) (.cells #[.pointer (some ⟨b, 0, none⟩)] 61)
  have o1 : (w.alloc (.cells #[.pointer (some ⟨b, 0, none⟩)] 61)).heap.size = w.heap.size + 1 := by simp
  obtain ⟨w1, hw1⟩ : ∃ w1, w1 = w.alloc (.cells #[.pointer (some ⟨b, 0, none⟩)] 61) := ⟨_, rfl⟩
  rw [← hw1] at x1 B1 o1
  have hg1 := hg.move B1
  have hsz := (size_calls b G w1 hg1).mono (R' := fun e w' => e = .returned (.int .i64 (G.tasks.length : Int)) ∧ w' = w1) (fun _ _ h => ⟨h.1, h.2.symm⟩)
  have hcx1 := x1.cell
  obtain ⟨w3, hw3⟩ : ∃ w3, w3 = ((w1.alloc (.cells (icells (List.replicate G.tasks.length 0)) 3)).alloc (.cells #[.slice (some ⟨w.heap.size + 1, 0, none⟩) G.tasks.length G.tasks.length] 35)) := ⟨_, rfl⟩
  have HS : SI w (w.heap.size + 1) (w.heap.size + 1 + 1) G.tasks.length w3 (hTo G.tasks G.needs G.tasks.length []) := by
    rw [hw3]
    refine ⟨cells_alloc (by rw [← o1]; exact cells_new w1 _) _, ?_, (B1.alloc (by omega) _).alloc (by simp; omega) _⟩
    have h := Boxed.new (w1.alloc (.cells (icells (List.replicate G.tasks.length 0)) 3)) 35 (.slice (some ⟨w.heap.size + 1, 0, none⟩) G.tasks.length G.tasks.length)
    rw [show (w1.alloc (.cells (icells (List.replicate G.tasks.length 0)) 3)).heap.size = w.heap.size + 1 + 1 by simp [o1]] at h
    exact h
  have x3 : Boxed w3 w.heap.size 61 (.pointer (some ⟨b, 0, none⟩)) := by rw [hw3]; exact (x1.alloc _).alloc _
  obtain ⟨Ao, co, hco0, -, hCo⟩ := hg.order
  have hco := (HS.below.cell (World.block_lt_of_cell? _ _ hco0)).trans hco0
  clear hco0
  have hcx3 := x3.cell
  have HW3 := Aside0.mk hw3
  rw [hw3] at hco hcx3
  have HCo := Aside0.mk hCo
  have Hg := Aside0.mk hg
  have HT := Aside0.mk hT
  have OK := Aside0.mk ok
  have HTK := Aside0.mk htk
  have HS := Aside0.mk HS
  have HX3 := Aside0.mk x3
  have HW1 := Aside0.mk hw1
  clear hw1 hw3 hg hT ok htk hCo x3 hg1 B1 x1
  have HSZ : Aside0 (w.heap.size ≤ w.heap.size) := ⟨Nat.le_refl _⟩
  refine calls_marks Tryd.func77 rfl ?_
  simp only [Tryd.ntmps77, List.size_toArray, List.length_cons, List.length_nil, Nat.reduceAdd, Nat.reduceSub, Array.replicate_succ, Array.replicate_zero, List.push_toArray, List.append_toArray, List.nil_append, List.cons_append]
  go_wp2_with (go_at_call 78; rw [← HW1.out]; refine hsz.mono ?_; rintro e w' ⟨rfl, hw⟩; rw [hw]; clear hw w')
  clear hco hsz hmk hcx1 hcx3
  rw [← HW3.out]
  clear HW3 HW1
  have HRO : Aside0 (w.heap.size ≤ w.heap.size + 1 ∧ w.heap.size ≠ w.heap.size + 1) := ⟨by omega, by omega⟩
  clear o1
  generalize hpB : w.heap.size + 1 = pB at HS HRO ⊢
  generalize hpO : pB + 1 = pO at HS ⊢
  have HN := Aside0.mk (show pB ≠ pO ∧ w.heap.size ≠ pO from by have := HRO.out; omega)
  clear hpO hpB
  refine wp_loop_ghost_k (fun n a W => ∃ pre suf, G.order = pre ++ suf ∧ n = suf.length ∧ a.tmps.size = 51 ∧ a.tmps[1]? = some (.pointer (some ⟨w.heap.size, 0, none⟩)) ∧ a.tmps[3]? = some (.pointer (some ⟨pO, 0, none⟩)) ∧ a.tmps[13]? = some (.slice Ao G.order.length co) ∧ a.tmps[14]? = some (.int .i64 (G.order.length : Int)) ∧ a.tmps[15]? = some (.int .i64 (pre.length : Int)) ∧ (∃ hi, Marks w.heap.size hi W a.defers ∧ w.heap.size ≤ hi ∧ hi ≤ W.heap.size) ∧ SI w pB pO G.tasks.length W (hTo G.tasks G.needs G.tasks.length pre) ∧ Boxed W w.heap.size 61 (.pointer (some ⟨b, 0, none⟩))) G.order.length ⟨[], G.order, rfl, rfl, rfl, rfl, rfl, rfl, rfl, rfl, ⟨_, Marks.nil _ w3.heap.size _, HS.out.below.size, Nat.le_refl _⟩, HS.out, HX3.out⟩ ?_
  rintro n ⟨tmps, ds⟩ W ⟨pre, suf, hO_, rfl, hsz, h1, h3, h13, h14, h15, ⟨hi, hM, hlo, hhi⟩, hG, hxb⟩ J K hJ hK
  generalize hj : (pre.length : Int) = j at h15
  obtain ⟨f, rfl⟩ := hframe_lit hsz h1 h3 h13 h14 h15
  clear hsz h1 h3 h13 h14 h15 HS HX3
  unfold hframe
  have hO' := Lib.hid hO_
  clear hO_
  have HM := Aside0.mk hM
  have HG := Aside0.mk hG
  have HXB := Aside0.mk hxb
  clear hM hG hxb
  cases suf with
  | nil =>
    have hlt : decide (j < (G.order.length : Int)) = false := by
      rw [← hj, hO'.out]; simp
    have hcb := HG.out.box.cell
    go_wp2
    refine leave_ret HM.out (fun W => results_tmp rfl _ _ _) ?_
    intro W' ht
    have hpre : pre = G.order := by rw [hO'.out]; simp
    have hG := HG.out.tame (Nat.le_refl _) ht
    have hl := hTo_length G.tasks G.needs G.tasks.length pre
    refine ⟨_, rfl, ?_, hG.below⟩
    have hrow := hG.row
    rw [hpre] at hrow hl
    have hl' : (up (headsN G)).length = G.tasks.length := by rw [up_length]; exact hl
    exact row_R (k := .i64) (xs := up (headsN G)) ⟨by simp [encs], .inr ⟨pB, G.tasks.length, icells (headsN G), by rw [hl']; rfl, HRO.out.1, hrow, by rw [hl']; exact Nat.le_refl _, by unfold maxLen; omega, by simp [icells]; exact hl, by rw [hl']; simp [icells, encs, up]; exact List.take_of_length_le (by rw [List.length_map]; exact Nat.le_of_eq hl)⟩⟩
  | cons i suf =>
    have hlt : decide (j < (G.order.length : Int)) = true := by
      rw [← hj, hO'.out]; simp; omega
    have q0 : j < (G.order.length : Int) := of_decide_eq_true hlt
    have p0 : 0 ≤ j := by omega
    obtain ⟨ad, e0, hx0⟩ := Kd.at_int (Kd.C_below HCo.out HG.out.below) j p0 q0
    subst e0
    rw [rd_up (i := pre.length) hj.symm] at hx0
    have hi0 : G.order.getD pre.length 0 = i := by rw [hO'.out]; simp
    rw [hi0] at hx0
    have hil : i < G.tasks.length := OK.out.ob i (by rw [hO'.out]; simp)
    generalize hxi : ((i : Nat) : Int) = xi at hx0
    replace p0 := eq_true p0
    replace q0 := eq_true q0
    go_wp2
    have hbi := Boxed.new W 3 (.int .i64 xi)
    have hG1 := HG.out.alloc (.cells #[.int .i64 xi] 3)
    have hxb1 := HXB.out.alloc (.cells #[.int .i64 xi] 3)
    have hM1 := HM.out.below ((Below.refl W.heap.size W).alloc (Nat.le_refl _) (.cells #[.int .i64 xi] 3))
    have hsz1 : (W.alloc (.cells #[.int .i64 xi] 3)).heap.size = W.heap.size + 1 := by simp
    clear hx0
    revert hbi hG1 hxb1 hM1 hsz1
    generalize W.alloc (.cells #[.int .i64 xi] 3) = Wa
    intro hbi hG1 hxb1 hM1 hsz1
    refine wp_region_still_tail 7 rfl (by kernel_rfl) ?_
    change wpStill _ _ Wa.drew (fun a' => wpList _ _ _ _ a' Wa.drew) _ _
    have hdr : Below Wa.heap.size Wa Wa.drew := below_drew (Below.refl _ _)
    revert hdr
    generalize Wa.drew = Wx
    intro hdr
    have hbi2 : Boxed Wx W.heap.size 3 (.int .i64 xi) := (hdr.block _ hbi.lt).trans hbi
    have hG2 := hG1.move hdr
    have hxb2 : Boxed Wx w.heap.size 61 (.pointer (some ⟨b, 0, none⟩)) := (hdr.block _ hxb1.lt).trans hxb1
    have hcx2 := hxb2.cell
    have hM2 := hM1.below hdr
    have hsz2 : W.heap.size + 1 ≤ Wx.heap.size := by have := hdr.size; omega
    clear hbi hG1 hxb1 hM1 hsz1 hdr
    obtain ⟨An, cn, hcn, _, hCn⟩ := (Hg.out.move hG2.below).needs
    have hnl := OK.out.nl
    have p1 : 0 ≤ xi := by omega
    have q1 : xi < (G.needs.length : Int) := by omega
    obtain ⟨adn, e1, hxn⟩ := Kd.at_int hCn xi p1 q1
    subst e1
    rw [rd_up (i := i) hxi.symm] at hxn
    have hNi : G.needs.getD i 0 < 2 ^ G.tasks.length := getD_lt OK.out.nb i
    have hst := hTo_snoc G.tasks G.needs G.tasks.length pre i
    generalize hs_ : G.needs.getD i 0 = s at hxn hNi hst
    have hci := hbi2.cell
    replace p1 := eq_true p1
    replace q1 := eq_true q1
    have HX := Aside0.mk hxi
    have HST := Aside0.mk hst
    have HJ := Aside0.mk hj
    clear hnl hCn hs_ hxi hst hj
    simp only [List.take_succ_cons, List.take_zero, List.drop_succ_cons, List.drop_zero]
    repeat still_step
    refine wpStill_nil ?_
    go_wp2_with (go_at_call 62; refine (all_calls s _).mono ?_; rintro e w' ⟨rfl, rfl⟩)
    clear hcn hxn hci hcx2 p1 q1
    have hs3 := Boxed.new Wx 70 (.int .u16 (s : Int))
    have hbi3 := hbi2.alloc (.cells #[.int .u16 (s : Int)] 70)
    have hG3 := hG2.alloc (.cells #[.int .u16 (s : Int)] 70)
    have hxb3 := hxb2.alloc (.cells #[.int .u16 (s : Int)] 70)
    have hM3 := hM2.below ((Below.refl Wx.heap.size Wx).alloc (Nat.le_refl _) (.cells #[.int .u16 (s : Int)] 70))
    have hsz3 : (Wx.alloc (.cells #[.int .u16 (s : Int)] 70)).heap.size = Wx.heap.size + 1 := by simp
    revert hs3 hbi3 hG3 hxb3 hM3 hsz3
    generalize Wx.alloc (.cells #[.int .u16 (s : Int)] 70) = Wb
    intro hs3 hbi3 hG3 hxb3 hM3 hsz3
    have h256 := pow8 h8
    have hb1 : w.heap.size ≤ Wb.heap.size := hG3.below.size
    have hb2 : hi ≤ Wb.heap.size := by omega
    refine wp_rangeSet Tab.tame (w := Wb) (w0 := Wb) (p := 27) (d := 6) rfl (enters_of Tryd.func101 (by kernel_rfl) rfl)
      (all_seq Wx.heap.size s (Nat.lt_of_lt_of_le hNi h256) Wb (HT.out.of hG3.below) hs3.cell) (Below.refl _ _) (by simp)
      (fun ys W' => ∃ zs : List Nat, (∀ z ∈ zs, z < G.tasks.length) ∧ ys = up zs ∧ SI w pB pO G.tasks.length W' (zs.foldl (hStep G.tasks i) (hTo G.tasks G.needs G.tasks.length pre)) ∧ Boxed W' W.heap.size 3 (.int .i64 xi) ∧ Marks w.heap.size hi W' ds ∧ Wb.heap.size ≤ W'.heap.size ∧ Boxed W' w.heap.size 61 (.pointer (some ⟨b, 0, none⟩))) (fun _ _ _ => False)
      (ownFrom_tame (fun ys W' W'' ht ⟨zs, z, a, b, c, d, e, x⟩ => ⟨zs, z, a, b.tame hb1 ht, ht.boxed c, d.tame ht hb2, Nat.le_trans e ht.size, ht.boxed x⟩)) (fun _ => ownFrom_tame (fun _ _ _ _ h => h))
      ⟨[], by simp, rfl, hG3, hbi3, hM3, Nat.le_refl _, hxb3⟩ (fun ys W' ⟨_, _, _, b, _⟩ => HT.out.of b.below) ?body1 ?done1 (fun _ _ _ _ _ h _ => h.elim)
    case body1 =>
      rintro l pre1 x W1 hx ⟨zs, hzl, rfl, hG4, hbi4, hM4, hsz4, hxb4⟩ hlt1
      gi_wp2
      obtain ⟨k0, hxk, hk0, _⟩ := mem_elems.1 hx
      have hkn : k0 < G.tasks.length := by have := elems_lt hNi hx; omega
      have hL1 : (zs.foldl (hStep G.tasks i) (hTo G.tasks G.needs G.tasks.length pre)).length = G.tasks.length := by rw [hfold_length G.tasks, hTo_length]
      have hpl : pre.length ≤ 8 := by have h1 := OK.out.ol; rw [hO'.out] at h1; simp at h1; omega
      have hle := hfold_le (i := i) (tm20_of HTK.out) zs _ _ (hTo_le (tm20_of HTK.out) G.needs G.tasks.length pre)
      have hzl16 : zs.length < 16 := by rwa [up_length] at hlt1
      have hli := hle i
      have hlk := hle k0
      have hstep : (zs ++ [k0]).foldl (hStep G.tasks i) (hTo G.tasks G.needs G.tasks.length pre) = (zs.foldl (hStep G.tasks i) (hTo G.tasks G.needs G.tasks.length pre)).set i (max ((zs.foldl (hStep G.tasks i) (hTo G.tasks G.needs G.tasks.length pre)).getD i 0) ((zs.foldl (hStep G.tasks i) (hTo G.tasks G.needs G.tasks.length pre)).getD k0 0 + tmN G.tasks k0)) := by rw [List.foldl_append]; rfl
      refine wpIn_still_tail 21 rfl (by kernel_rfl) (by kernel_rfl) (fun ⟨_, _, h⟩ => h) ?_
      change wpStill _ _ W1.drew (fun a' => wpList _ _ _ _ a' W1.drew) _ _
      have hdr : Below W1.heap.size W1 W1.drew := below_drew (Below.refl _ _)
      have hko := KeepsOthers.drew W1
      revert hdr hko
      generalize W1.drew = Wd
      intro hdr hko
      have hG5 := hG4.move hdr
      have hbi5 : Boxed Wd W.heap.size 3 (.int .i64 xi) := (hdr.block _ hbi4.lt).trans hbi4
      have hM5 := hM4.below hdr
      have hxb5 : Boxed Wd w.heap.size 61 (.pointer (some ⟨b, 0, none⟩)) := (hdr.block _ hxb4.lt).trans hxb4
      have hcx := hxb5.cell
      obtain ⟨At, ct, hct, hctl, hCt⟩ := (Hg.out.move hG5.below).tasks
      have pk : 0 ≤ x := by omega
      have qk : x < (G.tasks.length : Int) := by omega
      obtain ⟨adt, A1t, c1t, et, ht0, ht1, ht2, ht3, ht4, ht5⟩ := at_T37 hCt x pk qk
      subst et
      have hrdt : rd_T37 G.tasks x = G.tasks.getD k0 z37 := by rw [hxk]; simp [rd_T37]
      have htm := tm_int HTK.out hkn
      rw [hrdt, htm.1] at ht0
      have htm20 := htm.2.2
      clear hrdt htm ht1 ht2 ht3 ht4 ht5 hCt hctl pk qk
      obtain ⟨ad5, had5⟩ : ∃ ad5 : Addr, ad5 = ⟨pB, 0, none⟩ := ⟨_, rfl⟩
      have hc10 : Wd.cell? ⟨pO, 0, none⟩ = some (.slice (some ad5) G.tasks.length G.tasks.length) := by rw [had5]; exact hG5.box.cell
      have hci := hbi5.cell
      have hLi := icell hG5.row i (by omega)
      have hLk := icell hG5.row k0 (by omega)
      have hfi := ifrozen hG5.row i
      have hxi := HX.out
      have hit : xi.toNat = i := by omega
      have hkt : x.toNat = k0 := by omega
      generalize (zs.foldl (hStep G.tasks i) (hTo G.tasks G.needs G.tasks.length pre)).getD i 0 = si at hLi hli hstep
      generalize (zs.foldl (hStep G.tasks i) (hTo G.tasks G.needs G.tasks.length pre)).getD k0 0 = sk at hLk hlk hstep
      generalize tmN G.tasks k0 = tk at ht0 htm20 hstep
      have hmx : (if (si : Int) < IntKind.i64.wrap ((sk : Int) + (tk : Int)) then IntKind.i64.wrap ((sk : Int) + (tk : Int)) else (si : Int)) = ((max si (sk + tk) : Nat) : Int) := by
        rw [i64_w, w64 (n := (sk : Int) + (tk : Int)) (by omega) (by omega)]
        split <;> omega
      generalize ((tk : Nat) : Int) = tI at ht0 hmx
      generalize hsI : ((si : Nat) : Int) = sI at hLi hmx
      generalize hsK : ((sk : Nat) : Int) = sK at hLk hmx
      rw [← add_own, ← had5, ← hit] at hLi hfi
      rw [← add_own, ← had5, ← hkt] at hLk
      have p2 : (0 ≤ x) = True := eq_true (by omega)
      have q2 : (x < (G.tasks.length : Int)) = True := eq_true (by omega)
      have p3 : (0 ≤ xi) = True := eq_true (by omega)
      have q3 : (xi < (G.tasks.length : Int)) = True := eq_true (by omega)
      have HH := Aside0.mk (show x = (k0 : Int) ∧ xi.toNat = i ∧ ad5 = ⟨pB, 0, none⟩ from ⟨hxk, hit, had5⟩)
      have HSTEP := Aside0.mk hstep
      have HMX := Aside0.mk hmx
      clear hxk hit hkt had5 hsI hsK hxi hx hstep hmx hle hli hlk hlt1 hpl hzl16 hlt
      simp only [List.take_succ_cons, List.take_zero, List.drop_succ_cons, List.drop_zero]
      repeat still_step
      rw [HMX.out]
      refine wpStill_nil ?_
      go_wp2
      obtain ⟨hxk, hit, had5⟩ := HH.out
      rw [show ad5.add xi.toNat = ⟨pB, i, none⟩ by rw [had5, add_own, hit]]
      refine ⟨(hko.trans (KeepsOthers.setCell _ _ _)).from _, zs ++ [k0], ?_, ?_, ?_, ?_, ?_, ?_, ?_⟩
      · intro z hz
        rcases List.mem_append.1 hz with hz | hz
        · exact hzl z hz
        · rw [List.mem_singleton.1 hz]; exact hkn
      · rw [hxk]; simp [up]
      · rw [HSTEP.out]; exact hG5.set (HRO.out.1) (Ne.symm HN.out.1) i _
      · exact (sother _ (by have := cells_lt HG.out.row; omega)).trans hbi5
      · exact hM5.grow (grownBy_setCell'' _ _ _ _) (fun k hk => ⟨_, _, by cases hk; exact hG5.row⟩)
      · exact Nat.le_trans hsz4 (Nat.le_trans hdr.size (KeepsOthers.setCell _ _ _).size)
      · exact (sother _ HRO.out.2).trans hxb5
    case done1 =>
      rintro D W2 hD ⟨zs, hzl, hzs, hG4, hbi4, hM4, hsz4, hxb4⟩ hk
      obtain rfl : elemsN s = zs := up_inj hzs
      have hM5 := hM4.cons (Nat.le_trans hb2 hD) hlo hk
      clear hzs hk hs3 hbi3 hG3 hM3
      go_wp2
      have hl8 : pre.length + suf.length + 1 ≤ 8 := by
        have h1 := OK.out.ol
        rw [hO'.out] at h1
        simp at h1
        omega
      have hj1 : wrap64 (j + 1) = ((pre ++ [i]).length : Int) := by
        have := HJ.out
        rw [w64 (n := j + 1) (by omega) (by omega), List.length_append]
        simp
        omega
      refine ⟨suf.length, by simp, hJ _ _ _ ⟨pre ++ [i], suf, by rw [hO'.out]; simp, rfl, rfl, rfl, rfl, rfl, rfl, by rw [← hj1]; rfl, ⟨_, hM5, hG4.below.size, Nat.le_refl _⟩, by rw [HST.out]; exact hG4, hxb4⟩⟩
end Go.Proofs.YtekajandipdlhaaDoor.Core
end
section
set_option linter.unusedVariables false
set_option linter.unusedSimpArgs false
namespace Go.Proofs.YtekajandipdlhaaDoor.Core
open Go Go.RowKit Go.Proofs.YtekajandipdlhaaDoor.P
def headTD (g : List Tk) : List Int := match graphD g with
  | none => []
  | some G => up (headsN G)
end Go.Proofs.YtekajandipdlhaaDoor.Core
namespace Go.Proofs.YtekajandipdlhaaDoor.P
open Go Go.RowKit Go.Shelf Go.Proofs.YtekajandipdlhaaDoorW.PrintWords Go.Proofs.YtekajandipdlhaaDoorW.PrintMore Go.Proofs.YtekajandipdlhaaDoor.Core
attribute [local go_sem] Oper.semAt_some wide_fn wide_depth
def impl_HeadTimes.f (l0 : List S37) : Option (List Int) := some (headTD l0)
set_option maxRecDepth 100000 in
set_option maxHeartbeats 1000000 in
theorem impl_HeadTimes.calls (A0 : Option Addr) (c0 : Nat) (l0 : List S37) (r : List Int) (w : World) (hr0 : Kd.C k37 w A0 l0.length l0) (hc0 : l0.length ≤ c0) (hT : Tab w) (h : impl_HeadTimes.f l0 = some r) :
    Calls Tryd.prog 38 #[.slice A0 l0.length c0] w fun e w' => ∃ v0_ : Value, e = .returned (v0_) ∧ Kd.R (Kd.int .i64) 3 w' w.heap.size (fun _ => True) v0_ r ∧ Below w.heap.size w w' := by
  have hr : r = headTD l0 := (Option.some.inj h).symm
  subst hr
  clear h
  cases hg : graphD l0 with
  | none =>
    have hcd : headTD l0 = [] := by unfold headTD; rw [hg]
    rw [hcd]
    have HG := Aside0.mk (graphOf_none A0 c0 l0 w hT hr0 hc0 hg)
    clear hr0 hT hg hcd
    go_enter Tryd.func38, Tryd.ntmps38
    go_wp2_with (go_at_call 60; refine HG.out.mono ?_; rintro e w' ⟨rfl, hB⟩)
    go_ret
    exact ⟨_, rfl, Kd.R_nil _ _ _ _ _, hB⟩
  | some G =>
    have hcd : headTD l0 = up (headsN G) := by unfold headTD; rw [hg]
    rw [hcd]
    have HG := Aside0.mk (graphOf_some A0 c0 l0 G w hT hr0 hc0 hg)
    have HM := Aside0.mk (fun b W hT hgr => heads_calls b G W hT hgr (graphD_ok hg) (by rw [graphD_tasks hg]; exact graphD_taskOk hg))
    have HT := Aside0.mk hT
    clear hr0 hT hg hcd
    go_enter Tryd.func38, Tryd.ntmps38
    go_wp2_with (first | (go_at_call 60; refine HG.out.mono ?_; rintro e w1 ⟨b, rfl, hB, hgr⟩) | (go_at_call 77; refine (HM.out b _ (HT.out.of hB) hgr).mono ?_; rintro e w2 ⟨v, rfl, hR, hB2⟩))
    go_ret
    exact ⟨_, rfl, Kd.R_mono (Kd.R_lower hR hB.size) (fun _ _ => trivial), below_step hB hB2⟩
end Go.Proofs.YtekajandipdlhaaDoor.P
end
