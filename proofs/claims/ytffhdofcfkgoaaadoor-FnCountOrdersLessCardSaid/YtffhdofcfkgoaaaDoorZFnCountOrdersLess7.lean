/- The law FnCountOrdersLess holds of the given program: part 7: words and contracts that the proof uses. -/
import Derived.Test.YtffhdofcfkgoaaaDoorZFnCountOrdersLess6
section
set_option linter.unusedVariables false
set_option linter.unusedSimpArgs false
namespace Go.Proofs.YtffhdofcfkgoaaaDoor.Core
open Go Go.RowKit Go.Proofs.YtffhdofcfkgoaaaDoorW.PrintWords Go.Proofs.YtffhdofcfkgoaaaDoorW.PrintLast Go.Proofs.YtffhdofcfkgoaaaDoorW.PrintMore Go.Proofs.YtffhdofcfkgoaaaDoor.P
/-- A task without its useless needs. -/
def wtask (G : GD) (g : List Tk) (i : Nat) : Tk := ⟨(g.getD i z33).f0, elems (sub (G.needs.getD i 0) (uselessD G i)), (g.getD i z33).f2, (g.getD i z33).f3⟩
def withoutTo (G : GD) (g : List Tk) (n : Nat) : List Tk := (List.range n).map (wtask G g)
theorem withoutTo_succ (G : GD) (g : List Tk) (n : Nat) : withoutTo G g (n + 1) = withoutTo G g n ++ [wtask G g n] := by unfold withoutTo; rw [List.range_succ, List.map_append]; rfl
theorem withoutTo_length (G : GD) (g : List Tk) (n : Nat) : (withoutTo G g n).length = n := by simp [withoutTo]
theorem four_set {w : World} {g t : Nat} {o0 o1 o2 o3 : Value} (h : w.heap[g]? = some (.cells #[o0, o1, o2, o3] t (0, 0))) (v0 v1 v2 v3 : Value) :
    ((((w.setCell ⟨g, 0, none⟩ v0).setCell ⟨g, 1, none⟩ v1).setCell ⟨g, 2, none⟩ v2).setCell ⟨g, 3, none⟩ v3).heap[g]? = some (.cells #[v0, v1, v2, v3] t (0, 0)) ∧ w.grownBy ((((w.setCell ⟨g, 0, none⟩ v0).setCell ⟨g, 1, none⟩ v1).setCell ⟨g, 2, none⟩ v2).setCell ⟨g, 3, none⟩ v3) (some g) :=
  ⟨blk_put (blk_put (blk_put (blk_put h 0 v0 rfl) 1 v1 rfl) 2 v2 rfl) 3 v3 rfl, grown_trans (grown_trans (grown_trans (grownBy_setCell'' _ _ _ _) (grownBy_setCell'' _ _ _ _)) (grownBy_setCell'' _ _ _ _)) (grownBy_setCell'' _ _ _ _)⟩
def withoutD (g : List Tk) : List Tk := match graphD g with
  | none => []
  | some G => withoutTo G g g.length
end Go.Proofs.YtffhdofcfkgoaaaDoor.Core
namespace Go.Proofs.YtffhdofcfkgoaaaDoor.P
open Go Go.RowKit Go.Shelf Go.Proofs.YtffhdofcfkgoaaaDoorW.PrintWords Go.Proofs.YtffhdofcfkgoaaaDoorW.PrintLast Go.Proofs.YtffhdofcfkgoaaaDoorW.PrintMore Go.Proofs.YtffhdofcfkgoaaaDoor.Core
attribute [local go_sem] Oper.semAt_some wide_fn wide_depth
def impl_WithoutUseless.f (l0 : List S33) : Option (List S33) := some (withoutD l0)
set_option maxRecDepth 100000 in
set_option maxHeartbeats 8000000 in
theorem impl_WithoutUseless.calls (A0 : Option Addr) (c0 : Nat) (l0 : List S33) (r : List S33) (w : World) (hr0 : Kd.C k33 w A0 l0.length l0) (hc0 : l0.length ≤ c0) (hT : Tab w) (h : impl_WithoutUseless.f l0 = some r) :
    Calls Tryd.prog 36 #[.slice A0 l0.length c0] w fun e w' => ∃ v0_ : Value, e = .returned (v0_) ∧ Kd.S k33 33 w' w.heap.size (fun _ => True) v0_ r ∧ Below w.heap.size w w' := by
  have hr : r = withoutD l0 := (Option.some.inj h).symm
  subst hr
  clear h
  cases hg : graphD l0 with
  | none =>
    have hcd : withoutD l0 = [] := by unfold withoutD; rw [hg]
    rw [hcd]
    have HG := Aside0.mk (graphOf_none A0 c0 l0 w hT hr0 hc0 hg)
    clear hr0 hT hg hcd
    go_enter Tryd.func36, Tryd.ntmps36
    go_wp2_with (go_at_call 47; refine HG.out.mono ?_; rintro e w' ⟨rfl, hB⟩)
    go_ret
    exact ⟨_, rfl, Kd.S_nil _ _ _ _ _, hB⟩
  | some G =>
    have hcd : withoutD l0 = withoutTo G l0 l0.length := by unfold withoutD; rw [hg]
    rw [hcd]
    have HG := Aside0.mk (graphOf_some A0 c0 l0 G w hT hr0 hc0 hg)
    have OK := Aside0.mk (graphD_ok hg)
    have HE := Aside0.mk (show G.tasks = l0 by obtain ⟨N, _, _, rfl⟩ := graphD_spec hg; rfl)
    have HR0 := Aside0.mk hr0
    have HC0 := Aside0.mk hc0
    have HTw := Aside0.mk hT
    clear hr0 hc0 hT hg hcd
    go_enter Tryd.func36, Tryd.ntmps36
    have hn8 : l0.length ≤ 8 := by have := OK.out.n8; rw [HE.out] at this; exact this
    have dc1 : decide (0 ≤ (l0.length : Int)) = true := decide_eq_true (by omega)
    have HN8 := Aside0.mk hn8
    clear hn8
    go_wp2_with (first | (go_at_call 47; refine HG.out.mono ?_; rintro e w1 ⟨b, rfl, hB, hI⟩; have HB1 := Aside0.mk hB; have HI := Aside0.mk hI; clear hB hI HG) | ((with_reducible refine gate_dst (N := 17) rfl ?_); refine Kd.S_make0 k33 _ 33 rfl (N := 17) rfl 25 _ _ rfl (l0.length : Int) rfl rfl Tryd.underlying25 (.agg #[(.int .i64 0), (.slice none 0 0), (.int .i64 0), (.int .i64 0)]) 48 info33 rfl (by decide) (by omega) (ok := fun _ => True) trivial (by omega) (by have := HN8.out; omega) (Below.refl _ _) (Nat.le_refl _) ?_; intro v5 w2 ho hb hg_ hnew_; clear hg_ hnew_; have HO := Aside0.mk ho; have HB := Aside0.mk hb; clear ho hb))
    go_loopg [5, 20] l0.length (fun kq v5 v20 w' => ∃ (j : Nat) (x : Int), v20 = .int .i64 x ∧ Aside0 (kq + j = l0.length ∧ x = (j : Int)) ∧ Aside0 (Kd.S k33 33 w' w1.heap.size (fun _ => True) v5 (withoutTo G l0 j)) ∧ Aside0 (Below w1.heap.size w1 w'))
    case atStart => exact ⟨0, 0, rfl, ⟨by omega, rfl⟩, ⟨HO.out⟩, ⟨HB.out⟩⟩
    case round =>
      clear HO HB
      obtain ⟨j, x, rfl, HJ, HO, HB⟩ := hrel
      by_cases hlt : j < l0.length
      · have hx := HJ.out.2
        have hd : decide (x < (l0.length : Int)) = true := decide_eq_true (by omega)
        have p0 : 0 ≤ x := by omega
        have q0 : x < (l0.length : Int) := by omega
        obtain ⟨ad, A1, c1, e0, h0, h1, h2, h3, h4, h5⟩ := at_T33 HR0.out x p0 q0
        subst e0
        have HBw := below_step HB1.out HB.out
        replace h0 := (HBw.cell (World.block_lt_of_cell? w _ h0)).trans h0
        replace h1 := (HBw.cell (World.block_lt_of_cell? w _ h1)).trans h1
        replace h2 := (HBw.cell (World.block_lt_of_cell? w _ h2)).trans h2
        replace h3 := (HBw.cell (World.block_lt_of_cell? w _ h3)).trans h3
        have ht : rd_T33 l0 x = l0.getD j z33 := by rw [hx]; simp [rd_T33]
        obtain ⟨tk, htk⟩ : ∃ t, t = l0.getD j z33 := ⟨_, rfl⟩
        rw [ht, ← htk] at h0 h1 h2 h3
        have HTK := Aside0.mk htk
        have HLT := Aside0.mk hlt
        replace p0 := eq_true p0
        replace q0 := eq_true q0
        clear ht htk h4 h5 HBw hlt hx
        go_wp2_with ((with_reducible refine gate_dst (N := 7) rfl ?_); refine box_event ?hg (N := 7) ?hd (cs := #[.int .i64 0, .slice none 0 0, .int .i64 0, .int .i64 0]) (t := 33) ?hr ?_; (case hd => rfl); (case hg => rfl); (case hr => first | (go_simp; done) | (go_simp; rfl)); intro gb hg w7 hbox hb; have n0 := Aside0.mk (Kd.S_below (Kd.S_elderB HO.out gb (Nat.le_of_eq hg.symm)) hb); have n1 := Aside0.mk (below_step HB.out hb); have GE := Aside0.mk (show w1.heap.size ≤ gb by rw [hg]; exact HB.out.size); clear HO HB hb hg; have HO := n0; have HB := n1; have BK := Aside0.mk hbox; clear n0 n1 hbox; have z0 : w7.cell? ⟨gb, 0, none⟩ = some (.int .i64 0) := (blk_cell BK.out 0).trans rfl; have z1 : w7.cell? ⟨gb, 1, none⟩ = some (.slice none 0 0) := (blk_cell BK.out 1).trans rfl; have z2 : w7.cell? ⟨gb, 2, none⟩ = some (.int .i64 0) := (blk_cell BK.out 2).trans rfl; have z3 : w7.cell? ⟨gb, 3, none⟩ = some (.int .i64 0) := (blk_cell BK.out 3).trans rfl; have f0 := blk_frozen BK.out 0; have f1 := blk_frozen BK.out 1; have f2 := blk_frozen BK.out 2; have f3 := blk_frozen BK.out 3)
        have h8 := four_set BK.out (.int .i64 tk.f0) (.slice A1 tk.f1.length c1) (.int .i64 tk.f2) (.int .i64 tk.f3)
        have HO8 := Aside0.mk (show Kd.S k33 33 _ w1.heap.size (fun k => k ≠ gb) u5 (withoutTo G l0 j) from Kd.S_grown (Kd.S_mono HO.out (fun k hk => hk.2)) h8.2 (fun k hk e => hk (by injection e)))
        have HB8 := Aside0.mk (below_put h8.2 HB.out (Nat.le_refl _) GE.out)
        have BK8 := Aside0.mk h8.1
        clear h8 HO HB BK z0 z1 z2 z3 f0 f1 f2 f3 h0 h1 h2 h3 p0 q0 hd
        revert HO8 HB8 BK8
        generalize ((((w7.setCell ⟨gb, 0, none⟩ (.int .i64 tk.f0)).setCell ⟨gb, 1, none⟩ (.slice A1 tk.f1.length c1)).setCell ⟨gb, 2, none⟩ (.int .i64 tk.f2)).setCell ⟨gb, 3, none⟩ (.int .i64 tk.f3)) = wa
        intro HO8 HB8 BK8
        have hgd0 := HI.out.move HB8.out
        have hTd0 := HTw.out.of (below_step HB1.out HB8.out)
        obtain ⟨An, cn, hcn, _, hCn⟩ := hgd0.needs
        have hx := HJ.out.2
        have hlt := HLT.out
        have hnl := OK.out.nl
        rw [HE.out] at hnl
        have p1 : 0 ≤ x := by omega
        have q1 : x < (G.needs.length : Int) := by omega
        obtain ⟨adn, e1, hxn⟩ := Kd.at_int hCn x p1 q1
        subst e1
        rw [rd_up (i := j) hx] at hxn
        have h256 := pow8 OK.out.n8
        have hsl := Nat.lt_of_lt_of_le (getD_lt OK.out.nb j) h256
        have hul := Nat.lt_of_lt_of_le (uselessD_lt OK.out j) h256
        have hp : wtask G l0 j = ⟨tk.f0, elems (sub (G.needs.getD j 0) (uselessD G j)), tk.f2, tk.f3⟩ := by unfold wtask; rw [← HTK.out]
        have HU := fun W hT hg => useless_calls b G j W hT hg OK.out (by rw [HE.out]; exact hlt)
        rw [← hx] at HU
        generalize G.needs.getD j 0 = s at hxn hsl hp
        generalize uselessD G j = u at hul hp HU
        have hand := andNot_eq hsl hul
        have hr2 : sub s u < 256 := sub_lt hsl
        generalize sub s u = r2 at hand hr2 hp
        have HP := Aside0.mk hp
        replace p1 := eq_true p1
        replace q1 := eq_true q1
        clear hp hx hlt hnl hCn hsl hul
        refine start_ (n := 14) (S := fun w' => w'.cell? ⟨b, 1, none⟩ = some (.slice (some adn) G.needs.length cn) ∧ w'.cell? (adn.add x.toNat) = some (.int .u16 (s : Int))) (ds := [13]) #[false, false, false, false, false, false, false, false, false, false, false, false, false, false] rfl (by kernel_rfl) rfl ⟨hcn, hxn⟩ (fun hHeld => ?_)
        have hdr : Below wa.heap.size wa wa.drew := below_drew (Below.refl _ _)
        have HBd := Aside0.mk (below_step HB8.out hdr)
        have HOd := Aside0.mk (Kd.S_below HO8.out hdr)
        have BKd := Aside0.mk ((hdr.block gb (cells_lt BK8.out)).trans BK8.out)
        have hgd := hgd0.move hdr
        have hTd := hTd0.of hdr
        revert HBd HOd BKd hgd hTd hHeld
        clear hdr hgd0 hTd0 hcn hxn HO8 HB8 BK8
        generalize wa.drew = wd
        intro hHeld HBd HOd BKd hgd hTd
        refine pure_ (i := 0) (N := some 25) (v := ?_) (a' := ?_) #[true, false, false, false, false, false, false, false, false, false, false, false, false, false] rfl rfl (by kernel_rfl) (fun _ _ _ h => h) (Or.inl ⟨by rfl, ?_⟩) ?_ ?_
        rotate_left
        · intro w'
          go_simp
          with_reducible rfl
        rotate_left
        · simp only [Act.put, List.setIfInBounds_toArray, List.set_cons_zero, List.set_cons_succ, i64_w, i32_w]
          rfl
        refine pure_ (i := 1) (N := some 26) (v := ?_) (a' := ?_) #[true, true, false, false, false, false, false, false, false, false, false, false, false, false] rfl rfl (by kernel_rfl) (fun _ _ _ h => h) (Or.inl ⟨by rfl, ?_⟩) ?_ ?_
        rotate_left
        · intro w'
          go_simp
          with_reducible rfl
        rotate_left
        · simp only [Act.put, List.setIfInBounds_toArray, List.set_cons_zero, List.set_cons_succ, i64_w, i32_w]
          rfl
        refine pure_ (i := 2) (N := some 27) (v := ?_) (a' := ?_) #[true, true, true, false, false, false, false, false, false, false, false, false, false, false] rfl rfl (by kernel_rfl) (fun _ _ _ h => h) (Or.inl ⟨by rfl, ?_⟩) ?_ ?_
        rotate_left
        · intro w'
          go_simp
          with_reducible rfl
        rotate_left
        · simp only [Act.put, List.setIfInBounds_toArray, List.set_cons_zero, List.set_cons_succ, i64_w, i32_w]
          rfl
        refine take_ (i := 3) (N := some 28) (v := ?_) (a' := ?_) #[true, true, true, true, false, false, false, false, false, false, false, false, false, false] rfl rfl (by kernel_rfl) (fun _ _ _ h => h) (Or.inl ⟨by rfl, ?_⟩) hHeld ?_ ?_
        rotate_left
        · rintro w' ⟨s0, s1⟩
          go_simp
          with_reducible rfl
        rotate_left
        · simp only [Act.put, List.setIfInBounds_toArray, List.set_cons_zero, List.set_cons_succ, i64_w, i32_w]
          rfl
        refine pure_ (i := 4) (N := some 29) (v := ?_) (a' := ?_) #[true, true, true, true, true, false, false, false, false, false, false, false, false, false] rfl rfl (by kernel_rfl) (fun _ _ _ h => h) (Or.inl ⟨by rfl, ?_⟩) ?_ ?_
        rotate_left
        · intro w'
          go_simp
          with_reducible rfl
        rotate_left
        · simp only [Act.put, List.setIfInBounds_toArray, List.set_cons_zero, List.set_cons_succ, i64_w, i32_w]
          rfl
        refine pure_ (i := 5) (N := some 30) (v := ?_) (a' := ?_) #[true, true, true, true, true, true, false, false, false, false, false, false, false, false] rfl rfl (by kernel_rfl) (fun _ _ _ h => h) (Or.inl ⟨by rfl, ?_⟩) ?_ ?_
        rotate_left
        · intro w'
          go_simp
          with_reducible rfl
        rotate_left
        · simp only [Act.put, List.setIfInBounds_toArray, List.set_cons_zero, List.set_cons_succ, i64_w, i32_w]
          rfl
        refine take_ (i := 6) (N := some 31) (v := ?_) (a' := ?_) #[true, true, true, true, true, true, true, false, false, false, false, false, false, false] rfl rfl (by kernel_rfl) (fun _ _ _ h => h) (Or.inl ⟨by rfl, ?_⟩) hHeld ?_ ?_
        rotate_left
        · rintro w' ⟨s0, s1⟩
          go_simp
          with_reducible rfl
        rotate_left
        · simp only [Act.put, List.setIfInBounds_toArray, List.set_cons_zero, List.set_cons_succ, i64_w, i32_w]
          rfl
        refine pure_ (i := 7) (N := some 32) (v := ?_) (a' := ?_) #[true, true, true, true, true, true, true, true, false, false, false, false, false, false] rfl rfl (by kernel_rfl) (fun _ _ _ h => h) (Or.inl ⟨by rfl, ?_⟩) ?_ ?_
        rotate_left
        · intro w'
          go_simp
          with_reducible rfl
        rotate_left
        · simp only [Act.put, List.setIfInBounds_toArray, List.set_cons_zero, List.set_cons_succ, i64_w, i32_w]
          rfl
        refine pure_ (i := 8) (N := some 33) (v := ?_) (a' := ?_) #[true, true, true, true, true, true, true, true, true, false, false, false, false, false] rfl rfl (by kernel_rfl) (fun _ _ _ h => h) (Or.inl ⟨by rfl, ?_⟩) ?_ ?_
        rotate_left
        · intro w'
          go_simp
          with_reducible rfl
        rotate_left
        · simp only [Act.put, List.setIfInBounds_toArray, List.set_cons_zero, List.set_cons_succ, i64_w, i32_w]
          rfl
        refine one_ (i := 9) (N := some 34) #[true, true, true, true, true, true, true, true, true, true, false, false, false, false] rfl rfl (by kernel_rfl) (by decide) (fun K hK => ?_)
        refine goes_ Tryd.func62 (by kernel_rfl) rfl #[.pointer (some ⟨b, 0, none⟩), .int .i64 x] (by rfl) rfl rfl (by (try simp only [List.map_toArray, List.map_cons, List.map_nil]); rfl) ?_
        refine (HU wd hTd hgd).mono ?_
        rintro e w8 ⟨rfl, hb8⟩
        refine ⟨_, rfl, ?_⟩
        have hHeld8 : w8.cell? ⟨b, 1, none⟩ = some (.slice (some adn) G.needs.length cn) ∧ w8.cell? (adn.add x.toNat) = some (.int .u16 (s : Int)) := ⟨(hb8.cell (World.block_lt_of_cell? _ _ hHeld.1)).trans hHeld.1, (hb8.cell (World.block_lt_of_cell? _ _ hHeld.2)).trans hHeld.2⟩
        refine hK.out _ _ hHeld8 (fun _ => ?_)
        clear hK K
        refine norm_ (a' := ?_) ?_ ?_
        rotate_left
        · show Act.put _ (some 34) _ = _
          simp only [Act.put, List.setIfInBounds_toArray, List.set_cons_zero, List.set_cons_succ, i64_w, i32_w]
          rfl
        refine pure_ (i := 10) (N := some 35) (v := ?_) (a' := ?_) #[true, true, true, true, true, true, true, true, true, true, true, false, false, false] rfl rfl (by kernel_rfl) (fun _ _ _ h => h) (Or.inl ⟨by rfl, ?_⟩) ?_ ?_
        rotate_left
        · intro w'
          go_simp
          with_reducible rfl
        rotate_left
        · simp only [Act.put, List.setIfInBounds_toArray, List.set_cons_zero, List.set_cons_succ, i64_w, i32_w]
          rfl
        try rw [hand]
        refine one_ (i := 11) (N := some 36) #[true, true, true, true, true, true, true, true, true, true, true, true, false, false] rfl rfl (by kernel_rfl) (by decide) (fun K hK => ?_)
        refine goes_ Tryd.func63 (by kernel_rfl) rfl #[.int .u16 (r2 : Int)] (by rfl) rfl rfl (by (try simp only [List.map_toArray, List.map_cons, List.map_nil]); rfl) ?_
        refine (list_calls r2 hr2 w8 (hTd.of hb8)).mono ?_
        rintro e w9 ⟨v9, rfl, ho9, hb9⟩
        refine ⟨_, rfl, ?_⟩
        have hHeld9 : w9.cell? ⟨b, 1, none⟩ = some (.slice (some adn) G.needs.length cn) ∧ w9.cell? (adn.add x.toNat) = some (.int .u16 (s : Int)) := ⟨(hb9.cell (World.block_lt_of_cell? _ _ hHeld8.1)).trans hHeld8.1, (hb9.cell (World.block_lt_of_cell? _ _ hHeld8.2)).trans hHeld8.2⟩
        obtain ⟨A9, c9, e9⟩ := Kd.R_slice ho9
        subst e9
        have BK9 := Aside0.mk ((hb9.block gb (Nat.lt_of_lt_of_le (cells_lt BKd.out) hb8.size)).trans ((hb8.block gb (cells_lt BKd.out)).trans BKd.out))
        have hc9 := blk_cell BK9.out 1
        have hf9 := blk_frozen BK9.out 1
        refine hK.out _ _ hHeld9 (fun _ => ?_)
        clear hK K
        refine norm_ (a' := ?_) ?_ ?_
        rotate_left
        · show Act.put _ (some 36) _ = _
          simp only [Act.put, List.setIfInBounds_toArray, List.set_cons_zero, List.set_cons_succ, i64_w, i32_w]
          rfl
        refine pure_ (i := 12) (N := some 37) (v := ?_) (a' := ?_) #[true, true, true, true, true, true, true, true, true, true, true, true, true, false] rfl rfl (by kernel_rfl) (fun _ _ _ h => h) (Or.inl ⟨by rfl, ?_⟩) ?_ ?_
        rotate_left
        · intro w'
          go_simp
          with_reducible rfl
        rotate_left
        · simp only [Act.put, List.setIfInBounds_toArray, List.set_cons_zero, List.set_cons_succ, i64_w, i32_w]
          rfl
        refine last_ (i := 13) (N := none) #[true, true, true, true, true, true, true, true, true, true, true, true, true, true] rfl rfl (by kernel_rfl) (by decide) (fun K hK => ?_)
        refine skip_ (w1 := ?_) (by rfl) rfl ?_ ?_
        rotate_left
        · go_simp
          rfl
        refine hK.out _ _ ?_
        clear hK K
        refine done_ (by kernel_rfl) ?_
        have hS8 := Kd.S_below HOd.out hb8
        have hgb8 : gb < w8.heap.size := Nat.lt_of_lt_of_le (cells_lt BKd.out) hb8.size
        have hS10 := Aside0.mk (show Kd.S k33 33 (w9.setCell ⟨gb, 1, none⟩ (.slice A9 (elems r2).length c9)) w1.heap.size (fun k => k ≠ gb ∧ k < w8.heap.size) u5 (withoutTo G l0 j) from Kd.S_far (p := ⟨gb, 1, none⟩) (Kd.S_old hS8 hb9) (fun k hk => hk.1) _)
        have hR10 := Aside0.mk (show Kd.R (Kd.int .i64) 3 (w9.setCell ⟨gb, 1, none⟩ (.slice A9 (elems r2).length c9)) w8.heap.size (fun k => w8.heap.size ≤ k) (.slice A9 (elems r2).length c9) (elems r2) from Kd.R_far (p := ⟨gb, 1, none⟩) (Kd.R_mono (Kd.R_bound ho9) (fun k hk => hk.2.1)) (fun k hk e => by dsimp only at e; omega) _)
        have HBe := below_step HBd.out hb8
        have HB10 := Aside0.mk ((below_step HBe hb9).setCell (p := ⟨gb, 1, none⟩) GE.out (.slice A9 (elems r2).length c9))
        have BK10 := Aside0.mk (blk_put BK9.out 1 (.slice A9 (elems r2).length c9) rfl)
        have HZ := Aside0.mk (show w1.heap.size ≤ w8.heap.size ∧ gb < w8.heap.size from ⟨HBe.size, hgb8⟩)
        clear hS8 hgb8 HBe hc9 hf9 BK9 ho9 hb9 hb8 BKd HOd HBd hTd hgd hHeld hHeld8 hHeld9 hand HU
        revert hS10 hR10 HB10 BK10
        generalize w9.setCell ⟨gb, 1, none⟩ (.slice A9 (elems r2).length c9) = wc
        intro hS10 hR10 HB10 BK10
        have z0 : wc.cell? ⟨gb, 0, none⟩ = some (.int .i64 tk.f0) := (blk_cell BK10.out 0).trans rfl
        have z1 : wc.cell? ⟨gb, 1, none⟩ = some (.slice A9 (elems r2).length c9) := (blk_cell BK10.out 1).trans rfl
        have z2 : wc.cell? ⟨gb, 2, none⟩ = some (.int .i64 tk.f2) := (blk_cell BK10.out 2).trans rfl
        have z3 : wc.cell? ⟨gb, 3, none⟩ = some (.int .i64 tk.f3) := (blk_cell BK10.out 3).trans rfl
        have f0 := blk_frozen BK10.out 0
        have f1 := blk_frozen BK10.out 1
        have f2 := blk_frozen BK10.out 2
        have f3 := blk_frozen BK10.out 3
        go_wp2_with ((with_reducible refine gate_builtin (b := .append) (xs := #[.tmp 38, .tmp 40]) rfl ?_); at_builtin; refine Kd.S_append k33 (w0 := w1) w1.heap.size rfl (.tmp 38) (.tmp 40) 25 33 (.agg #[(.int .i64 0), (.slice none 0 0), (.int .i64 0), (.int .i64 0)]) 48 rfl Tryd.underlying25 info33 rfl (by decide) (by omega) u5 (withoutTo G l0 j) (⟨tk.f0, elems r2, tk.f2, tk.f3⟩ : S33) [.int .i64 tk.f0, .slice A9 (elems r2).length c9, .int .i64 tk.f2, .int .i64 tk.f3] (fun k => k ≠ gb) (fun k => some k = (Value.slice A9 (elems r2).length c9).ownBlock) rfl rfl ?aP ?aH ?aF ?aO ?aB ?aS ?aL ?_; (case aP => exact k33_mkM _ _ _ (⟨tk.f0, elems r2, tk.f2, tk.f3⟩ : S33) (Kd.R_tight rfl (Kd.R_lower hR10.out HZ.out.1))); (case aH => exact fun k hk => ⟨fun e => by have h1 := hR10.out.1 k hk.symm; have h2 := HZ.out.2; omega, fun e => by have h1 := hR10.out.1 k hk.symm; have h2 := ((Kd.S_R hS10.out).1 k e.symm).2; omega⟩); (case aF => exact fun k hk e => by have h1 := cells_lt BK10.out; omega); (case aO => exact Kd.S_mono hS10.out (fun k hk => ⟨hk.1, fun e => by have h1 := hR10.out.1 k e.symm; have h2 := hk.2; omega⟩)); (case aB => exact HB10.out); (case aS => exact HB10.out.size); (case aL => have h1 := HN8.out; have h2 := HLT.out; rw [withoutTo_length]; omega); intro v11 w11 ho hb hg hat; have HOe := Aside0.mk ho; have HBe := Aside0.mk hb; clear ho hb hg hat)
        go_roundg (l0.length - (j + 1))
        case measure => have h1 := HJ.out.1; have h2 := HLT.out; omega
        case rel => exact ⟨j + 1, _, rfl, ⟨by have h2 := HLT.out; omega, by have h1 := HJ.out.2; have h2 := HN8.out; have h3 := HLT.out; unfold wrap64; omega⟩, ⟨by rw [withoutTo_succ, HP.out]; exact Kd.S_mono HOe.out (fun _ _ => trivial)⟩, ⟨HBe.out⟩⟩
      · have hx := HJ.out.2
        have hd : decide (x < (l0.length : Int)) = false := decide_eq_false (by omega)
        have hj : j = l0.length := by have := HJ.out.1; omega
        have HO2 := Aside0.mk (show Kd.S k33 33 wr w1.heap.size (fun _ => True) u5 (withoutTo G l0 l0.length) by rw [← hj]; exact HO.out)
        clear hx hlt hj HO
        go_wp2
        go_ret
        exact ⟨_, rfl, Kd.S_lower HO2.out HB1.out.size, below_step HB1.out HB.out⟩
end Go.Proofs.YtffhdofcfkgoaaaDoor.P
end
section
namespace Go.Proofs.YtffhdofcfkgoaaaDoor.P
open Go.Proofs.YtffhdofcfkgoaaaDoor.Core (Tab Tab.of)
open Go.RowKit Go.Proofs.YtffhdofcfkgoaaaDoorW.PrintWords Go.Proofs.YtffhdofcfkgoaaaDoorW.PrintLast Go.Proofs.YtffhdofcfkgoaaaDoorW.PrintMore
attribute [local go_sem] max2_int min2_int max_two min_two max_three min_three max_four min_four   -- for this text's walks alone
set_option linter.unusedVariables false
set_option linter.unusedSimpArgs false
noncomputable def laws_FnCountOrdersLess.j0 : Nat → List (S33) → Int → Bool → Option (Bool)
  | 0, _, _, _ => none
  | k + 1, x3, x4, x25 => if x25 = true then ((spec_CountOrders.f k x3).bind fun t569 => (some (x4 == t569))) else ((some (([] : List (S33)) : List (S33))).bind fun y570 => (if y570.length + x3.length < 2932031007402 then ((some (y570 ++ x3 : List (S33))).bind fun y573 => (if 0 < (y573.length : Int) then ((impl_CountOrders.f (y573.set (0 : Int).toNat (⟨(rd_T33 y573 0).f0, ([] : List Int), (rd_T33 y573 0).f2, (rd_T33 y573 0).f3⟩ : S33))).bind fun t577 => (if t577 ≥ x4 then ((impl_WithoutUseless.f x3).bind fun t578 => ((impl_CountOrders.f t578).bind fun t581 => (some (t581 == x4)))) else (some false))) else (none))) else (none)))
noncomputable def laws_FnCountOrdersLess.f (k : Nat) (l0 : List Int) : Option (Bool) := if (l0.length : Int) > 1048576 then (some true) else ((spec_DrawCountOrders.f k l0).bind fun t564 => ((impl_CountOrders.f t564).bind fun t567 => ((spec_CountOrders.f k t564).bind fun t568 => (if t567 = t568 then (if t567 < 0 then (laws_FnCountOrdersLess.j0 k t564 t567 true) else (laws_FnCountOrdersLess.j0 k t564 t567 ((t564.length : Int) == 0))) else (laws_FnCountOrdersLess.j0 k t564 t567 true)))))
theorem laws_FnCountOrdersLess.mono_l : ∀ k, (∀ y0 y1 y2, LeO (laws_FnCountOrdersLess.j0 k y0 y1 y2) (laws_FnCountOrdersLess.j0 (k + 1) y0 y1 y2))
  | 0 => fun _ _ _ r h => by simp [laws_FnCountOrdersLess.j0] at h
  | k + 1 => by
    have ih0 := laws_FnCountOrdersLess.mono_l k
    · intro y0 y1 y2
      unfold laws_FnCountOrdersLess.j0
      repeat' first
      | (with_reducible exact ih0 _ _ _)
      | (with_reducible exact spec_CountOrders.mono _ _)
      | (with_reducible exact spec_DrawCountOrders.mono _ _)
      | (with_reducible exact LeO.refl _)
      | (with_reducible exact LeO.none _)
      | (with_reducible refine LeO.ite ?_ ?_)
      | (with_reducible refine LeO.bind ?_ (fun _ => ?_))
      | exact ih0 _ _ _
      | exact spec_CountOrders.mono _ _
      | exact spec_DrawCountOrders.mono _ _
      | exact LeO.none _
      | refine LeO.ite ?_ ?_
      | refine LeO.bind ?_ (fun _ => ?_)
theorem laws_FnCountOrdersLess.mono : ∀ a0 k, LeO (laws_FnCountOrdersLess.f k a0) (laws_FnCountOrdersLess.f (k + 1) a0) := by
  intro a0 k
  have ih0 := laws_FnCountOrdersLess.mono_l k
  unfold laws_FnCountOrdersLess.f
  repeat' first
      | (with_reducible exact ih0 _ _ _)
      | (with_reducible exact spec_CountOrders.mono _ _)
      | (with_reducible exact spec_DrawCountOrders.mono _ _)
      | (with_reducible exact LeO.refl _)
      | (with_reducible exact LeO.none _)
      | (with_reducible refine LeO.ite ?_ ?_)
      | (with_reducible refine LeO.bind ?_ (fun _ => ?_))
      | exact ih0 _ _ _
      | exact spec_CountOrders.mono _ _
      | exact spec_DrawCountOrders.mono _ _
      | exact LeO.none _
      | refine LeO.ite ?_ ?_
      | refine LeO.bind ?_ (fun _ => ?_)
set_option maxHeartbeats 8000000 in
set_option maxRecDepth 100000 in
theorem laws_FnCountOrdersLess.calls (k : Nat) (A0 : Option Addr) (c0 : Nat) (l0 : List Int) (r : Bool) (w : World) (hr0 : Kd.C (Kd.int .u8) w A0 l0.length l0) (hc0 : l0.length ≤ c0) (hT : Tab w) (h : laws_FnCountOrdersLess.f k l0 = some r) :
    Calls Tryd.prog 10 #[.slice A0 l0.length c0] w fun e w' => e = .returned (.bool r) ∧ Below w.heap.size w w' := by
  have HT := Aside0.mk hT
  clear hT
  have HR0 := Aside0.mk hr0
  have HC0 := Aside0.mk hc0
  clear hr0 hc0
  have HB := Aside0.mk (Below.refl w.heap.size w)
  have H : (if (l0.length : Int) > 1048576 then (some true) else ((spec_DrawCountOrders.f k l0).bind fun t564 => ((impl_CountOrders.f t564).bind fun t567 => ((spec_CountOrders.f k t564).bind fun t568 => (if t567 = t568 then (if t567 < 0 then (laws_FnCountOrdersLess.j0 k t564 t567 true) else (laws_FnCountOrdersLess.j0 k t564 t567 ((t564.length : Int) == 0))) else (laws_FnCountOrdersLess.j0 k t564 t567 true)))))) = some r := h
  clear h
  by_cases c2 : (l0.length : Int) > 1048576
  · rw [if_pos c2] at H
    have c2b0 : decide (1048576 < (l0.length : Int)) = true := decide_eq_true c2
    have c2b1 : decide (1048576 < l0.length) = true := decide_eq_true (by omega)
    clear c2
    obtain rfl := Option.some.inj H
    go_enter Tryd.func10, Tryd.ntmps10
    go_wp2
    go_ret
    exact ⟨by first | rfl | (simp [errW_none, errW_some] <;> rfl) | (simp [*, errW_none, errW_some] <;> rfl), by repeat (first | (with_reducible first | exact HB.out | apply below_alloc | apply pw_below_drewN | apply below_drew1) | exact HB.out)⟩
  · rw [if_neg c2] at H
    have c2b0 : decide (1048576 < (l0.length : Int)) = false := decide_eq_false c2
    have c2b1 : decide (1048576 < l0.length) = false := decide_eq_false (by omega)
    clear c2
    replace H := Option.bind_eq_some_iff.mp H
    obtain ⟨t564, A30, H⟩ := H
    replace H : ((impl_CountOrders.f t564).bind fun t567 => ((spec_CountOrders.f k t564).bind fun t568 => (if t567 = t568 then (if t567 < 0 then (laws_FnCountOrdersLess.j0 k t564 t567 true) else (laws_FnCountOrdersLess.j0 k t564 t567 ((t564.length : Int) == 0))) else (laws_FnCountOrdersLess.j0 k t564 t567 true)))) = some r := H
    have A3 := Aside0.mk A30
    clear A30
    replace H := Option.bind_eq_some_iff.mp H
    obtain ⟨t567, A40, H⟩ := H
    replace H : ((spec_CountOrders.f k t564).bind fun t568 => (if t567 = t568 then (if t567 < 0 then (laws_FnCountOrdersLess.j0 k t564 t567 true) else (laws_FnCountOrdersLess.j0 k t564 t567 ((t564.length : Int) == 0))) else (laws_FnCountOrdersLess.j0 k t564 t567 true))) = some r := H
    have A4 := Aside0.mk A40
    clear A40
    have HC5 := Aside0.mk H
    clear H
    go_enter Tryd.func10, Tryd.ntmps10
    go_upto_region 5 with (first | ((with_reducible refine gate_callee (f := 20) rfl ?_); refine goesL_ (some 10) rfl rfl Tryd.func20 (by kernel_rfl) rfl #[.slice A0 l0.length c0] rfl (by (try simp only [List.map_toArray, List.map_cons, List.map_nil]); first | done | rfl | (simp only [List.length_drop, List.length_take]; rfl)) ?_; (with_reducible refine (spec_DrawCountOrders.calls k _ _ l0 t564 _ ?side1 ?side2 A3.out).mono ?_); (case side1 => repeat (first | exact HR0.out | (with_reducible refine Kd.C_alloc ?_ _) | (with_reducible refine Kd.C_drewN ?_ _) | (with_reducible refine Kd.C_drew ?_))); (case side2 => exact HC0.out); rintro e w6 ⟨v565, rfl, ho0, hb⟩; refine ⟨_, rfl, ?_⟩; have n0_ := Aside0.mk (Kd.N_lower (Kd.N_mono (ok' := fun k_ => True) (Kd.S_N (Kd.S_bound ho0)) (fun k_ hk_ => trivial)) (below_size (by repeat (first | (with_reducible first | exact HB.out | apply below_alloc | apply pw_below_drewN | apply below_drew1) | exact HB.out)))); have n1_ := Aside0.mk (below_step (by repeat (first | (with_reducible first | exact HB.out | apply below_alloc | apply pw_below_drewN | apply below_drew1) | exact HB.out)) hb); clear HB; have HO566 := n0_; have HB := n1_; clear n0_ n1_; (try clear hb); (try clear hb2); (try clear hk); (try clear hi); (try clear ho0); obtain ⟨Ao7, co7, eo7⟩ := Kd.N_slice HO566.out; subst eo7) | ((with_reducible refine gate_callee (f := 18) rfl ?_); refine goesL_ (some 12) rfl rfl Tryd.func18 (by kernel_rfl) rfl #[.slice Ao7 t564.length co7] rfl (by (try simp only [List.map_toArray, List.map_cons, List.map_nil]); first | done | rfl | (simp only [List.length_drop, List.length_take]; rfl)) ?_; (with_reducible refine (impl_CountOrders.calls _ _ t564 t567 _ ?side1 ?side2 ?side3 A4.out).mono ?_); (case side1 => repeat (first | exact (Kd.N_reads' HO566.out).2.2 | (with_reducible refine Kd.C_alloc ?_ _) | (with_reducible refine Kd.C_drewN ?_ _) | (with_reducible refine Kd.C_drew ?_))); (case side2 => exact (Kd.N_reads' HO566.out).2.1); (case side3 => exact Tab.of HT.out (by repeat (first | (with_reducible first | exact HB.out | apply below_alloc | apply pw_below_drewN | apply below_drew1) | exact HB.out))); rintro e w8 ⟨rfl, hb⟩; refine ⟨_, rfl, ?_⟩; have n0_ := Aside0.mk (Kd.N_below (by (with_reducible repeat (first | apply Kd.N_alloc | apply Kd.N_drewN | apply Kd.N_drew)); exact HO566.out) hb); have n1_ := Aside0.mk (below_step (by repeat (first | (with_reducible first | exact HB.out | apply below_alloc | apply pw_below_drewN | apply below_drew1) | exact HB.out)) hb); clear HO566; clear HB; have HO566 := n0_; have HB := n1_; clear n0_ n1_; (try clear hb); (try clear hb2); (try clear hk); (try clear hi)))
    (try simp only [Act.put, List.setIfInBounds_toArray, List.set_cons_zero, List.set_cons_succ])
    go_cut [25] (fun v25 wc => ∃ (kq : Nat) (x25_4 : Bool), v25 = .bool x25_4 ∧ Aside0 (laws_FnCountOrdersLess.j0 kq t564 t567 x25_4 = some r) ∧ Aside0 (kq ≤ k) ∧ Aside0 (Kd.N k33 33 wc w.heap.size (fun _ => True) (.slice Ao7 t564.length co7) t564) ∧ Aside0 (Below w.heap.size w wc))
    case first =>
      have H := HC5.out
      clear HC5
      replace H := Option.bind_eq_some_iff.mp H
      obtain ⟨t568, A90, H⟩ := H
      replace H : (if t567 = t568 then (if t567 < 0 then (laws_FnCountOrdersLess.j0 k t564 t567 true) else (laws_FnCountOrdersLess.j0 k t564 t567 ((t564.length : Int) == 0))) else (laws_FnCountOrdersLess.j0 k t564 t567 true)) = some r := H
      have A9 := Aside0.mk A90
      clear A90
      by_cases c10 : t567 = t568
      · rw [if_pos c10] at H
        have c10b0 : (t567 == t568) = true := beq_iff_eq.mpr c10
        have c10b1 : (t567 != t568) = false := bne_eq_false_iff_eq.mpr c10
        clear c10
        (first | rw [c10b0] | (simp only [i64_w, i32_w]; rw [c10b0]) | skip)
        by_cases c11 : t567 < 0
        · rw [if_pos c11] at H
          have c11b0 : decide (t567 < 0) = true := decide_eq_true c11
          clear c11
          have H' := Aside0.mk H
          clear H
          go_wp2_with (first | ((with_reducible refine gate_callee (f := 16) rfl ?_); refine goesL_ (some 15) rfl rfl Tryd.func16 (by kernel_rfl) rfl #[.slice Ao7 t564.length co7] rfl (by (try simp only [List.map_toArray, List.map_cons, List.map_nil]); first | done | rfl | (simp only [List.length_drop, List.length_take]; rfl)) ?_; (with_reducible refine (spec_CountOrders.calls k _ _ t564 t568 _ ?side1 ?side2 A9.out).mono ?_); (case side1 => repeat (first | exact (Kd.N_reads' HO566.out).2.2 | (with_reducible refine Kd.C_alloc ?_ _) | (with_reducible refine Kd.C_drewN ?_ _) | (with_reducible refine Kd.C_drew ?_))); (case side2 => exact (Kd.N_reads' HO566.out).2.1); rintro e w12 ⟨rfl, hb⟩; refine ⟨_, rfl, ?_⟩; have n0_ := Aside0.mk (Kd.N_below (by (with_reducible repeat (first | apply Kd.N_alloc | apply Kd.N_drewN | apply Kd.N_drew)); exact HO566.out) hb); have n1_ := Aside0.mk (below_step (by repeat (first | (with_reducible first | exact HB.out | apply below_alloc | apply pw_below_drewN | apply below_drew1) | exact HB.out)) hb); clear HO566; clear HB; have HO566 := n0_; have HB := n1_; clear n0_ n1_; (try clear hb); (try clear hb2); (try clear hk); (try clear hi)))
          go_meet
          case rel => exact ⟨_, (true), (by first | rfl | (simp; done) | (simp [*]; done)), H', ⟨by first | omega | exact Nat.le_refl _⟩, ⟨by (with_reducible repeat (first | apply Kd.N_alloc | apply Kd.N_drewN | apply Kd.N_drew)); exact HO566.out⟩, ⟨by repeat (first | (with_reducible first | exact HB.out | apply below_alloc | apply pw_below_drewN | apply below_drew1) | exact HB.out)⟩⟩
        · rw [if_neg c11] at H
          have c11b0 : decide (t567 < 0) = false := decide_eq_false c11
          clear c11
          have H' := Aside0.mk H
          clear H
          go_wp2_with (first | ((with_reducible refine gate_callee (f := 16) rfl ?_); refine goesL_ (some 15) rfl rfl Tryd.func16 (by kernel_rfl) rfl #[.slice Ao7 t564.length co7] rfl (by (try simp only [List.map_toArray, List.map_cons, List.map_nil]); first | done | rfl | (simp only [List.length_drop, List.length_take]; rfl)) ?_; (with_reducible refine (spec_CountOrders.calls k _ _ t564 t568 _ ?side1 ?side2 A9.out).mono ?_); (case side1 => repeat (first | exact (Kd.N_reads' HO566.out).2.2 | (with_reducible refine Kd.C_alloc ?_ _) | (with_reducible refine Kd.C_drewN ?_ _) | (with_reducible refine Kd.C_drew ?_))); (case side2 => exact (Kd.N_reads' HO566.out).2.1); rintro e w13 ⟨rfl, hb⟩; refine ⟨_, rfl, ?_⟩; have n0_ := Aside0.mk (Kd.N_below (by (with_reducible repeat (first | apply Kd.N_alloc | apply Kd.N_drewN | apply Kd.N_drew)); exact HO566.out) hb); have n1_ := Aside0.mk (below_step (by repeat (first | (with_reducible first | exact HB.out | apply below_alloc | apply pw_below_drewN | apply below_drew1) | exact HB.out)) hb); clear HO566; clear HB; have HO566 := n0_; have HB := n1_; clear n0_ n1_; (try clear hb); (try clear hb2); (try clear hk); (try clear hi)))
          go_meet
          case rel => exact ⟨_, (((t564.length : Int) == 0)), (by first | rfl | (simp; done) | (simp [*]; done)), H', ⟨by first | omega | exact Nat.le_refl _⟩, ⟨by (with_reducible repeat (first | apply Kd.N_alloc | apply Kd.N_drewN | apply Kd.N_drew)); exact HO566.out⟩, ⟨by repeat (first | (with_reducible first | exact HB.out | apply below_alloc | apply pw_below_drewN | apply below_drew1) | exact HB.out)⟩⟩
      · rw [if_neg c10] at H
        have c10b0 : (t567 == t568) = false := beq_eq_false_iff_ne.mpr c10
        have c10b1 : (t567 != t568) = true := bne_iff_ne.mpr c10
        (first | rw [c10b0] | (simp only [i64_w, i32_w]; rw [c10b0]) | skip)
        have H' := Aside0.mk H
        clear H
        go_wp2_with (first | ((with_reducible refine gate_callee (f := 16) rfl ?_); refine goesL_ (some 15) rfl rfl Tryd.func16 (by kernel_rfl) rfl #[.slice Ao7 t564.length co7] rfl (by (try simp only [List.map_toArray, List.map_cons, List.map_nil]); first | done | rfl | (simp only [List.length_drop, List.length_take]; rfl)) ?_; (with_reducible refine (spec_CountOrders.calls k _ _ t564 t568 _ ?side1 ?side2 A9.out).mono ?_); (case side1 => repeat (first | exact (Kd.N_reads' HO566.out).2.2 | (with_reducible refine Kd.C_alloc ?_ _) | (with_reducible refine Kd.C_drewN ?_ _) | (with_reducible refine Kd.C_drew ?_))); (case side2 => exact (Kd.N_reads' HO566.out).2.1); rintro e w14 ⟨rfl, hb⟩; refine ⟨_, rfl, ?_⟩; have n0_ := Aside0.mk (Kd.N_below (by (with_reducible repeat (first | apply Kd.N_alloc | apply Kd.N_drewN | apply Kd.N_drew)); exact HO566.out) hb); have n1_ := Aside0.mk (below_step (by repeat (first | (with_reducible first | exact HB.out | apply below_alloc | apply pw_below_drewN | apply below_drew1) | exact HB.out)) hb); clear HO566; clear HB; have HO566 := n0_; have HB := n1_; clear n0_ n1_; (try clear hb); (try clear hb2); (try clear hk); (try clear hi)))
        go_meet
        case rel => exact ⟨_, (true), (by first | rfl | (simp; done) | (simp [*]; done)), H', ⟨by first | omega | exact Nat.le_refl _⟩, ⟨by (with_reducible repeat (first | apply Kd.N_alloc | apply Kd.N_drewN | apply Kd.N_drew)); exact HO566.out⟩, ⟨by repeat (first | (with_reducible first | exact HB.out | apply below_alloc | apply pw_below_drewN | apply below_drew1) | exact HB.out)⟩⟩
    case rest =>
      clear HC5
      try clear c1
      try clear c2
      try clear c2b0
      try clear c2b1
      try clear p2
      try clear c10
      try clear c10b0
      try clear c10b1
      try clear c11
      try clear c11b0
      obtain ⟨kq, x25_4, rfl, HA, HJ4, HO_3, HB⟩ := hcut
      cases kq with
      | zero => exact absurd HA.out (by simp [laws_FnCountOrdersLess.j0])
      | succ kj4 =>
        have H := HA.out
        clear HA
        simp only [laws_FnCountOrdersLess.j0] at H
        by_cases c15 : x25_4 = true
        · subst c15
          have H1 : ((spec_CountOrders.f kj4 t564).bind fun t569 => (some (t567 == t569))) = some r := by rw [if_pos rfl] at H; exact H
          clear H
          have H := H1
          clear H1
          replace H := Option.bind_eq_some_iff.mp H
          obtain ⟨t569, A160, H⟩ := H
          replace H : (some (t567 == t569)) = some r := H
          have A16 := Aside0.mk A160
          clear A160
          obtain rfl := Option.some.inj H
          go_wp2_with (first | ((with_reducible refine gate_callee (f := 16) rfl ?_); refine goesL_ (some 28) rfl rfl Tryd.func16 (by kernel_rfl) rfl #[.slice Ao7 t564.length co7] rfl (by (try simp only [List.map_toArray, List.map_cons, List.map_nil]); first | done | rfl | (simp only [List.length_drop, List.length_take]; rfl)) ?_; (with_reducible refine (spec_CountOrders.calls kj4 _ _ t564 t569 _ ?side1 ?side2 A16.out).mono ?_); (case side1 => repeat (first | exact (Kd.N_reads' HO_3.out).2.2 | (with_reducible refine Kd.C_alloc ?_ _) | (with_reducible refine Kd.C_drewN ?_ _) | (with_reducible refine Kd.C_drew ?_))); (case side2 => exact (Kd.N_reads' HO_3.out).2.1); rintro e w17 ⟨rfl, hb⟩; refine ⟨_, rfl, ?_⟩; have n0_ := Aside0.mk (Kd.N_below (by (with_reducible repeat (first | apply Kd.N_alloc | apply Kd.N_drewN | apply Kd.N_drew)); exact HO_3.out) hb); have n1_ := Aside0.mk (below_step (by repeat (first | (with_reducible first | exact HB.out | apply below_alloc | apply pw_below_drewN | apply below_drew1) | exact HB.out)) hb); clear HO_3; clear HB; have HO_3 := n0_; have HB := n1_; clear n0_ n1_; (try clear hb); (try clear hb2); (try clear hk); (try clear hi)))
          go_ret
          exact ⟨by first | rfl | (simp [errW_none, errW_some] <;> rfl) | (simp [*, errW_none, errW_some] <;> rfl), by repeat (first | (with_reducible first | exact HB.out | apply below_alloc | apply pw_below_drewN | apply below_drew1) | exact HB.out)⟩
        · replace c15 := Bool.eq_false_iff.mpr c15
          subst c15
          have H1 : ((some (([] : List (S33)) : List (S33))).bind fun y570 => (if y570.length + t564.length < 2932031007402 then ((some (y570 ++ t564 : List (S33))).bind fun y573 => (if 0 < (y573.length : Int) then ((impl_CountOrders.f (y573.set (0 : Int).toNat (⟨(rd_T33 y573 0).f0, ([] : List Int), (rd_T33 y573 0).f2, (rd_T33 y573 0).f3⟩ : S33))).bind fun t577 => (if t577 ≥ t567 then ((impl_WithoutUseless.f t564).bind fun t578 => ((impl_CountOrders.f t578).bind fun t581 => (some (t581 == t567)))) else (some false))) else (none))) else (none))) = some r := by rw [if_neg (show ¬ (false = true) by decide)] at H; exact H
          clear H
          have H := H1
          clear H1
          obtain ⟨y570, hy570⟩ : ∃ y_ : List (S33), y_ = (([] : List (S33))) := ⟨_, rfl⟩
          replace H : (if y570.length + t564.length < 2932031007402 then ((some (y570 ++ t564 : List (S33))).bind fun y573 => (if 0 < (y573.length : Int) then ((impl_CountOrders.f (y573.set (0 : Int).toNat (⟨(rd_T33 y573 0).f0, ([] : List Int), (rd_T33 y573 0).f2, (rd_T33 y573 0).f3⟩ : S33))).bind fun t577 => (if t577 ≥ t567 then ((impl_WithoutUseless.f t564).bind fun t578 => ((impl_CountOrders.f t578).bind fun t581 => (some (t581 == t567)))) else (some false))) else (none))) else (none)) = some r := by first | (rw [hy570]; with_reducible exact H) | (have H2_ := (Option.bind_some _ _).symm.trans H; rw [hy570]; with_reducible exact H2_) | (have H2_ := (Option.bind_some _ _).symm.trans H; with_reducible exact H2_) | with_reducible exact H | (rw [hy570]; exact H) | exact H
          have Ny570 := Aside0.mk hy570
          clear hy570
          by_cases c18 : y570.length + t564.length < 2932031007402
          · rw [if_pos c18] at H
            have LMc18 := Aside0.mk c18
            clear c18
            obtain ⟨y573, hy573⟩ : ∃ y_ : List (S33), y_ = (y570 ++ t564) := ⟨_, rfl⟩
            replace H : (if 0 < (y573.length : Int) then ((impl_CountOrders.f (y573.set (0 : Int).toNat (⟨(rd_T33 y573 0).f0, ([] : List Int), (rd_T33 y573 0).f2, (rd_T33 y573 0).f3⟩ : S33))).bind fun t577 => (if t577 ≥ t567 then ((impl_WithoutUseless.f t564).bind fun t578 => ((impl_CountOrders.f t578).bind fun t581 => (some (t581 == t567)))) else (some false))) else (none)) = some r := by first | (rw [hy573]; with_reducible exact H) | (have H2_ := (Option.bind_some _ _).symm.trans H; rw [hy573]; with_reducible exact H2_) | (have H2_ := (Option.bind_some _ _).symm.trans H; with_reducible exact H2_) | with_reducible exact H | (rw [hy573]; exact H) | exact H
            have Ny573 := Aside0.mk hy573
            clear hy573
            by_cases c19 : 0 < (y573.length : Int)
            · rw [if_pos c19] at H
              have c19b0 : decide (0 < (y573.length : Int)) = true := decide_eq_true c19
              have c19b1 : decide (0 < y573.length) = true := decide_eq_true (by omega)
              clear c19
              obtain ⟨y576, hy576⟩ : ∃ y_ : List (S33), y_ = (y573.set (0 : Int).toNat (⟨(rd_T33 y573 0).f0, ([] : List Int), (rd_T33 y573 0).f2, (rd_T33 y573 0).f3⟩ : S33)) := ⟨_, rfl⟩
              replace H : ((impl_CountOrders.f y576).bind fun t577 => (if t577 ≥ t567 then ((impl_WithoutUseless.f t564).bind fun t578 => ((impl_CountOrders.f t578).bind fun t581 => (some (t581 == t567)))) else (some false))) = some r := by first | (rw [hy576]; with_reducible exact H) | (have H2_ := (Option.bind_some _ _).symm.trans H; rw [hy576]; with_reducible exact H2_) | (have H2_ := (Option.bind_some _ _).symm.trans H; with_reducible exact H2_) | with_reducible exact H | (rw [hy576]; exact H) | exact H
              have Ny576 := Aside0.mk hy576
              clear hy576
              replace H := Option.bind_eq_some_iff.mp H
              obtain ⟨t577, A210, H⟩ := H
              replace H : (if t577 ≥ t567 then ((impl_WithoutUseless.f t564).bind fun t578 => ((impl_CountOrders.f t578).bind fun t581 => (some (t581 == t567)))) else (some false)) = some r := H
              have A21 := Aside0.mk A210
              clear A210
              by_cases c22 : t577 ≥ t567
              · rw [if_pos c22] at H
                have c22b0 : decide (t567 ≤ t577) = true := decide_eq_true c22
                clear c22
                replace H := Option.bind_eq_some_iff.mp H
                obtain ⟨t578, A230, H⟩ := H
                replace H : ((impl_CountOrders.f t578).bind fun t581 => (some (t581 == t567))) = some r := H
                have A23 := Aside0.mk A230
                clear A230
                replace H := Option.bind_eq_some_iff.mp H
                obtain ⟨t581, A240, H⟩ := H
                replace H : (some (t581 == t567)) = some r := H
                have A24 := Aside0.mk A240
                clear A240
                obtain rfl := Option.some.inj H
                go_wp2_with (first | ((with_reducible refine gate_dst (N := 30) rfl ?_); (try (refine gate_guard (by rfl) ?_; dsimp only)); refine Kd.N_lit k33 _ 33 ?hg (N' := 30) ?hd (xs := ([] : List (S33))) (inner := []) (ok := (fun k_ => some k_ ≠ (.slice Ao7 t564.length co7 : Value).ownBlock)) (okp := (fun k_ => some k_ ≠ (.slice Ao7 t564.length co7 : Value).ownBlock)) ?hr ?hp (fun _ hk => hk) ((show ∀ k_, wc.heap.size ≤ k_ → (fun k_ => some k_ ≠ (.slice Ao7 t564.length co7 : Value).ownBlock) k_ from fun k_ hk => Kd.fresh' (Kd.N_lt (by (with_reducible repeat (first | apply Kd.N_alloc | apply Kd.N_drewN | apply Kd.N_drew)); exact HO_3.out)) k_ hk) _ (Nat.le_refl _)) (Below.refl _ _) (Nat.le_refl _) (by simp) ?_; (case hd => rfl); (case hg => rfl); (case hr => first | (go_simp; done) | (go_simp; rfl)); (case hp => exact (Reps.none _ _)); intro v571 w25 ho26 hb hg_ hnew_; clear hg_ hnew_; (first | rw [← Ny570.out] at ho26 | (simp only [Int.reduceToNat] at ho26; rw [← Ny570.out] at ho26)); have n0_ := Aside0.mk (Kd.N_elder' (by (with_reducible repeat (first | apply Kd.N_alloc | apply Kd.N_drewN | apply Kd.N_drew)); exact HO_3.out) (Kd.N_base ho26) hb); have n1_ := Aside0.mk (Kd.N_lower ho26 (below_size (by repeat (first | (with_reducible first | exact HB.out | apply below_alloc | apply pw_below_drewN | apply below_drew1) | exact HB.out)))); have n2_ := Aside0.mk (below_step (by repeat (first | (with_reducible first | exact HB.out | apply below_alloc | apply pw_below_drewN | apply below_drew1) | exact HB.out)) hb); clear HO_3; clear HB; have HO_3 := n0_; have HO572 := n1_; have HB := n2_; clear n0_ n1_ n2_; clear hb ho26) | ((with_reducible refine gate_builtin (b := .append) (xs := #[.tmp 30, .tmp 31]) rfl ?_); (try (refine gate_guard (by rfl) ?_; dsimp only)); at_builtin; refine Kd.N_append_rows k33 (w0 := w) w.heap.size rfl (.tmp 30) (.tmp 31) 25 33 (.agg #[(.int .i64 0), (.slice none 0 0), (.int .i64 0), (.int .i64 0)]) 48 rfl Tryd.underlying25 info33 rfl (by decide) (by omega) v571 y570 t564 _ _ _ (fun _ => True) (fun k_ => ((fun _ => True)) k_ ∧ some k_ ≠ (v571 : Value).ownBlock) rfl rfl ?aO ?aR (fun _ hk => hk) ?aF ?aB ?aS ?aL ?_; (case aR => exact (by skip; exact Kd.N_F (Kd.N_mono (ok' := (fun k_ => ((fun _ => True)) k_ ∧ some k_ ≠ (v571 : Value).ownBlock)) (HO_3.out) (fun k_ hk => ⟨trivial, hk.2⟩)))); (case aB => exact (by repeat (first | (with_reducible first | exact HB.out | apply below_alloc | apply pw_below_drewN | apply below_drew1) | exact HB.out))); (case aF => exact (fun _ _ => trivial)); (case aO => exact (by (with_reducible repeat (first | apply Kd.N_alloc | apply Kd.N_drewN | apply Kd.N_drew)); exact Kd.N_mono HO572.out (fun _ hk => trivial))); (case aS => exact (below_size (by repeat (first | (with_reducible first | exact HB.out | apply below_alloc | apply pw_below_drewN | apply below_drew1) | exact HB.out)))); (case aL => have := LMc18.out; omega); intro v574 w27 ho hb hg hat; rw [← Ny573.out] at ho; have n0_ := Aside0.mk (Kd.N_afterv (ok := (fun _ => True)) (by (with_reducible repeat (first | apply Kd.N_alloc | apply Kd.N_drewN | apply Kd.N_drew)); exact HO_3.out) hg hat); have n1_ := Aside0.mk (hb); have n2_ := Aside0.mk (ho); clear HO_3; clear HB; clear HO572; have HO_3 := n0_; have HB := n1_; have HO575 := n2_; clear n0_ n1_ n2_; clear ho hb hg hat; have p20 : 0 ≤ (0 : Int) := (by omega); have q20 : (0 : Int) < ((y573.length : Int) : Int) := of_decide_eq_true (by first | (with_reducible assumption) | assumption); have qi20 : (0 < y573.length) = True := eq_true (by omega); obtain ⟨go20, co20, eo20, gb20, gl20, cl20, HG20⟩ := Kd.N_form HO575.out (by omega); (first | cases eo20 | (injection eo20 with ea_ en_ ec_; (first | subst ea_ | (injection ea_ with ea_; subst ea_)); subst ec_; clear en_)); have GB20 := Aside0.mk gb20; have GG20 := Aside0.mk HG20; clear gb20 gl20 HG20; obtain ⟨ce20, hcl20, hM20, hcc20, hfr20⟩ := Kd.N_elem HO575.out z33 (0 : Int) p20 q20; obtain ⟨ua20_1, uc20_1, rfl, ul20_1, ge20_1⟩ := k33_openF hM20; have hx20_0 : w27.cell? ⟨go20, (0 : Int).toNat * 4, none⟩ = some (.int .i64 ((rd_T33 y573 0).f0)) := hcc20 0 _ rfl; have hx20_1 : w27.cell? ⟨go20, (0 : Int).toNat * 4 + 1, none⟩ = some (.slice ua20_1 ((rd_T33 y573 0).f1).length uc20_1) := hcc20 1 _ rfl; have hx20_2 : w27.cell? ⟨go20, (0 : Int).toNat * 4 + 2, none⟩ = some (.int .i64 ((rd_T33 y573 0).f2)) := hcc20 2 _ rfl; have hx20_3 : w27.cell? ⟨go20, (0 : Int).toNat * 4 + 3, none⟩ = some (.int .i64 ((rd_T33 y573 0).f3)) := hcc20 3 _ rfl; have hf20_0 : w27.frozen? ⟨go20, (0 : Int).toNat * 4, none⟩ = false := hfr20 0; have hf20_1 : w27.frozen? ⟨go20, (0 : Int).toNat * 4 + 1, none⟩ = false := hfr20 1; have hf20_2 : w27.frozen? ⟨go20, (0 : Int).toNat * 4 + 2, none⟩ = false := hfr20 2; have hf20_3 : w27.frozen? ⟨go20, (0 : Int).toNat * 4 + 3, none⟩ = false := hfr20 3; clear hcl20 hcc20 hfr20 hM20; (try rw [show ((0 : Int)).toNat = 0 from rfl] at hx20_0); (try simp only [Nat.reduceMul, Nat.zero_mul, Nat.zero_add, Nat.reduceAdd] at hx20_0); (try rw [show ((0 : Int)).toNat = 0 from rfl] at hf20_0); (try simp only [Nat.reduceMul, Nat.zero_mul, Nat.zero_add, Nat.reduceAdd] at hf20_0); (try rw [show ((0 : Int)).toNat = 0 from rfl] at hx20_1); (try simp only [Nat.reduceMul, Nat.zero_mul, Nat.zero_add, Nat.reduceAdd] at hx20_1); (try rw [show ((0 : Int)).toNat = 0 from rfl] at hf20_1); (try simp only [Nat.reduceMul, Nat.zero_mul, Nat.zero_add, Nat.reduceAdd] at hf20_1); (try rw [show ((0 : Int)).toNat = 0 from rfl] at hx20_2); (try simp only [Nat.reduceMul, Nat.zero_mul, Nat.zero_add, Nat.reduceAdd] at hx20_2); (try rw [show ((0 : Int)).toNat = 0 from rfl] at hf20_2); (try simp only [Nat.reduceMul, Nat.zero_mul, Nat.zero_add, Nat.reduceAdd] at hf20_2); (try rw [show ((0 : Int)).toNat = 0 from rfl] at hx20_3); (try simp only [Nat.reduceMul, Nat.zero_mul, Nat.zero_add, Nat.reduceAdd] at hx20_3); (try rw [show ((0 : Int)).toNat = 0 from rfl] at hf20_3); (try simp only [Nat.reduceMul, Nat.zero_mul, Nat.zero_add, Nat.reduceAdd] at hf20_3); replace p20 := eq_true p20; replace q20 := eq_true q20; have HX28 := Aside0.mk (show Kd.N k33 33 w27 w.heap.size (fun _ => True) (.slice (some ⟨go20, 0, none⟩) y573.length co20) y573 from (by (with_reducible repeat (first | apply Kd.N_alloc | apply Kd.N_drewN | apply Kd.N_drew)); exact HO575.out)); obtain ⟨ce28, hcl28, hM28, hcc28, hfr28⟩ := Kd.N_elem HX28.out z33 (0 : Int) (by omega) (by have h_ : (0 : Int) < ((y573.length : Int) : Int) := of_decide_eq_true (by first | (with_reducible assumption) | assumption); first | exact h_ | (have e_ := (Kd.N_reads' HO575.out).1; omega) | simpa using h_); obtain ⟨ua28_1, uc28_1, rfl, ul28_1, ge28_1⟩ := k33_openF hM28; have HP28 := Kd.N_seg HX28.out (0 : Int) (by omega) (by have h_ : (0 : Int) < ((y573.length : Int) : Int) := of_decide_eq_true (by first | (with_reducible assumption) | assumption); first | exact h_ | (have e_ := (Kd.N_reads' HO575.out).1; omega) | simpa using h_) (seg := [.slice none 0 0]) (j := 1) hcl28 hcc28 (show 2 ≤ 4 from by decide) (x' := (⟨(rd_T33 y573 0).f0, ([] : List Int), (rd_T33 y573 0).f2, (rd_T33 y573 0).f3⟩ : S33)) (k33_mkF _ _ (⟨(rd_T33 y573 0).f0, ([] : List Int), (rd_T33 y573 0).f2, (rd_T33 y573 0).f3⟩ : S33) (Nat.le_refl _) (Kd.F_nil _ _ _)) (fun _ hk => hk); have hx28_1 := hcc28 1 _ rfl; (try simp only [show (k33).sz = 4 from rfl, Nat.mul_one, Nat.add_zero] at hx28_1); (try rw [show ((0 : Int)).toNat = 0 from rfl] at hx28_1); (try simp only [Nat.reduceMul, Nat.zero_mul, Nat.zero_add, Nat.reduceAdd] at hx28_1); have hf28_1 := hfr28 1; (try simp only [show (k33).sz = 4 from rfl, Nat.mul_one, Nat.add_zero] at hf28_1); (try rw [show ((0 : Int)).toNat = 0 from rfl] at hf28_1); (try simp only [Nat.reduceMul, Nat.zero_mul, Nat.zero_add, Nat.reduceAdd] at hf28_1); clear hcl28 hcc28 hfr28 hM28) | ((with_reducible refine gate_store (t := 31) (p := 35) rfl ?_); refine store_event (t := 31) (p := 35) (v := ?vo_w29) (w1 := (w27.setCell ⟨go20, 1, none⟩ (.slice none 0 0))) ?hg ?ho ?hn ?hr ?_; (case ho => rfl); (case hg => rfl); (case hn => rfl); (case hr => (first | (go_simp; done) | (go_simp; rfl))); intro w29 hw; have hg : w27.grownBy w29 (some go20) := (by rw [hw]; exact HP28.2); have hp_ : Kd.N k33 33 w29 w.heap.size (fun _ => True) (.slice (some ⟨go20, 0, none⟩) y573.length co20) y576 := (by rw [hw, Ny576.out]; exact HP28.1); clear HP28; have n0_ := Aside0.mk (Kd.N_afterv (v := (.slice (some ⟨go20, 0, none⟩) y573.length co20)) (v1 := (.slice (some ⟨go20, 0, none⟩) y573.length co20)) (ok := (fun _ => True)) (by (with_reducible repeat (first | apply Kd.N_alloc | apply Kd.N_drewN | apply Kd.N_drew)); exact HO_3.out) hg (.inl rfl)); have n1_ := Aside0.mk (hp_); have n2_ := Aside0.mk ((by rw [hw]; exact below_set (HB.out) GB20.out : Below w.heap.size w w29)); clear HO_3; clear HO575; clear HB; have HO_3 := n0_; have HO575 := n1_; have HB := n2_; clear n0_ n1_ n2_; clear hg hw hp_) | ((with_reducible refine gate_callee (f := 18) rfl ?_); refine goesL_ (some 37) rfl rfl Tryd.func18 (by kernel_rfl) rfl #[.slice (some ⟨go20, 0, none⟩) y576.length co20] rfl (by (try simp only [List.map_toArray, List.map_cons, List.map_nil]); first | done | (rw [show y576.length = y573.length from (Kd.N_reads' HO575.out).1.symm] <;> rfl) | rfl | (simp only [List.length_drop, List.length_take]; rfl)) ?_; (with_reducible refine (impl_CountOrders.calls _ _ y576 t577 _ ?side1 ?side2 ?side3 A21.out).mono ?_); (case side1 => repeat (first | exact (Kd.N_reads' HO575.out).2.2 | (with_reducible refine Kd.C_alloc ?_ _) | (with_reducible refine Kd.C_drewN ?_ _) | (with_reducible refine Kd.C_drew ?_))); (case side2 => rw [show y576.length = y573.length from (Kd.N_reads' HO575.out).1.symm]; exact (Kd.N_reads' HO575.out).2.1); (case side3 => exact Tab.of HT.out (by repeat (first | (with_reducible first | exact HB.out | apply below_alloc | apply pw_below_drewN | apply below_drew1) | exact HB.out))); rintro e w30 ⟨rfl, hb⟩; refine ⟨_, rfl, ?_⟩; have n0_ := Aside0.mk (Kd.N_below (by (with_reducible repeat (first | apply Kd.N_alloc | apply Kd.N_drewN | apply Kd.N_drew)); exact HO_3.out) hb); have n1_ := Aside0.mk (Kd.N_below (by (with_reducible repeat (first | apply Kd.N_alloc | apply Kd.N_drewN | apply Kd.N_drew)); exact HO575.out) hb); have n2_ := Aside0.mk (below_step (by repeat (first | (with_reducible first | exact HB.out | apply below_alloc | apply pw_below_drewN | apply below_drew1) | exact HB.out)) hb); clear HO_3; clear HO575; clear HB; have HO_3 := n0_; have HO575 := n1_; have HB := n2_; clear n0_ n1_ n2_; (try clear hb); (try clear hb2); (try clear hk); (try clear hi)) | (go_at_call 36; (with_reducible refine (impl_WithoutUseless.calls _ _ t564 t578 _ ?side1 ?side2 ?side3 A23.out).mono ?_); (case side1 => repeat (first | exact (Kd.N_reads' HO_3.out).2.2 | (with_reducible refine Kd.C_alloc ?_ _) | (with_reducible refine Kd.C_drewN ?_ _) | (with_reducible refine Kd.C_drew ?_))); (case side2 => exact (Kd.N_reads' HO_3.out).2.1); (case side3 => exact Tab.of HT.out (by repeat (first | (with_reducible first | exact HB.out | apply below_alloc | apply pw_below_drewN | apply below_drew1) | exact HB.out))); rintro e w31 ⟨v579, rfl, ho0, hb⟩; have n0_ := Aside0.mk (Kd.N_elder' (by (with_reducible repeat (first | apply Kd.N_alloc | apply Kd.N_drewN | apply Kd.N_drew)); exact HO_3.out) (Kd.S_base ho0) hb); have n1_ := Aside0.mk (Kd.N_elder' (by (with_reducible repeat (first | apply Kd.N_alloc | apply Kd.N_drewN | apply Kd.N_drew)); exact HO575.out) (Kd.S_base ho0) hb); have n2_ := Aside0.mk (Kd.N_lower (Kd.N_mono (ok' := fun k_ => some k_ ≠ (.slice Ao7 t564.length co7 : Value).ownBlock ∧ some k_ ≠ (.slice (some ⟨go20, 0, none⟩) y573.length co20 : Value).ownBlock) (Kd.S_N (Kd.S_bound ho0)) (fun k_ hk_ => ⟨(Kd.fresh' (Kd.N_lt (by (with_reducible repeat (first | apply Kd.N_alloc | apply Kd.N_drewN | apply Kd.N_drew)); exact HO_3.out)) k_ hk_.2.1), (Kd.fresh' (Kd.N_lt (by (with_reducible repeat (first | apply Kd.N_alloc | apply Kd.N_drewN | apply Kd.N_drew)); exact HO575.out)) k_ hk_.2.1)⟩)) (below_size (by repeat (first | (with_reducible first | exact HB.out | apply below_alloc | apply pw_below_drewN | apply below_drew1) | exact HB.out)))); have n3_ := Aside0.mk (below_step (by repeat (first | (with_reducible first | exact HB.out | apply below_alloc | apply pw_below_drewN | apply below_drew1) | exact HB.out)) hb); clear HO_3; clear HO575; clear HB; have HO_3 := n0_; have HO575 := n1_; have HO580 := n2_; have HB := n3_; clear n0_ n1_ n2_ n3_; (try clear hb); (try clear hb2); (try clear hk); (try clear hi); (try clear ho0); obtain ⟨Ao32, co32, eo32⟩ := Kd.N_slice HO580.out; subst eo32) | (go_at_call 18; (with_reducible refine (impl_CountOrders.calls _ _ t578 t581 _ ?side1 ?side2 ?side3 A24.out).mono ?_); (case side1 => repeat (first | exact (Kd.N_reads' HO580.out).2.2 | (with_reducible refine Kd.C_alloc ?_ _) | (with_reducible refine Kd.C_drewN ?_ _) | (with_reducible refine Kd.C_drew ?_))); (case side2 => exact (Kd.N_reads' HO580.out).2.1); (case side3 => exact Tab.of HT.out (by repeat (first | (with_reducible first | exact HB.out | apply below_alloc | apply pw_below_drewN | apply below_drew1) | exact HB.out))); rintro e w33 ⟨rfl, hb⟩; have n0_ := Aside0.mk (Kd.N_below (by (with_reducible repeat (first | apply Kd.N_alloc | apply Kd.N_drewN | apply Kd.N_drew)); exact HO_3.out) hb); have n1_ := Aside0.mk (Kd.N_below (by (with_reducible repeat (first | apply Kd.N_alloc | apply Kd.N_drewN | apply Kd.N_drew)); exact HO575.out) hb); have n2_ := Aside0.mk (Kd.N_below (by (with_reducible repeat (first | apply Kd.N_alloc | apply Kd.N_drewN | apply Kd.N_drew)); exact HO580.out) hb); have n3_ := Aside0.mk (below_step (by repeat (first | (with_reducible first | exact HB.out | apply below_alloc | apply pw_below_drewN | apply below_drew1) | exact HB.out)) hb); clear HO_3; clear HO575; clear HO580; clear HB; have HO_3 := n0_; have HO575 := n1_; have HO580 := n2_; have HB := n3_; clear n0_ n1_ n2_ n3_; (try clear hb); (try clear hb2); (try clear hk); (try clear hi)))
                go_ret
                exact ⟨by first | rfl | (simp [errW_none, errW_some] <;> rfl) | (simp [*, errW_none, errW_some] <;> rfl), by repeat (first | (with_reducible first | exact HB.out | apply below_alloc | apply pw_below_drewN | apply below_drew1) | exact HB.out)⟩
              · rw [if_neg c22] at H
                have c22b0 : decide (t567 ≤ t577) = false := decide_eq_false c22
                clear c22
                obtain rfl := Option.some.inj H
                go_wp2_with (first | ((with_reducible refine gate_dst (N := 30) rfl ?_); (try (refine gate_guard (by rfl) ?_; dsimp only)); refine Kd.N_lit k33 _ 33 ?hg (N' := 30) ?hd (xs := ([] : List (S33))) (inner := []) (ok := (fun k_ => some k_ ≠ (.slice Ao7 t564.length co7 : Value).ownBlock)) (okp := (fun k_ => some k_ ≠ (.slice Ao7 t564.length co7 : Value).ownBlock)) ?hr ?hp (fun _ hk => hk) ((show ∀ k_, wc.heap.size ≤ k_ → (fun k_ => some k_ ≠ (.slice Ao7 t564.length co7 : Value).ownBlock) k_ from fun k_ hk => Kd.fresh' (Kd.N_lt (by (with_reducible repeat (first | apply Kd.N_alloc | apply Kd.N_drewN | apply Kd.N_drew)); exact HO_3.out)) k_ hk) _ (Nat.le_refl _)) (Below.refl _ _) (Nat.le_refl _) (by simp) ?_; (case hd => rfl); (case hg => rfl); (case hr => first | (go_simp; done) | (go_simp; rfl)); (case hp => exact (Reps.none _ _)); intro v571 w34 ho35 hb hg_ hnew_; clear hg_ hnew_; (first | rw [← Ny570.out] at ho35 | (simp only [Int.reduceToNat] at ho35; rw [← Ny570.out] at ho35)); have n0_ := Aside0.mk (Kd.N_elder' (by (with_reducible repeat (first | apply Kd.N_alloc | apply Kd.N_drewN | apply Kd.N_drew)); exact HO_3.out) (Kd.N_base ho35) hb); have n1_ := Aside0.mk (Kd.N_lower ho35 (below_size (by repeat (first | (with_reducible first | exact HB.out | apply below_alloc | apply pw_below_drewN | apply below_drew1) | exact HB.out)))); have n2_ := Aside0.mk (below_step (by repeat (first | (with_reducible first | exact HB.out | apply below_alloc | apply pw_below_drewN | apply below_drew1) | exact HB.out)) hb); clear HO_3; clear HB; have HO_3 := n0_; have HO572 := n1_; have HB := n2_; clear n0_ n1_ n2_; clear hb ho35) | ((with_reducible refine gate_builtin (b := .append) (xs := #[.tmp 30, .tmp 31]) rfl ?_); (try (refine gate_guard (by rfl) ?_; dsimp only)); at_builtin; refine Kd.N_append_rows k33 (w0 := w) w.heap.size rfl (.tmp 30) (.tmp 31) 25 33 (.agg #[(.int .i64 0), (.slice none 0 0), (.int .i64 0), (.int .i64 0)]) 48 rfl Tryd.underlying25 info33 rfl (by decide) (by omega) v571 y570 t564 _ _ _ (fun _ => True) (fun k_ => ((fun _ => True)) k_ ∧ some k_ ≠ (v571 : Value).ownBlock) rfl rfl ?aO ?aR (fun _ hk => hk) ?aF ?aB ?aS ?aL ?_; (case aR => exact (by skip; exact Kd.N_F (Kd.N_mono (ok' := (fun k_ => ((fun _ => True)) k_ ∧ some k_ ≠ (v571 : Value).ownBlock)) (HO_3.out) (fun k_ hk => ⟨trivial, hk.2⟩)))); (case aB => exact (by repeat (first | (with_reducible first | exact HB.out | apply below_alloc | apply pw_below_drewN | apply below_drew1) | exact HB.out))); (case aF => exact (fun _ _ => trivial)); (case aO => exact (by (with_reducible repeat (first | apply Kd.N_alloc | apply Kd.N_drewN | apply Kd.N_drew)); exact Kd.N_mono HO572.out (fun _ hk => trivial))); (case aS => exact (below_size (by repeat (first | (with_reducible first | exact HB.out | apply below_alloc | apply pw_below_drewN | apply below_drew1) | exact HB.out)))); (case aL => have := LMc18.out; omega); intro v574 w36 ho hb hg hat; rw [← Ny573.out] at ho; have n0_ := Aside0.mk (Kd.N_afterv (ok := (fun _ => True)) (by (with_reducible repeat (first | apply Kd.N_alloc | apply Kd.N_drewN | apply Kd.N_drew)); exact HO_3.out) hg hat); have n1_ := Aside0.mk (hb); have n2_ := Aside0.mk (ho); clear HO_3; clear HB; clear HO572; have HO_3 := n0_; have HB := n1_; have HO575 := n2_; clear n0_ n1_ n2_; clear ho hb hg hat; have p20 : 0 ≤ (0 : Int) := (by omega); have q20 : (0 : Int) < ((y573.length : Int) : Int) := of_decide_eq_true (by first | (with_reducible assumption) | assumption); have qi20 : (0 < y573.length) = True := eq_true (by omega); obtain ⟨go20, co20, eo20, gb20, gl20, cl20, HG20⟩ := Kd.N_form HO575.out (by omega); (first | cases eo20 | (injection eo20 with ea_ en_ ec_; (first | subst ea_ | (injection ea_ with ea_; subst ea_)); subst ec_; clear en_)); have GB20 := Aside0.mk gb20; have GG20 := Aside0.mk HG20; clear gb20 gl20 HG20; obtain ⟨ce20, hcl20, hM20, hcc20, hfr20⟩ := Kd.N_elem HO575.out z33 (0 : Int) p20 q20; obtain ⟨ua20_1, uc20_1, rfl, ul20_1, ge20_1⟩ := k33_openF hM20; have hx20_0 : w36.cell? ⟨go20, (0 : Int).toNat * 4, none⟩ = some (.int .i64 ((rd_T33 y573 0).f0)) := hcc20 0 _ rfl; have hx20_1 : w36.cell? ⟨go20, (0 : Int).toNat * 4 + 1, none⟩ = some (.slice ua20_1 ((rd_T33 y573 0).f1).length uc20_1) := hcc20 1 _ rfl; have hx20_2 : w36.cell? ⟨go20, (0 : Int).toNat * 4 + 2, none⟩ = some (.int .i64 ((rd_T33 y573 0).f2)) := hcc20 2 _ rfl; have hx20_3 : w36.cell? ⟨go20, (0 : Int).toNat * 4 + 3, none⟩ = some (.int .i64 ((rd_T33 y573 0).f3)) := hcc20 3 _ rfl; have hf20_0 : w36.frozen? ⟨go20, (0 : Int).toNat * 4, none⟩ = false := hfr20 0; have hf20_1 : w36.frozen? ⟨go20, (0 : Int).toNat * 4 + 1, none⟩ = false := hfr20 1; have hf20_2 : w36.frozen? ⟨go20, (0 : Int).toNat * 4 + 2, none⟩ = false := hfr20 2; have hf20_3 : w36.frozen? ⟨go20, (0 : Int).toNat * 4 + 3, none⟩ = false := hfr20 3; clear hcl20 hcc20 hfr20 hM20; (try rw [show ((0 : Int)).toNat = 0 from rfl] at hx20_0); (try simp only [Nat.reduceMul, Nat.zero_mul, Nat.zero_add, Nat.reduceAdd] at hx20_0); (try rw [show ((0 : Int)).toNat = 0 from rfl] at hf20_0); (try simp only [Nat.reduceMul, Nat.zero_mul, Nat.zero_add, Nat.reduceAdd] at hf20_0); (try rw [show ((0 : Int)).toNat = 0 from rfl] at hx20_1); (try simp only [Nat.reduceMul, Nat.zero_mul, Nat.zero_add, Nat.reduceAdd] at hx20_1); (try rw [show ((0 : Int)).toNat = 0 from rfl] at hf20_1); (try simp only [Nat.reduceMul, Nat.zero_mul, Nat.zero_add, Nat.reduceAdd] at hf20_1); (try rw [show ((0 : Int)).toNat = 0 from rfl] at hx20_2); (try simp only [Nat.reduceMul, Nat.zero_mul, Nat.zero_add, Nat.reduceAdd] at hx20_2); (try rw [show ((0 : Int)).toNat = 0 from rfl] at hf20_2); (try simp only [Nat.reduceMul, Nat.zero_mul, Nat.zero_add, Nat.reduceAdd] at hf20_2); (try rw [show ((0 : Int)).toNat = 0 from rfl] at hx20_3); (try simp only [Nat.reduceMul, Nat.zero_mul, Nat.zero_add, Nat.reduceAdd] at hx20_3); (try rw [show ((0 : Int)).toNat = 0 from rfl] at hf20_3); (try simp only [Nat.reduceMul, Nat.zero_mul, Nat.zero_add, Nat.reduceAdd] at hf20_3); replace p20 := eq_true p20; replace q20 := eq_true q20; have HX37 := Aside0.mk (show Kd.N k33 33 w36 w.heap.size (fun _ => True) (.slice (some ⟨go20, 0, none⟩) y573.length co20) y573 from (by (with_reducible repeat (first | apply Kd.N_alloc | apply Kd.N_drewN | apply Kd.N_drew)); exact HO575.out)); obtain ⟨ce37, hcl37, hM37, hcc37, hfr37⟩ := Kd.N_elem HX37.out z33 (0 : Int) (by omega) (by have h_ : (0 : Int) < ((y573.length : Int) : Int) := of_decide_eq_true (by first | (with_reducible assumption) | assumption); first | exact h_ | (have e_ := (Kd.N_reads' HO575.out).1; omega) | simpa using h_); obtain ⟨ua37_1, uc37_1, rfl, ul37_1, ge37_1⟩ := k33_openF hM37; have HP37 := Kd.N_seg HX37.out (0 : Int) (by omega) (by have h_ : (0 : Int) < ((y573.length : Int) : Int) := of_decide_eq_true (by first | (with_reducible assumption) | assumption); first | exact h_ | (have e_ := (Kd.N_reads' HO575.out).1; omega) | simpa using h_) (seg := [.slice none 0 0]) (j := 1) hcl37 hcc37 (show 2 ≤ 4 from by decide) (x' := (⟨(rd_T33 y573 0).f0, ([] : List Int), (rd_T33 y573 0).f2, (rd_T33 y573 0).f3⟩ : S33)) (k33_mkF _ _ (⟨(rd_T33 y573 0).f0, ([] : List Int), (rd_T33 y573 0).f2, (rd_T33 y573 0).f3⟩ : S33) (Nat.le_refl _) (Kd.F_nil _ _ _)) (fun _ hk => hk); have hx37_1 := hcc37 1 _ rfl; (try simp only [show (k33).sz = 4 from rfl, Nat.mul_one, Nat.add_zero] at hx37_1); (try rw [show ((0 : Int)).toNat = 0 from rfl] at hx37_1); (try simp only [Nat.reduceMul, Nat.zero_mul, Nat.zero_add, Nat.reduceAdd] at hx37_1); have hf37_1 := hfr37 1; (try simp only [show (k33).sz = 4 from rfl, Nat.mul_one, Nat.add_zero] at hf37_1); (try rw [show ((0 : Int)).toNat = 0 from rfl] at hf37_1); (try simp only [Nat.reduceMul, Nat.zero_mul, Nat.zero_add, Nat.reduceAdd] at hf37_1); clear hcl37 hcc37 hfr37 hM37) | ((with_reducible refine gate_store (t := 31) (p := 35) rfl ?_); refine store_event (t := 31) (p := 35) (v := ?vo_w38) (w1 := (w36.setCell ⟨go20, 1, none⟩ (.slice none 0 0))) ?hg ?ho ?hn ?hr ?_; (case ho => rfl); (case hg => rfl); (case hn => rfl); (case hr => (first | (go_simp; done) | (go_simp; rfl))); intro w38 hw; have hg : w36.grownBy w38 (some go20) := (by rw [hw]; exact HP37.2); have hp_ : Kd.N k33 33 w38 w.heap.size (fun _ => True) (.slice (some ⟨go20, 0, none⟩) y573.length co20) y576 := (by rw [hw, Ny576.out]; exact HP37.1); clear HP37; have n0_ := Aside0.mk (Kd.N_afterv (v := (.slice (some ⟨go20, 0, none⟩) y573.length co20)) (v1 := (.slice (some ⟨go20, 0, none⟩) y573.length co20)) (ok := (fun _ => True)) (by (with_reducible repeat (first | apply Kd.N_alloc | apply Kd.N_drewN | apply Kd.N_drew)); exact HO_3.out) hg (.inl rfl)); have n1_ := Aside0.mk (hp_); have n2_ := Aside0.mk ((by rw [hw]; exact below_set (HB.out) GB20.out : Below w.heap.size w w38)); clear HO_3; clear HO575; clear HB; have HO_3 := n0_; have HO575 := n1_; have HB := n2_; clear n0_ n1_ n2_; clear hg hw hp_) | ((with_reducible refine gate_callee (f := 18) rfl ?_); refine goesL_ (some 37) rfl rfl Tryd.func18 (by kernel_rfl) rfl #[.slice (some ⟨go20, 0, none⟩) y576.length co20] rfl (by (try simp only [List.map_toArray, List.map_cons, List.map_nil]); first | done | (rw [show y576.length = y573.length from (Kd.N_reads' HO575.out).1.symm] <;> rfl) | rfl | (simp only [List.length_drop, List.length_take]; rfl)) ?_; (with_reducible refine (impl_CountOrders.calls _ _ y576 t577 _ ?side1 ?side2 ?side3 A21.out).mono ?_); (case side1 => repeat (first | exact (Kd.N_reads' HO575.out).2.2 | (with_reducible refine Kd.C_alloc ?_ _) | (with_reducible refine Kd.C_drewN ?_ _) | (with_reducible refine Kd.C_drew ?_))); (case side2 => rw [show y576.length = y573.length from (Kd.N_reads' HO575.out).1.symm]; exact (Kd.N_reads' HO575.out).2.1); (case side3 => exact Tab.of HT.out (by repeat (first | (with_reducible first | exact HB.out | apply below_alloc | apply pw_below_drewN | apply below_drew1) | exact HB.out))); rintro e w39 ⟨rfl, hb⟩; refine ⟨_, rfl, ?_⟩; have n0_ := Aside0.mk (Kd.N_below (by (with_reducible repeat (first | apply Kd.N_alloc | apply Kd.N_drewN | apply Kd.N_drew)); exact HO_3.out) hb); have n1_ := Aside0.mk (Kd.N_below (by (with_reducible repeat (first | apply Kd.N_alloc | apply Kd.N_drewN | apply Kd.N_drew)); exact HO575.out) hb); have n2_ := Aside0.mk (below_step (by repeat (first | (with_reducible first | exact HB.out | apply below_alloc | apply pw_below_drewN | apply below_drew1) | exact HB.out)) hb); clear HO_3; clear HO575; clear HB; have HO_3 := n0_; have HO575 := n1_; have HB := n2_; clear n0_ n1_ n2_; (try clear hb); (try clear hb2); (try clear hk); (try clear hi)))
                go_ret
                exact ⟨by first | rfl | (simp [errW_none, errW_some] <;> rfl) | (simp [*, errW_none, errW_some] <;> rfl), by repeat (first | (with_reducible first | exact HB.out | apply below_alloc | apply pw_below_drewN | apply below_drew1) | exact HB.out)⟩
            · rw [if_neg c19] at H
              exact absurd H (by simp)
          · rw [if_neg c18] at H
            exact absurd H (by simp)
end Go.Proofs.YtffhdofcfkgoaaaDoor.P
end
section
set_option linter.unusedVariables false
set_option linter.unusedSimpArgs false
namespace Go.Proofs.YtffhdofcfkgoaaaDoor.Core
open Go Go.RowKit Go.Proofs.YtffhdofcfkgoaaaDoorW.PrintWords Go.Proofs.YtffhdofcfkgoaaaDoorW.PrintMore Go.Proofs.YtffhdofcfkgoaaaDoor.P
theorem VG.need_lt {g : List Tk} {G : GD} (v : VG g G) {i m : Nat} (h : (G.needs.getD i 0).testBit m = true) : m < g.length := by
  have h1 := getD_lt v.nb i
  have h2 := Nat.ge_two_pow_of_testBit h
  have h3 : 2 ^ m < 2 ^ g.length := Nat.lt_of_le_of_lt h2 h1
  exact (Nat.pow_lt_pow_iff_right (by omega)).1 h3
/-- From the needs to the task. -/
theorem VG.ind {g : List Tk} {G : GD} (v : VG g G) {Q : Nat → Prop} (h : ∀ i, i < g.length → (∀ m, (G.needs.getD i 0).testBit m = true → Q m) → Q i) : ∀ i, i < g.length → Q i := by
  have key : ∀ (suf pre : List Nat), G.order = pre ++ suf → (∀ i ∈ pre, Q i) → ∀ i ∈ G.order, Q i := by
    intro suf
    induction suf with
    | nil => intro pre ho hp i hi; rw [ho, List.append_nil] at hi; exact hp i hi
    | cons a s ih =>
      intro pre ho hp
      refine ih (pre ++ [a]) (by rw [ho]; simp) fun i hi => ?_
      rcases List.mem_append.1 hi with hi | hi
      · exact hp i hi
      · rw [List.mem_singleton.1 hi]
        exact h a (v.mem.1 (by rw [ho]; simp)) fun m hm => hp m (v.ord.needs pre a s ho m hm)
  exact fun i hi => key G.order [] rfl (by simp) i (v.mem.2 hi)
theorem VG.below_in {g : List Tk} {G : GD} (v : VG g G) (hG : graphD g = some G) {p : Nat} (hc : closedN g.length G.needs p) : ∀ i, i < g.length → p.testBit i = true → ∀ k, (G.below.getD i 0).testBit k = true → p.testBit k = true := by
  refine v.ind (Q := fun i => p.testBit i = true → ∀ k, (G.below.getD i 0).testBit k = true → p.testBit k = true) fun i hi ih hp k hk => ?_
  obtain ⟨m, hm, h⟩ := (below_bits hG hi k).1 hk
  have hpm := hc i hi hp m hm
  rcases h with rfl | h
  · exact hpm
  · exact ih m hm hpm k h
theorem VG.below_before {g : List Tk} {G : GD} (v : VG g G) (hG : graphD g = some G) : ∀ i, i < g.length → ∀ k, (G.below.getD i 0).testBit k = true → ∀ pre suf, G.order = pre ++ i :: suf → k ∈ pre := by
  refine v.ind (Q := fun i => ∀ k, (G.below.getD i 0).testBit k = true → ∀ pre suf, G.order = pre ++ i :: suf → k ∈ pre) fun i hi ih k hk pre suf ho => ?_
  obtain ⟨m, hm, h⟩ := (below_bits hG hi k).1 hk
  have hmp := v.ord.needs pre i suf ho m hm
  rcases h with rfl | h
  · exact hmp
  · obtain ⟨a, b, rfl⟩ := List.append_of_mem hmp
    exact List.mem_append_left _ (ih m hm k h a (b ++ i :: suf) (by rw [ho]; simp))
/-- From what is above to the task. -/
theorem VG.rind {g : List Tk} {G : GD} (v : VG g G) (hG : graphD g = some G) {Q : Nat → Prop} (h : ∀ k, k < g.length → (∀ m, m < g.length → (G.below.getD m 0).testBit k = true → Q m) → Q k) : ∀ k, k < g.length → Q k := by
  have hn := v.ord.nodup
  have key : ∀ (n : Nat) (pre suf : List Nat), pre.length = n → G.order = pre ++ suf → (∀ i ∈ suf, Q i) → ∀ i ∈ G.order, Q i := by
    intro n
    induction n with
    | zero =>
      intro pre suf hl ho hs i hi
      have : pre = [] := List.length_eq_zero_iff.1 hl
      rw [ho, this, List.nil_append] at hi
      exact hs i hi
    | succ n ih =>
      intro pre suf hl ho hs
      obtain ⟨pre0, k, rfl⟩ : ∃ t z, pre = t ++ [z] := by
        have hne : pre ≠ [] := by intro h; rw [h] at hl; simp at hl
        exact ⟨pre.dropLast, pre.getLast hne, (List.dropLast_concat_getLast hne).symm⟩
      have ho' : G.order = pre0 ++ k :: suf := by rw [ho]; simp
      refine ih pre0 (k :: suf) (by simp at hl; omega) ho' fun i hi => ?_
      rcases List.mem_cons.1 hi with rfl | hi
      · refine h i (v.mem.1 (by rw [ho']; simp)) fun m hm hb => ?_
        have hmo := v.mem.2 hm
        rw [ho'] at hmo hn
        rw [List.nodup_append] at hn
        rcases List.mem_append.1 hmo with hmo | hmo
        · obtain ⟨a, c, hac⟩ := List.append_of_mem hmo
          have := v.below_before hG m hm i hb a (c ++ i :: suf) (by rw [ho', hac]; simp)
          exact absurd rfl (hn.2.2 i (by rw [hac]; exact List.mem_append_left _ this) i List.mem_cons_self)
        · rcases List.mem_cons.1 hmo with hmo | hmo
          · rw [hmo] at hb
            have := v.below_before hG i (v.mem.1 (by rw [ho']; simp)) i hb pre0 suf ho'
            exact absurd rfl (hn.2.2 i this i List.mem_cons_self)
          · exact hs m hmo
      · exact hs i hi
  exact fun k hk => key G.order.length G.order [] rfl (by simp) (by simp) k (v.mem.2 hk)
theorem ufold_bit (G : GD) (i k : Nat) : ∀ (ks : List Nat) (o : Nat), (ks.foldl (ustep G i) o).testBit k = true ↔ o.testBit k = true ∨ ∃ m ∈ ks, (G.needs.getD i 0).testBit k = true ∧ (G.below.getD m 0).testBit k = true
  | [], o => by simp
  | x :: ks, o => by
    rw [List.foldl_cons, ufold_bit G i k ks, ustep, Nat.testBit_or, Nat.testBit_and, Bool.or_eq_true, Bool.and_eq_true]
    constructor
    · rintro ((h | h) | ⟨m, hm, h⟩)
      · exact .inl h
      · exact .inr ⟨x, List.mem_cons_self, h⟩
      · exact .inr ⟨m, List.mem_cons_of_mem _ hm, h⟩
    · rintro (h | ⟨m, hm, h⟩)
      · exact .inl (.inl h)
      · rcases List.mem_cons.1 hm with rfl | hm
        · exact .inl (.inr h)
        · exact .inr ⟨m, hm, h⟩
theorem VG.useless_bit {g : List Tk} {G : GD} (v : VG g G) (i k : Nat) : (uselessD G i).testBit k = true ↔ (G.needs.getD i 0).testBit k = true ∧ ∃ m, (G.needs.getD i 0).testBit m = true ∧ (G.below.getD m 0).testBit k = true := by
  unfold uselessD
  rw [ufold_bit]
  constructor
  · rintro (h | ⟨m, hm, h1, h2⟩)
    · simp at h
    · exact ⟨h1, m, (mem_elemsN.1 hm).2, h2⟩
  · rintro ⟨h1, m, hm, h2⟩
    exact .inr ⟨m, mem_elemsN.2 ⟨by have := v.need_lt hm; have := v.n8; omega, hm⟩, h1, h2⟩
theorem withoutTo_get (G : GD) (g : List Tk) {n i : Nat} (h : i < n) : (withoutTo G g n).getD i z33 = wtask G g i := by
  unfold withoutTo
  rw [List.getD_eq_getElem?_getD, List.getElem?_map, List.getElem?_range h]
  rfl
theorem gok_of {g : List Tk} {G : GD} (v : VG g G) (hG : graphD g = some G) (i : Nat) : uselessD G i < 2 ^ g.length := by
  have := uselessD_lt (graphD_ok hG) i
  rwa [v.tasks] at this
/-- Useless needs do not matter. -/
theorem without_orders {g : List Tk} {G : GD} (hG : graphD g = some G) : ∃ G2, graphD (withoutD g) = some G2 ∧ ∀ k, ordersF G k 0 = ordersF G2 k 0 := by
  have v := vg_of hG
  have h8 := v.n8
  have h256 : 2 ^ g.length ≤ 256 := pow8 h8
  have hw : withoutD g = withoutTo G g g.length := by unfold withoutD; rw [hG]
  rw [hw]
  have hl := withoutTo_length G g g.length
  have hbit : ∀ i, ∀ j, (sub (G.needs.getD i 0) (uselessD G i)).testBit j = true ↔ (G.needs.getD i 0).testBit j = true ∧ ¬ (uselessD G i).testBit j = true := by
    intro i j
    have h1 := getD_lt v.nb i
    have h2 := gok_of v hG i
    rw [sub_testBit (by omega) (by omega), Bool.and_eq_true]
    simp
  have hmem : ∀ i, ∀ j : Nat, ((j : Int) ∈ (wtask G g i).f1 ↔ (sub (G.needs.getD i 0) (uselessD G i)).testBit j = true) := by
    intro i j
    show (j : Int) ∈ elems _ ↔ _
    rw [mem_elems]
    constructor
    · rintro ⟨x, hx, _, h⟩
      have : j = x := by omega
      rw [this]; exact h
    · intro h
      exact ⟨j, rfl, by have := v.need_lt ((hbit i j).1 h).1; omega, h⟩
  obtain ⟨G2, hG2, v2, hin⟩ := fewer_graph v hl (fun t ht => by
    obtain ⟨i, hi, rfl⟩ := List.mem_map.1 ht
    have hi' := List.mem_range.1 hi
    have hg : g.getD i z33 ∈ g := by
      rw [List.getD_eq_getElem?_getD, List.getElem?_eq_getElem hi']
      exact List.getElem_mem hi'
    have hok := (v.fine.1 _ hg).1
    refine ⟨hok, fun x hx => ?_, asc_elems _⟩
    have := elems_lt (n := g.length) (sub_lt (getD_lt v.nb i)) hx
    omega) (fun i hi j hj => by
    rw [withoutTo_get G g hi, hmem, hbit] at hj
    have := hj.1
    rwa [v.bits i hi, decide_eq_true_eq] at this)
  refine ⟨G2, hG2, fun k => ?_⟩
  have hb2 : ∀ i, i < g.length → ∀ j, (G2.needs.getD i 0).testBit j = true ↔ (G.needs.getD i 0).testBit j = true ∧ ¬ (uselessD G i).testBit j = true := by
    intro i hi j
    rw [v2.bits i (by rw [hl]; exact hi), decide_eq_true_eq, withoutTo_get G g hi, hmem, hbit]
  refine orders_same v v2 hl (fun p hp hc i hi => ?_) k 0 (Nat.two_pow_pos _) (fun i hi h => by simp at h)
  rw [v.sub_iff' hp, v2.sub_iff' (by rw [hl]; exact hp)]
  refine ⟨fun h j hj => h j (hin i hi j hj), fun h => ?_⟩
  have key : ∀ m, m < g.length → (G.needs.getD i 0).testBit m = true → p.testBit m = true := by
    refine v.rind hG (Q := fun m => (G.needs.getD i 0).testBit m = true → p.testBit m = true) fun m hm ih hnm => ?_
    by_cases hu : (uselessD G i).testBit m = true
    · obtain ⟨_, x, hx, hb⟩ := (v.useless_bit i m).1 hu
      have hxl := v.need_lt hx
      exact v.below_in hG hc x hxl (ih x hxl hb hx) m hb
    · exact h m ((hb2 i hi m).2 ⟨hnm, hu⟩)
  exact fun j hj => key j (v.need_lt hj) hj
theorem count_without {g : List Tk} {G : GD} (hG : graphD g = some G) : countD (withoutD g) = countD g := by
  obtain ⟨G2, hG2, h⟩ := without_orders hG
  have hw : withoutD g = withoutTo G g g.length := by unfold withoutD; rw [hG]
  have hl : (withoutD g).length = g.length := by rw [hw]; exact withoutTo_length G g g.length
  unfold countD
  rw [hG, hG2, hl]
  simp only []
  rw [h 9]
/-- Without the first task's needs. -/
theorem count_head {g : List Tk} {G : GD} (hG : graphD g = some G) (h0 : 0 < g.length) (h5 : g.length ≤ 5) : countD g ≤ countD (g.set 0 ⟨(g.getD 0 z33).f0, [], (g.getD 0 z33).f2, (g.getD 0 z33).f3⟩) := by
  have v := vg_of hG
  have hl : (g.set 0 (⟨(g.getD 0 z33).f0, [], (g.getD 0 z33).f2, (g.getD 0 z33).f3⟩ : Tk)).length = g.length := List.length_set
  have hg : g.getD 0 z33 ∈ g := by
    rw [List.getD_eq_getElem?_getD, List.getElem?_eq_getElem h0]
    exact List.getElem_mem h0
  obtain ⟨G2, hG2, v2, hin⟩ := fewer_graph v hl (fun t ht => by
    rcases List.mem_or_eq_of_mem_set ht with h | h
    · exact v.fine.1 t h
    · rw [h]
      exact ⟨(v.fine.1 _ hg).1, by simp, rfl⟩) (fun i hi j hj => by
    by_cases e : i = 0
    · rw [e, List.getD_eq_getElem?_getD, List.getElem?_set_self h0] at hj
      simp at hj
    · rw [List.getD_eq_getElem?_getD, List.getElem?_set_ne (Ne.symm e), ← List.getD_eq_getElem?_getD] at hj
      exact hj)
  have := orders_mono v v2 hl hin 9 0 (Nat.two_pow_pos _)
  unfold countD
  rw [hG, hG2, hl]
  simp only []
  rw [if_neg (by omega), if_neg (by omega)]
  omega
end Go.Proofs.YtffhdofcfkgoaaaDoor.Core
end
section
set_option linter.unusedVariables false
set_option linter.unusedSimpArgs false
namespace Go.Proofs.YtffhdofcfkgoaaaDoor.Core
open Go Go.RowKit Go.Proofs.YtffhdofcfkgoaaaDoorW.PrintWords Go.Proofs.YtffhdofcfkgoaaaDoorW.PrintMore Go.Proofs.YtffhdofcfkgoaaaDoor.P
theorem FnCountOrdersLess_pure (l0 : List Int) (hW : Bytes l0) : ∃ k, laws_FnCountOrdersLess.f k l0 = some true := by
  refine Ev.one (f := fun k => laws_FnCountOrdersLess.f k l0) (EvP.ev ?_)
  unfold laws_FnCountOrdersLess.f
  refine EvP.ite (fun _ => EvP.ret rfl) (fun hlen => ?_)
  refine (ev_DrawCountOrders hW).bind fun g hg => ?_
  have hf := hg.fits (by unfold big; omega) (by unfold big; omega)
  have hs := ev_CountOrders hf
  refine Ev.bindP (Ev.const (countD g)) (Ev.bindP hs (EvP.pos rfl ?_))
  have hyes : EvP (fun k => laws_FnCountOrdersLess.j0 k g (countD g) true) (fun x => x = true) := by
    refine EvP.succ ?_
    simp only [laws_FnCountOrdersLess.j0]
    exact EvP.pos (by trivial) (Ev.bindP hs (EvP.ret (by simp)))
  refine EvP.ite (fun _ => hyes) (fun hn => ?_)
  by_cases h0 : g.length = 0
  · rw [show ((g.length : Int) == 0) = true by simp [h0]]
    exact hyes
  rw [show ((g.length : Int) == 0) = false from beq_eq_false_iff_ne.2 (by omega)]
  refine EvP.succ ?_
  simp only [laws_FnCountOrdersLess.j0]
  obtain ⟨G, hG, h5⟩ : ∃ G, graphD g = some G ∧ g.length ≤ 5 := by
    unfold countD at hn
    cases hG : graphD g with
    | none => rw [hG] at hn; simp at hn
    | some G =>
      rw [hG] at hn
      simp only [] at hn
      by_cases h5 : g.length > 5
      · rw [if_pos h5] at hn; simp at hn
      · exact ⟨G, rfl, by omega⟩
  refine EvP.neg (by simp) (EvP.sb (EvP.pos (by simp; omega) (EvP.sb ?_)))
  simp only [List.nil_append]
  have e0 : rd_T33 g 0 = g.getD 0 z33 := rdT_nat g 0
  rw [e0]
  refine EvP.pos (by omega) (Ev.bindP (Ev.const _) (EvP.pos (count_head hG (by omega) h5) (Ev.bindP (Ev.const (withoutD g)) (Ev.bindP (Ev.const (countD (withoutD g))) (EvP.ret ?_)))))
  rw [count_without hG]
  simp
end Go.Proofs.YtffhdofcfkgoaaaDoor.Core
end
