/- The law FnWithoutUselessLeast holds of the given program: the proof's own part, with its row and its card, part 8 of 11. -/
import Derived.Test.YtekajandipdlhaaDoorZFnWithoutUselessLeast7
section
set_option linter.unusedVariables false
set_option linter.unusedSimpArgs false
namespace Go.Proofs.YtekajandipdlhaaDoor.Core
open Go Go.RowKit Go.Proofs.YtekajandipdlhaaDoorW.PrintWords Go.Proofs.YtekajandipdlhaaDoorW.PrintLast Go.Proofs.YtekajandipdlhaaDoorW.PrintMore Go.Proofs.YtekajandipdlhaaDoor.P
/-- A task without its useless needs. -/
def wtask (G : GD) (g : List Tk) (i : Nat) : Tk := ⟨(g.getD i z37).f0, elems (sub (G.needs.getD i 0) (uselessD G i)), (g.getD i z37).f2, (g.getD i z37).f3⟩
def withoutTo (G : GD) (g : List Tk) (n : Nat) : List Tk := (List.range n).map (wtask G g)
theorem withoutTo_succ (G : GD) (g : List Tk) (n : Nat) : withoutTo G g (n + 1) = withoutTo G g n ++ [wtask G g n] := by unfold withoutTo; rw [List.range_succ, List.map_append]; rfl
theorem withoutTo_length (G : GD) (g : List Tk) (n : Nat) : (withoutTo G g n).length = n := by simp [withoutTo]
theorem four_set {w : World} {g t : Nat} {o0 o1 o2 o3 : Value} (h : w.heap[g]? = some (.cells #[o0, o1, o2, o3] t (0, 0))) (v0 v1 v2 v3 : Value) :
  ((((w.setCell ⟨g, 0, none⟩ v0).setCell ⟨g, 1, none⟩ v1).setCell ⟨g, 2, none⟩ v2).setCell ⟨g, 3, none⟩ v3).heap[g]? = some (.cells #[v0, v1, v2, v3] t (0, 0)) ∧ w.grownBy ((((w.setCell ⟨g, 0, none⟩ v0).setCell ⟨g, 1, none⟩ v1).setCell ⟨g, 2, none⟩ v2).setCell ⟨g, 3, none⟩ v3) (some g) :=
 ⟨blk_put (blk_put (blk_put (blk_put h 0 v0 rfl) 1 v1 rfl) 2 v2 rfl) 3 v3 rfl, grown_trans (grown_trans (grown_trans (grownBy_setCell'' _ _ _ _) (grownBy_setCell'' _ _ _ _)) (grownBy_setCell'' _ _ _ _)) (grownBy_setCell'' _ _ _ _)⟩
def withoutD (g : List Tk) : List Tk := match graphD g with
 | none => []
 | some G => withoutTo G g g.length
end Go.Proofs.YtekajandipdlhaaDoor.Core
namespace Go.Proofs.YtekajandipdlhaaDoor.P
open Go Go.RowKit Go.Shelf Go.Proofs.YtekajandipdlhaaDoorW.PrintWords Go.Proofs.YtekajandipdlhaaDoorW.PrintLast Go.Proofs.YtekajandipdlhaaDoorW.PrintMore Go.Proofs.YtekajandipdlhaaDoor.Core
attribute [local go_sem] Oper.semAt_some wide_fn wide_depth
def impl_WithoutUseless.f (l0 : List S37) : Option (List S37) := some (withoutD l0)
set_option maxRecDepth 100000 in
set_option maxHeartbeats 8000000 in
theorem impl_WithoutUseless.calls (A0 : Option Addr) (c0 : Nat) (l0 : List S37) (r : List S37) (w : World) (hr0 : Kd.C k37 w A0 l0.length l0) (hc0 : l0.length ≤ c0) (hT : Tab w) (h : impl_WithoutUseless.f l0 = some r) :
  Calls Tryd.prog 29 #[.slice A0 l0.length c0] w fun e w' => ∃ v0_ : Value, e = .returned (v0_) ∧ Kd.S k37 37 w' w.heap.size (fun _ => True) v0_ r ∧ Below w.heap.size w w' := by
 have hr : r = withoutD l0 := (Option.some.inj h).symm
 subst hr
 clear h
 cases hg : graphD l0 with
 | none =>
  have hcd : withoutD l0 = [] := by unfold withoutD; rw [hg]
  rw [hcd]
  have HG := Aside0.mk (graphOf_none A0 c0 l0 w hT hr0 hc0 hg)
  clear hr0 hT hg hcd
  go_enter Tryd.func29, Tryd.ntmps29
  go_wp2_with (go_at_call 60; refine HG.out.mono ?_; rintro e w' ⟨rfl, hB⟩)
  go_ret
  exact ⟨_, rfl, Kd.S_nil _ _ _ _ _, hB⟩
 | some G =>
  have hcd : withoutD l0 = withoutTo G l0 l0.length := by unfold withoutD; rw [hg]
  rw [hcd]
  have HG := Aside0.mk (graphOf_some A0 c0 l0 G w hT hr0 hc0 hg)
  have OK := Aside0.mk (graphD_ok hg)
  have HE := Aside0.mk (show G.tasks = l0 by obtain ⟨N, _, _, rfl⟩ := graphD_spec hg; rfl)
  have HR0 := Aside0.mk hr0
  have HC0 := Aside0.mk hc0
  have HTw := Aside0.mk hT
  clear hr0 hc0 hT hg hcd
  go_enter Tryd.func29, Tryd.ntmps29
  have hn8 : l0.length ≤ 8 := by have := OK.out.n8; rw [HE.out] at this; exact this
  have dc1 : decide (0 ≤ (l0.length : Int)) = true := decide_eq_true (by omega)
  have HN8 := Aside0.mk hn8
  clear hn8
  go_wp2_with (first | (go_at_call 60; refine HG.out.mono ?_; rintro e w1 ⟨b, rfl, hB, hI⟩; have HB1 := Aside0.mk hB; have HI := Aside0.mk hI; clear hB hI HG) | ((with_reducible refine gate_dst (N := 17) rfl ?_); refine Kd.S_make0 k37 _ 37 rfl (N := 17) rfl 26 _ _ rfl (l0.length : Int) rfl rfl Tryd.underlying26 (.agg #[(.int .i64 0), (.slice none 0 0), (.int .i64 0), (.int .i64 0)]) 48 info37 rfl (by decide) (by omega) (ok := fun _ => True) trivial (by omega) (by have := HN8.out; omega) (Below.refl _ _) (Nat.le_refl _) ?_; intro v5 w2 ho hb hg_ hnew_; clear hg_ hnew_; have HO := Aside0.mk ho; have HB := Aside0.mk hb; clear ho hb))
  go_loopg [5, 20] l0.length (fun kq v5 v20 w' => ∃ (j : Nat) (x : Int), v20 = .int .i64 x ∧ Aside0 (kq + j = l0.length ∧ x = (j : Int)) ∧ Aside0 (Kd.S k37 37 w' w1.heap.size (fun _ => True) v5 (withoutTo G l0 j)) ∧ Aside0 (Below w1.heap.size w1 w'))
  case atStart => exact ⟨0, 0, rfl, ⟨by omega, rfl⟩, ⟨HO.out⟩, ⟨HB.out⟩⟩
  case round =>
   clear HO HB
   obtain ⟨j, x, rfl, HJ, HO, HB⟩ := hrel
   by_cases hlt : j < l0.length
   ·have hx := HJ.out.2
    have hd : decide (x < (l0.length : Int)) = true := decide_eq_true (by omega)
    have p0 : 0 ≤ x := by omega
    have q0 : x < (l0.length : Int) := by omega
    obtain ⟨ad, A1, c1, e0, h0, h1, h2, h3, h4, h5⟩ := at_T37 HR0.out x p0 q0
    subst e0
    have HBw := below_step HB1.out HB.out
    replace h0 := (HBw.cell (World.block_lt_of_cell? w _ h0)).trans h0
    replace h1 := (HBw.cell (World.block_lt_of_cell? w _ h1)).trans h1
    replace h2 := (HBw.cell (World.block_lt_of_cell? w _ h2)).trans h2
    replace h3 := (HBw.cell (World.block_lt_of_cell? w _ h3)).trans h3
    have ht : rd_T37 l0 x = l0.getD j z37 := by rw [hx]; simp [rd_T37]
    obtain ⟨tk, htk⟩ : ∃ t, t = l0.getD j z37 := ⟨_, rfl⟩
    rw [ht, ← htk] at h0 h1 h2 h3
    have HTK := Aside0.mk htk
    have HLT := Aside0.mk hlt
    replace p0 := eq_true p0
    replace q0 := eq_true q0
    clear ht htk h4 h5 HBw hlt hx
    go_wp2_with ((with_reducible refine gate_dst (N := 7) rfl ?_); refine box_event ?hg (N := 7) ?hd (cs := #[.int .i64 0, .slice none 0 0, .int .i64 0, .int .i64 0]) (t := 37) ?hr ?_; (case hd => rfl); (case hg => rfl); (case hr => first | (go_simp; done) | (go_simp; rfl)); intro gb hg w7 hbox hb; have n0 := Aside0.mk (Kd.S_below (Kd.S_elderB HO.out gb (Nat.le_of_eq hg.symm)) hb); have n1 := Aside0.mk (below_step HB.out hb); have GE := Aside0.mk (show w1.heap.size ≤ gb by rw [hg]; exact HB.out.size); clear HO HB hb hg; have HO := n0; have HB := n1; have BK := Aside0.mk hbox; clear n0 n1 hbox; have z0 : w7.cell? ⟨gb, 0, none⟩ = some (.int .i64 0) := (blk_cell BK.out 0).trans rfl; have z1 : w7.cell? ⟨gb, 1, none⟩ = some (.slice none 0 0) := (blk_cell BK.out 1).trans rfl; have z2 : w7.cell? ⟨gb, 2, none⟩ = some (.int .i64 0) := (blk_cell BK.out 2).trans rfl; have z3 : w7.cell? ⟨gb, 3, none⟩ = some (.int .i64 0) := (blk_cell BK.out 3).trans rfl; have f0 := blk_frozen BK.out 0; have f1 := blk_frozen BK.out 1; have f2 := blk_frozen BK.out 2; have f3 := blk_frozen BK.out 3)
    have h8 := four_set BK.out (.int .i64 tk.f0) (.slice A1 tk.f1.length c1) (.int .i64 tk.f2) (.int .i64 tk.f3)
    have HO8 := Aside0.mk (show Kd.S k37 37 _ w1.heap.size (fun k => k ≠ gb) u5 (withoutTo G l0 j) from Kd.S_grown (Kd.S_mono HO.out (fun k hk => hk.2)) h8.2 (fun k hk e => hk (by injection e)))
    have HB8 := Aside0.mk (below_put h8.2 HB.out (Nat.le_refl _) GE.out)
    have BK8 := Aside0.mk h8.1
    clear h8 HO HB BK z0 z1 z2 z3 f0 f1 f2 f3 h0 h1 h2 h3 p0 q0 hd
    revert HO8 HB8 BK8
    generalize ((((w7.setCell ⟨gb, 0, none⟩ (.int .i64 tk.f0)).setCell ⟨gb, 1, none⟩ (.slice A1 tk.f1.length c1)).setCell ⟨gb, 2, none⟩ (.int .i64 tk.f2)).setCell ⟨gb, 3, none⟩ (.int .i64 tk.f3)) = wa
    intro HO8 HB8 BK8
    have hgd0 := HI.out.move HB8.out
    have hTd0 := HTw.out.of (below_step HB1.out HB8.out)
    obtain ⟨An, cn, hcn, _, hCn⟩ := hgd0.needs
    have hx := HJ.out.2
    have hlt := HLT.out
    have hnl := OK.out.nl
    rw [HE.out] at hnl
    have p1 : 0 ≤ x := by omega
    have q1 : x < (G.needs.length : Int) := by omega
    obtain ⟨adn, e1, hxn⟩ := Kd.at_int hCn x p1 q1
    subst e1
    rw [rd_up (i := j) hx] at hxn
    have h256 := pow8 OK.out.n8
    have hsl := Nat.lt_of_lt_of_le (getD_lt OK.out.nb j) h256
    have hul := Nat.lt_of_lt_of_le (uselessD_lt OK.out j) h256
    have hp : wtask G l0 j = ⟨tk.f0, elems (sub (G.needs.getD j 0) (uselessD G j)), tk.f2, tk.f3⟩ := by unfold wtask; rw [← HTK.out]
    have HU := fun W hT hg => useless_calls b G j W hT hg OK.out (by rw [HE.out]; exact hlt)
    rw [← hx] at HU
    generalize G.needs.getD j 0 = s at hxn hsl hp
    generalize uselessD G j = u at hul hp HU
    have hand := andNot_eq hsl hul
    have hr2 : sub s u < 256 := sub_lt hsl
    generalize sub s u = r2 at hand hr2 hp
    have HP := Aside0.mk hp
    replace p1 := eq_true p1
    replace q1 := eq_true q1
    clear hp hx hlt hnl hCn hsl hul
    refine start_ (n := 14) (S := fun w' => w'.cell? ⟨b, 1, none⟩ = some (.slice (some adn) G.needs.length cn) ∧ w'.cell? (adn.add x.toNat) = some (.int .u16 (s : Int))) (ds := [13]) #[false, false, false, false, false, false, false, false, false, false, false, false, false, false] rfl (by kernel_rfl) rfl ⟨hcn, hxn⟩ (fun hHeld => ?_)
    have hdr : Below wa.heap.size wa wa.drew := below_drew (Below.refl _ _)
    have HBd := Aside0.mk (below_step HB8.out hdr)
    have HOd := Aside0.mk (Kd.S_below HO8.out hdr)
    have BKd := Aside0.mk ((hdr.block gb (cells_lt BK8.out)).trans BK8.out)
    have hgd := hgd0.move hdr
    have hTd := hTd0.of hdr
    revert HBd HOd BKd hgd hTd hHeld
    clear hdr hgd0 hTd0 hcn hxn HO8 HB8 BK8
    generalize wa.drew = wd
    intro hHeld HBd HOd BKd hgd hTd
    refine pure_ (i := 0) (N := some 25) (v := ?_) (a' := ?_) #[true, false, false, false, false, false, false, false, false, false, false, false, false, false] rfl rfl (by kernel_rfl) (fun _ _ _ h => h) (Or.inl ⟨by rfl, ?_⟩) ?_ ?_
    rotate_left
    ·intro w'
     go_simp
     with_reducible rfl
    rotate_left
    ·simp only [Act.put, List.setIfInBounds_toArray, List.set_cons_zero, List.set_cons_succ, i64_w, i32_w]
     rfl
    refine pure_ (i := 1) (N := some 26) (v := ?_) (a' := ?_) #[true, true, false, false, false, false, false, false, false, false, false, false, false, false] rfl rfl (by kernel_rfl) (fun _ _ _ h => h) (Or.inl ⟨by rfl, ?_⟩) ?_ ?_
    rotate_left
    ·intro w'
     go_simp
     with_reducible rfl
    rotate_left
    ·simp only [Act.put, List.setIfInBounds_toArray, List.set_cons_zero, List.set_cons_succ, i64_w, i32_w]
     rfl
    refine pure_ (i := 2) (N := some 27) (v := ?_) (a' := ?_) #[true, true, true, false, false, false, false, false, false, false, false, false, false, false] rfl rfl (by kernel_rfl) (fun _ _ _ h => h) (Or.inl ⟨by rfl, ?_⟩) ?_ ?_
    rotate_left
    ·intro w'
     go_simp
     with_reducible rfl
    rotate_left
    ·simp only [Act.put, List.setIfInBounds_toArray, List.set_cons_zero, List.set_cons_succ, i64_w, i32_w]
     rfl
    refine take_ (i := 3) (N := some 28) (v := ?_) (a' := ?_) #[true, true, true, true, false, false, false, false, false, false, false, false, false, false] rfl rfl (by kernel_rfl) (fun _ _ _ h => h) (Or.inl ⟨by rfl, ?_⟩) hHeld ?_ ?_
    rotate_left
    ·rintro w' ⟨s0, s1⟩
     go_simp
     with_reducible rfl
    rotate_left
    ·simp only [Act.put, List.setIfInBounds_toArray, List.set_cons_zero, List.set_cons_succ, i64_w, i32_w]
     rfl
    refine pure_ (i := 4) (N := some 29) (v := ?_) (a' := ?_) #[true, true, true, true, true, false, false, false, false, false, false, false, false, false] rfl rfl (by kernel_rfl) (fun _ _ _ h => h) (Or.inl ⟨by rfl, ?_⟩) ?_ ?_
    rotate_left
    ·intro w'
     go_simp
     with_reducible rfl
    rotate_left
    ·simp only [Act.put, List.setIfInBounds_toArray, List.set_cons_zero, List.set_cons_succ, i64_w, i32_w]
     rfl
    refine pure_ (i := 5) (N := some 30) (v := ?_) (a' := ?_) #[true, true, true, true, true, true, false, false, false, false, false, false, false, false] rfl rfl (by kernel_rfl) (fun _ _ _ h => h) (Or.inl ⟨by rfl, ?_⟩) ?_ ?_
    rotate_left
    ·intro w'
     go_simp
     with_reducible rfl
    rotate_left
    ·simp only [Act.put, List.setIfInBounds_toArray, List.set_cons_zero, List.set_cons_succ, i64_w, i32_w]
     rfl
    refine take_ (i := 6) (N := some 31) (v := ?_) (a' := ?_) #[true, true, true, true, true, true, true, false, false, false, false, false, false, false] rfl rfl (by kernel_rfl) (fun _ _ _ h => h) (Or.inl ⟨by rfl, ?_⟩) hHeld ?_ ?_
    rotate_left
    ·rintro w' ⟨s0, s1⟩
     go_simp
     with_reducible rfl
    rotate_left
    ·simp only [Act.put, List.setIfInBounds_toArray, List.set_cons_zero, List.set_cons_succ, i64_w, i32_w]
     rfl
    refine pure_ (i := 7) (N := some 32) (v := ?_) (a' := ?_) #[true, true, true, true, true, true, true, true, false, false, false, false, false, false] rfl rfl (by kernel_rfl) (fun _ _ _ h => h) (Or.inl ⟨by rfl, ?_⟩) ?_ ?_
    rotate_left
    ·intro w'
     go_simp
     with_reducible rfl
    rotate_left
    ·simp only [Act.put, List.setIfInBounds_toArray, List.set_cons_zero, List.set_cons_succ, i64_w, i32_w]
     rfl
    refine pure_ (i := 8) (N := some 33) (v := ?_) (a' := ?_) #[true, true, true, true, true, true, true, true, true, false, false, false, false, false] rfl rfl (by kernel_rfl) (fun _ _ _ h => h) (Or.inl ⟨by rfl, ?_⟩) ?_ ?_
    rotate_left
    ·intro w'
     go_simp
     with_reducible rfl
    rotate_left
    ·simp only [Act.put, List.setIfInBounds_toArray, List.set_cons_zero, List.set_cons_succ, i64_w, i32_w]
     rfl
    refine one_ (i := 9) (N := some 34) #[true, true, true, true, true, true, true, true, true, true, false, false, false, false] rfl rfl (by kernel_rfl) (by decide) (fun K hK => ?_)
    refine goes_ Tryd.func61 (by kernel_rfl) rfl #[.pointer (some ⟨b, 0, none⟩), .int .i64 x] (by rfl) rfl rfl (by (try simp only [List.map_toArray, List.map_cons, List.map_nil]); rfl) ?_
    refine (HU wd hTd hgd).mono ?_
    rintro e w8 ⟨rfl, hb8⟩
    refine ⟨_, rfl, ?_⟩
    have hHeld8 : w8.cell? ⟨b, 1, none⟩ = some (.slice (some adn) G.needs.length cn) ∧ w8.cell? (adn.add x.toNat) = some (.int .u16 (s : Int)) := ⟨(hb8.cell (World.block_lt_of_cell? _ _ hHeld.1)).trans hHeld.1, (hb8.cell (World.block_lt_of_cell? _ _ hHeld.2)).trans hHeld.2⟩
    refine hK.out _ _ hHeld8 (fun _ => ?_)
    clear hK K
    refine norm_ (a' := ?_) ?_ ?_
    rotate_left
    ·show Act.put _ (some 34) _ = _
     simp only [Act.put, List.setIfInBounds_toArray, List.set_cons_zero, List.set_cons_succ, i64_w, i32_w]
     rfl
    refine pure_ (i := 10) (N := some 35) (v := ?_) (a' := ?_) #[true, true, true, true, true, true, true, true, true, true, true, false, false, false] rfl rfl (by kernel_rfl) (fun _ _ _ h => h) (Or.inl ⟨by rfl, ?_⟩) ?_ ?_
    rotate_left
    ·intro w'
     go_simp
     with_reducible rfl
    rotate_left
    ·simp only [Act.put, List.setIfInBounds_toArray, List.set_cons_zero, List.set_cons_succ, i64_w, i32_w]
     rfl
    try rw [hand]
    refine one_ (i := 11) (N := some 36) #[true, true, true, true, true, true, true, true, true, true, true, true, false, false] rfl rfl (by kernel_rfl) (by decide) (fun K hK => ?_)
    refine goes_ Tryd.func71 (by kernel_rfl) rfl #[.int .u16 (r2 : Int)] (by rfl) rfl rfl (by (try simp only [List.map_toArray, List.map_cons, List.map_nil]); rfl) ?_
    refine (list_calls r2 hr2 w8 (hTd.of hb8)).mono ?_
    rintro e w9 ⟨v9, rfl, ho9, hb9⟩
    refine ⟨_, rfl, ?_⟩
    have hHeld9 : w9.cell? ⟨b, 1, none⟩ = some (.slice (some adn) G.needs.length cn) ∧ w9.cell? (adn.add x.toNat) = some (.int .u16 (s : Int)) := ⟨(hb9.cell (World.block_lt_of_cell? _ _ hHeld8.1)).trans hHeld8.1, (hb9.cell (World.block_lt_of_cell? _ _ hHeld8.2)).trans hHeld8.2⟩
    obtain ⟨A9, c9, e9⟩ := Kd.R_slice ho9
    subst e9
    have BK9 := Aside0.mk ((hb9.block gb (Nat.lt_of_lt_of_le (cells_lt BKd.out) hb8.size)).trans ((hb8.block gb (cells_lt BKd.out)).trans BKd.out))
    have hc9 := blk_cell BK9.out 1
    have hf9 := blk_frozen BK9.out 1
    refine hK.out _ _ hHeld9 (fun _ => ?_)
    clear hK K
    refine norm_ (a' := ?_) ?_ ?_
    rotate_left
    ·show Act.put _ (some 36) _ = _
     simp only [Act.put, List.setIfInBounds_toArray, List.set_cons_zero, List.set_cons_succ, i64_w, i32_w]
     rfl
    refine pure_ (i := 12) (N := some 37) (v := ?_) (a' := ?_) #[true, true, true, true, true, true, true, true, true, true, true, true, true, false] rfl rfl (by kernel_rfl) (fun _ _ _ h => h) (Or.inl ⟨by rfl, ?_⟩) ?_ ?_
    rotate_left
    ·intro w'
     go_simp
     with_reducible rfl
    rotate_left
    ·simp only [Act.put, List.setIfInBounds_toArray, List.set_cons_zero, List.set_cons_succ, i64_w, i32_w]
     rfl
    refine last_ (i := 13) (N := none) #[true, true, true, true, true, true, true, true, true, true, true, true, true, true] rfl rfl (by kernel_rfl) (by decide) (fun K hK => ?_)
    refine skip_ (w1 := ?_) (by rfl) rfl ?_ ?_
    rotate_left
    ·go_simp
     rfl
    refine hK.out _ _ ?_
    clear hK K
    refine done_ (by kernel_rfl) ?_
    have hS8 := Kd.S_below HOd.out hb8
    have hgb8 : gb < w8.heap.size := Nat.lt_of_lt_of_le (cells_lt BKd.out) hb8.size
    have hS10 := Aside0.mk (show Kd.S k37 37 (w9.setCell ⟨gb, 1, none⟩ (.slice A9 (elems r2).length c9)) w1.heap.size (fun k => k ≠ gb ∧ k < w8.heap.size) u5 (withoutTo G l0 j) from Kd.S_far (p := ⟨gb, 1, none⟩) (Kd.S_old hS8 hb9) (fun k hk => hk.1) _)
    have hR10 := Aside0.mk (show Kd.R (Kd.int .i64) 3 (w9.setCell ⟨gb, 1, none⟩ (.slice A9 (elems r2).length c9)) w8.heap.size (fun k => w8.heap.size ≤ k) (.slice A9 (elems r2).length c9) (elems r2) from Kd.R_far (p := ⟨gb, 1, none⟩) (Kd.R_mono (Kd.R_bound ho9) (fun k hk => hk.2.1)) (fun k hk e => by dsimp only at e; omega) _)
    have HBe := below_step HBd.out hb8
    have HB10 := Aside0.mk ((below_step HBe hb9).setCell (p := ⟨gb, 1, none⟩) GE.out (.slice A9 (elems r2).length c9))
    have BK10 := Aside0.mk (blk_put BK9.out 1 (.slice A9 (elems r2).length c9) rfl)
    have HZ := Aside0.mk (show w1.heap.size ≤ w8.heap.size ∧ gb < w8.heap.size from ⟨HBe.size, hgb8⟩)
    clear hS8 hgb8 HBe hc9 hf9 BK9 ho9 hb9 hb8 BKd HOd HBd hTd hgd hHeld hHeld8 hHeld9 hand HU
    revert hS10 hR10 HB10 BK10
    generalize w9.setCell ⟨gb, 1, none⟩ (.slice A9 (elems r2).length c9) = wc
    intro hS10 hR10 HB10 BK10
    have z0 : wc.cell? ⟨gb, 0, none⟩ = some (.int .i64 tk.f0) := (blk_cell BK10.out 0).trans rfl
    have z1 : wc.cell? ⟨gb, 1, none⟩ = some (.slice A9 (elems r2).length c9) := (blk_cell BK10.out 1).trans rfl
    have z2 : wc.cell? ⟨gb, 2, none⟩ = some (.int .i64 tk.f2) := (blk_cell BK10.out 2).trans rfl
    have z3 : wc.cell? ⟨gb, 3, none⟩ = some (.int .i64 tk.f3) := (blk_cell BK10.out 3).trans rfl
    have f0 := blk_frozen BK10.out 0
    have f1 := blk_frozen BK10.out 1
    have f2 := blk_frozen BK10.out 2
    have f3 := blk_frozen BK10.out 3
    go_wp2_with ((with_reducible refine gate_builtin (b := .append) (xs := #[.tmp 38, .tmp 40]) rfl ?_); at_builtin; refine Kd.S_append k37 (w0 := w1) w1.heap.size rfl (.tmp 38) (.tmp 40) 26 37 (.agg #[(.int .i64 0), (.slice none 0 0), (.int .i64 0), (.int .i64 0)]) 48 rfl Tryd.underlying26 info37 rfl (by decide) (by omega) u5 (withoutTo G l0 j) (⟨tk.f0, elems r2, tk.f2, tk.f3⟩ : S37) [.int .i64 tk.f0, .slice A9 (elems r2).length c9, .int .i64 tk.f2, .int .i64 tk.f3] (fun k => k ≠ gb) (fun k => some k = (Value.slice A9 (elems r2).length c9).ownBlock) rfl rfl ?aP ?aH ?aF ?aO ?aB ?aS ?aL ?_; (case aP => exact k37_mkM _ _ _ (⟨tk.f0, elems r2, tk.f2, tk.f3⟩ : S37) (Kd.R_tight rfl (Kd.R_lower hR10.out HZ.out.1))); (case aH => exact fun k hk => ⟨fun e => by have h1 := hR10.out.1 k hk.symm; have h2 := HZ.out.2; omega, fun e => by have h1 := hR10.out.1 k hk.symm; have h2 := ((Kd.S_R hS10.out).1 k e.symm).2; omega⟩); (case aF => exact fun k hk e => by have h1 := cells_lt BK10.out; omega); (case aO => exact Kd.S_mono hS10.out (fun k hk => ⟨hk.1, fun e => by have h1 := hR10.out.1 k e.symm; have h2 := hk.2; omega⟩)); (case aB => exact HB10.out); (case aS => exact HB10.out.size); (case aL => have h1 := HN8.out; have h2 := HLT.out; rw [withoutTo_length]; omega); intro v11 w11 ho hb hg hat; have HOe := Aside0.mk ho; have HBe := Aside0.mk hb; clear ho hb hg hat)
    go_roundg (l0.length - (j + 1))
    case measure => have h1 := HJ.out.1; have h2 := HLT.out; omega
    case rel => exact ⟨j + 1, _, rfl, ⟨by have h2 := HLT.out; omega, by have h1 := HJ.out.2; have h2 := HN8.out; have h3 := HLT.out; unfold wrap64; omega⟩, ⟨by rw [withoutTo_succ, HP.out]; exact Kd.S_mono HOe.out (fun _ _ => trivial)⟩, ⟨HBe.out⟩⟩
   ·have hx := HJ.out.2
    have hd : decide (x < (l0.length : Int)) = false := decide_eq_false (by omega)
    have hj : j = l0.length := by have := HJ.out.1; omega
    have HO2 := Aside0.mk (show Kd.S k37 37 wr w1.heap.size (fun _ => True) u5 (withoutTo G l0 l0.length) by rw [← hj]; exact HO.out)
    clear hx hlt hj HO
    go_wp2
    go_ret
    exact ⟨_, rfl, Kd.S_lower HO2.out HB1.out.size, below_step HB1.out HB.out⟩
end Go.Proofs.YtekajandipdlhaaDoor.P
end
section
set_option linter.unusedVariables false
set_option linter.unusedSimpArgs false
namespace Go.Proofs.YtekajandipdlhaaDoor.Core
open Go Go.RowKit Go.Proofs.YtekajandipdlhaaDoorW.PrintWords Go.Proofs.YtekajandipdlhaaDoorW.PrintMore Go.Proofs.YtekajandipdlhaaDoor.P
theorem ufold_bit (G : GD) (i k : Nat) : ∀ (ks : List Nat) (o : Nat), (ks.foldl (ustep G i) o).testBit k = true ↔ o.testBit k = true ∨ ∃ m ∈ ks, (G.needs.getD i 0).testBit k = true ∧ (G.below.getD m 0).testBit k = true
 | [], o => by simp
 | x :: ks, o => by
  rw [List.foldl_cons, ufold_bit G i k ks, ustep, Nat.testBit_or, Nat.testBit_and, Bool.or_eq_true, Bool.and_eq_true]
  constructor
  ·rintro ((h | h) | ⟨m, hm, h⟩)
   ·exact .inl h
   ·exact .inr ⟨x, List.mem_cons_self, h⟩
   ·exact .inr ⟨m, List.mem_cons_of_mem _ hm, h⟩
  ·rintro (h | ⟨m, hm, h⟩)
   ·exact .inl (.inl h)
   ·rcases List.mem_cons.1 hm with rfl | hm
    ·exact .inl (.inr h)
    ·exact .inr ⟨m, hm, h⟩
theorem VG.useless_bit {g : List Tk} {G : GD} (v : VG g G) (i k : Nat) : (uselessD G i).testBit k = true ↔ (G.needs.getD i 0).testBit k = true ∧ ∃ m, (G.needs.getD i 0).testBit m = true ∧ (G.below.getD m 0).testBit k = true := by
 unfold uselessD
 rw [ufold_bit]
 constructor
 ·rintro (h | ⟨m, hm, h1, h2⟩)
  ·simp at h
  ·exact ⟨h1, m, (mem_elemsN.1 hm).2, h2⟩
 ·rintro ⟨h1, m, hm, h2⟩
  exact .inr ⟨m, mem_elemsN.2 ⟨by have := v.need_lt hm; have := v.n8; omega, hm⟩, h1, h2⟩
theorem withoutTo_get (G : GD) (g : List Tk) {n i : Nat} (h : i < n) : (withoutTo G g n).getD i z37 = wtask G g i := by
 unfold withoutTo
 rw [List.getD_eq_getElem?_getD, List.getElem?_map, List.getElem?_range h]
 rfl
theorem gok_of {g : List Tk} {G : GD} (v : VG g G) (hG : graphD g = some G) (i : Nat) : uselessD G i < 2 ^ g.length := by
 have := uselessD_lt (graphD_ok hG) i
 rwa [v.tasks] at this
end Go.Proofs.YtekajandipdlhaaDoor.Core
end
section
set_option linter.unusedVariables false
set_option linter.unusedSimpArgs false
namespace Go.Proofs.YtekajandipdlhaaDoor.Core
open Go Go.RowKit Go.Proofs.YtekajandipdlhaaDoorW.PrintWords Go.Proofs.YtekajandipdlhaaDoorW.PrintMore Go.Proofs.YtekajandipdlhaaDoor.P
theorem VG.below_all {g : List Tk} {G : GD} (v : VG g G) (hG : graphD g = some G) (i : Nat) : G.below.getD i 0 < 2 ^ g.length := by
 have ok := graphD_ok hG
 have h := getD_lt ok.bb i
 rwa [v.tasks] at h
theorem VG.below_lt {g : List Tk} {G : GD} (v : VG g G) (hG : graphD g = some G) {i j : Nat} (h : (G.below.getD i 0).testBit j = true) : j < g.length := by
 have h1 := v.below_all hG i
 have h2 := Nat.ge_two_pow_of_testBit h
 have h3 : 2 ^ j < 2 ^ g.length := Nat.lt_of_le_of_lt h2 h1
 exact (Nat.pow_lt_pow_iff_right (by omega)).1 h3
theorem VG.need_below {g : List Tk} {G : GD} (v : VG g G) (hG : graphD g = some G) {i j : Nat} (hi : i < g.length) (h : (G.needs.getD i 0).testBit j = true) : (G.below.getD i 0).testBit j = true :=
 (below_bits hG hi j).2 ⟨j, h, .inl rfl⟩
theorem VG.below_closed {g : List Tk} {G : GD} (v : VG g G) (hG : graphD g = some G) : ∀ i, i < g.length → ∀ j, (G.below.getD i 0).testBit j = true → ∀ l, (G.needs.getD j 0).testBit l = true → (G.below.getD i 0).testBit l = true := by
 refine v.ind (Q := fun i => ∀ j, (G.below.getD i 0).testBit j = true → ∀ l, (G.needs.getD j 0).testBit l = true → (G.below.getD i 0).testBit l = true) fun i hi ih j hj l hl => ?_
 obtain ⟨m, hm, h⟩ := (below_bits hG hi j).1 hj
 refine (below_bits hG hi l).2 ⟨m, hm, .inr ?_⟩
 rcases h with rfl | h
 ·exact v.need_below hG (v.need_lt hm) hl
 ·exact ih m hm j h l hl
theorem VG.below_trans {g : List Tk} {G : GD} (v : VG g G) (hG : graphD g = some G) {i j k : Nat} (hi : i < g.length) (h1 : (G.below.getD i 0).testBit j = true) (h2 : (G.below.getD j 0).testBit k = true) : (G.below.getD i 0).testBit k = true :=
 v.below_in hG (p := G.below.getD i 0) (fun a _ hab b hb => v.below_closed hG i hi a hab b hb) j (v.below_lt hG h1) h1 k h2
theorem VG.not_self {g : List Tk} {G : GD} (v : VG g G) (hG : graphD g = some G) {i : Nat} (hi : i < g.length) : (G.below.getD i 0).testBit i = false := by
 refine Bool.eq_false_iff.2 fun h => ?_
 obtain ⟨pre, suf, ho⟩ := List.append_of_mem (v.mem.2 hi)
 have hm := v.below_before hG i hi i h pre suf ho
 have hn := v.ord.nodup
 rw [ho, List.nodup_append] at hn
 exact hn.2.2 i hm i List.mem_cons_self rfl
/-- Fewer needs: less is below. -/
theorem below_mono {g g2 : List Tk} {G G2 : GD} (v : VG g G) (v2 : VG g2 G2) (hG : graphD g = some G) (hG2 : graphD g2 = some G2) (hl : g2.length = g.length) (hin : ∀ i, i < g.length → ∀ j, (G2.needs.getD i 0).testBit j = true → (G.needs.getD i 0).testBit j = true) :
  ∀ i, i < g2.length → ∀ k, (G2.below.getD i 0).testBit k = true → (G.below.getD i 0).testBit k = true := by
 refine v2.ind (Q := fun i => ∀ k, (G2.below.getD i 0).testBit k = true → (G.below.getD i 0).testBit k = true) fun i hi ih k hk => ?_
 obtain ⟨m, hm, h⟩ := (below_bits hG2 hi k).1 hk
 exact (below_bits hG (by omega) k).2 ⟨m, hin i (by omega) m hm, h.imp_right (ih m hm k)⟩
/-- The graph without useless needs. -/
theorem without_graph {g : List Tk} {G : GD} (hG : graphD g = some G) : (withoutD g).length = g.length ∧ ∃ G2, graphD (withoutD g) = some G2 ∧ ∀ i, i < g.length → ∀ j, (G2.needs.getD i 0).testBit j = true ↔ (G.needs.getD i 0).testBit j = true ∧ ¬ (uselessD G i).testBit j = true := by
 have v := vg_of hG
 have h8 := v.n8
 have h256 : 2 ^ g.length ≤ 256 := pow8 h8
 have hw : withoutD g = withoutTo G g g.length := by unfold withoutD; rw [hG]
 rw [hw]
 have hl := withoutTo_length G g g.length
 have hbit : ∀ i, ∀ j, (sub (G.needs.getD i 0) (uselessD G i)).testBit j = true ↔ (G.needs.getD i 0).testBit j = true ∧ ¬ (uselessD G i).testBit j = true := by
  intro i j
  have h1 := getD_lt v.nb i
  have h2 := gok_of v hG i
  rw [sub_testBit (by omega) (by omega), Bool.and_eq_true]
  simp
 have hmem : ∀ i, ∀ j : Nat, ((j : Int) ∈ (wtask G g i).f1 ↔ (sub (G.needs.getD i 0) (uselessD G i)).testBit j = true) := by
  intro i j
  show (j : Int) ∈ elems _ ↔ _
  rw [mem_elems]
  constructor
  ·rintro ⟨x, hx, _, h⟩
   have : j = x := by omega
   rw [this]; exact h
  ·intro h
   exact ⟨j, rfl, by have := v.need_lt ((hbit i j).1 h).1; omega, h⟩
 obtain ⟨G2, hG2, v2, hin⟩ := fewer_graph v hl (fun t ht => by
  obtain ⟨i, hi, rfl⟩ := List.mem_map.1 ht
  have hi' := List.mem_range.1 hi
  have hg : g.getD i z37 ∈ g := by
   rw [List.getD_eq_getElem?_getD, List.getElem?_eq_getElem hi']
   exact List.getElem_mem hi'
  have hok := (v.fine.1 _ hg).1
  refine ⟨hok, fun x hx => ?_, asc_elems _⟩
  have := elems_lt (n := g.length) (sub_lt (getD_lt v.nb i)) hx
  omega) (fun i hi j hj => by
  rw [withoutTo_get G g hi, hmem, hbit] at hj
  have := hj.1
  rwa [v.bits i hi, decide_eq_true_eq] at this)
 refine ⟨hl, G2, hG2, fun i hi j => ?_⟩
 rw [v2.bits i (by rw [hl]; exact hi), decide_eq_true_eq, withoutTo_get G g hi, hmem, hbit]
/-- Useless needs taken away: the same lies below. -/
theorem without_below {g : List Tk} {G G2 : GD} (hG : graphD g = some G) (hG2 : graphD (withoutD g) = some G2) : ∀ i, i < g.length → G2.below.getD i 0 = G.below.getD i 0 := by
 have v := vg_of hG
 obtain ⟨hl, G3, hG3, hb⟩ := without_graph hG
 rw [hG2] at hG3
 obtain rfl := Option.some.inj hG3
 have v2 := vg_of hG2
 have hmono := below_mono v v2 hG hG2 hl (fun i hi j hj => ((hb i hi j).1 hj).1)
 have key : ∀ i, i < g.length → ∀ k, (G.below.getD i 0).testBit k = true → (G2.below.getD i 0).testBit k = true := by
  refine v.ind (Q := fun i => ∀ k, (G.below.getD i 0).testBit k = true → (G2.below.getD i 0).testBit k = true) fun i hi ih k hk => ?_
  have hneed : ∀ m, m < g.length → (G.needs.getD i 0).testBit m = true → (G2.below.getD i 0).testBit m = true := by
   refine v.rind hG (Q := fun m => (G.needs.getD i 0).testBit m = true → (G2.below.getD i 0).testBit m = true) fun m hm ihm hnm => ?_
   by_cases hu : (uselessD G i).testBit m = true
   ·obtain ⟨_, x, hx, hbx⟩ := (v.useless_bit i m).1 hu
    have hxl := v.need_lt hx
    exact v2.below_trans hG2 (by omega) (ihm x hxl hbx hx) (ih x hx m hbx)
   ·exact v2.need_below hG2 (by omega) ((hb i hi m).2 ⟨hnm, hu⟩)
  obtain ⟨m, hm, h⟩ := (below_bits hG hi k).1 hk
  have hml := v.need_lt hm
  have h1 := hneed m hml hm
  rcases h with rfl | h
  ·exact h1
  ·exact v2.below_trans hG2 (by omega) h1 (ih m hm k h)
 intro i hi
 refine Nat.eq_of_testBit_eq fun k => Bool.eq_iff_iff.2 ⟨hmono i (by omega) k, key i hi k⟩
/-- Nothing else is useless. -/
theorem without_none {g : List Tk} {G G2 : GD} (hG : graphD g = some G) (hG2 : graphD (withoutD g) = some G2) : ∀ i, i < g.length → uselessD G2 i = 0 := by
 have v := vg_of hG
 obtain ⟨hl, G3, hG3, hb⟩ := without_graph hG
 rw [hG2] at hG3
 obtain rfl := Option.some.inj hG3
 have v2 := vg_of hG2
 intro i hi
 refine Nat.eq_of_testBit_eq fun k => ?_
 rw [Nat.zero_testBit]
 refine Bool.eq_false_iff.2 fun h => ?_
 obtain ⟨h1, m, hm, hk⟩ := (v2.useless_bit i k).1 h
 have h3 := (hb i hi k).1 h1
 have h4 := (hb i hi m).1 hm
 rw [without_below hG hG2 m (v.need_lt h4.1)] at hk
 exact h3.2 ((v.useless_bit i k).2 ⟨h3.1, m, h4.1, hk⟩)
end Go.Proofs.YtekajandipdlhaaDoor.Core
end
section
set_option linter.unusedVariables false
set_option linter.unusedSimpArgs false
namespace Go.Proofs.YtekajandipdlhaaDoor.Core
open Go Go.RowKit Go.Proofs.YtekajandipdlhaaDoorW.PrintWords Go.Proofs.YtekajandipdlhaaDoorW.PrintMore Go.Proofs.YtekajandipdlhaaDoor.P
theorem withoutD_fits (g : List Tk) : Fits (withoutD g) := by
 unfold withoutD
 cases hG : graphD g with
 | none => exact ⟨(by show ([] : List Tk).length < _; decide), fun t ht => by cases ht⟩
 | some G =>
  have h8 := (vg_of hG).n8
  refine ⟨by show (withoutTo G g g.length).length < _; rw [withoutTo_length]; unfold big; omega, fun t ht => ?_⟩
  obtain ⟨i, _, rfl⟩ := List.mem_map.1 ht
  show (elems _).length < _
  have := elems_length (sub (G.needs.getD i 0) (uselessD G i))
  unfold big
  omega
theorem withoutD_none {g : List Tk} (h : (withoutD g).length ≠ 0) : ∃ G, graphD g = some G := by
 cases hG : graphD g with
 | none => exact absurd (by unfold withoutD; rw [hG]; rfl) h
 | some G => exact ⟨G, rfl⟩
end Go.Proofs.YtekajandipdlhaaDoor.Core
end
section
set_option linter.unusedVariables false
set_option linter.unusedSimpArgs false
namespace Go.Proofs.YtekajandipdlhaaDoor.Core
open Go Go.RowKit Go.Proofs.YtekajandipdlhaaDoorW.PrintWords Go.Proofs.YtekajandipdlhaaDoorW.PrintMore Go.Proofs.YtekajandipdlhaaDoor.P
theorem VG.closed_iff {g : List Tk} {G : GD} (v : VG g G) {s : Nat} (hs : s < 2 ^ g.length) : closedD G.needs s = true ↔ ∀ i, s.testBit i = true → ∀ j, (G.needs.getD i 0).testBit j = true → s.testBit j = true := by
 unfold closedD
 rw [List.all_eq_true]
 constructor
 ·intro h i hi j hj
  have := of_decide_eq_true (h i ((v.list_bit hs i).1 hi))
  exact (v.sub_iff' hs).1 this j hj
 ·intro h i hi
  exact decide_eq_true ((v.sub_iff' hs).2 (h i ((v.list_bit hs i).2 hi)))
theorem VG.mem_rd {g : List Tk} {G : GD} (v : VG g G) {s x : Nat} : (G.ready s).testBit x = true ↔ x < g.length ∧ s.testBit x = false ∧ sub (G.needs.getD x 0) s = 0 := by
 rw [← v.mem_ready, mem_elemsN]
 refine ⟨fun h => ⟨?_, h⟩, fun h => h.2⟩
 have h1 := ready_lt G s
 rw [v.nl] at h1
 have h3 := (Nat.pow_lt_pow_iff_right (by omega : 1 < 2)).1 (Nat.lt_of_le_of_lt (Nat.ge_two_pow_of_testBit h) h1)
 have := v.n8
 omega
/-- A ready task can be done. -/
theorem VG.step {g : List Tk} {G : GD} (v : VG g G) {s x : Nat} (hs : s < 2 ^ g.length) (hc : closedD G.needs s = true) (hx : (G.ready s).testBit x = true) : s ||| 2 ^ x < 2 ^ g.length ∧ closedD G.needs (s ||| 2 ^ x) = true ∧ zb g.length (s ||| 2 ^ x) + 1 = zb g.length s := by
 obtain ⟨h1, h2, h3⟩ := v.mem_rd.1 hx
 have hlt : s ||| 2 ^ x < 2 ^ g.length := Nat.or_lt_two_pow hs (Nat.pow_lt_pow_right (by omega) h1)
 refine ⟨hlt, (v.closed_iff hlt).2 fun i hi j hj => ?_, ?_⟩
 ·rw [or_bit, Bool.or_eq_true] at hi ⊢
  rcases hi with hi | hi
  ·exact .inl ((v.closed_iff hs).1 hc i hi j hj)
  ·have e : x = i := by simpa using hi
   subst e
   exact .inl ((v.sub_iff' hs).1 h3 j hj)
 ·have := zb_step h2 h1; omega
end Go.Proofs.YtekajandipdlhaaDoor.Core
end
section
set_option linter.unusedVariables false
set_option linter.unusedSimpArgs false
namespace Go.Proofs.YtekajandipdlhaaDoor.Core
open Go Go.RowKit Go.Proofs.YtekajandipdlhaaDoorW.PrintWords Go.Proofs.YtekajandipdlhaaDoorW.PrintMore Go.Proofs.YtekajandipdlhaaDoor.P
theorem VG.in_list {g : List Tk} {G : GD} (v : VG g G) {t : Nat} (ht : t < 2 ^ g.length) (i : Nat) : ((i : Int) ∈ up (elemsN t)) ↔ t.testBit i = true := by
 rw [mem_up, v.list_bit ht]
theorem VG.in_dec {g : List Tk} {G : GD} (v : VG g G) {t : Nat} (ht : t < 2 ^ g.length) (i : Nat) : decide ((i : Int) ∈ up (elemsN t)) = t.testBit i := by
 rw [Bool.eq_iff_iff, decide_eq_true_eq, v.in_list ht]
end Go.Proofs.YtekajandipdlhaaDoor.Core
end
section
set_option linter.unusedVariables false
set_option linter.unusedSimpArgs false
namespace Go.Proofs.YtekajandipdlhaaDoor.Core
open Go Go.RowKit Go.Proofs.YtekajandipdlhaaDoorW.PrintWords Go.Proofs.YtekajandipdlhaaDoorW.PrintMore Go.Proofs.YtekajandipdlhaaDoor.P
def addN (S : List Nat) (j : Nat) : List Nat := if j ∈ S then S else S ++ [j]
theorem mem_addN {S : List Nat} {j x : Nat} : x ∈ addN S j ↔ x ∈ S ∨ x = j := by
 unfold addN
 split
 ·rename_i h
  constructor
  ·exact .inl
  ·rintro (h2 | rfl)
   ·exact h2
   ·exact h
 ·rw [List.mem_append, List.mem_singleton]
theorem addN_nodup {S : List Nat} (h : S.Nodup) (j : Nat) : (addN S j).Nodup := by
 unfold addN
 split
 ·exact h
 ·rename_i hj
  rw [List.nodup_append]
  refine ⟨h, by simp, fun a ha b hb => ?_⟩
  rw [List.mem_singleton.1 hb]
  exact fun e => hj (e ▸ ha)
theorem mem_addF : ∀ (ks : List Nat) (S : List Nat) (x : Nat), x ∈ ks.foldl addN S ↔ x ∈ S ∨ x ∈ ks
 | [], S, x => by simp
 | k :: ks, S, x => by
  rw [List.foldl_cons, mem_addF ks, mem_addN, List.mem_cons, or_assoc]
theorem addF_nodup : ∀ (ks : List Nat) (S : List Nat), S.Nodup → (ks.foldl addN S).Nodup
 | [], _, h => h
 | k :: ks, S, h => addF_nodup ks _ (addN_nodup h k)
theorem addF_pre : ∀ (ks : List Nat) (S : List Nat), ∃ T, ks.foldl addN S = S ++ T
 | [], S => ⟨[], by simp⟩
 | k :: ks, S => by
  obtain ⟨T, hT⟩ := addF_pre ks (addN S k)
  rw [List.foldl_cons, hT]
  unfold addN
  split
  ·exact ⟨T, rfl⟩
  ·exact ⟨[k] ++ T, by simp⟩
theorem up_addN (S : List Nat) (j : Nat) : up (addN S j) = if (j : Int) ∈ up S then up S else up S ++ [(j : Int)] := by
 unfold addN
 by_cases h : j ∈ S
 ·rw [if_pos h, if_pos (mem_up.2 h)]
 ·rw [if_neg h, if_neg (fun e => h (mem_up.1 e))]
  simp [up]
theorem ev_an1 {g : List Tk} {at_ x6 : Int} {R : List Int} {L : List Nat} (hL : L.length ≤ 1000) : ∀ (r pre S : List Nat), L = pre ++ r → S.length + r.length ≤ 2000 → Ev (fun k => spec_allNeeds.l0 k g at_ (up (r.foldl addN S)) (wrap64 (x6 + 1))) R →
  Ev (fun k => spec_allNeeds.l1 k g at_ (up S) x6 (up L) (pre.length : Int)) R
 | [], pre, S, hp, hS, h => by
  rw [List.append_nil] at hp
  refine Ev.succ (h.of fun k => ?_)
  rw [spec_allNeeds.l1, if_neg (by rw [up_length, hp]; omega)]
  rfl
 | j :: r, pre, S, hp, hS, h => by
  have hl : L.length = pre.length + (r.length + 1) := by rw [hp]; simp
  have hrd : rd (up L) (pre.length : Int) = (j : Int) := by rw [rd_up (i := pre.length) rfl, hp]; simp
  have hw : wrap64 ((pre.length : Int) + 1) = ((pre ++ [j]).length : Int) := by rw [w64s (by unfold big; omega)]; simp
  have hS2 : (addN S j).length ≤ S.length + 1 := by unfold addN; split <;> simp
  rw [List.length_cons] at hS
  have ih := ev_an1 (at_ := at_) (x6 := x6) (R := R) hL r (pre ++ [j]) (addN S j) (by rw [hp]; simp) (by omega) h
  rw [up_addN] at ih
  have hin := ev_isIn (L := up S) (by rw [up_length]; unfold big; omega) (j : Int)
  refine Ev.succ ?_
  simp only [spec_allNeeds.l1, hrd, hw]
  refine Ev.pos (by rw [up_length]; omega) (Ev.pos (by omega) (Ev.bind hin ?_))
  by_cases hj : (j : Int) ∈ up S
  ·rw [if_pos hj] at ih
   exact Ev.pos (decide_eq_true hj) ih
  ·rw [if_neg hj] at ih
   exact Ev.neg (by rw [decide_eq_true_eq]; exact hj) (Ev.pos (by rw [up_length]; omega) ih)
theorem ev_an2 {g : List Tk} (hn : g.length ≤ 8) {a : Nat} {S : List Nat} (hS : S.length ≤ 8) : ∀ (d i : Nat), i + d = g.length → Ev (fun k => spec_allNeeds.l2 k g (a : Int) (up S) (up ((List.range i).filter (fun x => decide (x ≠ a) && decide (x ∈ S)))) (i : Int)) (up ((List.range g.length).filter (fun x => decide (x ≠ a) && decide (x ∈ S))))
 | 0, i, hd => by
  have hi : i = g.length := by omega
  subst hi
  refine Ev.succ ((Ev.const _).of fun k => ?_)
  rw [spec_allNeeds.l2, if_neg (by omega)]
 | d + 1, i, hd => by
  have ih := ev_an2 hn (a := a) hS d (i + 1) (by omega)
  have hw : wrap64 ((i : Int) + 1) = ((i + 1 : Nat) : Int) := w64s (by unfold big; omega)
  have hf := List.length_filter_le (fun x => decide (x ≠ a) && decide (x ∈ S)) (List.range i)
  rw [List.length_range] at hf
  rw [List.range_succ, List.filter_append] at ih
  refine Ev.succ ?_
  simp only [spec_allNeeds.l2, hw]
  refine Ev.pos (by omega) ?_
  by_cases hia : i = a
  ·rw [List.filter_cons_of_neg (by simp [hia]), List.filter_nil, List.append_nil] at ih
   exact Ev.pos (by omega) ih
  ·have hin := ev_isIn (L := up S) (by rw [up_length]; unfold big; omega) (i : Int)
   refine Ev.neg (by omega) (Ev.bind hin ?_)
   by_cases hiS : i ∈ S
   ·rw [List.filter_cons_of_pos (by simp [hia, hiS]), List.filter_nil] at ih
    have e3 : up ((List.range i).filter (fun x => decide (x ≠ a) && decide (x ∈ S)) ++ [i]) = up ((List.range i).filter (fun x => decide (x ≠ a) && decide (x ∈ S))) ++ [(i : Int)] := by simp [up]
    rw [e3] at ih
    exact Ev.pos (decide_eq_true (mem_up.2 hiS)) (Ev.pos (by rw [up_length]; omega) ih)
   ·rw [List.filter_cons_of_neg (by simp [hiS]), List.filter_nil, List.append_nil] at ih
    exact Ev.neg (by rw [decide_eq_true_eq, mem_up]; exact hiS) ih
theorem ev_an0 {g : List Tk} {G : GD} (v : VG g G) (hG : graphD g = some G) {a : Nat} (ha : a < g.length) : ∀ (d : Nat) (P Q : List Nat), d + P.length = g.length → (P ++ Q).Nodup → (∀ x ∈ P ++ Q, x < g.length) → (∀ p ∈ P, ∀ j, (G.needs.getD p 0).testBit j = true → j ∈ P ++ Q) → a ∈ P ++ Q → (∀ x ∈ P ++ Q, x = a ∨ (G.below.getD a 0).testBit x = true) →
  Ev (fun k => spec_allNeeds.l0 k g (a : Int) (up (P ++ Q)) (P.length : Int)) (up (elemsN (G.below.getD a 0))) := by
 have h8 := v.n8
 have hlen : ∀ S : List Nat, S.Nodup → (∀ x ∈ S, x < g.length) → S.length ≤ g.length := fun S h1 h2 => by
  have := h1.length_le_of_subset (l₂ := List.range g.length) (fun x hx => List.mem_range.2 (h2 x hx))
  rwa [List.length_range] at this
 intro d
 induction d with
 | zero =>
  intro P Q hd hnd hlt hcl hat hb
  have h1 := hlen _ hnd hlt
  rw [List.length_append] at h1
  have hQ : Q = [] := List.length_eq_zero_iff.1 (by omega)
  subst hQ
  rw [List.append_nil] at *
  have hfin : (List.range g.length).filter (fun x => decide (x ≠ a) && decide (x ∈ P)) = elemsN (G.below.getD a 0) := by
   have hcP : ∀ i, i < g.length → ∀ k, (G.below.getD i 0).testBit k = true → i ∈ P → k ∈ P := by
    refine v.ind (Q := fun i => ∀ k, (G.below.getD i 0).testBit k = true → i ∈ P → k ∈ P) fun i hi ih k hk hp => ?_
    obtain ⟨m, hm, h⟩ := (below_bits hG hi k).1 hk
    have hmp := hcl i hp m hm
    rcases h with rfl | h
    ·exact hmp
    ·exact ih m hm k h hmp
   refine up_inj (asc_ext ?_ (asc_elems _) fun x => ?_)
   ·have := (asc_filter (fun x => decide (x ≠ a) && decide (x ∈ P)) g.length 0).1
    rwa [← List.range_eq_range'] at this
   ·by_cases hx : 0 ≤ x
    ·obtain ⟨n, rfl⟩ := Int.eq_ofNat_of_zero_le hx
     rw [show ((n : Int) ∈ up (elemsN (G.below.getD a 0))) ↔ n ∈ elemsN (G.below.getD a 0) from mem_up, show ((n : Int) ∈ up ((List.range g.length).filter (fun x => decide (x ≠ a) && decide (x ∈ P)))) ↔ n ∈ (List.range g.length).filter (fun x => decide (x ≠ a) && decide (x ∈ P)) from mem_up, List.mem_filter, List.mem_range, mem_elemsN, Bool.and_eq_true, decide_eq_true_eq, decide_eq_true_eq]
     constructor
     ·rintro ⟨h1, h2, h3⟩
      exact ⟨by omega, (hb n h3).resolve_left h2⟩
     ·rintro ⟨h1, h2⟩
      exact ⟨v.below_lt hG h2, fun e => (by rw [e, v.not_self hG ha] at h2; cases h2), hcP a ha n h2 hat⟩
    ·constructor
     ·intro h
      obtain ⟨n, _, e⟩ := List.mem_map.1 h
      have e' : ((n : Nat) : Int) = x := e
      omega
     ·intro h
      obtain ⟨n, _, e⟩ := List.mem_map.1 h
      have e' : ((n : Nat) : Int) = x := e
      omega
  have h2 := ev_an2 h8 (a := a) (S := P) (by omega) g.length 0 (by omega)
  rw [hfin] at h2
  refine Ev.succ ?_
  simp only [spec_allNeeds.l0]
  exact Ev.neg (by rw [up_length]; omega) h2
 | succ d ih =>
  intro P Q hd hnd hlt hcl hat hb
  cases Q with
  | nil =>
   have hcl' : ∀ i, i ∈ P → i < g.length := fun i hi => hlt i (List.mem_append_left _ hi)
   rw [List.append_nil] at *
   have h1 := hlen _ hnd hlt
   have hfin : (List.range g.length).filter (fun x => decide (x ≠ a) && decide (x ∈ P)) = elemsN (G.below.getD a 0) := by
    have hcP : ∀ i, i < g.length → ∀ k, (G.below.getD i 0).testBit k = true → i ∈ P → k ∈ P := by
     refine v.ind (Q := fun i => ∀ k, (G.below.getD i 0).testBit k = true → i ∈ P → k ∈ P) fun i hi ih k hk hp => ?_
     obtain ⟨m, hm, h⟩ := (below_bits hG hi k).1 hk
     have hmp := hcl i hp m hm
     rcases h with rfl | h
     ·exact hmp
     ·exact ih m hm k h hmp
    refine up_inj (asc_ext ?_ (asc_elems _) fun x => ?_)
    ·have := (asc_filter (fun x => decide (x ≠ a) && decide (x ∈ P)) g.length 0).1
     rwa [← List.range_eq_range'] at this
    ·by_cases hx : 0 ≤ x
     ·obtain ⟨n, rfl⟩ := Int.eq_ofNat_of_zero_le hx
      rw [show ((n : Int) ∈ up (elemsN (G.below.getD a 0))) ↔ n ∈ elemsN (G.below.getD a 0) from mem_up, show ((n : Int) ∈ up ((List.range g.length).filter (fun x => decide (x ≠ a) && decide (x ∈ P)))) ↔ n ∈ (List.range g.length).filter (fun x => decide (x ≠ a) && decide (x ∈ P)) from mem_up, List.mem_filter, List.mem_range, mem_elemsN, Bool.and_eq_true, decide_eq_true_eq, decide_eq_true_eq]
      constructor
      ·rintro ⟨h1, h2, h3⟩
       exact ⟨by omega, (hb n h3).resolve_left h2⟩
      ·rintro ⟨h1, h2⟩
       exact ⟨v.below_lt hG h2, fun e => (by rw [e, v.not_self hG ha] at h2; cases h2), hcP a ha n h2 hat⟩
     ·constructor
      ·intro h
       obtain ⟨n, _, e⟩ := List.mem_map.1 h
       have e' : ((n : Nat) : Int) = x := e
       omega
      ·intro h
       obtain ⟨n, _, e⟩ := List.mem_map.1 h
       have e' : ((n : Nat) : Int) = x := e
       omega
   have h2 := ev_an2 h8 (a := a) (S := P) (by omega) g.length 0 (by omega)
   rw [hfin] at h2
   refine Ev.succ ?_
   simp only [spec_allNeeds.l0]
   exact Ev.neg (by rw [up_length]; omega) h2
  | cons s Q =>
   have hs := hlt s (by simp)
   have hsl := hlen _ hnd hlt
   obtain ⟨T, hT⟩ := addF_pre (elemsN (G.needs.getD s 0)) (P ++ s :: Q)
   have hmem := mem_addF (elemsN (G.needs.getD s 0)) (P ++ s :: Q)
   have hnd2 := addF_nodup (elemsN (G.needs.getD s 0)) _ hnd
   have he := elemsN_length (G.needs.getD s 0)
   have hnm : ∀ x, x ∈ elemsN (G.needs.getD s 0) ↔ (G.needs.getD s 0).testBit x = true := fun x => by
    rw [mem_elemsN]
    exact ⟨fun h => h.2, fun h => ⟨by have := v.need_lt h; omega, h⟩⟩
   rw [hT] at hmem hnd2
   have eT : P ++ s :: Q ++ T = (P ++ [s]) ++ (Q ++ T) := by simp
   rw [eT] at hmem hnd2 hT
   have hih := ih (P ++ [s]) (Q ++ T) (by rw [List.length_append, List.length_singleton]; omega) hnd2 (fun x hx => by
    rcases (hmem x).1 hx with h | h
    ·exact hlt x h
    ·exact v.need_lt ((hnm x).1 h)) (fun p hp j hj => by
    rcases List.mem_append.1 hp with hp | hp
    ·exact (hmem j).2 (.inl (hcl p hp j hj))
    ·rw [List.mem_singleton.1 hp] at hj
     exact (hmem j).2 (.inr ((hnm j).2 hj))) ((hmem a).2 (.inl hat)) (fun x hx => by
    rcases (hmem x).1 hx with h | h
    ·exact hb x h
    ·have h3 := (hnm x).1 h
     rcases hb s (by simp) with h4 | h4
     ·rw [h4] at h3
      exact .inr (v.need_below hG ha h3)
     ·exact .inr (v.below_closed hG a ha s h4 x h3))
   have hrd : rd (up (P ++ s :: Q)) (P.length : Int) = (s : Int) := by rw [rd_up (i := P.length) rfl]; simp
   have hw : wrap64 ((P.length : Int) + 1) = ((P ++ [s]).length : Int) := by rw [w64s (by unfold big; omega)]; simp
   have h1 := ev_an1 (g := g) (at_ := (a : Int)) (x6 := (P.length : Int)) (R := up (elemsN (G.below.getD a 0))) (L := elemsN (G.needs.getD s 0)) (by omega) (elemsN (G.needs.getD s 0)) [] (P ++ s :: Q) rfl (by omega) (by rw [hw, hT]; exact hih)
   refine Ev.succ ?_
   simp only [spec_allNeeds.l0, hrd, rdT_nat, v.list hs]
   exact Ev.pos (by rw [up_length, List.length_append, List.length_cons]; omega) (Ev.pos (by omega) (Ev.pos (by omega) (Ev.pos (by omega) h1)))
theorem ev_specAllNeeds {g : List Tk} {G : GD} (v : VG g G) (hG : graphD g = some G) {a : Nat} (ha : a < g.length) : Ev (fun k => spec_allNeeds.f k g (a : Int)) (up (elemsN (G.below.getD a 0))) := by
 unfold spec_allNeeds.f
 exact ev_an0 v hG ha g.length [] [a] (by simp) (by simp) (fun x hx => by rw [List.nil_append, List.mem_singleton] at hx; omega) (by simp) (by simp) (fun x hx => by rw [List.nil_append, List.mem_singleton] at hx; exact .inl hx)
theorem ev_iu {g : List Tk} {G : GD} (v : VG g G) (hG : graphD g = some G) {i : Nat} (hi : i < g.length) {k0 : Nat} (hk : (G.needs.getD i 0).testBit k0 = true) : ∀ (r pre : List Nat), elemsN (G.needs.getD i 0) = pre ++ r → Ev (fun k => spec_isUseless.l0 k g (i : Int) (k0 : Int) (pre.length : Int)) (r.any fun m => (G.below.getD m 0).testBit k0)
 | [], pre, hp => by
  rw [List.append_nil] at hp
  refine Ev.succ ((Ev.const _).of fun k => ?_)
  rw [spec_isUseless.l0, if_pos (by omega), if_pos (by omega), rdT_nat, v.list hi, if_neg (by rw [up_length, hp]; omega)]
  rfl
 | m :: r, pre, hp => by
  have h8 := v.n8
  have hml : (G.needs.getD i 0).testBit m = true := (mem_elemsN.1 (show m ∈ elemsN (G.needs.getD i 0) by rw [hp]; simp)).2
  have hl : (elemsN (G.needs.getD i 0)).length = pre.length + (r.length + 1) := by rw [hp]; simp
  have he := elemsN_length (G.needs.getD i 0)
  have hrd : rd (up (elemsN (G.needs.getD i 0))) (pre.length : Int) = (m : Int) := by rw [rd_up (i := pre.length) rfl, hp]; simp
  have hw : wrap64 ((pre.length : Int) + 1) = ((pre ++ [m]).length : Int) := by rw [w64s (by unfold big; omega)]; simp
  have ih := ev_iu v hG hi hk r (pre ++ [m]) (by rw [hp]; simp)
  have hbl := elemsN_length (G.below.getD m 0)
  have hin := ev_isIn (L := up (elemsN (G.below.getD m 0))) (by rw [up_length]; unfold big; omega) (k0 : Int)
  rw [v.in_dec (v.below_all hG m)] at hin
  refine Ev.succ ?_
  simp only [spec_isUseless.l0, rdT_nat, v.list hi, hrd, hw]
  refine Ev.pos (by omega) (Ev.pos (by omega) (Ev.pos (by rw [up_length]; omega) (Ev.pos (by omega) (Ev.bind (ev_specAllNeeds v hG (v.need_lt hml)) (Ev.bind hin ?_)))))
  rw [List.any_cons]
  cases hb : (G.below.getD m 0).testBit k0 with
  | true => exact Ev.pos rfl (Ev.const _)
  | false => exact Ev.neg (by simp) ih
theorem ev_isUseless {g : List Tk} {G : GD} (v : VG g G) (hG : graphD g = some G) {i : Nat} (hi : i < g.length) {k0 : Nat} (hk : (G.needs.getD i 0).testBit k0 = true) : Ev (fun k => spec_isUseless.f k g (i : Int) (k0 : Int)) ((uselessD G i).testBit k0) := by
 unfold spec_isUseless.f
 refine (ev_iu v hG hi hk (elemsN (G.needs.getD i 0)) [] rfl).conv (Bool.eq_iff_iff.2 ?_)
 rw [List.any_eq_true, v.useless_bit]
 constructor
 ·rintro ⟨m, hm, h⟩
  exact ⟨hk, m, (mem_elemsN.1 hm).2, h⟩
 ·rintro ⟨_, m, hm, h⟩
  exact ⟨m, mem_elemsN.2 ⟨by have := v.need_lt hm; have := v.n8; omega, hm⟩, h⟩
end Go.Proofs.YtekajandipdlhaaDoor.Core
end
section
set_option linter.unusedVariables false
set_option linter.unusedSimpArgs false
namespace Go.Proofs.YtekajandipdlhaaDoor.Core
open Go Go.RowKit Go.Proofs.YtekajandipdlhaaDoorW.PrintWords Go.Proofs.YtekajandipdlhaaDoorW.PrintMore Go.Proofs.YtekajandipdlhaaDoor.P
theorem elems_filter2 {s t : Nat} (hs : s < 256) (ht : t < 256) : (elemsN s).filter (fun j => !t.testBit j) = elemsN (sub s t) := by
 unfold elemsN
 rw [List.filter_filter]
 refine List.filter_congr fun j _ => ?_
 rw [sub_testBit hs ht, Bool.and_comm]
theorem ev_wu1 {g : List Tk} {G : GD} (v : VG g G) (hG : graphD g = some G) {i : Nat} (hi : i < g.length) {R : List Tk} {out : List Tk} (ho : out.length ≤ 1000) {f0 f2 f3 : Int} : ∀ (r pre ns : List Nat), elemsN (G.needs.getD i 0) = pre ++ r → ns.length + r.length ≤ 1000 →
  Ev (fun k => spec_WithoutUseless.l0 k g (out ++ [⟨f0, up (ns ++ r.filter (fun j => !(uselessD G i).testBit j)), f2, f3⟩]) ((i + 1 : Nat) : Int)) R → Ev (fun k => spec_WithoutUseless.l1 k g out (i : Int) (up ns) (pre.length : Int) f0 (up (elemsN (G.needs.getD i 0))) f2 f3) R
 | [], pre, ns, hp, hn, h => by
  rw [List.append_nil] at hp
  have h8 := v.n8
  have hw : wrap64 ((i : Int) + 1) = ((i + 1 : Nat) : Int) := w64s (by unfold big; omega)
  rw [List.filter_nil, List.append_nil] at h
  refine Ev.succ ?_
  simp only [spec_WithoutUseless.l1, hw]
  exact Ev.neg (by rw [up_length, hp]; omega) (Ev.pos (by omega) h)
 | m :: r, pre, ns, hp, hn, h => by
  have h8 := v.n8
  have hml : (G.needs.getD i 0).testBit m = true := (mem_elemsN.1 (show m ∈ elemsN (G.needs.getD i 0) by rw [hp]; simp)).2
  have hl : (elemsN (G.needs.getD i 0)).length = pre.length + (r.length + 1) := by rw [hp]; simp
  have he := elemsN_length (G.needs.getD i 0)
  have hrd : rd (up (elemsN (G.needs.getD i 0))) (pre.length : Int) = (m : Int) := by rw [rd_up (i := pre.length) rfl, hp]; simp
  have hw : wrap64 ((pre.length : Int) + 1) = ((pre ++ [m]).length : Int) := by rw [w64s (by unfold big; omega)]; simp
  rw [List.length_cons] at hn
  refine Ev.succ ?_
  simp only [spec_WithoutUseless.l1, hrd, hw]
  refine Ev.pos (by rw [up_length]; omega) (Ev.pos (by omega) (Ev.bind (ev_isUseless v hG hi hml) ?_))
  cases hu : (uselessD G i).testBit m with
  | true =>
   rw [List.filter_cons_of_neg (p := fun j => !(uselessD G i).testBit j) (by simp [hu])] at h
   have ih := ev_wu1 v hG hi ho (f0 := f0) (f2 := f2) (f3 := f3) (R := R) r (pre ++ [m]) ns (by rw [hp]; simp) (by omega) h
   exact Ev.pos rfl ih
  | false =>
   rw [List.filter_cons_of_pos (p := fun j => !(uselessD G i).testBit j) (by simp [hu])] at h
   have ih := ev_wu1 v hG hi ho (f0 := f0) (f2 := f2) (f3 := f3) (R := R) r (pre ++ [m]) (ns ++ [m]) (by rw [hp]; simp) (by rw [List.length_append, List.length_singleton]; omega) (by rw [List.append_assoc]; exact h)
   have e3 : up (ns ++ [m]) = up ns ++ [(m : Int)] := by simp [up]
   rw [e3] at ih
   exact Ev.neg (by simp) (Ev.pos (by rw [up_length]; omega) ih)
theorem ev_wu0 {g : List Tk} {G : GD} (v : VG g G) (hG : graphD g = some G) : ∀ (d i : Nat), i + d = g.length → Ev (fun k => spec_WithoutUseless.l0 k g (withoutTo G g i) (i : Int)) (withoutTo G g g.length)
 | 0, i, hd => by
  have hi : i = g.length := by omega
  subst hi
  refine Ev.succ ((Ev.const _).of fun k => ?_)
  rw [spec_WithoutUseless.l0, if_neg (by omega)]
 | d + 1, i, hd => by
  have ih := ev_wu0 v hG d (i + 1) (by omega)
  have h8 := v.n8
  have h256 : 2 ^ g.length ≤ 256 := pow8 h8
  have hs := Nat.lt_of_lt_of_le (getD_lt v.nb i) h256
  have hu := Nat.lt_of_lt_of_le (gok_of v hG i) h256
  clear h256
  have he := elemsN_length (G.needs.getD i 0)
  have hwl := withoutTo_length G g i
  have h1 := ev_wu1 v hG (i := i) (by omega) (out := withoutTo G g i) (by omega) (f0 := (g.getD i z37).f0) (f2 := (g.getD i z37).f2) (f3 := (g.getD i z37).f3) (R := withoutTo G g g.length) (elemsN (G.needs.getD i 0)) [] [] rfl (by rw [List.length_nil]; omega) (by
   rw [elems_filter2 hs hu, List.nil_append]
   rw [withoutTo_succ] at ih
   exact ih)
  refine Ev.succ ?_
  simp only [spec_WithoutUseless.l0, rdT_nat, v.list (show i < g.length by omega)]
  exact Ev.pos (by omega) (Ev.pos (by omega) h1)
theorem ev_WithoutUseless {g : List Tk} (hg : Fits g) : Ev (fun k => spec_WithoutUseless.f k g) (withoutD g) := by
 unfold spec_WithoutUseless.f
 refine Ev.bind (ev_validGraph hg) ?_
 unfold withoutD
 cases hG : graphD g with
 | none => exact Ev.neg (by simp) (Ev.const _)
 | some G => exact Ev.pos rfl (ev_wu0 (vg_of hG) hG g.length 0 (by omega))
end Go.Proofs.YtekajandipdlhaaDoor.Core
end
section
set_option linter.unusedVariables false
set_option linter.unusedSimpArgs false
namespace Go.Proofs.YtekajandipdlhaaDoor.Core
open Go Go.RowKit Go.Shelf Go.Proofs.YtekajandipdlhaaDoorW.PrintWords Go.Proofs.YtekajandipdlhaaDoorW.PrintLast Go.Proofs.YtekajandipdlhaaDoorW.PrintMore Go.Proofs.YtekajandipdlhaaDoor.P
attribute [local go_sem] Oper.semAt_some wide_fn wide_depth
set_option maxHeartbeats 1000000 in
theorem allNeedsFn_calls (b : Nat) (G : GD) (w : World) (hg : IsG w b G) :
  Calls Tryd.prog 70 #[.pointer (some ⟨b, 0, none⟩)] w fun e w' => ∃ A c, e = .returned (.slice A G.below.length c) ∧ (Kd.int .u16).C w A G.below.length (up G.below) ∧ w' = w := by
 obtain ⟨A, c, hc, _, hC⟩ := hg.below
 go_enter Tryd.func70, Tryd.ntmps70
 go_wp2
 go_ret
 exact ⟨_, _, rfl, hC, rfl⟩
def allNeedsD (g : List Tk) (x : Int) : List Int := match graphD g with
 | none => []
 | some G => if 0 ≤ x ∧ x ≤ (g.length : Int) - 1 then elems (G.below.getD x.toNat 0) else []
set_option maxRecDepth 100000 in
set_option maxHeartbeats 2000000 in
theorem relatedAllNeeds_calls (A0 : Option Addr) (c0 : Nat) (l0 : List Tk) (x : Int) (w : World) (hr0 : Kd.C k37 w A0 l0.length l0) (hc0 : l0.length ≤ c0) (hT : Tab w) :
  Calls Tryd.prog 69 #[.slice A0 l0.length c0, .int .i64 x, .func (.func 70) #[] #[]] w fun e w' => ∃ v0_ : Value, e = .returned (v0_) ∧ Kd.R (Kd.int .i64) 3 w' w.heap.size (fun _ => True) v0_ (allNeedsD l0 x) ∧ Below w.heap.size w w' := by
 cases hg : graphD l0 with
 | none =>
  have hcd : allNeedsD l0 x = [] := by unfold allNeedsD; rw [hg]
  rw [hcd]
  have HG := Aside0.mk (graphOf_none A0 c0 l0 w hT hr0 hc0 hg)
  clear hr0 hT hg hcd
  go_enter Tryd.func69, Tryd.ntmps69
  go_wp2_with (go_at_call 60; refine HG.out.mono ?_; rintro e w' ⟨rfl, hB⟩)
  go_ret
  exact ⟨_, rfl, Kd.R_nil _ _ _ _ _, hB⟩
 | some G =>
  have hcd : allNeedsD l0 x = if 0 ≤ x ∧ x ≤ (l0.length : Int) - 1 then elems (G.below.getD x.toNat 0) else [] := by unfold allNeedsD; rw [hg]
  have HG := Aside0.mk (graphOf_some A0 c0 l0 G w hT hr0 hc0 hg)
  have ok := graphD_ok hg
  have hgt := graphD_tasks hg
  have h8 := ok.n8
  have hal := ok.bl
  have hbb := ok.bb
  rw [hgt] at h8 hal hbb
  have HT := Aside0.mk hT
  have hw2 : wrap64 ((l0.length : Int) - 1) = (l0.length : Int) - 1 := w64 (by omega) (by omega)
  have hw1 : IntKind.i64.wrap ((l0.length : Int) - 1) = (l0.length : Int) - 1 := by rw [i64_w, hw2]
  by_cases hx : 0 ≤ x ∧ x ≤ (l0.length : Int) - 1
  ·rw [hcd, if_pos hx]
   have HW := Aside0.mk (fun W => within_is x 0 ((l0.length : Int) - 1) true W (decide_eq_true hx))
   have hv : G.below.getD x.toNat 0 < 256 := Nat.lt_of_lt_of_le (getD_lt hbb _) (pow8 h8)
   have p0 : (0 ≤ x) = True := eq_true hx.1
   have q0 : (x < (G.below.length : Int)) = True := eq_true (by omega)
   have HFN := Aside0.mk (fun W b (hg : IsG W b G) => (allNeedsFn_calls b G W hg).mono (R' := fun e w' => ∃ (ad : Addr) (c : Nat), e = .returned (.slice (some ad) G.below.length c) ∧ w'.cell? (ad.add x.toNat) = some (.int .u16 ((G.below.getD x.toNat 0 : Nat) : Int)) ∧ w' = W) (fun e w' ⟨A, c, h1, h2, h3⟩ => by
    obtain ⟨ad, e0, h⟩ := Kd.at_int h2 x hx.1 (by omega)
    subst e0
    rw [rd_up (i := x.toNat) (by omega)] at h
    exact ⟨ad, c, h1, by rw [h3]; exact h, h3⟩))
   clear hr0 hT hg hcd hgt ok hal hbb h8 hx
   generalize G.below.getD x.toNat 0 = s at hv HFN ⊢
   go_enter Tryd.func69, Tryd.ntmps69
   go_wp2_with (first | (go_at_call 60; refine HG.out.mono ?_; rintro e w1 ⟨b, rfl, hB, hgr⟩) | (go_at_call 81; refine (HW.out _).mono ?_; rintro e w2 ⟨rfl, hB2⟩; replace hgr := hgr.move hB2; replace hB := below_step hB hB2) | (go_at_call 70; refine (HFN.out _ b hgr).mono ?_; rintro e w3 ⟨ad, c, rfl, hcell, rfl⟩) | (go_at_call 71; refine (list_calls s hv _ (HT.out.of hB)).mono ?_; rintro e w4 ⟨v, rfl, hR, hB4⟩))
   go_ret
   exact ⟨_, rfl, Kd.R_mono (Kd.R_lower hR hB.size) (fun _ _ => trivial), below_step hB hB4⟩
  ·rw [hcd, if_neg hx]
   have HW := Aside0.mk (fun W => within_is x 0 ((l0.length : Int) - 1) false W (decide_eq_false hx))
   clear hr0 hT hg hcd hgt ok hal hbb h8 hx
   go_enter Tryd.func69, Tryd.ntmps69
   go_wp2_with (first | (go_at_call 60; refine HG.out.mono ?_; rintro e w1 ⟨b, rfl, hB, hgr⟩) | (go_at_call 81; refine (HW.out _).mono ?_; rintro e w2 ⟨rfl, hB2⟩; replace hB := below_step hB hB2))
   go_ret
   exact ⟨_, rfl, Kd.R_nil _ _ _ _ _, hB⟩
end Go.Proofs.YtekajandipdlhaaDoor.Core
namespace Go.Proofs.YtekajandipdlhaaDoor.P
open Go Go.RowKit Go.Shelf Go.Proofs.YtekajandipdlhaaDoorW.PrintWords Go.Proofs.YtekajandipdlhaaDoorW.PrintMore Go.Proofs.YtekajandipdlhaaDoor.Core
attribute [local go_sem] Oper.semAt_some wide_fn wide_depth
def impl_AllNeeds.f (l0 : List S37) (a1 : Int) : Option (List Int) := some (allNeedsD l0 a1)
set_option maxHeartbeats 1000000 in
theorem impl_AllNeeds.calls (A0 : Option Addr) (c0 : Nat) (l0 : List S37) (a1 : Int) (r : List Int) (w : World) (hr0 : Kd.C k37 w A0 l0.length l0) (hc0 : l0.length ≤ c0) (hT : Tab w) (h : impl_AllNeeds.f l0 a1 = some r) :
  Calls Tryd.prog 27 #[.slice A0 l0.length c0, .int .i64 a1] w fun e w' => ∃ v0_ : Value, e = .returned (v0_) ∧ Kd.R (Kd.int .i64) 3 w' w.heap.size (fun _ => True) v0_ r ∧ Below w.heap.size w w' := by
 have hr : r = allNeedsD l0 a1 := (Option.some.inj h).symm
 subst hr
 clear h
 have HR := Aside0.mk (relatedAllNeeds_calls A0 c0 l0 a1 w hr0 hc0 hT)
 clear hr0 hT
 go_enter Tryd.func27, Tryd.ntmps27
 go_wp2_with (go_at_call 69; refine HR.out.mono ?_; rintro e w1 ⟨v, rfl, hR, hB⟩)
 go_ret
 exact ⟨_, rfl, hR, hB⟩
end Go.Proofs.YtekajandipdlhaaDoor.P
end
section
namespace Go.Proofs.YtekajandipdlhaaDoor.P
open Go.Proofs.YtekajandipdlhaaDoor.Core (Tab Tab.of)
open Go.RowKit Go.Proofs.YtekajandipdlhaaDoorW.PrintWords Go.Proofs.YtekajandipdlhaaDoorW.PrintLast Go.Proofs.YtekajandipdlhaaDoorW.PrintMore
attribute [local go_sem] max2_int min2_int max_two min_two max_three min_three max_four min_four   -- for this text's walks alone
set_option linter.unusedVariables false
set_option linter.unusedSimpArgs false
mutual
noncomputable def laws_FnWithoutUselessLeast.j0 : Nat → List (S37) → List (S37) → Bool → Option (Bool)
 | 0, _, _, _ => none
 | k + 1, x3, x4, x23 => if x23 = true then ((spec_WithoutUseless.f k x3).bind fun t426 => ((laws_equalTasks.f k x4 t426).bind fun t429 => (some t429))) else (laws_FnWithoutUselessLeast.l0 k x4 0)
noncomputable def laws_FnWithoutUselessLeast.l0 : Nat → List (S37) → Int → Option (Bool)
 | 0, _, _ => none
 | k + 1, x4, x5 => if x5 < (x4.length : Int) then (if 0 ≤ x5 then (if (((rd_T37 x4 x5).f1).length : Int) = 0 then (laws_FnWithoutUselessLeast.l0 k x4 (wrap64 (x5 + 1))) else ((some (([] : List (S37)) : List (S37))).bind fun y431 => (if y431.length + x4.length < 2932031007402 then ((some (y431 ++ x4 : List (S37))).bind fun y434 => (if 1 ≤ (((rd_T37 x4 x5).f1).length : Int) then (if x5 < (y434.length : Int) then ((impl_AllNeeds.f (y434.set (x5 : Int).toNat (⟨(rd_T37 y434 x5).f0, (((rd_T37 x4 x5).f1).drop 1), (rd_T37 y434 x5).f2, (rd_T37 y434 x5).f3⟩ : S37)) x5).bind fun t444 => (if 0 < (((rd_T37 x4 x5).f1).length : Int) then ((laws_isIn.f k t444 (rd ((rd_T37 x4 x5).f1) 0)).bind fun t449 => (if t449 = true then (some false) else (laws_FnWithoutUselessLeast.l0 k x4 (wrap64 (x5 + 1))))) else (none))) else (none)) else (none))) else (none)))) else (none)) else (some true)
end
noncomputable def laws_FnWithoutUselessLeast.f (k : Nat) (l0 : List Int) : Option (Bool) := if (l0.length : Int) > 1048576 then (some true) else ((spec_DrawWithoutUseless.f l0).bind fun t416 => ((impl_WithoutUseless.f t416).bind fun t419 => ((spec_WithoutUseless.f k t416).bind fun t422 => ((laws_equalTasks.f k t419 t422).bind fun t425 => (if t425 = true then (laws_FnWithoutUselessLeast.j0 k t416 t419 ((t419.length : Int) == 0)) else (laws_FnWithoutUselessLeast.j0 k t416 t419 true))))))
theorem laws_FnWithoutUselessLeast.mono_l : ∀ k, (∀ y0 y1 y2, LeO (laws_FnWithoutUselessLeast.j0 k y0 y1 y2) (laws_FnWithoutUselessLeast.j0 (k + 1) y0 y1 y2)) ∧ (∀ y0 y1, LeO (laws_FnWithoutUselessLeast.l0 k y0 y1) (laws_FnWithoutUselessLeast.l0 (k + 1) y0 y1))
 | 0 => ⟨fun _ _ _ r h => by simp [laws_FnWithoutUselessLeast.j0] at h, fun _ _ r h => by simp [laws_FnWithoutUselessLeast.l0] at h⟩
 | k + 1 => by
  obtain ⟨ih0, ih1⟩ := laws_FnWithoutUselessLeast.mono_l k
  refine ⟨?_, ?_⟩
  ·intro y0 y1 y2
   unfold laws_FnWithoutUselessLeast.j0
   repeat' first
   | (with_reducible exact ih0 _ _ _)
   | (with_reducible exact ih1 _ _)
   | (with_reducible exact laws_equalTasks.mono _ _ _)
   | (with_reducible exact laws_isIn.mono _ _ _)
   | (with_reducible exact spec_WithoutUseless.mono _ _)
   | (with_reducible exact LeO.refl _)
   | (with_reducible exact LeO.none _)
   | (with_reducible refine LeO.ite ?_ ?_)
   | (with_reducible refine LeO.bind ?_ (fun _ => ?_))
   | exact ih0 _ _ _
   | exact ih1 _ _
   | exact laws_equalTasks.mono _ _ _
   | exact laws_isIn.mono _ _ _
   | exact spec_WithoutUseless.mono _ _
   | exact LeO.none _
   | refine LeO.ite ?_ ?_
   | refine LeO.bind ?_ (fun _ => ?_)
  ·intro y0 y1
   unfold laws_FnWithoutUselessLeast.l0
   repeat' first
   | (with_reducible exact ih0 _ _ _)
   | (with_reducible exact ih1 _ _)
   | (with_reducible exact laws_equalTasks.mono _ _ _)
   | (with_reducible exact laws_isIn.mono _ _ _)
   | (with_reducible exact spec_WithoutUseless.mono _ _)
   | (with_reducible exact LeO.refl _)
   | (with_reducible exact LeO.none _)
   | (with_reducible refine LeO.ite ?_ ?_)
   | (with_reducible refine LeO.bind ?_ (fun _ => ?_))
   | exact ih0 _ _ _
   | exact ih1 _ _
   | exact laws_equalTasks.mono _ _ _
   | exact laws_isIn.mono _ _ _
   | exact spec_WithoutUseless.mono _ _
   | exact LeO.none _
   | refine LeO.ite ?_ ?_
   | refine LeO.bind ?_ (fun _ => ?_)
theorem laws_FnWithoutUselessLeast.mono : ∀ a0 k, LeO (laws_FnWithoutUselessLeast.f k a0) (laws_FnWithoutUselessLeast.f (k + 1) a0) := by
 intro a0 k
 obtain ⟨ih0, ih1⟩ := laws_FnWithoutUselessLeast.mono_l k
 unfold laws_FnWithoutUselessLeast.f
 repeat' first
   | (with_reducible exact ih0 _ _ _)
   | (with_reducible exact ih1 _ _)
   | (with_reducible exact laws_equalTasks.mono _ _ _)
   | (with_reducible exact laws_isIn.mono _ _ _)
   | (with_reducible exact spec_WithoutUseless.mono _ _)
   | (with_reducible exact LeO.refl _)
   | (with_reducible exact LeO.none _)
   | (with_reducible refine LeO.ite ?_ ?_)
   | (with_reducible refine LeO.bind ?_ (fun _ => ?_))
   | exact ih0 _ _ _
   | exact ih1 _ _
   | exact laws_equalTasks.mono _ _ _
   | exact laws_isIn.mono _ _ _
   | exact spec_WithoutUseless.mono _ _
   | exact LeO.none _
   | refine LeO.ite ?_ ?_
   | refine LeO.bind ?_ (fun _ => ?_)
noncomputable def laws_FnWithoutUselessLeast.T13 : Bool × List (List Nat × List Nat) := (true, [([], []), ([], []), ([0, 1], [0, 1]), ([], []), ([], []), ([3, 4], [3, 4]), ([5], [5]), ([6], [6]), ([7], [7]), ([8], [8]), ([2, 9, 2], [2, 9])])
noncomputable def laws_FnWithoutUselessLeast.B13 : List Nat := [0, 0, 3, 0, 0, 24, 56, 120, 248, 504, 1023]
theorem laws_FnWithoutUselessLeast.tab13 : rtab .any (opsOf Tryd.f5 13) = laws_FnWithoutUselessLeast.T13 := by kernel_rfl
theorem laws_FnWithoutUselessLeast.bits13 : waitsOk laws_FnWithoutUselessLeast.T13.2 laws_FnWithoutUselessLeast.B13 = true := by kernel_rfl
set_option maxHeartbeats 8000000 in
set_option maxRecDepth 100000 in
theorem laws_FnWithoutUselessLeast.calls (k : Nat) (A0 : Option Addr) (c0 : Nat) (l0 : List Int) (r : Bool) (w : World) (hr0 : Kd.C (Kd.int .u8) w A0 l0.length l0) (hc0 : l0.length ≤ c0) (hT : Tab w) (h : laws_FnWithoutUselessLeast.f k l0 = some r) :
  Calls Tryd.prog 5 #[.slice A0 l0.length c0] w fun e w' => e = .returned (.bool r) ∧ Below w.heap.size w w' := by
 have HT := Aside0.mk hT
 clear hT
 have HR0 := Aside0.mk hr0
 have HC0 := Aside0.mk hc0
 clear hr0 hc0
 have HB := Aside0.mk (Below.refl w.heap.size w)
 have H : (if (l0.length : Int) > 1048576 then (some true) else ((spec_DrawWithoutUseless.f l0).bind fun t416 => ((impl_WithoutUseless.f t416).bind fun t419 => ((spec_WithoutUseless.f k t416).bind fun t422 => ((laws_equalTasks.f k t419 t422).bind fun t425 => (if t425 = true then (laws_FnWithoutUselessLeast.j0 k t416 t419 ((t419.length : Int) == 0)) else (laws_FnWithoutUselessLeast.j0 k t416 t419 true))))))) = some r := h
 clear h
 by_cases c2 : (l0.length : Int) > 1048576
 ·rw [if_pos c2] at H
  have c2b0 : decide (1048576 < (l0.length : Int)) = true := decide_eq_true c2
  have c2b1 : decide (1048576 < l0.length) = true := decide_eq_true (by omega)
  clear c2
  obtain rfl := Option.some.inj H
  go_enter Tryd.func5, Tryd.ntmps5
  go_wp2
  go_ret
  exact ⟨by first | rfl | (simp [errW_none, errW_some] <;> rfl) | (simp [*, errW_none, errW_some] <;> rfl), by repeat (first | (with_reducible first | exact HB.out | apply below_alloc | apply pw_below_drewN | apply below_drew1) | exact HB.out)⟩
 ·rw [if_neg c2] at H
  have c2b0 : decide (1048576 < (l0.length : Int)) = false := decide_eq_false c2
  have c2b1 : decide (1048576 < l0.length) = false := decide_eq_false (by omega)
  clear c2
  replace H := Option.bind_eq_some_iff.mp H
  obtain ⟨t416, A30, H⟩ := H
  replace H : ((impl_WithoutUseless.f t416).bind fun t419 => ((spec_WithoutUseless.f k t416).bind fun t422 => ((laws_equalTasks.f k t419 t422).bind fun t425 => (if t425 = true then (laws_FnWithoutUselessLeast.j0 k t416 t419 ((t419.length : Int) == 0)) else (laws_FnWithoutUselessLeast.j0 k t416 t419 true))))) = some r := H
  have A3 := Aside0.mk A30
  clear A30
  replace H := Option.bind_eq_some_iff.mp H
  obtain ⟨t419, A40, H⟩ := H
  replace H : ((spec_WithoutUseless.f k t416).bind fun t422 => ((laws_equalTasks.f k t419 t422).bind fun t425 => (if t425 = true then (laws_FnWithoutUselessLeast.j0 k t416 t419 ((t419.length : Int) == 0)) else (laws_FnWithoutUselessLeast.j0 k t416 t419 true)))) = some r := H
  have A4 := Aside0.mk A40
  clear A40
  have HC5 := Aside0.mk H
  clear H
  go_enter Tryd.func5, Tryd.ntmps5
  go_upto_region 5 with (first | ((with_reducible refine gate_callee (f := 28) rfl ?_); refine goesL_ (some 11) rfl rfl Tryd.func28 (by kernel_rfl) rfl #[.slice A0 l0.length c0] rfl (by (try simp only [List.map_toArray, List.map_cons, List.map_nil]); first | done | rfl | (simp only [List.length_drop, List.length_take]; rfl)) ?_; (with_reducible refine (spec_DrawWithoutUseless.calls _ _ l0 t416 _ ?side1 ?side2 A3.out).mono ?_); (case side1 => repeat (first | exact HR0.out | (with_reducible refine Kd.C_alloc ?_ _) | (with_reducible refine Kd.C_drewN ?_ _) | (with_reducible refine Kd.C_drew ?_))); (case side2 => exact HC0.out); rintro e w6 ⟨v417, rfl, ho0, hb⟩; refine ⟨_, rfl, ?_⟩; have n0_ := Aside0.mk (Kd.N_lower (Kd.N_mono (ok' := fun k_ => True) (Kd.S_N (Kd.S_bound ho0)) (fun k_ hk_ => trivial)) (below_size (by repeat (first | (with_reducible first | exact HB.out | apply below_alloc | apply pw_below_drewN | apply below_drew1) | exact HB.out)))); have n1_ := Aside0.mk (below_step (by repeat (first | (with_reducible first | exact HB.out | apply below_alloc | apply pw_below_drewN | apply below_drew1) | exact HB.out)) hb); clear HB; have HO418 := n0_; have HB := n1_; clear n0_ n1_; (try clear hb); (try clear hb2); (try clear hk); (try clear hi); (try clear ho0); obtain ⟨Ao7, co7, eo7⟩ := Kd.N_slice HO418.out; subst eo7) | ((with_reducible refine gate_callee (f := 29) rfl ?_); refine goesL_ (some 13) rfl rfl Tryd.func29 (by kernel_rfl) rfl #[.slice Ao7 t416.length co7] rfl (by (try simp only [List.map_toArray, List.map_cons, List.map_nil]); first | done | rfl | (simp only [List.length_drop, List.length_take]; rfl)) ?_; (with_reducible refine (impl_WithoutUseless.calls _ _ t416 t419 _ ?side1 ?side2 ?side3 A4.out).mono ?_); (case side1 => repeat (first | exact (Kd.N_reads' HO418.out).2.2 | (with_reducible refine Kd.C_alloc ?_ _) | (with_reducible refine Kd.C_drewN ?_ _) | (with_reducible refine Kd.C_drew ?_))); (case side2 => exact (Kd.N_reads' HO418.out).2.1); (case side3 => exact Tab.of HT.out (by repeat (first | (with_reducible first | exact HB.out | apply below_alloc | apply pw_below_drewN | apply below_drew1) | exact HB.out))); rintro e w8 ⟨v420, rfl, ho0, hb⟩; refine ⟨_, rfl, ?_⟩; have n0_ := Aside0.mk (Kd.N_elder' (by (with_reducible repeat (first | apply Kd.N_alloc | apply Kd.N_drewN | apply Kd.N_drew)); exact HO418.out) (by first | exact Kd.N_base ho0 | exact Kd.S_base ho0) hb); have n1_ := Aside0.mk (Kd.N_lower (Kd.N_mono (ok' := fun k_ => some k_ ≠ (.slice Ao7 t416.length co7 : Value).ownBlock) (Kd.S_N (Kd.S_bound ho0)) (fun k_ hk_ => (Kd.fresh' (Kd.N_lt (by (with_reducible repeat (first | apply Kd.N_alloc | apply Kd.N_drewN | apply Kd.N_drew)); exact HO418.out)) k_ hk_.2.1))) (below_size (by repeat (first | (with_reducible first | exact HB.out | apply below_alloc | apply pw_below_drewN | apply below_drew1) | exact HB.out)))); have n2_ := Aside0.mk (below_step (by repeat (first | (with_reducible first | exact HB.out | apply below_alloc | apply pw_below_drewN | apply below_drew1) | exact HB.out)) hb); clear HO418; clear HB; have HO418 := n0_; have HO421 := n1_; have HB := n2_; clear n0_ n1_ n2_; (try clear hb); (try clear hb2); (try clear hk); (try clear hi); (try clear ho0)))
  (try simp only [Act.put, List.setIfInBounds_toArray, List.set_cons_zero, List.set_cons_succ])
  go_cut [23] (fun v23 wc => ∃ (kq : Nat) (x23_4 : Bool), v23 = .bool x23_4 ∧ Aside0 (laws_FnWithoutUselessLeast.j0 kq t416 t419 x23_4 = some r) ∧ Aside0 (kq ≤ k) ∧ Aside0 (Kd.N k37 37 wc w.heap.size (fun k_ => some k_ ≠ (v420 : Value).ownBlock) (.slice Ao7 t416.length co7) t416) ∧ Aside0 (Kd.N k37 37 wc w.heap.size (fun k_ => some k_ ≠ ((.slice Ao7 t416.length co7) : Value).ownBlock) v420 t419) ∧ Aside0 (Below w.heap.size w wc))
  case first =>
   have H := HC5.out
   clear HC5
   replace H := Option.bind_eq_some_iff.mp H
   obtain ⟨t422, A90, H⟩ := H
   replace H : ((laws_equalTasks.f k t419 t422).bind fun t425 => (if t425 = true then (laws_FnWithoutUselessLeast.j0 k t416 t419 ((t419.length : Int) == 0)) else (laws_FnWithoutUselessLeast.j0 k t416 t419 true))) = some r := H
   have A9 := Aside0.mk A90
   clear A90
   replace H := Option.bind_eq_some_iff.mp H
   obtain ⟨t425, A100, H⟩ := H
   replace H : (if t425 = true then (laws_FnWithoutUselessLeast.j0 k t416 t419 ((t419.length : Int) == 0)) else (laws_FnWithoutUselessLeast.j0 k t416 t419 true)) = some r := H
   have A10 := Aside0.mk A100
   clear A100
   by_cases c11 : t425 = true
   ·subst c11
    have H1 : (laws_FnWithoutUselessLeast.j0 k t416 t419 ((t419.length : Int) == 0)) = some r := by rw [if_pos rfl] at H; exact H
    clear H
    have H := H1
    clear H1
    have H' := Aside0.mk H
    clear H
    go_wp2_with (first | ((with_reducible refine gate_callee (f := 31) rfl ?_); refine goesL_ (some 16) rfl rfl Tryd.func31 (by kernel_rfl) rfl #[.slice Ao7 t416.length co7] rfl (by (try simp only [List.map_toArray, List.map_cons, List.map_nil]); first | done | rfl | (simp only [List.length_drop, List.length_take]; rfl)) ?_; (with_reducible refine (spec_WithoutUseless.calls k _ _ t416 t422 _ ?side1 ?side2 A9.out).mono ?_); (case side1 => repeat (first | exact (Kd.N_reads' HO418.out).2.2 | (with_reducible refine Kd.C_alloc ?_ _) | (with_reducible refine Kd.C_drewN ?_ _) | (with_reducible refine Kd.C_drew ?_))); (case side2 => exact (Kd.N_reads' HO418.out).2.1); rintro e w12 ⟨v423, rfl, ho0, hb⟩; refine ⟨_, rfl, ?_⟩; have n0_ := Aside0.mk (Kd.N_elder' (by (with_reducible repeat (first | apply Kd.N_alloc | apply Kd.N_drewN | apply Kd.N_drew)); exact HO418.out) (by first | exact Kd.N_base ho0 | exact Kd.S_base ho0) hb); have n1_ := Aside0.mk (Kd.N_elder' (by (with_reducible repeat (first | apply Kd.N_alloc | apply Kd.N_drewN | apply Kd.N_drew)); exact HO421.out) (by first | exact Kd.N_base ho0 | exact Kd.S_base ho0) hb); have n2_ := Aside0.mk (Kd.N_lower (Kd.N_mono (ok' := fun k_ => some k_ ≠ (.slice Ao7 t416.length co7 : Value).ownBlock ∧ some k_ ≠ (v420 : Value).ownBlock) (Kd.S_N (Kd.S_bound ho0)) (fun k_ hk_ => ⟨(Kd.fresh' (Kd.N_lt (by (with_reducible repeat (first | apply Kd.N_alloc | apply Kd.N_drewN | apply Kd.N_drew)); exact HO418.out)) k_ hk_.2.1), (Kd.fresh' (Kd.N_lt (by (with_reducible repeat (first | apply Kd.N_alloc | apply Kd.N_drewN | apply Kd.N_drew)); exact HO421.out)) k_ hk_.2.1)⟩)) (below_size (by repeat (first | (with_reducible first | exact HB.out | apply below_alloc | apply pw_below_drewN | apply below_drew1) | exact HB.out)))); have n3_ := Aside0.mk (below_step (by repeat (first | (with_reducible first | exact HB.out | apply below_alloc | apply pw_below_drewN | apply below_drew1) | exact HB.out)) hb); clear HO418; clear HO421; clear HB; have HO418 := n0_; have HO421 := n1_; have HO424 := n2_; have HB := n3_; clear n0_ n1_ n2_ n3_; (try clear hb); (try clear hb2); (try clear hk); (try clear hi); (try clear ho0); obtain ⟨Ao13, co13, eo13⟩ := Kd.N_slice HO421.out; subst eo13; obtain ⟨Ao14, co14, eo14⟩ := Kd.N_slice HO424.out; subst eo14) | ((with_reducible refine gate_callee (f := 30) rfl ?_); refine goesL_ (some 17) rfl rfl Tryd.func30 (by kernel_rfl) rfl #[.slice Ao13 t419.length co13, .slice Ao14 t422.length co14] rfl (by (try simp only [List.map_toArray, List.map_cons, List.map_nil]); first | done | rfl | (simp only [List.length_drop, List.length_take]; rfl)) ?_; (with_reducible refine (laws_equalTasks.calls k _ _ t419 _ _ t422 true _ ?side1 ?side2 ?side3 ?side4 A10.out).mono ?_); (case side1 => repeat (first | exact (Kd.N_reads' HO421.out).2.2 | (with_reducible refine Kd.C_alloc ?_ _) | (with_reducible refine Kd.C_drewN ?_ _) | (with_reducible refine Kd.C_drew ?_))); (case side2 => exact (Kd.N_reads' HO421.out).2.1); (case side3 => repeat (first | exact (Kd.N_reads' HO424.out).2.2 | (with_reducible refine Kd.C_alloc ?_ _) | (with_reducible refine Kd.C_drewN ?_ _) | (with_reducible refine Kd.C_drew ?_))); (case side4 => exact (Kd.N_reads' HO424.out).2.1); rintro e w15 ⟨rfl, hb⟩; refine ⟨_, rfl, ?_⟩; have n0_ := Aside0.mk (Kd.N_below (by (with_reducible repeat (first | apply Kd.N_alloc | apply Kd.N_drewN | apply Kd.N_drew)); exact HO418.out) hb); have n1_ := Aside0.mk (Kd.N_below (by (with_reducible repeat (first | apply Kd.N_alloc | apply Kd.N_drewN | apply Kd.N_drew)); exact HO421.out) hb); have n2_ := Aside0.mk (Kd.N_below (by (with_reducible repeat (first | apply Kd.N_alloc | apply Kd.N_drewN | apply Kd.N_drew)); exact HO424.out) hb); have n3_ := Aside0.mk (below_step (by repeat (first | (with_reducible first | exact HB.out | apply below_alloc | apply pw_below_drewN | apply below_drew1) | exact HB.out)) hb); clear HO418; clear HO421; clear HO424; clear HB; have HO418 := n0_; have HO421 := n1_; have HO424 := n2_; have HB := n3_; clear n0_ n1_ n2_ n3_; (try clear hb); (try clear hb2); (try clear hk); (try clear hi)))
    go_meet
    case rel => exact ⟨_, (((t419.length : Int) == 0)), (by first | rfl | (simp; done) | (simp [*]; done)), H', ⟨by first | omega | exact Nat.le_refl _⟩, ⟨by (with_reducible repeat (first | apply Kd.N_alloc | apply Kd.N_drewN | apply Kd.N_drew)); exact Kd.N_mono HO418.out (fun _ hk => hk.1.2)⟩, ⟨by (with_reducible repeat (first | apply Kd.N_alloc | apply Kd.N_drewN | apply Kd.N_drew)); exact Kd.N_mono HO421.out (fun _ hk => hk.1)⟩, ⟨by repeat (first | (with_reducible first | exact HB.out | apply below_alloc | apply pw_below_drewN | apply below_drew1) | exact HB.out)⟩⟩
   ·replace c11 := Bool.eq_false_iff.mpr c11
    subst c11
    have H1 : (laws_FnWithoutUselessLeast.j0 k t416 t419 true) = some r := by rw [if_neg (show ¬ (false = true) by decide)] at H; exact H
    clear H
    have H := H1
    clear H1
    have H' := Aside0.mk H
    clear H
    go_wp2_with (first | ((with_reducible refine gate_callee (f := 31) rfl ?_); refine goesL_ (some 16) rfl rfl Tryd.func31 (by kernel_rfl) rfl #[.slice Ao7 t416.length co7] rfl (by (try simp only [List.map_toArray, List.map_cons, List.map_nil]); first | done | rfl | (simp only [List.length_drop, List.length_take]; rfl)) ?_; (with_reducible refine (spec_WithoutUseless.calls k _ _ t416 t422 _ ?side1 ?side2 A9.out).mono ?_); (case side1 => repeat (first | exact (Kd.N_reads' HO418.out).2.2 | (with_reducible refine Kd.C_alloc ?_ _) | (with_reducible refine Kd.C_drewN ?_ _) | (with_reducible refine Kd.C_drew ?_))); (case side2 => exact (Kd.N_reads' HO418.out).2.1); rintro e w16 ⟨v423, rfl, ho0, hb⟩; refine ⟨_, rfl, ?_⟩; have n0_ := Aside0.mk (Kd.N_elder' (by (with_reducible repeat (first | apply Kd.N_alloc | apply Kd.N_drewN | apply Kd.N_drew)); exact HO418.out) (by first | exact Kd.N_base ho0 | exact Kd.S_base ho0) hb); have n1_ := Aside0.mk (Kd.N_elder' (by (with_reducible repeat (first | apply Kd.N_alloc | apply Kd.N_drewN | apply Kd.N_drew)); exact HO421.out) (by first | exact Kd.N_base ho0 | exact Kd.S_base ho0) hb); have n2_ := Aside0.mk (Kd.N_lower (Kd.N_mono (ok' := fun k_ => some k_ ≠ (.slice Ao7 t416.length co7 : Value).ownBlock ∧ some k_ ≠ (v420 : Value).ownBlock) (Kd.S_N (Kd.S_bound ho0)) (fun k_ hk_ => ⟨(Kd.fresh' (Kd.N_lt (by (with_reducible repeat (first | apply Kd.N_alloc | apply Kd.N_drewN | apply Kd.N_drew)); exact HO418.out)) k_ hk_.2.1), (Kd.fresh' (Kd.N_lt (by (with_reducible repeat (first | apply Kd.N_alloc | apply Kd.N_drewN | apply Kd.N_drew)); exact HO421.out)) k_ hk_.2.1)⟩)) (below_size (by repeat (first | (with_reducible first | exact HB.out | apply below_alloc | apply pw_below_drewN | apply below_drew1) | exact HB.out)))); have n3_ := Aside0.mk (below_step (by repeat (first | (with_reducible first | exact HB.out | apply below_alloc | apply pw_below_drewN | apply below_drew1) | exact HB.out)) hb); clear HO418; clear HO421; clear HB; have HO418 := n0_; have HO421 := n1_; have HO424 := n2_; have HB := n3_; clear n0_ n1_ n2_ n3_; (try clear hb); (try clear hb2); (try clear hk); (try clear hi); (try clear ho0); obtain ⟨Ao17, co17, eo17⟩ := Kd.N_slice HO421.out; subst eo17; obtain ⟨Ao18, co18, eo18⟩ := Kd.N_slice HO424.out; subst eo18) | ((with_reducible refine gate_callee (f := 30) rfl ?_); refine goesL_ (some 17) rfl rfl Tryd.func30 (by kernel_rfl) rfl #[.slice Ao17 t419.length co17, .slice Ao18 t422.length co18] rfl (by (try simp only [List.map_toArray, List.map_cons, List.map_nil]); first | done | rfl | (simp only [List.length_drop, List.length_take]; rfl)) ?_; (with_reducible refine (laws_equalTasks.calls k _ _ t419 _ _ t422 false _ ?side1 ?side2 ?side3 ?side4 A10.out).mono ?_); (case side1 => repeat (first | exact (Kd.N_reads' HO421.out).2.2 | (with_reducible refine Kd.C_alloc ?_ _) | (with_reducible refine Kd.C_drewN ?_ _) | (with_reducible refine Kd.C_drew ?_))); (case side2 => exact (Kd.N_reads' HO421.out).2.1); (case side3 => repeat (first | exact (Kd.N_reads' HO424.out).2.2 | (with_reducible refine Kd.C_alloc ?_ _) | (with_reducible refine Kd.C_drewN ?_ _) | (with_reducible refine Kd.C_drew ?_))); (case side4 => exact (Kd.N_reads' HO424.out).2.1); rintro e w19 ⟨rfl, hb⟩; refine ⟨_, rfl, ?_⟩; have n0_ := Aside0.mk (Kd.N_below (by (with_reducible repeat (first | apply Kd.N_alloc | apply Kd.N_drewN | apply Kd.N_drew)); exact HO418.out) hb); have n1_ := Aside0.mk (Kd.N_below (by (with_reducible repeat (first | apply Kd.N_alloc | apply Kd.N_drewN | apply Kd.N_drew)); exact HO421.out) hb); have n2_ := Aside0.mk (Kd.N_below (by (with_reducible repeat (first | apply Kd.N_alloc | apply Kd.N_drewN | apply Kd.N_drew)); exact HO424.out) hb); have n3_ := Aside0.mk (below_step (by repeat (first | (with_reducible first | exact HB.out | apply below_alloc | apply pw_below_drewN | apply below_drew1) | exact HB.out)) hb); clear HO418; clear HO421; clear HO424; clear HB; have HO418 := n0_; have HO421 := n1_; have HO424 := n2_; have HB := n3_; clear n0_ n1_ n2_ n3_; (try clear hb); (try clear hb2); (try clear hk); (try clear hi)))
    go_meet
    case rel => exact ⟨_, (true), (by first | rfl | (simp; done) | (simp [*]; done)), H', ⟨by first | omega | exact Nat.le_refl _⟩, ⟨by (with_reducible repeat (first | apply Kd.N_alloc | apply Kd.N_drewN | apply Kd.N_drew)); exact Kd.N_mono HO418.out (fun _ hk => hk.1.2)⟩, ⟨by (with_reducible repeat (first | apply Kd.N_alloc | apply Kd.N_drewN | apply Kd.N_drew)); exact Kd.N_mono HO421.out (fun _ hk => hk.1)⟩, ⟨by repeat (first | (with_reducible first | exact HB.out | apply below_alloc | apply pw_below_drewN | apply below_drew1) | exact HB.out)⟩⟩
  case rest =>
   clear HC5
   try clear c1
   try clear c2
   try clear c2b0
   try clear c2b1
   try clear p2
   try clear c3
   try clear c5
   try clear c11
   obtain ⟨kq, x23_4, rfl, HA, HJ4, HO_3, HO_4, HB⟩ := hcut
   cases kq with
   | zero => exact absurd HA.out (by simp [laws_FnWithoutUselessLeast.j0])
   | succ kj4 =>
    have H := HA.out
    clear HA
    simp only [laws_FnWithoutUselessLeast.j0] at H
    by_cases c20 : x23_4 = true
    ·subst c20
     have H1 : ((spec_WithoutUseless.f kj4 t416).bind fun t426 => ((laws_equalTasks.f kj4 t419 t426).bind fun t429 => (some t429))) = some r := by rw [if_pos rfl] at H; exact H
     clear H
     have H := H1
     clear H1
     replace H := Option.bind_eq_some_iff.mp H
     obtain ⟨t426, A210, H⟩ := H
     replace H : ((laws_equalTasks.f kj4 t419 t426).bind fun t429 => (some t429)) = some r := H
     have A21 := Aside0.mk A210
     clear A210
     replace H := Option.bind_eq_some_iff.mp H
     obtain ⟨t429, A220, H⟩ := H
     replace H : (some t429) = some r := H
     have A22 := Aside0.mk A220
     clear A220
     obtain rfl := Option.some.inj H
     go_wp2_with (first | ((with_reducible refine gate_callee (f := 31) rfl ?_); refine goesL_ (some 26) rfl rfl Tryd.func31 (by kernel_rfl) rfl #[.slice Ao7 t416.length co7] rfl (by (try simp only [List.map_toArray, List.map_cons, List.map_nil]); first | done | rfl | (simp only [List.length_drop, List.length_take]; rfl)) ?_; (with_reducible refine (spec_WithoutUseless.calls kj4 _ _ t416 t426 _ ?side1 ?side2 A21.out).mono ?_); (case side1 => repeat (first | exact (Kd.N_reads' HO_3.out).2.2 | (with_reducible refine Kd.C_alloc ?_ _) | (with_reducible refine Kd.C_drewN ?_ _) | (with_reducible refine Kd.C_drew ?_))); (case side2 => exact (Kd.N_reads' HO_3.out).2.1); rintro e w23 ⟨v427, rfl, ho0, hb⟩; refine ⟨_, rfl, ?_⟩; have n0_ := Aside0.mk (Kd.N_elder' (by (with_reducible repeat (first | apply Kd.N_alloc | apply Kd.N_drewN | apply Kd.N_drew)); exact HO_3.out) (by first | exact Kd.N_base ho0 | exact Kd.S_base ho0) hb); have n1_ := Aside0.mk (Kd.N_elder' (by (with_reducible repeat (first | apply Kd.N_alloc | apply Kd.N_drewN | apply Kd.N_drew)); exact HO_4.out) (by first | exact Kd.N_base ho0 | exact Kd.S_base ho0) hb); have n2_ := Aside0.mk (Kd.N_lower (Kd.N_mono (ok' := fun k_ => some k_ ≠ (.slice Ao7 t416.length co7 : Value).ownBlock ∧ some k_ ≠ (v420 : Value).ownBlock) (Kd.S_N (Kd.S_bound ho0)) (fun k_ hk_ => ⟨(Kd.fresh' (Kd.N_lt (by (with_reducible repeat (first | apply Kd.N_alloc | apply Kd.N_drewN | apply Kd.N_drew)); exact HO_3.out)) k_ hk_.2.1), (Kd.fresh' (Kd.N_lt (by (with_reducible repeat (first | apply Kd.N_alloc | apply Kd.N_drewN | apply Kd.N_drew)); exact HO_4.out)) k_ hk_.2.1)⟩)) (below_size (by repeat (first | (with_reducible first | exact HB.out | apply below_alloc | apply pw_below_drewN | apply below_drew1) | exact HB.out)))); have n3_ := Aside0.mk (below_step (by repeat (first | (with_reducible first | exact HB.out | apply below_alloc | apply pw_below_drewN | apply below_drew1) | exact HB.out)) hb); clear HO_3; clear HO_4; clear HB; have HO_3 := n0_; have HO_4 := n1_; have HO428 := n2_; have HB := n3_; clear n0_ n1_ n2_ n3_; (try clear hb); (try clear hb2); (try clear hk); (try clear hi); (try clear ho0); obtain ⟨Ao24, co24, eo24⟩ := Kd.N_slice HO_4.out; subst eo24; obtain ⟨Ao25, co25, eo25⟩ := Kd.N_slice HO428.out; subst eo25) | ((with_reducible refine gate_callee (f := 30) rfl ?_); refine goesL_ (some 27) rfl rfl Tryd.func30 (by kernel_rfl) rfl #[.slice Ao24 t419.length co24, .slice Ao25 t426.length co25] rfl (by (try simp only [List.map_toArray, List.map_cons, List.map_nil]); first | done | rfl | (simp only [List.length_drop, List.length_take]; rfl)) ?_; (with_reducible refine (laws_equalTasks.calls kj4 _ _ t419 _ _ t426 t429 _ ?side1 ?side2 ?side3 ?side4 A22.out).mono ?_); (case side1 => repeat (first | exact (Kd.N_reads' HO_4.out).2.2 | (with_reducible refine Kd.C_alloc ?_ _) | (with_reducible refine Kd.C_drewN ?_ _) | (with_reducible refine Kd.C_drew ?_))); (case side2 => exact (Kd.N_reads' HO_4.out).2.1); (case side3 => repeat (first | exact (Kd.N_reads' HO428.out).2.2 | (with_reducible refine Kd.C_alloc ?_ _) | (with_reducible refine Kd.C_drewN ?_ _) | (with_reducible refine Kd.C_drew ?_))); (case side4 => exact (Kd.N_reads' HO428.out).2.1); rintro e w26 ⟨rfl, hb⟩; refine ⟨_, rfl, ?_⟩; have n0_ := Aside0.mk (Kd.N_below (by (with_reducible repeat (first | apply Kd.N_alloc | apply Kd.N_drewN | apply Kd.N_drew)); exact HO_3.out) hb); have n1_ := Aside0.mk (Kd.N_below (by (with_reducible repeat (first | apply Kd.N_alloc | apply Kd.N_drewN | apply Kd.N_drew)); exact HO_4.out) hb); have n2_ := Aside0.mk (Kd.N_below (by (with_reducible repeat (first | apply Kd.N_alloc | apply Kd.N_drewN | apply Kd.N_drew)); exact HO428.out) hb); have n3_ := Aside0.mk (below_step (by repeat (first | (with_reducible first | exact HB.out | apply below_alloc | apply pw_below_drewN | apply below_drew1) | exact HB.out)) hb); clear HO_3; clear HO_4; clear HO428; clear HB; have HO_3 := n0_; have HO_4 := n1_; have HO428 := n2_; have HB := n3_; clear n0_ n1_ n2_ n3_; (try clear hb); (try clear hb2); (try clear hk); (try clear hi)))
     go_ret
     exact ⟨by first | rfl | (simp [errW_none, errW_some] <;> rfl) | (simp [*, errW_none, errW_some] <;> rfl), by repeat (first | (with_reducible first | exact HB.out | apply below_alloc | apply pw_below_drewN | apply below_drew1) | exact HB.out)⟩
    ·replace c20 := Bool.eq_false_iff.mpr c20
     subst c20
     have H1 : (laws_FnWithoutUselessLeast.l0 kj4 t419 0) = some r := by rw [if_neg (show ¬ (false = true) by decide)] at H; exact H
     clear H
     have H := H1
     clear H1
     have H' := Aside0.mk H
     clear H
     go_wp2
     go_loopg [5] kj4 (fun kq v5 w' => ∃ (x4_2 : List (S37)) (x5_2 : Int), v5 = .int .i64 x5_2 ∧ Aside0 (laws_FnWithoutUselessLeast.l0 kq x4_2 x5_2 = some r) ∧ Aside0 (kq ≤ kj4) ∧ Aside0 (Kd.N k37 37 w' w.heap.size (fun _ => True) v420 x4_2) ∧ Aside0 (Below w.heap.size w w'))
     case atStart => exact ⟨(t419), (0), (by first | rfl | (simp; done) | (simp [*]; done)), H', ⟨Nat.le_refl _⟩, ⟨by (with_reducible repeat (first | apply Kd.N_alloc | apply Kd.N_drewN | apply Kd.N_drew)); exact Kd.N_mono HO_4.out (fun _ hk => trivial)⟩, ⟨by repeat (first | (with_reducible first | exact HB.out | apply below_alloc | apply pw_below_drewN | apply below_drew1) | exact HB.out)⟩⟩
     case round =>
      clear H'
      try clear c1
      try clear c2
      try clear c2b0
      try clear c2b1
      try clear p2
      try clear c3
      try clear c5
      try clear c11
      try clear c20
      try clear p2
      obtain ⟨x4_2, x5_2, rfl, HA, HK2, HO_4, HB⟩ := hrel
      cases gk with
      | zero => exact absurd HA.out (by simp [laws_FnWithoutUselessLeast.l0])
      | succ k2 =>
       have H := HA.out
       clear HA
       simp only [laws_FnWithoutUselessLeast.l0] at H
       by_cases c27 : x5_2 < (x4_2.length : Int)
       ·rw [if_pos c27] at H
        have c27b0 : decide (x5_2 < (x4_2.length : Int)) = true := decide_eq_true c27
        clear c27
        by_cases c28 : 0 ≤ x5_2
        ·rw [if_pos c28] at H
         have c28b0 : decide (0 ≤ x5_2) = true := decide_eq_true c28
         clear c28
         by_cases c29 : (((rd_T37 x4_2 x5_2).f1).length : Int) = 0
         ·rw [if_pos c29] at H
          have c29b0 : ((((rd_T37 x4_2 x5_2).f1).length : Int) == 0) = true := beq_iff_eq.mpr c29
          have c29b1 : ((((rd_T37 x4_2 x5_2).f1).length : Int) != 0) = false := bne_eq_false_iff_eq.mpr c29
          clear c29
          have H' := Aside0.mk H
          clear H
          obtain ⟨Ao30, co30, eo30⟩ := Kd.N_slice HO_4.out
          subst eo30
          have p430 : 0 ≤ (x5_2 : Int) := of_decide_eq_true (by first | (with_reducible assumption) | assumption)
          have q430 : x5_2 < (x4_2.length : Int) := of_decide_eq_true (by first | (with_reducible assumption) | assumption)
          obtain ⟨ad430, A430_1, c430_1, e430, hx430_0, hx430_1, hx430_2, hx430_3, hl430_1, hi430_1⟩ := at_T37 (Kd.N_reads' HO_4.out).2.2 x5_2 p430 q430
          cases e430
          obtain ⟨ce430, hce430, hMe430, hcc430⟩ := Kd.N_get HO_4.out z37 x5_2 p430 (by first | exact q430 | exact of_decide_eq_true (by first | (with_reducible assumption) | assumption) | (have e_ := (Kd.N_reads' HO_4.out).1; omega))
          obtain ⟨ua430_1, uc430_1, rfl, ul430_1, ge430_1⟩ := k37_openF hMe430
          have hv430_1 := hcc430 1 _ rfl
          rw [add_field _ _ 1 (by omega)] at hv430_1
          replace hv430_1 := Option.some.inj (hv430_1.symm.trans hx430_1)
          injection hv430_1 with hva_ hvn_ hvc_
          rw [hva_] at ge430_1
          rw [hvc_] at ul430_1
          have HL430_1 := Aside0.mk (show Kd.V (Kd.int .i64) 3 _ w.heap.size _ _ ((rd_T37 x4_2 x5_2).f1) from Kd.V_mk ul430_1 ge430_1)
          clear hva_ hvn_ hvc_ ge430_1 ul430_1
          clear hcc430 hce430
          have HR430_1 := Aside0.mk hi430_1
          have HC430_1 := Aside0.mk hl430_1
          clear hi430_1 hl430_1
          replace p430 := eq_true p430
          replace q430 := eq_true q430
          go_wp2
          go_roundg k2
          case measure => have := HJ4.out; have := HK2.out; omega
          case rel => exact ⟨(x4_2), (wrap64 (x5_2 + 1)), (by first | rfl | (simp; done) | (simp [*]; done)), H', ⟨by have := HJ4.out; have := HK2.out; omega⟩, ⟨by (with_reducible repeat (first | apply Kd.N_alloc | apply Kd.N_drewN | apply Kd.N_drew)); exact HO_4.out⟩, ⟨by repeat (first | (with_reducible first | exact HB.out | apply below_alloc | apply pw_below_drewN | apply below_drew1) | exact HB.out)⟩⟩
         ·rw [if_neg c29] at H
          have c29b0 : ((((rd_T37 x4_2 x5_2).f1).length : Int) == 0) = false := beq_eq_false_iff_ne.mpr c29
          have c29b1 : ((((rd_T37 x4_2 x5_2).f1).length : Int) != 0) = true := bne_iff_ne.mpr c29
          have c29b2 : ¬ (((rd_T37 x4_2 x5_2).f1) = []) := fun h_ => c29 (by rw [h_]; rfl)
          obtain ⟨y431, hy431⟩ : ∃ y_ : List (S37), y_ = (([] : List (S37))) := ⟨_, rfl⟩
          replace H : (if y431.length + x4_2.length < 2932031007402 then ((some (y431 ++ x4_2 : List (S37))).bind fun y434 => (if 1 ≤ (((rd_T37 x4_2 x5_2).f1).length : Int) then (if x5_2 < (y434.length : Int) then ((impl_AllNeeds.f (y434.set (x5_2 : Int).toNat (⟨(rd_T37 y434 x5_2).f0, (((rd_T37 x4_2 x5_2).f1).drop 1), (rd_T37 y434 x5_2).f2, (rd_T37 y434 x5_2).f3⟩ : S37)) x5_2).bind fun t444 => (if 0 < (((rd_T37 x4_2 x5_2).f1).length : Int) then ((laws_isIn.f k2 t444 (rd ((rd_T37 x4_2 x5_2).f1) 0)).bind fun t449 => (if t449 = true then (some false) else (laws_FnWithoutUselessLeast.l0 k2 x4_2 (wrap64 (x5_2 + 1))))) else (none))) else (none)) else (none))) else (none)) = some r := by first | (rw [hy431]; with_reducible exact H) | (have H2_ := (Option.bind_some _ _).symm.trans H; rw [hy431]; with_reducible exact H2_) | (have H2_ := (Option.bind_some _ _).symm.trans H; with_reducible exact H2_) | with_reducible exact H | (rw [hy431]; exact H) | exact H
          have Ny431 := Aside0.mk hy431
          clear hy431
          by_cases c31 : y431.length + x4_2.length < 2932031007402
          ·rw [if_pos c31] at H
           have LMc31 := Aside0.mk c31
           clear c31
           obtain ⟨y434, hy434⟩ : ∃ y_ : List (S37), y_ = (y431 ++ x4_2) := ⟨_, rfl⟩
           replace H : (if 1 ≤ (((rd_T37 x4_2 x5_2).f1).length : Int) then (if x5_2 < (y434.length : Int) then ((impl_AllNeeds.f (y434.set (x5_2 : Int).toNat (⟨(rd_T37 y434 x5_2).f0, (((rd_T37 x4_2 x5_2).f1).drop 1), (rd_T37 y434 x5_2).f2, (rd_T37 y434 x5_2).f3⟩ : S37)) x5_2).bind fun t444 => (if 0 < (((rd_T37 x4_2 x5_2).f1).length : Int) then ((laws_isIn.f k2 t444 (rd ((rd_T37 x4_2 x5_2).f1) 0)).bind fun t449 => (if t449 = true then (some false) else (laws_FnWithoutUselessLeast.l0 k2 x4_2 (wrap64 (x5_2 + 1))))) else (none))) else (none)) else (none)) = some r := by first | (rw [hy434]; with_reducible exact H) | (have H2_ := (Option.bind_some _ _).symm.trans H; rw [hy434]; with_reducible exact H2_) | (have H2_ := (Option.bind_some _ _).symm.trans H; with_reducible exact H2_) | with_reducible exact H | (rw [hy434]; exact H) | exact H
           have Ny434 := Aside0.mk hy434
           clear hy434
           by_cases c32 : 1 ≤ (((rd_T37 x4_2 x5_2).f1).length : Int)
           ·rw [if_pos c32] at H
            have c32b0 := eq_true c32
            have c32b1 : decide (1 ≤ (((rd_T37 x4_2 x5_2).f1).length : Int)) = true := decide_eq_true c32
            clear c32
            obtain ⟨y438, hy438⟩ : ∃ y_ : List Int, y_ = (((rd_T37 x4_2 x5_2).f1).drop 1) := ⟨_, rfl⟩
            replace H : (if x5_2 < (y434.length : Int) then ((impl_AllNeeds.f (y434.set (x5_2 : Int).toNat (⟨(rd_T37 y434 x5_2).f0, y438, (rd_T37 y434 x5_2).f2, (rd_T37 y434 x5_2).f3⟩ : S37)) x5_2).bind fun t444 => (if 0 < (((rd_T37 x4_2 x5_2).f1).length : Int) then ((laws_isIn.f k2 t444 (rd ((rd_T37 x4_2 x5_2).f1) 0)).bind fun t449 => (if t449 = true then (some false) else (laws_FnWithoutUselessLeast.l0 k2 x4_2 (wrap64 (x5_2 + 1))))) else (none))) else (none)) = some r := by first | (rw [hy438]; with_reducible exact H) | (have H2_ := (Option.bind_some _ _).symm.trans H; rw [hy438]; with_reducible exact H2_) | (have H2_ := (Option.bind_some _ _).symm.trans H; with_reducible exact H2_) | with_reducible exact H | (rw [hy438]; exact H) | exact H
            have Ny438 := Aside0.mk hy438
            clear hy438
            by_cases c33 : x5_2 < (y434.length : Int)
            ·rw [if_pos c33] at H
             have c33b0 : decide (x5_2 < (y434.length : Int)) = true := decide_eq_true c33
             clear c33
             obtain ⟨y443, hy443⟩ : ∃ y_ : List (S37), y_ = (y434.set (x5_2 : Int).toNat (⟨(rd_T37 y434 x5_2).f0, y438, (rd_T37 y434 x5_2).f2, (rd_T37 y434 x5_2).f3⟩ : S37)) := ⟨_, rfl⟩
             replace H : ((impl_AllNeeds.f y443 x5_2).bind fun t444 => (if 0 < (((rd_T37 x4_2 x5_2).f1).length : Int) then ((laws_isIn.f k2 t444 (rd ((rd_T37 x4_2 x5_2).f1) 0)).bind fun t449 => (if t449 = true then (some false) else (laws_FnWithoutUselessLeast.l0 k2 x4_2 (wrap64 (x5_2 + 1))))) else (none))) = some r := by first | (rw [hy443]; with_reducible exact H) | (have H2_ := (Option.bind_some _ _).symm.trans H; rw [hy443]; with_reducible exact H2_) | (have H2_ := (Option.bind_some _ _).symm.trans H; with_reducible exact H2_) | with_reducible exact H | (rw [hy443]; exact H) | exact H
             have Ny443 := Aside0.mk hy443
             clear hy443
             replace H := Option.bind_eq_some_iff.mp H
             obtain ⟨t444, A350, H⟩ := H
             replace H : (if 0 < (((rd_T37 x4_2 x5_2).f1).length : Int) then ((laws_isIn.f k2 t444 (rd ((rd_T37 x4_2 x5_2).f1) 0)).bind fun t449 => (if t449 = true then (some false) else (laws_FnWithoutUselessLeast.l0 k2 x4_2 (wrap64 (x5_2 + 1))))) else (none)) = some r := H
             have A35 := Aside0.mk A350
             clear A350
             by_cases c36 : 0 < (((rd_T37 x4_2 x5_2).f1).length : Int)
             ·rw [if_pos c36] at H
              have c36b0 : decide (0 < (((rd_T37 x4_2 x5_2).f1).length : Int)) = true := decide_eq_true c36
              have c36b1 : decide (0 < ((rd_T37 x4_2 x5_2).f1).length) = true := decide_eq_true (by omega)
              clear c36
              replace H := Option.bind_eq_some_iff.mp H
              obtain ⟨t449, A370, H⟩ := H
              replace H : (if t449 = true then (some false) else (laws_FnWithoutUselessLeast.l0 k2 x4_2 (wrap64 (x5_2 + 1)))) = some r := H
              have A37 := Aside0.mk A370
              clear A370
              by_cases c38 : t449 = true
              ·subst c38
               have H1 : (some false) = some r := by rw [if_pos rfl] at H; exact H
               clear H
               have H := H1
               clear H1
               obtain rfl := Option.some.inj H
               obtain ⟨Ao39, co39, eo39⟩ := Kd.N_slice HO_4.out
               subst eo39
               have p430 : 0 ≤ (x5_2 : Int) := of_decide_eq_true (by first | (with_reducible assumption) | assumption)
               have q430 : x5_2 < (x4_2.length : Int) := of_decide_eq_true (by first | (with_reducible assumption) | assumption)
               obtain ⟨ad430, A430_1, c430_1, e430, hx430_0, hx430_1, hx430_2, hx430_3, hl430_1, hi430_1⟩ := at_T37 (Kd.N_reads' HO_4.out).2.2 x5_2 p430 q430
               cases e430
               obtain ⟨ce430, hce430, hMe430, hcc430⟩ := Kd.N_get HO_4.out z37 x5_2 p430 (by first | exact q430 | exact of_decide_eq_true (by first | (with_reducible assumption) | assumption) | (have e_ := (Kd.N_reads' HO_4.out).1; omega))
               obtain ⟨ua430_1, uc430_1, rfl, ul430_1, ge430_1⟩ := k37_openF hMe430
               have hv430_1 := hcc430 1 _ rfl
               rw [add_field _ _ 1 (by omega)] at hv430_1
               replace hv430_1 := Option.some.inj (hv430_1.symm.trans hx430_1)
               injection hv430_1 with hva_ hvn_ hvc_
               rw [hva_] at ge430_1
               rw [hvc_] at ul430_1
               have HL430_1 := Aside0.mk (show Kd.V (Kd.int .i64) 3 _ w.heap.size _ _ ((rd_T37 x4_2 x5_2).f1) from Kd.V_mk ul430_1 ge430_1)
               clear hva_ hvn_ hvc_ ge430_1 ul430_1
               clear hcc430 hce430
               have HR430_1 := Aside0.mk hi430_1
               have HC430_1 := Aside0.mk hl430_1
               clear hi430_1 hl430_1
               replace p430 := eq_true p430
               replace q430 := eq_true q430
               try go_wp2_with (first | ((with_reducible refine gate_dst (N := 41) rfl ?_); (try (refine gate_guard (by rfl) ?_; dsimp only)); refine Kd.N_lit k37 _ 37 ?hg (N' := 41) ?hd (xs := ([] : List (S37))) (inner := []) (ok := (fun k_ => some k_ ≠ (.slice (some ad430) x4_2.length co39 : Value).ownBlock)) (okp := (fun k_ => some k_ ≠ (.slice (some ad430) x4_2.length co39 : Value).ownBlock)) ?hr ?hp (fun _ hk => hk) ((show ∀ k_, wr.heap.size ≤ k_ → (fun k_ => some k_ ≠ (.slice (some ad430) x4_2.length co39 : Value).ownBlock) k_ from fun k_ hk => Kd.fresh' (Kd.N_lt (by (with_reducible repeat (first | apply Kd.N_alloc | apply Kd.N_drewN | apply Kd.N_drew)); exact HO_4.out)) k_ hk) _ (Nat.le_refl _)) (Below.refl _ _) (Nat.le_refl _) (by simp) ?_; (case hd => rfl); (case hg => rfl); (case hr => first | (go_simp; done) | (go_simp; rfl)); (case hp => exact (Reps.none _ _)); intro v432 w40 ho41 hb hg_ hnew_; clear hg_ hnew_; (first | rw [← Ny431.out] at ho41 | (simp only [Int.reduceToNat] at ho41; rw [← Ny431.out] at ho41)); have n0_ := Aside0.mk (Kd.N_elder' (by (with_reducible repeat (first | apply Kd.N_alloc | apply Kd.N_drewN | apply Kd.N_drew)); exact HO_4.out) (by first | exact Kd.N_base ho41 | exact Kd.S_base ho41) hb); have n1_ := Aside0.mk (Kd.V_elder' (by (with_reducible repeat (first | apply Kd.V_alloc | apply Kd.V_drewN | apply Kd.V_drew)); exact HL430_1.out) (by first | exact Kd.N_base ho41 | exact Kd.S_base ho41) hb); have n2_ := Aside0.mk (Kd.N_lower ho41 (below_size (by repeat (first | (with_reducible first | exact HB.out | apply below_alloc | apply pw_below_drewN | apply below_drew1) | exact HB.out)))); have n3_ := Aside0.mk (Kd.C_below (by repeat (first | (with_reducible exact HR430_1.out) | (with_reducible refine Kd.C_alloc ?_ _) | (with_reducible refine Kd.C_drewN ?_ _) | (with_reducible refine Kd.C_drew ?_) | exact HR430_1.out)) hb); have n4_ := Aside0.mk (below_step (by repeat (first | (with_reducible first | exact HB.out | apply below_alloc | apply pw_below_drewN | apply below_drew1) | exact HB.out)) hb); clear HO_4; clear HL430_1; clear HR430_1; clear HB; have HO_4 := n0_; have HL430_1 := n1_; have HO433 := n2_; have HR430_1 := n3_; have HB := n4_; clear n0_ n1_ n2_ n3_ n4_; clear hb ho41) | ((with_reducible refine gate_builtin (b := .append) (xs := #[.tmp 41, .tmp 42]) rfl ?_); (try (refine gate_guard (by rfl) ?_; dsimp only)); at_builtin; refine Kd.N_append_rows k37 (w0 := w) w.heap.size rfl (.tmp 41) (.tmp 42) 26 37 (.agg #[(.int .i64 0), (.slice none 0 0), (.int .i64 0), (.int .i64 0)]) 48 rfl Tryd.underlying26 info37 rfl (by decide) (by omega) v432 y431 x4_2 _ _ _ (fun _ => True) (fun k_ => ((fun _ => True)) k_ ∧ some k_ ≠ (v432 : Value).ownBlock) rfl rfl ?aO ?aR (fun _ hk => hk) ?aF ?aB ?aS ?aL ?_; (case aR => exact (by skip; exact Kd.N_F (Kd.N_mono (ok' := (fun k_ => ((fun _ => True)) k_ ∧ some k_ ≠ (v432 : Value).ownBlock)) (HO_4.out) (fun k_ hk => ⟨trivial, hk.2⟩)))); (case aB => exact (by repeat (first | (with_reducible first | exact HB.out | apply below_alloc | apply pw_below_drewN | apply below_drew1) | exact HB.out))); (case aF => exact (fun _ _ => trivial)); (case aO => exact (by (with_reducible repeat (first | apply Kd.N_alloc | apply Kd.N_drewN | apply Kd.N_drew)); exact Kd.N_mono HO433.out (fun _ hk => trivial))); (case aS => exact (below_size (by repeat (first | (with_reducible first | exact HB.out | apply below_alloc | apply pw_below_drewN | apply below_drew1) | exact HB.out)))); (case aL => have := LMc31.out; omega); intro v435 w42 ho hb hg hat; rw [← Ny434.out] at ho; have n0_ := Aside0.mk (Kd.N_afterv (ok := (fun _ => True)) (by (with_reducible repeat (first | apply Kd.N_alloc | apply Kd.N_drewN | apply Kd.N_drew)); exact HO_4.out) hg hat); have n1_ := Aside0.mk (Kd.V_afterv (ok := (fun k_ => some k_ ≠ (.slice (some ad430) x4_2.length co39 : Value).ownBlock)) (by (with_reducible repeat (first | apply Kd.V_alloc | apply Kd.V_drewN | apply Kd.V_drew)); exact Kd.V_mono HL430_1.out (fun _ hk => ⟨hk.1.2, hk.2⟩)) hg hat); have n2_ := Aside0.mk (hb); have n3_ := Aside0.mk (ho); clear HO_4; clear HL430_1; clear HB; clear HO433; have HO_4 := n0_; have HL430_1 := n1_; have HB := n2_; have HO436 := n3_; clear n0_ n1_ n2_ n3_; clear ho hb hg hat; have p437 : 0 ≤ (x5_2 : Int) := of_decide_eq_true (by first | (with_reducible assumption) | assumption); have q437 : x5_2 < (x4_2.length : Int) := of_decide_eq_true (by first | (with_reducible assumption) | assumption); obtain ⟨ad437, A437_1, c437_1, e437, hx437_0, hx437_1, hx437_2, hx437_3, hl437_1, hi437_1⟩ := at_T37 (Kd.N_reads' HO_4.out).2.2 x5_2 p437 q437; obtain rfl : ad430 = ad437 := (by injection e437); obtain ⟨ce437, hce437, hMe437, hcc437⟩ := Kd.N_get HO_4.out z37 x5_2 p437 (by first | exact q437 | exact of_decide_eq_true (by first | (with_reducible assumption) | assumption) | (have e_ := (Kd.N_reads' HO_4.out).1; omega)); obtain ⟨ua437_1, uc437_1, rfl, ul437_1, ge437_1⟩ := k37_openF hMe437; have hv437_1 := hcc437 1 _ rfl; rw [add_field _ _ 1 (by omega)] at hv437_1; replace hv437_1 := Option.some.inj (hv437_1.symm.trans hx437_1); injection hv437_1 with hva_ hvn_ hvc_; rw [hva_] at ge437_1; rw [hvc_] at ul437_1; have HL437_1 := Aside0.mk (show Kd.V (Kd.int .i64) 3 _ w.heap.size _ _ ((rd_T37 x4_2 x5_2).f1) from Kd.V_mk ul437_1 ge437_1); clear hva_ hvn_ hvc_ ge437_1 ul437_1; clear hcc437 hce437; have HR437_1 := Aside0.mk hi437_1; have HC437_1 := Aside0.mk hl437_1; clear hi437_1 hl437_1; replace p437 := eq_true p437; replace q437 := eq_true q437; have q43 : (1 : Int) ≤ ((((rd_T37 x4_2 x5_2).f1).length : Int) : Int) := of_decide_eq_true (by first | (with_reducible assumption) | assumption); obtain ⟨i043, hi043, _, hsz43, _⟩ := info_parts info3; have hroom43 : ((rd_T37 x4_2 x5_2).f1).length ≤ c437_1 := HC437_1.out; have hC43 : Kd.F (Kd.int .i64) _ _ A437_1 ((rd_T37 x4_2 x5_2).f1).length ((rd_T37 x4_2 x5_2).f1) := (Kd.V_at (base := w.heap.size) HL437_1.out).2.2; have hcut43 := cut_from (P := Tryd.prog) 35 3 .i64 Tryd.underlying35 hi043 1 hsz43 A437_1 ((rd_T37 x4_2 x5_2).f1).length c437_1 1 (by omega) q43; have hr43 := Kd.F_cut (m := (1 : Int).toNat) (c := c437_1) hC43 (by omega) hroom43; obtain ⟨A43, hA43⟩ : ∃ A1, A1 = (if c437_1 = (1 : Int).toNat then A437_1 else (A437_1 : Option Addr).map (·.add ((1 : Int).toNat * 1))) := ⟨_, rfl⟩; obtain ⟨c43, hc43⟩ : ∃ c1, c1 = c437_1 - (1 : Int).toNat := ⟨_, rfl⟩; have hy43 : y438.length = ((rd_T37 x4_2 x5_2).f1).length - (1 : Int).toNat := (by rw [Ny438.out, List.length_drop] <;> omega); rw [show ((rd_T37 x4_2 x5_2).f1).drop (1 : Int).toNat = y438 from Ny438.out.symm] at hr43; replace hr43 : Kd.F (Kd.int .i64) _ _ A43 y438.length y438 := (by rw [hA43]; exact hr43); rw [← hy43, ← hA43, ← hc43] at hcut43; have HO442 := Aside0.mk (show Kd.V (Kd.int .i64) 3 _ w.heap.size _ (.slice A43 y438.length c43) y438 from Kd.V_mk (by rw [hy43, hc43]; exact Nat.sub_le_sub_right hroom43 _) hr43); have HC442 := Aside0.mk (show y438.length ≤ c43 from by rw [hy43, hc43]; exact Nat.sub_le_sub_right hroom43 _); clear hr43 hC43 hroom43 hi043 hsz43 hc43; have KY43 := Aside0.mk hy43; have KA43 := Aside0.mk hA43; clear hy43 hA43; replace q43 := eq_true q43; have p34 : 0 ≤ (x5_2 : Int) := of_decide_eq_true (by first | (with_reducible assumption) | assumption); have q34 : (x5_2 : Int) < ((y434.length : Int) : Int) := of_decide_eq_true (by first | (with_reducible assumption) | assumption); obtain ⟨go34, co34, eo34, gb34, gl34, cl34, HG34⟩ := Kd.N_form HO436.out (by omega); (first | cases eo34 | (injection eo34 with ea_ en_ ec_; (first | subst ea_ | (injection ea_ with ea_; subst ea_)); subst ec_; clear en_)); have GB34 := Aside0.mk gb34; have GG34 := Aside0.mk HG34; clear gb34 gl34 HG34; obtain ⟨ce34, hcl34, hM34, hcc34, hfr34⟩ := Kd.N_elem HO436.out z37 (x5_2 : Int) p34 q34; obtain ⟨ua34_1, uc34_1, rfl, ul34_1, ge34_1⟩ := k37_openF hM34; have hx34_0 : w42.cell? ⟨go34, (x5_2 : Int).toNat * 4, none⟩ = some (.int .i64 ((rd_T37 y434 x5_2).f0)) := hcc34 0 _ rfl; have hx34_1 : w42.cell? ⟨go34, (x5_2 : Int).toNat * 4 + 1, none⟩ = some (.slice ua34_1 ((rd_T37 y434 x5_2).f1).length uc34_1) := hcc34 1 _ rfl; have hx34_2 : w42.cell? ⟨go34, (x5_2 : Int).toNat * 4 + 2, none⟩ = some (.int .i64 ((rd_T37 y434 x5_2).f2)) := hcc34 2 _ rfl; have hx34_3 : w42.cell? ⟨go34, (x5_2 : Int).toNat * 4 + 3, none⟩ = some (.int .i64 ((rd_T37 y434 x5_2).f3)) := hcc34 3 _ rfl; have hf34_0 : w42.frozen? ⟨go34, (x5_2 : Int).toNat * 4, none⟩ = false := hfr34 0; have hf34_1 : w42.frozen? ⟨go34, (x5_2 : Int).toNat * 4 + 1, none⟩ = false := hfr34 1; have hf34_2 : w42.frozen? ⟨go34, (x5_2 : Int).toNat * 4 + 2, none⟩ = false := hfr34 2; have hf34_3 : w42.frozen? ⟨go34, (x5_2 : Int).toNat * 4 + 3, none⟩ = false := hfr34 3; clear hcl34 hcc34 hfr34 hM34; replace p34 := eq_true p34; replace q34 := eq_true q34; have HX44 := Aside0.mk (show Kd.N k37 37 w42 w.heap.size (fun _ => True) (.slice (some ⟨go34, 0, none⟩) y434.length co34) y434 from (by (with_reducible repeat (first | apply Kd.N_alloc | apply Kd.N_drewN | apply Kd.N_drew)); exact HO436.out)); obtain ⟨ce44, hcl44, hM44, hcc44, hfr44⟩ := Kd.N_elem HX44.out z37 (x5_2 : Int) (of_decide_eq_true (by first | (with_reducible assumption) | assumption)) (by have h_ : (x5_2 : Int) < ((y434.length : Int) : Int) := of_decide_eq_true (by first | (with_reducible assumption) | assumption); first | exact h_ | (have e_ := (Kd.N_reads' HO436.out).1; omega) | simpa using h_); obtain ⟨ua44_1, uc44_1, rfl, ul44_1, ge44_1⟩ := k37_openF hM44; have HP44 := Kd.N_seg HX44.out (x5_2 : Int) (of_decide_eq_true (by first | (with_reducible assumption) | assumption)) (by have h_ : (x5_2 : Int) < ((y434.length : Int) : Int) := of_decide_eq_true (by first | (with_reducible assumption) | assumption); first | exact h_ | (have e_ := (Kd.N_reads' HO436.out).1; omega) | simpa using h_) (seg := [.slice A43 y438.length c43]) (j := 1) hcl44 hcc44 (show 2 ≤ 4 from by decide) (x' := (⟨(rd_T37 y434 x5_2).f0, y438, (rd_T37 y434 x5_2).f2, (rd_T37 y434 x5_2).f3⟩ : S37)) (k37_mkF _ _ (⟨(rd_T37 y434 x5_2).f0, y438, (rd_T37 y434 x5_2).f2, (rd_T37 y434 x5_2).f3⟩ : S37) (Kd.V_reads' (Kd.V_mono (ok' := (fun k_ => ((fun _ => True)) k_ ∧ k_ ≠ go34)) (HO442.out) (fun k_ hk => ⟨trivial, fun e_ => (hk.1.2) (by rw [e_]; rfl)⟩))).2.1 (Kd.V_F (Kd.V_mono (ok' := (fun k_ => ((fun _ => True)) k_ ∧ k_ ≠ go34)) (HO442.out) (fun k_ hk => ⟨trivial, fun e_ => (hk.1.2) (by rw [e_]; rfl)⟩)))) (fun _ hk => hk); have hx44_1 := hcc44 1 _ rfl; (try simp only [show (k37).sz = 4 from rfl, Nat.mul_one, Nat.add_zero] at hx44_1); have hf44_1 := hfr44 1; (try simp only [show (k37).sz = 4 from rfl, Nat.mul_one, Nat.add_zero] at hf44_1); clear hcl44 hcc44 hfr44 hM44) | ((with_reducible refine gate_store (t := 35) (p := 53) rfl ?_); refine store_event (t := 35) (p := 53) (v := ?vo_w45) (w1 := (w42.setCell ⟨go34, (x5_2 : Int).toNat * 4 + 1, none⟩ (.slice A43 y438.length c43))) ?hg ?ho ?hn ?hr ?_; (case ho => rfl); (case hg => rfl); (case hn => rfl); (case hr => (first | (go_simp; done) | (go_simp; rfl))); intro w45 hw; have hg : w42.grownBy w45 (some go34) := (by rw [hw]; exact HP44.2); have hp_ : Kd.N k37 37 w45 w.heap.size (fun _ => True) (.slice (some ⟨go34, 0, none⟩) y434.length co34) y443 := (by rw [hw, Ny443.out]; exact HP44.1); clear HP44; have n0_ := Aside0.mk (Kd.N_afterv (v := (.slice (some ⟨go34, 0, none⟩) y434.length co34)) (v1 := (.slice (some ⟨go34, 0, none⟩) y434.length co34)) (ok := (fun _ => True)) (by (with_reducible repeat (first | apply Kd.N_alloc | apply Kd.N_drewN | apply Kd.N_drew)); exact HO_4.out) hg (.inl rfl)); have n1_ := Aside0.mk (Kd.V_afterv (v := (.slice (some ⟨go34, 0, none⟩) y434.length co34)) (v1 := (.slice (some ⟨go34, 0, none⟩) y434.length co34)) (ok := (fun k_ => some k_ ≠ (.slice (some ad430) x4_2.length co39 : Value).ownBlock)) (by (with_reducible repeat (first | apply Kd.V_alloc | apply Kd.V_drewN | apply Kd.V_drew)); exact HL430_1.out) hg (.inl rfl)); have n2_ := Aside0.mk (hp_); have n3_ := Aside0.mk (Kd.V_afterv (v := (.slice (some ⟨go34, 0, none⟩) y434.length co34)) (v1 := (.slice (some ⟨go34, 0, none⟩) y434.length co34)) (ok := (fun k_ => some k_ ≠ (.slice (some ad430) x4_2.length co39 : Value).ownBlock)) (by (with_reducible repeat (first | apply Kd.V_alloc | apply Kd.V_drewN | apply Kd.V_drew)); exact Kd.V_mono HL437_1.out (fun _ hk => ⟨hk.2, hk.1.2⟩)) hg (.inl rfl)); have n4_ := Aside0.mk (Kd.V_afterv (v := (.slice (some ⟨go34, 0, none⟩) y434.length co34)) (v1 := (.slice (some ⟨go34, 0, none⟩) y434.length co34)) (ok := (fun k_ => some k_ ≠ (.slice (some ad430) x4_2.length co39 : Value).ownBlock)) (by (with_reducible repeat (first | apply Kd.V_alloc | apply Kd.V_drewN | apply Kd.V_drew)); exact Kd.V_mono HO442.out (fun _ hk => ⟨hk.2, hk.1.2⟩)) hg (.inl rfl)); have n5_ := Aside0.mk ((by rw [hw]; exact below_set (HB.out) GB34.out : Below w.heap.size w w45)); clear HO_4; clear HL430_1; clear HO436; clear HL437_1; clear HO442; clear HB; have HO_4 := n0_; have HL430_1 := n1_; have HO436 := n2_; have HL437_1 := n3_; have HO442 := n4_; have HB := n5_; clear n0_ n1_ n2_ n3_ n4_ n5_; clear hg hw hp_))
               have n0_ := Aside0.mk (Kd.N_drew HO_4.out)
               have n1_ := Aside0.mk (Kd.V_drew HL430_1.out)
               have n2_ := Aside0.mk (Kd.N_drew HO436.out)
               have n3_ := Aside0.mk (Kd.V_drew HL437_1.out)
               have n4_ := Aside0.mk (Kd.V_drew HO442.out)
               have n5_ := Aside0.mk (below_drew1 HB.out)
               clear HO_4
               clear HL430_1
               clear HO436
               clear HL437_1
               clear HO442
               clear HB
               have HO_4 := n0_
               have HL430_1 := n1_
               have HO436 := n2_
               have HL437_1 := n3_
               have HO442 := n4_
               have HB := n5_
               clear n0_ n1_ n2_ n3_ n4_ n5_
               have p447 : 0 ≤ (x5_2 : Int) := of_decide_eq_true (by first | (with_reducible assumption) | assumption)
               have q447 : x5_2 < (x4_2.length : Int) := of_decide_eq_true (by first | (with_reducible assumption) | assumption)
               obtain ⟨ad447, A447_1, c447_1, e447, hx447_0, hx447_1, hx447_2, hx447_3, hl447_1, hi447_1⟩ := at_T37 (Kd.N_reads' HO_4.out).2.2 x5_2 p447 q447
               obtain rfl : ad430 = ad447 := (by injection e447)
               obtain ⟨ce447, hce447, hMe447, hcc447⟩ := Kd.N_get HO_4.out z37 x5_2 p447 (by first | exact q447 | exact of_decide_eq_true (by first | (with_reducible assumption) | assumption) | (have e_ := (Kd.N_reads' HO_4.out).1; omega))
               obtain ⟨ua447_1, uc447_1, rfl, ul447_1, ge447_1⟩ := k37_openF hMe447
               have hv447_1 := hcc447 1 _ rfl
               rw [add_field _ _ 1 (by omega)] at hv447_1
               replace hv447_1 := Option.some.inj (hv447_1.symm.trans hx447_1)
               injection hv447_1 with hva_ hvn_ hvc_
               rw [hva_] at ge447_1
               rw [hvc_] at ul447_1
               have HL447_1 := Aside0.mk (show Kd.V (Kd.int .i64) 3 _ w.heap.size _ _ ((rd_T37 x4_2 x5_2).f1) from Kd.V_mk ul447_1 ge447_1)
               clear hva_ hvn_ hvc_ ge447_1 ul447_1
               clear hcc447 hce447
               have HR447_1 := Aside0.mk hi447_1
               have HC447_1 := Aside0.mk hl447_1
               clear hi447_1 hl447_1
               replace p447 := eq_true p447
               replace q447 := eq_true q447
               have p448 : 0 ≤ (0 : Int) := (by omega)
               have q448 : 0 < (((rd_T37 x4_2 x5_2).f1).length : Int) := of_decide_eq_true (by first | (with_reducible assumption) | assumption)
               obtain ⟨ad448, e448, hx448_0⟩ := Kd.at_int (by repeat (first | (with_reducible exact HR447_1.out) | (with_reducible refine Kd.C_alloc ?_ _) | (with_reducible refine Kd.C_drewN ?_ _) | (with_reducible refine Kd.C_drew ?_) | exact HR447_1.out)) 0 p448 q448
               cases e448
               have qi448 : (0 < ((rd_T37 x4_2 x5_2).f1).length) = True := eq_true (by omega)
               (try rw [show ((0 : Int)).toNat = 0 from rfl] at hx448_0)
               (try rw [Addr.add_zero'] at hx448_0)
               replace p448 := eq_true p448
               replace q448 := eq_true q448
               refine start_ (n := 11) (S := fun w' => w'.cell? (ad430.add ((x5_2).toNat * 4)) = some (.int .i64 ((rd_T37 x4_2 x5_2).f0)) ∧ w'.cell? ⟨(ad430.add ((x5_2).toNat * 4)).block, (ad430.add ((x5_2).toNat * 4)).off + 1, none⟩ = some (.slice (some ad448) ((rd_T37 x4_2 x5_2).f1).length c447_1) ∧ w'.cell? ⟨(ad430.add ((x5_2).toNat * 4)).block, (ad430.add ((x5_2).toNat * 4)).off + 2, none⟩ = some (.int .i64 ((rd_T37 x4_2 x5_2).f2)) ∧ w'.cell? ⟨(ad430.add ((x5_2).toNat * 4)).block, (ad430.add ((x5_2).toNat * 4)).off + 3, none⟩ = some (.int .i64 ((rd_T37 x4_2 x5_2).f3)) ∧ w'.cell? ad448 = some (.int .i64 (rd ((rd_T37 x4_2 x5_2).f1) 0))) (ds := []) #[false, false, false, false, false, false, false, false, false, false, false] (by kernel_rfl) rfl rfl ⟨hx447_0, hx447_1, hx447_2, hx447_3, hx448_0⟩ (fun hHeld => ?_); refine with_tabW laws_FnWithoutUselessLeast.tab13 laws_FnWithoutUselessLeast.bits13 (fun HT_ HW_ => ?_)
               generalize w45.drew = w46 at HO_4 HL430_1 HO436 HL437_1 HO442 HB HL447_1 HR447_1 hx447_0 hx447_1 hx447_2 hx447_3 hx448_0 hHeld ⊢
               refine pure_ (i := 0) (N := some 54) (v := ?_) (a' := ?_) #[true, false, false, false, false, false, false, false, false, false, false] rfl rfl (any_of HT_.out (by kernel_rfl)) (fun _ _ _ h => h) (Or.inl ⟨by rfl, ?_⟩) ?_ ?_
               rotate_left
               ·intro w'
                go_simp
                with_reducible rfl
               rotate_left
               ·simp only [Act.put, List.setIfInBounds_toArray, List.set_cons_zero, List.set_cons_succ, i64_w, i32_w]
                rfl
               refine pure_ (i := 1) (N := some 55) (v := ?_) (a' := ?_) #[true, true, false, false, false, false, false, false, false, false, false] rfl rfl (any_of HT_.out (by kernel_rfl)) (fun _ _ _ h => h) (Or.inl ⟨by rfl, ?_⟩) ?_ ?_
               rotate_left
               ·intro w'
                go_simp
                with_reducible rfl
               rotate_left
               ·simp only [Act.put, List.setIfInBounds_toArray, List.set_cons_zero, List.set_cons_succ, i64_w, i32_w]
                rfl
               refine pure_ (i := 3) (N := some 57) (v := ?_) (a' := ?_) #[true, true, false, true, false, false, false, false, false, false, false] rfl rfl (any_of HT_.out (by kernel_rfl)) (fun _ _ _ h => h) (Or.inl ⟨by rfl, ?_⟩) ?_ ?_
               rotate_left
               ·intro w'
                go_simp
                with_reducible rfl
               rotate_left
               ·simp only [Act.put, List.setIfInBounds_toArray, List.set_cons_zero, List.set_cons_succ, i64_w, i32_w]
                rfl
               refine pure_ (i := 4) (N := some 58) (v := ?_) (a' := ?_) #[true, true, false, true, true, false, false, false, false, false, false] rfl rfl (any_of HT_.out (by kernel_rfl)) (fun _ _ _ h => h) (Or.inl ⟨by rfl, ?_⟩) ?_ ?_
               rotate_left
               ·intro w'
                go_simp
                with_reducible rfl
               rotate_left
               ·simp only [Act.put, List.setIfInBounds_toArray, List.set_cons_zero, List.set_cons_succ, i64_w, i32_w]
                rfl
               refine pure_ (i := 5) (N := some 59) (v := ?_) (a' := ?_) #[true, true, false, true, true, true, false, false, false, false, false] rfl rfl (any_of HT_.out (by kernel_rfl)) (fun _ _ _ h => h) (Or.inl ⟨by rfl, ?_⟩) ?_ ?_
               rotate_left
               ·intro w'
                go_simp
                with_reducible rfl
               rotate_left
               ·simp only [Act.put, List.setIfInBounds_toArray, List.set_cons_zero, List.set_cons_succ, i64_w, i32_w]
                rfl
               refine pure_ (i := 6) (N := some 60) (v := ?_) (a' := ?_) #[true, true, false, true, true, true, true, false, false, false, false] rfl rfl (any_of HT_.out (by kernel_rfl)) (fun _ _ _ h => h) (Or.inl ⟨by rfl, ?_⟩) ?_ ?_
               rotate_left
               ·intro w'
                go_simp
                with_reducible rfl
               rotate_left
               ·simp only [Act.put, List.setIfInBounds_toArray, List.set_cons_zero, List.set_cons_succ, i64_w, i32_w]
                rfl
               refine take_ (i := 7) (N := some 61) (v := ?_) (a' := ?_) #[true, true, false, true, true, true, true, true, false, false, false] rfl rfl (take_ofW HT_.out HW_.out (by kernel_rfl)) (fun _ _ _ h => h) (Or.inl ⟨by rfl, ?_⟩) hHeld ?_ ?_
               rotate_left
               ·rintro w' ⟨s0, s1, s2, s3, s4⟩
                go_simp
                with_reducible rfl
               rotate_left
               ·simp only [Act.put, List.setIfInBounds_toArray, List.set_cons_zero, List.set_cons_succ, i64_w, i32_w]
                rfl
               refine pure_ (i := 8) (N := some 62) (v := ?_) (a' := ?_) #[true, true, false, true, true, true, true, true, true, false, false] rfl rfl (any_of HT_.out (by kernel_rfl)) (fun _ _ _ h => h) (Or.inl ⟨by rfl, ?_⟩) ?_ ?_
               rotate_left
               ·intro w'
                go_simp
                with_reducible rfl
               rotate_left
               ·simp only [Act.put, List.setIfInBounds_toArray, List.set_cons_zero, List.set_cons_succ, i64_w, i32_w]
                rfl
               refine take_ (i := 9) (N := some 63) (v := ?_) (a' := ?_) #[true, true, false, true, true, true, true, true, true, true, false] rfl rfl (take_ofW HT_.out HW_.out (by kernel_rfl)) (fun _ _ _ h => h) (Or.inl ⟨by rfl, ?_⟩) hHeld ?_ ?_
               rotate_left
               ·rintro w' ⟨s0, s1, s2, s3, s4⟩
                go_simp
                with_reducible rfl
               rotate_left
               ·simp only [Act.put, List.setIfInBounds_toArray, List.set_cons_zero, List.set_cons_succ, i64_w, i32_w]
                rfl
               refine one_ (i := 2) (N := some 56) #[true, true, true, true, true, true, true, true, true, true, false] rfl rfl (one_of HT_.out (by kernel_rfl)) (by decide) (fun K hK => ?_)
               refine goes_ Tryd.func27 (by kernel_rfl) rfl #[.slice (some ⟨go34, 0, none⟩) y443.length co34, .int .i64 x5_2] (by rfl) rfl rfl (by (try simp only [List.map_toArray, List.map_cons, List.map_nil]); first | done | (rw [show y443.length = y434.length from (Kd.N_reads' HO436.out).1.symm] <;> rfl) | rfl | (simp only [List.length_drop, List.length_take]; rfl)) ?_
               with_reducible refine (impl_AllNeeds.calls _ _ y443 x5_2 t444 _ ?side1 ?side2 ?side3 A35.out).mono ?_
               (case side1 => repeat (first | exact (Kd.N_reads' HO436.out).2.2 | (with_reducible refine Kd.C_alloc ?_ _) | (with_reducible refine Kd.C_drewN ?_ _) | (with_reducible refine Kd.C_drew ?_)))
               (case side2 => rw [show y443.length = y434.length from (Kd.N_reads' HO436.out).1.symm]; exact (Kd.N_reads' HO436.out).2.1)
               (case side3 => exact Tab.of HT.out (by repeat (first | (with_reducible first | exact HB.out | apply below_alloc | apply pw_below_drewN | apply below_drew1) | exact HB.out)))
               rintro e w47 ⟨v445, rfl, ho0, hb⟩
               have HS0_ := (hb.cell (World.block_lt_of_cell? _ _ (hHeld.1))).trans (hHeld.1)
               (try have HS0_ := (hb.cell (World.block_lt_of_cell? _ _ (hHeld.1))).trans (hHeld.1))
               have HS1_ := (hb.cell (World.block_lt_of_cell? _ _ (hHeld.2.1))).trans (hHeld.2.1)
               have HS2_ := (hb.cell (World.block_lt_of_cell? _ _ (hHeld.2.2.1))).trans (hHeld.2.2.1)
               have HS3_ := (hb.cell (World.block_lt_of_cell? _ _ (hHeld.2.2.2.1))).trans (hHeld.2.2.2.1)
               have HS4_ := (hb.cell (World.block_lt_of_cell? _ _ (hHeld.2.2.2.2))).trans (hHeld.2.2.2.2)
               refine ⟨_, rfl, ?_⟩
               have n0_ := Aside0.mk (Kd.N_elder' (by (with_reducible repeat (first | apply Kd.N_alloc | apply Kd.N_drewN | apply Kd.N_drew)); exact HO_4.out) (Kd.R_base ho0) hb)
               have n1_ := Aside0.mk (Kd.V_elder' (by (with_reducible repeat (first | apply Kd.V_alloc | apply Kd.V_drewN | apply Kd.V_drew)); exact HL430_1.out) (Kd.R_base ho0) hb)
               have n2_ := Aside0.mk (Kd.N_elder' (by (with_reducible repeat (first | apply Kd.N_alloc | apply Kd.N_drewN | apply Kd.N_drew)); exact HO436.out) (Kd.R_base ho0) hb)
               have n3_ := Aside0.mk (Kd.V_elder' (by (with_reducible repeat (first | apply Kd.V_alloc | apply Kd.V_drewN | apply Kd.V_drew)); exact HL437_1.out) (Kd.R_base ho0) hb)
               have n4_ := Aside0.mk (Kd.V_elder' (by (with_reducible repeat (first | apply Kd.V_alloc | apply Kd.V_drewN | apply Kd.V_drew)); exact HO442.out) (Kd.R_base ho0) hb)
               have n5_ := Aside0.mk (Kd.V_elder' (by (with_reducible repeat (first | apply Kd.V_alloc | apply Kd.V_drewN | apply Kd.V_drew)); exact HL447_1.out) (Kd.R_base ho0) hb)
               have n6_ := Aside0.mk (Kd.R_lower ho0 (below_size (by repeat (first | (with_reducible first | exact HB.out | apply below_alloc | apply pw_below_drewN | apply below_drew1) | exact HB.out))))
               have n7_ := Aside0.mk (Kd.C_below (by repeat (first | (with_reducible exact HR447_1.out) | (with_reducible refine Kd.C_alloc ?_ _) | (with_reducible refine Kd.C_drewN ?_ _) | (with_reducible refine Kd.C_drew ?_) | exact HR447_1.out)) hb)
               have n8_ := Aside0.mk (below_step (by repeat (first | (with_reducible first | exact HB.out | apply below_alloc | apply pw_below_drewN | apply below_drew1) | exact HB.out)) hb)
               clear HO_4
               clear HL430_1
               clear HO436
               clear HL437_1
               clear HO442
               clear HL447_1
               clear HR447_1
               clear HB
               have HO_4 := n0_
               have HL430_1 := n1_
               have HO436 := n2_
               have HL437_1 := n3_
               have HO442 := n4_
               have HL447_1 := n5_
               have HO446 := n6_
               have HR447_1 := n7_
               have HB := n8_
               clear n0_ n1_ n2_ n3_ n4_ n5_ n6_ n7_ n8_
               (try clear hb)
               (try clear hb2)
               (try clear hk)
               (try clear hi)
               (try clear ho0)
               obtain ⟨Ao48, co48, eo48⟩ := Kd.R_slice HO446.out
               (first | subst eo48 | (injection eo48 with f1_ f2_ f3_; have f4_ := f1_.symm; have f5_ := f3_.symm; clear f1_ f2_ f3_; subst f4_; subst f5_))
               refine hK.out _ _ ⟨HS0_, HS1_, HS2_, HS3_, HS4_⟩ (fun hHeld => ?_)
               clear hK K
               refine norm_ (a' := ?_) ?_ ?_
               rotate_left
               ·show Act.put _ (some 56) _ = _
                simp only [Act.put, List.setIfInBounds_toArray, List.set_cons_zero, List.set_cons_succ, i64_w, i32_w]
                rfl
               refine one_ (i := 10) (N := some 64) #[true, true, true, true, true, true, true, true, true, true, true] rfl rfl (one_of HT_.out (by kernel_rfl)) (by decide) (fun K hK => ?_)
               refine goes_ Tryd.func26 (by kernel_rfl) rfl #[.slice Ao48 t444.length co48, .int .i64 (rd ((rd_T37 x4_2 x5_2).f1) 0)] (by rfl) rfl rfl (by (try simp only [List.map_toArray, List.map_cons, List.map_nil]); first | done | rfl | (simp only [List.length_drop, List.length_take]; rfl)) ?_
               with_reducible refine (laws_isIn.calls k2 _ _ t444 (rd ((rd_T37 x4_2 x5_2).f1) 0) true _ ?side1 ?side2 A37.out).mono ?_
               (case side1 => repeat (first | exact (Kd.R_reads' HO446.out).2.2 | (with_reducible refine Kd.C_alloc ?_ _) | (with_reducible refine Kd.C_drewN ?_ _) | (with_reducible refine Kd.C_drew ?_)))
               (case side2 => exact (Kd.R_reads' HO446.out).2.1)
               rintro e w' ⟨rfl, ⟨nd, rfl⟩⟩
               refine ⟨_, rfl, ?_⟩
               refine hK.out _ _ ⟨hHeld.1, hHeld.2.1, hHeld.2.2.1, hHeld.2.2.2.1, hHeld.2.2.2.2⟩ (fun hHeld => ?_)
               clear hK K
               refine norm_ (a' := ?_) ?_ ?_
               rotate_left
               ·show Act.put _ (some 64) _ = _
                simp only [Act.put, List.setIfInBounds_toArray, List.set_cons_zero, List.set_cons_succ, i64_w, i32_w]
                rfl
               refine done_ (done_of HT_.out (by kernel_rfl)) ?_
               try go_wp2
               go_ret
               exact ⟨by first | rfl | (simp [errW_none, errW_some] <;> rfl) | (simp [*, errW_none, errW_some] <;> rfl), by repeat (first | (with_reducible first | exact HB.out | apply below_alloc | apply pw_below_drewN | apply below_drew1) | exact HB.out)⟩
              ·replace c38 := Bool.eq_false_iff.mpr c38
               subst c38
               have H1 : (laws_FnWithoutUselessLeast.l0 k2 x4_2 (wrap64 (x5_2 + 1))) = some r := by rw [if_neg (show ¬ (false = true) by decide)] at H; exact H
               clear H
               have H := H1
               clear H1
               have H' := Aside0.mk H
               clear H
               obtain ⟨Ao49, co49, eo49⟩ := Kd.N_slice HO_4.out
               subst eo49
               have p430 : 0 ≤ (x5_2 : Int) := of_decide_eq_true (by first | (with_reducible assumption) | assumption)
               have q430 : x5_2 < (x4_2.length : Int) := of_decide_eq_true (by first | (with_reducible assumption) | assumption)
               obtain ⟨ad430, A430_1, c430_1, e430, hx430_0, hx430_1, hx430_2, hx430_3, hl430_1, hi430_1⟩ := at_T37 (Kd.N_reads' HO_4.out).2.2 x5_2 p430 q430
               cases e430
               obtain ⟨ce430, hce430, hMe430, hcc430⟩ := Kd.N_get HO_4.out z37 x5_2 p430 (by first | exact q430 | exact of_decide_eq_true (by first | (with_reducible assumption) | assumption) | (have e_ := (Kd.N_reads' HO_4.out).1; omega))
               obtain ⟨ua430_1, uc430_1, rfl, ul430_1, ge430_1⟩ := k37_openF hMe430
               have hv430_1 := hcc430 1 _ rfl
               rw [add_field _ _ 1 (by omega)] at hv430_1
               replace hv430_1 := Option.some.inj (hv430_1.symm.trans hx430_1)
               injection hv430_1 with hva_ hvn_ hvc_
               rw [hva_] at ge430_1
               rw [hvc_] at ul430_1
               have HL430_1 := Aside0.mk (show Kd.V (Kd.int .i64) 3 _ w.heap.size _ _ ((rd_T37 x4_2 x5_2).f1) from Kd.V_mk ul430_1 ge430_1)
               clear hva_ hvn_ hvc_ ge430_1 ul430_1
               clear hcc430 hce430
               have HR430_1 := Aside0.mk hi430_1
               have HC430_1 := Aside0.mk hl430_1
               clear hi430_1 hl430_1
               replace p430 := eq_true p430
               replace q430 := eq_true q430
               try go_wp2_with (first | ((with_reducible refine gate_dst (N := 41) rfl ?_); (try (refine gate_guard (by rfl) ?_; dsimp only)); refine Kd.N_lit k37 _ 37 ?hg (N' := 41) ?hd (xs := ([] : List (S37))) (inner := []) (ok := (fun k_ => some k_ ≠ (.slice (some ad430) x4_2.length co49 : Value).ownBlock)) (okp := (fun k_ => some k_ ≠ (.slice (some ad430) x4_2.length co49 : Value).ownBlock)) ?hr ?hp (fun _ hk => hk) ((show ∀ k_, wr.heap.size ≤ k_ → (fun k_ => some k_ ≠ (.slice (some ad430) x4_2.length co49 : Value).ownBlock) k_ from fun k_ hk => Kd.fresh' (Kd.N_lt (by (with_reducible repeat (first | apply Kd.N_alloc | apply Kd.N_drewN | apply Kd.N_drew)); exact HO_4.out)) k_ hk) _ (Nat.le_refl _)) (Below.refl _ _) (Nat.le_refl _) (by simp) ?_; (case hd => rfl); (case hg => rfl); (case hr => first | (go_simp; done) | (go_simp; rfl)); (case hp => exact (Reps.none _ _)); intro v432 w50 ho51 hb hg_ hnew_; clear hg_ hnew_; (first | rw [← Ny431.out] at ho51 | (simp only [Int.reduceToNat] at ho51; rw [← Ny431.out] at ho51)); have n0_ := Aside0.mk (Kd.N_elder' (by (with_reducible repeat (first | apply Kd.N_alloc | apply Kd.N_drewN | apply Kd.N_drew)); exact HO_4.out) (by first | exact Kd.N_base ho51 | exact Kd.S_base ho51) hb); have n1_ := Aside0.mk (Kd.V_elder' (by (with_reducible repeat (first | apply Kd.V_alloc | apply Kd.V_drewN | apply Kd.V_drew)); exact HL430_1.out) (by first | exact Kd.N_base ho51 | exact Kd.S_base ho51) hb); have n2_ := Aside0.mk (Kd.N_lower ho51 (below_size (by repeat (first | (with_reducible first | exact HB.out | apply below_alloc | apply pw_below_drewN | apply below_drew1) | exact HB.out)))); have n3_ := Aside0.mk (Kd.C_below (by repeat (first | (with_reducible exact HR430_1.out) | (with_reducible refine Kd.C_alloc ?_ _) | (with_reducible refine Kd.C_drewN ?_ _) | (with_reducible refine Kd.C_drew ?_) | exact HR430_1.out)) hb); have n4_ := Aside0.mk (below_step (by repeat (first | (with_reducible first | exact HB.out | apply below_alloc | apply pw_below_drewN | apply below_drew1) | exact HB.out)) hb); clear HO_4; clear HL430_1; clear HR430_1; clear HB; have HO_4 := n0_; have HL430_1 := n1_; have HO433 := n2_; have HR430_1 := n3_; have HB := n4_; clear n0_ n1_ n2_ n3_ n4_; clear hb ho51) | ((with_reducible refine gate_builtin (b := .append) (xs := #[.tmp 41, .tmp 42]) rfl ?_); (try (refine gate_guard (by rfl) ?_; dsimp only)); at_builtin; refine Kd.N_append_rows k37 (w0 := w) w.heap.size rfl (.tmp 41) (.tmp 42) 26 37 (.agg #[(.int .i64 0), (.slice none 0 0), (.int .i64 0), (.int .i64 0)]) 48 rfl Tryd.underlying26 info37 rfl (by decide) (by omega) v432 y431 x4_2 _ _ _ (fun _ => True) (fun k_ => ((fun _ => True)) k_ ∧ some k_ ≠ (v432 : Value).ownBlock) rfl rfl ?aO ?aR (fun _ hk => hk) ?aF ?aB ?aS ?aL ?_; (case aR => exact (by skip; exact Kd.N_F (Kd.N_mono (ok' := (fun k_ => ((fun _ => True)) k_ ∧ some k_ ≠ (v432 : Value).ownBlock)) (HO_4.out) (fun k_ hk => ⟨trivial, hk.2⟩)))); (case aB => exact (by repeat (first | (with_reducible first | exact HB.out | apply below_alloc | apply pw_below_drewN | apply below_drew1) | exact HB.out))); (case aF => exact (fun _ _ => trivial)); (case aO => exact (by (with_reducible repeat (first | apply Kd.N_alloc | apply Kd.N_drewN | apply Kd.N_drew)); exact Kd.N_mono HO433.out (fun _ hk => trivial))); (case aS => exact (below_size (by repeat (first | (with_reducible first | exact HB.out | apply below_alloc | apply pw_below_drewN | apply below_drew1) | exact HB.out)))); (case aL => have := LMc31.out; omega); intro v435 w52 ho hb hg hat; rw [← Ny434.out] at ho; have n0_ := Aside0.mk (Kd.N_afterv (ok := (fun _ => True)) (by (with_reducible repeat (first | apply Kd.N_alloc | apply Kd.N_drewN | apply Kd.N_drew)); exact HO_4.out) hg hat); have n1_ := Aside0.mk (Kd.V_afterv (ok := (fun k_ => some k_ ≠ (.slice (some ad430) x4_2.length co49 : Value).ownBlock)) (by (with_reducible repeat (first | apply Kd.V_alloc | apply Kd.V_drewN | apply Kd.V_drew)); exact Kd.V_mono HL430_1.out (fun _ hk => ⟨hk.1.2, hk.2⟩)) hg hat); have n2_ := Aside0.mk (hb); have n3_ := Aside0.mk (ho); clear HO_4; clear HL430_1; clear HB; clear HO433; have HO_4 := n0_; have HL430_1 := n1_; have HB := n2_; have HO436 := n3_; clear n0_ n1_ n2_ n3_; clear ho hb hg hat; have p437 : 0 ≤ (x5_2 : Int) := of_decide_eq_true (by first | (with_reducible assumption) | assumption); have q437 : x5_2 < (x4_2.length : Int) := of_decide_eq_true (by first | (with_reducible assumption) | assumption); obtain ⟨ad437, A437_1, c437_1, e437, hx437_0, hx437_1, hx437_2, hx437_3, hl437_1, hi437_1⟩ := at_T37 (Kd.N_reads' HO_4.out).2.2 x5_2 p437 q437; obtain rfl : ad430 = ad437 := (by injection e437); obtain ⟨ce437, hce437, hMe437, hcc437⟩ := Kd.N_get HO_4.out z37 x5_2 p437 (by first | exact q437 | exact of_decide_eq_true (by first | (with_reducible assumption) | assumption) | (have e_ := (Kd.N_reads' HO_4.out).1; omega)); obtain ⟨ua437_1, uc437_1, rfl, ul437_1, ge437_1⟩ := k37_openF hMe437; have hv437_1 := hcc437 1 _ rfl; rw [add_field _ _ 1 (by omega)] at hv437_1; replace hv437_1 := Option.some.inj (hv437_1.symm.trans hx437_1); injection hv437_1 with hva_ hvn_ hvc_; rw [hva_] at ge437_1; rw [hvc_] at ul437_1; have HL437_1 := Aside0.mk (show Kd.V (Kd.int .i64) 3 _ w.heap.size _ _ ((rd_T37 x4_2 x5_2).f1) from Kd.V_mk ul437_1 ge437_1); clear hva_ hvn_ hvc_ ge437_1 ul437_1; clear hcc437 hce437; have HR437_1 := Aside0.mk hi437_1; have HC437_1 := Aside0.mk hl437_1; clear hi437_1 hl437_1; replace p437 := eq_true p437; replace q437 := eq_true q437; have q53 : (1 : Int) ≤ ((((rd_T37 x4_2 x5_2).f1).length : Int) : Int) := of_decide_eq_true (by first | (with_reducible assumption) | assumption); obtain ⟨i053, hi053, _, hsz53, _⟩ := info_parts info3; have hroom53 : ((rd_T37 x4_2 x5_2).f1).length ≤ c437_1 := HC437_1.out; have hC53 : Kd.F (Kd.int .i64) _ _ A437_1 ((rd_T37 x4_2 x5_2).f1).length ((rd_T37 x4_2 x5_2).f1) := (Kd.V_at (base := w.heap.size) HL437_1.out).2.2; have hcut53 := cut_from (P := Tryd.prog) 35 3 .i64 Tryd.underlying35 hi053 1 hsz53 A437_1 ((rd_T37 x4_2 x5_2).f1).length c437_1 1 (by omega) q53; have hr53 := Kd.F_cut (m := (1 : Int).toNat) (c := c437_1) hC53 (by omega) hroom53; obtain ⟨A53, hA53⟩ : ∃ A1, A1 = (if c437_1 = (1 : Int).toNat then A437_1 else (A437_1 : Option Addr).map (·.add ((1 : Int).toNat * 1))) := ⟨_, rfl⟩; obtain ⟨c53, hc53⟩ : ∃ c1, c1 = c437_1 - (1 : Int).toNat := ⟨_, rfl⟩; have hy53 : y438.length = ((rd_T37 x4_2 x5_2).f1).length - (1 : Int).toNat := (by rw [Ny438.out, List.length_drop] <;> omega); rw [show ((rd_T37 x4_2 x5_2).f1).drop (1 : Int).toNat = y438 from Ny438.out.symm] at hr53; replace hr53 : Kd.F (Kd.int .i64) _ _ A53 y438.length y438 := (by rw [hA53]; exact hr53); rw [← hy53, ← hA53, ← hc53] at hcut53; have HO442 := Aside0.mk (show Kd.V (Kd.int .i64) 3 _ w.heap.size _ (.slice A53 y438.length c53) y438 from Kd.V_mk (by rw [hy53, hc53]; exact Nat.sub_le_sub_right hroom53 _) hr53); have HC442 := Aside0.mk (show y438.length ≤ c53 from by rw [hy53, hc53]; exact Nat.sub_le_sub_right hroom53 _); clear hr53 hC53 hroom53 hi053 hsz53 hc53; have KY53 := Aside0.mk hy53; have KA53 := Aside0.mk hA53; clear hy53 hA53; replace q53 := eq_true q53; have p34 : 0 ≤ (x5_2 : Int) := of_decide_eq_true (by first | (with_reducible assumption) | assumption); have q34 : (x5_2 : Int) < ((y434.length : Int) : Int) := of_decide_eq_true (by first | (with_reducible assumption) | assumption); obtain ⟨go34, co34, eo34, gb34, gl34, cl34, HG34⟩ := Kd.N_form HO436.out (by omega); (first | cases eo34 | (injection eo34 with ea_ en_ ec_; (first | subst ea_ | (injection ea_ with ea_; subst ea_)); subst ec_; clear en_)); have GB34 := Aside0.mk gb34; have GG34 := Aside0.mk HG34; clear gb34 gl34 HG34; obtain ⟨ce34, hcl34, hM34, hcc34, hfr34⟩ := Kd.N_elem HO436.out z37 (x5_2 : Int) p34 q34; obtain ⟨ua34_1, uc34_1, rfl, ul34_1, ge34_1⟩ := k37_openF hM34; have hx34_0 : w52.cell? ⟨go34, (x5_2 : Int).toNat * 4, none⟩ = some (.int .i64 ((rd_T37 y434 x5_2).f0)) := hcc34 0 _ rfl; have hx34_1 : w52.cell? ⟨go34, (x5_2 : Int).toNat * 4 + 1, none⟩ = some (.slice ua34_1 ((rd_T37 y434 x5_2).f1).length uc34_1) := hcc34 1 _ rfl; have hx34_2 : w52.cell? ⟨go34, (x5_2 : Int).toNat * 4 + 2, none⟩ = some (.int .i64 ((rd_T37 y434 x5_2).f2)) := hcc34 2 _ rfl; have hx34_3 : w52.cell? ⟨go34, (x5_2 : Int).toNat * 4 + 3, none⟩ = some (.int .i64 ((rd_T37 y434 x5_2).f3)) := hcc34 3 _ rfl; have hf34_0 : w52.frozen? ⟨go34, (x5_2 : Int).toNat * 4, none⟩ = false := hfr34 0; have hf34_1 : w52.frozen? ⟨go34, (x5_2 : Int).toNat * 4 + 1, none⟩ = false := hfr34 1; have hf34_2 : w52.frozen? ⟨go34, (x5_2 : Int).toNat * 4 + 2, none⟩ = false := hfr34 2; have hf34_3 : w52.frozen? ⟨go34, (x5_2 : Int).toNat * 4 + 3, none⟩ = false := hfr34 3; clear hcl34 hcc34 hfr34 hM34; replace p34 := eq_true p34; replace q34 := eq_true q34; have HX54 := Aside0.mk (show Kd.N k37 37 w52 w.heap.size (fun _ => True) (.slice (some ⟨go34, 0, none⟩) y434.length co34) y434 from (by (with_reducible repeat (first | apply Kd.N_alloc | apply Kd.N_drewN | apply Kd.N_drew)); exact HO436.out)); obtain ⟨ce54, hcl54, hM54, hcc54, hfr54⟩ := Kd.N_elem HX54.out z37 (x5_2 : Int) (of_decide_eq_true (by first | (with_reducible assumption) | assumption)) (by have h_ : (x5_2 : Int) < ((y434.length : Int) : Int) := of_decide_eq_true (by first | (with_reducible assumption) | assumption); first | exact h_ | (have e_ := (Kd.N_reads' HO436.out).1; omega) | simpa using h_); obtain ⟨ua54_1, uc54_1, rfl, ul54_1, ge54_1⟩ := k37_openF hM54; have HP54 := Kd.N_seg HX54.out (x5_2 : Int) (of_decide_eq_true (by first | (with_reducible assumption) | assumption)) (by have h_ : (x5_2 : Int) < ((y434.length : Int) : Int) := of_decide_eq_true (by first | (with_reducible assumption) | assumption); first | exact h_ | (have e_ := (Kd.N_reads' HO436.out).1; omega) | simpa using h_) (seg := [.slice A53 y438.length c53]) (j := 1) hcl54 hcc54 (show 2 ≤ 4 from by decide) (x' := (⟨(rd_T37 y434 x5_2).f0, y438, (rd_T37 y434 x5_2).f2, (rd_T37 y434 x5_2).f3⟩ : S37)) (k37_mkF _ _ (⟨(rd_T37 y434 x5_2).f0, y438, (rd_T37 y434 x5_2).f2, (rd_T37 y434 x5_2).f3⟩ : S37) (Kd.V_reads' (Kd.V_mono (ok' := (fun k_ => ((fun _ => True)) k_ ∧ k_ ≠ go34)) (HO442.out) (fun k_ hk => ⟨trivial, fun e_ => (hk.1.2) (by rw [e_]; rfl)⟩))).2.1 (Kd.V_F (Kd.V_mono (ok' := (fun k_ => ((fun _ => True)) k_ ∧ k_ ≠ go34)) (HO442.out) (fun k_ hk => ⟨trivial, fun e_ => (hk.1.2) (by rw [e_]; rfl)⟩)))) (fun _ hk => hk); have hx54_1 := hcc54 1 _ rfl; (try simp only [show (k37).sz = 4 from rfl, Nat.mul_one, Nat.add_zero] at hx54_1); have hf54_1 := hfr54 1; (try simp only [show (k37).sz = 4 from rfl, Nat.mul_one, Nat.add_zero] at hf54_1); clear hcl54 hcc54 hfr54 hM54) | ((with_reducible refine gate_store (t := 35) (p := 53) rfl ?_); refine store_event (t := 35) (p := 53) (v := ?vo_w55) (w1 := (w52.setCell ⟨go34, (x5_2 : Int).toNat * 4 + 1, none⟩ (.slice A53 y438.length c53))) ?hg ?ho ?hn ?hr ?_; (case ho => rfl); (case hg => rfl); (case hn => rfl); (case hr => (first | (go_simp; done) | (go_simp; rfl))); intro w55 hw; have hg : w52.grownBy w55 (some go34) := (by rw [hw]; exact HP54.2); have hp_ : Kd.N k37 37 w55 w.heap.size (fun _ => True) (.slice (some ⟨go34, 0, none⟩) y434.length co34) y443 := (by rw [hw, Ny443.out]; exact HP54.1); clear HP54; have n0_ := Aside0.mk (Kd.N_afterv (v := (.slice (some ⟨go34, 0, none⟩) y434.length co34)) (v1 := (.slice (some ⟨go34, 0, none⟩) y434.length co34)) (ok := (fun _ => True)) (by (with_reducible repeat (first | apply Kd.N_alloc | apply Kd.N_drewN | apply Kd.N_drew)); exact HO_4.out) hg (.inl rfl)); have n1_ := Aside0.mk (Kd.V_afterv (v := (.slice (some ⟨go34, 0, none⟩) y434.length co34)) (v1 := (.slice (some ⟨go34, 0, none⟩) y434.length co34)) (ok := (fun k_ => some k_ ≠ (.slice (some ad430) x4_2.length co49 : Value).ownBlock)) (by (with_reducible repeat (first | apply Kd.V_alloc | apply Kd.V_drewN | apply Kd.V_drew)); exact HL430_1.out) hg (.inl rfl)); have n2_ := Aside0.mk (hp_); have n3_ := Aside0.mk (Kd.V_afterv (v := (.slice (some ⟨go34, 0, none⟩) y434.length co34)) (v1 := (.slice (some ⟨go34, 0, none⟩) y434.length co34)) (ok := (fun k_ => some k_ ≠ (.slice (some ad430) x4_2.length co49 : Value).ownBlock)) (by (with_reducible repeat (first | apply Kd.V_alloc | apply Kd.V_drewN | apply Kd.V_drew)); exact Kd.V_mono HL437_1.out (fun _ hk => ⟨hk.2, hk.1.2⟩)) hg (.inl rfl)); have n4_ := Aside0.mk (Kd.V_afterv (v := (.slice (some ⟨go34, 0, none⟩) y434.length co34)) (v1 := (.slice (some ⟨go34, 0, none⟩) y434.length co34)) (ok := (fun k_ => some k_ ≠ (.slice (some ad430) x4_2.length co49 : Value).ownBlock)) (by (with_reducible repeat (first | apply Kd.V_alloc | apply Kd.V_drewN | apply Kd.V_drew)); exact Kd.V_mono HO442.out (fun _ hk => ⟨hk.2, hk.1.2⟩)) hg (.inl rfl)); have n5_ := Aside0.mk ((by rw [hw]; exact below_set (HB.out) GB34.out : Below w.heap.size w w55)); clear HO_4; clear HL430_1; clear HO436; clear HL437_1; clear HO442; clear HB; have HO_4 := n0_; have HL430_1 := n1_; have HO436 := n2_; have HL437_1 := n3_; have HO442 := n4_; have HB := n5_; clear n0_ n1_ n2_ n3_ n4_ n5_; clear hg hw hp_))
               have n0_ := Aside0.mk (Kd.N_drew HO_4.out)
               have n1_ := Aside0.mk (Kd.V_drew HL430_1.out)
               have n2_ := Aside0.mk (Kd.N_drew HO436.out)
               have n3_ := Aside0.mk (Kd.V_drew HL437_1.out)
               have n4_ := Aside0.mk (Kd.V_drew HO442.out)
               have n5_ := Aside0.mk (below_drew1 HB.out)
               clear HO_4
               clear HL430_1
               clear HO436
               clear HL437_1
               clear HO442
               clear HB
               have HO_4 := n0_
               have HL430_1 := n1_
               have HO436 := n2_
               have HL437_1 := n3_
               have HO442 := n4_
               have HB := n5_
               clear n0_ n1_ n2_ n3_ n4_ n5_
               have p447 : 0 ≤ (x5_2 : Int) := of_decide_eq_true (by first | (with_reducible assumption) | assumption)
               have q447 : x5_2 < (x4_2.length : Int) := of_decide_eq_true (by first | (with_reducible assumption) | assumption)
               obtain ⟨ad447, A447_1, c447_1, e447, hx447_0, hx447_1, hx447_2, hx447_3, hl447_1, hi447_1⟩ := at_T37 (Kd.N_reads' HO_4.out).2.2 x5_2 p447 q447
               obtain rfl : ad430 = ad447 := (by injection e447)
               obtain ⟨ce447, hce447, hMe447, hcc447⟩ := Kd.N_get HO_4.out z37 x5_2 p447 (by first | exact q447 | exact of_decide_eq_true (by first | (with_reducible assumption) | assumption) | (have e_ := (Kd.N_reads' HO_4.out).1; omega))
               obtain ⟨ua447_1, uc447_1, rfl, ul447_1, ge447_1⟩ := k37_openF hMe447
               have hv447_1 := hcc447 1 _ rfl
               rw [add_field _ _ 1 (by omega)] at hv447_1
               replace hv447_1 := Option.some.inj (hv447_1.symm.trans hx447_1)
               injection hv447_1 with hva_ hvn_ hvc_
               rw [hva_] at ge447_1
               rw [hvc_] at ul447_1
               have HL447_1 := Aside0.mk (show Kd.V (Kd.int .i64) 3 _ w.heap.size _ _ ((rd_T37 x4_2 x5_2).f1) from Kd.V_mk ul447_1 ge447_1)
               clear hva_ hvn_ hvc_ ge447_1 ul447_1
               clear hcc447 hce447
               have HR447_1 := Aside0.mk hi447_1
               have HC447_1 := Aside0.mk hl447_1
               clear hi447_1 hl447_1
               replace p447 := eq_true p447
               replace q447 := eq_true q447
               have p448 : 0 ≤ (0 : Int) := (by omega)
               have q448 : 0 < (((rd_T37 x4_2 x5_2).f1).length : Int) := of_decide_eq_true (by first | (with_reducible assumption) | assumption)
               obtain ⟨ad448, e448, hx448_0⟩ := Kd.at_int (by repeat (first | (with_reducible exact HR447_1.out) | (with_reducible refine Kd.C_alloc ?_ _) | (with_reducible refine Kd.C_drewN ?_ _) | (with_reducible refine Kd.C_drew ?_) | exact HR447_1.out)) 0 p448 q448
               cases e448
               have qi448 : (0 < ((rd_T37 x4_2 x5_2).f1).length) = True := eq_true (by omega)
               (try rw [show ((0 : Int)).toNat = 0 from rfl] at hx448_0)
               (try rw [Addr.add_zero'] at hx448_0)
               replace p448 := eq_true p448
               replace q448 := eq_true q448
               refine start_ (n := 11) (S := fun w' => w'.cell? (ad430.add ((x5_2).toNat * 4)) = some (.int .i64 ((rd_T37 x4_2 x5_2).f0)) ∧ w'.cell? ⟨(ad430.add ((x5_2).toNat * 4)).block, (ad430.add ((x5_2).toNat * 4)).off + 1, none⟩ = some (.slice (some ad448) ((rd_T37 x4_2 x5_2).f1).length c447_1) ∧ w'.cell? ⟨(ad430.add ((x5_2).toNat * 4)).block, (ad430.add ((x5_2).toNat * 4)).off + 2, none⟩ = some (.int .i64 ((rd_T37 x4_2 x5_2).f2)) ∧ w'.cell? ⟨(ad430.add ((x5_2).toNat * 4)).block, (ad430.add ((x5_2).toNat * 4)).off + 3, none⟩ = some (.int .i64 ((rd_T37 x4_2 x5_2).f3)) ∧ w'.cell? ad448 = some (.int .i64 (rd ((rd_T37 x4_2 x5_2).f1) 0))) (ds := []) #[false, false, false, false, false, false, false, false, false, false, false] (by kernel_rfl) rfl rfl ⟨hx447_0, hx447_1, hx447_2, hx447_3, hx448_0⟩ (fun hHeld => ?_); refine with_tabW laws_FnWithoutUselessLeast.tab13 laws_FnWithoutUselessLeast.bits13 (fun HT_ HW_ => ?_)
               generalize w55.drew = w56 at HO_4 HL430_1 HO436 HL437_1 HO442 HB HL447_1 HR447_1 hx447_0 hx447_1 hx447_2 hx447_3 hx448_0 hHeld ⊢
               refine pure_ (i := 0) (N := some 54) (v := ?_) (a' := ?_) #[true, false, false, false, false, false, false, false, false, false, false] rfl rfl (any_of HT_.out (by kernel_rfl)) (fun _ _ _ h => h) (Or.inl ⟨by rfl, ?_⟩) ?_ ?_
               rotate_left
               ·intro w'
                go_simp
                with_reducible rfl
               rotate_left
               ·simp only [Act.put, List.setIfInBounds_toArray, List.set_cons_zero, List.set_cons_succ, i64_w, i32_w]
                rfl
               refine pure_ (i := 1) (N := some 55) (v := ?_) (a' := ?_) #[true, true, false, false, false, false, false, false, false, false, false] rfl rfl (any_of HT_.out (by kernel_rfl)) (fun _ _ _ h => h) (Or.inl ⟨by rfl, ?_⟩) ?_ ?_
               rotate_left
               ·intro w'
                go_simp
                with_reducible rfl
               rotate_left
               ·simp only [Act.put, List.setIfInBounds_toArray, List.set_cons_zero, List.set_cons_succ, i64_w, i32_w]
                rfl
               refine pure_ (i := 3) (N := some 57) (v := ?_) (a' := ?_) #[true, true, false, true, false, false, false, false, false, false, false] rfl rfl (any_of HT_.out (by kernel_rfl)) (fun _ _ _ h => h) (Or.inl ⟨by rfl, ?_⟩) ?_ ?_
               rotate_left
               ·intro w'
                go_simp
                with_reducible rfl
               rotate_left
               ·simp only [Act.put, List.setIfInBounds_toArray, List.set_cons_zero, List.set_cons_succ, i64_w, i32_w]
                rfl
               refine pure_ (i := 4) (N := some 58) (v := ?_) (a' := ?_) #[true, true, false, true, true, false, false, false, false, false, false] rfl rfl (any_of HT_.out (by kernel_rfl)) (fun _ _ _ h => h) (Or.inl ⟨by rfl, ?_⟩) ?_ ?_
               rotate_left
               ·intro w'
                go_simp
                with_reducible rfl
               rotate_left
               ·simp only [Act.put, List.setIfInBounds_toArray, List.set_cons_zero, List.set_cons_succ, i64_w, i32_w]
                rfl
               refine pure_ (i := 5) (N := some 59) (v := ?_) (a' := ?_) #[true, true, false, true, true, true, false, false, false, false, false] rfl rfl (any_of HT_.out (by kernel_rfl)) (fun _ _ _ h => h) (Or.inl ⟨by rfl, ?_⟩) ?_ ?_
               rotate_left
               ·intro w'
                go_simp
                with_reducible rfl
               rotate_left
               ·simp only [Act.put, List.setIfInBounds_toArray, List.set_cons_zero, List.set_cons_succ, i64_w, i32_w]
                rfl
               refine pure_ (i := 6) (N := some 60) (v := ?_) (a' := ?_) #[true, true, false, true, true, true, true, false, false, false, false] rfl rfl (any_of HT_.out (by kernel_rfl)) (fun _ _ _ h => h) (Or.inl ⟨by rfl, ?_⟩) ?_ ?_
               rotate_left
               ·intro w'
                go_simp
                with_reducible rfl
               rotate_left
               ·simp only [Act.put, List.setIfInBounds_toArray, List.set_cons_zero, List.set_cons_succ, i64_w, i32_w]
                rfl
               refine take_ (i := 7) (N := some 61) (v := ?_) (a' := ?_) #[true, true, false, true, true, true, true, true, false, false, false] rfl rfl (take_ofW HT_.out HW_.out (by kernel_rfl)) (fun _ _ _ h => h) (Or.inl ⟨by rfl, ?_⟩) hHeld ?_ ?_
               rotate_left
               ·rintro w' ⟨s0, s1, s2, s3, s4⟩
                go_simp
                with_reducible rfl
               rotate_left
               ·simp only [Act.put, List.setIfInBounds_toArray, List.set_cons_zero, List.set_cons_succ, i64_w, i32_w]
                rfl
               refine pure_ (i := 8) (N := some 62) (v := ?_) (a' := ?_) #[true, true, false, true, true, true, true, true, true, false, false] rfl rfl (any_of HT_.out (by kernel_rfl)) (fun _ _ _ h => h) (Or.inl ⟨by rfl, ?_⟩) ?_ ?_
               rotate_left
               ·intro w'
                go_simp
                with_reducible rfl
               rotate_left
               ·simp only [Act.put, List.setIfInBounds_toArray, List.set_cons_zero, List.set_cons_succ, i64_w, i32_w]
                rfl
               refine take_ (i := 9) (N := some 63) (v := ?_) (a' := ?_) #[true, true, false, true, true, true, true, true, true, true, false] rfl rfl (take_ofW HT_.out HW_.out (by kernel_rfl)) (fun _ _ _ h => h) (Or.inl ⟨by rfl, ?_⟩) hHeld ?_ ?_
               rotate_left
               ·rintro w' ⟨s0, s1, s2, s3, s4⟩
                go_simp
                with_reducible rfl
               rotate_left
               ·simp only [Act.put, List.setIfInBounds_toArray, List.set_cons_zero, List.set_cons_succ, i64_w, i32_w]
                rfl
               refine one_ (i := 2) (N := some 56) #[true, true, true, true, true, true, true, true, true, true, false] rfl rfl (one_of HT_.out (by kernel_rfl)) (by decide) (fun K hK => ?_)
               refine goes_ Tryd.func27 (by kernel_rfl) rfl #[.slice (some ⟨go34, 0, none⟩) y443.length co34, .int .i64 x5_2] (by rfl) rfl rfl (by (try simp only [List.map_toArray, List.map_cons, List.map_nil]); first | done | (rw [show y443.length = y434.length from (Kd.N_reads' HO436.out).1.symm] <;> rfl) | rfl | (simp only [List.length_drop, List.length_take]; rfl)) ?_
               with_reducible refine (impl_AllNeeds.calls _ _ y443 x5_2 t444 _ ?side1 ?side2 ?side3 A35.out).mono ?_
               (case side1 => repeat (first | exact (Kd.N_reads' HO436.out).2.2 | (with_reducible refine Kd.C_alloc ?_ _) | (with_reducible refine Kd.C_drewN ?_ _) | (with_reducible refine Kd.C_drew ?_)))
               (case side2 => rw [show y443.length = y434.length from (Kd.N_reads' HO436.out).1.symm]; exact (Kd.N_reads' HO436.out).2.1)
               (case side3 => exact Tab.of HT.out (by repeat (first | (with_reducible first | exact HB.out | apply below_alloc | apply pw_below_drewN | apply below_drew1) | exact HB.out)))
               rintro e w57 ⟨v445, rfl, ho0, hb⟩
               have HS0_ := (hb.cell (World.block_lt_of_cell? _ _ (hHeld.1))).trans (hHeld.1)
               (try have HS0_ := (hb.cell (World.block_lt_of_cell? _ _ (hHeld.1))).trans (hHeld.1))
               have HS1_ := (hb.cell (World.block_lt_of_cell? _ _ (hHeld.2.1))).trans (hHeld.2.1)
               have HS2_ := (hb.cell (World.block_lt_of_cell? _ _ (hHeld.2.2.1))).trans (hHeld.2.2.1)
               have HS3_ := (hb.cell (World.block_lt_of_cell? _ _ (hHeld.2.2.2.1))).trans (hHeld.2.2.2.1)
               have HS4_ := (hb.cell (World.block_lt_of_cell? _ _ (hHeld.2.2.2.2))).trans (hHeld.2.2.2.2)
               refine ⟨_, rfl, ?_⟩
               have n0_ := Aside0.mk (Kd.N_elder' (by (with_reducible repeat (first | apply Kd.N_alloc | apply Kd.N_drewN | apply Kd.N_drew)); exact HO_4.out) (Kd.R_base ho0) hb)
               have n1_ := Aside0.mk (Kd.V_elder' (by (with_reducible repeat (first | apply Kd.V_alloc | apply Kd.V_drewN | apply Kd.V_drew)); exact HL430_1.out) (Kd.R_base ho0) hb)
               have n2_ := Aside0.mk (Kd.N_elder' (by (with_reducible repeat (first | apply Kd.N_alloc | apply Kd.N_drewN | apply Kd.N_drew)); exact HO436.out) (Kd.R_base ho0) hb)
               have n3_ := Aside0.mk (Kd.V_elder' (by (with_reducible repeat (first | apply Kd.V_alloc | apply Kd.V_drewN | apply Kd.V_drew)); exact HL437_1.out) (Kd.R_base ho0) hb)
               have n4_ := Aside0.mk (Kd.V_elder' (by (with_reducible repeat (first | apply Kd.V_alloc | apply Kd.V_drewN | apply Kd.V_drew)); exact HO442.out) (Kd.R_base ho0) hb)
               have n5_ := Aside0.mk (Kd.V_elder' (by (with_reducible repeat (first | apply Kd.V_alloc | apply Kd.V_drewN | apply Kd.V_drew)); exact HL447_1.out) (Kd.R_base ho0) hb)
               have n6_ := Aside0.mk (Kd.R_lower ho0 (below_size (by repeat (first | (with_reducible first | exact HB.out | apply below_alloc | apply pw_below_drewN | apply below_drew1) | exact HB.out))))
               have n7_ := Aside0.mk (Kd.C_below (by repeat (first | (with_reducible exact HR447_1.out) | (with_reducible refine Kd.C_alloc ?_ _) | (with_reducible refine Kd.C_drewN ?_ _) | (with_reducible refine Kd.C_drew ?_) | exact HR447_1.out)) hb)
               have n8_ := Aside0.mk (below_step (by repeat (first | (with_reducible first | exact HB.out | apply below_alloc | apply pw_below_drewN | apply below_drew1) | exact HB.out)) hb)
               clear HO_4
               clear HL430_1
               clear HO436
               clear HL437_1
               clear HO442
               clear HL447_1
               clear HR447_1
               clear HB
               have HO_4 := n0_
               have HL430_1 := n1_
               have HO436 := n2_
               have HL437_1 := n3_
               have HO442 := n4_
               have HL447_1 := n5_
               have HO446 := n6_
               have HR447_1 := n7_
               have HB := n8_
               clear n0_ n1_ n2_ n3_ n4_ n5_ n6_ n7_ n8_
               (try clear hb)
               (try clear hb2)
               (try clear hk)
               (try clear hi)
               (try clear ho0)
               obtain ⟨Ao58, co58, eo58⟩ := Kd.R_slice HO446.out
               (first | subst eo58 | (injection eo58 with f1_ f2_ f3_; have f4_ := f1_.symm; have f5_ := f3_.symm; clear f1_ f2_ f3_; subst f4_; subst f5_))
               refine hK.out _ _ ⟨HS0_, HS1_, HS2_, HS3_, HS4_⟩ (fun hHeld => ?_)
               clear hK K
               refine norm_ (a' := ?_) ?_ ?_
               rotate_left
               ·show Act.put _ (some 56) _ = _
                simp only [Act.put, List.setIfInBounds_toArray, List.set_cons_zero, List.set_cons_succ, i64_w, i32_w]
                rfl
               refine one_ (i := 10) (N := some 64) #[true, true, true, true, true, true, true, true, true, true, true] rfl rfl (one_of HT_.out (by kernel_rfl)) (by decide) (fun K hK => ?_)
               refine goes_ Tryd.func26 (by kernel_rfl) rfl #[.slice Ao58 t444.length co58, .int .i64 (rd ((rd_T37 x4_2 x5_2).f1) 0)] (by rfl) rfl rfl (by (try simp only [List.map_toArray, List.map_cons, List.map_nil]); first | done | rfl | (simp only [List.length_drop, List.length_take]; rfl)) ?_
               with_reducible refine (laws_isIn.calls k2 _ _ t444 (rd ((rd_T37 x4_2 x5_2).f1) 0) false _ ?side1 ?side2 A37.out).mono ?_
               (case side1 => repeat (first | exact (Kd.R_reads' HO446.out).2.2 | (with_reducible refine Kd.C_alloc ?_ _) | (with_reducible refine Kd.C_drewN ?_ _) | (with_reducible refine Kd.C_drew ?_)))
               (case side2 => exact (Kd.R_reads' HO446.out).2.1)
               rintro e w' ⟨rfl, ⟨nd, rfl⟩⟩
               refine ⟨_, rfl, ?_⟩
               refine hK.out _ _ ⟨hHeld.1, hHeld.2.1, hHeld.2.2.1, hHeld.2.2.2.1, hHeld.2.2.2.2⟩ (fun hHeld => ?_)
               clear hK K
               refine norm_ (a' := ?_) ?_ ?_
               rotate_left
               ·show Act.put _ (some 64) _ = _
                simp only [Act.put, List.setIfInBounds_toArray, List.set_cons_zero, List.set_cons_succ, i64_w, i32_w]
                rfl
               refine done_ (done_of HT_.out (by kernel_rfl)) ?_
               try go_wp2
               go_roundg k2
               case measure => have := HJ4.out; have := HK2.out; omega
               case rel => exact ⟨(x4_2), (wrap64 (x5_2 + 1)), (by first | rfl | (simp; done) | (simp [*]; done)), H', ⟨by have := HJ4.out; have := HK2.out; omega⟩, ⟨by (with_reducible repeat (first | apply Kd.N_alloc | apply Kd.N_drewN | apply Kd.N_drew)); exact Kd.N_mono HO_4.out (fun _ hk => trivial)⟩, ⟨by repeat (first | (with_reducible first | exact HB.out | apply below_alloc | apply pw_below_drewN | apply below_drew1) | exact HB.out)⟩⟩
             ·rw [if_neg c36] at H
              exact absurd H (by simp)
            ·rw [if_neg c33] at H
             exact absurd H (by simp)
           ·rw [if_neg c32] at H
            exact absurd H (by simp)
          ·rw [if_neg c31] at H
           exact absurd H (by simp)
        ·rw [if_neg c28] at H
         exact absurd H (by simp)
       ·rw [if_neg c27] at H
        have c27b0 : decide (x5_2 < (x4_2.length : Int)) = false := decide_eq_false c27
        clear c27
        obtain rfl := Option.some.inj H
        obtain ⟨Ao59, co59, eo59⟩ := Kd.N_slice HO_4.out
        subst eo59
        go_wp2
        go_ret
        exact ⟨by first | rfl | (simp [errW_none, errW_some] <;> rfl) | (simp [*, errW_none, errW_some] <;> rfl), by repeat (first | (with_reducible first | exact HB.out | apply below_alloc | apply pw_below_drewN | apply below_drew1) | exact HB.out)⟩
end Go.Proofs.YtekajandipdlhaaDoor.P
end
