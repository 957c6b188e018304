/- The law FnWithoutUselessTimes holds of the given program: the proof's own part, with its row and its card, part 8 of 11. -/
import Derived.Test.YtpibdjkajgfgjaaDoorZFnWithoutUselessTimes7
namespace Go.Proofs.YtpibdjkajgfgjaaDoor.P
abbrev T8q : Bool := true
abbrev F8q : Bool := false
end Go.Proofs.YtpibdjkajgfgjaaDoor.P
section
set_option linter.unusedVariables false
set_option linter.unusedSimpArgs false
namespace Go.Proofs.YtpibdjkajgfgjaaDoor.Core
open Go Go.RowKit Go.Proofs.YtpibdjkajgfgjaaDoorW.PrintWords Go.Proofs.YtpibdjkajgfgjaaDoorW.PrintLast Go.Proofs.YtpibdjkajgfgjaaDoorW.PrintMore Go.Proofs.YtpibdjkajgfgjaaDoor.P
/-- A task without its useless needs. -/
def wtask (G : GD) (g : List Tk) (i : Nat) : Tk := ⟨(g.getD i z48).f0, elems (sub (G.needs.getD i 0) (uselessD G i)), (g.getD i z48).f2, (g.getD i z48).f3⟩
def withoutTo (G : GD) (g : List Tk) (n : Nat) : List Tk := (List.range n).map (wtask G g)
theorem withoutTo_succ (G : GD) (g : List Tk) (n : Nat) : withoutTo G g (n + 1) = withoutTo G g n ++ [wtask G g n] := by unfold withoutTo; rw [List.range_succ, List.map_append]; rfl
theorem withoutTo_length (G : GD) (g : List Tk) (n : Nat) : (withoutTo G g n).length = n := by simp [withoutTo]
theorem four_set {w : World} {g t : Nat} {o0 o1 o2 o3 : Value} (h : w.heap[g]? = some (.cells #[o0, o1, o2, o3] t (0, 0))) (v0 v1 v2 v3 : Value) :
  ((((w.setCell ⟨g, 0, none⟩ v0).setCell ⟨g, 1, none⟩ v1).setCell ⟨g, 2, none⟩ v2).setCell ⟨g, 3, none⟩ v3).heap[g]? = some (.cells #[v0, v1, v2, v3] t (0, 0)) ∧ w.grownBy ((((w.setCell ⟨g, 0, none⟩ v0).setCell ⟨g, 1, none⟩ v1).setCell ⟨g, 2, none⟩ v2).setCell ⟨g, 3, none⟩ v3) (some g) :=
 ⟨blk_put (blk_put (blk_put (blk_put h 0 v0 rfl) 1 v1 rfl) 2 v2 rfl) 3 v3 rfl, grown_trans (grown_trans (grown_trans (grownBy_setCell'' _ _ _ _) (grownBy_setCell'' _ _ _ _)) (grownBy_setCell'' _ _ _ _)) (grownBy_setCell'' _ _ _ _)⟩
def withoutD (g : List Tk) : List Tk := match graphD g with
 | none => []
 | some G => withoutTo G g g.length
end Go.Proofs.YtpibdjkajgfgjaaDoor.Core
namespace Go.Proofs.YtpibdjkajgfgjaaDoor.P
open Go Go.RowKit Go.Shelf Go.Proofs.YtpibdjkajgfgjaaDoorW.PrintWords Go.Proofs.YtpibdjkajgfgjaaDoorW.PrintLast Go.Proofs.YtpibdjkajgfgjaaDoorW.PrintMore Go.Proofs.YtpibdjkajgfgjaaDoor.Core
attribute [local go_sem] Oper.semAt_some wide_fn wide_depth
def impl_WithoutUseless.f (l0 : List S48) : Option (List S48) := some (withoutD l0)
set_option maxRecDepth 100000 in
set_option maxHeartbeats 8000000 in
theorem impl_WithoutUseless.calls (A0 : Option Addr) (c0 : Nat) (l0 : List S48) (r : List S48) (w : World) (hr0 : Kd.C k48 w A0 l0.length l0) (hc0 : l0.length ≤ c0) (hT : Tab w) (h : impl_WithoutUseless.f l0 = some r) :
  Calls Tryd.prog 40 #[.slice A0 l0.length c0] w fun e w' => ∃ v0_ : Value, e = .returned (v0_) ∧ Kd.S k48 48 w' w.heap.size (fun _ => True) v0_ r ∧ Below w.heap.size w w' := by
 have hr : r = withoutD l0 := (Option.some.inj h).symm
 subst hr
 clear h
 cases hg : graphD l0 with
 | none =>
  have hcd : withoutD l0 = [] := by unfold withoutD; rw [hg]
  rw [hcd]
  have HG := Aside0.mk (graphOf_none A0 c0 l0 w hT hr0 hc0 hg)
  clear hr0 hT hg hcd
  go_enter Tryd.func40, Tryd.ntmps40
  go_wp2_with (go_at_call 60; refine HG.out.mono ?_; rintro e w' ⟨rfl, hB⟩)
  go_ret
  exact ⟨_, rfl, Kd.S_nil _ _ _ _ _, hB⟩
 | some G =>
  have hcd : withoutD l0 = withoutTo G l0 l0.length := by unfold withoutD; rw [hg]
  rw [hcd]
  have HG := Aside0.mk (graphOf_some A0 c0 l0 G w hT hr0 hc0 hg)
  have OK := Aside0.mk (graphD_ok hg)
  have HE := Aside0.mk (show G.tasks = l0 by obtain ⟨N, _, _, rfl⟩ := graphD_spec hg; rfl)
  have HR0 := Aside0.mk hr0
  have HC0 := Aside0.mk hc0
  have HTw := Aside0.mk hT
  clear hr0 hc0 hT hg hcd
  go_enter Tryd.func40, Tryd.ntmps40
  have hn8 : l0.length ≤ 8 := by have := OK.out.n8; rw [HE.out] at this; exact this
  have dc1 : decide (0 ≤ (l0.length : Int)) = true := decide_eq_true (by omega)
  have HN8 := Aside0.mk hn8
  clear hn8
  go_wp2_with (first | (go_at_call 60; refine HG.out.mono ?_; rintro e w1 ⟨b, rfl, hB, hI⟩; have HB1 := Aside0.mk hB; have HI := Aside0.mk hI; clear hB hI HG) | ((with_reducible refine gate_dst (N := 17) rfl ?_); refine Kd.S_make0 k48 _ 48 rfl (N := 17) rfl 26 _ _ rfl (l0.length : Int) rfl rfl Tryd.underlying26 (.agg #[(.int .i64 0), (.slice none 0 0), (.int .i64 0), (.int .i64 0)]) 48 info48 rfl (by decide) (by omega) (ok := fun _ => True) trivial (by omega) (by have := HN8.out; omega) (Below.refl _ _) (Nat.le_refl _) ?_; intro v5 w2 ho hb hg_ hnew_; clear hg_ hnew_; have HO := Aside0.mk ho; have HB := Aside0.mk hb; clear ho hb))
  go_loopg [5, 20] l0.length (fun kq v5 v20 w' => ∃ (j : Nat) (x : Int), v20 = .int .i64 x ∧ Aside0 (kq + j = l0.length ∧ x = (j : Int)) ∧ Aside0 (Kd.S k48 48 w' w1.heap.size (fun _ => True) v5 (withoutTo G l0 j)) ∧ Aside0 (Below w1.heap.size w1 w'))
  case atStart => exact ⟨0, 0, rfl, ⟨by omega, rfl⟩, ⟨HO.out⟩, ⟨HB.out⟩⟩
  case round =>
   clear HO HB
   obtain ⟨j, x, rfl, HJ, HO, HB⟩ := hrel
   by_cases hlt : j < l0.length
   ·have hx := HJ.out.2
    have hd : decide (x < (l0.length : Int)) = true := decide_eq_true (by omega)
    have p0 : 0 ≤ x := by omega
    have q0 : x < (l0.length : Int) := by omega
    obtain ⟨ad, A1, c1, e0, h0, h1, h2, h3, h4, h5⟩ := at_T48 HR0.out x p0 q0
    subst e0
    have HBw := below_step HB1.out HB.out
    replace h0 := (HBw.cell (World.block_lt_of_cell? w _ h0)).trans h0
    replace h1 := (HBw.cell (World.block_lt_of_cell? w _ h1)).trans h1
    replace h2 := (HBw.cell (World.block_lt_of_cell? w _ h2)).trans h2
    replace h3 := (HBw.cell (World.block_lt_of_cell? w _ h3)).trans h3
    have ht : rd_T48 l0 x = l0.getD j z48 := by rw [hx]; simp [rd_T48]
    obtain ⟨tk, htk⟩ : ∃ t, t = l0.getD j z48 := ⟨_, rfl⟩
    rw [ht, ← htk] at h0 h1 h2 h3
    have HTK := Aside0.mk htk
    have HLT := Aside0.mk hlt
    replace p0 := eq_true p0
    replace q0 := eq_true q0
    clear ht htk h4 h5 HBw hlt hx
    go_wp2_with ((with_reducible refine gate_dst (N := 7) rfl ?_); refine box_event ?hg (N := 7) ?hd (cs := #[.int .i64 0, .slice none 0 0, .int .i64 0, .int .i64 0]) (t := 48) ?hr ?_; (case hd => rfl); (case hg => rfl); (case hr => first | (go_simp; done) | (go_simp; rfl)); intro gb hg w7 hbox hb; have n0 := Aside0.mk (Kd.S_below (Kd.S_elderB HO.out gb (Nat.le_of_eq hg.symm)) hb); have n1 := Aside0.mk (below_step HB.out hb); have GE := Aside0.mk (show w1.heap.size ≤ gb by rw [hg]; exact HB.out.size); clear HO HB hb hg; have HO := n0; have HB := n1; have BK := Aside0.mk hbox; clear n0 n1 hbox; have z0 : w7.cell? ⟨gb, 0, none⟩ = some (.int .i64 0) := (blk_cell BK.out 0).trans rfl; have z1 : w7.cell? ⟨gb, 1, none⟩ = some (.slice none 0 0) := (blk_cell BK.out 1).trans rfl; have z2 : w7.cell? ⟨gb, 2, none⟩ = some (.int .i64 0) := (blk_cell BK.out 2).trans rfl; have z3 : w7.cell? ⟨gb, 3, none⟩ = some (.int .i64 0) := (blk_cell BK.out 3).trans rfl; have f0 := blk_frozen BK.out 0; have f1 := blk_frozen BK.out 1; have f2 := blk_frozen BK.out 2; have f3 := blk_frozen BK.out 3)
    have h8 := four_set BK.out (.int .i64 tk.f0) (.slice A1 tk.f1.length c1) (.int .i64 tk.f2) (.int .i64 tk.f3)
    have HO8 := Aside0.mk (show Kd.S k48 48 _ w1.heap.size (fun k => k ≠ gb) u5 (withoutTo G l0 j) from Kd.S_grown (Kd.S_mono HO.out (fun k hk => hk.2)) h8.2 (fun k hk e => hk (by injection e)))
    have HB8 := Aside0.mk (below_put h8.2 HB.out (Nat.le_refl _) GE.out)
    have BK8 := Aside0.mk h8.1
    clear h8 HO HB BK z0 z1 z2 z3 f0 f1 f2 f3 h0 h1 h2 h3 p0 q0 hd
    revert HO8 HB8 BK8
    generalize ((((w7.setCell ⟨gb, 0, none⟩ (.int .i64 tk.f0)).setCell ⟨gb, 1, none⟩ (.slice A1 tk.f1.length c1)).setCell ⟨gb, 2, none⟩ (.int .i64 tk.f2)).setCell ⟨gb, 3, none⟩ (.int .i64 tk.f3)) = wa
    intro HO8 HB8 BK8
    have hgd0 := HI.out.move HB8.out
    have hTd0 := HTw.out.of (below_step HB1.out HB8.out)
    obtain ⟨An, cn, hcn, _, hCn⟩ := hgd0.needs
    have hx := HJ.out.2
    have hlt := HLT.out
    have hnl := OK.out.nl
    rw [HE.out] at hnl
    have p1 : 0 ≤ x := by omega
    have q1 : x < (G.needs.length : Int) := by omega
    obtain ⟨adn, e1, hxn⟩ := Kd.at_int hCn x p1 q1
    subst e1
    rw [rd_up (i := j) hx] at hxn
    have h256 := pow8 OK.out.n8
    have hsl := Nat.lt_of_lt_of_le (getD_lt OK.out.nb j) h256
    have hul := Nat.lt_of_lt_of_le (uselessD_lt OK.out j) h256
    have hp : wtask G l0 j = ⟨tk.f0, elems (sub (G.needs.getD j 0) (uselessD G j)), tk.f2, tk.f3⟩ := by unfold wtask; rw [← HTK.out]
    have HU := fun W hT hg => useless_calls b G j W hT hg OK.out (by rw [HE.out]; exact hlt)
    rw [← hx] at HU
    generalize G.needs.getD j 0 = s at hxn hsl hp
    generalize uselessD G j = u at hul hp HU
    have hand := andNot_eq hsl hul
    have hr2 : sub s u < 256 := sub_lt hsl
    generalize sub s u = r2 at hand hr2 hp
    have HP := Aside0.mk hp
    replace p1 := eq_true p1
    replace q1 := eq_true q1
    clear hp hx hlt hnl hCn hsl hul
    refine start_ (n := 14) (S := fun w' => w'.cell? ⟨b, 1, none⟩ = some (.slice (some adn) G.needs.length cn) ∧ w'.cell? (adn.add x.toNat) = some (.int .u16 (s : Int))) (ds := [13]) #[F8q,F8q,F8q,F8q,F8q,F8q,F8q,F8q,F8q,F8q,F8q,F8q,F8q,F8q] rfl (by kernel_rfl) rfl ⟨hcn, hxn⟩ (fun hHeld => ?_)
    have hdr : Below wa.heap.size wa wa.drew := below_drew (Below.refl _ _)
    have HBd := Aside0.mk (below_step HB8.out hdr)
    have HOd := Aside0.mk (Kd.S_below HO8.out hdr)
    have BKd := Aside0.mk ((hdr.block gb (cells_lt BK8.out)).trans BK8.out)
    have hgd := hgd0.move hdr
    have hTd := hTd0.of hdr
    revert HBd HOd BKd hgd hTd hHeld
    clear hdr hgd0 hTd0 hcn hxn HO8 HB8 BK8
    generalize wa.drew = wd
    intro hHeld HBd HOd BKd hgd hTd
    refine pure_ (i := 0) (N := some 25) (v := ?_) (a' := ?_) #[T8q,F8q,F8q,F8q,F8q,F8q,F8q,F8q,F8q,F8q,F8q,F8q,F8q,F8q] rfl rfl (by kernel_rfl) (fun _ _ _ h => h) (Or.inl ⟨by rfl, ?_⟩) ?_ ?_
    rotate_left
    ·intro w'
     go_simp
     with_reducible rfl
    rotate_left
    ·simp only [Act.put, List.setIfInBounds_toArray, List.set_cons_zero, List.set_cons_succ, i64_w, i32_w]
     rfl
    refine pure_ (i := 1) (N := some 26) (v := ?_) (a' := ?_) #[T8q,T8q,F8q,F8q,F8q,F8q,F8q,F8q,F8q,F8q,F8q,F8q,F8q,F8q] rfl rfl (by kernel_rfl) (fun _ _ _ h => h) (Or.inl ⟨by rfl, ?_⟩) ?_ ?_
    rotate_left
    ·intro w'
     go_simp
     with_reducible rfl
    rotate_left
    ·simp only [Act.put, List.setIfInBounds_toArray, List.set_cons_zero, List.set_cons_succ, i64_w, i32_w]
     rfl
    refine pure_ (i := 2) (N := some 27) (v := ?_) (a' := ?_) #[T8q,T8q,T8q,F8q,F8q,F8q,F8q,F8q,F8q,F8q,F8q,F8q,F8q,F8q] rfl rfl (by kernel_rfl) (fun _ _ _ h => h) (Or.inl ⟨by rfl, ?_⟩) ?_ ?_
    rotate_left
    ·intro w'
     go_simp
     with_reducible rfl
    rotate_left
    ·simp only [Act.put, List.setIfInBounds_toArray, List.set_cons_zero, List.set_cons_succ, i64_w, i32_w]
     rfl
    refine take_ (i := 3) (N := some 28) (v := ?_) (a' := ?_) #[T8q,T8q,T8q,T8q,F8q,F8q,F8q,F8q,F8q,F8q,F8q,F8q,F8q,F8q] rfl rfl (by kernel_rfl) (fun _ _ _ h => h) (Or.inl ⟨by rfl, ?_⟩) hHeld ?_ ?_
    rotate_left
    ·rintro w' ⟨s0, s1⟩
     go_simp
     with_reducible rfl
    rotate_left
    ·simp only [Act.put, List.setIfInBounds_toArray, List.set_cons_zero, List.set_cons_succ, i64_w, i32_w]
     rfl
    refine pure_ (i := 4) (N := some 29) (v := ?_) (a' := ?_) #[T8q,T8q,T8q,T8q,T8q,F8q,F8q,F8q,F8q,F8q,F8q,F8q,F8q,F8q] rfl rfl (by kernel_rfl) (fun _ _ _ h => h) (Or.inl ⟨by rfl, ?_⟩) ?_ ?_
    rotate_left
    ·intro w'
     go_simp
     with_reducible rfl
    rotate_left
    ·simp only [Act.put, List.setIfInBounds_toArray, List.set_cons_zero, List.set_cons_succ, i64_w, i32_w]
     rfl
    refine pure_ (i := 5) (N := some 30) (v := ?_) (a' := ?_) #[T8q,T8q,T8q,T8q,T8q,T8q,F8q,F8q,F8q,F8q,F8q,F8q,F8q,F8q] rfl rfl (by kernel_rfl) (fun _ _ _ h => h) (Or.inl ⟨by rfl, ?_⟩) ?_ ?_
    rotate_left
    ·intro w'
     go_simp
     with_reducible rfl
    rotate_left
    ·simp only [Act.put, List.setIfInBounds_toArray, List.set_cons_zero, List.set_cons_succ, i64_w, i32_w]
     rfl
    refine take_ (i := 6) (N := some 31) (v := ?_) (a' := ?_) #[T8q,T8q,T8q,T8q,T8q,T8q,T8q,F8q,F8q,F8q,F8q,F8q,F8q,F8q] rfl rfl (by kernel_rfl) (fun _ _ _ h => h) (Or.inl ⟨by rfl, ?_⟩) hHeld ?_ ?_
    rotate_left
    ·rintro w' ⟨s0, s1⟩
     go_simp
     with_reducible rfl
    rotate_left
    ·simp only [Act.put, List.setIfInBounds_toArray, List.set_cons_zero, List.set_cons_succ, i64_w, i32_w]
     rfl
    refine pure_ (i := 7) (N := some 32) (v := ?_) (a' := ?_) #[T8q,T8q,T8q,T8q,T8q,T8q,T8q,T8q,F8q,F8q,F8q,F8q,F8q,F8q] rfl rfl (by kernel_rfl) (fun _ _ _ h => h) (Or.inl ⟨by rfl, ?_⟩) ?_ ?_
    rotate_left
    ·intro w'
     go_simp
     with_reducible rfl
    rotate_left
    ·simp only [Act.put, List.setIfInBounds_toArray, List.set_cons_zero, List.set_cons_succ, i64_w, i32_w]
     rfl
    refine pure_ (i := 8) (N := some 33) (v := ?_) (a' := ?_) #[T8q,T8q,T8q,T8q,T8q,T8q,T8q,T8q,T8q,F8q,F8q,F8q,F8q,F8q] rfl rfl (by kernel_rfl) (fun _ _ _ h => h) (Or.inl ⟨by rfl, ?_⟩) ?_ ?_
    rotate_left
    ·intro w'
     go_simp
     with_reducible rfl
    rotate_left
    ·simp only [Act.put, List.setIfInBounds_toArray, List.set_cons_zero, List.set_cons_succ, i64_w, i32_w]
     rfl
    refine one_ (i := 9) (N := some 34) #[T8q,T8q,T8q,T8q,T8q,T8q,T8q,T8q,T8q,T8q,F8q,F8q,F8q,F8q] rfl rfl (by kernel_rfl) (by decide) (fun K hK => ?_)
    refine goes_ Tryd.func83 (by kernel_rfl) rfl #[.pointer (some ⟨b, 0, none⟩), .int .i64 x] (by rfl) rfl rfl (by (try simp only [List.map_toArray, List.map_cons, List.map_nil]); rfl) ?_
    refine (HU wd hTd hgd).mono ?_
    rintro e w8 ⟨rfl, hb8⟩
    refine ⟨_, rfl, ?_⟩
    have hHeld8 : w8.cell? ⟨b, 1, none⟩ = some (.slice (some adn) G.needs.length cn) ∧ w8.cell? (adn.add x.toNat) = some (.int .u16 (s : Int)) := ⟨(hb8.cell (World.block_lt_of_cell? _ _ hHeld.1)).trans hHeld.1, (hb8.cell (World.block_lt_of_cell? _ _ hHeld.2)).trans hHeld.2⟩
    refine hK.out _ _ hHeld8 (fun _ => ?_)
    clear hK K
    refine norm_ (a' := ?_) ?_ ?_
    rotate_left
    ·show Act.put _ (some 34) _ = _
     simp only [Act.put, List.setIfInBounds_toArray, List.set_cons_zero, List.set_cons_succ, i64_w, i32_w]
     rfl
    refine pure_ (i := 10) (N := some 35) (v := ?_) (a' := ?_) #[T8q,T8q,T8q,T8q,T8q,T8q,T8q,T8q,T8q,T8q,T8q,F8q,F8q,F8q] rfl rfl (by kernel_rfl) (fun _ _ _ h => h) (Or.inl ⟨by rfl, ?_⟩) ?_ ?_
    rotate_left
    ·intro w'
     go_simp
     with_reducible rfl
    rotate_left
    ·simp only [Act.put, List.setIfInBounds_toArray, List.set_cons_zero, List.set_cons_succ, i64_w, i32_w]
     rfl
    try rw [hand]
    refine one_ (i := 11) (N := some 36) #[T8q,T8q,T8q,T8q,T8q,T8q,T8q,T8q,T8q,T8q,T8q,T8q,F8q,F8q] rfl rfl (by kernel_rfl) (by decide) (fun K hK => ?_)
    refine goes_ Tryd.func76 (by kernel_rfl) rfl #[.int .u16 (r2 : Int)] (by rfl) rfl rfl (by (try simp only [List.map_toArray, List.map_cons, List.map_nil]); rfl) ?_
    refine (list_calls r2 hr2 w8 (hTd.of hb8)).mono ?_
    rintro e w9 ⟨v9, rfl, ho9, hb9⟩
    refine ⟨_, rfl, ?_⟩
    have hHeld9 : w9.cell? ⟨b, 1, none⟩ = some (.slice (some adn) G.needs.length cn) ∧ w9.cell? (adn.add x.toNat) = some (.int .u16 (s : Int)) := ⟨(hb9.cell (World.block_lt_of_cell? _ _ hHeld8.1)).trans hHeld8.1, (hb9.cell (World.block_lt_of_cell? _ _ hHeld8.2)).trans hHeld8.2⟩
    obtain ⟨A9, c9, e9⟩ := Kd.R_slice ho9
    subst e9
    have BK9 := Aside0.mk ((hb9.block gb (Nat.lt_of_lt_of_le (cells_lt BKd.out) hb8.size)).trans ((hb8.block gb (cells_lt BKd.out)).trans BKd.out))
    have hc9 := blk_cell BK9.out 1
    have hf9 := blk_frozen BK9.out 1
    refine hK.out _ _ hHeld9 (fun _ => ?_)
    clear hK K
    refine norm_ (a' := ?_) ?_ ?_
    rotate_left
    ·show Act.put _ (some 36) _ = _
     simp only [Act.put, List.setIfInBounds_toArray, List.set_cons_zero, List.set_cons_succ, i64_w, i32_w]
     rfl
    refine pure_ (i := 12) (N := some 37) (v := ?_) (a' := ?_) #[T8q,T8q,T8q,T8q,T8q,T8q,T8q,T8q,T8q,T8q,T8q,T8q,T8q,F8q] rfl rfl (by kernel_rfl) (fun _ _ _ h => h) (Or.inl ⟨by rfl, ?_⟩) ?_ ?_
    rotate_left
    ·intro w'
     go_simp
     with_reducible rfl
    rotate_left
    ·simp only [Act.put, List.setIfInBounds_toArray, List.set_cons_zero, List.set_cons_succ, i64_w, i32_w]
     rfl
    refine last_ (i := 13) (N := none) #[T8q,T8q,T8q,T8q,T8q,T8q,T8q,T8q,T8q,T8q,T8q,T8q,T8q,T8q] rfl rfl (by kernel_rfl) (by decide) (fun K hK => ?_)
    refine skip_ (w1 := ?_) (by rfl) rfl ?_ ?_
    rotate_left
    ·go_simp
     rfl
    refine hK.out _ _ ?_
    clear hK K
    refine done_ (by kernel_rfl) ?_
    have hS8 := Kd.S_below HOd.out hb8
    have hgb8 : gb < w8.heap.size := Nat.lt_of_lt_of_le (cells_lt BKd.out) hb8.size
    have hS10 := Aside0.mk (show Kd.S k48 48 (w9.setCell ⟨gb, 1, none⟩ (.slice A9 (elems r2).length c9)) w1.heap.size (fun k => k ≠ gb ∧ k < w8.heap.size) u5 (withoutTo G l0 j) from Kd.S_far (p := ⟨gb, 1, none⟩) (Kd.S_old hS8 hb9) (fun k hk => hk.1) _)
    have hR10 := Aside0.mk (show Kd.R (Kd.int .i64) 3 (w9.setCell ⟨gb, 1, none⟩ (.slice A9 (elems r2).length c9)) w8.heap.size (fun k => w8.heap.size ≤ k) (.slice A9 (elems r2).length c9) (elems r2) from Kd.R_far (p := ⟨gb, 1, none⟩) (Kd.R_mono (Kd.R_bound ho9) (fun k hk => hk.2.1)) (fun k hk e => by dsimp only at e; omega) _)
    have HBe := below_step HBd.out hb8
    have HB10 := Aside0.mk ((below_step HBe hb9).setCell (p := ⟨gb, 1, none⟩) GE.out (.slice A9 (elems r2).length c9))
    have BK10 := Aside0.mk (blk_put BK9.out 1 (.slice A9 (elems r2).length c9) rfl)
    have HZ := Aside0.mk (show w1.heap.size ≤ w8.heap.size ∧ gb < w8.heap.size from ⟨HBe.size, hgb8⟩)
    clear hS8 hgb8 HBe hc9 hf9 BK9 ho9 hb9 hb8 BKd HOd HBd hTd hgd hHeld hHeld8 hHeld9 hand HU
    revert hS10 hR10 HB10 BK10
    generalize w9.setCell ⟨gb, 1, none⟩ (.slice A9 (elems r2).length c9) = wc
    intro hS10 hR10 HB10 BK10
    have z0 : wc.cell? ⟨gb, 0, none⟩ = some (.int .i64 tk.f0) := (blk_cell BK10.out 0).trans rfl
    have z1 : wc.cell? ⟨gb, 1, none⟩ = some (.slice A9 (elems r2).length c9) := (blk_cell BK10.out 1).trans rfl
    have z2 : wc.cell? ⟨gb, 2, none⟩ = some (.int .i64 tk.f2) := (blk_cell BK10.out 2).trans rfl
    have z3 : wc.cell? ⟨gb, 3, none⟩ = some (.int .i64 tk.f3) := (blk_cell BK10.out 3).trans rfl
    have f0 := blk_frozen BK10.out 0
    have f1 := blk_frozen BK10.out 1
    have f2 := blk_frozen BK10.out 2
    have f3 := blk_frozen BK10.out 3
    go_wp2_with ((with_reducible refine gate_builtin (b := .append) (xs := #[.tmp 38, .tmp 40]) rfl ?_); at_builtin; refine Kd.S_append k48 (w0 := w1) w1.heap.size rfl (.tmp 38) (.tmp 40) 26 48 (.agg #[(.int .i64 0), (.slice none 0 0), (.int .i64 0), (.int .i64 0)]) 48 rfl Tryd.underlying26 info48 rfl (by decide) (by omega) u5 (withoutTo G l0 j) (⟨tk.f0, elems r2, tk.f2, tk.f3⟩ : S48) [.int .i64 tk.f0, .slice A9 (elems r2).length c9, .int .i64 tk.f2, .int .i64 tk.f3] (fun k => k ≠ gb) (fun k => some k = (Value.slice A9 (elems r2).length c9).ownBlock) rfl rfl ?aP ?aH ?aF ?aO ?aB ?aS ?aL ?_; (case aP => exact k48_mkM _ _ _ (⟨tk.f0, elems r2, tk.f2, tk.f3⟩ : S48) (Kd.R_tight rfl (Kd.R_lower hR10.out HZ.out.1))); (case aH => exact fun k hk => ⟨fun e => by have h1 := hR10.out.1 k hk.symm; have h2 := HZ.out.2; omega, fun e => by have h1 := hR10.out.1 k hk.symm; have h2 := ((Kd.S_R hS10.out).1 k e.symm).2; omega⟩); (case aF => exact fun k hk e => by have h1 := cells_lt BK10.out; omega); (case aO => exact Kd.S_mono hS10.out (fun k hk => ⟨hk.1, fun e => by have h1 := hR10.out.1 k e.symm; have h2 := hk.2; omega⟩)); (case aB => exact HB10.out); (case aS => exact HB10.out.size); (case aL => have h1 := HN8.out; have h2 := HLT.out; rw [withoutTo_length]; omega); intro v11 w11 ho hb hg hat; have HOe := Aside0.mk ho; have HBe := Aside0.mk hb; clear ho hb hg hat)
    go_roundg (l0.length - (j + 1))
    case measure => have h1 := HJ.out.1; have h2 := HLT.out; omega
    case rel => exact ⟨j + 1, _, rfl, ⟨by have h2 := HLT.out; omega, by have h1 := HJ.out.2; have h2 := HN8.out; have h3 := HLT.out; unfold wrap64; omega⟩, ⟨by rw [withoutTo_succ, HP.out]; exact Kd.S_mono HOe.out (fun _ _ => trivial)⟩, ⟨HBe.out⟩⟩
   ·have hx := HJ.out.2
    have hd : decide (x < (l0.length : Int)) = false := decide_eq_false (by omega)
    have hj : j = l0.length := by have := HJ.out.1; omega
    have HO2 := Aside0.mk (show Kd.S k48 48 wr w1.heap.size (fun _ => True) u5 (withoutTo G l0 l0.length) by rw [← hj]; exact HO.out)
    clear hx hlt hj HO
    go_wp2
    go_ret
    exact ⟨_, rfl, Kd.S_lower HO2.out HB1.out.size, below_step HB1.out HB.out⟩
end Go.Proofs.YtpibdjkajgfgjaaDoor.P
end
section
namespace Go.Proofs.YtpibdjkajgfgjaaDoor.P
open Go.Proofs.YtpibdjkajgfgjaaDoor.Core (Tab Tab.of)
open Go.RowKit Go.Proofs.YtpibdjkajgfgjaaDoorW.PrintWords Go.Proofs.YtpibdjkajgfgjaaDoorW.PrintLast Go.Proofs.YtpibdjkajgfgjaaDoorW.PrintMore
attribute [local go_sem] max2_int min2_int max_two min_two max_three min_three max_four min_four   -- for this text's walks alone
set_option linter.unusedVariables false
set_option linter.unusedSimpArgs false
noncomputable def laws_FnWithoutUselessTimes.j0 : Nat → List (S48) → List (S48) → Bool → Option (Bool)
 | 0, _, _, _ => none
 | k + 1, x3, x4, x21 => if x21 = true then ((spec_WithoutUseless.f k x3).bind fun t669 => ((laws_equalTasks.f k x4 t669).bind fun t672 => (some t672))) else ((impl_HeadTimes.f x4).bind fun t673 => ((impl_HeadTimes.f x3).bind fun t676 => ((laws_equalInts.f k t673 t676).bind fun t679 => (if t679 = true then ((impl_TailTimes.f x4).bind fun t680 => ((impl_TailTimes.f x3).bind fun t683 => ((laws_equalInts.f k t680 t683).bind fun t686 => (if t686 = true then ((impl_StageOf.f x4).bind fun t687 => ((impl_StageOf.f x3).bind fun t690 => ((laws_equalInts.f k t687 t690).bind fun t693 => (some t693)))) else (some false))))) else (some false)))))
noncomputable def laws_FnWithoutUselessTimes.f (k : Nat) (l0 : List Int) : Option (Bool) := if (l0.length : Int) > 1048576 then (some true) else ((spec_DrawWithoutUseless.f l0).bind fun t659 => ((impl_WithoutUseless.f t659).bind fun t662 => ((spec_WithoutUseless.f k t659).bind fun t665 => ((laws_equalTasks.f k t662 t665).bind fun t668 => (if t668 = true then (laws_FnWithoutUselessTimes.j0 k t659 t662 ((t662.length : Int) == 0)) else (laws_FnWithoutUselessTimes.j0 k t659 t662 true))))))
theorem laws_FnWithoutUselessTimes.mono_l : ∀ k, (∀ y0 y1 y2, LeO (laws_FnWithoutUselessTimes.j0 k y0 y1 y2) (laws_FnWithoutUselessTimes.j0 (k + 1) y0 y1 y2))
 | 0 => fun _ _ _ r h => by simp [laws_FnWithoutUselessTimes.j0] at h
 | k + 1 => by
  have ih0 := laws_FnWithoutUselessTimes.mono_l k
  ·intro y0 y1 y2
   unfold laws_FnWithoutUselessTimes.j0
   repeat' first
   | (with_reducible exact ih0 _ _ _)
   | (with_reducible exact laws_equalInts.mono _ _ _)
   | (with_reducible exact laws_equalTasks.mono _ _ _)
   | (with_reducible exact spec_WithoutUseless.mono _ _)
   | (with_reducible exact LeO.refl _)
   | (with_reducible exact LeO.none _)
   | (with_reducible refine LeO.ite ?_ ?_)
   | (with_reducible refine LeO.bind ?_ (fun _ => ?_))
   | exact ih0 _ _ _
   | exact laws_equalInts.mono _ _ _
   | exact laws_equalTasks.mono _ _ _
   | exact spec_WithoutUseless.mono _ _
   | exact LeO.none _
   | refine LeO.ite ?_ ?_
   | refine LeO.bind ?_ (fun _ => ?_)
theorem laws_FnWithoutUselessTimes.mono : ∀ a0 k, LeO (laws_FnWithoutUselessTimes.f k a0) (laws_FnWithoutUselessTimes.f (k + 1) a0) := by
 intro a0 k
 have ih0 := laws_FnWithoutUselessTimes.mono_l k
 unfold laws_FnWithoutUselessTimes.f
 repeat' first
   | (with_reducible exact ih0 _ _ _)
   | (with_reducible exact laws_equalInts.mono _ _ _)
   | (with_reducible exact laws_equalTasks.mono _ _ _)
   | (with_reducible exact spec_WithoutUseless.mono _ _)
   | (with_reducible exact LeO.refl _)
   | (with_reducible exact LeO.none _)
   | (with_reducible refine LeO.ite ?_ ?_)
   | (with_reducible refine LeO.bind ?_ (fun _ => ?_))
   | exact ih0 _ _ _
   | exact laws_equalInts.mono _ _ _
   | exact laws_equalTasks.mono _ _ _
   | exact spec_WithoutUseless.mono _ _
   | exact LeO.none _
   | refine LeO.ite ?_ ?_
   | refine LeO.bind ?_ (fun _ => ?_)
set_option maxHeartbeats 8000000 in
set_option maxRecDepth 100000 in
theorem laws_FnWithoutUselessTimes.calls (k : Nat) (A0 : Option Addr) (c0 : Nat) (l0 : List Int) (r : Bool) (w : World) (hr0 : Kd.C (Kd.int .u8) w A0 l0.length l0) (hc0 : l0.length ≤ c0) (hT : Tab w) (h : laws_FnWithoutUselessTimes.f k l0 = some r) :
  Calls Tryd.prog 7 #[.slice A0 l0.length c0] w fun e w' => e = .returned (.bool r) ∧ Below w.heap.size w w' := by
 have HT := Aside0.mk hT
 clear hT
 have HR0 := Aside0.mk hr0
 have HC0 := Aside0.mk hc0
 clear hr0 hc0
 have HB := Aside0.mk (Below.refl w.heap.size w)
 have H : (if (l0.length : Int) > 1048576 then (some true) else ((spec_DrawWithoutUseless.f l0).bind fun t659 => ((impl_WithoutUseless.f t659).bind fun t662 => ((spec_WithoutUseless.f k t659).bind fun t665 => ((laws_equalTasks.f k t662 t665).bind fun t668 => (if t668 = true then (laws_FnWithoutUselessTimes.j0 k t659 t662 ((t662.length : Int) == 0)) else (laws_FnWithoutUselessTimes.j0 k t659 t662 true))))))) = some r := h
 clear h
 by_cases c2 : (l0.length : Int) > 1048576
 ·rw [if_pos c2] at H
  have c2b0 : decide (1048576 < (l0.length : Int)) = true := decide_eq_true c2
  have c2b1 : decide (1048576 < l0.length) = true := decide_eq_true (by omega)
  clear c2
  obtain rfl := Option.some.inj H
  go_enter Tryd.func7, Tryd.ntmps7
  go_wp2
  go_ret
  exact ⟨by first | rfl | (simp [errW_none, errW_some] <;> rfl) | (simp [*, errW_none, errW_some] <;> rfl), by repeat (first | (with_reducible first | exact HB.out | apply below_alloc | apply pw_below_drewN | apply below_drew1) | exact HB.out)⟩
 ·rw [if_neg c2] at H
  have c2b0 : decide (1048576 < (l0.length : Int)) = false := decide_eq_false c2
  have c2b1 : decide (1048576 < l0.length) = false := decide_eq_false (by omega)
  clear c2
  replace H := Option.bind_eq_some_iff.mp H
  obtain ⟨t659, A30, H⟩ := H
  replace H : ((impl_WithoutUseless.f t659).bind fun t662 => ((spec_WithoutUseless.f k t659).bind fun t665 => ((laws_equalTasks.f k t662 t665).bind fun t668 => (if t668 = true then (laws_FnWithoutUselessTimes.j0 k t659 t662 ((t662.length : Int) == 0)) else (laws_FnWithoutUselessTimes.j0 k t659 t662 true))))) = some r := H
  have A3 := Aside0.mk A30
  clear A30
  replace H := Option.bind_eq_some_iff.mp H
  obtain ⟨t662, A40, H⟩ := H
  replace H : ((spec_WithoutUseless.f k t659).bind fun t665 => ((laws_equalTasks.f k t662 t665).bind fun t668 => (if t668 = true then (laws_FnWithoutUselessTimes.j0 k t659 t662 ((t662.length : Int) == 0)) else (laws_FnWithoutUselessTimes.j0 k t659 t662 true)))) = some r := H
  have A4 := Aside0.mk A40
  clear A40
  have HC5 := Aside0.mk H
  clear H
  go_enter Tryd.func7, Tryd.ntmps7
  go_upto_region 5 with (first | ((with_reducible refine gate_callee (f := 39) rfl ?_); refine goesL_ (some 9) rfl rfl Tryd.func39 (by kernel_rfl) rfl #[.slice A0 l0.length c0] rfl (by (try simp only [List.map_toArray, List.map_cons, List.map_nil]); first | done | rfl | (simp only [List.length_drop, List.length_take]; rfl)) ?_; (with_reducible refine (spec_DrawWithoutUseless.calls _ _ l0 t659 _ ?side1 ?side2 A3.out).mono ?_); (case side1 => repeat (first | exact HR0.out | (with_reducible refine Kd.C_alloc ?_ _) | (with_reducible refine Kd.C_drewN ?_ _) | (with_reducible refine Kd.C_drew ?_))); (case side2 => exact HC0.out); rintro e w6 ⟨v660, rfl, ho0, hb⟩; refine ⟨_, rfl, ?_⟩; have n0_ := Aside0.mk (Kd.S_lower ho0 (below_size (by repeat (first | (with_reducible first | exact HB.out | apply below_alloc | apply pw_below_drewN | apply below_drew1) | exact HB.out)))); have n1_ := Aside0.mk (below_step (by repeat (first | (with_reducible first | exact HB.out | apply below_alloc | apply pw_below_drewN | apply below_drew1) | exact HB.out)) hb); clear HB; have HO661 := n0_; have HB := n1_; clear n0_ n1_; (try clear hb); (try clear hb2); (try clear hk); (try clear hi); (try clear ho0); obtain ⟨Ao7, co7, eo7⟩ := Kd.S_slice HO661.out; subst eo7) | ((with_reducible refine gate_callee (f := 40) rfl ?_); refine goesL_ (some 11) rfl rfl Tryd.func40 (by kernel_rfl) rfl #[.slice Ao7 t659.length co7] rfl (by (try simp only [List.map_toArray, List.map_cons, List.map_nil]); first | done | rfl | (simp only [List.length_drop, List.length_take]; rfl)) ?_; (with_reducible refine (impl_WithoutUseless.calls _ _ t659 t662 _ ?side1 ?side2 ?side3 A4.out).mono ?_); (case side1 => repeat (first | exact (Kd.S_reads' HO661.out).2.2 | (with_reducible refine Kd.C_alloc ?_ _) | (with_reducible refine Kd.C_drewN ?_ _) | (with_reducible refine Kd.C_drew ?_))); (case side2 => exact (Kd.S_reads' HO661.out).2.1); (case side3 => exact Tab.of HT.out (by repeat (first | (with_reducible first | exact HB.out | apply below_alloc | apply pw_below_drewN | apply below_drew1) | exact HB.out))); rintro e w8 ⟨v663, rfl, ho0, hb⟩; refine ⟨_, rfl, ?_⟩; have n0_ := Aside0.mk (Kd.S_elder' (by (with_reducible repeat (first | apply Kd.S_alloc | apply Kd.S_drewN | apply Kd.S_drew)); exact HO661.out) (Kd.S_base ho0) hb); have n1_ := Aside0.mk (Kd.S_lower (Kd.S_new' ho0 (Kd.S_lt (by (with_reducible repeat (first | apply Kd.S_alloc | apply Kd.S_drewN | apply Kd.S_drew)); exact HO661.out))) (below_size (by repeat (first | (with_reducible first | exact HB.out | apply below_alloc | apply pw_below_drewN | apply below_drew1) | exact HB.out)))); have n2_ := Aside0.mk (below_step (by repeat (first | (with_reducible first | exact HB.out | apply below_alloc | apply pw_below_drewN | apply below_drew1) | exact HB.out)) hb); clear HO661; clear HB; have HO661 := n0_; have HO664 := n1_; have HB := n2_; clear n0_ n1_ n2_; (try clear hb); (try clear hb2); (try clear hk); (try clear hi); (try clear ho0)))
  (try simp only [Act.put, List.setIfInBounds_toArray, List.set_cons_zero, List.set_cons_succ])
  go_cut [21] (fun v21 wc => ∃ (kq : Nat) (x21_4 : Bool), v21 = .bool x21_4 ∧ Aside0 (laws_FnWithoutUselessTimes.j0 kq t659 t662 x21_4 = some r) ∧ Aside0 (kq ≤ k) ∧ Aside0 (Kd.S k48 48 wc w.heap.size (fun k_ => some k_ ≠ (v663 : Value).ownBlock) (.slice Ao7 t659.length co7) t659) ∧ Aside0 (Kd.S k48 48 wc w.heap.size (fun k_ => some k_ ≠ ((.slice Ao7 t659.length co7) : Value).ownBlock) v663 t662) ∧ Aside0 (Below w.heap.size w wc))
  case first =>
   have H := HC5.out
   clear HC5
   replace H := Option.bind_eq_some_iff.mp H
   obtain ⟨t665, A90, H⟩ := H
   replace H : ((laws_equalTasks.f k t662 t665).bind fun t668 => (if t668 = true then (laws_FnWithoutUselessTimes.j0 k t659 t662 ((t662.length : Int) == 0)) else (laws_FnWithoutUselessTimes.j0 k t659 t662 true))) = some r := H
   have A9 := Aside0.mk A90
   clear A90
   replace H := Option.bind_eq_some_iff.mp H
   obtain ⟨t668, A100, H⟩ := H
   replace H : (if t668 = true then (laws_FnWithoutUselessTimes.j0 k t659 t662 ((t662.length : Int) == 0)) else (laws_FnWithoutUselessTimes.j0 k t659 t662 true)) = some r := H
   have A10 := Aside0.mk A100
   clear A100
   by_cases c11 : t668 = true
   ·subst c11
    have H1 : (laws_FnWithoutUselessTimes.j0 k t659 t662 ((t662.length : Int) == 0)) = some r := by rw [if_pos rfl] at H; exact H
    clear H
    have H := H1
    clear H1
    have H' := Aside0.mk H
    clear H
    go_wp2_with (first | ((with_reducible refine gate_callee (f := 42) rfl ?_); refine goesL_ (some 14) rfl rfl Tryd.func42 (by kernel_rfl) rfl #[.slice Ao7 t659.length co7] rfl (by (try simp only [List.map_toArray, List.map_cons, List.map_nil]); first | done | rfl | (simp only [List.length_drop, List.length_take]; rfl)) ?_; (with_reducible refine (spec_WithoutUseless.calls k _ _ t659 t665 _ ?side1 ?side2 A9.out).mono ?_); (case side1 => repeat (first | exact (Kd.S_reads' HO661.out).2.2 | (with_reducible refine Kd.C_alloc ?_ _) | (with_reducible refine Kd.C_drewN ?_ _) | (with_reducible refine Kd.C_drew ?_))); (case side2 => exact (Kd.S_reads' HO661.out).2.1); rintro e w12 ⟨v666, rfl, ho0, hb⟩; refine ⟨_, rfl, ?_⟩; have n0_ := Aside0.mk (Kd.S_elder' (by (with_reducible repeat (first | apply Kd.S_alloc | apply Kd.S_drewN | apply Kd.S_drew)); exact HO661.out) (Kd.S_base ho0) hb); have n1_ := Aside0.mk (Kd.S_elder' (by (with_reducible repeat (first | apply Kd.S_alloc | apply Kd.S_drewN | apply Kd.S_drew)); exact HO664.out) (Kd.S_base ho0) hb); have n2_ := Aside0.mk (Kd.S_lower (Kd.S_new' (Kd.S_new' ho0 (Kd.S_lt (by (with_reducible repeat (first | apply Kd.S_alloc | apply Kd.S_drewN | apply Kd.S_drew)); exact HO661.out))) (Kd.S_lt (by (with_reducible repeat (first | apply Kd.S_alloc | apply Kd.S_drewN | apply Kd.S_drew)); exact HO664.out))) (below_size (by repeat (first | (with_reducible first | exact HB.out | apply below_alloc | apply pw_below_drewN | apply below_drew1) | exact HB.out)))); have n3_ := Aside0.mk (below_step (by repeat (first | (with_reducible first | exact HB.out | apply below_alloc | apply pw_below_drewN | apply below_drew1) | exact HB.out)) hb); clear HO661; clear HO664; clear HB; have HO661 := n0_; have HO664 := n1_; have HO667 := n2_; have HB := n3_; clear n0_ n1_ n2_ n3_; (try clear hb); (try clear hb2); (try clear hk); (try clear hi); (try clear ho0); obtain ⟨Ao13, co13, eo13⟩ := Kd.S_slice HO664.out; subst eo13; obtain ⟨Ao14, co14, eo14⟩ := Kd.S_slice HO667.out; subst eo14) | ((with_reducible refine gate_callee (f := 41) rfl ?_); refine goesL_ (some 15) rfl rfl Tryd.func41 (by kernel_rfl) rfl #[.slice Ao13 t662.length co13, .slice Ao14 t665.length co14] rfl (by (try simp only [List.map_toArray, List.map_cons, List.map_nil]); first | done | rfl | (simp only [List.length_drop, List.length_take]; rfl)) ?_; (with_reducible refine (laws_equalTasks.calls k _ _ t662 _ _ t665 true _ ?side1 ?side2 ?side3 ?side4 A10.out).mono ?_); (case side1 => repeat (first | exact (Kd.S_reads' HO664.out).2.2 | (with_reducible refine Kd.C_alloc ?_ _) | (with_reducible refine Kd.C_drewN ?_ _) | (with_reducible refine Kd.C_drew ?_))); (case side2 => exact (Kd.S_reads' HO664.out).2.1); (case side3 => repeat (first | exact (Kd.S_reads' HO667.out).2.2 | (with_reducible refine Kd.C_alloc ?_ _) | (with_reducible refine Kd.C_drewN ?_ _) | (with_reducible refine Kd.C_drew ?_))); (case side4 => exact (Kd.S_reads' HO667.out).2.1); rintro e w15 ⟨rfl, hb⟩; refine ⟨_, rfl, ?_⟩; have n0_ := Aside0.mk (Kd.S_below (by (with_reducible repeat (first | apply Kd.S_alloc | apply Kd.S_drewN | apply Kd.S_drew)); exact HO661.out) hb); have n1_ := Aside0.mk (Kd.S_below (by (with_reducible repeat (first | apply Kd.S_alloc | apply Kd.S_drewN | apply Kd.S_drew)); exact HO664.out) hb); have n2_ := Aside0.mk (Kd.S_below (by (with_reducible repeat (first | apply Kd.S_alloc | apply Kd.S_drewN | apply Kd.S_drew)); exact HO667.out) hb); have n3_ := Aside0.mk (below_step (by repeat (first | (with_reducible first | exact HB.out | apply below_alloc | apply pw_below_drewN | apply below_drew1) | exact HB.out)) hb); clear HO661; clear HO664; clear HO667; clear HB; have HO661 := n0_; have HO664 := n1_; have HO667 := n2_; have HB := n3_; clear n0_ n1_ n2_ n3_; (try clear hb); (try clear hb2); (try clear hk); (try clear hi)))
    go_meet
    case rel => exact ⟨_, (((t662.length : Int) == 0)), (by first | rfl | (simp; done) | (simp [*]; done)), H', ⟨by first | omega | exact Nat.le_refl _⟩, ⟨by (with_reducible repeat (first | apply Kd.S_alloc | apply Kd.S_drewN | apply Kd.S_drew)); exact Kd.S_mono HO661.out (fun _ hk => hk.1.2)⟩, ⟨by (with_reducible repeat (first | apply Kd.S_alloc | apply Kd.S_drewN | apply Kd.S_drew)); exact Kd.S_mono HO664.out (fun _ hk => hk.1.2)⟩, ⟨by repeat (first | (with_reducible first | exact HB.out | apply below_alloc | apply pw_below_drewN | apply below_drew1) | exact HB.out)⟩⟩
   ·replace c11 := Bool.eq_false_iff.mpr c11
    subst c11
    have H1 : (laws_FnWithoutUselessTimes.j0 k t659 t662 true) = some r := by rw [if_neg (show ¬ (false = true) by decide)] at H; exact H
    clear H
    have H := H1
    clear H1
    have H' := Aside0.mk H
    clear H
    go_wp2_with (first | ((with_reducible refine gate_callee (f := 42) rfl ?_); refine goesL_ (some 14) rfl rfl Tryd.func42 (by kernel_rfl) rfl #[.slice Ao7 t659.length co7] rfl (by (try simp only [List.map_toArray, List.map_cons, List.map_nil]); first | done | rfl | (simp only [List.length_drop, List.length_take]; rfl)) ?_; (with_reducible refine (spec_WithoutUseless.calls k _ _ t659 t665 _ ?side1 ?side2 A9.out).mono ?_); (case side1 => repeat (first | exact (Kd.S_reads' HO661.out).2.2 | (with_reducible refine Kd.C_alloc ?_ _) | (with_reducible refine Kd.C_drewN ?_ _) | (with_reducible refine Kd.C_drew ?_))); (case side2 => exact (Kd.S_reads' HO661.out).2.1); rintro e w16 ⟨v666, rfl, ho0, hb⟩; refine ⟨_, rfl, ?_⟩; have n0_ := Aside0.mk (Kd.S_elder' (by (with_reducible repeat (first | apply Kd.S_alloc | apply Kd.S_drewN | apply Kd.S_drew)); exact HO661.out) (Kd.S_base ho0) hb); have n1_ := Aside0.mk (Kd.S_elder' (by (with_reducible repeat (first | apply Kd.S_alloc | apply Kd.S_drewN | apply Kd.S_drew)); exact HO664.out) (Kd.S_base ho0) hb); have n2_ := Aside0.mk (Kd.S_lower (Kd.S_new' (Kd.S_new' ho0 (Kd.S_lt (by (with_reducible repeat (first | apply Kd.S_alloc | apply Kd.S_drewN | apply Kd.S_drew)); exact HO661.out))) (Kd.S_lt (by (with_reducible repeat (first | apply Kd.S_alloc | apply Kd.S_drewN | apply Kd.S_drew)); exact HO664.out))) (below_size (by repeat (first | (with_reducible first | exact HB.out | apply below_alloc | apply pw_below_drewN | apply below_drew1) | exact HB.out)))); have n3_ := Aside0.mk (below_step (by repeat (first | (with_reducible first | exact HB.out | apply below_alloc | apply pw_below_drewN | apply below_drew1) | exact HB.out)) hb); clear HO661; clear HO664; clear HB; have HO661 := n0_; have HO664 := n1_; have HO667 := n2_; have HB := n3_; clear n0_ n1_ n2_ n3_; (try clear hb); (try clear hb2); (try clear hk); (try clear hi); (try clear ho0); obtain ⟨Ao17, co17, eo17⟩ := Kd.S_slice HO664.out; subst eo17; obtain ⟨Ao18, co18, eo18⟩ := Kd.S_slice HO667.out; subst eo18) | ((with_reducible refine gate_callee (f := 41) rfl ?_); refine goesL_ (some 15) rfl rfl Tryd.func41 (by kernel_rfl) rfl #[.slice Ao17 t662.length co17, .slice Ao18 t665.length co18] rfl (by (try simp only [List.map_toArray, List.map_cons, List.map_nil]); first | done | rfl | (simp only [List.length_drop, List.length_take]; rfl)) ?_; (with_reducible refine (laws_equalTasks.calls k _ _ t662 _ _ t665 false _ ?side1 ?side2 ?side3 ?side4 A10.out).mono ?_); (case side1 => repeat (first | exact (Kd.S_reads' HO664.out).2.2 | (with_reducible refine Kd.C_alloc ?_ _) | (with_reducible refine Kd.C_drewN ?_ _) | (with_reducible refine Kd.C_drew ?_))); (case side2 => exact (Kd.S_reads' HO664.out).2.1); (case side3 => repeat (first | exact (Kd.S_reads' HO667.out).2.2 | (with_reducible refine Kd.C_alloc ?_ _) | (with_reducible refine Kd.C_drewN ?_ _) | (with_reducible refine Kd.C_drew ?_))); (case side4 => exact (Kd.S_reads' HO667.out).2.1); rintro e w19 ⟨rfl, hb⟩; refine ⟨_, rfl, ?_⟩; have n0_ := Aside0.mk (Kd.S_below (by (with_reducible repeat (first | apply Kd.S_alloc | apply Kd.S_drewN | apply Kd.S_drew)); exact HO661.out) hb); have n1_ := Aside0.mk (Kd.S_below (by (with_reducible repeat (first | apply Kd.S_alloc | apply Kd.S_drewN | apply Kd.S_drew)); exact HO664.out) hb); have n2_ := Aside0.mk (Kd.S_below (by (with_reducible repeat (first | apply Kd.S_alloc | apply Kd.S_drewN | apply Kd.S_drew)); exact HO667.out) hb); have n3_ := Aside0.mk (below_step (by repeat (first | (with_reducible first | exact HB.out | apply below_alloc | apply pw_below_drewN | apply below_drew1) | exact HB.out)) hb); clear HO661; clear HO664; clear HO667; clear HB; have HO661 := n0_; have HO664 := n1_; have HO667 := n2_; have HB := n3_; clear n0_ n1_ n2_ n3_; (try clear hb); (try clear hb2); (try clear hk); (try clear hi)))
    go_meet
    case rel => exact ⟨_, (true), (by first | rfl | (simp; done) | (simp [*]; done)), H', ⟨by first | omega | exact Nat.le_refl _⟩, ⟨by (with_reducible repeat (first | apply Kd.S_alloc | apply Kd.S_drewN | apply Kd.S_drew)); exact Kd.S_mono HO661.out (fun _ hk => hk.1.2)⟩, ⟨by (with_reducible repeat (first | apply Kd.S_alloc | apply Kd.S_drewN | apply Kd.S_drew)); exact Kd.S_mono HO664.out (fun _ hk => hk.1.2)⟩, ⟨by repeat (first | (with_reducible first | exact HB.out | apply below_alloc | apply pw_below_drewN | apply below_drew1) | exact HB.out)⟩⟩
  case rest =>
   clear HC5
   try clear c1
   try clear c2
   try clear c2b0
   try clear c2b1
   try clear p2
   try clear c3
   try clear c4
   try clear c7
   try clear c11
   obtain ⟨kq, x21_4, rfl, HA, HJ4, HO_3, HO_4, HB⟩ := hcut
   cases kq with
   | zero => exact absurd HA.out (by simp [laws_FnWithoutUselessTimes.j0])
   | succ kj4 =>
    have H := HA.out
    clear HA
    simp only [laws_FnWithoutUselessTimes.j0] at H
    by_cases c20 : x21_4 = true
    ·subst c20
     have H1 : ((spec_WithoutUseless.f kj4 t659).bind fun t669 => ((laws_equalTasks.f kj4 t662 t669).bind fun t672 => (some t672))) = some r := by rw [if_pos rfl] at H; exact H
     clear H
     have H := H1
     clear H1
     replace H := Option.bind_eq_some_iff.mp H
     obtain ⟨t669, A210, H⟩ := H
     replace H : ((laws_equalTasks.f kj4 t662 t669).bind fun t672 => (some t672)) = some r := H
     have A21 := Aside0.mk A210
     clear A210
     replace H := Option.bind_eq_some_iff.mp H
     obtain ⟨t672, A220, H⟩ := H
     replace H : (some t672) = some r := H
     have A22 := Aside0.mk A220
     clear A220
     obtain rfl := Option.some.inj H
     go_wp2_with (first | ((with_reducible refine gate_callee (f := 42) rfl ?_); refine goesL_ (some 24) rfl rfl Tryd.func42 (by kernel_rfl) rfl #[.slice Ao7 t659.length co7] rfl (by (try simp only [List.map_toArray, List.map_cons, List.map_nil]); first | done | rfl | (simp only [List.length_drop, List.length_take]; rfl)) ?_; (with_reducible refine (spec_WithoutUseless.calls kj4 _ _ t659 t669 _ ?side1 ?side2 A21.out).mono ?_); (case side1 => repeat (first | exact (Kd.S_reads' HO_3.out).2.2 | (with_reducible refine Kd.C_alloc ?_ _) | (with_reducible refine Kd.C_drewN ?_ _) | (with_reducible refine Kd.C_drew ?_))); (case side2 => exact (Kd.S_reads' HO_3.out).2.1); rintro e w23 ⟨v670, rfl, ho0, hb⟩; refine ⟨_, rfl, ?_⟩; have n0_ := Aside0.mk (Kd.S_elder' (by (with_reducible repeat (first | apply Kd.S_alloc | apply Kd.S_drewN | apply Kd.S_drew)); exact HO_3.out) (Kd.S_base ho0) hb); have n1_ := Aside0.mk (Kd.S_elder' (by (with_reducible repeat (first | apply Kd.S_alloc | apply Kd.S_drewN | apply Kd.S_drew)); exact HO_4.out) (Kd.S_base ho0) hb); have n2_ := Aside0.mk (Kd.S_lower (Kd.S_new' (Kd.S_new' ho0 (Kd.S_lt (by (with_reducible repeat (first | apply Kd.S_alloc | apply Kd.S_drewN | apply Kd.S_drew)); exact HO_3.out))) (Kd.S_lt (by (with_reducible repeat (first | apply Kd.S_alloc | apply Kd.S_drewN | apply Kd.S_drew)); exact HO_4.out))) (below_size (by repeat (first | (with_reducible first | exact HB.out | apply below_alloc | apply pw_below_drewN | apply below_drew1) | exact HB.out)))); have n3_ := Aside0.mk (below_step (by repeat (first | (with_reducible first | exact HB.out | apply below_alloc | apply pw_below_drewN | apply below_drew1) | exact HB.out)) hb); clear HO_3; clear HO_4; clear HB; have HO_3 := n0_; have HO_4 := n1_; have HO671 := n2_; have HB := n3_; clear n0_ n1_ n2_ n3_; (try clear hb); (try clear hb2); (try clear hk); (try clear hi); (try clear ho0); obtain ⟨Ao24, co24, eo24⟩ := Kd.S_slice HO_4.out; subst eo24; obtain ⟨Ao25, co25, eo25⟩ := Kd.S_slice HO671.out; subst eo25) | ((with_reducible refine gate_callee (f := 41) rfl ?_); refine goesL_ (some 25) rfl rfl Tryd.func41 (by kernel_rfl) rfl #[.slice Ao24 t662.length co24, .slice Ao25 t669.length co25] rfl (by (try simp only [List.map_toArray, List.map_cons, List.map_nil]); first | done | rfl | (simp only [List.length_drop, List.length_take]; rfl)) ?_; (with_reducible refine (laws_equalTasks.calls kj4 _ _ t662 _ _ t669 t672 _ ?side1 ?side2 ?side3 ?side4 A22.out).mono ?_); (case side1 => repeat (first | exact (Kd.S_reads' HO_4.out).2.2 | (with_reducible refine Kd.C_alloc ?_ _) | (with_reducible refine Kd.C_drewN ?_ _) | (with_reducible refine Kd.C_drew ?_))); (case side2 => exact (Kd.S_reads' HO_4.out).2.1); (case side3 => repeat (first | exact (Kd.S_reads' HO671.out).2.2 | (with_reducible refine Kd.C_alloc ?_ _) | (with_reducible refine Kd.C_drewN ?_ _) | (with_reducible refine Kd.C_drew ?_))); (case side4 => exact (Kd.S_reads' HO671.out).2.1); rintro e w26 ⟨rfl, hb⟩; refine ⟨_, rfl, ?_⟩; have n0_ := Aside0.mk (Kd.S_below (by (with_reducible repeat (first | apply Kd.S_alloc | apply Kd.S_drewN | apply Kd.S_drew)); exact HO_3.out) hb); have n1_ := Aside0.mk (Kd.S_below (by (with_reducible repeat (first | apply Kd.S_alloc | apply Kd.S_drewN | apply Kd.S_drew)); exact HO_4.out) hb); have n2_ := Aside0.mk (Kd.S_below (by (with_reducible repeat (first | apply Kd.S_alloc | apply Kd.S_drewN | apply Kd.S_drew)); exact HO671.out) hb); have n3_ := Aside0.mk (below_step (by repeat (first | (with_reducible first | exact HB.out | apply below_alloc | apply pw_below_drewN | apply below_drew1) | exact HB.out)) hb); clear HO_3; clear HO_4; clear HO671; clear HB; have HO_3 := n0_; have HO_4 := n1_; have HO671 := n2_; have HB := n3_; clear n0_ n1_ n2_ n3_; (try clear hb); (try clear hb2); (try clear hk); (try clear hi)))
     go_ret
     exact ⟨by first | rfl | (simp [errW_none, errW_some] <;> rfl) | (simp [*, errW_none, errW_some] <;> rfl), by repeat (first | (with_reducible first | exact HB.out | apply below_alloc | apply pw_below_drewN | apply below_drew1) | exact HB.out)⟩
    ·replace c20 := Bool.eq_false_iff.mpr c20
     subst c20
     have H1 : ((impl_HeadTimes.f t662).bind fun t673 => ((impl_HeadTimes.f t659).bind fun t676 => ((laws_equalInts.f kj4 t673 t676).bind fun t679 => (if t679 = true then ((impl_TailTimes.f t662).bind fun t680 => ((impl_TailTimes.f t659).bind fun t683 => ((laws_equalInts.f kj4 t680 t683).bind fun t686 => (if t686 = true then ((impl_StageOf.f t662).bind fun t687 => ((impl_StageOf.f t659).bind fun t690 => ((laws_equalInts.f kj4 t687 t690).bind fun t693 => (some t693)))) else (some false))))) else (some false))))) = some r := by rw [if_neg (show ¬ (false = true) by decide)] at H; exact H
     clear H
     have H := H1
     clear H1
     replace H := Option.bind_eq_some_iff.mp H
     obtain ⟨t673, A270, H⟩ := H
     replace H : ((impl_HeadTimes.f t659).bind fun t676 => ((laws_equalInts.f kj4 t673 t676).bind fun t679 => (if t679 = true then ((impl_TailTimes.f t662).bind fun t680 => ((impl_TailTimes.f t659).bind fun t683 => ((laws_equalInts.f kj4 t680 t683).bind fun t686 => (if t686 = true then ((impl_StageOf.f t662).bind fun t687 => ((impl_StageOf.f t659).bind fun t690 => ((laws_equalInts.f kj4 t687 t690).bind fun t693 => (some t693)))) else (some false))))) else (some false)))) = some r := H
     have A27 := Aside0.mk A270
     clear A270
     replace H := Option.bind_eq_some_iff.mp H
     obtain ⟨t676, A280, H⟩ := H
     replace H : ((laws_equalInts.f kj4 t673 t676).bind fun t679 => (if t679 = true then ((impl_TailTimes.f t662).bind fun t680 => ((impl_TailTimes.f t659).bind fun t683 => ((laws_equalInts.f kj4 t680 t683).bind fun t686 => (if t686 = true then ((impl_StageOf.f t662).bind fun t687 => ((impl_StageOf.f t659).bind fun t690 => ((laws_equalInts.f kj4 t687 t690).bind fun t693 => (some t693)))) else (some false))))) else (some false))) = some r := H
     have A28 := Aside0.mk A280
     clear A280
     replace H := Option.bind_eq_some_iff.mp H
     obtain ⟨t679, A290, H⟩ := H
     replace H : (if t679 = true then ((impl_TailTimes.f t662).bind fun t680 => ((impl_TailTimes.f t659).bind fun t683 => ((laws_equalInts.f kj4 t680 t683).bind fun t686 => (if t686 = true then ((impl_StageOf.f t662).bind fun t687 => ((impl_StageOf.f t659).bind fun t690 => ((laws_equalInts.f kj4 t687 t690).bind fun t693 => (some t693)))) else (some false))))) else (some false)) = some r := H
     have A29 := Aside0.mk A290
     clear A290
     by_cases c30 : t679 = true
     ·subst c30
      have H1 : ((impl_TailTimes.f t662).bind fun t680 => ((impl_TailTimes.f t659).bind fun t683 => ((laws_equalInts.f kj4 t680 t683).bind fun t686 => (if t686 = true then ((impl_StageOf.f t662).bind fun t687 => ((impl_StageOf.f t659).bind fun t690 => ((laws_equalInts.f kj4 t687 t690).bind fun t693 => (some t693)))) else (some false))))) = some r := by rw [if_pos rfl] at H; exact H
      clear H
      have H := H1
      clear H1
      replace H := Option.bind_eq_some_iff.mp H
      obtain ⟨t680, A310, H⟩ := H
      replace H : ((impl_TailTimes.f t659).bind fun t683 => ((laws_equalInts.f kj4 t680 t683).bind fun t686 => (if t686 = true then ((impl_StageOf.f t662).bind fun t687 => ((impl_StageOf.f t659).bind fun t690 => ((laws_equalInts.f kj4 t687 t690).bind fun t693 => (some t693)))) else (some false)))) = some r := H
      have A31 := Aside0.mk A310
      clear A310
      replace H := Option.bind_eq_some_iff.mp H
      obtain ⟨t683, A320, H⟩ := H
      replace H : ((laws_equalInts.f kj4 t680 t683).bind fun t686 => (if t686 = true then ((impl_StageOf.f t662).bind fun t687 => ((impl_StageOf.f t659).bind fun t690 => ((laws_equalInts.f kj4 t687 t690).bind fun t693 => (some t693)))) else (some false))) = some r := H
      have A32 := Aside0.mk A320
      clear A320
      replace H := Option.bind_eq_some_iff.mp H
      obtain ⟨t686, A330, H⟩ := H
      replace H : (if t686 = true then ((impl_StageOf.f t662).bind fun t687 => ((impl_StageOf.f t659).bind fun t690 => ((laws_equalInts.f kj4 t687 t690).bind fun t693 => (some t693)))) else (some false)) = some r := H
      have A33 := Aside0.mk A330
      clear A330
      by_cases c34 : t686 = true
      ·subst c34
       have H1 : ((impl_StageOf.f t662).bind fun t687 => ((impl_StageOf.f t659).bind fun t690 => ((laws_equalInts.f kj4 t687 t690).bind fun t693 => (some t693)))) = some r := by rw [if_pos rfl] at H; exact H
       clear H
       have H := H1
       clear H1
       replace H := Option.bind_eq_some_iff.mp H
       obtain ⟨t687, A350, H⟩ := H
       replace H : ((impl_StageOf.f t659).bind fun t690 => ((laws_equalInts.f kj4 t687 t690).bind fun t693 => (some t693))) = some r := H
       have A35 := Aside0.mk A350
       clear A350
       replace H := Option.bind_eq_some_iff.mp H
       obtain ⟨t690, A360, H⟩ := H
       replace H : ((laws_equalInts.f kj4 t687 t690).bind fun t693 => (some t693)) = some r := H
       have A36 := Aside0.mk A360
       clear A360
       replace H := Option.bind_eq_some_iff.mp H
       obtain ⟨t693, A370, H⟩ := H
       replace H : (some t693) = some r := H
       have A37 := Aside0.mk A370
       clear A370
       obtain rfl := Option.some.inj H
       obtain ⟨Ao38, co38, eo38⟩ := Kd.S_slice HO_4.out
       subst eo38
       go_wp2_with (first | ((with_reducible refine gate_callee (f := 43) rfl ?_); refine goesL_ (some 27) rfl rfl Tryd.func43 (by kernel_rfl) rfl #[.slice Ao38 t662.length co38] rfl (by (try simp only [List.map_toArray, List.map_cons, List.map_nil]); first | done | rfl | (simp only [List.length_drop, List.length_take]; rfl)) ?_; (with_reducible refine (impl_HeadTimes.calls _ _ t662 t673 _ ?side1 ?side2 ?side3 A27.out).mono ?_); (case side1 => repeat (first | exact (Kd.S_reads' HO_4.out).2.2 | (with_reducible refine Kd.C_alloc ?_ _) | (with_reducible refine Kd.C_drewN ?_ _) | (with_reducible refine Kd.C_drew ?_))); (case side2 => exact (Kd.S_reads' HO_4.out).2.1); (case side3 => exact Tab.of HT.out (by repeat (first | (with_reducible first | exact HB.out | apply below_alloc | apply pw_below_drewN | apply below_drew1) | exact HB.out))); rintro e w39 ⟨v674, rfl, ho0, hb⟩; refine ⟨_, rfl, ?_⟩; have n0_ := Aside0.mk (Kd.S_elder' (by (with_reducible repeat (first | apply Kd.S_alloc | apply Kd.S_drewN | apply Kd.S_drew)); exact HO_3.out) (Kd.R_base ho0) hb); have n1_ := Aside0.mk (Kd.S_elder' (by (with_reducible repeat (first | apply Kd.S_alloc | apply Kd.S_drewN | apply Kd.S_drew)); exact HO_4.out) (Kd.R_base ho0) hb); have n2_ := Aside0.mk (Kd.R_lower ho0 (below_size (by repeat (first | (with_reducible first | exact HB.out | apply below_alloc | apply pw_below_drewN | apply below_drew1) | exact HB.out)))); have n3_ := Aside0.mk (below_step (by repeat (first | (with_reducible first | exact HB.out | apply below_alloc | apply pw_below_drewN | apply below_drew1) | exact HB.out)) hb); clear HO_3; clear HO_4; clear HB; have HO_3 := n0_; have HO_4 := n1_; have HO675 := n2_; have HB := n3_; clear n0_ n1_ n2_ n3_; (try clear hb); (try clear hb2); (try clear hk); (try clear hi); (try clear ho0)) | ((with_reducible refine gate_callee (f := 43) rfl ?_); refine goesL_ (some 29) rfl rfl Tryd.func43 (by kernel_rfl) rfl #[.slice Ao7 t659.length co7] rfl (by (try simp only [List.map_toArray, List.map_cons, List.map_nil]); first | done | rfl | (simp only [List.length_drop, List.length_take]; rfl)) ?_; (with_reducible refine (impl_HeadTimes.calls _ _ t659 t676 _ ?side1 ?side2 ?side3 A28.out).mono ?_); (case side1 => repeat (first | exact (Kd.S_reads' HO_3.out).2.2 | (with_reducible refine Kd.C_alloc ?_ _) | (with_reducible refine Kd.C_drewN ?_ _) | (with_reducible refine Kd.C_drew ?_))); (case side2 => exact (Kd.S_reads' HO_3.out).2.1); (case side3 => exact Tab.of HT.out (by repeat (first | (with_reducible first | exact HB.out | apply below_alloc | apply pw_below_drewN | apply below_drew1) | exact HB.out))); rintro e w40 ⟨v677, rfl, ho0, hb⟩; refine ⟨_, rfl, ?_⟩; have n0_ := Aside0.mk (Kd.S_elder' (by (with_reducible repeat (first | apply Kd.S_alloc | apply Kd.S_drewN | apply Kd.S_drew)); exact HO_3.out) (Kd.R_base ho0) hb); have n1_ := Aside0.mk (Kd.S_elder' (by (with_reducible repeat (first | apply Kd.S_alloc | apply Kd.S_drewN | apply Kd.S_drew)); exact HO_4.out) (Kd.R_base ho0) hb); have n2_ := Aside0.mk (Kd.R_elder' (by (with_reducible repeat (first | apply Kd.R_alloc | apply Kd.R_drewN | apply Kd.R_drew)); exact HO675.out) (Kd.R_base ho0) hb); have n3_ := Aside0.mk (Kd.R_lower (Kd.R_new' ho0 (Kd.R_lt (by (with_reducible repeat (first | apply Kd.R_alloc | apply Kd.R_drewN | apply Kd.R_drew)); exact HO675.out))) (below_size (by repeat (first | (with_reducible first | exact HB.out | apply below_alloc | apply pw_below_drewN | apply below_drew1) | exact HB.out)))); have n4_ := Aside0.mk (below_step (by repeat (first | (with_reducible first | exact HB.out | apply below_alloc | apply pw_below_drewN | apply below_drew1) | exact HB.out)) hb); clear HO_3; clear HO_4; clear HO675; clear HB; have HO_3 := n0_; have HO_4 := n1_; have HO675 := n2_; have HO678 := n3_; have HB := n4_; clear n0_ n1_ n2_ n3_ n4_; (try clear hb); (try clear hb2); (try clear hk); (try clear hi); (try clear ho0); obtain ⟨Ao41, co41, eo41⟩ := Kd.R_slice HO675.out; subst eo41; obtain ⟨Ao42, co42, eo42⟩ := Kd.R_slice HO678.out; subst eo42) | ((with_reducible refine gate_callee (f := 32) rfl ?_); refine goesL_ (some 30) rfl rfl Tryd.func32 (by kernel_rfl) rfl #[.slice Ao41 t673.length co41, .slice Ao42 t676.length co42] rfl (by (try simp only [List.map_toArray, List.map_cons, List.map_nil]); first | done | rfl | (simp only [List.length_drop, List.length_take]; rfl)) ?_; (with_reducible refine (laws_equalInts.calls kj4 _ _ t673 _ _ t676 true _ ?side1 ?side2 ?side3 ?side4 A29.out).mono ?_); (case side1 => repeat (first | exact (Kd.R_reads' HO675.out).2.2 | (with_reducible refine Kd.C_alloc ?_ _) | (with_reducible refine Kd.C_drewN ?_ _) | (with_reducible refine Kd.C_drew ?_))); (case side2 => exact (Kd.R_reads' HO675.out).2.1); (case side3 => repeat (first | exact (Kd.R_reads' HO678.out).2.2 | (with_reducible refine Kd.C_alloc ?_ _) | (with_reducible refine Kd.C_drewN ?_ _) | (with_reducible refine Kd.C_drew ?_))); (case side4 => exact (Kd.R_reads' HO678.out).2.1); rintro e w' ⟨rfl, ⟨nd, rfl⟩⟩; refine ⟨_, rfl, ?_⟩) | (go_at_call 44; (with_reducible refine (impl_TailTimes.calls _ _ t662 t680 _ ?side1 ?side2 ?side3 A31.out).mono ?_); (case side1 => repeat (first | exact (Kd.S_reads' HO_4.out).2.2 | (with_reducible refine Kd.C_alloc ?_ _) | (with_reducible refine Kd.C_drewN ?_ _) | (with_reducible refine Kd.C_drew ?_))); (case side2 => exact (Kd.S_reads' HO_4.out).2.1); (case side3 => exact Tab.of HT.out (by repeat (first | (with_reducible first | exact HB.out | apply below_alloc | apply pw_below_drewN | apply below_drew1) | exact HB.out))); rintro e w43 ⟨v681, rfl, ho0, hb⟩; have n0_ := Aside0.mk (Kd.S_elder' (by (with_reducible repeat (first | apply Kd.S_alloc | apply Kd.S_drewN | apply Kd.S_drew)); exact HO_3.out) (Kd.R_base ho0) hb); have n1_ := Aside0.mk (Kd.S_elder' (by (with_reducible repeat (first | apply Kd.S_alloc | apply Kd.S_drewN | apply Kd.S_drew)); exact HO_4.out) (Kd.R_base ho0) hb); have n2_ := Aside0.mk (Kd.R_elder' (by (with_reducible repeat (first | apply Kd.R_alloc | apply Kd.R_drewN | apply Kd.R_drew)); exact HO675.out) (Kd.R_base ho0) hb); have n3_ := Aside0.mk (Kd.R_elder' (by (with_reducible repeat (first | apply Kd.R_alloc | apply Kd.R_drewN | apply Kd.R_drew)); exact HO678.out) (Kd.R_base ho0) hb); have n4_ := Aside0.mk (Kd.R_lower (Kd.R_new' (Kd.R_new' ho0 (Kd.R_lt (by (with_reducible repeat (first | apply Kd.R_alloc | apply Kd.R_drewN | apply Kd.R_drew)); exact HO675.out))) (Kd.R_lt (by (with_reducible repeat (first | apply Kd.R_alloc | apply Kd.R_drewN | apply Kd.R_drew)); exact HO678.out))) (below_size (by repeat (first | (with_reducible first | exact HB.out | apply below_alloc | apply pw_below_drewN | apply below_drew1) | exact HB.out)))); have n5_ := Aside0.mk (below_step (by repeat (first | (with_reducible first | exact HB.out | apply below_alloc | apply pw_below_drewN | apply below_drew1) | exact HB.out)) hb); clear HO_3; clear HO_4; clear HO675; clear HO678; clear HB; have HO_3 := n0_; have HO_4 := n1_; have HO675 := n2_; have HO678 := n3_; have HO682 := n4_; have HB := n5_; clear n0_ n1_ n2_ n3_ n4_ n5_; (try clear hb); (try clear hb2); (try clear hk); (try clear hi); (try clear ho0)) | (go_at_call 44; (with_reducible refine (impl_TailTimes.calls _ _ t659 t683 _ ?side1 ?side2 ?side3 A32.out).mono ?_); (case side1 => repeat (first | exact (Kd.S_reads' HO_3.out).2.2 | (with_reducible refine Kd.C_alloc ?_ _) | (with_reducible refine Kd.C_drewN ?_ _) | (with_reducible refine Kd.C_drew ?_))); (case side2 => exact (Kd.S_reads' HO_3.out).2.1); (case side3 => exact Tab.of HT.out (by repeat (first | (with_reducible first | exact HB.out | apply below_alloc | apply pw_below_drewN | apply below_drew1) | exact HB.out))); rintro e w44 ⟨v684, rfl, ho0, hb⟩; have n0_ := Aside0.mk (Kd.S_elder' (by (with_reducible repeat (first | apply Kd.S_alloc | apply Kd.S_drewN | apply Kd.S_drew)); exact HO_3.out) (Kd.R_base ho0) hb); have n1_ := Aside0.mk (Kd.S_elder' (by (with_reducible repeat (first | apply Kd.S_alloc | apply Kd.S_drewN | apply Kd.S_drew)); exact HO_4.out) (Kd.R_base ho0) hb); have n2_ := Aside0.mk (Kd.R_elder' (by (with_reducible repeat (first | apply Kd.R_alloc | apply Kd.R_drewN | apply Kd.R_drew)); exact HO675.out) (Kd.R_base ho0) hb); have n3_ := Aside0.mk (Kd.R_elder' (by (with_reducible repeat (first | apply Kd.R_alloc | apply Kd.R_drewN | apply Kd.R_drew)); exact HO678.out) (Kd.R_base ho0) hb); have n4_ := Aside0.mk (Kd.R_elder' (by (with_reducible repeat (first | apply Kd.R_alloc | apply Kd.R_drewN | apply Kd.R_drew)); exact HO682.out) (Kd.R_base ho0) hb); have n5_ := Aside0.mk (Kd.R_lower (Kd.R_new' (Kd.R_new' (Kd.R_new' ho0 (Kd.R_lt (by (with_reducible repeat (first | apply Kd.R_alloc | apply Kd.R_drewN | apply Kd.R_drew)); exact HO675.out))) (Kd.R_lt (by (with_reducible repeat (first | apply Kd.R_alloc | apply Kd.R_drewN | apply Kd.R_drew)); exact HO678.out))) (Kd.R_lt (by (with_reducible repeat (first | apply Kd.R_alloc | apply Kd.R_drewN | apply Kd.R_drew)); exact HO682.out))) (below_size (by repeat (first | (with_reducible first | exact HB.out | apply below_alloc | apply pw_below_drewN | apply below_drew1) | exact HB.out)))); have n6_ := Aside0.mk (below_step (by repeat (first | (with_reducible first | exact HB.out | apply below_alloc | apply pw_below_drewN | apply below_drew1) | exact HB.out)) hb); clear HO_3; clear HO_4; clear HO675; clear HO678; clear HO682; clear HB; have HO_3 := n0_; have HO_4 := n1_; have HO675 := n2_; have HO678 := n3_; have HO682 := n4_; have HO685 := n5_; have HB := n6_; clear n0_ n1_ n2_ n3_ n4_ n5_ n6_; (try clear hb); (try clear hb2); (try clear hk); (try clear hi); (try clear ho0); obtain ⟨Ao45, co45, eo45⟩ := Kd.R_slice HO682.out; subst eo45; obtain ⟨Ao46, co46, eo46⟩ := Kd.R_slice HO685.out; subst eo46) | (go_at_call 32; (with_reducible refine (laws_equalInts.calls kj4 _ _ t680 _ _ t683 true _ ?side1 ?side2 ?side3 ?side4 A33.out).mono ?_); (case side1 => repeat (first | exact (Kd.R_reads' HO682.out).2.2 | (with_reducible refine Kd.C_alloc ?_ _) | (with_reducible refine Kd.C_drewN ?_ _) | (with_reducible refine Kd.C_drew ?_))); (case side2 => exact (Kd.R_reads' HO682.out).2.1); (case side3 => repeat (first | exact (Kd.R_reads' HO685.out).2.2 | (with_reducible refine Kd.C_alloc ?_ _) | (with_reducible refine Kd.C_drewN ?_ _) | (with_reducible refine Kd.C_drew ?_))); (case side4 => exact (Kd.R_reads' HO685.out).2.1); rintro e w' ⟨rfl, ⟨nd, rfl⟩⟩) | (go_at_call 45; (with_reducible refine (impl_StageOf.calls _ _ t662 t687 _ ?side1 ?side2 ?side3 A35.out).mono ?_); (case side1 => repeat (first | exact (Kd.S_reads' HO_4.out).2.2 | (with_reducible refine Kd.C_alloc ?_ _) | (with_reducible refine Kd.C_drewN ?_ _) | (with_reducible refine Kd.C_drew ?_))); (case side2 => exact (Kd.S_reads' HO_4.out).2.1); (case side3 => exact Tab.of HT.out (by repeat (first | (with_reducible first | exact HB.out | apply below_alloc | apply pw_below_drewN | apply below_drew1) | exact HB.out))); rintro e w47 ⟨v688, rfl, ho0, hb⟩; have n0_ := Aside0.mk (Kd.S_elder' (by (with_reducible repeat (first | apply Kd.S_alloc | apply Kd.S_drewN | apply Kd.S_drew)); exact HO_3.out) (Kd.R_base ho0) hb); have n1_ := Aside0.mk (Kd.S_elder' (by (with_reducible repeat (first | apply Kd.S_alloc | apply Kd.S_drewN | apply Kd.S_drew)); exact HO_4.out) (Kd.R_base ho0) hb); have n2_ := Aside0.mk (Kd.R_elder' (by (with_reducible repeat (first | apply Kd.R_alloc | apply Kd.R_drewN | apply Kd.R_drew)); exact HO675.out) (Kd.R_base ho0) hb); have n3_ := Aside0.mk (Kd.R_elder' (by (with_reducible repeat (first | apply Kd.R_alloc | apply Kd.R_drewN | apply Kd.R_drew)); exact HO678.out) (Kd.R_base ho0) hb); have n4_ := Aside0.mk (Kd.R_elder' (by (with_reducible repeat (first | apply Kd.R_alloc | apply Kd.R_drewN | apply Kd.R_drew)); exact HO682.out) (Kd.R_base ho0) hb); have n5_ := Aside0.mk (Kd.R_elder' (by (with_reducible repeat (first | apply Kd.R_alloc | apply Kd.R_drewN | apply Kd.R_drew)); exact HO685.out) (Kd.R_base ho0) hb); have n6_ := Aside0.mk (Kd.R_lower (Kd.R_new' (Kd.R_new' (Kd.R_new' (Kd.R_new' ho0 (Kd.R_lt (by (with_reducible repeat (first | apply Kd.R_alloc | apply Kd.R_drewN | apply Kd.R_drew)); exact HO675.out))) (Kd.R_lt (by (with_reducible repeat (first | apply Kd.R_alloc | apply Kd.R_drewN | apply Kd.R_drew)); exact HO678.out))) (Kd.R_lt (by (with_reducible repeat (first | apply Kd.R_alloc | apply Kd.R_drewN | apply Kd.R_drew)); exact HO682.out))) (Kd.R_lt (by (with_reducible repeat (first | apply Kd.R_alloc | apply Kd.R_drewN | apply Kd.R_drew)); exact HO685.out))) (below_size (by repeat (first | (with_reducible first | exact HB.out | apply below_alloc | apply pw_below_drewN | apply below_drew1) | exact HB.out)))); have n7_ := Aside0.mk (below_step (by repeat (first | (with_reducible first | exact HB.out | apply below_alloc | apply pw_below_drewN | apply below_drew1) | exact HB.out)) hb); clear HO_3; clear HO_4; clear HO675; clear HO678; clear HO682; clear HO685; clear HB; have HO_3 := n0_; have HO_4 := n1_; have HO675 := n2_; have HO678 := n3_; have HO682 := n4_; have HO685 := n5_; have HO689 := n6_; have HB := n7_; clear n0_ n1_ n2_ n3_ n4_ n5_ n6_ n7_; (try clear hb); (try clear hb2); (try clear hk); (try clear hi); (try clear ho0)) | (go_at_call 45; (with_reducible refine (impl_StageOf.calls _ _ t659 t690 _ ?side1 ?side2 ?side3 A36.out).mono ?_); (case side1 => repeat (first | exact (Kd.S_reads' HO_3.out).2.2 | (with_reducible refine Kd.C_alloc ?_ _) | (with_reducible refine Kd.C_drewN ?_ _) | (with_reducible refine Kd.C_drew ?_))); (case side2 => exact (Kd.S_reads' HO_3.out).2.1); (case side3 => exact Tab.of HT.out (by repeat (first | (with_reducible first | exact HB.out | apply below_alloc | apply pw_below_drewN | apply below_drew1) | exact HB.out))); rintro e w48 ⟨v691, rfl, ho0, hb⟩; have n0_ := Aside0.mk (Kd.S_elder' (by (with_reducible repeat (first | apply Kd.S_alloc | apply Kd.S_drewN | apply Kd.S_drew)); exact HO_3.out) (Kd.R_base ho0) hb); have n1_ := Aside0.mk (Kd.S_elder' (by (with_reducible repeat (first | apply Kd.S_alloc | apply Kd.S_drewN | apply Kd.S_drew)); exact HO_4.out) (Kd.R_base ho0) hb); have n2_ := Aside0.mk (Kd.R_elder' (by (with_reducible repeat (first | apply Kd.R_alloc | apply Kd.R_drewN | apply Kd.R_drew)); exact HO675.out) (Kd.R_base ho0) hb); have n3_ := Aside0.mk (Kd.R_elder' (by (with_reducible repeat (first | apply Kd.R_alloc | apply Kd.R_drewN | apply Kd.R_drew)); exact HO678.out) (Kd.R_base ho0) hb); have n4_ := Aside0.mk (Kd.R_elder' (by (with_reducible repeat (first | apply Kd.R_alloc | apply Kd.R_drewN | apply Kd.R_drew)); exact HO682.out) (Kd.R_base ho0) hb); have n5_ := Aside0.mk (Kd.R_elder' (by (with_reducible repeat (first | apply Kd.R_alloc | apply Kd.R_drewN | apply Kd.R_drew)); exact HO685.out) (Kd.R_base ho0) hb); have n6_ := Aside0.mk (Kd.R_elder' (by (with_reducible repeat (first | apply Kd.R_alloc | apply Kd.R_drewN | apply Kd.R_drew)); exact HO689.out) (Kd.R_base ho0) hb); have n7_ := Aside0.mk (Kd.R_lower (Kd.R_new' (Kd.R_new' (Kd.R_new' (Kd.R_new' (Kd.R_new' ho0 (Kd.R_lt (by (with_reducible repeat (first | apply Kd.R_alloc | apply Kd.R_drewN | apply Kd.R_drew)); exact HO675.out))) (Kd.R_lt (by (with_reducible repeat (first | apply Kd.R_alloc | apply Kd.R_drewN | apply Kd.R_drew)); exact HO678.out))) (Kd.R_lt (by (with_reducible repeat (first | apply Kd.R_alloc | apply Kd.R_drewN | apply Kd.R_drew)); exact HO682.out))) (Kd.R_lt (by (with_reducible repeat (first | apply Kd.R_alloc | apply Kd.R_drewN | apply Kd.R_drew)); exact HO685.out))) (Kd.R_lt (by (with_reducible repeat (first | apply Kd.R_alloc | apply Kd.R_drewN | apply Kd.R_drew)); exact HO689.out))) (below_size (by repeat (first | (with_reducible first | exact HB.out | apply below_alloc | apply pw_below_drewN | apply below_drew1) | exact HB.out)))); have n8_ := Aside0.mk (below_step (by repeat (first | (with_reducible first | exact HB.out | apply below_alloc | apply pw_below_drewN | apply below_drew1) | exact HB.out)) hb); clear HO_3; clear HO_4; clear HO675; clear HO678; clear HO682; clear HO685; clear HO689; clear HB; have HO_3 := n0_; have HO_4 := n1_; have HO675 := n2_; have HO678 := n3_; have HO682 := n4_; have HO685 := n5_; have HO689 := n6_; have HO692 := n7_; have HB := n8_; clear n0_ n1_ n2_ n3_ n4_ n5_ n6_ n7_ n8_; (try clear hb); (try clear hb2); (try clear hk); (try clear hi); (try clear ho0); obtain ⟨Ao49, co49, eo49⟩ := Kd.R_slice HO689.out; subst eo49; obtain ⟨Ao50, co50, eo50⟩ := Kd.R_slice HO692.out; subst eo50) | (go_at_call 32; (with_reducible refine (laws_equalInts.calls kj4 _ _ t687 _ _ t690 t693 _ ?side1 ?side2 ?side3 ?side4 A37.out).mono ?_); (case side1 => repeat (first | exact (Kd.R_reads' HO689.out).2.2 | (with_reducible refine Kd.C_alloc ?_ _) | (with_reducible refine Kd.C_drewN ?_ _) | (with_reducible refine Kd.C_drew ?_))); (case side2 => exact (Kd.R_reads' HO689.out).2.1); (case side3 => repeat (first | exact (Kd.R_reads' HO692.out).2.2 | (with_reducible refine Kd.C_alloc ?_ _) | (with_reducible refine Kd.C_drewN ?_ _) | (with_reducible refine Kd.C_drew ?_))); (case side4 => exact (Kd.R_reads' HO692.out).2.1); rintro e w' ⟨rfl, ⟨nd, rfl⟩⟩))
       go_ret
       exact ⟨by first | rfl | (simp [errW_none, errW_some] <;> rfl) | (simp [*, errW_none, errW_some] <;> rfl), by repeat (first | (with_reducible first | exact HB.out | apply below_alloc | apply pw_below_drewN | apply below_drew1) | exact HB.out)⟩
      ·replace c34 := Bool.eq_false_iff.mpr c34
       subst c34
       have H1 : (some false) = some r := by rw [if_neg (show ¬ (false = true) by decide)] at H; exact H
       clear H
       have H := H1
       clear H1
       obtain rfl := Option.some.inj H
       obtain ⟨Ao51, co51, eo51⟩ := Kd.S_slice HO_4.out
       subst eo51
       go_wp2_with (first | ((with_reducible refine gate_callee (f := 43) rfl ?_); refine goesL_ (some 27) rfl rfl Tryd.func43 (by kernel_rfl) rfl #[.slice Ao51 t662.length co51] rfl (by (try simp only [List.map_toArray, List.map_cons, List.map_nil]); first | done | rfl | (simp only [List.length_drop, List.length_take]; rfl)) ?_; (with_reducible refine (impl_HeadTimes.calls _ _ t662 t673 _ ?side1 ?side2 ?side3 A27.out).mono ?_); (case side1 => repeat (first | exact (Kd.S_reads' HO_4.out).2.2 | (with_reducible refine Kd.C_alloc ?_ _) | (with_reducible refine Kd.C_drewN ?_ _) | (with_reducible refine Kd.C_drew ?_))); (case side2 => exact (Kd.S_reads' HO_4.out).2.1); (case side3 => exact Tab.of HT.out (by repeat (first | (with_reducible first | exact HB.out | apply below_alloc | apply pw_below_drewN | apply below_drew1) | exact HB.out))); rintro e w52 ⟨v674, rfl, ho0, hb⟩; refine ⟨_, rfl, ?_⟩; have n0_ := Aside0.mk (Kd.S_elder' (by (with_reducible repeat (first | apply Kd.S_alloc | apply Kd.S_drewN | apply Kd.S_drew)); exact HO_3.out) (Kd.R_base ho0) hb); have n1_ := Aside0.mk (Kd.S_elder' (by (with_reducible repeat (first | apply Kd.S_alloc | apply Kd.S_drewN | apply Kd.S_drew)); exact HO_4.out) (Kd.R_base ho0) hb); have n2_ := Aside0.mk (Kd.R_lower ho0 (below_size (by repeat (first | (with_reducible first | exact HB.out | apply below_alloc | apply pw_below_drewN | apply below_drew1) | exact HB.out)))); have n3_ := Aside0.mk (below_step (by repeat (first | (with_reducible first | exact HB.out | apply below_alloc | apply pw_below_drewN | apply below_drew1) | exact HB.out)) hb); clear HO_3; clear HO_4; clear HB; have HO_3 := n0_; have HO_4 := n1_; have HO675 := n2_; have HB := n3_; clear n0_ n1_ n2_ n3_; (try clear hb); (try clear hb2); (try clear hk); (try clear hi); (try clear ho0)) | ((with_reducible refine gate_callee (f := 43) rfl ?_); refine goesL_ (some 29) rfl rfl Tryd.func43 (by kernel_rfl) rfl #[.slice Ao7 t659.length co7] rfl (by (try simp only [List.map_toArray, List.map_cons, List.map_nil]); first | done | rfl | (simp only [List.length_drop, List.length_take]; rfl)) ?_; (with_reducible refine (impl_HeadTimes.calls _ _ t659 t676 _ ?side1 ?side2 ?side3 A28.out).mono ?_); (case side1 => repeat (first | exact (Kd.S_reads' HO_3.out).2.2 | (with_reducible refine Kd.C_alloc ?_ _) | (with_reducible refine Kd.C_drewN ?_ _) | (with_reducible refine Kd.C_drew ?_))); (case side2 => exact (Kd.S_reads' HO_3.out).2.1); (case side3 => exact Tab.of HT.out (by repeat (first | (with_reducible first | exact HB.out | apply below_alloc | apply pw_below_drewN | apply below_drew1) | exact HB.out))); rintro e w53 ⟨v677, rfl, ho0, hb⟩; refine ⟨_, rfl, ?_⟩; have n0_ := Aside0.mk (Kd.S_elder' (by (with_reducible repeat (first | apply Kd.S_alloc | apply Kd.S_drewN | apply Kd.S_drew)); exact HO_3.out) (Kd.R_base ho0) hb); have n1_ := Aside0.mk (Kd.S_elder' (by (with_reducible repeat (first | apply Kd.S_alloc | apply Kd.S_drewN | apply Kd.S_drew)); exact HO_4.out) (Kd.R_base ho0) hb); have n2_ := Aside0.mk (Kd.R_elder' (by (with_reducible repeat (first | apply Kd.R_alloc | apply Kd.R_drewN | apply Kd.R_drew)); exact HO675.out) (Kd.R_base ho0) hb); have n3_ := Aside0.mk (Kd.R_lower (Kd.R_new' ho0 (Kd.R_lt (by (with_reducible repeat (first | apply Kd.R_alloc | apply Kd.R_drewN | apply Kd.R_drew)); exact HO675.out))) (below_size (by repeat (first | (with_reducible first | exact HB.out | apply below_alloc | apply pw_below_drewN | apply below_drew1) | exact HB.out)))); have n4_ := Aside0.mk (below_step (by repeat (first | (with_reducible first | exact HB.out | apply below_alloc | apply pw_below_drewN | apply below_drew1) | exact HB.out)) hb); clear HO_3; clear HO_4; clear HO675; clear HB; have HO_3 := n0_; have HO_4 := n1_; have HO675 := n2_; have HO678 := n3_; have HB := n4_; clear n0_ n1_ n2_ n3_ n4_; (try clear hb); (try clear hb2); (try clear hk); (try clear hi); (try clear ho0); obtain ⟨Ao54, co54, eo54⟩ := Kd.R_slice HO675.out; subst eo54; obtain ⟨Ao55, co55, eo55⟩ := Kd.R_slice HO678.out; subst eo55) | ((with_reducible refine gate_callee (f := 32) rfl ?_); refine goesL_ (some 30) rfl rfl Tryd.func32 (by kernel_rfl) rfl #[.slice Ao54 t673.length co54, .slice Ao55 t676.length co55] rfl (by (try simp only [List.map_toArray, List.map_cons, List.map_nil]); first | done | rfl | (simp only [List.length_drop, List.length_take]; rfl)) ?_; (with_reducible refine (laws_equalInts.calls kj4 _ _ t673 _ _ t676 true _ ?side1 ?side2 ?side3 ?side4 A29.out).mono ?_); (case side1 => repeat (first | exact (Kd.R_reads' HO675.out).2.2 | (with_reducible refine Kd.C_alloc ?_ _) | (with_reducible refine Kd.C_drewN ?_ _) | (with_reducible refine Kd.C_drew ?_))); (case side2 => exact (Kd.R_reads' HO675.out).2.1); (case side3 => repeat (first | exact (Kd.R_reads' HO678.out).2.2 | (with_reducible refine Kd.C_alloc ?_ _) | (with_reducible refine Kd.C_drewN ?_ _) | (with_reducible refine Kd.C_drew ?_))); (case side4 => exact (Kd.R_reads' HO678.out).2.1); rintro e w' ⟨rfl, ⟨nd, rfl⟩⟩; refine ⟨_, rfl, ?_⟩) | (go_at_call 44; (with_reducible refine (impl_TailTimes.calls _ _ t662 t680 _ ?side1 ?side2 ?side3 A31.out).mono ?_); (case side1 => repeat (first | exact (Kd.S_reads' HO_4.out).2.2 | (with_reducible refine Kd.C_alloc ?_ _) | (with_reducible refine Kd.C_drewN ?_ _) | (with_reducible refine Kd.C_drew ?_))); (case side2 => exact (Kd.S_reads' HO_4.out).2.1); (case side3 => exact Tab.of HT.out (by repeat (first | (with_reducible first | exact HB.out | apply below_alloc | apply pw_below_drewN | apply below_drew1) | exact HB.out))); rintro e w56 ⟨v681, rfl, ho0, hb⟩; have n0_ := Aside0.mk (Kd.S_elder' (by (with_reducible repeat (first | apply Kd.S_alloc | apply Kd.S_drewN | apply Kd.S_drew)); exact HO_3.out) (Kd.R_base ho0) hb); have n1_ := Aside0.mk (Kd.S_elder' (by (with_reducible repeat (first | apply Kd.S_alloc | apply Kd.S_drewN | apply Kd.S_drew)); exact HO_4.out) (Kd.R_base ho0) hb); have n2_ := Aside0.mk (Kd.R_elder' (by (with_reducible repeat (first | apply Kd.R_alloc | apply Kd.R_drewN | apply Kd.R_drew)); exact HO675.out) (Kd.R_base ho0) hb); have n3_ := Aside0.mk (Kd.R_elder' (by (with_reducible repeat (first | apply Kd.R_alloc | apply Kd.R_drewN | apply Kd.R_drew)); exact HO678.out) (Kd.R_base ho0) hb); have n4_ := Aside0.mk (Kd.R_lower (Kd.R_new' (Kd.R_new' ho0 (Kd.R_lt (by (with_reducible repeat (first | apply Kd.R_alloc | apply Kd.R_drewN | apply Kd.R_drew)); exact HO675.out))) (Kd.R_lt (by (with_reducible repeat (first | apply Kd.R_alloc | apply Kd.R_drewN | apply Kd.R_drew)); exact HO678.out))) (below_size (by repeat (first | (with_reducible first | exact HB.out | apply below_alloc | apply pw_below_drewN | apply below_drew1) | exact HB.out)))); have n5_ := Aside0.mk (below_step (by repeat (first | (with_reducible first | exact HB.out | apply below_alloc | apply pw_below_drewN | apply below_drew1) | exact HB.out)) hb); clear HO_3; clear HO_4; clear HO675; clear HO678; clear HB; have HO_3 := n0_; have HO_4 := n1_; have HO675 := n2_; have HO678 := n3_; have HO682 := n4_; have HB := n5_; clear n0_ n1_ n2_ n3_ n4_ n5_; (try clear hb); (try clear hb2); (try clear hk); (try clear hi); (try clear ho0)) | (go_at_call 44; (with_reducible refine (impl_TailTimes.calls _ _ t659 t683 _ ?side1 ?side2 ?side3 A32.out).mono ?_); (case side1 => repeat (first | exact (Kd.S_reads' HO_3.out).2.2 | (with_reducible refine Kd.C_alloc ?_ _) | (with_reducible refine Kd.C_drewN ?_ _) | (with_reducible refine Kd.C_drew ?_))); (case side2 => exact (Kd.S_reads' HO_3.out).2.1); (case side3 => exact Tab.of HT.out (by repeat (first | (with_reducible first | exact HB.out | apply below_alloc | apply pw_below_drewN | apply below_drew1) | exact HB.out))); rintro e w57 ⟨v684, rfl, ho0, hb⟩; have n0_ := Aside0.mk (Kd.S_elder' (by (with_reducible repeat (first | apply Kd.S_alloc | apply Kd.S_drewN | apply Kd.S_drew)); exact HO_3.out) (Kd.R_base ho0) hb); have n1_ := Aside0.mk (Kd.S_elder' (by (with_reducible repeat (first | apply Kd.S_alloc | apply Kd.S_drewN | apply Kd.S_drew)); exact HO_4.out) (Kd.R_base ho0) hb); have n2_ := Aside0.mk (Kd.R_elder' (by (with_reducible repeat (first | apply Kd.R_alloc | apply Kd.R_drewN | apply Kd.R_drew)); exact HO675.out) (Kd.R_base ho0) hb); have n3_ := Aside0.mk (Kd.R_elder' (by (with_reducible repeat (first | apply Kd.R_alloc | apply Kd.R_drewN | apply Kd.R_drew)); exact HO678.out) (Kd.R_base ho0) hb); have n4_ := Aside0.mk (Kd.R_elder' (by (with_reducible repeat (first | apply Kd.R_alloc | apply Kd.R_drewN | apply Kd.R_drew)); exact HO682.out) (Kd.R_base ho0) hb); have n5_ := Aside0.mk (Kd.R_lower (Kd.R_new' (Kd.R_new' (Kd.R_new' ho0 (Kd.R_lt (by (with_reducible repeat (first | apply Kd.R_alloc | apply Kd.R_drewN | apply Kd.R_drew)); exact HO675.out))) (Kd.R_lt (by (with_reducible repeat (first | apply Kd.R_alloc | apply Kd.R_drewN | apply Kd.R_drew)); exact HO678.out))) (Kd.R_lt (by (with_reducible repeat (first | apply Kd.R_alloc | apply Kd.R_drewN | apply Kd.R_drew)); exact HO682.out))) (below_size (by repeat (first | (with_reducible first | exact HB.out | apply below_alloc | apply pw_below_drewN | apply below_drew1) | exact HB.out)))); have n6_ := Aside0.mk (below_step (by repeat (first | (with_reducible first | exact HB.out | apply below_alloc | apply pw_below_drewN | apply below_drew1) | exact HB.out)) hb); clear HO_3; clear HO_4; clear HO675; clear HO678; clear HO682; clear HB; have HO_3 := n0_; have HO_4 := n1_; have HO675 := n2_; have HO678 := n3_; have HO682 := n4_; have HO685 := n5_; have HB := n6_; clear n0_ n1_ n2_ n3_ n4_ n5_ n6_; (try clear hb); (try clear hb2); (try clear hk); (try clear hi); (try clear ho0); obtain ⟨Ao58, co58, eo58⟩ := Kd.R_slice HO682.out; subst eo58; obtain ⟨Ao59, co59, eo59⟩ := Kd.R_slice HO685.out; subst eo59) | (go_at_call 32; (with_reducible refine (laws_equalInts.calls kj4 _ _ t680 _ _ t683 false _ ?side1 ?side2 ?side3 ?side4 A33.out).mono ?_); (case side1 => repeat (first | exact (Kd.R_reads' HO682.out).2.2 | (with_reducible refine Kd.C_alloc ?_ _) | (with_reducible refine Kd.C_drewN ?_ _) | (with_reducible refine Kd.C_drew ?_))); (case side2 => exact (Kd.R_reads' HO682.out).2.1); (case side3 => repeat (first | exact (Kd.R_reads' HO685.out).2.2 | (with_reducible refine Kd.C_alloc ?_ _) | (with_reducible refine Kd.C_drewN ?_ _) | (with_reducible refine Kd.C_drew ?_))); (case side4 => exact (Kd.R_reads' HO685.out).2.1); rintro e w' ⟨rfl, ⟨nd, rfl⟩⟩))
       go_ret
       exact ⟨by first | rfl | (simp [errW_none, errW_some] <;> rfl) | (simp [*, errW_none, errW_some] <;> rfl), by repeat (first | (with_reducible first | exact HB.out | apply below_alloc | apply pw_below_drewN | apply below_drew1) | exact HB.out)⟩
     ·replace c30 := Bool.eq_false_iff.mpr c30
      subst c30
      have H1 : (some false) = some r := by rw [if_neg (show ¬ (false = true) by decide)] at H; exact H
      clear H
      have H := H1
      clear H1
      obtain rfl := Option.some.inj H
      obtain ⟨Ao60, co60, eo60⟩ := Kd.S_slice HO_4.out
      subst eo60
      go_wp2_with (first | ((with_reducible refine gate_callee (f := 43) rfl ?_); refine goesL_ (some 27) rfl rfl Tryd.func43 (by kernel_rfl) rfl #[.slice Ao60 t662.length co60] rfl (by (try simp only [List.map_toArray, List.map_cons, List.map_nil]); first | done | rfl | (simp only [List.length_drop, List.length_take]; rfl)) ?_; (with_reducible refine (impl_HeadTimes.calls _ _ t662 t673 _ ?side1 ?side2 ?side3 A27.out).mono ?_); (case side1 => repeat (first | exact (Kd.S_reads' HO_4.out).2.2 | (with_reducible refine Kd.C_alloc ?_ _) | (with_reducible refine Kd.C_drewN ?_ _) | (with_reducible refine Kd.C_drew ?_))); (case side2 => exact (Kd.S_reads' HO_4.out).2.1); (case side3 => exact Tab.of HT.out (by repeat (first | (with_reducible first | exact HB.out | apply below_alloc | apply pw_below_drewN | apply below_drew1) | exact HB.out))); rintro e w61 ⟨v674, rfl, ho0, hb⟩; refine ⟨_, rfl, ?_⟩; have n0_ := Aside0.mk (Kd.S_elder' (by (with_reducible repeat (first | apply Kd.S_alloc | apply Kd.S_drewN | apply Kd.S_drew)); exact HO_3.out) (Kd.R_base ho0) hb); have n1_ := Aside0.mk (Kd.S_elder' (by (with_reducible repeat (first | apply Kd.S_alloc | apply Kd.S_drewN | apply Kd.S_drew)); exact HO_4.out) (Kd.R_base ho0) hb); have n2_ := Aside0.mk (Kd.R_lower ho0 (below_size (by repeat (first | (with_reducible first | exact HB.out | apply below_alloc | apply pw_below_drewN | apply below_drew1) | exact HB.out)))); have n3_ := Aside0.mk (below_step (by repeat (first | (with_reducible first | exact HB.out | apply below_alloc | apply pw_below_drewN | apply below_drew1) | exact HB.out)) hb); clear HO_3; clear HO_4; clear HB; have HO_3 := n0_; have HO_4 := n1_; have HO675 := n2_; have HB := n3_; clear n0_ n1_ n2_ n3_; (try clear hb); (try clear hb2); (try clear hk); (try clear hi); (try clear ho0)) | ((with_reducible refine gate_callee (f := 43) rfl ?_); refine goesL_ (some 29) rfl rfl Tryd.func43 (by kernel_rfl) rfl #[.slice Ao7 t659.length co7] rfl (by (try simp only [List.map_toArray, List.map_cons, List.map_nil]); first | done | rfl | (simp only [List.length_drop, List.length_take]; rfl)) ?_; (with_reducible refine (impl_HeadTimes.calls _ _ t659 t676 _ ?side1 ?side2 ?side3 A28.out).mono ?_); (case side1 => repeat (first | exact (Kd.S_reads' HO_3.out).2.2 | (with_reducible refine Kd.C_alloc ?_ _) | (with_reducible refine Kd.C_drewN ?_ _) | (with_reducible refine Kd.C_drew ?_))); (case side2 => exact (Kd.S_reads' HO_3.out).2.1); (case side3 => exact Tab.of HT.out (by repeat (first | (with_reducible first | exact HB.out | apply below_alloc | apply pw_below_drewN | apply below_drew1) | exact HB.out))); rintro e w62 ⟨v677, rfl, ho0, hb⟩; refine ⟨_, rfl, ?_⟩; have n0_ := Aside0.mk (Kd.S_elder' (by (with_reducible repeat (first | apply Kd.S_alloc | apply Kd.S_drewN | apply Kd.S_drew)); exact HO_3.out) (Kd.R_base ho0) hb); have n1_ := Aside0.mk (Kd.S_elder' (by (with_reducible repeat (first | apply Kd.S_alloc | apply Kd.S_drewN | apply Kd.S_drew)); exact HO_4.out) (Kd.R_base ho0) hb); have n2_ := Aside0.mk (Kd.R_elder' (by (with_reducible repeat (first | apply Kd.R_alloc | apply Kd.R_drewN | apply Kd.R_drew)); exact HO675.out) (Kd.R_base ho0) hb); have n3_ := Aside0.mk (Kd.R_lower (Kd.R_new' ho0 (Kd.R_lt (by (with_reducible repeat (first | apply Kd.R_alloc | apply Kd.R_drewN | apply Kd.R_drew)); exact HO675.out))) (below_size (by repeat (first | (with_reducible first | exact HB.out | apply below_alloc | apply pw_below_drewN | apply below_drew1) | exact HB.out)))); have n4_ := Aside0.mk (below_step (by repeat (first | (with_reducible first | exact HB.out | apply below_alloc | apply pw_below_drewN | apply below_drew1) | exact HB.out)) hb); clear HO_3; clear HO_4; clear HO675; clear HB; have HO_3 := n0_; have HO_4 := n1_; have HO675 := n2_; have HO678 := n3_; have HB := n4_; clear n0_ n1_ n2_ n3_ n4_; (try clear hb); (try clear hb2); (try clear hk); (try clear hi); (try clear ho0); obtain ⟨Ao63, co63, eo63⟩ := Kd.R_slice HO675.out; subst eo63; obtain ⟨Ao64, co64, eo64⟩ := Kd.R_slice HO678.out; subst eo64) | ((with_reducible refine gate_callee (f := 32) rfl ?_); refine goesL_ (some 30) rfl rfl Tryd.func32 (by kernel_rfl) rfl #[.slice Ao63 t673.length co63, .slice Ao64 t676.length co64] rfl (by (try simp only [List.map_toArray, List.map_cons, List.map_nil]); first | done | rfl | (simp only [List.length_drop, List.length_take]; rfl)) ?_; (with_reducible refine (laws_equalInts.calls kj4 _ _ t673 _ _ t676 false _ ?side1 ?side2 ?side3 ?side4 A29.out).mono ?_); (case side1 => repeat (first | exact (Kd.R_reads' HO675.out).2.2 | (with_reducible refine Kd.C_alloc ?_ _) | (with_reducible refine Kd.C_drewN ?_ _) | (with_reducible refine Kd.C_drew ?_))); (case side2 => exact (Kd.R_reads' HO675.out).2.1); (case side3 => repeat (first | exact (Kd.R_reads' HO678.out).2.2 | (with_reducible refine Kd.C_alloc ?_ _) | (with_reducible refine Kd.C_drewN ?_ _) | (with_reducible refine Kd.C_drew ?_))); (case side4 => exact (Kd.R_reads' HO678.out).2.1); rintro e w' ⟨rfl, ⟨nd, rfl⟩⟩; refine ⟨_, rfl, ?_⟩))
      go_ret
      exact ⟨by first | rfl | (simp [errW_none, errW_some] <;> rfl) | (simp [*, errW_none, errW_some] <;> rfl), by repeat (first | (with_reducible first | exact HB.out | apply below_alloc | apply pw_below_drewN | apply below_drew1) | exact HB.out)⟩
end Go.Proofs.YtpibdjkajgfgjaaDoor.P
end
section
set_option linter.unusedVariables false
set_option linter.unusedSimpArgs false
namespace Go.Proofs.YtpibdjkajgfgjaaDoor.Core
open Go Go.RowKit Go.Proofs.YtpibdjkajgfgjaaDoorW.PrintWords Go.Proofs.YtpibdjkajgfgjaaDoorW.PrintMore Go.Proofs.YtpibdjkajgfgjaaDoor.P
theorem ufold_bit (G : GD) (i k : Nat) : ∀ (ks : List Nat) (o : Nat), (ks.foldl (ustep G i) o).testBit k = true ↔ o.testBit k = true ∨ ∃ m ∈ ks, (G.needs.getD i 0).testBit k = true ∧ (G.below.getD m 0).testBit k = true
 | [], o => by simp
 | x :: ks, o => by
  rw [List.foldl_cons, ufold_bit G i k ks, ustep, Nat.testBit_or, Nat.testBit_and, Bool.or_eq_true, Bool.and_eq_true]
  constructor
  ·rintro ((h | h) | ⟨m, hm, h⟩)
   ·exact .inl h
   ·exact .inr ⟨x, List.mem_cons_self, h⟩
   ·exact .inr ⟨m, List.mem_cons_of_mem _ hm, h⟩
  ·rintro (h | ⟨m, hm, h⟩)
   ·exact .inl (.inl h)
   ·rcases List.mem_cons.1 hm with rfl | hm
    ·exact .inl (.inr h)
    ·exact .inr ⟨m, hm, h⟩
theorem VG.useless_bit {g : List Tk} {G : GD} (v : VG g G) (i k : Nat) : (uselessD G i).testBit k = true ↔ (G.needs.getD i 0).testBit k = true ∧ ∃ m, (G.needs.getD i 0).testBit m = true ∧ (G.below.getD m 0).testBit k = true := by
 unfold uselessD
 rw [ufold_bit]
 constructor
 ·rintro (h | ⟨m, hm, h1, h2⟩)
  ·simp at h
  ·exact ⟨h1, m, (mem_elemsN.1 hm).2, h2⟩
 ·rintro ⟨h1, m, hm, h2⟩
  exact .inr ⟨m, mem_elemsN.2 ⟨by have := v.need_lt hm; have := v.n8; omega, hm⟩, h1, h2⟩
theorem withoutTo_get (G : GD) (g : List Tk) {n i : Nat} (h : i < n) : (withoutTo G g n).getD i z48 = wtask G g i := by
 unfold withoutTo
 rw [List.getD_eq_getElem?_getD, List.getElem?_map, List.getElem?_range h]
 rfl
theorem gok_of {g : List Tk} {G : GD} (v : VG g G) (hG : graphD g = some G) (i : Nat) : uselessD G i < 2 ^ g.length := by
 have := uselessD_lt (graphD_ok hG) i
 rwa [v.tasks] at this
end Go.Proofs.YtpibdjkajgfgjaaDoor.Core
end
section
set_option linter.unusedVariables false
set_option linter.unusedSimpArgs false
namespace Go.Proofs.YtpibdjkajgfgjaaDoor.Core
open Go Go.RowKit Go.Proofs.YtpibdjkajgfgjaaDoorW.PrintWords Go.Proofs.YtpibdjkajgfgjaaDoorW.PrintMore Go.Proofs.YtpibdjkajgfgjaaDoor.P
theorem VG.below_all {g : List Tk} {G : GD} (v : VG g G) (hG : graphD g = some G) (i : Nat) : G.below.getD i 0 < 2 ^ g.length := by
 have ok := graphD_ok hG
 have h := getD_lt ok.bb i
 rwa [v.tasks] at h
theorem VG.below_lt {g : List Tk} {G : GD} (v : VG g G) (hG : graphD g = some G) {i j : Nat} (h : (G.below.getD i 0).testBit j = true) : j < g.length := by
 have h1 := v.below_all hG i
 have h2 := Nat.ge_two_pow_of_testBit h
 have h3 : 2 ^ j < 2 ^ g.length := Nat.lt_of_le_of_lt h2 h1
 exact (Nat.pow_lt_pow_iff_right (by omega)).1 h3
theorem VG.need_below {g : List Tk} {G : GD} (v : VG g G) (hG : graphD g = some G) {i j : Nat} (hi : i < g.length) (h : (G.needs.getD i 0).testBit j = true) : (G.below.getD i 0).testBit j = true :=
 (below_bits hG hi j).2 ⟨j, h, .inl rfl⟩
theorem VG.below_closed {g : List Tk} {G : GD} (v : VG g G) (hG : graphD g = some G) : ∀ i, i < g.length → ∀ j, (G.below.getD i 0).testBit j = true → ∀ l, (G.needs.getD j 0).testBit l = true → (G.below.getD i 0).testBit l = true := by
 refine v.ind (Q := fun i => ∀ j, (G.below.getD i 0).testBit j = true → ∀ l, (G.needs.getD j 0).testBit l = true → (G.below.getD i 0).testBit l = true) fun i hi ih j hj l hl => ?_
 obtain ⟨m, hm, h⟩ := (below_bits hG hi j).1 hj
 refine (below_bits hG hi l).2 ⟨m, hm, .inr ?_⟩
 rcases h with rfl | h
 ·exact v.need_below hG (v.need_lt hm) hl
 ·exact ih m hm j h l hl
theorem VG.not_self {g : List Tk} {G : GD} (v : VG g G) (hG : graphD g = some G) {i : Nat} (hi : i < g.length) : (G.below.getD i 0).testBit i = false := by
 refine Bool.eq_false_iff.2 fun h => ?_
 obtain ⟨pre, suf, ho⟩ := List.append_of_mem (v.mem.2 hi)
 have hm := v.below_before hG i hi i h pre suf ho
 have hn := v.ord.nodup
 rw [ho, List.nodup_append] at hn
 exact hn.2.2 i hm i List.mem_cons_self rfl
/-- The graph without useless needs. -/
theorem without_graph {g : List Tk} {G : GD} (hG : graphD g = some G) : (withoutD g).length = g.length ∧ ∃ G2, graphD (withoutD g) = some G2 ∧ ∀ i, i < g.length → ∀ j, (G2.needs.getD i 0).testBit j = true ↔ (G.needs.getD i 0).testBit j = true ∧ ¬ (uselessD G i).testBit j = true := by
 have v := vg_of hG
 have h8 := v.n8
 have h256 : 2 ^ g.length ≤ 256 := pow8 h8
 have hw : withoutD g = withoutTo G g g.length := by unfold withoutD; rw [hG]
 rw [hw]
 have hl := withoutTo_length G g g.length
 have hbit : ∀ i, ∀ j, (sub (G.needs.getD i 0) (uselessD G i)).testBit j = true ↔ (G.needs.getD i 0).testBit j = true ∧ ¬ (uselessD G i).testBit j = true := by
  intro i j
  have h1 := getD_lt v.nb i
  have h2 := gok_of v hG i
  rw [sub_testBit (by omega) (by omega), Bool.and_eq_true]
  simp
 have hmem : ∀ i, ∀ j : Nat, ((j : Int) ∈ (wtask G g i).f1 ↔ (sub (G.needs.getD i 0) (uselessD G i)).testBit j = true) := by
  intro i j
  show (j : Int) ∈ elems _ ↔ _
  rw [mem_elems]
  constructor
  ·rintro ⟨x, hx, _, h⟩
   have : j = x := by omega
   rw [this]; exact h
  ·intro h
   exact ⟨j, rfl, by have := v.need_lt ((hbit i j).1 h).1; omega, h⟩
 obtain ⟨G2, hG2, v2, hin⟩ := fewer_graph v hl (fun t ht => by
  obtain ⟨i, hi, rfl⟩ := List.mem_map.1 ht
  have hi' := List.mem_range.1 hi
  have hg : g.getD i z48 ∈ g := by
   rw [List.getD_eq_getElem?_getD, List.getElem?_eq_getElem hi']
   exact List.getElem_mem hi'
  have hok := (v.fine.1 _ hg).1
  refine ⟨hok, fun x hx => ?_, asc_elems _⟩
  have := elems_lt (n := g.length) (sub_lt (getD_lt v.nb i)) hx
  omega) (fun i hi j hj => by
  rw [withoutTo_get G g hi, hmem, hbit] at hj
  have := hj.1
  rwa [v.bits i hi, decide_eq_true_eq] at this)
 refine ⟨hl, G2, hG2, fun i hi j => ?_⟩
 rw [v2.bits i (by rw [hl]; exact hi), decide_eq_true_eq, withoutTo_get G g hi, hmem, hbit]
end Go.Proofs.YtpibdjkajgfgjaaDoor.Core
end
section
set_option linter.unusedVariables false
set_option linter.unusedSimpArgs false
namespace Go.Proofs.YtpibdjkajgfgjaaDoor.Core
open Go Go.RowKit Go.Proofs.YtpibdjkajgfgjaaDoorW.PrintWords Go.Proofs.YtpibdjkajgfgjaaDoorW.PrintMore Go.Proofs.YtpibdjkajgfgjaaDoor.P
/-- Numbers of tasks that are told by those of their needs. -/
def NumOk (n : Nat) (N : List Nat) (c : Nat → Nat) (B : List Nat) : Prop := B.length = n ∧ ∀ i, i < n → (∀ m, (N.getD i 0).testBit m = true → B.getD m 0 + c m ≤ B.getD i 0) ∧ (B.getD i 0 = 0 ∨ ∃ m, (N.getD i 0).testBit m = true ∧ B.getD i 0 = B.getD m 0 + c m)
theorem num_uniq {g : List Tk} {G : GD} (v : VG g G) {c : Nat → Nat} {B C : List Nat} (hB : NumOk g.length G.needs c B) (hC : NumOk g.length G.needs c C) : B = C := by
 have key : ∀ i, i < g.length → B.getD i 0 = C.getD i 0 := by
  refine v.ind (Q := fun i => B.getD i 0 = C.getD i 0) fun i hi ih => ?_
  obtain ⟨b1, b2⟩ := hB.2 i hi
  obtain ⟨c1, c2⟩ := hC.2 i hi
  have h1 : B.getD i 0 ≤ C.getD i 0 := by
   rcases b2 with h | ⟨m, hm, h⟩
   ·omega
   ·have := c1 m hm
    have := ih m hm
    omega
  have h2 : C.getD i 0 ≤ B.getD i 0 := by
   rcases c2 with h | ⟨m, hm, h⟩
   ·omega
   ·have := b1 m hm
    have := ih m hm
    omega
  omega
 refine List.ext_getElem (by rw [hB.1, hC.1]) fun i h1 h2 => ?_
 have := key i (by rw [hB.1] at h1; exact h1)
 rwa [List.getD_eq_getElem?_getD, List.getElem?_eq_getElem h1, List.getD_eq_getElem?_getD, List.getElem?_eq_getElem h2, Option.getD_some, Option.getD_some] at this
theorem num_below {g : List Tk} {G : GD} (v : VG g G) (hG : graphD g = some G) {c : Nat → Nat} {B : List Nat} (hB : NumOk g.length G.needs c B) : ∀ x, x < g.length → ∀ m, (G.below.getD x 0).testBit m = true → B.getD m 0 + c m ≤ B.getD x 0 := by
 refine v.ind (Q := fun x => ∀ m, (G.below.getD x 0).testBit m = true → B.getD m 0 + c m ≤ B.getD x 0) fun x hx ih m hm => ?_
 obtain ⟨y, hy, h⟩ := (below_bits hG hx m).1 hm
 have h1 := (hB.2 x hx).1 y hy
 rcases h with rfl | h
 ·exact h1
 ·have := ih y hy m h
  omega
/-- Numbers stay when useless needs are taken away. -/
theorem num_without {g : List Tk} {G G2 : GD} (hG : graphD g = some G) (hG2 : graphD (withoutD g) = some G2) {c : Nat → Nat} (hc : ∀ m, m < g.length → 1 ≤ c m) {B : List Nat} (hB : NumOk g.length G.needs c B) : NumOk g.length G2.needs c B := by
 have v := vg_of hG
 obtain ⟨hl, G3, hG3, hb⟩ := without_graph hG
 rw [hG2] at hG3
 obtain rfl := Option.some.inj hG3
 refine ⟨hB.1, fun i hi => ⟨fun m hm => (hB.2 i hi).1 m ((hb i hi m).1 hm).1, (hB.2 i hi).2.imp_right ?_⟩⟩
 rintro ⟨m, hm, h⟩
 refine ⟨m, (hb i hi m).2 ⟨hm, fun hu => ?_⟩, h⟩
 obtain ⟨_, x, hx, hbx⟩ := (v.useless_bit i m).1 hu
 have h1 := num_below v hG hB x (v.need_lt hx) m hbx
 have h2 := (hB.2 i hi).1 x hx
 have h3 := hc x (v.need_lt hx)
 omega
theorem stages_ok {g : List Tk} {G : GD} (v : VG g G) : NumOk g.length G.needs (fun _ => 1) (stagesN G) :=
 ⟨by unfold stagesN; rw [stTo_length, v.tasks], fun i hi => v.stage hi⟩
theorem heads_ok {g : List Tk} {G : GD} (v : VG g G) : NumOk g.length G.needs (tmN g) (headsN G) :=
 ⟨by unfold headsN; rw [hTo_length, v.tasks], fun i hi => v.head hi⟩
theorem without_tm {g : List Tk} {G : GD} (hG : graphD g = some G) {i : Nat} (hi : i < g.length) : tmN (withoutD g) i = tmN g i := by
 have hw : withoutD g = withoutTo G g g.length := by unfold withoutD; rw [hG]
 unfold tmN
 rw [hw, withoutTo_get G g hi]
 rfl
theorem without_stages {g : List Tk} {G G2 : GD} (hG : graphD g = some G) (hG2 : graphD (withoutD g) = some G2) : stagesN G2 = stagesN G := by
 have v := vg_of hG
 have v2 := vg_of hG2
 have hl := (without_graph hG).1
 have h1 := stages_ok v2
 have h2 := num_without hG hG2 (fun _ _ => Nat.le_refl 1) (stages_ok v)
 rw [← hl] at h2
 exact num_uniq v2 h1 h2
theorem num_congr {n : Nat} {N : List Nat} {c d : Nat → Nat} {B : List Nat} (h : ∀ i, i < n → ∀ m, (N.getD i 0).testBit m = true → c m = d m) (hB : NumOk n N c B) : NumOk n N d B :=
 ⟨hB.1, fun i hi => ⟨fun m hm => by rw [← h i hi m hm]; exact (hB.2 i hi).1 m hm, (hB.2 i hi).2.imp_right fun ⟨m, hm, e⟩ => ⟨m, hm, by rw [← h i hi m hm]; exact e⟩⟩⟩
theorem without_heads {g : List Tk} {G G2 : GD} (hG : graphD g = some G) (hG2 : graphD (withoutD g) = some G2) (htm : ∀ m, m < g.length → 1 ≤ tmN g m) : headsN G2 = headsN G := by
 have v := vg_of hG
 have v2 := vg_of hG2
 have hl := (without_graph hG).1
 have h1 := num_congr (d := tmN g) (fun i hi m hm => without_tm hG (by have := v2.need_lt hm; omega)) (heads_ok v2)
 have h2 := num_without hG hG2 htm (heads_ok v)
 rw [← hl] at h2
 exact num_uniq v2 h1 h2
theorem without_tails {g : List Tk} {G G2 : GD} (hG : graphD g = some G) (hG2 : graphD (withoutD g) = some G2) (htm : ∀ m, m < g.length → 1 ≤ tmN g m) : tailsN G2 = tailsN G := by
 have v := vg_of hG
 have v2 := vg_of hG2
 obtain ⟨hl, G3, hG3, hb⟩ := without_graph hG
 rw [hG2] at hG3
 obtain rfl := Option.some.inj hG3
 have hok := tails_ok v
 have hbelow : ∀ x, x < g.length → ∀ i, (G.below.getD x 0).testBit i = true → (tailsN G).getD x 0 + tmN g i ≤ (tailsN G).getD i 0 := by
  refine v.ind (Q := fun x => ∀ i, (G.below.getD x 0).testBit i = true → (tailsN G).getD x 0 + tmN g i ≤ (tailsN G).getD i 0) fun x hx ih i hi => ?_
  obtain ⟨y, hy, h⟩ := (below_bits hG hx i).1 hi
  have h1 := (hok.2 y (v.need_lt hy)).1 x hx hy
  rcases h with rfl | h
  ·exact h1
  ·have := ih y hy i h
   omega
 have h2 : TailOk (withoutD g) G2.needs (tailsN G) := by
  refine ⟨by rw [hok.1, hl], fun i hi => ?_⟩
  rw [hl] at hi
  rw [without_tm hG hi, hl]
  refine ⟨fun k hk hb2 => (hok.2 i hi).1 k hk ((hb k hk i).1 hb2).1, (hok.2 i hi).2.imp_right ?_⟩
  rintro ⟨k, hk, hbk, e⟩
  refine ⟨k, hk, (hb k hk i).2 ⟨hbk, fun hu => ?_⟩, e⟩
  obtain ⟨_, x, hx, hbx⟩ := (v.useless_bit k i).1 hu
  have h3 := hbelow x (v.need_lt hx) i hbx
  have h4 := (hok.2 x (v.need_lt hx)).1 k hk hx
  have h5 := htm x (v.need_lt hx)
  omega
 exact tail_uniq v2 hG2 (tails_ok v2) h2
end Go.Proofs.YtpibdjkajgfgjaaDoor.Core
end
section
set_option linter.unusedVariables false
set_option linter.unusedSimpArgs false
namespace Go.Proofs.YtpibdjkajgfgjaaDoor.Core
open Go Go.RowKit Go.Proofs.YtpibdjkajgfgjaaDoorW.PrintWords Go.Proofs.YtpibdjkajgfgjaaDoorW.PrintMore Go.Proofs.YtpibdjkajgfgjaaDoor.P
theorem withoutD_fits (g : List Tk) : Fits (withoutD g) := by
 unfold withoutD
 cases hG : graphD g with
 | none => exact ⟨(by show ([] : List Tk).length < _; decide), fun t ht => by cases ht⟩
 | some G =>
  have h8 := (vg_of hG).n8
  refine ⟨by show (withoutTo G g g.length).length < _; rw [withoutTo_length]; unfold big; omega, fun t ht => ?_⟩
  obtain ⟨i, _, rfl⟩ := List.mem_map.1 ht
  show (elems _).length < _
  have := elems_length (sub (G.needs.getD i 0) (uselessD G i))
  unfold big
  omega
theorem withoutD_none {g : List Tk} (h : (withoutD g).length ≠ 0) : ∃ G, graphD g = some G := by
 cases hG : graphD g with
 | none => exact absurd (by unfold withoutD; rw [hG]; rfl) h
 | some G => exact ⟨G, rfl⟩
end Go.Proofs.YtpibdjkajgfgjaaDoor.Core
end
section
set_option linter.unusedVariables false
set_option linter.unusedSimpArgs false
namespace Go.Proofs.YtpibdjkajgfgjaaDoor.Core
open Go Go.RowKit Go.Proofs.YtpibdjkajgfgjaaDoorW.PrintWords Go.Proofs.YtpibdjkajgfgjaaDoorW.PrintMore Go.Proofs.YtpibdjkajgfgjaaDoor.P
theorem VG.closed_iff {g : List Tk} {G : GD} (v : VG g G) {s : Nat} (hs : s < 2 ^ g.length) : closedD G.needs s = true ↔ ∀ i, s.testBit i = true → ∀ j, (G.needs.getD i 0).testBit j = true → s.testBit j = true := by
 unfold closedD
 rw [List.all_eq_true]
 constructor
 ·intro h i hi j hj
  have := of_decide_eq_true (h i ((v.list_bit hs i).1 hi))
  exact (v.sub_iff' hs).1 this j hj
 ·intro h i hi
  exact decide_eq_true ((v.sub_iff' hs).2 (h i ((v.list_bit hs i).2 hi)))
theorem VG.mem_rd {g : List Tk} {G : GD} (v : VG g G) {s x : Nat} : (G.ready s).testBit x = true ↔ x < g.length ∧ s.testBit x = false ∧ sub (G.needs.getD x 0) s = 0 := by
 rw [← v.mem_ready, mem_elemsN]
 refine ⟨fun h => ⟨?_, h⟩, fun h => h.2⟩
 have h1 := ready_lt G s
 rw [v.nl] at h1
 have h3 := (Nat.pow_lt_pow_iff_right (by omega : 1 < 2)).1 (Nat.lt_of_le_of_lt (Nat.ge_two_pow_of_testBit h) h1)
 have := v.n8
 omega
/-- A ready task can be done. -/
theorem VG.step {g : List Tk} {G : GD} (v : VG g G) {s x : Nat} (hs : s < 2 ^ g.length) (hc : closedD G.needs s = true) (hx : (G.ready s).testBit x = true) : s ||| 2 ^ x < 2 ^ g.length ∧ closedD G.needs (s ||| 2 ^ x) = true ∧ zb g.length (s ||| 2 ^ x) + 1 = zb g.length s := by
 obtain ⟨h1, h2, h3⟩ := v.mem_rd.1 hx
 have hlt : s ||| 2 ^ x < 2 ^ g.length := Nat.or_lt_two_pow hs (Nat.pow_lt_pow_right (by omega) h1)
 refine ⟨hlt, (v.closed_iff hlt).2 fun i hi j hj => ?_, ?_⟩
 ·rw [or_bit, Bool.or_eq_true] at hi ⊢
  rcases hi with hi | hi
  ·exact .inl ((v.closed_iff hs).1 hc i hi j hj)
  ·have e : x = i := by simpa using hi
   subst e
   exact .inl ((v.sub_iff' hs).1 h3 j hj)
 ·have := zb_step h2 h1; omega
end Go.Proofs.YtpibdjkajgfgjaaDoor.Core
end
section
set_option linter.unusedVariables false
set_option linter.unusedSimpArgs false
namespace Go.Proofs.YtpibdjkajgfgjaaDoor.Core
open Go Go.RowKit Go.Proofs.YtpibdjkajgfgjaaDoorW.PrintWords Go.Proofs.YtpibdjkajgfgjaaDoorW.PrintMore Go.Proofs.YtpibdjkajgfgjaaDoor.P
theorem VG.in_list {g : List Tk} {G : GD} (v : VG g G) {t : Nat} (ht : t < 2 ^ g.length) (i : Nat) : ((i : Int) ∈ up (elemsN t)) ↔ t.testBit i = true := by
 rw [mem_up, v.list_bit ht]
theorem VG.in_dec {g : List Tk} {G : GD} (v : VG g G) {t : Nat} (ht : t < 2 ^ g.length) (i : Nat) : decide ((i : Int) ∈ up (elemsN t)) = t.testBit i := by
 rw [Bool.eq_iff_iff, decide_eq_true_eq, v.in_list ht]
end Go.Proofs.YtpibdjkajgfgjaaDoor.Core
end
section
set_option linter.unusedVariables false
set_option linter.unusedSimpArgs false
namespace Go.Proofs.YtpibdjkajgfgjaaDoor.Core
open Go Go.RowKit Go.Proofs.YtpibdjkajgfgjaaDoorW.PrintWords Go.Proofs.YtpibdjkajgfgjaaDoorW.PrintMore Go.Proofs.YtpibdjkajgfgjaaDoor.P
def addN (S : List Nat) (j : Nat) : List Nat := if j ∈ S then S else S ++ [j]
theorem mem_addN {S : List Nat} {j x : Nat} : x ∈ addN S j ↔ x ∈ S ∨ x = j := by
 unfold addN
 split
 ·rename_i h
  constructor
  ·exact .inl
  ·rintro (h2 | rfl)
   ·exact h2
   ·exact h
 ·rw [List.mem_append, List.mem_singleton]
theorem addN_nodup {S : List Nat} (h : S.Nodup) (j : Nat) : (addN S j).Nodup := by
 unfold addN
 split
 ·exact h
 ·rename_i hj
  rw [List.nodup_append]
  refine ⟨h, by simp, fun a ha b hb => ?_⟩
  rw [List.mem_singleton.1 hb]
  exact fun e => hj (e ▸ ha)
theorem mem_addF : ∀ (ks : List Nat) (S : List Nat) (x : Nat), x ∈ ks.foldl addN S ↔ x ∈ S ∨ x ∈ ks
 | [], S, x => by simp
 | k :: ks, S, x => by
  rw [List.foldl_cons, mem_addF ks, mem_addN, List.mem_cons, or_assoc]
theorem addF_nodup : ∀ (ks : List Nat) (S : List Nat), S.Nodup → (ks.foldl addN S).Nodup
 | [], _, h => h
 | k :: ks, S, h => addF_nodup ks _ (addN_nodup h k)
theorem addF_pre : ∀ (ks : List Nat) (S : List Nat), ∃ T, ks.foldl addN S = S ++ T
 | [], S => ⟨[], by simp⟩
 | k :: ks, S => by
  obtain ⟨T, hT⟩ := addF_pre ks (addN S k)
  rw [List.foldl_cons, hT]
  unfold addN
  split
  ·exact ⟨T, rfl⟩
  ·exact ⟨[k] ++ T, by simp⟩
theorem up_addN (S : List Nat) (j : Nat) : up (addN S j) = if (j : Int) ∈ up S then up S else up S ++ [(j : Int)] := by
 unfold addN
 by_cases h : j ∈ S
 ·rw [if_pos h, if_pos (mem_up.2 h)]
 ·rw [if_neg h, if_neg (fun e => h (mem_up.1 e))]
  simp [up]
theorem ev_an1 {g : List Tk} {at_ x6 : Int} {R : List Int} {L : List Nat} (hL : L.length ≤ 1000) : ∀ (r pre S : List Nat), L = pre ++ r → S.length + r.length ≤ 2000 → Ev (fun k => spec_allNeeds.l0 k g at_ (up (r.foldl addN S)) (wrap64 (x6 + 1))) R →
  Ev (fun k => spec_allNeeds.l1 k g at_ (up S) x6 (up L) (pre.length : Int)) R
 | [], pre, S, hp, hS, h => by
  rw [List.append_nil] at hp
  refine Ev.succ (h.of fun k => ?_)
  rw [spec_allNeeds.l1, if_neg (by rw [up_length, hp]; omega)]
  rfl
 | j :: r, pre, S, hp, hS, h => by
  have hl : L.length = pre.length + (r.length + 1) := by rw [hp]; simp
  have hrd : rd (up L) (pre.length : Int) = (j : Int) := by rw [rd_up (i := pre.length) rfl, hp]; simp
  have hw : wrap64 ((pre.length : Int) + 1) = ((pre ++ [j]).length : Int) := by rw [w64s (by unfold big; omega)]; simp
  have hS2 : (addN S j).length ≤ S.length + 1 := by unfold addN; split <;> simp
  rw [List.length_cons] at hS
  have ih := ev_an1 (at_ := at_) (x6 := x6) (R := R) hL r (pre ++ [j]) (addN S j) (by rw [hp]; simp) (by omega) h
  rw [up_addN] at ih
  have hin := ev_isIn (L := up S) (by rw [up_length]; unfold big; omega) (j : Int)
  refine Ev.succ ?_
  simp only [spec_allNeeds.l1, hrd, hw]
  refine Ev.pos (by rw [up_length]; omega) (Ev.pos (by omega) (Ev.bind hin ?_))
  by_cases hj : (j : Int) ∈ up S
  ·rw [if_pos hj] at ih
   exact Ev.pos (decide_eq_true hj) ih
  ·rw [if_neg hj] at ih
   exact Ev.neg (by rw [decide_eq_true_eq]; exact hj) (Ev.pos (by rw [up_length]; omega) ih)
theorem ev_an2 {g : List Tk} (hn : g.length ≤ 8) {a : Nat} {S : List Nat} (hS : S.length ≤ 8) : ∀ (d i : Nat), i + d = g.length → Ev (fun k => spec_allNeeds.l2 k g (a : Int) (up S) (up ((List.range i).filter (fun x => decide (x ≠ a) && decide (x ∈ S)))) (i : Int)) (up ((List.range g.length).filter (fun x => decide (x ≠ a) && decide (x ∈ S))))
 | 0, i, hd => by
  have hi : i = g.length := by omega
  subst hi
  refine Ev.succ ((Ev.const _).of fun k => ?_)
  rw [spec_allNeeds.l2, if_neg (by omega)]
 | d + 1, i, hd => by
  have ih := ev_an2 hn (a := a) hS d (i + 1) (by omega)
  have hw : wrap64 ((i : Int) + 1) = ((i + 1 : Nat) : Int) := w64s (by unfold big; omega)
  have hf := List.length_filter_le (fun x => decide (x ≠ a) && decide (x ∈ S)) (List.range i)
  rw [List.length_range] at hf
  rw [List.range_succ, List.filter_append] at ih
  refine Ev.succ ?_
  simp only [spec_allNeeds.l2, hw]
  refine Ev.pos (by omega) ?_
  by_cases hia : i = a
  ·rw [List.filter_cons_of_neg (by simp [hia]), List.filter_nil, List.append_nil] at ih
   exact Ev.pos (by omega) ih
  ·have hin := ev_isIn (L := up S) (by rw [up_length]; unfold big; omega) (i : Int)
   refine Ev.neg (by omega) (Ev.bind hin ?_)
   by_cases hiS : i ∈ S
   ·rw [List.filter_cons_of_pos (by simp [hia, hiS]), List.filter_nil] at ih
    have e3 : up ((List.range i).filter (fun x => decide (x ≠ a) && decide (x ∈ S)) ++ [i]) = up ((List.range i).filter (fun x => decide (x ≠ a) && decide (x ∈ S))) ++ [(i : Int)] := by simp [up]
    rw [e3] at ih
    exact Ev.pos (decide_eq_true (mem_up.2 hiS)) (Ev.pos (by rw [up_length]; omega) ih)
   ·rw [List.filter_cons_of_neg (by simp [hiS]), List.filter_nil, List.append_nil] at ih
    exact Ev.neg (by rw [decide_eq_true_eq, mem_up]; exact hiS) ih
theorem ev_an0 {g : List Tk} {G : GD} (v : VG g G) (hG : graphD g = some G) {a : Nat} (ha : a < g.length) : ∀ (d : Nat) (P Q : List Nat), d + P.length = g.length → (P ++ Q).Nodup → (∀ x ∈ P ++ Q, x < g.length) → (∀ p ∈ P, ∀ j, (G.needs.getD p 0).testBit j = true → j ∈ P ++ Q) → a ∈ P ++ Q → (∀ x ∈ P ++ Q, x = a ∨ (G.below.getD a 0).testBit x = true) →
  Ev (fun k => spec_allNeeds.l0 k g (a : Int) (up (P ++ Q)) (P.length : Int)) (up (elemsN (G.below.getD a 0))) := by
 have h8 := v.n8
 have hlen : ∀ S : List Nat, S.Nodup → (∀ x ∈ S, x < g.length) → S.length ≤ g.length := fun S h1 h2 => by
  have := h1.length_le_of_subset (l₂ := List.range g.length) (fun x hx => List.mem_range.2 (h2 x hx))
  rwa [List.length_range] at this
 intro d
 induction d with
 | zero =>
  intro P Q hd hnd hlt hcl hat hb
  have h1 := hlen _ hnd hlt
  rw [List.length_append] at h1
  have hQ : Q = [] := List.length_eq_zero_iff.1 (by omega)
  subst hQ
  rw [List.append_nil] at *
  have hfin : (List.range g.length).filter (fun x => decide (x ≠ a) && decide (x ∈ P)) = elemsN (G.below.getD a 0) := by
   have hcP : ∀ i, i < g.length → ∀ k, (G.below.getD i 0).testBit k = true → i ∈ P → k ∈ P := by
    refine v.ind (Q := fun i => ∀ k, (G.below.getD i 0).testBit k = true → i ∈ P → k ∈ P) fun i hi ih k hk hp => ?_
    obtain ⟨m, hm, h⟩ := (below_bits hG hi k).1 hk
    have hmp := hcl i hp m hm
    rcases h with rfl | h
    ·exact hmp
    ·exact ih m hm k h hmp
   refine up_inj (asc_ext ?_ (asc_elems _) fun x => ?_)
   ·have := (asc_filter (fun x => decide (x ≠ a) && decide (x ∈ P)) g.length 0).1
    rwa [← List.range_eq_range'] at this
   ·by_cases hx : 0 ≤ x
    ·obtain ⟨n, rfl⟩ := Int.eq_ofNat_of_zero_le hx
     rw [show ((n : Int) ∈ up (elemsN (G.below.getD a 0))) ↔ n ∈ elemsN (G.below.getD a 0) from mem_up, show ((n : Int) ∈ up ((List.range g.length).filter (fun x => decide (x ≠ a) && decide (x ∈ P)))) ↔ n ∈ (List.range g.length).filter (fun x => decide (x ≠ a) && decide (x ∈ P)) from mem_up, List.mem_filter, List.mem_range, mem_elemsN, Bool.and_eq_true, decide_eq_true_eq, decide_eq_true_eq]
     constructor
     ·rintro ⟨h1, h2, h3⟩
      exact ⟨by omega, (hb n h3).resolve_left h2⟩
     ·rintro ⟨h1, h2⟩
      exact ⟨v.below_lt hG h2, fun e => (by rw [e, v.not_self hG ha] at h2; cases h2), hcP a ha n h2 hat⟩
    ·constructor
     ·intro h
      obtain ⟨n, _, e⟩ := List.mem_map.1 h
      have e' : ((n : Nat) : Int) = x := e
      omega
     ·intro h
      obtain ⟨n, _, e⟩ := List.mem_map.1 h
      have e' : ((n : Nat) : Int) = x := e
      omega
  have h2 := ev_an2 h8 (a := a) (S := P) (by omega) g.length 0 (by omega)
  rw [hfin] at h2
  refine Ev.succ ?_
  simp only [spec_allNeeds.l0]
  exact Ev.neg (by rw [up_length]; omega) h2
 | succ d ih =>
  intro P Q hd hnd hlt hcl hat hb
  cases Q with
  | nil =>
   have hcl' : ∀ i, i ∈ P → i < g.length := fun i hi => hlt i (List.mem_append_left _ hi)
   rw [List.append_nil] at *
   have h1 := hlen _ hnd hlt
   have hfin : (List.range g.length).filter (fun x => decide (x ≠ a) && decide (x ∈ P)) = elemsN (G.below.getD a 0) := by
    have hcP : ∀ i, i < g.length → ∀ k, (G.below.getD i 0).testBit k = true → i ∈ P → k ∈ P := by
     refine v.ind (Q := fun i => ∀ k, (G.below.getD i 0).testBit k = true → i ∈ P → k ∈ P) fun i hi ih k hk hp => ?_
     obtain ⟨m, hm, h⟩ := (below_bits hG hi k).1 hk
     have hmp := hcl i hp m hm
     rcases h with rfl | h
     ·exact hmp
     ·exact ih m hm k h hmp
    refine up_inj (asc_ext ?_ (asc_elems _) fun x => ?_)
    ·have := (asc_filter (fun x => decide (x ≠ a) && decide (x ∈ P)) g.length 0).1
     rwa [← List.range_eq_range'] at this
    ·by_cases hx : 0 ≤ x
     ·obtain ⟨n, rfl⟩ := Int.eq_ofNat_of_zero_le hx
      rw [show ((n : Int) ∈ up (elemsN (G.below.getD a 0))) ↔ n ∈ elemsN (G.below.getD a 0) from mem_up, show ((n : Int) ∈ up ((List.range g.length).filter (fun x => decide (x ≠ a) && decide (x ∈ P)))) ↔ n ∈ (List.range g.length).filter (fun x => decide (x ≠ a) && decide (x ∈ P)) from mem_up, List.mem_filter, List.mem_range, mem_elemsN, Bool.and_eq_true, decide_eq_true_eq, decide_eq_true_eq]
      constructor
      ·rintro ⟨h1, h2, h3⟩
       exact ⟨by omega, (hb n h3).resolve_left h2⟩
      ·rintro ⟨h1, h2⟩
       exact ⟨v.below_lt hG h2, fun e => (by rw [e, v.not_self hG ha] at h2; cases h2), hcP a ha n h2 hat⟩
     ·constructor
      ·intro h
       obtain ⟨n, _, e⟩ := List.mem_map.1 h
       have e' : ((n : Nat) : Int) = x := e
       omega
      ·intro h
       obtain ⟨n, _, e⟩ := List.mem_map.1 h
       have e' : ((n : Nat) : Int) = x := e
       omega
   have h2 := ev_an2 h8 (a := a) (S := P) (by omega) g.length 0 (by omega)
   rw [hfin] at h2
   refine Ev.succ ?_
   simp only [spec_allNeeds.l0]
   exact Ev.neg (by rw [up_length]; omega) h2
  | cons s Q =>
   have hs := hlt s (by simp)
   have hsl := hlen _ hnd hlt
   obtain ⟨T, hT⟩ := addF_pre (elemsN (G.needs.getD s 0)) (P ++ s :: Q)
   have hmem := mem_addF (elemsN (G.needs.getD s 0)) (P ++ s :: Q)
   have hnd2 := addF_nodup (elemsN (G.needs.getD s 0)) _ hnd
   have he := elemsN_length (G.needs.getD s 0)
   have hnm : ∀ x, x ∈ elemsN (G.needs.getD s 0) ↔ (G.needs.getD s 0).testBit x = true := fun x => by
    rw [mem_elemsN]
    exact ⟨fun h => h.2, fun h => ⟨by have := v.need_lt h; omega, h⟩⟩
   rw [hT] at hmem hnd2
   have eT : P ++ s :: Q ++ T = (P ++ [s]) ++ (Q ++ T) := by simp
   rw [eT] at hmem hnd2 hT
   have hih := ih (P ++ [s]) (Q ++ T) (by rw [List.length_append, List.length_singleton]; omega) hnd2 (fun x hx => by
    rcases (hmem x).1 hx with h | h
    ·exact hlt x h
    ·exact v.need_lt ((hnm x).1 h)) (fun p hp j hj => by
    rcases List.mem_append.1 hp with hp | hp
    ·exact (hmem j).2 (.inl (hcl p hp j hj))
    ·rw [List.mem_singleton.1 hp] at hj
     exact (hmem j).2 (.inr ((hnm j).2 hj))) ((hmem a).2 (.inl hat)) (fun x hx => by
    rcases (hmem x).1 hx with h | h
    ·exact hb x h
    ·have h3 := (hnm x).1 h
     rcases hb s (by simp) with h4 | h4
     ·rw [h4] at h3
      exact .inr (v.need_below hG ha h3)
     ·exact .inr (v.below_closed hG a ha s h4 x h3))
   have hrd : rd (up (P ++ s :: Q)) (P.length : Int) = (s : Int) := by rw [rd_up (i := P.length) rfl]; simp
   have hw : wrap64 ((P.length : Int) + 1) = ((P ++ [s]).length : Int) := by rw [w64s (by unfold big; omega)]; simp
   have h1 := ev_an1 (g := g) (at_ := (a : Int)) (x6 := (P.length : Int)) (R := up (elemsN (G.below.getD a 0))) (L := elemsN (G.needs.getD s 0)) (by omega) (elemsN (G.needs.getD s 0)) [] (P ++ s :: Q) rfl (by omega) (by rw [hw, hT]; exact hih)
   refine Ev.succ ?_
   simp only [spec_allNeeds.l0, hrd, rdT_nat, v.list hs]
   exact Ev.pos (by rw [up_length, List.length_append, List.length_cons]; omega) (Ev.pos (by omega) (Ev.pos (by omega) (Ev.pos (by omega) h1)))
theorem ev_specAllNeeds {g : List Tk} {G : GD} (v : VG g G) (hG : graphD g = some G) {a : Nat} (ha : a < g.length) : Ev (fun k => spec_allNeeds.f k g (a : Int)) (up (elemsN (G.below.getD a 0))) := by
 unfold spec_allNeeds.f
 exact ev_an0 v hG ha g.length [] [a] (by simp) (by simp) (fun x hx => by rw [List.nil_append, List.mem_singleton] at hx; omega) (by simp) (by simp) (fun x hx => by rw [List.nil_append, List.mem_singleton] at hx; exact .inl hx)
theorem ev_iu {g : List Tk} {G : GD} (v : VG g G) (hG : graphD g = some G) {i : Nat} (hi : i < g.length) {k0 : Nat} (hk : (G.needs.getD i 0).testBit k0 = true) : ∀ (r pre : List Nat), elemsN (G.needs.getD i 0) = pre ++ r → Ev (fun k => spec_isUseless.l0 k g (i : Int) (k0 : Int) (pre.length : Int)) (r.any fun m => (G.below.getD m 0).testBit k0)
 | [], pre, hp => by
  rw [List.append_nil] at hp
  refine Ev.succ ((Ev.const _).of fun k => ?_)
  rw [spec_isUseless.l0, if_pos (by omega), if_pos (by omega), rdT_nat, v.list hi, if_neg (by rw [up_length, hp]; omega)]
  rfl
 | m :: r, pre, hp => by
  have h8 := v.n8
  have hml : (G.needs.getD i 0).testBit m = true := (mem_elemsN.1 (show m ∈ elemsN (G.needs.getD i 0) by rw [hp]; simp)).2
  have hl : (elemsN (G.needs.getD i 0)).length = pre.length + (r.length + 1) := by rw [hp]; simp
  have he := elemsN_length (G.needs.getD i 0)
  have hrd : rd (up (elemsN (G.needs.getD i 0))) (pre.length : Int) = (m : Int) := by rw [rd_up (i := pre.length) rfl, hp]; simp
  have hw : wrap64 ((pre.length : Int) + 1) = ((pre ++ [m]).length : Int) := by rw [w64s (by unfold big; omega)]; simp
  have ih := ev_iu v hG hi hk r (pre ++ [m]) (by rw [hp]; simp)
  have hbl := elemsN_length (G.below.getD m 0)
  have hin := ev_isIn (L := up (elemsN (G.below.getD m 0))) (by rw [up_length]; unfold big; omega) (k0 : Int)
  rw [v.in_dec (v.below_all hG m)] at hin
  refine Ev.succ ?_
  simp only [spec_isUseless.l0, rdT_nat, v.list hi, hrd, hw]
  refine Ev.pos (by omega) (Ev.pos (by omega) (Ev.pos (by rw [up_length]; omega) (Ev.pos (by omega) (Ev.bind (ev_specAllNeeds v hG (v.need_lt hml)) (Ev.bind hin ?_)))))
  rw [List.any_cons]
  cases hb : (G.below.getD m 0).testBit k0 with
  | true => exact Ev.pos rfl (Ev.const _)
  | false => exact Ev.neg (by simp) ih
theorem ev_isUseless {g : List Tk} {G : GD} (v : VG g G) (hG : graphD g = some G) {i : Nat} (hi : i < g.length) {k0 : Nat} (hk : (G.needs.getD i 0).testBit k0 = true) : Ev (fun k => spec_isUseless.f k g (i : Int) (k0 : Int)) ((uselessD G i).testBit k0) := by
 unfold spec_isUseless.f
 refine (ev_iu v hG hi hk (elemsN (G.needs.getD i 0)) [] rfl).conv (Bool.eq_iff_iff.2 ?_)
 rw [List.any_eq_true, v.useless_bit]
 constructor
 ·rintro ⟨m, hm, h⟩
  exact ⟨hk, m, (mem_elemsN.1 hm).2, h⟩
 ·rintro ⟨_, m, hm, h⟩
  exact ⟨m, mem_elemsN.2 ⟨by have := v.need_lt hm; have := v.n8; omega, hm⟩, h⟩
end Go.Proofs.YtpibdjkajgfgjaaDoor.Core
end
section
set_option linter.unusedVariables false
set_option linter.unusedSimpArgs false
namespace Go.Proofs.YtpibdjkajgfgjaaDoor.Core
open Go Go.RowKit Go.Proofs.YtpibdjkajgfgjaaDoorW.PrintWords Go.Proofs.YtpibdjkajgfgjaaDoorW.PrintMore Go.Proofs.YtpibdjkajgfgjaaDoor.P
theorem elems_filter2 {s t : Nat} (hs : s < 256) (ht : t < 256) : (elemsN s).filter (fun j => !t.testBit j) = elemsN (sub s t) := by
 unfold elemsN
 rw [List.filter_filter]
 refine List.filter_congr fun j _ => ?_
 rw [sub_testBit hs ht, Bool.and_comm]
theorem ev_wu1 {g : List Tk} {G : GD} (v : VG g G) (hG : graphD g = some G) {i : Nat} (hi : i < g.length) {R : List Tk} {out : List Tk} (ho : out.length ≤ 1000) {f0 f2 f3 : Int} : ∀ (r pre ns : List Nat), elemsN (G.needs.getD i 0) = pre ++ r → ns.length + r.length ≤ 1000 →
  Ev (fun k => spec_WithoutUseless.l0 k g (out ++ [⟨f0, up (ns ++ r.filter (fun j => !(uselessD G i).testBit j)), f2, f3⟩]) ((i + 1 : Nat) : Int)) R → Ev (fun k => spec_WithoutUseless.l1 k g out (i : Int) (up ns) (pre.length : Int) f0 (up (elemsN (G.needs.getD i 0))) f2 f3) R
 | [], pre, ns, hp, hn, h => by
  rw [List.append_nil] at hp
  have h8 := v.n8
  have hw : wrap64 ((i : Int) + 1) = ((i + 1 : Nat) : Int) := w64s (by unfold big; omega)
  rw [List.filter_nil, List.append_nil] at h
  refine Ev.succ ?_
  simp only [spec_WithoutUseless.l1, hw]
  exact Ev.neg (by rw [up_length, hp]; omega) (Ev.pos (by omega) h)
 | m :: r, pre, ns, hp, hn, h => by
  have h8 := v.n8
  have hml : (G.needs.getD i 0).testBit m = true := (mem_elemsN.1 (show m ∈ elemsN (G.needs.getD i 0) by rw [hp]; simp)).2
  have hl : (elemsN (G.needs.getD i 0)).length = pre.length + (r.length + 1) := by rw [hp]; simp
  have he := elemsN_length (G.needs.getD i 0)
  have hrd : rd (up (elemsN (G.needs.getD i 0))) (pre.length : Int) = (m : Int) := by rw [rd_up (i := pre.length) rfl, hp]; simp
  have hw : wrap64 ((pre.length : Int) + 1) = ((pre ++ [m]).length : Int) := by rw [w64s (by unfold big; omega)]; simp
  rw [List.length_cons] at hn
  refine Ev.succ ?_
  simp only [spec_WithoutUseless.l1, hrd, hw]
  refine Ev.pos (by rw [up_length]; omega) (Ev.pos (by omega) (Ev.bind (ev_isUseless v hG hi hml) ?_))
  cases hu : (uselessD G i).testBit m with
  | true =>
   rw [List.filter_cons_of_neg (p := fun j => !(uselessD G i).testBit j) (by simp [hu])] at h
   have ih := ev_wu1 v hG hi ho (f0 := f0) (f2 := f2) (f3 := f3) (R := R) r (pre ++ [m]) ns (by rw [hp]; simp) (by omega) h
   exact Ev.pos rfl ih
  | false =>
   rw [List.filter_cons_of_pos (p := fun j => !(uselessD G i).testBit j) (by simp [hu])] at h
   have ih := ev_wu1 v hG hi ho (f0 := f0) (f2 := f2) (f3 := f3) (R := R) r (pre ++ [m]) (ns ++ [m]) (by rw [hp]; simp) (by rw [List.length_append, List.length_singleton]; omega) (by rw [List.append_assoc]; exact h)
   have e3 : up (ns ++ [m]) = up ns ++ [(m : Int)] := by simp [up]
   rw [e3] at ih
   exact Ev.neg (by simp) (Ev.pos (by rw [up_length]; omega) ih)
theorem ev_wu0 {g : List Tk} {G : GD} (v : VG g G) (hG : graphD g = some G) : ∀ (d i : Nat), i + d = g.length → Ev (fun k => spec_WithoutUseless.l0 k g (withoutTo G g i) (i : Int)) (withoutTo G g g.length)
 | 0, i, hd => by
  have hi : i = g.length := by omega
  subst hi
  refine Ev.succ ((Ev.const _).of fun k => ?_)
  rw [spec_WithoutUseless.l0, if_neg (by omega)]
 | d + 1, i, hd => by
  have ih := ev_wu0 v hG d (i + 1) (by omega)
  have h8 := v.n8
  have h256 : 2 ^ g.length ≤ 256 := pow8 h8
  have hs := Nat.lt_of_lt_of_le (getD_lt v.nb i) h256
  have hu := Nat.lt_of_lt_of_le (gok_of v hG i) h256
  clear h256
  have he := elemsN_length (G.needs.getD i 0)
  have hwl := withoutTo_length G g i
  have h1 := ev_wu1 v hG (i := i) (by omega) (out := withoutTo G g i) (by omega) (f0 := (g.getD i z48).f0) (f2 := (g.getD i z48).f2) (f3 := (g.getD i z48).f3) (R := withoutTo G g g.length) (elemsN (G.needs.getD i 0)) [] [] rfl (by rw [List.length_nil]; omega) (by
   rw [elems_filter2 hs hu, List.nil_append]
   rw [withoutTo_succ] at ih
   exact ih)
  refine Ev.succ ?_
  simp only [spec_WithoutUseless.l0, rdT_nat, v.list (show i < g.length by omega)]
  exact Ev.pos (by omega) (Ev.pos (by omega) h1)
theorem ev_WithoutUseless {g : List Tk} (hg : Fits g) : Ev (fun k => spec_WithoutUseless.f k g) (withoutD g) := by
 unfold spec_WithoutUseless.f
 refine Ev.bind (ev_validGraph hg) ?_
 unfold withoutD
 cases hG : graphD g with
 | none => exact Ev.neg (by simp) (Ev.const _)
 | some G => exact Ev.pos rfl (ev_wu0 (vg_of hG) hG g.length 0 (by omega))
end Go.Proofs.YtpibdjkajgfgjaaDoor.Core
end
