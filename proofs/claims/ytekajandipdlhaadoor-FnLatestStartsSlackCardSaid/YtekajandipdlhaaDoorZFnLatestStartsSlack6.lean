/- The law FnLatestStartsSlack holds of the given program: the proof's own part, with its row and its card, part 6 of 10. -/
import Derived.Test.YtekajandipdlhaaDoorZFnLatestStartsSlack5
import Derived.Test.YtekajandipdlhaaDoorTie
import Derived.Lib.SmallJoins
import Derived.Deep.Slices
import Derived.ProofKit
import Derived.LaidMore
import Derived.OpenShut
import Derived.Stop.Joined
import Derived.ChangeOld
import Derived.SizedLaws
import Derived.MakeChecks
section
set_option linter.unusedVariables false
set_option linter.unusedSimpArgs false
namespace Go.Proofs.YtekajandipdlhaaDoor.Core
open Go Go.RowKit Go.ChangeShapes Go.WideShapes Go.ChangeAt Go.Proofs.YtekajandipdlhaaDoorW.PrintWords Go.Proofs.YtekajandipdlhaaDoor.P
section
variable {H : Type} {enc : TypeId × Value → H} {w : World} {base : Nat} {spare : Nat → Bool} {held : Bool}
theorem open_row {t e : TypeId} {kk : IntKind} (ht : Tryd.prog.underlying t = some (.slice e)) (he : Tryd.prog.underlying e = some (.int kk)) (hce : Tryd.prog.cellsOf e = 1) {n : Nat} {cs : List Value} {y : DataW H × List MemPlace} (h : DataW.trod enc Tryd.prog w base spare held n t cs = some y) : ∃ A c1 l, cs = [.slice A l.length c1] ∧ l.length ≤ c1 ∧ (Kd.int kk).C w A l.length l ∧ ∀ x ∈ l, (Lit.int kk x).wf = true := by
  rcases Go.ChangeShapes.open_ints ht he hce h with ⟨hcs, _⟩ | ⟨a, len, cap, zs, hcs, _, hl, hm, hz, _, hcell, hwz⟩
  · subst hcs
    exact ⟨none, 0, [], rfl, Nat.le_refl _, ⟨rfl, by simp, fun h => absurd h (by simp)⟩, by simp⟩
  · subst hcs
    have hzl : len ≤ zs.length := by rw [hz]; split <;> omega
    have hlen : (zs.take len).length = len := by simp; omega
    refine ⟨some a, cap, zs.take len, by rw [hlen], by omega, ⟨rfl, ?_, fun _ => ⟨a, rfl, fun j p hp => ⟨[.int kk p], rfl, rfl, fun i u hu => ?_⟩⟩⟩, fun x hx => ?_⟩
    · rw [hlen]; unfold maxLen at hm; omega
    · cases i with
      | succ i => simp at hu
      | zero =>
        obtain rfl : u = .int kk p := by simpa using hu.symm
        have hj : j < len := by have := (List.getElem?_eq_some_iff.1 hp).1; omega
        have := hcell j (by omega)
        have hp2 : zs.getD j 0 = p := by
          rw [List.getElem?_take_of_lt hj] at hp
          simp [List.getD, hp]
        rw [hp2] at this
        show w.cell? (a.add (j * 1 + 0)) = _
        rw [Nat.mul_one, Nat.add_zero]
        exact this
    · exact hwz x (List.mem_of_mem_take hx)
theorem open_bytes_ {n : Nat} {cs : List Value} {y : DataW H × List MemPlace} (h : DataW.trod enc Tryd.prog w base spare held n 33 cs = some y) : ∃ A c1 l, cs = [.slice A l.length c1] ∧ l.length ≤ c1 ∧ (Kd.int .u8).C w A l.length l ∧ ∀ x ∈ l, (Lit.int .u8 x).wf = true := open_row Tryd.underlying33 Tryd.underlying5 (by kernel_rfl) h
end
/-- The table, out of the laid variable. -/
def laidD : List (String × DataW Unit) := [("math/bits.deBruijn32tab", Rows.laid_math_bits_deBruijn32tab)]
theorem gTab : Tryd.prog.globalNamed "math/bits.deBruijn32tab" = some 0 := by kernel_rfl
theorem tTab : (Tryd.prog.globals[0]?).map (·.type) = some 110 := by kernel_rfl
theorem laid_ok : (tabL.length = 32) ∧ (Rows.laid_math_bits_deBruijn32tab : DataW Unit) = .agg (tabL.map fun (n : Nat) => .lit (.int .u8 (n : Int))) := by
  refine ⟨by decide, rfl⟩
theorem cells_u8 : Tryd.prog.cellsOf 5 = 1 := by kernel_rfl
theorem tab_of_laid {W : World} (h : laidMetH Tryd.prog laidD W) : Tab W := by
  rw [MakeChecks.laidMetH_plain _ _ _ (by kernel_rfl)] at h
  obtain ⟨ps, ⟨g0, t0, cs0, f0, p0, q0, hg0, ht0, hv0, hd0, _⟩, _⟩ := h
  obtain rfl := Option.some.inj (gTab.symm.trans hg0)
  obtain rfl := Option.some.inj (tTab.symm.trans ht0)
  obtain ⟨xs, m1, rfl, hx1, hlen, hn3, hel⟩ := DataW.trod_array Tryd.underlying110 hd0
  intro i hi
  have h5 := World.var?_cell hg0 hv0 i
  have h6 := hel i hi
  rw [cells_u8, Nat.mul_one] at h6
  have hxi : xs[i]? = some (xs[i]'(by omega)) := List.getElem?_eq_getElem (by omega)
  generalize xs[i]'(by omega) = x at hxi
  rw [hxi] at h6
  obtain ⟨n, e1, e2, _⟩ := DataW.trod_int Tryd.underlying5 h6
  have e3 := (Prod.mk.inj hx1).1
  rw [laid_ok.2] at e3
  have e4 : tabL.map (fun (n : Nat) => (DataW.lit (.int .u8 (n : Int)) : DataW Unit)) = xs.map (·.1) := by
    injection e3
  have e5 := congrArg (·[i]?) e4
  simp only [List.getElem?_map, hxi, Option.map_some, e2] at e5
  have h7 : cs0.toList[i]? = some (.int .u8 n) := by
    have := congrArg (·[0]?) e1
    simpa [List.getElem?_take, List.getElem?_drop] using this
  rw [h5, ← Array.getElem?_toList, h7]
  have hti : i < tabL.length := by rw [laid_ok.1]; exact hi
  rw [List.getElem?_eq_getElem hti] at e5
  simp only [Option.map_some, Option.some.injEq, DataW.lit.injEq, Lit.int.injEq, true_and] at e5
  rw [← e5, List.getD_eq_getElem?_getD, List.getElem?_eq_getElem hti]
  rfl
end Go.Proofs.YtekajandipdlhaaDoor.Core
end
section
set_option linter.unusedVariables false
set_option linter.unusedSimpArgs false
namespace Go.Proofs.YtekajandipdlhaaDoor.Core
open Go Go.RowKit Go.Shelf Go.Proofs.YtekajandipdlhaaDoorW.PrintWords Go.Proofs.YtekajandipdlhaaDoorW.PrintLast Go.Proofs.YtekajandipdlhaaDoorW.PrintMore Go.Proofs.YtekajandipdlhaaDoor.P
attribute [local go_sem] Oper.semAt_some wide_fn wide_depth
def vcells (L : List Int) : Array Value := (L.map fun x => Value.int .i64 x).toArray
theorem icells_v (L : List Nat) : icells L = vcells (up L) := by unfold icells vcells up; rw [List.map_map]; rfl
theorem vcell {W : World} {p t : Nat} {L : List Int} (h : W.heap[p]? = some (.cells (vcells L) t (0, 0))) (i : Nat) (hi : i < L.length) : W.cell? ⟨p, i, none⟩ = some (.int .i64 (L.getD i 0)) := by
  simp [World.cell?, h, vcells, hi]
theorem vfrozen {W : World} {p t : Nat} {L : List Int} (h : W.heap[p]? = some (.cells (vcells L) t (0, 0))) (i : Nat) : W.frozen? ⟨p, i, none⟩ = false := by
  simp [World.frozen?, h]
theorem vset {W : World} {p t : Nat} {L : List Int} (h : W.heap[p]? = some (.cells (vcells L) t (0, 0))) (i : Nat) (x : Int) : (W.setCell ⟨p, i, none⟩ (.int .i64 x)).heap[p]? = some (.cells (vcells (L.set i x)) t (0, 0)) := by
  rw [blk_set h i _]
  congr 2
  apply Array.ext'
  simp [vcells, List.map_set]
theorem vcells_R {w : World} {base p n : Nat} {L : List Int} (hp : base ≤ p) (hrow : w.heap[p]? = some (.cells (vcells L) 3 (0, 0))) (hl : L.length = n) (hn : n ≤ 8) : (Kd.int .i64).R 3 w base (fun _ => True) (.slice (some ⟨p, 0, none⟩) n n) L :=
  row_R (k := .i64) (xs := L) ⟨by simp [encs], .inr ⟨p, n, vcells L, by rw [hl], hp, hrow, by rw [hl]; exact Nat.le_refl _, by unfold maxLen; omega, by simp [vcells]; exact hl, by rw [hl]; simp [vcells, encs]; exact List.take_of_length_le (by rw [List.length_map]; exact Nat.le_of_eq hl)⟩⟩
set_option maxHeartbeats 1000000 in
theorem deadline_is (x : Int) (t : Bool) (w : World) (h : decide (0 ≤ x ∧ x ≤ 200) = t) :
    Calls Tryd.prog 73 #[.int .i64 x] w fun e w' => e = .returned (.bool t) ∧ Below w.heap.size w w' := by
  have hw := within_is x 0 200 t w h
  clear h
  go_enter Tryd.func73, Tryd.ntmps73
  go_wp2_with (go_at_call 81; refine hw.mono ?_; rintro e w1 ⟨rfl, hB⟩)
  go_ret
  exact ⟨rfl, hB⟩
/-- The first tails turned to latest beginnings. -/
def latTo (dl : Int) (T : List Nat) (k : Nat) : List Int := (up T).mapIdx fun i t => if i < k then dl - t else t
theorem latTo_zero (dl : Int) (T : List Nat) : latTo dl T 0 = up T := by
  refine List.ext_getElem (by simp [latTo]) fun i h1 h2 => ?_
  simp [latTo]
theorem latTo_length (dl : Int) (T : List Nat) (k : Nat) : (latTo dl T k).length = T.length := by simp [latTo, up]
theorem latTo_get (dl : Int) (T : List Nat) (k i : Nat) (hi : i < T.length) : (latTo dl T k).getD i 0 = if i < k then dl - (T.getD i 0 : Nat) else ((T.getD i 0 : Nat) : Int) := by
  simp [latTo, up, hi]
theorem latTo_succ (dl : Int) (T : List Nat) (k : Nat) (hk : k < T.length) : (latTo dl T k).set k (dl - (T.getD k 0 : Nat)) = latTo dl T (k + 1) := by
  refine List.ext_getElem (by simp [latTo, up]) fun i h1 h2 => ?_
  have hi : i < T.length := by simpa [latTo, up] using h2
  rw [List.getElem_set]
  by_cases e : k = i
  · subst e
    simp [latTo, up, hk]
  · rw [if_neg e]
    simp only [latTo, List.getElem_mapIdx]
    by_cases h : i < k
    · rw [if_pos h, if_pos (by omega)]
    · rw [if_neg h, if_neg (by omega)]
theorem latTo_full (dl : Int) (T : List Nat) : latTo dl T T.length = (up T).map (dl - ·) := by
  refine List.ext_getElem (by simp [latTo, up]) fun i h1 h2 => ?_
  have hi : i < T.length := by simpa [latTo, up] using h1
  simp [latTo, hi]
def latestD (g : List Tk) (dl : Int) : List Int := match graphD g with
  | none => []
  | some G => if 0 ≤ dl ∧ dl ≤ 200 then (up (tailsN G)).map (dl - ·) else []
end Go.Proofs.YtekajandipdlhaaDoor.Core
namespace Go.Proofs.YtekajandipdlhaaDoor.P
open Go Go.RowKit Go.Shelf Go.Proofs.YtekajandipdlhaaDoorW.PrintWords Go.Proofs.YtekajandipdlhaaDoorW.PrintLast Go.Proofs.YtekajandipdlhaaDoorW.PrintMore Go.Proofs.YtekajandipdlhaaDoor.Core
attribute [local go_sem] Oper.semAt_some wide_fn wide_depth
def impl_LatestStarts.f (l0 : List S37) (a1 : Int) : Option (List Int) := some (latestD l0 a1)
set_option maxRecDepth 100000 in
set_option maxHeartbeats 2000000 in
theorem impl_LatestStarts.calls (A0 : Option Addr) (c0 : Nat) (l0 : List S37) (a1 : Int) (r : List Int) (w : World) (hr0 : Kd.C k37 w A0 l0.length l0) (hc0 : l0.length ≤ c0) (hT : Tab w) (h : impl_LatestStarts.f l0 a1 = some r) :
    Calls Tryd.prog 36 #[.slice A0 l0.length c0, .int .i64 a1] w fun e w' => ∃ v0_ : Value, e = .returned (v0_) ∧ Kd.R (Kd.int .i64) 3 w' w.heap.size (fun _ => True) v0_ r ∧ Below w.heap.size w w' := by
  have hr : r = latestD l0 a1 := (Option.some.inj h).symm
  subst hr
  clear h
  cases hg : graphD l0 with
  | none =>
    have hcd : latestD l0 a1 = [] := by unfold latestD; rw [hg]
    rw [hcd]
    have HG := Aside0.mk (graphOf_none A0 c0 l0 w hT hr0 hc0 hg)
    clear hr0 hT hg hcd
    go_enter Tryd.func36, Tryd.ntmps36
    go_wp2_with (go_at_call 60; refine HG.out.mono ?_; rintro e w1 ⟨rfl, hB⟩)
    go_ret
    exact ⟨_, rfl, Kd.R_nil _ _ _ _ _, hB⟩
  | some G =>
    have HG := Aside0.mk (graphOf_some A0 c0 l0 G w hT hr0 hc0 hg)
    have hcd : latestD l0 a1 = if 0 ≤ a1 ∧ a1 ≤ 200 then (up (tailsN G)).map (a1 - ·) else [] := by unfold latestD; rw [hg]
    have ok := graphD_ok hg
    have htk : ∀ t ∈ G.tasks, taskOk t := by rw [graphD_tasks hg]; exact graphD_taskOk hg
    have HT := Aside0.mk hT
    by_cases hx : 0 ≤ a1 ∧ a1 ≤ 200
    · rw [hcd, if_pos hx]
      have HD := Aside0.mk (fun W => deadline_is a1 true W (decide_eq_true hx))
      have HTL := Aside0.mk (fun W b hT hg => (tails_row b G W hT hg ok htk).mono (R' := fun e w' => ∃ (ad : Addr) (p : Nat), e = .returned (.slice (some ad) G.tasks.length G.tasks.length) ∧ Aside0 (ad = ⟨p, 0, none⟩ ∧ W.heap.size ≤ p) ∧ Aside0 (w'.heap[p]? = some (.cells (icells (tailsN G)) 3 (0, 0))) ∧ Below W.heap.size W w') (fun e w' ⟨p, h1, h2, h3, h4⟩ => ⟨⟨p, 0, none⟩, p, h1, ⟨rfl, h2⟩, ⟨h3⟩, h4⟩))
      have hle := tailsN_le ok (tm20_of htk)
      have htl := tailsN_length G
      have h8 := ok.n8
      rw [← latTo_full]
      clear hr0 hT hg hcd ok htk
      generalize tailsN G = T at HTL hle htl ⊢
      rw [← htl] at h8 HTL
      clear htl
      go_enter Tryd.func36, Tryd.ntmps36
      go_wp2_with (first | (go_at_call 60; refine HG.out.mono ?_; rintro e w1 ⟨b, rfl, hB, hgr⟩) | (go_at_call 73; refine (HD.out _).mono ?_; rintro e w2 ⟨rfl, hB2⟩; replace hgr := hgr.move hB2; replace hB := below_step hB hB2) | (go_at_call 74; refine (HTL.out _ b (HT.out.of hB) hgr).mono ?_; rintro e w3 ⟨ad, p, rfl, hp, hrow, hB3⟩))
      have HB3 := Aside0.mk (below_step hB hB3)
      have HP := Aside0.mk (show ad = ⟨p, 0, none⟩ ∧ w.heap.size ≤ p from ⟨hp.out.1, Nat.le_trans hB.size hp.out.2⟩)
      have hrow' := hrow.out
      rw [icells_v, ← latTo_zero a1] at hrow'
      have HROW := Aside0.mk hrow'
      have HLE := Aside0.mk hle
      have HX := Aside0.mk hx
      have H8 := Aside0.mk h8
      clear hrow' hrow hp hB hB2 hB3 hgr HTL HD HG hle hx h8
      go_loopg [26] T.length (fun kq v26 w' => ∃ (i : Nat) (x : Int), v26 = .int .i64 x ∧ Aside0 (i + kq = T.length ∧ x = (i : Int)) ∧ Aside0 (w'.heap[p]? = some (.cells (vcells (latTo a1 T i)) 3 (0, 0))) ∧ Aside0 (Below w.heap.size w w'))
      case atStart => exact ⟨0, 0, rfl, ⟨by omega, rfl⟩, HROW, HB3⟩
      case round =>
        obtain ⟨i, x, rfl, hh, HR, HBr⟩ := hrel
        by_cases hlt : i < T.length
        · have p0 : 0 ≤ x := by have := hh.out.2; omega
          have q0 : x < (T.length : Int) := by have := hh.out.2; omega
          have hlt0 : decide (x < (T.length : Int)) = true := decide_eq_true q0
          have hc := vcell HR.out i (by rw [latTo_length]; exact hlt)
          rw [latTo_get _ _ _ _ hlt, if_neg (Nat.lt_irrefl i)] at hc
          have hf := vfrozen HR.out i
          have hs := vset HR.out i (a1 - ((T.getD i 0 : Nat) : Int))
          rw [latTo_succ _ _ _ hlt] at hs
          have hit : x.toNat = i := by have := hh.out.2; omega
          have hb := HLE.out i
          have h1 := HX.out
          have hsub : wrap64 (a1 - ((T.getD i 0 : Nat) : Int)) = a1 - ((T.getD i 0 : Nat) : Int) := w64 (by omega) (by omega)
          have hsub2 : IntKind.i64.wrap (a1 - ((T.getD i 0 : Nat) : Int)) = a1 - ((T.getD i 0 : Nat) : Int) := by rw [i64_w, hsub]
          generalize ((T.getD i 0 : Nat) : Int) = ti at hc hs hsub hsub2
          generalize hz : a1 - ti = z at hs hsub hsub2
          have hadd : ad.add x.toNat = ⟨p, i, none⟩ := by rw [HP.out.1, add_own, hit]
          rw [← hadd] at hc hf
          have HS := Aside0.mk hs
          have HADD := Aside0.mk hadd
          have HBs := Aside0.mk (HBr.out.setCell (p := ⟨p, i, none⟩) HP.out.2 (.int .i64 z))
          have HLT := Aside0.mk hlt
          replace p0 := eq_true p0
          replace q0 := eq_true q0
          clear hs hadd hit hb h1 hlt
          go_wp2
          go_roundg (T.length - (i + 1))
          case measure => have := hh.out.1; have := HLT.out; omega
          case rel =>
            have h2 := hh.out
            have h3 := HLT.out
            have h4 := H8.out
            refine ⟨i + 1, _, rfl, ⟨by omega, by rw [h2.2]; unfold wrap64; omega⟩, ?_, ?_⟩
            · rw [HADD.out]; exact HS
            · rw [HADD.out]; exact HBs
        · have hlt0 : decide (x < (T.length : Int)) = false := by have := hh.out; simp; omega
          have hi : i = T.length := by have := hh.out; omega
          have HI := Aside0.mk hi
          clear hi hlt
          go_wp2
          go_ret
          have hrow := HR.out
          rw [HI.out] at hrow
          rw [HP.out.1]
          exact ⟨_, rfl, vcells_R HP.out.2 hrow (latTo_length _ _ _) H8.out, HBr.out⟩
    · rw [hcd, if_neg hx]
      have HD := Aside0.mk (fun W => deadline_is a1 false W (decide_eq_false hx))
      clear hr0 hT hg hcd ok htk hx
      go_enter Tryd.func36, Tryd.ntmps36
      go_wp2_with (first | (go_at_call 60; refine HG.out.mono ?_; rintro e w1 ⟨b, rfl, hB, hgr⟩) | (go_at_call 73; refine (HD.out _).mono ?_; rintro e w2 ⟨rfl, hB2⟩; replace hB := below_step hB hB2))
      go_ret
      exact ⟨_, rfl, Kd.R_nil _ _ _ _ _, hB⟩
end Go.Proofs.YtekajandipdlhaaDoor.P
end
