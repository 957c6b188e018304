/- The law FnExactTimeLeft holds of the given program: the proof's own part, with its row and its card, part 4 of 7. -/
import Derived.Test.YtpgfcihmgdempaaDoorZFnExactTimeLeft3
section
set_option linter.unusedVariables false
set_option linter.unusedSimpArgs false
namespace Go.Proofs.YtpgfcihmgdempaaDoor.Core
open Go Go.RowKit Go.Proofs.YtpgfcihmgdempaaDoor.P
theorem done_facts {g : List Tk} {done : List Int} {G : GD} {s : Nat} (h : doneD g done = some (G, s)) : GOk G ∧ s < 2 ^ G.tasks.length ∧ s < 256 ∧ G.ready s < 2 ^ G.tasks.length ∧ G.ready s < 256 ∧ G.tasks = g := by
  obtain ⟨hg, hs, _⟩ := doneD_spec h
  have ok := graphD_ok hg
  have ht := graphD_tasks hg
  have hsl := setD_lt hs
  rw [← ht] at hsl
  have hr := ready_lt G s
  rw [ok.nl] at hr
  have := pow8 ok.n8
  exact ⟨ok, hsl, by omega, hr, by omega, ht⟩
end Go.Proofs.YtpgfcihmgdempaaDoor.Core
namespace Go.Proofs.YtpgfcihmgdempaaDoor.P
open Go Go.RowKit Go.Shelf Go.Proofs.YtpgfcihmgdempaaDoorW.PrintWords Go.Proofs.YtpgfcihmgdempaaDoorW.PrintMore Go.Proofs.YtpgfcihmgdempaaDoor.Core
attribute [local go_sem] Oper.semAt_some wide_fn wide_depth
end Go.Proofs.YtpgfcihmgdempaaDoor.P
end
section
set_option linter.unusedVariables false
set_option linter.unusedSimpArgs false
namespace Go.Proofs.YtpgfcihmgdempaaDoor.Core
open Go Go.RowKit Go.Proofs.YtpgfcihmgdempaaDoor.P
/-- The greatest one of what a list of numbers tells, and of m. -/
def mxL (T : List Nat) (L : List Nat) (m : Nat) : Nat := L.foldl (fun m i => max m (T.getD i 0)) m
theorem mxL_snoc (T L : List Nat) (i : Nat) (m : Nat) : mxL T (L ++ [i]) m = max (mxL T L m) (T.getD i 0) := by unfold mxL; rw [List.foldl_append]; rfl
def leftD (g : List Tk) (done : List Int) : Int := match doneD g done with
  | none => -1
  | some (G, s) => ((mxL (tailsN G) (elemsN (G.ready s)) 0 : Nat) : Int)
end Go.Proofs.YtpgfcihmgdempaaDoor.Core
namespace Go.Proofs.YtpgfcihmgdempaaDoor.P
open Go Go.RowKit Go.Shelf Go.Proofs.YtpgfcihmgdempaaDoorW.PrintWords Go.Proofs.YtpgfcihmgdempaaDoorW.PrintLast Go.Proofs.YtpgfcihmgdempaaDoorW.PrintMore Go.Proofs.YtpgfcihmgdempaaDoor.Core
attribute [local go_sem] Oper.semAt_some wide_fn wide_depth max2_int max_two
def impl_TimeLeft.f (l0 : List S30) (l1 : List Int) : Option Int := some (leftD l0 l1)
set_option maxRecDepth 100000 in
set_option maxHeartbeats 2000000 in
theorem impl_TimeLeft.calls (A0 : Option Addr) (c0 : Nat) (l0 : List S30) (A1 : Option Addr) (c1 : Nat) (l1 : List Int) (r : Int) (w : World) (hr0 : Kd.C k30 w A0 l0.length l0) (hc0 : l0.length ≤ c0) (hr1 : Kd.C (Kd.int .i64) w A1 l1.length l1) (hc1 : l1.length ≤ c1) (hT : Tab w) (h : impl_TimeLeft.f l0 l1 = some r) :
    Calls Tryd.prog 36 #[.slice A0 l0.length c0, .slice A1 l1.length c1] w fun e w' => e = .returned (.int .i64 r) ∧ Below w.heap.size w w' := by
  have hr : r = leftD l0 l1 := (Option.some.inj h).symm
  subst hr
  clear h
  cases hg : doneD l0 l1 with
  | none =>
    have hcd : leftD l0 l1 = -1 := by unfold leftD; rw [hg]
    rw [hcd]
    have HG := Aside0.mk (doneIn_none A0 c0 l0 A1 c1 l1 w hT hr0 hc0 hr1 hc1 hg)
    clear hr0 hr1 hT hg hcd
    go_enter Tryd.func36, Tryd.ntmps36
    go_wp2_with (go_at_call 54; refine HG.out.mono ?_; rintro e w1 ⟨rfl, hB⟩)
    go_ret
    exact ⟨rfl, hB⟩
  | some GS =>
    obtain ⟨G, s⟩ := GS
    have hcd : leftD l0 l1 = ((mxL (tailsN G) (elemsN (G.ready s)) 0 : Nat) : Int) := by unfold leftD; rw [hg]
    rw [hcd]
    have HG := Aside0.mk (doneIn_some A0 c0 l0 A1 c1 l1 G s w hT hr0 hc0 hr1 hc1 hg)
    obtain ⟨ok, hsl, hs8, hrl, hr8, hgt⟩ := done_facts hg
    have htk : ∀ t ∈ G.tasks, taskOk t := by rw [hgt]; exact graphD_taskOk (doneD_spec hg).1
    have HTL := Aside0.mk (fun W b hT hg => (tails_row b G W hT hg ok htk).mono (R' := fun e w' => ∃ (ad : Addr) (p : Nat), e = .returned (.slice (some ad) G.tasks.length G.tasks.length) ∧ Aside0 (ad = ⟨p, 0, none⟩ ∧ W.heap.size ≤ p) ∧ Aside0 (w'.heap[p]? = some (.cells (icells (tailsN G)) 3 (0, 0))) ∧ Below W.heap.size W w') (fun e w' ⟨p, h1, h2, h3, h4⟩ => ⟨⟨p, 0, none⟩, p, h1, ⟨rfl, h2⟩, ⟨h3⟩, h4⟩))
    have HRD := Aside0.mk (fun b W (hg : IsG W b G) => ready_calls b G s W hg ok hs8)
    have hle := tailsN_le ok (tm20_of htk)
    have htl := tailsN_length G
    have HT := Aside0.mk hT
    clear hr0 hr1 hT hg hcd hgt ok htk hsl hs8
    generalize tailsN G = T at HTL hle htl ⊢
    generalize G.ready s = rs at HRD hrl hr8 ⊢
    refine calls_marks Tryd.func36 rfl ?_
    simp only [Tryd.ntmps36, List.size_toArray, List.length_cons, List.length_nil, Nat.reduceAdd, Nat.reduceSub, Array.replicate_succ, Array.replicate_zero, List.push_toArray, List.append_toArray, List.nil_append, List.cons_append]
    rw [← htl] at HTL hrl
    clear htl
    go_wp2_with (first | (go_at_call 54; refine HG.out.mono ?_; rintro e w1 ⟨b, rfl, hB, hgr⟩) | (go_at_call 49; refine (HTL.out _ b (HT.out.of hB) hgr).mono ?_; rintro e w2 ⟨ad, p, rfl, HP, HROW, hB2⟩; have HB2 := Aside0.mk (below_step hB hB2); have HB1 := Aside0.mk hB; have HGR := Aside0.mk ((hgr.move hB2).move (((Below.refl w2.heap.size w2).alloc (Nat.le_refl _) (.cells #[.slice (some ad) T.length T.length] 26)).alloc (by simp) (.cells #[.int .i64 0] 3))); clear hB hB2 hgr) | (go_at_call 60; refine (HRD.out b _ HGR.out).mono ?_; rintro e w' ⟨rfl, rfl⟩) | (go_at_call 68; refine (all_calls rs _).mono ?_; rintro e w' ⟨rfl, rfl⟩))
    have o1 : (w2.alloc (.cells #[.slice (some ad) T.length T.length] 26)).heap.size = w2.heap.size + 1 := by simp
    have o2 : ((w2.alloc (.cells #[.slice (some ad) T.length T.length] 26)).alloc (.cells #[.int .i64 0] 3)).heap.size = w2.heap.size + 1 + 1 := by simp
    have a1 := (Boxed.new w2 26 (.slice (some ad) T.length T.length)).alloc (.cells #[.int .i64 0] 3)
    have u1 := Boxed.new (w2.alloc (.cells #[.slice (some ad) T.length T.length] 26)) 3 (.int .i64 0)
    rw [o1] at u1
    have B1 := (HB2.out.alloc HB2.out.size (.cells #[.slice (some ad) T.length T.length] 26)).alloc (by rw [o1]; have := HB2.out.size; omega) (.cells #[.int .i64 0] 3)
    have r1 := cells_alloc (cells_alloc HROW.out (.cells #[.slice (some ad) T.length T.length] 26)) (.cells #[.int .i64 0] 3)
    revert o2 a1 u1 B1 r1
    clear HGR o1
    generalize ((w2.alloc (.cells #[.slice (some ad) T.length T.length] 26)).alloc (.cells #[.int .i64 0] 3)) = w4
    intro o2 a1 u1 B1 r1
    have s5 := Boxed.new w4 65 (.int .u16 (rs : Int))
    rw [o2] at s5
    have o5 : (w4.alloc (.cells #[.int .u16 (rs : Int)] 65)).heap.size = w2.heap.size + 1 + 1 + 1 := by simp [o2]
    have a5 := a1.alloc (.cells #[.int .u16 (rs : Int)] 65)
    have u5 := u1.alloc (.cells #[.int .u16 (rs : Int)] 65)
    have r5 := cells_alloc r1 (.cells #[.int .u16 (rs : Int)] 65)
    have B5 := B1.alloc B1.size (.cells #[.int .u16 (rs : Int)] 65)
    revert s5 o5 a5 u5 r5 B5
    clear o2 a1 u1 B1 r1
    generalize w4.alloc (.cells #[.int .u16 (rs : Int)] 65) = w5
    intro s5 o5 a5 u5 r5 B5
    have hle5 : w.heap.size ≤ w5.heap.size := B5.size
    have hw2 : w.heap.size ≤ w2.heap.size := HB2.out.size
    have hp2 := cells_lt HROW.out
    have HRES := Aside0.mk (show mxL T (elemsN rs) 0 = mxL T (elemsN rs) 0 from rfl)
    refine wp_rangeSet Tab.tame (w := w5) (w0 := w5) (p := 26) (d := 10) rfl (enters_of Tryd.func90 (by kernel_rfl) rfl)
      (all_seq (w2.heap.size + 1 + 1) rs hr8 w5 (HT.out.of B5) s5.cell) (Below.refl _ _) (by simp)
      (fun ys W' => ∃ zs : List Nat, ys = up zs ∧ Boxed W' (w2.heap.size + 1) 3 (.int .i64 ((mxL T zs 0 : Nat) : Int)) ∧ Boxed W' w2.heap.size 26 (.slice (some ad) T.length T.length) ∧ W'.heap[p]? = some (.cells (icells T) 3 (0, 0)) ∧ Below w.heap.size w W' ∧ w5.heap.size ≤ W'.heap.size) (fun _ _ _ => False)
      (ownFrom_tame (fun ys W' W'' ht ⟨zs, z, c1, c2, c3, c4, c5⟩ => ⟨zs, z, ht.boxed c1, ht.boxed c2, ht.cells c3, ht.below c4 (Nat.le_refl _) hle5, Nat.le_trans c5 ht.size⟩)) (fun _ => ownFrom_tame (fun _ _ _ _ h => h))
      ⟨[], rfl, u5, a5, r5, B5, Nat.le_refl _⟩ (fun ys W' ⟨_, _, _, _, _, h, _⟩ => HT.out.of h) ?body ?done (fun _ _ _ _ _ h _ => h.elim)
    case body =>
      rintro l pre1 x W1 hx ⟨zs, rfl, hu, ha, hrw, hB, hsz⟩ hlt1
      gi_wp2
      obtain ⟨k0, hxk, hk8, _⟩ := mem_elems.1 hx
      have hkn : k0 < T.length := by have := elems_lt hrl hx; omega
      refine wpIn_still_tail 6 rfl (by kernel_rfl) (by kernel_rfl) (fun ⟨_, _, h⟩ => h) ?_
      change wpStill _ _ W1.drew (fun a' => wpList _ _ _ _ a' W1.drew) _ _
      have hdr : Below W1.heap.size W1 W1.drew := below_drew (Below.refl _ _)
      have hko := KeepsOthers.drew W1
      revert hdr hko
      generalize W1.drew = Wd
      intro hdr hko
      have hu4 : Boxed Wd (w2.heap.size + 1) 3 (.int .i64 ((mxL T zs 0 : Nat) : Int)) := (hdr.block _ hu.lt).trans hu
      have ha4 : Boxed Wd w2.heap.size 26 (.slice (some ad) T.length T.length) := (hdr.block _ ha.lt).trans ha
      have hr4 : Wd.heap[p]? = some (.cells (icells T) 3 (0, 0)) := (hdr.block _ (cells_lt hrw)).trans hrw
      have hBd := below_step hB hdr
      have hLk := icell hr4 k0 hkn
      have hmx := wmax (mxL T zs 0) (T.getD k0 0)
      have hstep := mxL_snoc T zs k0 0
      rw [← hstep] at hmx
      have hkt : x.toNat = k0 := by omega
      rw [← add_own, ← HP.out.1, ← hkt] at hLk
      rw [hkt] at hLk
      rw [show ad.add k0 = ad.add x.toNat by rw [hkt]] at hLk
      have p2 : (0 ≤ x) = True := eq_true (by omega)
      have q2 : (x < (T.length : Int)) = True := eq_true (by omega)
      generalize hsK : ((T.getD k0 0 : Nat) : Int) = sK at hLk hmx
      generalize hsZ : ((mxL T zs 0 : Nat) : Int) = sZ at hu4 hmx
      have hcu := hu4.cell
      have hfu := hu4.frozen
      have hca := ha4.cell
      have HX := Aside0.mk hxk
      have HMX := Aside0.mk hmx
      have HKT := Aside0.mk hkt
      clear hxk hx hlt1 hmx hstep hkt hsK hsZ hkn
      simp only [List.take_succ_cons, List.take_zero, List.drop_succ_cons, List.drop_zero]
      repeat still_step
      rw [HMX.out]
      refine wpStill_nil ?_
      go_wp2
      have hgr := grownBy_setCell' Wd (w2.heap.size + 1) (.int .i64 ((mxL T (zs ++ [k0]) 0 : Nat) : Int))
      have hne : p ≠ w2.heap.size + 1 := by omega
      refine ⟨(hko.trans (KeepsOthers.setCell _ _ _)).from _, zs ++ [k0], ?_, ?_, ?_, ?_, ?_, ?_⟩
      · rw [HX.out]; simp [Core.up]
      · exact hu4.set _
      · exact ha4.kept hgr (fun e => by injection e with e; omega)
      · exact (hgr.block _ (cells_lt hr4) (fun e => by injection e with e; exact hne e)).trans hr4
      · exact below_put hgr hBd (Nat.le_refl _) (by omega)
      · have h1 := hgr.size; have h3 := hdr.size; omega
    case done =>
      rintro D W2 hD ⟨zs, hzs, hu, ha, hrw, hB, hsz⟩ hk
      obtain rfl : elemsN rs = zs := up_inj hzs
      have hm := (Marks.nil w.heap.size w5.heap.size W2).cons hD hle5 hk
      have hcu := hu.cell
      clear hzs hk
      go_wp2
      refine leave_ret hm (fun W => results_tmp rfl _ _ _) ?_
      intro W' ht
      exact ⟨rfl, ht.below hB (Nat.le_refl _) (Nat.le_refl _)⟩
end Go.Proofs.YtpgfcihmgdempaaDoor.P
end
section
set_option linter.unusedVariables false
set_option linter.unusedSimpArgs false
namespace Go.Proofs.YtpgfcihmgdempaaDoor.Core
open Go Go.RowKit Go.Proofs.YtpgfcihmgdempaaDoorW.PrintWords Go.Proofs.YtpgfcihmgdempaaDoorW.PrintMore Go.Proofs.YtpgfcihmgdempaaDoor.P
theorem ev_timeLeft {g : List Tk} (hg : Fits g) {G : GD} (hG : graphD g = some G) {s : Nat} (hs : s < 2 ^ g.length) : Ev (fun k => spec_timeLeft.f k g (up (elemsN s))) ((mxL (tailsN G) (elemsN (G.ready s)) 0 : Nat) : Int) := by
  have v := vg_of hG
  have h8 := v.n8
  have hT := tails_ok v
  have hl : (up (tailsN G)).length = g.length := by rw [up_length, hT.1]
  have hrl := ready_lt G s
  rw [v.nl] at hrl
  unfold spec_timeLeft.f
  refine Ev.bind (ev_tails hg hG) (Ev.bind (ev_ready hg v hs) ?_)
  have hel := elemsN_length (G.ready s)
  have key : ∀ (r pre : List Nat), elemsN (G.ready s) = pre ++ r → Ev (fun k => spec_timeLeft.l0 k ((mxL (tailsN G) pre 0 : Nat) : Int) (up (tailsN G)) (up (elemsN (G.ready s))) (pre.length : Int)) ((mxL (tailsN G) (elemsN (G.ready s)) 0 : Nat) : Int) := by
    intro r
    induction r with
    | nil =>
      intro pre hp
      rw [List.append_nil] at hp
      refine Ev.succ ?_
      simp only [spec_timeLeft.l0]
      refine Ev.neg (by rw [up_length, hp]; omega) ((Ev.const _).conv ?_)
      rw [hp]
    | cons i r ih =>
      intro pre hp
      have hlen : (elemsN (G.ready s)).length = pre.length + (r.length + 1) := by rw [hp]; simp
      have hi : i < g.length := elemsN_lt hrl (by rw [hp]; simp)
      have hrd : rd (up (elemsN (G.ready s))) (pre.length : Int) = (i : Int) := by rw [rd_up (i := pre.length) rfl, hp]; simp
      have hrt : rd (up (tailsN G)) (i : Int) = (((tailsN G).getD i 0 : Nat) : Int) := rd_up rfl
      have hw : wrap64 ((pre.length : Int) + 1) = ((pre ++ [i]).length : Int) := by rw [w64s (by unfold big; omega)]; simp
      have h := ih (pre ++ [i]) (by rw [hp]; simp)
      rw [mxL_snoc] at h
      refine Ev.succ ?_
      simp only [spec_timeLeft.l0, hrd, hrt, hw, mx_nat]
      exact Ev.pos (by rw [up_length]; omega) (Ev.pos (by omega) (Ev.pos (by omega) (Ev.pos (by omega) h)))
  exact key (elemsN (G.ready s)) [] rfl
theorem ev_TimeLeft {g : List Tk} (hg : Fits g) {l : List Int} (hl : l.length < big) : Ev (fun k => spec_TimeLeft.f k g l) (leftD g l) := by
  unfold spec_TimeLeft.f leftD
  refine Ev.bind (ev_validDone hg hl) ?_
  cases h : doneD g l with
  | none => exact Ev.neg (by simp) (Ev.const _)
  | some GS =>
    obtain ⟨G, s⟩ := GS
    obtain ⟨v, hG, hs, rfl, _, _⟩ := done_list h
    exact Ev.pos (by first | rfl | trivial) (Ev.bind (ev_timeLeft hg hG hs) (Ev.const _))
end Go.Proofs.YtpgfcihmgdempaaDoor.Core
end
section
set_option linter.unusedVariables false
set_option linter.unusedSimpArgs false
namespace Go.Proofs.YtpgfcihmgdempaaDoor.P
open Go Go.RowKit Go.Shelf Go.Proofs.YtpgfcihmgdempaaDoorW.PrintWords Go.Proofs.YtpgfcihmgdempaaDoorW.PrintLast Go.Proofs.YtpgfcihmgdempaaDoorW.PrintMore Go.Proofs.YtpgfcihmgdempaaDoor.Core
/-- What the walk takes: the functions' results. -/
structure laws_FnExactTimeLeft.Facts (k : Nat) (l0 : List S69) (l1 : List Int) : Prop where
  out : ∃ (y0 : List S30) (y1 : List Int) (R : Int), laws_toTaskS.f k l0 = some y0 ∧ laws_toIntS.f k l1 = some y1 ∧ spec_TimeLeft.f k y0 y1 = some R ∧ impl_TimeLeft.f y0 y1 = some R ∧ laws_eqTaskS.f k y0 y0 = some true ∧ laws_eqIntS.f k y1 y1 = some true
open Classical in
noncomputable def laws_FnExactTimeLeft.f (k : Nat) (l0 : List S69) (l1 : List Int) : Option Bool := if (l1.length : Int) > 1048576 then some true else ((laws_szTaskS.f k l0 1048576).bind fun left => if left < 0 then some true else (if laws_FnExactTimeLeft.Facts k l0 l1 then some true else none))
set_option maxRecDepth 100000 in
set_option maxHeartbeats 16000000 in
theorem laws_FnExactTimeLeft.calls (k : Nat) (A0 : Option Addr) (c0 : Nat) (l0 : List S69) (A1 : Option Addr) (c1 : Nat) (l1 : List Int) (r : Bool) (w : World) (hr0 : Kd.C k69 w A0 l0.length l0) (hc0 : l0.length ≤ c0) (hr1 : Kd.C (Kd.int .i64) w A1 l1.length l1) (hc1 : l1.length ≤ c1) (hT : Tab w) (h : laws_FnExactTimeLeft.f k l0 l1 = some r) :
    Calls Tryd.prog 9 #[.slice A0 l0.length c0, .slice A1 l1.length c1] w fun e w' => e = .returned (.bool r) ∧ Below w.heap.size w w' := by
  have HR0 := Aside0.mk hr0
  have HC0 := Aside0.mk hc0
  have HR1 := Aside0.mk hr1
  have HC1 := Aside0.mk hc1
  have HT := Aside0.mk hT
  have HB := Aside0.mk (Below.refl w.heap.size w)
  clear hT hr0 hc0 hr1 hc1
  unfold laws_FnExactTimeLeft.f at h
  by_cases b1 : (l1.length : Int) > 1048576
  · rw [if_pos b1] at h
    obtain rfl := Option.some.inj h
    have d1 : decide (1048576 < (l1.length : Int)) = true := decide_eq_true b1
    have d2 : decide (1048576 < l1.length) = true := decide_eq_true (by omega)
    clear h b1
    go_enter Tryd.func9, Tryd.ntmps9
    go_wp2
    go_ret
    exact ⟨rfl, HB.out⟩
  rw [if_neg b1] at h
  have d1_1 : decide (1048576 < (l1.length : Int)) = false := decide_eq_false b1
  have d1_2 : decide (1048576 < l1.length) = false := decide_eq_false (by omega)
  clear b1
  obtain ⟨left, hl, h⟩ := Option.bind_eq_some_iff.mp h
  have FZ := Aside0.mk hl
  clear hl
  by_cases bl : left < 0
  · rw [if_pos bl] at h
    obtain rfl := Option.some.inj h
    have d1 : decide (left < 0) = true := decide_eq_true bl
    clear h bl
    go_enter Tryd.func9, Tryd.ntmps9
    go_wp2_with (go_at_call 23; refine (laws_szTaskS.calls (hr0 := HR0.out) (hc0 := HC0.out) (h := FZ.out)).mono ?_; rintro e w1 ⟨rfl, hb⟩; replace HB := Aside0.mk hb; clear hb)
    go_ret
    exact ⟨rfl, HB.out⟩
  rw [if_neg bl] at h
  have dl : decide (left < 0) = false := decide_eq_false bl
  clear bl
  have hF := Core.of_if_some h
  obtain rfl := hF.2
  have hF := hF.1
  clear h
  obtain ⟨y0, y1, R, f0, f1, fs, fi, e0, e1⟩ := hF.out
  have F0 := Aside0.mk f0
  have F1 := Aside0.mk f1
  have FS := Aside0.mk fs
  have FI := Aside0.mk fi
  have E0 := Aside0.mk e0
  have E1 := Aside0.mk e1
  clear hF f0 f1 fs fi e0 e1
  go_enter Tryd.func9, Tryd.ntmps9
  go_wp2_with (go_at_call 23; refine (laws_szTaskS.calls (hr0 := HR0.out) (hc0 := HC0.out) (h := FZ.out)).mono ?_; rintro e w1 ⟨rfl, hb⟩; have z1 := Aside0.mk (hb).size; replace HB := Aside0.mk (below_step HB.out hb); clear hb)
  go_wp2_with (go_at_call 24; refine (laws_toTaskS.calls (hr0 := Kd.C_below HR0.out HB.out) (hc0 := HC0.out) (h := F0.out)).mono ?_; rintro e w2 ⟨v_w0_aG, rfl, ho, hb⟩; have z2 := Aside0.mk (hb).size; replace HB := Aside0.mk (below_step HB.out hb); have H_w0_aG := Aside0.mk (Kd.R_mono (Kd.R_bound (Kd.S_R ho)) (fun k_ hk_ => hk_.2.2.1) : Kd.R k30 30 w2 w1.heap.size (fun k_ => k_ < w2.heap.size) v_w0_aG _); obtain ⟨A_w0_aG, c_w0_aG, e_w0_aG⟩ := Kd.R_slice H_w0_aG.out; subst e_w0_aG; clear ho hb)
  go_wp2_with (go_at_call 31; refine (laws_toIntS.calls (hr0 := Kd.C_below HR1.out HB.out) (hc0 := HC1.out) (h := F1.out)).mono ?_; rintro e w3 ⟨v_w0_aDone, rfl, ho, hb⟩; have z3 := Aside0.mk (hb).size; replace HB := Aside0.mk (below_step HB.out hb); replace H_w0_aG := Aside0.mk (Kd.R_below H_w0_aG.out hb); have H_w0_aDone := Aside0.mk (Kd.R_mono (Kd.R_bound ho) (fun k_ hk_ => hk_.2.2.1) : Kd.R (Kd.int .i64) 3 w3 w2.heap.size (fun k_ => k_ < w3.heap.size) v_w0_aDone _); obtain ⟨A_w0_aDone, c_w0_aDone, e_w0_aDone⟩ := Kd.R_slice H_w0_aDone.out; subst e_w0_aDone; clear ho hb)
  go_wp2_with (go_at_call 35; refine (spec_TimeLeft.calls (hr0 := (Kd.R_reads' H_w0_aG.out).2.2) (hc0 := (Kd.R_reads' H_w0_aG.out).2.1) (hr1 := (Kd.R_reads' H_w0_aDone.out).2.2) (hc1 := (Kd.R_reads' H_w0_aDone.out).2.1) (h := FS.out)).mono ?_; rintro e w4 ⟨rfl, hb⟩; have z4 := Aside0.mk (hb).size; replace HB := Aside0.mk (below_step HB.out hb); replace H_w0_aG := Aside0.mk (Kd.R_below H_w0_aG.out hb); replace H_w0_aDone := Aside0.mk (Kd.R_below H_w0_aDone.out hb); clear hb)
  clear H_w0_aG
  clear H_w0_aDone
  go_wp2_with (go_at_call 24; refine (laws_toTaskS.calls (hr0 := Kd.C_below HR0.out HB.out) (hc0 := HC0.out) (h := F0.out)).mono ?_; rintro e w5 ⟨v_x0, rfl, ho, hb⟩; have z5 := Aside0.mk (hb).size; replace HB := Aside0.mk (below_step HB.out hb); have H_x0 := Aside0.mk (Kd.R_mono (Kd.R_bound (Kd.S_R ho)) (fun k_ hk_ => hk_.2.2.1) : Kd.R k30 30 w5 w4.heap.size (fun k_ => k_ < w5.heap.size) v_x0 _); obtain ⟨A_x0, c_x0, e_x0⟩ := Kd.R_slice H_x0.out; subst e_x0; clear ho hb)
  go_wp2_with (go_at_call 31; refine (laws_toIntS.calls (hr0 := Kd.C_below HR1.out HB.out) (hc0 := HC1.out) (h := F1.out)).mono ?_; rintro e w6 ⟨v_x1, rfl, ho, hb⟩; have z6 := Aside0.mk (hb).size; replace HB := Aside0.mk (below_step HB.out hb); replace H_x0 := Aside0.mk (Kd.R_below H_x0.out hb); have H_x1 := Aside0.mk (Kd.R_mono (Kd.R_bound ho) (fun k_ hk_ => hk_.2.2.1) : Kd.R (Kd.int .i64) 3 w6 w5.heap.size (fun k_ => k_ < w6.heap.size) v_x1 _); obtain ⟨A_x1, c_x1, e_x1⟩ := Kd.R_slice H_x1.out; subst e_x1; clear ho hb)
  go_wp2_with (go_at_call 36; refine (impl_TimeLeft.calls (hr0 := (Kd.R_reads' H_x0.out).2.2) (hc0 := (Kd.R_reads' H_x0.out).2.1) (hr1 := (Kd.R_reads' H_x1.out).2.2) (hc1 := (Kd.R_reads' H_x1.out).2.1) (hT := Tab.of HT.out HB.out) (h := FI.out)).mono ?_; rintro e w7 ⟨rfl, hb⟩; have z7 := Aside0.mk (hb).size; replace HB := Aside0.mk (below_step HB.out hb); replace H_x0 := Aside0.mk (Kd.R_below H_x0.out hb); replace H_x1 := Aside0.mk (Kd.R_below H_x1.out hb); clear hb)
  go_wp2_with (go_at_call 24; refine (laws_toTaskS.calls (hr0 := Kd.C_below HR0.out HB.out) (hc0 := HC0.out) (h := F0.out)).mono ?_; rintro e w8 ⟨v_t_aG, rfl, ho, hb⟩; have z8 := Aside0.mk (hb).size; replace HB := Aside0.mk (below_step HB.out hb); replace H_x0 := Aside0.mk (Kd.R_below H_x0.out hb); replace H_x1 := Aside0.mk (Kd.R_below H_x1.out hb); have H_t_aG := Aside0.mk (Kd.R_mono (Kd.R_bound (Kd.S_R ho)) (fun k_ hk_ => hk_.2.2.1) : Kd.R k30 30 w8 w7.heap.size (fun k_ => k_ < w8.heap.size) v_t_aG _); obtain ⟨A_t_aG, c_t_aG, e_t_aG⟩ := Kd.R_slice H_t_aG.out; subst e_t_aG; clear ho hb)
  go_wp2_with (go_at_call 26; refine (laws_eqTaskS.calls (hr0 := (Kd.R_reads' H_x0.out).2.2) (hc0 := (Kd.R_reads' H_x0.out).2.1) (hr1 := (Kd.R_reads' H_t_aG.out).2.2) (hc1 := (Kd.R_reads' H_t_aG.out).2.1) (h := E0.out)).mono ?_; rintro e w9 ⟨rfl, hd⟩; have hb := hd; have z9 := Aside0.mk (hb).size; replace HB := Aside0.mk (below_step HB.out hb); replace H_x0 := Aside0.mk (Kd.R_below H_x0.out hb); replace H_x1 := Aside0.mk (Kd.R_below H_x1.out hb); replace H_t_aG := Aside0.mk (Kd.R_below H_t_aG.out hb); clear hd hb)
  clear H_t_aG
  go_wp2_with (go_at_call 31; refine (laws_toIntS.calls (hr0 := Kd.C_below HR1.out HB.out) (hc0 := HC1.out) (h := F1.out)).mono ?_; rintro e w10 ⟨v_t_aDone, rfl, ho, hb⟩; have z10 := Aside0.mk (hb).size; replace HB := Aside0.mk (below_step HB.out hb); replace H_x0 := Aside0.mk (Kd.R_below H_x0.out hb); replace H_x1 := Aside0.mk (Kd.R_below H_x1.out hb); have H_t_aDone := Aside0.mk (Kd.R_mono (Kd.R_bound ho) (fun k_ hk_ => hk_.2.2.1) : Kd.R (Kd.int .i64) 3 w10 w9.heap.size (fun k_ => k_ < w10.heap.size) v_t_aDone _); obtain ⟨A_t_aDone, c_t_aDone, e_t_aDone⟩ := Kd.R_slice H_t_aDone.out; subst e_t_aDone; clear ho hb)
  go_wp2_with (go_at_call 25; refine (laws_eqIntS.calls (hr0 := (Kd.R_reads' H_x1.out).2.2) (hc0 := (Kd.R_reads' H_x1.out).2.1) (hr1 := (Kd.R_reads' H_t_aDone.out).2.2) (hc1 := (Kd.R_reads' H_t_aDone.out).2.1) (h := E1.out)).mono ?_; rintro e w11 ⟨rfl, hd⟩; have hb := drawn0_below hd; have z11 := Aside0.mk (hb).size; replace HB := Aside0.mk (below_step HB.out hb); replace H_x0 := Aside0.mk (Kd.R_below H_x0.out hb); replace H_x1 := Aside0.mk (Kd.R_below H_x1.out hb); replace H_t_aDone := Aside0.mk (Kd.R_below H_t_aDone.out hb); clear hd hb)
  clear H_t_aDone
  go_ret
  exact ⟨rfl, HB.out⟩
end Go.Proofs.YtpgfcihmgdempaaDoor.P
end
