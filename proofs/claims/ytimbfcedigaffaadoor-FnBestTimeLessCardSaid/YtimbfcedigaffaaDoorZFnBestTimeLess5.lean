/- The law FnBestTimeLess holds of the given program: the proof's own part, with its row and its card, part 5 of 9. -/
import Derived.Test.YtimbfcedigaffaaDoorZFnBestTimeLess4
import Derived.Laws.Bits64
set_option linter.unusedVariables false
set_option linter.unusedSimpArgs false
namespace Go.Proofs.YtimbfcedigaffaaDoor.P
abbrev T5q : Bool := true
abbrev F5q : Bool := false
end Go.Proofs.YtimbfcedigaffaaDoor.P
section
namespace Go.Proofs.YtimbfcedigaffaaDoor.Core
open Go Go.RowKit Go.Shelf Go.Proofs.YtimbfcedigaffaaDoorW.PrintWords Go.Proofs.YtimbfcedigaffaaDoorW.PrintLast Go.Proofs.YtimbfcedigaffaaDoorW.PrintMore Go.Proofs.YtimbfcedigaffaaDoor.P
attribute [local go_sem] Oper.semAt_some wide_fn wide_depth max2_int max_two
/-- An operation with a guard, told by the guard's own value. -/
theorem wpStill_want {P : Program} {ops : Array Oper} {w : World} {Q : Act → Prop} {a : Act} {o : Oper} {rest : List Oper} (hw : Region.wanted o (yielded ops a.tmps) = true) (h : ∀ K : Act → Prop, (∀ a, wpStill P ops w Q rest a → K a) → o.still P a w K) : wpStill P ops w Q (o :: rest) a := by
 unfold wpStill
 rw [if_pos hw]
 exact h _ (fun _ h => h)
theorem wpStill_skip {P : Program} {ops : Array Oper} {w : World} {Q : Act → Prop} {a : Act} {o : Oper} {rest : List Oper} (hw : Region.wanted o (yielded ops a.tmps) = false) (h : wpStill P ops w Q rest (a.put o.dst undef)) : wpStill P ops w Q (o :: rest) a := by
 unfold wpStill
 rw [if_neg (by rw [hw]; exact Bool.false_ne_true)]
 exact h
/-- When a task is over. -/
def endN (g : List Tk) (L : List Nat) (k : Nat) : Nat := L.getD k 0 + tmN g k
/-- One more need. -/
def eStep (g : List Tk) (L : List Nat) (a k : Nat) : Nat := max a (endN g L k)
def needEnd (g : List Tk) (L : List Nat) (s : Nat) : Nat := (elemsN s).foldl (eStep g L) 0
/-- Whether a task runs at a time. -/
def runsAt (g : List Tk) (L : List Nat) (now k : Nat) : Bool := decide (L.getD k 0 ≤ now) && decide (now < endN g L k)
def cntStep (g : List Tk) (L : List Nat) (now : Nat) (c : Cn) (k : Nat) : Cn := if runsAt g L now k = true then cstep g c k else c
def cntOf (g : List Tk) (L : List Nat) (pl now : Nat) : Cn := (elemsN pl).foldl (cntStep g L now) Cn.zero
/-- Whether a task can run at a time. -/
def freeB (g : List Tk) (L : List Nat) (pl i : Nat) (room : List Int) (wk : Int) (now : Nat) : Bool := takesB (cntOf g L pl now) (g.getD i z39).f2 (g.getD i z39).f3 room wk
def freeN (g : List Tk) (L : List Nat) (pl i : Nat) (room : List Int) (wk : Int) : Nat → Nat → Bool
 | 0, _ => true
 | d + 1, now => freeB g L pl i room wk now && freeN g L pl i room wk d (now + 1)
def earlN (g : List Tk) (L : List Nat) (pl i : Nat) (room : List Int) (wk : Int) : Nat → Nat → Nat
 | 0, a => a
 | f + 1, a => if freeN g L pl i room wk (tmN g i) a = true then a else earlN g L pl i room wk f (a + 1)
def earlD (g : List Tk) (L : List Nat) (s pl i : Nat) (room : List Int) (wk : Int) : Nat := earlN g L pl i room wk 400 (needEnd g L s)
theorem eStep_le {g : List Tk} (ht : tm20 g) {L : List Nat} {b : Nat} (hL : leB b L) {a : Nat} (ha : a ≤ b + 20) (k : Nat) : eStep g L a k ≤ b + 20 := by
 have h1 := hL k
 have h2 := ht k
 unfold eStep endN
 omega
theorem efold_le {g : List Tk} (ht : tm20 g) {L : List Nat} {b : Nat} (hL : leB b L) : ∀ (ks : List Nat) (a : Nat), a ≤ b + 20 → ks.foldl (eStep g L) a ≤ b + 20
 | [], _, h => h
 | k :: ks, a, h => efold_le ht hL ks _ (eStep_le ht hL h k)
def eframe (f : Nat → Value) (v2 v3 v4 v5 v6 v7 v13 v15 v16 : Value) : Array Value := #[f 0, f 1, v2, v3, v4, v5, v6, v7, f 8, f 9, f 10, f 11, f 12, v13, f 14, v15, v16, f 17, f 18, f 19, f 20, f 21, f 22, f 23, f 24, f 25, f 26, f 27, f 28, f 29, f 30, f 31, f 32, f 33, f 34, f 35, f 36, f 37, f 38, f 39, f 40, f 41, f 42, f 43, f 44, f 45, f 46, f 47, f 48, f 49, f 50, f 51, f 52, f 53, f 54, f 55, f 56, f 57, f 58, f 59, f 60, f 61, f 62, f 63, f 64, f 65, f 66, f 67, f 68, f 69, f 70, f 71, f 72, f 73, f 74, f 75, f 76, f 77, f 78, f 79, f 80, f 81, f 82, f 83, f 84, f 85, f 86, f 87, f 88, f 89, f 90, f 91, f 92, f 93, f 94, f 95, f 96, f 97, f 98, f 99, f 100, f 101, f 102, f 103, f 104, f 105, f 106, f 107, f 108, f 109]
theorem eframe_lit {T : Array Value} {v2 v3 v4 v5 v6 v7 v13 v15 v16 : Value} (hs : T.size = 110) (h2 : T[2]? = some v2) (h3 : T[3]? = some v3) (h4 : T[4]? = some v4) (h5 : T[5]? = some v5) (h6 : T[6]? = some v6) (h7 : T[7]? = some v7) (h13 : T[13]? = some v13) (h15 : T[15]? = some v15) (h16 : T[16]? = some v16) : ∃ f, T = eframe f v2 v3 v4 v5 v6 v7 v13 v15 v16 := by
 refine ⟨fun j => T.getD j undef, ?_⟩
 have hT0 : T = ((List.range 110).map fun j => T.getD j undef).toArray := by
  apply Array.ext
  ·simp [hs]
  ·intro i h1 h2
   simp [Array.getD_eq_getD_getElem?, h1]
 have e (j : Nat) (v : Value) (h : T[j]? = some v) : v = T.getD j undef := by rw [Array.getD_eq_getD_getElem?, h]; rfl
 obtain rfl := e _ _ h2
 obtain rfl := e _ _ h3
 obtain rfl := e _ _ h4
 obtain rfl := e _ _ h5
 obtain rfl := e _ _ h6
 obtain rfl := e _ _ h7
 obtain rfl := e _ _ h13
 obtain rfl := e _ _ h15
 obtain rfl := e _ _ h16
 exact hT0
/-- What the walk knows of its cells: the graph, the beginnings, the time. -/
structure ES (w : World) (b : Nat) (A : Option Addr) (n c : Nat) (W : World) (t : Int) : Prop where
 x : Boxed W w.heap.size 60 (.pointer (some ⟨b, 0, none⟩))
 st : Boxed W (w.heap.size + 1) 23 (.slice A n c)
 at_ : Boxed W (w.heap.size + 1 + 1) 3 (.int .i64 t)
 below : Below w.heap.size w W
theorem ES.move {w W W' : World} {b n c : Nat} {A : Option Addr} {t : Int} (h : ES w b A n c W t) (hb : Below W.heap.size W W') : ES w b A n c W' t :=
 ⟨(hb.block _ h.x.lt).trans h.x, (hb.block _ h.st.lt).trans h.st, (hb.block _ h.at_.lt).trans h.at_, below_step h.below hb⟩
theorem ES.alloc {w W : World} {b n c : Nat} {A : Option Addr} {t : Int} (h : ES w b A n c W t) (o : Obj) : ES w b A n c (W.alloc o) t := h.move ((Below.refl W.heap.size W).alloc (Nat.le_refl _) o)
theorem ES.tame {w W W' : World} {b n c B : Nat} {A : Option Addr} {t : Int} (h : ES w b A n c W t) (hB : w.heap.size ≤ B) (ht : Tame B W W') : ES w b A n c W' t :=
 ⟨ht.boxed h.x, ht.boxed h.st, ht.boxed h.at_, ht.below h.below (Nat.le_refl _) hB⟩
theorem ES.size {w W : World} {b n c : Nat} {A : Option Addr} {t : Int} (h : ES w b A n c W t) : w.heap.size + 1 + 1 < W.heap.size := h.at_.lt
theorem ES.grow {w W W' : World} {b n c p : Nat} {A : Option Addr} {t : Int} (h : ES w b A n c W t) (hg : W.grownBy W' (some p)) (hp : w.heap.size + 1 + 1 < p) : ES w b A n c W' t :=
 ⟨h.x.kept hg (fun e => by injection e with e; omega), h.st.kept hg (fun e => by injection e with e; omega), h.at_.kept hg (fun e => by injection e with e; omega), below_put hg h.below (Nat.le_refl _) (by omega)⟩
theorem ES.set {w W : World} {b n c : Nat} {A : Option Addr} {t : Int} (h : ES w b A n c W t) (t' : Int) : ES w b A n c (W.setCell ⟨w.heap.size + 1 + 1, 0, none⟩ (.int .i64 t')) t' :=
 ⟨h.x.kept (grownBy_setCell' W (w.heap.size + 1 + 1) (.int .i64 t')) (fun e => by injection e with e; omega), h.st.kept (grownBy_setCell' W (w.heap.size + 1 + 1) (.int .i64 t')) (fun e => by injection e with e; omega), h.at_.set _, below_put (grownBy_setCell' W (w.heap.size + 1 + 1) (.int .i64 t')) h.below (Nat.le_refl _) (by omega)⟩
set_option maxRecDepth 100000 in
set_option maxHeartbeats 4000000 in
theorem earliest_calls (b : Nat) (G : GD) (pl i : Nat) (L : List Nat) (A1 : Option Addr) (c1 : Nat) (A2 : Option Addr) (c2 : Nat) (room : List Int) (wk : Int) (F : Nat) (w : World) (hT : Tab w) (hg : IsG w b G) (ok : GOk G) (htk : ∀ t ∈ G.tasks, taskOk t) (hpool : ∀ t ∈ G.tasks, 0 ≤ t.f2 ∧ t.f2 ≤ 2) (hi : i < G.tasks.length) (hL : L.length = G.tasks.length) (hLb : leB 200 L) (hC1 : Kd.C (Kd.int .i64) w A1 (up L).length (up L)) (h3 : room.length = 3) (hC2 : Kd.C (Kd.int .i64) w A2 room.length room) (hc2 : room.length ≤ c2) (hpl : pl < 2 ^ G.tasks.length) (hF : F ≤ 300) (hfree : freeN G.tasks L pl i room wk (tmN G.tasks i) (needEnd G.tasks L (G.needs.getD i 0) + F) = true) :
  Calls Tryd.prog 67 #[.pointer (some ⟨b, 0, none⟩), .slice A1 L.length c1, .int .u16 (pl : Int), .int .i64 (i : Int), .slice A2 room.length c2, .int .i64 wk] w fun e w' => e = .returned (.int .i64 (earlD G.tasks L (G.needs.getD i 0) pl i room wk : Int)) ∧ Below w.heap.size w w' := by
 have h8 := ok.n8
 have h256 := pow8 h8
 have hNi : G.needs.getD i 0 < 2 ^ G.tasks.length := getD_lt ok.nb i
 have htm20 := tm20_of htk
 have hres : earlD G.tasks L (G.needs.getD i 0) pl i room wk = earlN G.tasks L pl i room wk 400 ((elemsN (G.needs.getD i 0)).foldl (eStep G.tasks L) 0) := rfl
 have hfree' : freeN G.tasks L pl i room wk (tmN G.tasks i) ((elemsN (G.needs.getD i 0)).foldl (eStep G.tasks L) 0 + F) = true := hfree
 clear hfree
 generalize earlD G.tasks L (G.needs.getD i 0) pl i room wk = RES at hres ⊢
 generalize hs_ : G.needs.getD i 0 = s at hNi hres hfree'
 obtain ⟨xi, hxi⟩ : ∃ x : Int, x = (i : Int) := ⟨_, rfl⟩
 rw [← hxi]
 have hs8 : s < 256 := Nat.lt_of_lt_of_le hNi h256
 obtain ⟨An, cn, hcn0, hcl0, hCn0⟩ := hg.needs
 have p0 : 0 ≤ xi := by omega
 have q0 : xi < (G.needs.length : Int) := by have := ok.nl; omega
 obtain ⟨adn, e0, hxn0⟩ := Kd.at_int hCn0 xi p0 q0
 subst e0
 rw [rd_up (i := i) hxi, hs_] at hxn0
 obtain ⟨W3, hW3⟩ : ∃ W3, W3 = ((w.alloc (.cells #[.pointer (some ⟨b, 0, none⟩)] 60)).alloc (.cells #[.slice A1 L.length c1] 23)).alloc (.cells #[.int .i64 0] 3) := ⟨_, rfl⟩
 have HE : ES w b A1 L.length c1 W3 0 := by
  have o1 : (w.alloc (.cells #[.pointer (some ⟨b, 0, none⟩)] 60)).heap.size = w.heap.size + 1 := by simp
  have o2 : ((w.alloc (.cells #[.pointer (some ⟨b, 0, none⟩)] 60)).alloc (.cells #[.slice A1 L.length c1] 23)).heap.size = w.heap.size + 1 + 1 := by simp
  have B1 := (Below.refl w.heap.size w).alloc (Nat.le_refl _) (.cells #[.pointer (some ⟨b, 0, none⟩)] 60)
  have x1 := Boxed.new w 60 (.pointer (some ⟨b, 0, none⟩))
  have s1 := Boxed.new (w.alloc (.cells #[.pointer (some ⟨b, 0, none⟩)] 60)) 23 (.slice A1 L.length c1)
  rw [o1] at s1
  have a1 := Boxed.new ((w.alloc (.cells #[.pointer (some ⟨b, 0, none⟩)] 60)).alloc (.cells #[.slice A1 L.length c1] 23)) 3 (.int .i64 0)
  rw [o2] at a1
  rw [hW3]
  exact ⟨(x1.alloc _).alloc _, s1.alloc _, a1, (B1.alloc (by omega) _).alloc (by omega) _⟩
 have o3 : W3.heap.size = w.heap.size + 1 + 1 + 1 := by rw [hW3]; simp
 have hcx := HE.x.cell
 have hcn := (HE.below.cell (World.block_lt_of_cell? _ _ hcn0)).trans hcn0
 have hxn := (HE.below.cell (World.block_lt_of_cell? _ _ hxn0)).trans hxn0
 rw [hW3] at hcx hcn hxn
 have hC1w := hC1
 have HG := m0 hg
 have HT := m0 hT
 have OK := m0 ok
 have HTK := m0 htk
 have HPO := m0 hpool
 have HC1 := m0 hC1
 have HC2 := m0 hC2
 have HLB := m0 hLb
 have HEE := m0 HE
 have HW := m0 hW3
 have HX := m0 hxi
 have O3 := m0 o3
 have HRES := m0 hres
 have HFR := m0 hfree'
 have HS := m0 hs_
 have HLL := m0 hL
 have H3 := m0 h3
 replace p0 := eq_true p0
 replace q0 := eq_true q0
 clear o3 hL h3 hg hT ok htk hpool hC1 hC2 hLb HE hW3 hxi hres hfree' hs_ hC1w hcn0 hxn0 hcl0 hCn0
 refine calls_marks Tryd.func67 rfl ?_
 simp only [Tryd.ntmps67, List.size_toArray, List.length_cons, List.length_nil, Nat.reduceAdd, Nat.reduceSub, Array.replicate_succ, Array.replicate_zero, List.push_toArray, List.append_toArray, List.nil_append, List.cons_append]
 go_wp2_with (go_at_call 66; refine (all_calls s _).mono ?_; rintro e w' ⟨rfl, rfl⟩)
 rw [← HW.out]
 clear hcx hcn hxn p0 q0
 have s4 := Boxed.new W3 77 (.int .u16 (s : Int))
 rw [O3.out] at s4
 have E4 := HEE.out.alloc (.cells #[.int .u16 (s : Int)] 77)
 have o4 : (W3.alloc (.cells #[.int .u16 (s : Int)] 77)).heap.size = W3.heap.size + 1 := by simp
 clear HW
 revert s4 E4 o4
 generalize W3.alloc (.cells #[.int .u16 (s : Int)] 77) = W4
 intro s4 E4 o4
 have hle4 : w.heap.size ≤ W4.heap.size := E4.below.size
 refine wp_rangeSet Tab.tame (w := W4) (w0 := W4) (p := 27) (d := 14) rfl (enters_of Tryd.func77 (by kernel_rfl) rfl)
  (all_seq (w.heap.size + 1 + 1 + 1) s hs8 W4 (HT.out.of E4.below) s4.cell) (Below.refl _ _) (by simp)
  (fun ys W' => ∃ zs : List Nat, (∀ z ∈ zs, z < G.tasks.length) ∧ ys = up zs ∧ ES w b A1 L.length c1 W' ((zs.foldl (eStep G.tasks L) 0 : Nat) : Int) ∧ W4.heap.size ≤ W'.heap.size) (fun _ _ _ => False)
  (ownFrom_tame (fun ys W' W'' ht ⟨zs, z, a, e, f⟩ => ⟨zs, z, a, e.tame hle4 ht, Nat.le_trans f ht.size⟩)) (fun _ => ownFrom_tame (fun _ _ _ _ h => h))
  ⟨[], by simp, rfl, E4, Nat.le_refl _⟩ (fun ys W' ⟨_, _, _, e, _⟩ => HT.out.of e.below) ?body ?done (fun _ _ _ _ _ h _ => h.elim)
 case body =>
  rintro l pre1 x W1 hx ⟨zs, hzl, rfl, E1, hsz⟩ hlt1
  gi_wp2
  obtain ⟨k0, hxk, hk8, _⟩ := mem_elems.1 hx
  have hkn : k0 < G.tasks.length := by have := elems_lt hNi hx; omega
  have hle := efold_le htm20 HLB.out zs 0 (by omega)
  have hsl := HLB.out k0
  have htm := tm_int HTK.out hkn
  have hstep : (zs ++ [k0]).foldl (eStep G.tasks L) 0 = max (zs.foldl (eStep G.tasks L) 0) (L.getD k0 0 + tmN G.tasks k0) := by rw [List.foldl_append]; rfl
  refine wpIn_still_tail 15 rfl (by kernel_rfl) (by kernel_rfl) (fun ⟨_, _, h⟩ => h) ?_
  change wpStill _ _ W1.drew (fun a' => wpList _ _ _ _ a' W1.drew) _ _
  have hdr : Below W1.heap.size W1 W1.drew := below_drew (Below.refl _ _)
  have hko := KeepsOthers.drew W1
  revert hdr hko
  generalize W1.drew = Wd
  intro hdr hko
  have E2 := E1.move hdr
  have hca := E2.at_.cell
  have hfa := E2.at_.frozen
  have hcs := E2.st.cell
  have hcx := E2.x.cell
  obtain ⟨A, c, hc0, hcl, hC⟩ := (HG.out.move E2.below).tasks
  have p0 : 0 ≤ x := by omega
  have q0 : x < (G.tasks.length : Int) := by omega
  obtain ⟨ad, At, ct, e0, h0, h1, h2, h3_, h4, h5⟩ := at_T39 hC x p0 q0
  subst e0
  have hrd : rd_T39 G.tasks x = G.tasks.getD k0 z39 := by rw [hxk]; simp [rd_T39]
  rw [hrd, htm.1] at h0
  have q1 : x < (L.length : Int) := by have := HLL.out; omega
  obtain ⟨ads, e1, hxs⟩ := Kd.at_int (Kd.C_below HC1.out E2.below) x p0 (by rw [up_length]; omega)
  subst e1
  rw [rd_up (i := k0) hxk] at hxs
  have hmx : (if ((zs.foldl (eStep G.tasks L) 0 : Nat) : Int) < IntKind.i64.wrap (((L.getD k0 0 : Nat) : Int) + ((tmN G.tasks k0 : Nat) : Int)) then IntKind.i64.wrap (((L.getD k0 0 : Nat) : Int) + ((tmN G.tasks k0 : Nat) : Int)) else ((zs.foldl (eStep G.tasks L) 0 : Nat) : Int)) = (((zs ++ [k0]).foldl (eStep G.tasks L) 0 : Nat) : Int) := by
   rw [hstep, (wadd (a := L.getD k0 0) (b := tmN G.tasks k0) (by omega) (by omega)).2]
   exact wmax _ _
  generalize hr_ : (zs ++ [k0]).foldl (eStep G.tasks L) 0 = r at hmx hstep
  generalize hrI : ((r : Nat) : Int) = rI at hmx
  generalize ((zs.foldl (eStep G.tasks L) 0 : Nat) : Int) = aI at hca hmx
  generalize ((L.getD k0 0 : Nat) : Int) = sI at hxs hmx
  generalize ((tmN G.tasks k0 : Nat) : Int) = tI at h0 hmx
  replace p0 := eq_true p0
  replace q0 := eq_true q0
  replace q1 := eq_true q1
  have HMX := m0 hmx
  have HXK := m0 (show x = (k0 : Int) ∧ ((r : Nat) : Int) = rI ∧ (zs ++ [k0]).foldl (eStep G.tasks L) 0 = r ∧ k0 < G.tasks.length from ⟨hxk, hrI, hr_, hkn⟩)
  have HST := m0 hstep
  clear hmx hxk hrI hr_ hstep hle hsl htm hx hkn h1 h2 h3_ h4 h5 hC hcl hrd hlt1
  simp only [List.take_succ_cons, List.take_zero, List.drop_succ_cons, List.drop_zero]
  repeat still_step
  rw [HMX.out]
  refine wpStill_nil ?_
  go_wp2
  obtain ⟨hxk, hrI, hr_, hkn⟩ := HXK.out
  refine ⟨(hko.trans (KeepsOthers.setCell _ _ _)).from _, zs ++ [k0], ?_, ?_, ?_, ?_⟩
  ·intro z hz
   rcases List.mem_append.1 hz with hz | hz
   ·exact hzl z hz
   ·rw [List.mem_singleton.1 hz]; exact hkn
  ·rw [hxk]; simp [up]
  ·rw [hr_, hrI]; exact E2.set rI
  ·exact Nat.le_trans hsz (Nat.le_trans hdr.size (KeepsOthers.setCell _ _ _).size)
 case done =>
  rintro D W2 hD ⟨zs, hzl, hzs, E5, hsz⟩ hk
  obtain rfl : elemsN s = zs := up_inj hzs
  have hm := (Marks.nil w.heap.size W4.heap.size W2).cons hD hle4 hk
  have ha0 := efold_le htm20 HLB.out (elemsN s) 0 (by omega)
  clear hzs hk hzl
  generalize (elemsN s).foldl (eStep G.tasks L) 0 = a0 at E5 HRES HFR ha0
  have ht1 := tm_int HTK.out hi
  generalize htT : tmN G.tasks i = T at HFR ht1
  have HTT := m0 htT
  have HT1 := m0 ht1
  clear htT ht1 s4 E4 o4 hD
  go_wp2
  refine wp_loop_ghost_k (fun n a W => ∃ (t f : Nat) (v15 v16 : Value), n ≤ f ∧ t + n ≤ 520 ∧ RES = earlN G.tasks L pl i room wk f t ∧ freeN G.tasks L pl i room wk T (t + n) = true ∧ a.tmps.size = 110 ∧ a.tmps[2]? = some (.int .u16 (pl : Int)) ∧ a.tmps[3]? = some (.int .i64 xi) ∧ a.tmps[4]? = some (.slice A2 room.length c2) ∧ a.tmps[5]? = some (.int .i64 wk) ∧ a.tmps[6]? = some (.pointer (some ⟨w.heap.size, 0, none⟩)) ∧ a.tmps[7]? = some (.pointer (some ⟨w.heap.size + 1, 0, none⟩)) ∧ a.tmps[13]? = some (.pointer (some ⟨w.heap.size + 1 + 1, 0, none⟩)) ∧ a.tmps[15]? = some v15 ∧ a.tmps[16]? = some v16 ∧ (∃ hi, Marks w.heap.size hi W a.defers ∧ w.heap.size ≤ hi ∧ hi ≤ W.heap.size) ∧ ES w b A1 L.length c1 W (t : Int)) F
   ⟨a0, 400, _, _, by omega, by omega, HRES.out, HFR.out, rfl, rfl, rfl, rfl, rfl, rfl, rfl, rfl, rfl, rfl, ⟨_, hm, E5.below.size, Nat.le_refl _⟩, E5⟩ ?_
  clear hm E5 hsz HRES HFR ha0
  rintro n ⟨tmps, ds⟩ W ⟨t, f, v15, v16, hnf, htn, hR, hfr, hsz, h2, h3, h4, h5, h6, h7, h13, h15, h16, ⟨hi1, hM, hlo, hhi⟩, hE⟩ J K hJ hK
  obtain ⟨fr, rfl⟩ := eframe_lit hsz h2 h3 h4 h5 h6 h7 h13 h15 h16
  clear hsz h2 h3 h4 h5 h6 h7 h13 h15 h16
  unfold eframe
  generalize hti : ((t : Nat) : Int) = tI at hE
  have hca := hE.at_.cell
  have HE := m0 hE
  have HM := m0 hM
  have HTI := m0 hti
  have HR := m0 hR
  have HFR := m0 hfr
  clear hE hM hti hR hfr
  go_wp2
  have nb := Boxed.new W 3 (.int .i64 tI)
  have EA := HE.out.alloc (.cells #[.int .i64 tI] 3)
  have MA := HM.out.below ((Below.refl W.heap.size W).alloc (Nat.le_refl _) (.cells #[.int .i64 tI] 3))
  have oA : (W.alloc (.cells #[.int .i64 tI] 3)).heap.size = W.heap.size + 1 := by simp
  have hWs := HE.out.size
  clear hca
  revert nb EA MA oA
  generalize W.alloc (.cells #[.int .i64 tI] 3) = Wa
  intro nb EA MA oA
  rw [← HTI.out] at nb
  refine wp_loop_ghost_k (fun d a W' => ∃ (now pn : Nat) (go : Bool), (go = true → now + d = t + T ∧ freeN G.tasks L pl i room wk T t = freeN G.tasks L pl i room wk d now) ∧ (go = false → freeN G.tasks L pl i room wk T t = false) ∧ now ≤ 560 ∧ w.heap.size + 1 + 1 < pn ∧ Boxed W' pn 3 (.int .i64 (now : Int)) ∧ a.tmps.size = 110 ∧ a.tmps[2]? = some (.int .u16 (pl : Int)) ∧ a.tmps[3]? = some (.int .i64 xi) ∧ a.tmps[4]? = some (.slice A2 room.length c2) ∧ a.tmps[5]? = some (.int .i64 wk) ∧ a.tmps[6]? = some (.pointer (some ⟨w.heap.size, 0, none⟩)) ∧ a.tmps[7]? = some (.pointer (some ⟨w.heap.size + 1, 0, none⟩)) ∧ a.tmps[13]? = some (.pointer (some ⟨w.heap.size + 1 + 1, 0, none⟩)) ∧ a.tmps[15]? = some (.bool go) ∧ a.tmps[16]? = some (.pointer (some ⟨pn, 0, none⟩)) ∧ (∃ hi, Marks w.heap.size hi W' a.defers ∧ w.heap.size ≤ hi ∧ hi ≤ W'.heap.size) ∧ ES w b A1 L.length c1 W' tI) T
   ⟨t, W.heap.size, true, (fun _ => ⟨rfl, rfl⟩), (fun e => by cases e), by omega, hWs, nb, rfl, rfl, rfl, rfl, rfl, rfl, rfl, rfl, rfl, rfl, ⟨hi1, MA, hlo, by omega⟩, EA⟩ ?_
  clear nb EA MA oA HM HE hWs hhi hlo
  rintro d ⟨tmps, ds⟩ W' ⟨now, pn, go, hgo, hng, hnow, hpn, hnb, hsz, h2, h3, h4, h5, h6, h7, h13, h15, h16, ⟨hi2, hM, hlo, hhi⟩, hE⟩ J2 K2 hJ2 hK2
  obtain ⟨fr2, rfl⟩ := eframe_lit hsz h2 h3 h4 h5 h6 h7 h13 h15 h16
  clear hsz h2 h3 h4 h5 h6 h7 h13 h15 h16
  unfold eframe
  have HE := m0 hE
  have HM := m0 hM
  have HNB := m0 hnb
  have HGO := m0 hgo
  have HNG := m0 hng
  clear hE hM hnb hgo hng
  go_wp2
  refine wp_region_still_tail 14 rfl (by kernel_rfl) ?_
  change wpStill _ _ W'.drew (fun a' => wpList _ _ _ _ a' W'.drew) _ _
  have hdr : Below W'.heap.size W' W'.drew := below_drew (Below.refl _ _)
  revert hdr
  generalize W'.drew = Wd
  intro hdr
  have E2 := m0 (HE.out.move hdr)
  have M2 := m0 (HM.out.below hdr)
  have N2 := m0 (show Boxed Wd pn 3 (.int .i64 (now : Int)) from (hdr.block _ HNB.out.lt).trans HNB.out)
  clear HE HM HNB
  by_cases hgo2 : go = false
  ·have hgf : (some go == some true) = false := by rw [hgo2]; rfl
   have HG2 := m0 hgo2
   have HF1 := m0 (HNG.out hgo2)
   clear hgo2 HNG HGO
   simp only [List.take_succ_cons, List.take_zero, List.drop_succ_cons, List.drop_zero]
   still_step
   still_step
   repeat (refine wpStill_skip hgf ?_; simp only [Act.put, sIA, sC0, sCS])
   refine wpStill_nil ?_
   obtain rfl := HG2.out
   have hca := E2.out.at_.cell
   have hfa := E2.out.at_.frozen
   go_wp2
   have hf1 := HF1.out
   have hfr := HFR.out
   have hRr := HR.out
   cases n with
   | zero => rw [Nat.add_zero, hf1] at hfr; cases hfr
   | succ m =>
    obtain ⟨f', rfl⟩ : ∃ f', f = f' + 1 := ⟨f - 1, by omega⟩
    have hstep : RES = earlN G.tasks L pl i room wk f' (t + 1) := by
     rw [hRr]
     show (if freeN G.tasks L pl i room wk (tmN G.tasks i) t = true then t else earlN G.tasks L pl i room wk f' (t + 1)) = _
     rw [HTT.out, hf1, if_neg Bool.false_ne_true]
    have hw : wrap64 (tI + 1) = ((t + 1 : Nat) : Int) := by rw [← HTI.out, w64 (by omega) (by omega)]; omega
    rw [hw]
    have hgr := grownBy_setCell' Wd (w.heap.size + 1 + 1) (.int .i64 ((t + 1 : Nat) : Int))
    refine ⟨m, by omega, hJ _ _ _ ⟨t + 1, f', _, _, by omega, by omega, hstep, by rw [show t + 1 + m = t + (m + 1) by omega]; exact hfr, rfl, rfl, rfl, rfl, rfl, rfl, rfl, rfl, rfl, rfl, ⟨hi2, M2.out.grow hgr (fun k hk => ⟨_, _, by cases hk; exact E2.out.at_⟩), hlo, ?_⟩, E2.out.set _⟩⟩
    exact Nat.le_trans hhi (Nat.le_trans hdr.size hgr.size)
  ·have hgt : go = true := by
    cases go
    ·exact absurd rfl hgo2
    ·rfl
   have hgw : (some go == some true) = true := by rw [hgt]; rfl
   obtain ⟨hnd, hfq⟩ := HGO.out hgt
   have HG2 := m0 hgt
   have hcn := N2.out.cell
   have hca := E2.out.at_.cell
   have hcx := E2.out.x.cell
   obtain ⟨A, c, hc0, hcl, hC⟩ := (HG.out.move E2.out.below).tasks
   have hxi := HX.out
   have p0 : 0 ≤ xi := by omega
   have q0 : xi < (G.tasks.length : Int) := by omega
   obtain ⟨ad, At, ct, e0, h0, h1, h2, h3_, h4, h5⟩ := at_T39 hC xi p0 q0
   subst e0
   have hrd : rd_T39 G.tasks xi = G.tasks.getD i z39 := by rw [hxi]; simp [rd_T39]
   rw [hrd, HT1.out.1] at h0
   have hadd := (wadd (a := t) (b := T) (by omega) (by have := HT1.out.2.2; omega)).2
   rw [HTI.out] at hadd
   have hdd : decide (((now : Nat) : Int) < ((t + T : Nat) : Int)) = decide (d ≠ 0) := by rw [Bool.eq_iff_iff, decide_eq_true_eq, decide_eq_true_eq]; omega
   generalize ((T : Nat) : Int) = TI at h0 hadd
   generalize ((t + T : Nat) : Int) = sI at hadd hdd
   generalize hnI : ((now : Nat) : Int) = nI at hcn hdd
   obtain ⟨bd, hbd⟩ : ∃ bd, decide (d ≠ 0) = bd := ⟨_, rfl⟩
   rw [hbd] at hdd
   have HBD := m0 hbd
   have HNI := m0 hnI
   have HND := m0 hnd
   have HFQ := m0 hfq
   replace p0 := eq_true p0
   replace q0 := eq_true q0
   clear hgo2 hgt hxi hC hcl hrd h1 h2 h3_ h4 h5 hbd hnI hnd hfq
   simp only [List.take_succ_cons, List.take_zero, List.drop_succ_cons, List.drop_zero]
   still_step
   still_step
   repeat (refine wpStill_want hgw (fun K hK => ?_); go_simp; refine hK _ ?_; clear hK K)
   refine wpStill_nil ?_
   obtain rfl := HG2.out
   clear hgw
   cases bd with
   | false =>
    have hd0 : d = 0 := by have := of_decide_eq_false HBD.out; omega
    go_wp2
    refine leave_ret M2.out (fun W => results_tmp rfl _ _ _) ?_
    intro W'' ht
    refine ⟨?_, ht.below E2.out.below (Nat.le_refl _) (Nat.le_refl _)⟩
    have hfq := HFQ.out
    rw [hd0] at hfq
    have hft : freeN G.tasks L pl i room wk T t = true := hfq
    have hRr := HR.out
    have : RES = t := by
     rw [hRr]
     cases f with
     | zero => rfl
     | succ f =>
      show (if freeN G.tasks L pl i room wk (tmN G.tasks i) t = true then t else earlN G.tasks L pl i room wk f (t + 1)) = _
      rw [HTT.out, hft, if_pos rfl]
    rw [this, HTI.out]
    rfl
   | true =>
    obtain ⟨d', rfl⟩ : ∃ d', d = d' + 1 := ⟨d - 1, by have := of_decide_eq_true HBD.out; omega⟩
    clear HBD HGO HNG
    go_wp2_with (go_at_call 66; refine (all_calls pl _).mono ?_; rintro e w' ⟨rfl, rfl⟩)
    clear hcn hca hcx hc0 h0 hadd hdd p0 q0
    have hpnl := N2.out.lt
    have EB := E2.out.alloc (.cells #[.int .i64 0, .int .i64 0, .int .i64 0, .int .i64 0] 105)
    have MB := M2.out.below ((Below.refl Wd.heap.size Wd).alloc (Nat.le_refl _) (.cells #[.int .i64 0, .int .i64 0, .int .i64 0, .int .i64 0] 105))
    have NB := N2.out.alloc (.cells #[.int .i64 0, .int .i64 0, .int .i64 0, .int .i64 0] 105)
    have CB : IsCn (Wd.alloc (.cells #[.int .i64 0, .int .i64 0, .int .i64 0, .int .i64 0] 105)) Wd.heap.size Cn.zero := cells_new Wd _
    have oB : (Wd.alloc (.cells #[.int .i64 0, .int .i64 0, .int .i64 0, .int .i64 0] 105)).heap.size = Wd.heap.size + 1 := by simp
    have hhd := hdr.size
    clear E2 M2 N2
    revert EB MB NB CB oB
    generalize Wd.alloc (.cells #[.int .i64 0, .int .i64 0, .int .i64 0, .int .i64 0] 105) = WB
    intro EB MB NB CB oB
    have sC := Boxed.new WB 77 (.int .u16 (pl : Int))
    rw [oB] at sC
    have EC := EB.alloc (.cells #[.int .u16 (pl : Int)] 77)
    have MC := MB.below ((Below.refl WB.heap.size WB).alloc (Nat.le_refl _) (.cells #[.int .u16 (pl : Int)] 77))
    have NC := NB.alloc (.cells #[.int .u16 (pl : Int)] 77)
    have CC : IsCn (WB.alloc (.cells #[.int .u16 (pl : Int)] 77)) Wd.heap.size Cn.zero := cells_alloc CB _
    have oC : (WB.alloc (.cells #[.int .u16 (pl : Int)] 77)).heap.size = Wd.heap.size + 1 + 1 := by simp [oB]
    clear EB MB NB CB oB
    revert sC EC MC NC CC oC
    generalize WB.alloc (.cells #[.int .u16 (pl : Int)] 77) = WC
    intro sC EC MC NC CC oC
    obtain ⟨pc, hpc⟩ : ∃ pc, pc = Wd.heap.size := ⟨_, rfl⟩
    rw [← hpc] at sC CC oC ⊢
    have hpcn : pn < pc ∧ w.heap.size + 1 + 1 < pc := ⟨by omega, by have := EC.size; omega⟩
    have hb1 : w.heap.size ≤ WC.heap.size := EC.below.size
    have hb2 : hi2 ≤ WC.heap.size := by omega
    have hb3 : hi2 ≤ pc := by omega
    have HPC := m0 hpc
    clear hpc
    refine wp_rangeSet Tab.tame (w := WC) (w0 := WC) (p := 65) (d := 18) rfl (enters_of Tryd.func77 (by kernel_rfl) rfl)
     (all_seq (pc + 1) pl (Nat.lt_of_lt_of_le hpl h256) WC (HT.out.of EC.below) sC.cell) (Below.refl _ _) (by simp)
     (fun ys W'' => ∃ zs : List Nat, ys = up zs ∧ IsCn W'' pc (zs.foldl (cntStep G.tasks L now) Cn.zero) ∧ Boxed W'' pn 3 (.int .i64 (now : Int)) ∧ Marks w.heap.size hi2 W'' ds ∧ ES w b A1 L.length c1 W'' tI ∧ WC.heap.size ≤ W''.heap.size) (fun _ _ _ => False)
     (ownFrom_tame (fun ys W1 W2 ht ⟨zs, z, a, e, m, g, f⟩ => ⟨zs, z, a.tame ht, ht.boxed e, m.tame ht hb2, g.tame hb1 ht, Nat.le_trans f ht.size⟩)) (fun _ => ownFrom_tame (fun _ _ _ _ h => h))
     ⟨[], rfl, CC, NC, MC, EC, Nat.le_refl _⟩ (fun ys W'' ⟨_, _, _, _, _, e, _⟩ => HT.out.of e.below) ?body2 ?done2 (fun _ _ _ _ _ h _ => h.elim)
    case body2 =>
     rintro l pre1 x W1 hx ⟨zs, rfl, C1, N1, M1, E1, hsz1⟩ hlt1
     gi_wp2
     obtain ⟨k0, hxk, hk8, _⟩ := mem_elems.1 hx
     have hkn : k0 < G.tasks.length := by have := elems_lt hpl hx; omega
     have hstep : (zs ++ [k0]).foldl (cntStep G.tasks L now) Cn.zero = cntStep G.tasks L now (zs.foldl (cntStep G.tasks L now) Cn.zero) k0 := by rw [List.foldl_append]; rfl
     generalize zs.foldl (cntStep G.tasks L now) Cn.zero = cc at C1 hstep
     refine wpIn_still_tail 22 rfl (by kernel_rfl) (by kernel_rfl) (fun ⟨_, _, h⟩ => h) ?_
     change wpStill _ _ W1.drew (fun a' => wpList _ _ _ _ a' W1.drew) _ _
     have hdr2 : Below W1.heap.size W1 W1.drew := below_drew (Below.refl _ _)
     have hko := KeepsOthers.drew W1
     revert hdr2 hko
     generalize W1.drew = W3_
     intro hdr2 hko
     have E3 := E1.move hdr2
     have N3 : Boxed W3_ pn 3 (.int .i64 (now : Int)) := (hdr2.block _ N1.lt).trans N1
     have C3 := C1.move hdr2
     have M3 := M1.below hdr2
     have hsz3 := Nat.le_trans hsz1 hdr2.size
     have hcs := E3.st.cell
     have hcx := E3.x.cell
     have hcn := N3.cell
     obtain ⟨A, c, hc0, hcl, hC⟩ := (HG.out.move E3.below).tasks
     have p0 : 0 ≤ x := by omega
     have q0 : x < (G.tasks.length : Int) := by omega
     obtain ⟨ad, At, ct, e0, h0, h1, h2, h3_, h4, h5⟩ := at_T39 hC x p0 q0
     subst e0
     have hrd : rd_T39 G.tasks x = G.tasks.getD k0 z39 := by rw [hxk]; simp [rd_T39]
     rw [hrd] at h0 h1 h2 h3_ h4 h5
     have htm := tm_int HTK.out hkn
     have hpo := HPO.out _ (show G.tasks.getD k0 z39 ∈ G.tasks by rw [List.getD_eq_getElem?_getD, List.getElem?_eq_getElem hkn]; exact List.getElem_mem hkn)
     have q1 : x < (L.length : Int) := by have := HLL.out; omega
     obtain ⟨ads, e1, hxs⟩ := Kd.at_int (Kd.C_below HC1.out E3.below) x p0 (by rw [up_length]; omega)
     subst e1
     rw [rd_up (i := k0) hxk] at hxs
     have hsl := HLB.out k0
     have hadd := (wadd (a := L.getD k0 0) (b := tmN G.tasks k0) (by omega) (by omega)).2
     have hcs0 : cstep G.tasks cc k0 = cc.add (G.tasks.getD k0 z39).f2 (G.tasks.getD k0 z39).f3 1 := rfl
     have hrun : runsAt G.tasks L now k0 = (decide (((L.getD k0 0 : Nat) : Int) ≤ ((now : Nat) : Int)) && decide (((now : Nat) : Int) < ((L.getD k0 0 + tmN G.tasks k0 : Nat) : Int))) := by
      unfold runsAt endN
      congr 1
      ·rw [Bool.eq_iff_iff, decide_eq_true_eq, decide_eq_true_eq]; omega
      ·rw [Bool.eq_iff_iff, decide_eq_true_eq, decide_eq_true_eq]; omega
     have hf0 := htm.1
     generalize G.tasks.getD k0 z39 = tk at h0 h1 h2 h3_ h4 h5 hpo hcs0 hf0
     rw [hf0] at h0
     generalize ((L.getD k0 0 + tmN G.tasks k0 : Nat) : Int) = eI at hadd hrun
     generalize ((L.getD k0 0 : Nat) : Int) = sI at hxs hadd hrun
     generalize ((tmN G.tasks k0 : Nat) : Int) = TI at h0 hadd hf0
     generalize hnI : ((now : Nat) : Int) = nI at hcn hrun
     obtain ⟨q, hq⟩ : ∃ q, decide (sI ≤ nI) = q := ⟨_, rfl⟩
     obtain ⟨b2, hb2_⟩ : ∃ b2, decide (nI < eI) = b2 := ⟨_, rfl⟩
     rw [hq, hb2_] at hrun
     have HXK := m0 hxk
     have HST := m0 hstep
     have HRUN := m0 hrun
     have HCS := m0 hcs0
     have HPP := m0 hpo
     have HF0 := m0 hf0
     have HE3 := m0 E3
     have HN3 := m0 N3
     have HC3 := m0 C3
     have HM3 := m0 M3
     have HKO := m0 hko
     replace p0 := eq_true p0
     replace q0 := eq_true q0
     replace q1 := eq_true q1
     clear hxk hx hkn hstep hrun hcs0 hpo hf0 E3 N3 C3 M3 hko E1 N1 C1 M1 hsl htm hrd hC hcl hlt1 hnI sC EC MC NC CC oC
     simp only [List.take_succ_cons, List.take_zero, List.drop_succ_cons, List.drop_zero]
     by_cases hq0 : q = false
     ·have hqf : (some q == some true) = false := by rw [hq0]; rfl
      have HQ := m0 hq0
      clear hq0
      iterate 7 still_step
      repeat (refine wpStill_skip hqf ?_; simp only [Act.put, sIA, sC0, sCS])
      refine wpStill_nil ?_
      obtain rfl := HQ.out
      clear hqf
      go_wp2
      gi_wp2
      refine ⟨HKO.out.from _, zs ++ [k0], ?_, ?_, HN3.out, HM3.out, HE3.out, hsz3⟩
      ·rw [HXK.out]; simp [up]
      ·rw [HST.out]
       unfold cntStep
       rw [HRUN.out, Bool.false_and, if_neg Bool.false_ne_true]
       exact HC3.out
     ·have hqt : q = true := by
       cases q
       ·exact absurd rfl hq0
       ·rfl
      have hqw : (some q == some true) = true := by rw [hqt]; rfl
      have HQ := m0 hqt
      clear hq0 hqt
      iterate 7 still_step
      repeat (refine wpStill_want hqw (fun K hK => ?_); go_simp; refine hK _ ?_; clear hK K)
      refine wpStill_nil ?_
      obtain rfl := HQ.out
      clear hqw
      cases b2 with
      | false =>
       go_wp2
       gi_wp2
       refine ⟨HKO.out.from _, zs ++ [k0], ?_, ?_, HN3.out, HM3.out, HE3.out, hsz3⟩
       ·rw [HXK.out]; simp [up]
       ·rw [HST.out]
        unfold cntStep
        rw [HRUN.out, Bool.and_false, if_neg Bool.false_ne_true]
        exact HC3.out
      | true =>
       go_wp2
       gi_wp2
       refine CallsIn.inRound _ (callsIn_wide.2 ?_)
       have hp012 : tk.f2 = 0 ∨ tk.f2 = 1 ∨ tk.f2 = 2 := by have := HPP.out; omega
       have hadd2 := add_calls pc cc tk.f0 tk.f2 tk.f3 1 At tk.f1.length ct W3_ HC3.out hp012
       rw [HF0.out] at hadd2
       refine hadd2.mono ?_
       rintro e w'' ⟨rfl, hgr, hcn'⟩
       clear hadd2
       gi_wp2
       refine ⟨(HKO.out.trans (KeepsOthers.of_grownBy hgr (fun j o e hj => by injection e with e; subst e; rw [show W3_.heap[pc]? = _ from HC3.out] at hj; cases hj; rfl))).from _, zs ++ [k0], ?_, ?_, ?_, ?_, ?_, ?_⟩
       ·rw [HXK.out]; simp [up]
       ·rw [HST.out]
        unfold cntStep
        rw [HRUN.out, Bool.and_self, if_pos rfl, HCS.out]
        exact hcn'
       ·exact HN3.out.kept hgr (fun e => by injection e with e; omega)
       ·exact HM3.out.grow hgr (fun k hk => ⟨_, _, by cases hk; exact HC3.out⟩)
       ·exact HE3.out.grow hgr hpcn.2
       ·exact Nat.le_trans hsz3 hgr.size
    case done2 =>
     rintro D2 W2 hD2 ⟨zs, hzs, C1, N1, M1, E1, hsz1⟩ hk2
     obtain rfl : elemsN pl = zs := up_inj hzs
     have M4 := M1.cons (Nat.le_trans hb2 hD2) hlo hk2
     clear hzs hk2 M1 sC EC MC NC CC oC
     have hcc : (elemsN pl).foldl (cntStep G.tasks L now) Cn.zero = cntOf G.tasks L pl now := rfl
     rw [hcc] at C1
     have hcx := E1.x.cell
     obtain ⟨A, c, hc0, hcl, hC⟩ := (HG.out.move E1.below).tasks
     have hxi := HX.out
     have p0 : 0 ≤ xi := by omega
     have q0 : xi < (G.tasks.length : Int) := by omega
     obtain ⟨ad, At, ct, e0, h0, h1, h2, h3_, h4, h5⟩ := at_T39 hC xi p0 q0
     subst e0
     have hrd : rd_T39 G.tasks xi = G.tasks.getD i z39 := by rw [hxi]; simp [rd_T39]
     rw [hrd] at h0 h1 h2 h3_ h4 h5
     have hpo := HPO.out _ (show G.tasks.getD i z39 ∈ G.tasks by rw [List.getD_eq_getElem?_getD, List.getElem?_eq_getElem hi]; exact List.getElem_mem hi)
     have hfb : freeB G.tasks L pl i room wk now = takesB (cntOf G.tasks L pl now) (G.tasks.getD i z39).f2 (G.tasks.getD i z39).f3 room wk := rfl
     generalize G.tasks.getD i z39 = tk at h0 h1 h2 h3_ h4 h5 hpo hfb
     generalize cntOf G.tasks L pl now = cc at C1 hfb
     have htakes := takes_calls pc cc tk.f0 tk.f2 tk.f3 At tk.f1.length ct A2 c2 room wk W2 C1 (by omega) H3.out (Kd.C_below HC2.out E1.below) hc2
     rw [← hfb] at htakes
     obtain ⟨fb, hfbe⟩ : ∃ fb, fb = freeB G.tasks L pl i room wk now := ⟨_, rfl⟩
     rw [← hfbe] at htakes hfb
     have HFBE := m0 hfbe
     clear hfbe
     have HTK2 := m0 htakes
     have HE4 := m0 E1
     have HN4 := m0 N1
     have HC4 := m0 C1
     have HM4 := m0 M4
     have HFB := m0 hfb
     replace p0 := eq_true p0
     replace q0 := eq_true q0
     clear htakes E1 N1 C1 M4 hfb hxi hcl hC hrd hpo hcc
     go_wp2_with (go_at_call 80; refine HTK2.out.mono ?_; rintro e w' ⟨rfl, hgr, hcn'⟩; clear hcx hc0 h0 h1 h2 h3_ h4 h5 p0 q0 hcn'; have HGR := m0 hgr; have hcn := (HN4.out.kept hgr (fun e => by injection e with e; omega)).cell; clear hgr)
     rw [show ((now : Nat) : Int) + 1 = ((now + 1 : Nat) : Int) by omega]
     have hgr := HGR.out
     have hs1 := hgr.size
     have E5 := (HE4.out.grow hgr hpcn.2).alloc (.cells #[.int .i64 ((now + 1 : Nat) : Int)] 3)
     have M5 := (HM4.out.grow hgr (fun k hk => ⟨_, _, by cases hk; exact HC4.out⟩)).below ((Below.refl w'.heap.size w').alloc (Nat.le_refl _) (.cells #[.int .i64 ((now + 1 : Nat) : Int)] 3))
     have N5 := Boxed.new w' 3 (.int .i64 ((now + 1 : Nat) : Int))
     have hz5 : (w'.alloc (.cells #[.int .i64 ((now + 1 : Nat) : Int)] 3)).heap.size = w'.heap.size + 1 := by simp
     have hz6 := (HE4.out.grow hgr hpcn.2).size
     have hnd := HND.out
     have hT20 := HT1.out.2.2
     have hfq : freeN G.tasks L pl i room wk T t = (freeB G.tasks L pl i room wk now && freeN G.tasks L pl i room wk d' (now + 1)) := HFQ.out
     have hfb2 : fb = freeB G.tasks L pl i room wk now := HFBE.out
     rw [← hfb2] at hfq
     refine ⟨d', by omega, hJ2 _ _ _ ⟨now + 1, w'.heap.size, fb, (fun e => ⟨by omega, by rw [hfq, e, Bool.true_and]⟩), (fun e => by rw [hfq, e, Bool.false_and]), by omega, by omega, N5, rfl, rfl, rfl, rfl, rfl, rfl, rfl, rfl, rfl, rfl, ⟨_, M5, by omega, by omega⟩, E5⟩⟩
end Go.Proofs.YtimbfcedigaffaaDoor.Core
end
section
namespace Go.Proofs.YtimbfcedigaffaaDoor.Core
open Go Go.RowKit Go.Shelf Go.Proofs.YtimbfcedigaffaaDoorW.PrintWords Go.Proofs.YtimbfcedigaffaaDoorW.PrintLast Go.Proofs.YtimbfcedigaffaaDoorW.PrintMore Go.Proofs.YtimbfcedigaffaaDoor.P
attribute [local go_sem] Oper.semAt_some wide_fn wide_depth
/-- The graph for valid pools and workers. -/
def placeD (g : List Tk) (room : List Int) (wk : Int) : Option GD := match graphD g with
 | none => none
 | some G => if roomOk room ∧ 1 ≤ wk ∧ wk ≤ 4 then some G else none
def fewD (g : List Tk) (room : List Int) (wk : Int) : Option GD := if (g.length : Int) > 5 then none else placeD g room wk
theorem placeD_some {g : List Tk} {room : List Int} {wk : Int} {G : GD} (h : placeD g room wk = some G) : graphD g = some G ∧ roomOk room ∧ 1 ≤ wk ∧ wk ≤ 4 := by
 unfold placeD at h
 cases hG : graphD g with
 | none => rw [hG] at h; cases h
 | some G' =>
  rw [hG] at h
  simp only [] at h
  by_cases hc : roomOk room ∧ 1 ≤ wk ∧ wk ≤ 4
  ·rw [if_pos hc] at h
   exact ⟨h, hc⟩
  ·rw [if_neg hc] at h; cases h
theorem fewD_some {g : List Tk} {room : List Int} {wk : Int} {G : GD} (h : fewD g room wk = some G) : g.length ≤ 5 ∧ placeD g room wk = some G := by
 unfold fewD at h
 by_cases hc : (g.length : Int) > 5
 ·rw [if_pos hc] at h; cases h
 ·rw [if_neg hc] at h; exact ⟨by omega, h⟩
set_option maxHeartbeats 1000000 in
theorem workersV_is (a : Int) (t : Bool) (w : World) (h : decide (1 ≤ a ∧ a ≤ 4) = t) :
  Calls Tryd.prog 75 #[.int .i64 a] w fun e w' => e = .returned (.bool t) ∧ Below w.heap.size w w' := by
 have HW := m0 (within_is a 1 4 t w h)
 clear h
 go_enter Tryd.func75, Tryd.ntmps75
 go_wp2_with (go_at_call 56; refine HW.out.mono ?_; rintro e w2 ⟨rfl, hB2⟩)
 go_ret
 exact ⟨rfl, hB2⟩
set_option maxRecDepth 100000 in
set_option maxHeartbeats 2000000 in
theorem placeIn_none (A0 : Option Addr) (c0 : Nat) (l0 : List Tk) (A1 : Option Addr) (c1 : Nat) (l1 : List Int) (wk : Int) (w : World) (hT : Tab w) (hr0 : k39.C w A0 l0.length l0) (hc0 : l0.length ≤ c0) (hr1 : (Kd.int .i64).C w A1 l1.length l1) (hc1 : l1.length ≤ c1) (h : placeD l0 l1 wk = none) :
  Calls Tryd.prog 63 #[.slice A0 l0.length c0, .slice A1 l1.length c1, .int .i64 wk] w fun e w' => e = .returned (.tuple #[.pointer none, .bool false]) ∧ Below w.heap.size w w' := by
 unfold placeD at h
 cases hG : graphD l0 with
 | none =>
  have HG := m0 (graphOf_none A0 c0 l0 w hT hr0 hc0 hG)
  clear hr0 hr1 hT hG h
  go_enter Tryd.func63, Tryd.ntmps63
  go_wp2_with (go_at_call 55; refine HG.out.mono ?_; rintro e w1 ⟨rfl, hB⟩; have HB := m0 hB; clear hB)
  refine bodyPost_ret (results_list (rs := [.tmp 6, .tmp 7]) rfl (by simp) (.tmp (.tmp .nil))) rfl ?_
  exact ⟨rfl, HB.out⟩
 | some G =>
  rw [hG] at h
  simp only [] at h
  have hn : ¬ (roomOk l1 ∧ 1 ≤ wk ∧ wk ≤ 4) := fun hc => by rw [if_pos hc] at h; cases h
  have HG := m0 (graphOf_some A0 c0 l0 G w hT hr0 hc0 hG)
  have HR1 := m0 hr1
  have HC1 := m0 hc1
  clear h hG hr0 hr1 hT hc0 hc1
  by_cases hroom : roomOk l1
  ·have HWK : Aside0 (decide (1 ≤ wk ∧ wk ≤ 4) = false) := ⟨decide_eq_false (fun h => hn ⟨hroom, h⟩)⟩
   have HRM := m0 (show decide (roomOk l1) = true from decide_eq_true hroom)
   clear hn hroom
   go_enter Tryd.func63, Tryd.ntmps63
   go_wp2_with (first
    | (go_at_call 55; refine HG.out.mono ?_; rintro e w1 ⟨b, rfl, hB, hgr⟩; have HB := m0 hB; clear hB hgr)
    | (go_at_call 74; refine (room_is A1 c1 l1 true _ (Kd.C_below HR1.out HB.out) HC1.out HRM.out).mono ?_; rintro e w2 ⟨rfl, hB2⟩; replace HB := m0 (below_step HB.out hB2); clear hB2)
    | (go_at_call 75; refine (workersV_is wk false _ HWK.out).mono ?_; rintro e w3 ⟨rfl, hB2⟩; replace HB := m0 (below_step HB.out hB2); clear hB2))
   refine bodyPost_ret (results_list (rs := [.tmp 6, .tmp 7]) rfl (by simp) (.tmp (.tmp .nil))) rfl ?_
   exact ⟨rfl, HB.out⟩
  ·have HRM := m0 (show decide (roomOk l1) = false from decide_eq_false hroom)
   clear hn hroom
   go_enter Tryd.func63, Tryd.ntmps63
   go_wp2_with (first
    | (go_at_call 55; refine HG.out.mono ?_; rintro e w1 ⟨b, rfl, hB, hgr⟩; have HB := m0 hB; clear hB hgr)
    | (go_at_call 74; refine (room_is A1 c1 l1 false _ (Kd.C_below HR1.out HB.out) HC1.out HRM.out).mono ?_; rintro e w2 ⟨rfl, hB2⟩; replace HB := m0 (below_step HB.out hB2); clear hB2))
   refine bodyPost_ret (results_list (rs := [.tmp 6, .tmp 7]) rfl (by simp) (.tmp (.tmp .nil))) rfl ?_
   exact ⟨rfl, HB.out⟩
set_option maxRecDepth 100000 in
set_option maxHeartbeats 2000000 in
theorem placeIn_some (A0 : Option Addr) (c0 : Nat) (l0 : List Tk) (A1 : Option Addr) (c1 : Nat) (l1 : List Int) (wk : Int) (G : GD) (w : World) (hT : Tab w) (hr0 : k39.C w A0 l0.length l0) (hc0 : l0.length ≤ c0) (hr1 : (Kd.int .i64).C w A1 l1.length l1) (hc1 : l1.length ≤ c1) (h : placeD l0 l1 wk = some G) :
  Calls Tryd.prog 63 #[.slice A0 l0.length c0, .slice A1 l1.length c1, .int .i64 wk] w fun e w' => ∃ b : Nat, e = .returned (.tuple #[.pointer (some ⟨b, 0, none⟩), .bool true]) ∧ Below w.heap.size w w' ∧ IsG w' b G := by
 obtain ⟨hG, hroom, hwk⟩ := placeD_some h
 have HG := m0 (graphOf_some A0 c0 l0 G w hT hr0 hc0 hG)
 have HR1 := m0 hr1
 have HC1 := m0 hc1
 have HWK : Aside0 (decide (1 ≤ wk ∧ wk ≤ 4) = true) := ⟨decide_eq_true hwk⟩
 have HRM := m0 (show decide (roomOk l1) = true from decide_eq_true hroom)
 clear h hG hr0 hr1 hT hc0 hc1 hroom hwk
 go_enter Tryd.func63, Tryd.ntmps63
 go_wp2_with (first
  | (go_at_call 55; refine HG.out.mono ?_; rintro e w1 ⟨b, rfl, hB, hgr⟩; have HB := m0 hB; have HI := m0 hgr; clear hB hgr)
  | (go_at_call 74; refine (room_is A1 c1 l1 true _ (Kd.C_below HR1.out HB.out) HC1.out HRM.out).mono ?_; rintro e w2 ⟨rfl, hB2⟩; replace HB := m0 (below_step HB.out hB2); replace HI := m0 (HI.out.move hB2); clear hB2)
  | (go_at_call 75; refine (workersV_is wk true _ HWK.out).mono ?_; rintro e w3 ⟨rfl, hB2⟩; replace HB := m0 (below_step HB.out hB2); replace HI := m0 (HI.out.move hB2); clear hB2))
 refine bodyPost_ret (results_list (rs := [.tmp 6, .tmp 7]) rfl (by simp) (.tmp (.tmp .nil))) rfl ?_
 exact ⟨b, rfl, HB.out, HI.out⟩
set_option maxRecDepth 100000 in
set_option maxHeartbeats 2000000 in
theorem fewIn_none (A0 : Option Addr) (c0 : Nat) (l0 : List Tk) (A1 : Option Addr) (c1 : Nat) (l1 : List Int) (wk : Int) (w : World) (hT : Tab w) (hr0 : k39.C w A0 l0.length l0) (hc0 : l0.length ≤ c0) (hr1 : (Kd.int .i64).C w A1 l1.length l1) (hc1 : l1.length ≤ c1) (h : fewD l0 l1 wk = none) :
  Calls Tryd.prog 45 #[.slice A0 l0.length c0, .slice A1 l1.length c1, .int .i64 wk] w fun e w' => e = .returned (.tuple #[.pointer none, .bool false]) ∧ Below w.heap.size w w' := by
 unfold fewD at h
 by_cases hc : (l0.length : Int) > 5
 ·have hd : decide (5 < (l0.length : Int)) = true := decide_eq_true hc
  have hd2 : decide (5 < l0.length) = true := decide_eq_true (by omega)
  have HB := m0 (Below.refl w.heap.size w)
  clear hr0 hr1 hT h hc
  go_enter Tryd.func45, Tryd.ntmps45
  go_wp2
  refine bodyPost_ret (results_list (rs := [.tmp 6, .tmp 7]) rfl (by simp) (.tmp (.tmp .nil))) rfl ?_
  exact ⟨rfl, HB.out⟩
 ·rw [if_neg hc] at h
  have hd : decide (5 < (l0.length : Int)) = false := decide_eq_false hc
  have hd2 : decide (5 < l0.length) = false := decide_eq_false (by omega)
  have HP := m0 (placeIn_none A0 c0 l0 A1 c1 l1 wk w hT hr0 hc0 hr1 hc1 h)
  clear hr0 hr1 hT h hc
  go_enter Tryd.func45, Tryd.ntmps45
  go_wp2_with (go_at_call 63; refine HP.out.mono ?_; rintro e w1 ⟨rfl, hB⟩; have HB := m0 hB; clear hB)
  refine bodyPost_ret (results_list (rs := [.tmp 6, .tmp 7]) rfl (by simp) (.tmp (.tmp .nil))) rfl ?_
  exact ⟨rfl, HB.out⟩
set_option maxRecDepth 100000 in
set_option maxHeartbeats 2000000 in
theorem fewIn_some (A0 : Option Addr) (c0 : Nat) (l0 : List Tk) (A1 : Option Addr) (c1 : Nat) (l1 : List Int) (wk : Int) (G : GD) (w : World) (hT : Tab w) (hr0 : k39.C w A0 l0.length l0) (hc0 : l0.length ≤ c0) (hr1 : (Kd.int .i64).C w A1 l1.length l1) (hc1 : l1.length ≤ c1) (h : fewD l0 l1 wk = some G) :
  Calls Tryd.prog 45 #[.slice A0 l0.length c0, .slice A1 l1.length c1, .int .i64 wk] w fun e w' => ∃ b : Nat, e = .returned (.tuple #[.pointer (some ⟨b, 0, none⟩), .bool true]) ∧ Below w.heap.size w w' ∧ IsG w' b G := by
 obtain ⟨h5, hp⟩ := fewD_some h
 have hd : decide (5 < (l0.length : Int)) = false := decide_eq_false (by omega)
 have hd2 : decide (5 < l0.length) = false := decide_eq_false (by omega)
 have HP := m0 (placeIn_some A0 c0 l0 A1 c1 l1 wk G w hT hr0 hc0 hr1 hc1 hp)
 clear hr0 hr1 hT h hp h5
 go_enter Tryd.func45, Tryd.ntmps45
 go_wp2_with (go_at_call 63; refine HP.out.mono ?_; rintro e w1 ⟨b, rfl, hB, hgr⟩; have HB := m0 hB; have HI := m0 hgr; clear hB hgr)
 refine bodyPost_ret (results_list (rs := [.tmp 6, .tmp 7]) rfl (by simp) (.tmp (.tmp .nil))) rfl ?_
 exact ⟨b, rfl, HB.out, HI.out⟩
end Go.Proofs.YtimbfcedigaffaaDoor.Core
end
section
namespace Go.Proofs.YtimbfcedigaffaaDoor.Core
open Go Go.RowKit Go.Proofs.YtimbfcedigaffaaDoorW.PrintWords Go.Proofs.YtimbfcedigaffaaDoorW.PrintMore Go.Proofs.YtimbfcedigaffaaDoor.P
/-- All tasks of a set are over at a time. -/
def overBy (g : List Tk) (L : List Nat) (pl B : Nat) : Prop := ∀ k, pl.testBit k = true → endN g L k ≤ B
theorem cnt_over {g : List Tk} {L : List Nat} {pl B now : Nat} (h : overBy g L pl B) (hb : B ≤ now) : cntOf g L pl now = Cn.zero := by
 unfold cntOf
 have : ∀ (ks : List Nat), (∀ k ∈ ks, endN g L k ≤ B) → ks.foldl (cntStep g L now) Cn.zero = Cn.zero := by
  intro ks
  induction ks with
  | nil => intro _; rfl
  | cons k ks ih =>
   intro hk
   have h1 := hk k List.mem_cons_self
   have : cntStep g L now Cn.zero k = Cn.zero := by
    unfold cntStep runsAt
    rw [decide_eq_false (show ¬ now < endN g L k by omega), Bool.and_false, if_neg Bool.false_ne_true]
   rw [List.foldl_cons, this]
   exact ih (fun k hk' => hk k (List.mem_cons_of_mem _ hk'))
 exact this _ (fun k hk => h k (mem_elemsN.1 hk).2)
/-- What is asked of rooms, workers and a task. -/
structure Fine (g : List Tk) (room : List Int) (wk : Int) : Prop where
 room : roomOk room
 wk : 1 ≤ wk
 pool : ∀ i, i < g.length → 0 ≤ (g.getD i z39).f2 ∧ (g.getD i z39).f2 ≤ 2
 units : ∀ i, i < g.length → 1 ≤ (g.getD i z39).f3 ∧ (g.getD i z39).f3 ≤ 4
 tm : ∀ i, i < g.length → 1 ≤ tmN g i ∧ tmN g i ≤ 20
theorem room_at {room : List Int} (h : roomOk room) {p : Int} (h0 : 0 ≤ p) (h2 : p ≤ 2) : 4 ≤ rd room p ∧ rd room p ≤ 8 := by
 have r0 := h.1
 refine h.2 _ ?_
 unfold rd
 rw [List.getD_eq_getElem?_getD, List.getElem?_eq_getElem (by omega), Option.getD_some]
 exact List.getElem_mem _
theorem zero_u (p : Int) : Cn.zero.u p = 0 := by unfold Cn.u Cn.zero; split <;> (try split) <;> rfl
theorem free_over {g : List Tk} {room : List Int} {wk : Int} (hf : Fine g room wk) {L : List Nat} {pl B i : Nat} (hi : i < g.length) (h : overBy g L pl B) : ∀ (d now : Nat), B ≤ now → freeN g L pl i room wk d now = true
 | 0, _, _ => rfl
 | d + 1, now, hb => by
  have hp := hf.pool i hi
  have hu := hf.units i hi
  have hr := room_at hf.room hp.1 hp.2
  have hw := hf.wk
  have h1 : freeB g L pl i room wk now = true := by
   unfold freeB takesB
   rw [cnt_over h hb, zero_u, w64 (by omega) (by omega), show Cn.zero.t = 0 from rfl, decide_eq_true (by omega), decide_eq_true (by omega)]
   rfl
  show (freeB g L pl i room wk now && freeN g L pl i room wk d (now + 1)) = true
  rw [h1, free_over hf hi h d (now + 1) (by omega)]
  rfl
theorem earlN_le {g : List Tk} {L : List Nat} {pl i : Nat} {room : List Int} {wk : Int} : ∀ (F f a : Nat), F ≤ f → freeN g L pl i room wk (tmN g i) (a + F) = true → earlN g L pl i room wk f a ≤ a + F ∧ a ≤ earlN g L pl i room wk f a ∧ freeN g L pl i room wk (tmN g i) (earlN g L pl i room wk f a) = true
 | 0, 0, a, _, h => ⟨Nat.le_refl _, Nat.le_refl _, h⟩
 | 0, f + 1, a, _, h => by
  have e : earlN g L pl i room wk (f + 1) a = a := by unfold earlN; rw [if_pos (show freeN g L pl i room wk (tmN g i) a = true from h)]
  rw [e]
  exact ⟨Nat.le_refl _, Nat.le_refl _, h⟩
 | F + 1, 0, a, hF, _ => by omega
 | F + 1, f + 1, a, hF, h => by
  by_cases hfr : freeN g L pl i room wk (tmN g i) a = true
  ·have e : earlN g L pl i room wk (f + 1) a = a := by unfold earlN; rw [if_pos hfr]
   rw [e]
   exact ⟨by omega, Nat.le_refl _, hfr⟩
  ·have e : earlN g L pl i room wk (f + 1) a = earlN g L pl i room wk f (a + 1) := by rw [earlN, if_neg hfr]
   rw [e]
   have := earlN_le F f (a + 1) (by omega) (by rw [show a + 1 + F = a + (F + 1) by omega]; exact h)
   exact ⟨by omega, by omega, this.2.2⟩
theorem needEnd_le {g : List Tk} {L : List Nat} {s pl B : Nat} (h : overBy g L pl B) (hs : ∀ k, s.testBit k = true → pl.testBit k = true) : needEnd g L s ≤ B := by
 have : ∀ (ks : List Nat) (a : Nat), a ≤ B → (∀ k ∈ ks, endN g L k ≤ B) → ks.foldl (eStep g L) a ≤ B := by
  intro ks
  induction ks with
  | nil => intro a h _; exact h
  | cons k ks ih =>
   intro a h hk
   rw [List.foldl_cons]
   refine ih _ ?_ (fun k hk' => hk k (List.mem_cons_of_mem _ hk'))
   have := hk k List.mem_cons_self
   unfold eStep
   omega
 exact this _ 0 (Nat.zero_le _) (fun k hk => h k (hs k (mem_elemsN.1 hk).2))
/-- The least time is no later than when all others are over. -/
theorem earlD_le {g : List Tk} {room : List Int} {wk : Int} (hf : Fine g room wk) {L : List Nat} {s pl B i : Nat} (hi : i < g.length) (h : overBy g L pl B) (hB : B ≤ 300) (hs : ∀ k, s.testBit k = true → pl.testBit k = true) : earlD g L s pl i room wk ≤ B ∧ needEnd g L s ≤ earlD g L s pl i room wk ∧ freeN g L pl i room wk (tmN g i) (earlD g L s pl i room wk) = true ∧ freeN g L pl i room wk (tmN g i) (needEnd g L s + (B - needEnd g L s)) = true := by
 have hn := needEnd_le h hs
 have hfr := free_over hf hi h (tmN g i) (needEnd g L s + (B - needEnd g L s)) (by omega)
 obtain ⟨h1, h2, h3⟩ := earlN_le (B - needEnd g L s) 400 (needEnd g L s) (by omega) hfr
 exact ⟨by unfold earlD; omega, h2, h3, hfr⟩
theorem fine_of {g : List Tk} {G : GD} (hG : graphD g = some G) {room : List Int} (hr : roomOk room) {wk : Int} (hw : 1 ≤ wk) : Fine g room wk := by
 have key : ∀ i, i < g.length → g.getD i z39 ∈ g := fun i hi => by
  rw [List.getD_eq_getElem?_getD, List.getElem?_eq_getElem hi]
  exact List.getElem_mem hi
 refine ⟨hr, hw, fun i hi => graphD_pool hG _ (by rw [graphD_tasks hG]; exact key i hi), fun i hi => ?_, fun i hi => (tm_int (fun t ht => graphD_taskOk hG t ht) hi).2⟩
 have := graphD_taskOk hG _ (key i hi)
 unfold taskOk at this
 omega
end Go.Proofs.YtimbfcedigaffaaDoor.Core
end
section
namespace Go.Proofs.YtimbfcedigaffaaDoor.Core
open Go Go.RowKit Go.Proofs.YtimbfcedigaffaaDoorW.PrintWords Go.Proofs.YtimbfcedigaffaaDoorW.PrintMore Go.Proofs.YtimbfcedigaffaaDoor.P
abbrev big : Nat := 4611686018427387904
theorem w64s {n : Nat} (h : n < big) : wrap64 ((n : Int) + 1) = ((n + 1 : Nat) : Int) := by rw [w64 (by omega) (by unfold big at h; omega)]; omega
theorem inRange_eq (x a b : Int) : spec_inRange.f x a b = some (decide (a ≤ x ∧ x ≤ b)) := by
 unfold spec_inRange.f
 by_cases h : a ≤ x
 ·rw [if_pos h]; simp; omega
 ·rw [if_neg h]; simp; omega
theorem copyInts_eq {l : List Int} (h : l.length < big) (h2 : l.length < 17592186044416) : spec_copyInts.f l = some l := by
 unfold spec_copyInts.f
 simp [h2]
theorem ev_isIn_from (L : List Int) (x : Int) (hL : L.length < big) : ∀ (r pre : List Int), L = pre ++ r → Ev (fun k => spec_isIn.l0 k L x (pre.length : Int)) (decide (x ∈ r))
 | [], pre, hp => by
  refine Ev.succ ((Ev.const _).of fun k => ?_)
  rw [List.append_nil] at hp
  subst hp
  rw [spec_isIn.l0, if_neg (by omega)]
  simp
 | y :: r, pre, hp => by
  have hlen : L.length = pre.length + (r.length + 1) := by rw [hp]; simp
  have hrd : rd L (pre.length : Int) = y := by rw [hp]; exact rd_mid rfl
  refine Ev.succ ?_
  by_cases hy : y = x
  ·refine (Ev.const _).of fun k => ?_
   rw [spec_isIn.l0, if_pos (by omega), if_pos (by omega), hrd, if_pos hy]
   simp [hy]
  ·have ih := ev_isIn_from L x hL r (pre ++ [y]) (by rw [hp]; simp)
   have e : decide (x ∈ y :: r) = decide (x ∈ r) := by
    have : x ≠ y := fun h => hy h.symm
    simp [this]
   rw [e]
   refine ih.of fun k => ?_
   rw [spec_isIn.l0, if_pos (by omega), if_pos (by omega), hrd, if_neg hy, w64s (by omega)]
   simp
theorem ev_isIn {L : List Int} (hL : L.length < big) (x : Int) : Ev (fun k => spec_isIn.f k L x) (decide (x ∈ L)) := ev_isIn_from L x hL L [] rfl
theorem ev_allIn_from (L : List Int) (a b : Int) (hL : L.length < big) : ∀ (r pre : List Int), L = pre ++ r → Ev (fun k => spec_allIn.l0 k L a b (pre.length : Int)) (decide (∀ x ∈ r, a ≤ x ∧ x ≤ b))
 | [], pre, hp => by
  refine Ev.succ ((Ev.const _).of fun k => ?_)
  rw [List.append_nil] at hp
  subst hp
  rw [spec_allIn.l0, if_neg (by omega)]
  simp
 | y :: r, pre, hp => by
  have hlen : L.length = pre.length + (r.length + 1) := by rw [hp]; simp
  have hrd : rd L (pre.length : Int) = y := by rw [hp]; exact rd_mid rfl
  refine Ev.succ ?_
  by_cases hy : a ≤ y ∧ y ≤ b
  ·have ih := ev_allIn_from L a b hL r (pre ++ [y]) (by rw [hp]; simp)
   have e : decide (∀ x ∈ y :: r, a ≤ x ∧ x ≤ b) = decide (∀ x ∈ r, a ≤ x ∧ x ≤ b) := by simp [hy]
   rw [e]
   refine ih.of fun k => ?_
   rw [spec_allIn.l0, if_pos (by omega), if_pos (by omega), hrd, inRange_eq, decide_eq_true hy, Option.bind_some, if_pos rfl, w64s (by omega)]
   simp
  ·refine (Ev.const _).of fun k => ?_
   rw [spec_allIn.l0, if_pos (by omega), if_pos (by omega), hrd, inRange_eq, decide_eq_false hy, Option.bind_some, if_neg (by simp)]
   simp only [Option.some.injEq]
   rw [eq_comm, decide_eq_false_iff_not]
   exact fun h => hy (h y List.mem_cons_self)
theorem ev_allIn {L : List Int} (hL : L.length < big) (a b : Int) : Ev (fun k => spec_allIn.f k L a b) (decide (∀ x ∈ L, a ≤ x ∧ x ≤ b)) := ev_allIn_from L a b hL L [] rfl
def ascD : List Int → Bool
 | [] => true
 | [_] => true
 | x :: y :: r => decide (x < y) && ascD (y :: r)
theorem ev_asc_from (L : List Int) (hL : L.length < big) : ∀ (r pre : List Int) (x : Int), L = pre ++ x :: r → Ev (fun k => spec_ascends.l0 k L ((pre.length + 1 : Nat) : Int)) (ascD (x :: r))
 | [], pre, x, hp => by
  have hlen : L.length = pre.length + 1 := by rw [hp]; simp
  refine Ev.succ ((Ev.const _).of fun k => ?_)
  rw [spec_ascends.l0, if_neg (by omega)]
  rfl
 | y :: r, pre, x, hp => by
  have hlen : L.length = pre.length + (r.length + 1 + 1) := by rw [hp]; simp
  have hw : wrap64 (((pre.length + 1 : Nat) : Int) - 1) = (pre.length : Int) := by rw [w64 (by omega) (by unfold big at hL; omega)]; omega
  have hrd : rd L (pre.length : Int) = x := by rw [hp]; exact rd_mid rfl
  have hrd2 : rd L ((pre.length + 1 : Nat) : Int) = y := by
   have : L = (pre ++ [x]) ++ y :: r := by rw [hp]; simp
   rw [this]; exact rd_mid (by simp)
  refine Ev.succ ?_
  by_cases hy : x < y
  ·have ih := ev_asc_from L hL r (pre ++ [x]) y (by rw [hp]; simp)
   have e : ascD (x :: y :: r) = ascD (y :: r) := by simp [ascD, hy]
   rw [e]
   refine ih.of fun k => ?_
   rw [spec_ascends.l0, if_pos (by omega), if_pos (by omega), hw, if_pos (by omega), if_pos (by omega), hrd, hrd2, if_neg (by omega), w64s (by omega)]
   simp
  ·have e : ascD (x :: y :: r) = false := by simp [ascD, hy]
   rw [e]
   refine (Ev.const _).of fun k => ?_
   rw [spec_ascends.l0, if_pos (by omega), if_pos (by omega), hw, if_pos (by omega), if_pos (by omega), hrd, hrd2, if_pos (by omega)]
theorem ev_ascends {L : List Int} (hL : L.length < big) : Ev (fun k => spec_ascends.f k L) (ascD L) := by
 cases L with
 | nil =>
  refine Ev.of (Ev.succ ((Ev.const true).of (g := fun k => spec_ascends.l0 (k + 1) [] 1) fun k => ?_)) (fun k => rfl)
  rw [spec_ascends.l0, if_neg (by simp)]
 | cons x r => exact ev_asc_from (x :: r) hL r [] x rfl
theorem ev_allDone_from (L M : List Int) (hL : L.length < big) (hM : M.length < big) : ∀ (r pre : List Int), L = pre ++ r → Ev (fun k => spec_allDone.l0 k L M (pre.length : Int)) (decide (∀ x ∈ r, x ∈ M))
 | [], pre, hp => by
  refine Ev.succ ((Ev.const _).of fun k => ?_)
  rw [List.append_nil] at hp
  subst hp
  rw [spec_allDone.l0, if_neg (by omega)]
  simp
 | y :: r, pre, hp => by
  have hlen : L.length = pre.length + (r.length + 1) := by rw [hp]; simp
  have hrd : rd L (pre.length : Int) = y := by rw [hp]; exact rd_mid rfl
  have hi := ev_isIn hM y
  refine Ev.succ ?_
  by_cases hy : y ∈ M
  ·have ih := ev_allDone_from L M hL hM r (pre ++ [y]) (by rw [hp]; simp)
   have e : decide (∀ x ∈ y :: r, x ∈ M) = decide (∀ x ∈ r, x ∈ M) := by simp [hy]
   rw [e]
   rw [decide_eq_true hy] at hi
   refine (hi.bind (g := fun k t => if t = true then spec_allDone.l0 k L M ((pre ++ [y]).length : Int) else some false) (ih.of fun k => if_pos rfl)).of fun k => ?_
   rw [spec_allDone.l0, if_pos (by omega), if_pos (by omega), hrd, w64s (by omega)]
   simp
  ·have e : decide (∀ x ∈ y :: r, x ∈ M) = false := by
    rw [decide_eq_false_iff_not]
    exact fun h => hy (h y List.mem_cons_self)
   rw [e]
   rw [decide_eq_false hy] at hi
   refine (hi.bind (g := fun k t => if t = true then spec_allDone.l0 k L M ((pre ++ [y]).length : Int) else some false) ((Ev.const false).of fun k => if_neg (by simp))).of fun k => ?_
   rw [spec_allDone.l0, if_pos (by omega), if_pos (by omega), hrd, w64s (by omega)]
   simp
theorem ev_allDone {L M : List Int} (hL : L.length < big) (hM : M.length < big) : Ev (fun k => spec_allDone.f k L M) (decide (∀ x ∈ L, x ∈ M)) := ev_allDone_from L M hL hM L [] rfl
def needsOk (n : Nat) (l : List Int) : Prop := (∀ x ∈ l, 0 ≤ x ∧ x ≤ (n : Int) - 1) ∧ ascD l = true
instance (n : Nat) (l : List Int) : Decidable (needsOk n l) := by unfold needsOk; infer_instance
theorem ev_validTask {t : Tk} (ht : t.f1.length < big) {n : Nat} (hn : n < big) : Ev (fun k => spec_validTask.f k t.f0 t.f1 t.f2 t.f3 (n : Int)) (decide (taskOk t ∧ needsOk n t.f1)) := by
 have hw : wrap64 ((n : Int) - 1) = (n : Int) - 1 := w64 (by omega) (by unfold big at hn; omega)
 have hA := ev_allIn ht 0 ((n : Int) - 1)
 have hB := ev_ascends ht
 by_cases h1 : 1 ≤ t.f0 ∧ t.f0 ≤ 20
 ·by_cases h2 : 0 ≤ t.f2 ∧ t.f2 ≤ 2
  ·by_cases h3 : 1 ≤ t.f3 ∧ t.f3 ≤ 4
   ·have hok : taskOk t := ⟨h1, h2, h3⟩
    have hu : ∀ k, spec_validTask.f k t.f0 t.f1 t.f2 t.f3 (n : Int) = (spec_allIn.f k t.f1 0 ((n : Int) - 1)).bind fun t113 => (if t113 = true then ((spec_ascends.f k t.f1).bind fun t114 => (some t114)) else (some false)) := by
     intro k
     unfold spec_validTask.f
     rw [inRange_eq, inRange_eq, inRange_eq, decide_eq_true h1, decide_eq_true h2, decide_eq_true h3, hw]
     rfl
    refine Ev.of ?_ hu
    refine (hA.bind (g := fun k t113 => if t113 = true then ((spec_ascends.f k t.f1).bind fun t114 => (some t114)) else (some false)) (b := decide (taskOk t ∧ needsOk n t.f1)) ?_)
    by_cases h4 : ∀ x ∈ t.f1, 0 ≤ x ∧ x ≤ (n : Int) - 1
    ·rw [decide_eq_true h4]
     have e : decide (taskOk t ∧ needsOk n t.f1) = ascD t.f1 := by
      cases h5 : ascD t.f1
      ·rw [decide_eq_false_iff_not]; intro h; have := h.2.2; rw [h5] at this; cases this
      ·rw [decide_eq_true_eq]; exact ⟨hok, h4, h5⟩
     rw [e]
     refine (hB.bind (g := fun _ t114 => some t114) (Ev.const _)).of fun k => ?_
     rw [if_pos rfl]
    ·rw [decide_eq_false h4]
     have e : decide (taskOk t ∧ needsOk n t.f1) = false := by rw [decide_eq_false_iff_not]; exact fun h => h4 h.2.1
     rw [e]
     exact (Ev.const false).of fun k => if_neg (by simp)
   ·have e : decide (taskOk t ∧ needsOk n t.f1) = false := by rw [decide_eq_false_iff_not]; exact fun h => h3 h.1.2.2
    rw [e]
    refine (Ev.const false).of fun k => ?_
    unfold spec_validTask.f
    rw [inRange_eq, inRange_eq, inRange_eq, decide_eq_true h1, decide_eq_true h2, decide_eq_false h3]
    rfl
  ·have e : decide (taskOk t ∧ needsOk n t.f1) = false := by rw [decide_eq_false_iff_not]; exact fun h => h2 h.1.2.1
   rw [e]
   refine (Ev.const false).of fun k => ?_
   unfold spec_validTask.f
   rw [inRange_eq, inRange_eq, decide_eq_true h1, decide_eq_false h2]
   rfl
 ·have e : decide (taskOk t ∧ needsOk n t.f1) = false := by rw [decide_eq_false_iff_not]; exact fun h => h1 h.1.1
  rw [e]
  refine (Ev.const false).of fun k => ?_
  unfold spec_validTask.f
  rw [inRange_eq, decide_eq_false h1]
  rfl
/-- All lists are of a size that fits. -/
def Fits (g : List Tk) : Prop := g.length < big ∧ ∀ t ∈ g, t.f1.length < big
theorem ev_tasksFine_from (g : List Tk) (hg : Fits g) : ∀ (r pre : List Tk), g = pre ++ r → Ev (fun k => spec_tasksFine.l0 k g (pre.length : Int)) (decide ((∀ t ∈ r, taskOk t ∧ needsOk g.length t.f1) ∧ g.length ≤ 8))
 | [], pre, hp => by
  refine Ev.succ ((Ev.const _).of fun k => ?_)
  rw [List.append_nil] at hp
  subst hp
  rw [spec_tasksFine.l0, if_neg (by omega)]
  congr 1
  rw [decide_eq_decide]
  constructor
  ·intro h; exact ⟨by simp, by omega⟩
  ·intro h; omega
 | t :: r, pre, hp => by
  have hlen : g.length = pre.length + (r.length + 1) := by rw [hp]; simp
  have hbig := hg.1
  have hrd : rd_T39 g (pre.length : Int) = t := by rw [hp]; exact rdT_mid rfl
  have hv := ev_validTask (hg.2 t (by rw [hp]; simp)) hg.1
  refine Ev.succ ?_
  by_cases hy : taskOk t ∧ needsOk g.length t.f1
  ·have ih := ev_tasksFine_from g hg r (pre ++ [t]) (by rw [hp]; simp)
   have e : decide ((∀ t' ∈ t :: r, taskOk t' ∧ needsOk g.length t'.f1) ∧ g.length ≤ 8) = decide ((∀ t ∈ r, taskOk t ∧ needsOk g.length t.f1) ∧ g.length ≤ 8) := by simp [hy]
   rw [e]
   rw [decide_eq_true hy] at hv
   refine (hv.bind (g := fun k b => if b = true then spec_tasksFine.l0 k g ((pre ++ [t]).length : Int) else some false) (ih.of fun k => if_pos rfl)).of fun k => ?_
   rw [spec_tasksFine.l0, if_pos (by omega), if_pos (by omega), hrd, w64s (by omega)]
   simp
  ·have e : decide ((∀ t' ∈ t :: r, taskOk t' ∧ needsOk g.length t'.f1) ∧ g.length ≤ 8) = false := by
    rw [decide_eq_false_iff_not]
    exact fun h => hy (h.1 t List.mem_cons_self)
   rw [e]
   rw [decide_eq_false hy] at hv
   refine (hv.bind (g := fun k b => if b = true then spec_tasksFine.l0 k g ((pre ++ [t]).length : Int) else some false) ((Ev.const false).of fun k => if_neg (by simp))).of fun k => ?_
   rw [spec_tasksFine.l0, if_pos (by omega), if_pos (by omega), hrd, w64s (by omega)]
   simp
def fineD (g : List Tk) : Prop := (∀ t ∈ g, taskOk t ∧ needsOk g.length t.f1) ∧ g.length ≤ 8
instance (g : List Tk) : Decidable (fineD g) := by unfold fineD; infer_instance
theorem ev_tasksFine {g : List Tk} (hg : Fits g) : Ev (fun k => spec_tasksFine.f k g) (decide (fineD g)) := ev_tasksFine_from g hg g [] rfl
end Go.Proofs.YtimbfcedigaffaaDoor.Core
end
section
namespace Go.Proofs.YtimbfcedigaffaaDoor.Core
open Go Go.RowKit Go.Proofs.YtimbfcedigaffaaDoorW.PrintWords Go.Proofs.YtimbfcedigaffaaDoorW.PrintMore Go.Proofs.YtimbfcedigaffaaDoor.P
theorem asc_lt : ∀ {r : List Int} {x : Int}, ascD (x :: r) = true → ascD r = true ∧ ∀ y ∈ r, x < y
 | [], x, _ => ⟨rfl, by simp⟩
 | y :: r, x, h => by
  simp only [ascD, Bool.and_eq_true, decide_eq_true_eq] at h
  have h2 := asc_lt h.2
  refine ⟨h.2, fun z hz => ?_⟩
  rcases List.mem_cons.1 hz with rfl | hz
  ·exact h.1
  ·have := h2.2 z hz; omega
theorem asc_mk {r : List Int} {x : Int} (h : ascD r = true) (h2 : ∀ y ∈ r, x < y) : ascD (x :: r) = true := by
 cases r with
 | nil => rfl
 | cons y r => simp [ascD, h, h2 y List.mem_cons_self]
theorem setGo_some {n : Nat} : ∀ {r : List Int} {s : Nat} {last : Int} {t : Nat}, -1 ≤ last → setGo n r s last = some t → (∀ x ∈ r, last + 1 ≤ x ∧ x ≤ (n : Int) - 1) ∧ ascD r = true ∧ ∀ i : Nat, t.testBit i = (s.testBit i || decide ((i : Int) ∈ r))
 | [], s, last, t, hl, h => by
  rw [setGo] at h
  cases h
  exact ⟨by simp, rfl, by simp⟩
 | x :: r, s, last, t, hl, h => by
  rw [setGo] at h
  by_cases hx : last + 1 ≤ x ∧ x ≤ (n : Int) - 1
  ·rw [if_pos hx] at h
   obtain ⟨h1, h2, h3⟩ := setGo_some (by omega) h
   refine ⟨fun y hy => ?_, asc_mk h2 (fun y hy => by have := h1 y hy; omega), fun i => ?_⟩
   ·rcases List.mem_cons.1 hy with rfl | hy
    ·exact hx
    ·have := h1 y hy; omega
   ·rw [h3, or_bit]
    have : decide (x.toNat = i) = decide ((i : Int) = x) := by rw [decide_eq_decide]; omega
    rw [this]
    by_cases e : (i : Int) = x
    ·simp [e]
    ·simp [e]
  ·rw [if_neg hx] at h; cases h
theorem setGo_ok {n : Nat} : ∀ {r : List Int} (s : Nat) {last : Int}, (∀ x ∈ r, last + 1 ≤ x ∧ x ≤ (n : Int) - 1) → ascD r = true → ∃ t, setGo n r s last = some t
 | [], s, last, _, _ => ⟨s, rfl⟩
 | x :: r, s, last, h, ha => by
  have h2 := asc_lt ha
  have hx := h x List.mem_cons_self
  rw [setGo, if_pos hx]
  exact setGo_ok _ (fun y hy => ⟨by have := h2.2 y hy; omega, (h y (List.mem_cons_of_mem _ hy)).2⟩) h2.1
theorem setD_some {n : Nat} {l : List Int} {t : Nat} (h : setD n l = some t) : needsOk n l ∧ ∀ i : Nat, t.testBit i = decide ((i : Int) ∈ l) := by
 obtain ⟨h1, h2, h3⟩ := setGo_some (by omega) h
 exact ⟨⟨fun x hx => by have := h1 x hx; omega, h2⟩, fun i => by rw [h3]; simp⟩
theorem setD_ok {n : Nat} {l : List Int} (h : needsOk n l) : ∃ t, setD n l = some t := setGo_ok 0 (fun x hx => by have := h.1 x hx; omega) h.2
theorem needsGo_ok {n : Nat} : ∀ {r : List Tk}, (∀ t ∈ r, taskOk t ∧ needsOk n t.f1) → ∃ N, needsGo n r = some N
 | [], _ => ⟨[], rfl⟩
 | t :: r, h => by
  obtain ⟨s, hs⟩ := setD_ok (h t List.mem_cons_self).2
  obtain ⟨N, hN⟩ := needsGo_ok (fun t' ht => h t' (List.mem_cons_of_mem _ ht))
  rw [needsGo, hs]
  simp only [(h t List.mem_cons_self).1, if_true, hN]
  exact ⟨_, rfl⟩
theorem needsGo_fine {n : Nat} : ∀ {r : List Tk} {N : List Nat}, needsGo n r = some N → (∀ t ∈ r, taskOk t ∧ needsOk n t.f1) ∧ ∀ i, i < r.length → ∀ j : Nat, (N.getD i 0).testBit j = decide ((j : Int) ∈ (r.getD i z39).f1)
 | [], N, h => ⟨by simp, by intro i hi; simp at hi⟩
 | t :: r, N, h => by
  rw [needsGo] at h
  cases he : setD n t.f1 with
  | none => rw [he] at h; cases h
  | some s =>
   rw [he] at h
   by_cases hok : taskOk t
   ·simp only [hok, if_true] at h
    cases hg : needsGo n r with
    | none => rw [hg] at h; cases h
    | some M =>
     rw [hg] at h
     cases h
     have ih := needsGo_fine hg
     have hs := setD_some he
     refine ⟨fun t' ht => ?_, fun i hi j => ?_⟩
     ·rcases List.mem_cons.1 ht with rfl | ht
      ·exact ⟨hok, hs.1⟩
      ·exact ih.1 t' ht
     ·cases i with
      | zero => simpa using hs.2 j
      | succ i => simpa using ih.2 i (by simpa using hi) j
   ·simp [hok] at h
theorem needsD_fine {g : List Tk} {N : List Nat} (h : needsD g = some N) : fineD g ∧ ∀ i, i < g.length → ∀ j : Nat, (N.getD i 0).testBit j = decide ((j : Int) ∈ (g.getD i z39).f1) := by
 have h8 := (needsD_spec h).1
 unfold needsD at h
 rw [if_pos h8] at h
 have := needsGo_fine h
 exact ⟨⟨this.1, h8⟩, this.2⟩
theorem fineD_needs {g : List Tk} (h : fineD g) : ∃ N, needsD g = some N := by
 unfold needsD
 rw [if_pos h.2]
 exact needsGo_ok h.1
theorem sub_zero {a b : Nat} (ha : a < 256) (hb : b < 256) : sub a b = 0 ↔ ∀ j, a.testBit j = true → b.testBit j = true := by
 constructor
 ·intro h j hj
  have := sub_testBit (i := j) ha hb
  rw [h, hj] at this
  simpa using this
 ·intro h
  apply Nat.eq_of_testBit_eq
  intro j
  rw [sub_testBit ha hb, Nat.zero_testBit]
  cases e : a.testBit j
  ·rfl
  ·rw [h j e]; rfl
theorem mem_up {L : List Nat} {i : Nat} : (i : Int) ∈ up L ↔ i ∈ L := by
 unfold up
 rw [List.mem_map]
 constructor
 ·rintro ⟨a, ha, e⟩
  have : a = i := Int.ofNat.inj e
  exact this ▸ ha
 ·intro h
  exact ⟨i, h, rfl⟩
/-- All needs of a task are among some, said both ways. -/
theorem done_iff {g : List Tk} {N : List Nat} (hN : needsD g = some N) {L : List Nat} {d : Nat} (hd : d < 256) (hs : ∀ i, d.testBit i = true ↔ i ∈ L) {i : Nat} (hi : i < g.length) : (∀ x ∈ (g.getD i z39).f1, x ∈ up L) ↔ sub (N.getD i 0) d = 0 := by
 obtain ⟨h8, hl, hb⟩ := needsD_spec hN
 obtain ⟨hf, hbit⟩ := needsD_fine hN
 rw [sub_zero (Nat.lt_of_lt_of_le (getD_lt hb i) (pow8 h8)) hd]
 constructor
 ·intro h j hj
  rw [hbit i hi j, decide_eq_true_eq] at hj
  exact (hs j).2 (mem_up.1 (h _ hj))
 ·intro h x hx
  have hmem : g.getD i z39 ∈ g := by
   rw [List.getD_eq_getElem?_getD, List.getElem?_eq_getElem hi]
   exact List.getElem_mem hi
  have h0 := (hf.1 _ hmem).2.1 x hx
  obtain ⟨j, rfl⟩ : ∃ j : Nat, x = (j : Int) := ⟨x.toNat, by omega⟩
  refine mem_up.2 ((hs j).1 (h j ?_))
  rw [hbit i hi j, decide_eq_true_eq]
  exact hx
theorem rdT_nat (g : List Tk) (i : Nat) : rd_T39 g (i : Int) = g.getD i z39 := by simp [rd_T39]
theorem getD_mem {g : List Tk} {i : Nat} (hi : i < g.length) : g.getD i z39 ∈ g := by
 rw [List.getD_eq_getElem?_getD, List.getElem?_eq_getElem hi]
 exact List.getElem_mem hi
theorem ev_top_found {g : List Tk} (hg : Fits g) (L : List Nat) (hL : L.length ≤ 100) (j : Nat) (i : Int) (R : List Int) (h : Ev (fun k => spec_topOrder.l0 k g (up (L ++ [j]))) R) : Ev (fun k => spec_topOrder.l1 k g (up L) (j : Int) i) R := by
 have e : up (L ++ [j]) = up L ++ [(j : Int)] := by simp [up]
 have h2 : Ev (fun k => spec_topOrder.j2 k g (up L) (j : Int) i false) R := by
  refine Ev.succ (h.of fun k => ?_)
  rw [spec_topOrder.j2, if_neg (by simp), if_neg (by omega), if_pos (by rw [up_length]; omega), e]
 refine Ev.succ (h2.of fun k => ?_)
 rw [spec_topOrder.l1, show decide ((j : Int) < 0) = false by simp]
 split <;> rfl
theorem ev_top_scan {g : List Tk} (hg : Fits g) {N : List Nat} (hN : needsD g = some N) (L : List Nat) (d : Nat) (hL : L.length ≤ 100) (hd : d < 256) (hs : ∀ i, d.testBit i = true ↔ i ∈ L) (R : Option Nat → List Int) (hR : R none = up L) : ∀ (m i : Nat), i + m = g.length →
  (∀ j, nextFrom N d i m = some j → Ev (fun k => spec_topOrder.l0 k g (up (L ++ [j]))) (R (some j))) → Ev (fun k => spec_topOrder.l1 k g (up L) (-1) (i : Int)) (R (nextFrom N d i m))
 | 0, i, hi, ho => by
  rw [nextFrom, hR]
  refine Ev.succ ?_
  have h2 : Ev (fun k => spec_topOrder.j2 k g (up L) (-1) (i : Int) false) (up L) := by
   refine Ev.succ ((Ev.const _).of fun k => ?_)
   rw [spec_topOrder.j2, if_neg (by simp), if_pos (by omega)]
  refine h2.of fun k => ?_
  rw [spec_topOrder.l1, if_neg (by omega)]
 | m + 1, i, hi, ho => by
  have hig : i < g.length := by omega
  have h8 := (needsD_spec hN).1
  have hin := ev_isIn (L := up L) (by rw [up_length]; unfold big; omega) (i : Int)
  have hdn := ev_allDone (L := (g.getD i z39).f1) (M := up L) (hg.2 _ (getD_mem hig)) (by rw [up_length]; unfold big; omega)
  have e1 : decide ((i : Int) ∈ up L) = d.testBit i := by
   rw [Bool.eq_iff_iff, decide_eq_true_eq, mem_up, hs]
  have e2 : decide (∀ x ∈ (g.getD i z39).f1, x ∈ up L) = decide (sub (N.getD i 0) d = 0) := by
   rw [decide_eq_decide]; exact done_iff hN hd hs hig
  rw [e1] at hin
  rw [e2] at hdn
  have hw : wrap64 ((i : Int) + 1) = ((i + 1 : Nat) : Int) := w64s (by unfold big; omega)
  refine Ev.succ ?_
  have hj2 : Ev (fun k => spec_topOrder.j2 k g (up L) (-1) (i : Int) true) (R (nextFrom N d i (m + 1))) := by
   refine Ev.succ ?_
   have hu : ∀ k, spec_topOrder.j2 (k + 1) g (up L) (-1) (i : Int) true = (spec_isIn.f k (up L) (i : Int)).bind fun t126 => (if t126 = true then (spec_topOrder.l1 k g (up L) (-1) ((i + 1 : Nat) : Int)) else ((spec_allDone.f k (g.getD i z39).f1 (up L)).bind fun t128 => (if t128 = true then (spec_topOrder.l1 k g (up L) (i : Int) ((i + 1 : Nat) : Int)) else (spec_topOrder.l1 k g (up L) (-1) ((i + 1 : Nat) : Int))))) := by
    intro k
    rw [spec_topOrder.j2, if_pos rfl, hw, if_pos (show 0 ≤ (i : Int) by omega), if_pos (show (i : Int) < (g.length : Int) by omega), rdT_nat]
   refine Ev.of ?_ hu
   refine hin.bind (g := fun k t126 => (if t126 = true then (spec_topOrder.l1 k g (up L) (-1) ((i + 1 : Nat) : Int)) else ((spec_allDone.f k (g.getD i z39).f1 (up L)).bind fun t128 => (if t128 = true then (spec_topOrder.l1 k g (up L) (i : Int) ((i + 1 : Nat) : Int)) else (spec_topOrder.l1 k g (up L) (-1) ((i + 1 : Nat) : Int)))))) ?_
   cases hbit : d.testBit i with
   | true =>
    have hg2 : nextFrom N d i (m + 1) = nextFrom N d (i + 1) m := by rw [nextFrom, if_neg (by simp [hbit])]
    rw [hg2] at ho ⊢
    exact (ev_top_scan hg hN L d hL hd hs R hR m (i + 1) (by omega) ho).of fun k => if_pos rfl
   | false =>
    by_cases hz : sub (N.getD i 0) d = 0
    ·have hg2 : nextFrom N d i (m + 1) = some i := by rw [nextFrom, if_pos ⟨hbit, hz⟩]
     rw [hg2]
     rw [decide_eq_true hz] at hdn
     have hf := ev_top_found hg L hL i ((i + 1 : Nat) : Int) _ (ho i hg2)
     refine (hdn.bind (g := fun k t128 => if t128 = true then (spec_topOrder.l1 k g (up L) (i : Int) ((i + 1 : Nat) : Int)) else (spec_topOrder.l1 k g (up L) (-1) ((i + 1 : Nat) : Int))) (hf.of fun k => if_pos rfl)).of fun k => ?_
     rw [if_neg (by simp)]
    ·have hg2 : nextFrom N d i (m + 1) = nextFrom N d (i + 1) m := by rw [nextFrom, if_neg (fun h => hz h.2)]
     rw [hg2] at ho ⊢
     rw [decide_eq_false hz] at hdn
     have ih := ev_top_scan hg hN L d hL hd hs R hR m (i + 1) (by omega) ho
     refine (hdn.bind (g := fun k t128 => if t128 = true then (spec_topOrder.l1 k g (up L) (i : Int) ((i + 1 : Nat) : Int)) else (spec_topOrder.l1 k g (up L) (-1) ((i + 1 : Nat) : Int))) (ih.of fun k => if_neg (by simp))).of fun k => ?_
     rw [if_neg (by simp)]
  refine hj2.of fun k => ?_
  rw [spec_topOrder.l1, if_pos (by omega)]
  rfl
theorem orderGo_none {N : List Nat} {d : Nat} (h : nextD N d = none) : ∀ (m : Nat) (L : List Nat), orderGo N m L d = (L, d)
 | 0, L => rfl
 | m + 1, L => by rw [orderGo, h]; exact orderGo_none h m L
theorem next_zb {N : List Nat} {d j : Nat} (h : nextD N d = some j) : zb N.length (d ||| 2 ^ j) < zb N.length d := by
 have := nextD_spec h
 exact zb_lt this.2.1 this.1
theorem ev_top_go {g : List Tk} (hg : Fits g) {N : List Nat} (hN : needsD g = some N) : ∀ (m : Nat) (L : List Nat) (d : Nat), OrdOk N L d → zb N.length d ≤ m → Ev (fun k => spec_topOrder.l0 k g (up L)) (up (orderGo N m L d).1) := by
 obtain ⟨h8, hl, hb⟩ := needsD_spec hN
 have hb' : below1 N.length N := by rw [hl]; exact hb
 intro m
 induction m with
 | zero =>
  intro L d ok hz
  have hlt := Nat.lt_of_lt_of_le ok.dlt (pow8 (n := N.length) (by omega))
  have hnone : nextD N d = none := by
   cases h : nextD N d with
   | none => rfl
   | some j => have := next_zb h; omega
  have h := ev_top_scan hg hN L d (by have := ok.len; omega) hlt ok.set (fun _ => up L) rfl g.length 0 (by omega) (fun j hj => by
   have : nextD N d = some j := by unfold nextD; rw [hl]; exact hj
   rw [hnone] at this; cases this)
  refine Ev.succ (h.of fun k => ?_)
  rw [spec_topOrder.l0]
  rfl
 | succ m ih =>
  intro L d ok hz
  have hlt := Nat.lt_of_lt_of_le ok.dlt (pow8 (n := N.length) (by omega))
  have h := ev_top_scan hg hN L d (by have := ok.len; omega) hlt ok.set (fun o => match o with | some i => up (orderGo N m (L ++ [i]) (d ||| 2 ^ i)).1 | none => up L) rfl g.length 0 (by omega) (fun j hj => by
   have hj2 : nextD N d = some j := by unfold nextD; rw [hl]; exact hj
   have hsp := nextD_spec hj2
   have := next_zb hj2
   exact ih (L ++ [j]) (d ||| 2 ^ j) (ok.step (by omega) hb' hsp.1 hsp.2.1 hsp.2.2) (by omega))
  have e : (match nextFrom N d 0 g.length with | some i => up (orderGo N m (L ++ [i]) (d ||| 2 ^ i)).1 | none => up L) = up (orderGo N (m + 1) L d).1 := by
   rw [orderGo]
   have e2 : nextD N d = nextFrom N d 0 g.length := by unfold nextD; rw [hl]
   rw [e2]
   cases hx : nextFrom N d 0 g.length with
   | none => simp only []; rw [orderGo_none (by rw [e2]; exact hx)]
   | some i => rfl
  rw [← e]
  refine Ev.succ (h.of fun k => ?_)
  rw [spec_topOrder.l0]
  rfl
theorem ordOk_nil (N : List Nat) : OrdOk N [] 0 := ⟨by simp, by simp, Nat.two_pow_pos _, by simp, by rw [zb_zero]; simp, by simp⟩
theorem ev_topOrder {g : List Tk} (hg : Fits g) {N : List Nat} (hN : needsD g = some N) : Ev (fun k => spec_topOrder.f k g) (up (orderD N).1) :=
 ev_top_go hg hN N.length [] 0 (ordOk_nil N) (by rw [zb_zero]; exact Nat.le_refl _)
theorem zb_zero_full {n : Nat} : ∀ {m d : Nat}, zb m d = 0 → ∀ i, i < m → d.testBit i = true
 | 0, d, _, i, h => by omega
 | m + 1, d, h, i, hi => by
  simp only [zb] at h
  by_cases e : i = m
  ·subst e
   cases hb : d.testBit i
   ·simp [hb] at h
   ·rfl
  ·exact zb_zero_full (n := n) (m := m) (by omega) i (by omega)
theorem full_iff {N L : List Nat} {d : Nat} (ok : OrdOk N L d) : d = 2 ^ N.length - 1 ↔ L.length = N.length := by
 constructor
 ·intro h
  have := ok.len
  rw [h, zb_full _ _ (Nat.le_refl _)] at this
  exact this
 ·intro h
  have hz : zb N.length d = 0 := by have := ok.len; omega
  apply Nat.eq_of_testBit_eq
  intro i
  rw [Nat.testBit_two_pow_sub_one]
  by_cases hi : i < N.length
  ·rw [zb_zero_full (n := 0) hz i hi]; simp [hi]
  ·cases hb : d.testBit i
   ·simp [hi]
   ·exact absurd (ok.lt i ((ok.set i).1 hb)) hi
theorem ev_validGraph {g : List Tk} (hg : Fits g) : Ev (fun k => spec_validGraph.f k g) (graphD g).isSome := by
 have hf := ev_tasksFine hg
 unfold graphD
 by_cases h : fineD g
 ·obtain ⟨N, hN⟩ := fineD_needs h
  obtain ⟨h8, hl, hb⟩ := needsD_spec hN
  rw [decide_eq_true h] at hf
  have ht := ev_topOrder hg hN
  have ok := orderD_ok (N := N) (by omega) (by rw [hl]; exact hb)
  have hfull := full_iff ok
  rw [hN]
  simp only []
  refine (hf.bind (g := fun k b => if b = true then ((spec_topOrder.f k g).bind fun t130 => (some ((t130.length : Int) == (g.length : Int)))) else some false) ?_).of fun k => rfl
  refine (ht.bind (g := fun k t130 => some ((t130.length : Int) == (g.length : Int))) (b := (if (orderD N).2 = 2 ^ g.length - 1 then some (mkG g N) else none).isSome) ((Ev.const _).of fun k => ?_)).of fun k => if_pos rfl
  rw [up_length]
  congr 1
  by_cases hd : (orderD N).2 = 2 ^ g.length - 1
  ·rw [if_pos hd]
   have := hfull.1 (by rw [hl]; exact hd)
   simp [this, hl]
  ·rw [if_neg hd]
   have : (orderD N).1.length ≠ g.length := fun e => hd (by rw [← hl]; exact hfull.2 (by omega))
   simp [this]
   omega
 ·rw [decide_eq_false h] at hf
  have hn : needsD g = none := by
   cases e : needsD g with
   | none => rfl
   | some N => exact absurd (needsD_fine e).1 h
  rw [hn]
  refine (hf.bind (g := fun k b => if b = true then ((spec_topOrder.f k g).bind fun t130 => (some ((t130.length : Int) == (g.length : Int)))) else some false) ((Ev.const false).of fun k => if_neg (by simp))).of fun k => rfl
end Go.Proofs.YtimbfcedigaffaaDoor.Core
end
section
namespace Go.Proofs.YtimbfcedigaffaaDoor.Core
open Go Go.RowKit Go.Proofs.YtimbfcedigaffaaDoorW.PrintWords Go.Proofs.YtimbfcedigaffaaDoorW.PrintMore Go.Proofs.YtimbfcedigaffaaDoor.P
theorem Ev.pos {α : Type} {c : Prop} [Decidable c] {f g : Nat → Option α} {r : α} (hc : c) (h : Ev f r) : Ev (fun k => if c then f k else g k) r := h.of fun k => if_pos hc
theorem Ev.neg {α : Type} {c : Prop} [Decidable c] {f g : Nat → Option α} {r : α} (hc : ¬ c) (h : Ev g r) : Ev (fun k => if c then f k else g k) r := h.of fun k => if_neg hc
theorem Ev.sb {α β : Type} {g : Nat → α → Option β} {a : α} {b : β} (h : Ev (fun k => g k a) b) : Ev (fun k => (some a).bind (g k)) b := h.of fun k => rfl
theorem Ev.conv {α : Type} {f : Nat → Option α} {a b : α} (h : Ev f a) (e : a = b) : Ev f b := e ▸ h
def EvP {α : Type} (f : Nat → Option α) (Q : α → Prop) : Prop := ∃ r, Ev f r ∧ Q r
theorem EvP.ret {α : Type} {Q : α → Prop} {a : α} (h : Q a) : EvP (fun _ => some a) Q := ⟨a, Ev.const a, h⟩
theorem EvP.bind {α β : Type} {f : Nat → Option α} {g : Nat → α → Option β} {Q : α → Prop} {R : β → Prop} (h : EvP f Q) (h2 : ∀ a, Q a → EvP (fun k => g k a) R) : EvP (fun k => (f k).bind (g k)) R := by
 obtain ⟨a, h, q⟩ := h
 obtain ⟨b, h2, q2⟩ := h2 a q
 exact ⟨b, h.bind h2, q2⟩
theorem EvP.sb {α β : Type} {g : Nat → α → Option β} {a : α} {R : β → Prop} (h : EvP (fun k => g k a) R) : EvP (fun k => (some a).bind (g k)) R := h
theorem EvP.pos {α : Type} {c : Prop} [Decidable c] {f g : Nat → Option α} {Q : α → Prop} (hc : c) (h : EvP f Q) : EvP (fun k => if c then f k else g k) Q := by
 obtain ⟨r, h, q⟩ := h
 exact ⟨r, h.pos hc, q⟩
theorem EvP.neg {α : Type} {c : Prop} [Decidable c] {f g : Nat → Option α} {Q : α → Prop} (hc : ¬ c) (h : EvP g Q) : EvP (fun k => if c then f k else g k) Q := by
 obtain ⟨r, h, q⟩ := h
 exact ⟨r, h.neg hc, q⟩
theorem EvP.ite {α : Type} {c : Prop} [Decidable c] {f g : Nat → Option α} {Q : α → Prop} (h1 : c → EvP f Q) (h2 : ¬ c → EvP g Q) : EvP (fun k => if c then f k else g k) Q :=
 if hc : c then EvP.pos hc (h1 hc) else EvP.neg hc (h2 hc)
theorem EvP.succ {α : Type} {f : Nat → Option α} {Q : α → Prop} (h : EvP (fun k => f (k + 1)) Q) : EvP f Q := by
 obtain ⟨r, h, q⟩ := h
 exact ⟨r, h.succ, q⟩
theorem EvP.of {α : Type} {f g : Nat → Option α} {Q : α → Prop} (h : EvP f Q) (e : ∀ k, g k = f k) : EvP g Q := by
 obtain ⟨r, h, q⟩ := h
 exact ⟨r, h.of e, q⟩
theorem EvP.mono {α : Type} {f : Nat → Option α} {Q R : α → Prop} (h : EvP f Q) (hq : ∀ a, Q a → R a) : EvP f R := by
 obtain ⟨r, h, q⟩ := h
 exact ⟨r, h, hq r q⟩
theorem Ev.p {α : Type} {f : Nat → Option α} {r : α} {Q : α → Prop} (h : Ev f r) (q : Q r) : EvP f Q := ⟨r, h, q⟩
theorem EvP.ev {α : Type} {f : Nat → Option α} {r : α} (h : EvP f (fun x => x = r)) : Ev f r := by
 obtain ⟨r, h, rfl⟩ := h
 exact h
theorem Ev.bindP {α β : Type} {f : Nat → Option α} {g : Nat → α → Option β} {a : α} {R : β → Prop} (h : Ev f a) (h2 : EvP (fun k => g k a) R) : EvP (fun k => (f k).bind (g k)) R := by
 obtain ⟨b, h2, q2⟩ := h2
 exact ⟨b, h.bind h2, q2⟩
theorem i64_xor_nat (a b : Nat) (ha : a < 4611686018427387904) (hb : b < 4611686018427387904) : bits .xor .i64 (a : Int) (b : Int) = ((a ^^^ b : Nat) : Int) := by
 have hx : a ^^^ b < 2 ^ 62 := Nat.xor_lt_two_pow (by omega) (by omega)
 have h1 : (BitVec.ofInt 64 (a : Int)).toNat = a := by
  rw [BitVec.ofInt_natCast, BitVec.toNat_ofNat]; exact Nat.mod_eq_of_lt (by omega)
 have h2 : (BitVec.ofInt 64 (b : Int)).toNat = b := by
  rw [BitVec.ofInt_natCast, BitVec.toNat_ofNat]; exact Nat.mod_eq_of_lt (by omega)
 show IntKind.i64.wrap ((BitVec.ofInt 64 (a : Int) ^^^ BitVec.ofInt 64 (b : Int)).toNat : Int) = _
 rw [BitVec.toNat_xor, h1, h2, IntKind.wrap_i64]
 omega
theorem i64_xor (a b : Int) (ha : 0 ≤ a) (ha2 : a < 4294967296) (hb : 0 ≤ b) (hb2 : b < 4294967296) : 0 ≤ bits .xor .i64 a b ∧ bits .xor .i64 a b < 4294967296 := by
 obtain ⟨m, rfl⟩ := Int.eq_ofNat_of_zero_le ha
 obtain ⟨n, rfl⟩ := Int.eq_ofNat_of_zero_le hb
 rw [i64_xor_nat m n (by omega) (by omega)]
 have hx : m ^^^ n < 2 ^ 32 := Nat.xor_lt_two_pow (by omega) (by omega)
 omega
theorem tmod_lt {a n : Int} (ha : 0 ≤ a) (hn : 0 < n) : 0 ≤ Int.tmod a n ∧ Int.tmod a n < n := by
 rw [Int.tmod_eq_emod_of_nonneg ha]
 exact ⟨Int.emod_nonneg _ (by omega), Int.emod_lt_of_pos _ hn⟩
theorem tdiv_le {a n : Int} (ha : 0 ≤ a) (hn : 0 < n) : 0 ≤ Int.tdiv a n ∧ Int.tdiv a n ≤ a := by
 rw [Int.tdiv_eq_ediv_of_nonneg ha]
 exact ⟨Int.ediv_nonneg ha (by omega), Int.ediv_le_self _ ha⟩
end Go.Proofs.YtimbfcedigaffaaDoor.Core
end
section
namespace Go.Proofs.YtimbfcedigaffaaDoor.Core
open Go Go.RowKit Go.Proofs.YtimbfcedigaffaaDoorW.PrintWords Go.Proofs.YtimbfcedigaffaaDoorW.PrintMore Go.Proofs.YtimbfcedigaffaaDoor.P
theorem asc_ext : ∀ {a b : List Int}, ascD a = true → ascD b = true → (∀ x, x ∈ a ↔ x ∈ b) → a = b
 | [], [], _, _, _ => rfl
 | [], y :: b, _, _, h => by have := (h y).2 List.mem_cons_self; cases this
 | x :: a, [], _, _, h => by have := (h x).1 List.mem_cons_self; cases this
 | x :: a, y :: b, ha, hb, h => by
  have h1 := asc_lt ha
  have h2 := asc_lt hb
  have e : x = y := by
   rcases List.mem_cons.1 ((h x).1 List.mem_cons_self) with e | e
   ·exact e
   ·rcases List.mem_cons.1 ((h y).2 List.mem_cons_self) with e' | e'
    ·exact e'.symm
    ·have := h1.2 y e'
     have := h2.2 x e
     omega
  subst e
  rw [asc_ext h1.1 h2.1 (fun z => ⟨fun hz => ?_, fun hz => ?_⟩)]
  ·rcases List.mem_cons.1 ((h z).1 (List.mem_cons_of_mem _ hz)) with e | e
   ·have := h1.2 z hz; omega
   ·exact e
  ·rcases List.mem_cons.1 ((h z).2 (List.mem_cons_of_mem _ hz)) with e | e
   ·have := h2.2 z hz; omega
   ·exact e
theorem asc_filter (p : Nat → Bool) : ∀ (m i : Nat), ascD (up ((List.range' i m).filter p)) = true ∧ ∀ x ∈ up ((List.range' i m).filter p), (i : Int) ≤ x
 | 0, i => ⟨rfl, by simp [up]⟩
 | m + 1, i => by
  have ih := asc_filter p m (i + 1)
  rw [List.range'_succ, List.filter_cons]
  split
  ·refine ⟨asc_mk ih.1 (fun y hy => by have := ih.2 y hy; show (i : Int) < y; omega), fun x hx => ?_⟩
   rcases List.mem_cons.1 hx with rfl | hx
   ·exact Int.le_refl _
   ·have := ih.2 x hx; omega
  ·exact ⟨ih.1, fun x hx => by have := ih.2 x hx; omega⟩
theorem asc_elems (s : Nat) : ascD (up (elemsN s)) = true := by
 unfold elemsN
 rw [List.range_eq_range']
 exact (asc_filter (fun i => s.testBit i) 8 0).1
theorem rd_up' (L : List Nat) (i : Nat) : rd (up L) (i : Int) = ((L.getD i 0 : Nat) : Int) := rd_up rfl
end Go.Proofs.YtimbfcedigaffaaDoor.Core
end
section
namespace Go.Proofs.YtimbfcedigaffaaDoor.Core
open Go Go.RowKit Go.Proofs.YtimbfcedigaffaaDoorW.PrintWords Go.Proofs.YtimbfcedigaffaaDoorW.PrintMore Go.Proofs.YtimbfcedigaffaaDoor.P
theorem full_of_bits {n p : Nat} (hp : p < 2 ^ n) (h : ∀ i, i < n → p.testBit i = true) : p = 2 ^ n - 1 := by
 refine Nat.eq_of_testBit_eq fun i => ?_
 rw [Nat.testBit_two_pow_sub_one]
 by_cases hi : i < n
 ·rw [h i hi]; simp [hi]
 ·rw [Nat.testBit_lt_two_pow (Nat.lt_of_lt_of_le hp (Nat.pow_le_pow_right (by omega) (by omega)))]
  simp [hi]
/-- What is known of a valid graph. -/
structure VG (g : List Tk) (G : GD) : Prop where
 tasks : G.tasks = g
 n8 : g.length ≤ 8
 nl : G.needs.length = g.length
 nb : below1 g.length G.needs
 needsD : needsD g = some G.needs
 bits : ∀ i, i < g.length → ∀ j : Nat, (G.needs.getD i 0).testBit j = decide ((j : Int) ∈ (g.getD i z39).f1)
 fine : fineD g
 ord : OrdOk G.needs G.order (2 ^ g.length - 1)
theorem vg_of {g : List Tk} {G : GD} (h : graphD g = some G) : VG g G := by
 obtain ⟨N, hN, hf, rfl⟩ := graphD_spec h
 obtain ⟨h8, hl, hb⟩ := needsD_spec hN
 have ok := orderD_ok (N := N) (by omega) (by rw [hl]; exact hb)
 rw [hf] at ok
 exact ⟨rfl, h8, hl, hb, hN, (needsD_fine hN).2, (needsD_fine hN).1, ok⟩
theorem VG.mem {g : List Tk} {G : GD} (v : VG g G) {i : Nat} : i ∈ G.order ↔ i < g.length := by
 rw [← v.ord.set i, Nat.testBit_two_pow_sub_one]
 simp
/-- There is a next task as long as not all are done. -/
theorem VG.next {g : List Tk} {G : GD} (v : VG g G) {p : Nat} (hp : p < 2 ^ g.length) (hne : p ≠ 2 ^ g.length - 1) : ∃ i, i < g.length ∧ p.testBit i = false ∧ sub (G.needs.getD i 0) p = 0 := by
 have h256 : 2 ^ g.length ≤ 256 := pow8 v.n8
 have key : ∀ (suf pre : List Nat), G.order = pre ++ suf → (∀ i ∈ pre, p.testBit i = true) → (∃ i ∈ suf, p.testBit i = false) → ∃ i, i < g.length ∧ p.testBit i = false ∧ sub (G.needs.getD i 0) p = 0 := by
  intro suf
  induction suf with
  | nil => rintro pre _ _ ⟨i, hi, _⟩; cases hi
  | cons j suf ih =>
   intro pre ho hpre hex
   by_cases hj : p.testBit j = true
   ·refine ih (pre ++ [j]) (by rw [ho]; simp) (fun i hi => ?_) ?_
    ·rcases List.mem_append.1 hi with hi | hi
     ·exact hpre i hi
     ·rw [List.mem_singleton.1 hi]; exact hj
    ·obtain ⟨i, hi, hb⟩ := hex
     rcases List.mem_cons.1 hi with rfl | hi
     ·rw [hj] at hb; cases hb
     ·exact ⟨i, hi, hb⟩
   ·have hjl : j < g.length := v.mem.1 (by rw [ho]; simp)
    refine ⟨j, hjl, by simpa using hj, ?_⟩
    have hNj := getD_lt v.nb j
    refine (sub_zero (by omega) (by omega)).2 fun k hk => ?_
    exact hpre k (v.ord.needs pre j suf ho k hk)
 refine key G.order [] rfl (by simp) ?_
 refine Decidable.byContradiction fun hno => hne (full_of_bits hp fun i hi => ?_)
 cases hb : p.testBit i with
 | true => rfl
 | false => exact absurd ⟨i, v.mem.2 hi, hb⟩ hno
theorem nextFrom_some {N : List Nat} {d : Nat} : ∀ {m i k : Nat}, i ≤ k → k < i + m → d.testBit k = false → sub (N.getD k 0) d = 0 → ∃ j, nextFrom N d i m = some j
 | 0, i, k, h1, h2, _, _ => by omega
 | m + 1, i, k, h1, h2, h3, h4 => by
  rw [nextFrom]
  by_cases hc : d.testBit i = false ∧ sub (N.getD i 0) d = 0
  ·exact ⟨i, if_pos hc⟩
  ·rw [if_neg hc]
   have : k ≠ i := fun e => hc (e ▸ ⟨h3, h4⟩)
   exact nextFrom_some (by omega) (by omega) h3 h4
theorem orderGo_full {N : List Nat} (hn : N.length ≤ 8) (hb : below1 N.length N) (hx : ∀ d, d < 2 ^ N.length → d ≠ 2 ^ N.length - 1 → ∃ i, i < N.length ∧ d.testBit i = false ∧ sub (N.getD i 0) d = 0) :
  ∀ (m : Nat) (L : List Nat) (d : Nat), OrdOk N L d → zb N.length d ≤ m → (orderGo N m L d).2 = 2 ^ N.length - 1
 | 0, L, d, ok, hm => by
  rw [orderGo]
  exact full_of_bits (p := d) ok.dlt (zb_zero_full (n := 0) (by omega))
 | m + 1, L, d, ok, hm => by
  rw [orderGo]
  by_cases hd : d = 2 ^ N.length - 1
  ·cases he : nextD N d with
   | some j =>
    have := nextD_spec he
    rw [hd, Nat.testBit_two_pow_sub_one] at this
    simp at this
    omega
   | none =>
    simp only []
    refine orderGo_full hn hb hx m L d ok ?_
    rw [hd, zb_full _ _ (Nat.le_refl _)]
    omega
  ·obtain ⟨i, hi, h1, h2⟩ := hx d ok.dlt hd
   obtain ⟨j, hj⟩ := nextFrom_some (N := N) (d := d) (m := N.length) (i := 0) (k := i) (by omega) (by omega) h1 h2
   have hj' : nextD N d = some j := hj
   rw [hj']
   simp only []
   have hs := nextD_spec hj'
   have := next_zb hj'
   exact orderGo_full hn hb hx m _ _ (ok.step hn hb hs.1 hs.2.1 hs.2.2) (by omega)
/-- A graph of fine tasks is valid if there is always a next task. -/
theorem graphD_of_next {g : List Tk} {N : List Nat} (hN : needsD g = some N) (hx : ∀ d, d < 2 ^ g.length → d ≠ 2 ^ g.length - 1 → ∃ i, i < g.length ∧ d.testBit i = false ∧ sub (N.getD i 0) d = 0) : graphD g = some (mkG g N) := by
 obtain ⟨h8, hl, hb⟩ := needsD_spec hN
 have : (orderD N).2 = 2 ^ g.length - 1 := by
  rw [← hl]
  exact orderGo_full (by omega) (by rw [hl]; exact hb) (by rw [hl]; exact hx) N.length [] 0 (ordOk_nil N) (by rw [zb_zero]; exact Nat.le_refl _)
 unfold graphD
 rw [hN]
 simp only []
 rw [if_pos this]
theorem zb_count (p : Nat) : ∀ n, zb n p = ((List.range n).filter (fun i => !p.testBit i)).length
 | 0 => rfl
 | n + 1 => by
  rw [zb, zb_count p n, List.range_succ, List.filter_append, List.length_append]
  congr 1
  by_cases h : p.testBit n = true
  ·simp [h]
  ·simp [h]
theorem VG.needs_len {g : List Tk} {G : GD} (v : VG g G) : G.needs.length ≤ 8 := by have := v.nl; have := v.n8; omega
theorem VG.mem_ready {g : List Tk} {G : GD} (v : VG g G) {p i : Nat} : i ∈ elemsN (G.ready p) ↔ i < g.length ∧ p.testBit i = false ∧ sub (G.needs.getD i 0) p = 0 := by
 rw [Core.mem_ready v.needs_len, v.nl]
end Go.Proofs.YtimbfcedigaffaaDoor.Core
end
section
namespace Go.Proofs.YtimbfcedigaffaaDoor.Core
open Go Go.RowKit Go.Proofs.YtimbfcedigaffaaDoorW.PrintWords Go.Proofs.YtimbfcedigaffaaDoorW.PrintMore Go.Proofs.YtimbfcedigaffaaDoor.P
/-- Whether a list has different tasks, none of a set, each behind its needs. -/
def ordOk (n : Nat) (N : List Nat) : List Int → Nat → Bool
 | [], _ => true
 | x :: r, s => if (0 ≤ x ∧ x ≤ (n : Int) - 1) ∧ s.testBit x.toNat = false ∧ sub (N.getD x.toNat 0) s = 0 then ordOk n N r (s ||| 2 ^ x.toNat) else false
def startGo (g : List Tk) (N : List Nat) (room : List Int) (wk : Int) : List Int → Nat → List Nat → List Nat
 | [], _, L => L
 | x :: r, pl, L => startGo g N room wk r (pl ||| 2 ^ x.toNat) (L.set x.toNat (earlD g L (N.getD x.toNat 0) pl x.toNat room wk))
theorem startGo_length (g : List Tk) (N : List Nat) (room : List Int) (wk : Int) : ∀ (r : List Int) (pl : Nat) (L : List Nat), (startGo g N room wk r pl L).length = L.length
 | [], _, _ => rfl
 | x :: r, pl, L => by
  unfold startGo
  rw [startGo_length g N room wk r, List.length_set]
theorem sub_none {a b : Nat} (ha : a < 256) (hb : b < 256) (h : sub a b = 0) : ∀ k, a.testBit k = true → b.testBit k = true := by
 intro k hk
 have h1 := sub_testBit (i := k) ha hb
 rw [h, Nat.zero_testBit, hk, Bool.true_and] at h1
 cases hb' : b.testBit k with
 | true => rfl
 | false => rw [hb'] at h1; cases h1
/-- What is known of the beginnings when j tasks have got theirs. -/
structure StOk (g : List Tk) (L : List Nat) (s j : Nat) : Prop where
 len : L.length = g.length
 over : overBy g L s (20 * j)
 le : leB (20 * j) L
theorem st_zero (g : List Tk) : StOk g (List.replicate g.length 0) 0 0 :=
 ⟨by simp, (fun k hk => by rw [Nat.zero_testBit] at hk; cases hk), fun k => by rw [List.getD_eq_getElem?_getD, List.getElem?_replicate]; split <;> simp⟩
theorem StOk.step {g : List Tk} {room : List Int} {wk : Int} (hf : Fine g room wk) {L : List Nat} {s j x nd : Nat} (h : StOk g L s j) (hx : x < g.length) (hj : j ≤ 8) (hs : ∀ k, nd.testBit k = true → s.testBit k = true) (hxs : s.testBit x = false) : StOk g (L.set x (earlD g L nd s x room wk)) (s ||| 2 ^ x) (j + 1) ∧ earlD g L nd s x room wk ≤ 20 * j := by
 have he := (earlD_le hf hx h.over (by omega) hs).1
 refine ⟨⟨by rw [List.length_set]; exact h.len, ?_, ?_⟩, he⟩
 ·intro k hk
  rw [or_bit] at hk
  by_cases e : x = k
  ·subst e
   have ht := (hf.tm x hx).2
   unfold endN
   rw [List.getD_eq_getElem?_getD, List.getElem?_set_self (by rw [h.len]; exact hx), Option.getD_some]
   omega
  ·rw [decide_eq_false e, Bool.or_false] at hk
   have := h.over k hk
   unfold endN at this ⊢
   rw [List.getD_eq_getElem?_getD, List.getElem?_set_ne e, ← List.getD_eq_getElem?_getD]
   omega
 ·intro k
  by_cases e : x = k
  ·subst e
   rw [List.getD_eq_getElem?_getD, List.getElem?_set_self (by rw [h.len]; exact hx), Option.getD_some]
   omega
  ·rw [List.getD_eq_getElem?_getD, List.getElem?_set_ne e, ← List.getD_eq_getElem?_getD]
   have := h.le k
   omega
end Go.Proofs.YtimbfcedigaffaaDoor.Core
end
section
namespace Go.Proofs.YtimbfcedigaffaaDoor.Core
open Go Go.RowKit Go.Proofs.YtimbfcedigaffaaDoorW.PrintWords Go.Proofs.YtimbfcedigaffaaDoorW.PrintMore Go.Proofs.YtimbfcedigaffaaDoor.P
def ordersL (N : List Nat) : Nat → List Nat → Nat → List (List Int)
 | 0, _, _ => []
 | k + 1, L, d => if L.length = N.length then [up L] else ((List.range N.length).filter (canNext N d)).flatMap fun i => ordersL N k (L ++ [i]) (d ||| 2 ^ i)
theorem flat_le {α β : Type} {f : α → List β} {b : Nat} (h : ∀ x, (f x).length ≤ b) : ∀ l : List α, (l.flatMap f).length ≤ l.length * b
 | [] => by simp
 | x :: l => by
  have := flat_le h l
  have := h x
  simp only [List.flatMap_cons, List.length_append, List.length_cons, Nat.add_mul, Nat.one_mul]
  omega
theorem ordersL_le {N : List Nat} (hn : N.length ≤ 8) : ∀ k L d, (ordersL N k L d).length ≤ 8 ^ k
 | 0, L, d => by simp [ordersL]
 | k + 1, L, d => by
  unfold ordersL
  split
  ·exact Nat.one_le_pow _ _ (by omega)
  ·refine Nat.le_trans (flat_le (fun i => ordersL_le hn k (L ++ [i]) (d ||| 2 ^ i)) _) ?_
   rw [Nat.pow_succ, Nat.mul_comm]
   refine Nat.mul_le_mul_left _ (Nat.le_trans (List.length_filter_le _ _) ?_)
   simpa using hn
theorem ev_ord_scan {g : List Tk} (hg : Fits g) {N : List Nat} (hN : needsD g = some N) (L : List Nat) (d : Nat) (hL : L.length ≤ 100) (hd : d < 256) (hs : ∀ i, d.testBit i = true ↔ i ∈ L) (kk : Nat) (hk : kk ≤ 9) (F : Nat → List (List Int)) (hF : ∀ i, (F i).length ≤ 8 ^ kk)
  (ho : ∀ j, j < g.length → canNext N d j = true → Ev (fun k => spec_orders.f k g (up (L ++ [j]))) (F j)) : ∀ (m i : Nat) (acc : List (List Int)), i + m = g.length → acc.length ≤ i * 8 ^ kk →
  Ev (fun k => spec_orders.l0 k g (up L) acc (i : Int)) (acc ++ ((List.range' i m).filter (canNext N d)).flatMap F)
 | 0, i, acc, hi, ha => by
  refine Ev.succ ((Ev.const _).of fun k => ?_)
  rw [spec_orders.l0, if_neg (by omega)]
  simp
 | m + 1, i, acc, hi, ha => by
  have hig : i < g.length := by omega
  have h8 := (needsD_spec hN).1
  have hpow : 8 ^ kk ≤ 8 ^ 9 := Nat.pow_le_pow_right (by omega) hk
  have h89 : (8 : Nat) ^ 9 = 134217728 := by decide
  have hi8 : i * 8 ^ kk ≤ 8 * 134217728 := by
   refine Nat.mul_le_mul (by omega) ?_
   rw [← h89]; exact hpow
  have hin := ev_isIn (L := up L) (by rw [up_length]; unfold big; omega) (i : Int)
  have hdn := ev_allDone (L := (g.getD i z39).f1) (M := up L) (hg.2 _ (getD_mem hig)) (by rw [up_length]; unfold big; omega)
  have e1 : decide ((i : Int) ∈ up L) = d.testBit i := by rw [Bool.eq_iff_iff, decide_eq_true_eq, mem_up, hs]
  have e2 : decide (∀ x ∈ (g.getD i z39).f1, x ∈ up L) = decide (sub (N.getD i 0) d = 0) := by rw [decide_eq_decide]; exact done_iff hN hd hs hig
  rw [e1] at hin
  rw [e2] at hdn
  have hw : wrap64 ((i : Int) + 1) = ((i + 1 : Nat) : Int) := w64s (by unfold big; omega)
  have e3 : up (L ++ [i]) = up L ++ [(i : Int)] := by simp [up]
  have hno : canNext N d i = false → Ev (fun k => spec_orders.j1 k g (up L) acc (i : Int) false) (acc ++ ((List.range' i (m + 1)).filter (canNext N d)).flatMap F) := by
   intro hc
   have ih := ev_ord_scan hg hN L d hL hd hs kk hk F hF ho m (i + 1) acc (by omega) (Nat.le_trans ha (Nat.mul_le_mul_right _ (by omega)))
   rw [List.range'_succ, List.filter_cons, hc]
   refine Ev.succ (ih.of fun k => ?_)
   rw [spec_orders.j1, if_neg (by simp), hw]
  have hyes : canNext N d i = true → Ev (fun k => spec_orders.j1 k g (up L) acc (i : Int) true) (acc ++ ((List.range' i (m + 1)).filter (canNext N d)).flatMap F) := by
   intro hc
   have hFi := hF i
   have ih := ev_ord_scan hg hN L d hL hd hs kk hk F hF ho m (i + 1) (acc ++ F i) (by omega) (by rw [List.length_append, Nat.add_mul, Nat.one_mul]; omega)
   have hf := ho i hig hc
   have e4 : acc ++ ((List.range' i (m + 1)).filter (canNext N d)).flatMap F = (acc ++ F i) ++ ((List.range' (i + 1) m).filter (canNext N d)).flatMap F := by
    rw [List.range'_succ, List.filter_cons, hc]
    simp
   rw [e4]
   refine Ev.succ ?_
   refine (hf.bind (g := fun k t157 => if acc.length + t157.length < 5864062014805 then spec_orders.l0 k g (up L) (acc ++ t157) ((i + 1 : Nat) : Int) else none) (ih.of fun k => if_pos (by omega))).of fun k => ?_
   rw [spec_orders.j1, if_pos rfl, copyInts_eq (by rw [up_length]; unfold big; omega) (by rw [up_length]; omega), Option.bind_some, if_pos (by rw [up_length]; omega), hw, e3]
  refine Ev.succ ?_
  have hu : ∀ k, spec_orders.l0 (k + 1) g (up L) acc (i : Int) = (spec_isIn.f k (up L) (i : Int)).bind fun t148 => (if t148 = true then (spec_orders.j1 k g (up L) acc (i : Int) false) else ((spec_allDone.f k (g.getD i z39).f1 (up L)).bind fun t150 => (spec_orders.j1 k g (up L) acc (i : Int) t150))) := by
   intro k
   rw [spec_orders.l0, if_pos (show (i : Int) < (g.length : Int) by omega), if_pos (show 0 ≤ (i : Int) by omega), rdT_nat]
  refine Ev.of ?_ hu
  refine hin.bind (g := fun k t148 => (if t148 = true then (spec_orders.j1 k g (up L) acc (i : Int) false) else ((spec_allDone.f k (g.getD i z39).f1 (up L)).bind fun t150 => (spec_orders.j1 k g (up L) acc (i : Int) t150)))) ?_
  cases hbit : d.testBit i with
  | true => exact (hno (by simp [canNext, hbit])).of fun k => if_pos rfl
  | false =>
   by_cases hz : sub (N.getD i 0) d = 0
   ·rw [decide_eq_true hz] at hdn
    refine (hdn.bind (g := fun k t150 => spec_orders.j1 k g (up L) acc (i : Int) t150) (hyes (by unfold canNext; rw [hbit, decide_eq_true hz]; rfl))).of fun k => ?_
    rw [if_neg (by simp)]
   ·rw [decide_eq_false hz] at hdn
    refine (hdn.bind (g := fun k t150 => spec_orders.j1 k g (up L) acc (i : Int) t150) (hno (by unfold canNext; rw [decide_eq_false hz, Bool.and_false]))).of fun k => ?_
    rw [if_neg (by simp)]
theorem ev_orders {g : List Tk} (hg : Fits g) {N : List Nat} (hN : needsD g = some N) : ∀ (m : Nat), m ≤ 9 → ∀ (L : List Nat) (d : Nat), OrdOk N L d → zb N.length d < m → Ev (fun k => spec_orders.f k g (up L)) (ordersL N m L d) := by
 obtain ⟨h8, hl, hb⟩ := needsD_spec hN
 have hb' : below1 N.length N := by rw [hl]; exact hb
 intro m
 induction m with
 | zero => intro _ L d _ h; omega
 | succ m ih =>
  intro hm L d ok hz
  have hlen := ok.len
  have hlt := Nat.lt_of_lt_of_le ok.dlt (pow8 (n := N.length) (by omega))
  unfold ordersL
  by_cases hfull : L.length = N.length
  ·rw [if_pos hfull]
   refine Ev.succ ((Ev.const _).of fun k => ?_)
   rw [spec_orders.f, if_pos (by rw [up_length]; omega), copyInts_eq (by rw [up_length]; unfold big; omega) (by rw [up_length]; omega)]
   rfl
  ·rw [if_neg hfull]
   have h := ev_ord_scan hg hN L d (by omega) hlt ok.set m (by omega) (fun i => ordersL N m (L ++ [i]) (d ||| 2 ^ i)) (fun i => ordersL_le (by omega) _ _ _) (fun j hj hc => by
    have hc2 : d.testBit j = false ∧ sub (N.getD j 0) d = 0 := by simpa [canNext] using hc
    have hlt2 := zb_lt hc2.1 (n := N.length) (by omega)
    exact ih (by omega) (L ++ [j]) (d ||| 2 ^ j) (ok.step (by omega) hb' (by omega) hc2.1 hc2.2) (by omega)) g.length 0 [] (by omega) (by simp)
   refine Ev.succ (Ev.of (f := fun k => spec_orders.l0 k g (up L) [] ((0 : Nat) : Int)) ?_ fun k => ?_)
   ·rw [List.nil_append, ← List.range_eq_range'] at h
    rw [hl]
    exact h
   ·rw [spec_orders.f, if_neg (by rw [up_length]; omega)]
    rfl
end Go.Proofs.YtimbfcedigaffaaDoor.Core
end
section
namespace Go.Proofs.YtimbfcedigaffaaDoor.Core
open Go Go.RowKit Go.Proofs.YtimbfcedigaffaaDoorW.PrintWords Go.Proofs.YtimbfcedigaffaaDoorW.PrintMore Go.Proofs.YtimbfcedigaffaaDoor.P
theorem elemsN_range' {s n : Nat} (hn : n ≤ 8) (hs : s < 2 ^ n) : elemsN s = (List.range n).filter (fun i => s.testBit i) := by
 have e8 : List.range 8 = List.range n ++ (List.range (8 - n)).map (n + ·) := by rw [← List.range_add]; congr 1; omega
 unfold elemsN
 rw [e8, List.filter_append]
 have e2 : ((List.range (8 - n)).map (n + ·)).filter (fun i => s.testBit i) = [] := by
  rw [List.filter_eq_nil_iff]
  intro y hy hb
  obtain ⟨z, _, rfl⟩ := List.mem_map.1 hy
  rw [Nat.testBit_lt_two_pow (Nat.lt_of_lt_of_le hs (Nat.pow_le_pow_right (by omega) (by omega)))] at hb
  cases hb
 rw [e2, List.append_nil]
theorem full_zb {n p : Nat} (hp : p < 2 ^ n) : zb n p = 0 ↔ p = 2 ^ n - 1 := by
 constructor
 ·intro h
  exact full_of_bits hp (zb_zero_full (n := 0) h)
 ·intro h
  rw [h]; exact zb_full _ _ (Nat.le_refl _)
end Go.Proofs.YtimbfcedigaffaaDoor.Core
end
section
namespace Go.Proofs.YtimbfcedigaffaaDoor.Core
open Go Go.RowKit Go.Proofs.YtimbfcedigaffaaDoorW.PrintWords Go.Proofs.YtimbfcedigaffaaDoorW.PrintMore Go.Proofs.YtimbfcedigaffaaDoor.P
theorem VG.sub_iff' {g : List Tk} {G : GD} (v : VG g G) {p i : Nat} (hp : p < 2 ^ g.length) : sub (G.needs.getD i 0) p = 0 ↔ ∀ j, (G.needs.getD i 0).testBit j = true → p.testBit j = true := by
 have h256 : 2 ^ g.length ≤ 256 := pow8 v.n8
 have := getD_lt v.nb i
 exact sub_zero (by omega) (by omega)
end Go.Proofs.YtimbfcedigaffaaDoor.Core
end
section
namespace Go.Proofs.YtimbfcedigaffaaDoor.Core
open Go Go.RowKit Go.Proofs.YtimbfcedigaffaaDoorW.PrintWords Go.Proofs.YtimbfcedigaffaaDoorW.PrintMore Go.Proofs.YtimbfcedigaffaaDoor.P
theorem VG.need_lt {g : List Tk} {G : GD} (v : VG g G) {i m : Nat} (h : (G.needs.getD i 0).testBit m = true) : m < g.length := by
 have h1 := getD_lt v.nb i
 have h2 := Nat.ge_two_pow_of_testBit h
 have h3 : 2 ^ m < 2 ^ g.length := Nat.lt_of_le_of_lt h2 h1
 exact (Nat.pow_lt_pow_iff_right (by omega)).1 h3
theorem VG.list {g : List Tk} {G : GD} (v : VG g G) {i : Nat} (hi : i < g.length) : (g.getD i z39).f1 = up (elemsN (G.needs.getD i 0)) := by
 have hg : g.getD i z39 ∈ g := by
  rw [List.getD_eq_getElem?_getD, List.getElem?_eq_getElem hi]
  exact List.getElem_mem hi
 have hf := (v.fine.1 _ hg).2
 refine asc_ext hf.2 (asc_elems _) (fun x => ?_)
 show _ ↔ x ∈ elems _
 rw [mem_elems]
 constructor
 ·intro hx
  have hb := hf.1 x hx
  have h8 := v.n8
  refine ⟨x.toNat, by omega, by omega, ?_⟩
  rw [v.bits i hi, decide_eq_true_eq, show ((x.toNat : Nat) : Int) = x by omega]
  exact hx
 ·rintro ⟨k, rfl, _, hk⟩
  rw [v.bits i hi, decide_eq_true_eq] at hk
  exact hk
end Go.Proofs.YtimbfcedigaffaaDoor.Core
end
section
namespace Go.Proofs.YtimbfcedigaffaaDoor.Core
open Go Go.RowKit Go.Proofs.YtimbfcedigaffaaDoorW.PrintWords Go.Proofs.YtimbfcedigaffaaDoorW.PrintMore Go.Proofs.YtimbfcedigaffaaDoor.P
/-- The best so far, with one order more. -/
def bstep (f : List Int → Nat) (s : Option (List Int × Nat)) (o : List Int) : Option (List Int × Nat) := match s with
 | none => some (o, f o)
 | some b => if f o < b.2 then some (o, f o) else some b
/-- Whether a branch is cut. -/
def cutB (s : Option (List Int × Nat)) (e : Nat) : Bool := match s with
 | none => false
 | some b => decide (b.2 ≤ e)
/-- The program's search: the beginnings L of the list, the set d of its tasks, when they are over. -/
def fromF (g : List Tk) (N : List Nat) (room : List Int) (wk : Int) : Nat → List Nat → List Nat → Nat → Nat → Option (List Int × Nat) → Option (List Int × Nat)
 | 0, _, _, _, _, s => s
 | k + 1, lst, L, d, e, s => if cutB s e = true then s else if lst.length = N.length then some (up lst, e) else
   ((List.range N.length).filter (canNext N d)).foldl (fun s i => fromF g N room wk k (lst ++ [i]) (L.set i (earlD g L (N.getD i 0) d i room wk)) (d ||| 2 ^ i) (max e (earlD g L (N.getD i 0) d i room wk + tmN g i)) s) s
/-- When the last task of an order is over, from a place on. -/
def endGo (g : List Tk) (N : List Nat) (room : List Int) (wk : Int) : List Int → Nat → List Nat → Nat → Nat
 | [], _, _, e => e
 | x :: r, pl, L, e => endGo g N room wk r (pl ||| 2 ^ x.toNat) (L.set x.toNat (earlD g L (N.getD x.toNat 0) pl x.toNat room wk)) (max e (earlD g L (N.getD x.toNat 0) pl x.toNat room wk + tmN g x.toNat))
theorem endGo_ge (g : List Tk) (N : List Nat) (room : List Int) (wk : Int) : ∀ (r : List Int) (pl : Nat) (L : List Nat) (e : Nat), e ≤ endGo g N room wk r pl L e
 | [], _, _, _ => Nat.le_refl _
 | x :: r, pl, L, e => Nat.le_trans (Nat.le_max_left _ _) (endGo_ge g N room wk r _ _ _)
theorem fold_flat {α β γ : Type} (f : γ → β → γ) (F : α → List β) : ∀ (l : List α) (s : γ), (l.flatMap F).foldl f s = l.foldl (fun s i => (F i).foldl f s) s
 | [], _ => rfl
 | x :: l, s => by rw [List.flatMap_cons, List.foldl_append, fold_flat f F l]; rfl
theorem fold_cut (f : List Int → Nat) {s : Option (List Int × Nat)} {e : Nat} (hc : cutB s e = true) : ∀ (os : List (List Int)), (∀ o ∈ os, e ≤ f o) → os.foldl (bstep f) s = s
 | [], _ => rfl
 | o :: os, h => by
  have h1 := h o List.mem_cons_self
  have : bstep f s o = s := by
   cases s with
   | none => cases hc
   | some b =>
    have hb := of_decide_eq_true (show decide (b.2 ≤ e) = true from hc)
    show (if f o < b.2 then some (o, f o) else some b) = some b
    rw [if_neg (by omega)]
  rw [List.foldl_cons, this]
  exact fold_cut f hc os (fun o ho => h o (List.mem_cons_of_mem _ ho))
/-- All orders that begin with a list begin with it. -/
theorem ordersL_pre {N : List Nat} : ∀ (k : Nat) (lst : List Nat) (d : Nat), ∀ o ∈ ordersL N k lst d, ∃ r, o = up lst ++ r
 | 0, _, _, o, h => by cases h
 | k + 1, lst, d, o, h => by
  unfold ordersL at h
  by_cases hf : lst.length = N.length
  ·rw [if_pos hf] at h
   exact ⟨[], by rw [List.mem_singleton.1 h, List.append_nil]⟩
  ·rw [if_neg hf] at h
   obtain ⟨i, hi, ho⟩ := List.mem_flatMap.1 h
   obtain ⟨r, e⟩ := ordersL_pre k (lst ++ [i]) (d ||| 2 ^ i) o ho
   exact ⟨(i : Int) :: r, by rw [e]; simp [up]⟩
/-- Branches and bounds give the first one of the least. -/
theorem fromF_fold {g : List Tk} {N : List Nat} {room : List Int} {wk : Int} (f : List Int → Nat) : ∀ (k : Nat) (lst L : List Nat) (d e : Nat) (s : Option (List Int × Nat)), (∀ r, f (up lst ++ r) = endGo g N room wk r d L e) →
  fromF g N room wk k lst L d e s = (ordersL N k lst d).foldl (bstep f) s
 | 0, _, _, _, _, _, _ => rfl
 | k + 1, lst, L, d, e, s, hf => by
  unfold fromF
  by_cases hc : cutB s e = true
  ·rw [if_pos hc]
   refine (fold_cut f hc _ (fun o ho => ?_)).symm
   obtain ⟨r, hr⟩ := ordersL_pre (k + 1) lst d o ho
   rw [hr, hf r]
   exact endGo_ge g N room wk r d L e
  ·rw [if_neg hc]
   unfold ordersL
   by_cases hl : lst.length = N.length
   ·rw [if_pos hl, if_pos hl]
    have h0 := hf []
    rw [List.append_nil] at h0
    have h0 : f (up lst) = e := h0
    show _ = bstep f s (up lst)
    cases s with
    | none => show some (up lst, e) = some (up lst, f (up lst)); rw [h0]
    | some b =>
     have hb : ¬ b.2 ≤ e := fun h => hc (decide_eq_true h)
     show _ = (if f (up lst) < b.2 then some (up lst, f (up lst)) else some b)
     rw [h0, if_pos (by omega)]
   ·rw [if_neg hl, if_neg hl, fold_flat]
    refine congrFun (congrArg (fun F => List.foldl F s) ?_) _
    funext s i
    refine fromF_fold f k (lst ++ [i]) _ (d ||| 2 ^ i) _ s (fun r => ?_)
    have h1 := hf ((i : Int) :: r)
    rw [show up (lst ++ [i]) ++ r = up lst ++ (i : Int) :: r by simp [up], h1]
    show endGo g N room wk r (d ||| 2 ^ ((i : Nat) : Int).toNat) _ _ = _
    rw [Int.toNat_natCast]
end Go.Proofs.YtimbfcedigaffaaDoor.Core
end
section
namespace Go.Proofs.YtimbfcedigaffaaDoor.Core
open Go Go.RowKit Go.Proofs.YtimbfcedigaffaaDoorW.PrintWords Go.Proofs.YtimbfcedigaffaaDoorW.PrintMore Go.Proofs.YtimbfcedigaffaaDoor.P
/-- How many units of a pool tasks take. -/
def usedN (g : List Tk) (p : Int) : List Nat → Int
 | [] => 0
 | i :: r => (if (g.getD i z39).f2 = p then (g.getD i z39).f3 else 0) + usedN g p r
def UOk (g : List Tk) (L : List Nat) : Prop := ∀ i ∈ L, 1 ≤ (g.getD i z39).f3 ∧ (g.getD i z39).f3 ≤ 4
theorem usedN_bd {g : List Tk} {p : Int} : ∀ {L : List Nat}, UOk g L → 0 ≤ usedN g p L ∧ usedN g p L ≤ 4 * L.length
 | [], _ => by simp [usedN]
 | i :: r, h => by
  have ih := usedN_bd (p := p) (L := r) (fun j hj => h j (List.mem_cons_of_mem _ hj))
  have hi := h i List.mem_cons_self
  simp only [usedN, List.length_cons]
  split <;> omega
theorem ev_used {g : List Tk} (p : Int) (L0 : List Nat) (hb : L0.length ≤ 100) (hL : ∀ i ∈ L0, i < g.length) (hu : UOk g L0) : Ev (fun k => spec_used.f k g (up L0) p) (usedN g p L0) := by
 have key : ∀ (r pre : List Nat) (acc : Int), L0 = pre ++ r → 0 ≤ acc → acc + 4 * r.length ≤ 1000 → Ev (fun k => spec_used.l0 k g (up L0) p acc (pre.length : Int)) (acc + usedN g p r) := by
  intro r
  induction r with
  | nil =>
   intro pre acc hp h0 h1
   rw [List.append_nil] at hp
   subst hp
   refine Ev.succ ?_
   simp only [spec_used.l0, up_length]
   refine Ev.neg (by omega) ((Ev.const _).conv ?_)
   simp [usedN]
  | cons i r ih =>
   intro pre acc hp h0 h1
   have hi : i < g.length := hL i (by rw [hp]; simp)
   have hui := hu i (by rw [hp]; simp)
   have hlen : L0.length = pre.length + (r.length + 1) := by rw [hp]; simp
   have hrd : rd (up L0) (pre.length : Int) = (i : Int) := by
    rw [rd_up', hp]; simp
   simp only [List.length_cons] at h1
   refine Ev.succ ?_
   simp only [spec_used.l0, up_length, hrd, rdT_nat]
   rw [w64 (n := (pre.length : Int) + 1) (by omega) (by omega)]
   refine Ev.pos (by omega) (Ev.pos (by omega) (Ev.pos (by omega) (Ev.pos (by omega) ?_)))
   by_cases h : (g.getD i z39).f2 = p
   ·refine Ev.pos h ?_
    have := ih (pre ++ [i]) (acc + (g.getD i z39).f3) (by rw [hp]; simp) (by omega) (by omega)
    rw [w64 (by omega) (by omega)]
    have e : ((pre ++ [i]).length : Int) = (pre.length : Int) + 1 := by simp
    rw [e] at this
    refine this.conv ?_
    simp only [usedN, if_pos h]
    omega
   ·refine Ev.neg h ?_
    have := ih (pre ++ [i]) acc (by rw [hp]; simp) (by omega) (by omega)
    have e : ((pre ++ [i]).length : Int) = (pre.length : Int) + 1 := by simp
    rw [e] at this
    refine this.conv ?_
    simp only [usedN, if_neg h]
    omega
 exact (key L0 [] 0 rfl (by omega) (by omega)).conv (by omega)
theorem ev_validRoom {L : List Int} (hL : L.length < big) : Ev (fun k => spec_validRoom.f k L) (decide (roomOk L)) := by
 unfold spec_validRoom.f
 by_cases h : L.length = 3
 ·refine Ev.pos (by omega) (Ev.bind (ev_allIn hL 4 8) ((Ev.const _).conv ?_))
  rw [decide_eq_decide]
  exact ⟨fun x => ⟨h, x⟩, fun x => x.2⟩
 ·refine Ev.neg (by omega) ((Ev.const _).conv ?_)
  rw [eq_comm, decide_eq_false_iff_not]
  exact fun x => h x.1
end Go.Proofs.YtimbfcedigaffaaDoor.Core
end
section
namespace Go.Proofs.YtimbfcedigaffaaDoor.Core
open Go Go.RowKit Go.Proofs.YtimbfcedigaffaaDoorW.PrintWords Go.Proofs.YtimbfcedigaffaaDoorW.PrintMore Go.Proofs.YtimbfcedigaffaaDoor.P
theorem usedN_snoc (g : List Tk) (p : Int) (i : Nat) : ∀ L : List Nat, usedN g p (L ++ [i]) = usedN g p L + (if (g.getD i z39).f2 = p then (g.getD i z39).f3 else 0)
 | [] => by simp [usedN]
 | j :: L => by
  rw [List.cons_append, usedN, usedN_snoc g p i L, usedN]
  omega
/-- A counter that tells what runs. -/
structure Good (g : List Tk) (c : Cn) (now : List Nat) : Prop where
 t : c.t = (now.length : Int)
 u0 : c.u0 = usedN g 0 now
 u1 : c.u1 = usedN g 1 now
 u2 : c.u2 = usedN g 2 now
theorem Good.u {g : List Tk} {c : Cn} {now : List Nat} (h : Good g c now) {p : Int} (hp : 0 ≤ p ∧ p ≤ 2) : c.u p = usedN g p now := by
 unfold Cn.u
 by_cases h0 : p = 0
 ·subst h0; exact h.u0
 ·by_cases h1 : p = 1
  ·subst h1; exact h.u1
  ·obtain rfl : p = 2 := by omega
   exact h.u2
theorem Good.add {g : List Tk} {c : Cn} {now : List Nat} {i : Nat} (h : Good g c now) (hu : UOk g now) (hi : 1 ≤ (g.getD i z39).f3 ∧ (g.getD i z39).f3 ≤ 4) (hl : now.length ≤ 100) : Good g (c.add (g.getD i z39).f2 (g.getD i z39).f3 1) (now ++ [i]) := by
 have b0 := usedN_bd (p := 0) hu
 have b1 := usedN_bd (p := 1) hu
 have b2 := usedN_bd (p := 2) hu
 have h0 := h.u0
 have h1 := h.u1
 have h2 := h.u2
 refine ⟨?_, ?_, ?_, ?_⟩
 ·simp only [Cn.add]
  rw [h.t, w64 (by omega) (by omega), List.length_append, List.length_singleton]
  omega
 ·rw [usedN_snoc]; simp only [Cn.add]; split <;> (first | (rw [w64 (n := 1 * _) (by omega) (by omega), w64 (by omega) (by omega)]; omega) | omega)
 ·rw [usedN_snoc]; simp only [Cn.add]; split <;> (first | (rw [w64 (n := 1 * _) (by omega) (by omega), w64 (by omega) (by omega)]; omega) | omega)
 ·rw [usedN_snoc]; simp only [Cn.add]; split <;> (first | (rw [w64 (n := 1 * _) (by omega) (by omega), w64 (by omega) (by omega)]; omega) | omega)
end Go.Proofs.YtimbfcedigaffaaDoor.Core
end
section
namespace Go.Proofs.YtimbfcedigaffaaDoor.Core
open Go Go.RowKit Go.Proofs.YtimbfcedigaffaaDoorW.PrintWords Go.Proofs.YtimbfcedigaffaaDoorW.PrintMore Go.Proofs.YtimbfcedigaffaaDoor.P
/-- The reference's beginnings: 200 for a task that has none. -/
def specS (L : List Nat) (pl n : Nat) : List Int := (List.range n).map (fun k => if pl.testBit k = true then ((L.getD k 0 : Nat) : Int) else 200)
theorem specS_length (L : List Nat) (pl n : Nat) : (specS L pl n).length = n := by simp [specS]
theorem specS_rd {L : List Nat} {pl n k : Nat} (hk : k < n) : rd (specS L pl n) (k : Int) = if pl.testBit k = true then ((L.getD k 0 : Nat) : Int) else 200 := by
 unfold rd specS
 rw [Int.toNat_natCast, List.getD_eq_getElem?_getD, List.getElem?_map, List.getElem?_range hk]
 rfl
/-- What runs at a time. -/
def runL (g : List Tk) (L : List Nat) (pl n t : Nat) : List Nat := (List.range n).filter (fun k => pl.testBit k && runsAt g L t k)
theorem runL_elems {g : List Tk} {L : List Nat} {pl n t : Nat} (h8 : n ≤ 8) (hpl : pl < 2 ^ n) : (elemsN pl).filter (runsAt g L t) = runL g L pl n t := by
 rw [elemsN_range' h8 hpl, List.filter_filter]
 unfold runL
 congr 1
 funext k
 exact Bool.and_comm _ _
theorem runL_len (g : List Tk) (L : List Nat) (pl n t : Nat) : (runL g L pl n t).length ≤ n := by
 have := List.length_filter_le (fun k => pl.testBit k && runsAt g L t k) (List.range n)
 rw [List.length_range] at this
 exact this
theorem runL_lt {g : List Tk} {L : List Nat} {pl n t : Nat} : ∀ i ∈ runL g L pl n t, i < n := fun i hi => List.mem_range.1 (List.mem_filter.1 hi).1
theorem ev_runningAt {g : List Tk} (htok : ∀ t ∈ g, taskOk t) (h8 : g.length ≤ 8) {L : List Nat} {pl t : Nat} (hLb : leB 200 L) (ht : t < 200) : Ev (fun k => spec_runningAt.f k g (specS L pl g.length) (t : Int)) (up (runL g L pl g.length t)) := by
 unfold spec_runningAt.f
 have key : ∀ (d i : Nat) (X : List Nat), X = runL g L pl i t → i + d = g.length → Ev (fun k => spec_runningAt.l0 k g (specS L pl g.length) (t : Int) (up X) (i : Int)) (up (runL g L pl g.length t)) := by
  intro d
  induction d with
  | zero =>
   intro i X hX h
   refine Ev.succ ?_
   simp only [spec_runningAt.l0]
   have hi : i = g.length := by omega
   rw [hX, hi]
   exact Ev.neg (by omega) (Ev.const _)
  | succ d ih =>
   intro i X hX h
   have hig : i < g.length := by omega
   have hw : wrap64 ((i : Int) + 1) = ((i + 1 : Nat) : Int) := w64s (by unfold big; omega)
   have hlen : (up X).length < 17592186044416 := by
    rw [up_length, hX]
    exact Nat.lt_of_le_of_lt (runL_len g L pl i t) (Nat.lt_trans hig (Nat.lt_of_le_of_lt h8 (by decide)))
   have hsn : up (X ++ [i]) = up X ++ [(i : Int)] := by simp [up]
   have hrd := specS_rd (L := L) (pl := pl) hig
   have htm := tm_int htok hig
   have hls := hLb i
   have hadd := (wadd (a := L.getD i 0) (b := tmN g i) (by omega) (by omega)).1
   have hsp : ∀ b : Bool, (pl.testBit i && runsAt g L t i) = b → runL g L pl (i + 1) t = runL g L pl i t ++ (if b = true then [i] else []) := by
    intro b hb
    unfold runL
    rw [List.range_succ, List.filter_append]
    cases b with
    | true => rw [List.filter_cons_of_pos (p := fun k => pl.testBit k && runsAt g L t k) hb, List.filter_nil, if_pos rfl]
    | false => rw [List.filter_cons_of_neg (p := fun k => pl.testBit k && runsAt g L t k) (by show ¬ (pl.testBit i && runsAt g L t i) = true; rw [hb]; exact Bool.false_ne_true), List.filter_nil, if_neg Bool.false_ne_true]
   have hyes : (pl.testBit i && runsAt g L t i) = true → Ev (fun k => spec_runningAt.l0 k g (specS L pl g.length) (t : Int) (up X ++ [(i : Int)]) ((i + 1 : Nat) : Int)) (up (runL g L pl g.length t)) := fun hb => by
    rw [← hsn]
    exact ih (i + 1) (X ++ [i]) (by rw [hX, hsp _ hb, if_pos rfl]) (by omega)
   have hno : (pl.testBit i && runsAt g L t i) = false → Ev (fun k => spec_runningAt.l0 k g (specS L pl g.length) (t : Int) (up X) ((i + 1 : Nat) : Int)) (up (runL g L pl g.length t)) := fun hb => ih (i + 1) X (by rw [hX, hsp _ hb, if_neg Bool.false_ne_true, List.append_nil]) (by omega)
   clear ih hX hsp
   refine Ev.succ ?_
   simp only [spec_runningAt.l0, hw, hrd, rdT_nat, htm.1]
   refine Ev.pos (by omega) (Ev.pos (by omega) (Ev.pos (by rw [specS_length]; omega) ?_))
   cases hp : pl.testBit i with
   | true =>
    rw [hp, Bool.true_and] at hyes hno
    simp only [if_true, hadd]
    by_cases h1 : L.getD i 0 ≤ t
    ·refine Ev.pos (Int.ofNat_le.2 h1) ?_
     by_cases h2 : t < L.getD i 0 + tmN g i
     ·exact Ev.pos (Int.ofNat_lt.2 h2) (Ev.pos hlen (hyes (by unfold runsAt endN; rw [decide_eq_true h1, decide_eq_true h2]; rfl)))
     ·exact Ev.neg (fun h => h2 (Int.ofNat_lt.1 h)) (hno (by unfold runsAt endN; rw [decide_eq_false h2, Bool.and_false]))
    ·exact Ev.neg (fun h => h1 (Int.ofNat_le.1 h)) (hno (by unfold runsAt; rw [decide_eq_false h1, Bool.false_and]))
   | false =>
    rw [hp, Bool.false_and] at hno
    simp only [Bool.false_eq_true, if_false]
    exact Ev.neg (fun h => by clear hlen; omega) (hno rfl)
 exact key g.length 0 [] rfl (by omega)
theorem cnt_good {g : List Tk} {L : List Nat} {t : Nat} (hu : ∀ i, i < g.length → 1 ≤ (g.getD i z39).f3 ∧ (g.getD i z39).f3 ≤ 4) : ∀ (ks : List Nat) (c : Cn) (nl : List Nat), Good g c nl → (∀ i ∈ nl, i < g.length) → (∀ i ∈ ks, i < g.length) → nl.length + ks.length ≤ 100 → Good g (ks.foldl (cntStep g L t) c) (nl ++ ks.filter (runsAt g L t))
 | [], c, nl, h, _, _, _ => by simpa using h
 | k :: ks, c, nl, h, h1, h2, h3 => by
  rw [List.length_cons] at h3
  rw [List.foldl_cons]
  have hk := h2 k List.mem_cons_self
  cases hr : runsAt g L t k with
  | true =>
   have e : cntStep g L t c k = c.add (g.getD k z39).f2 (g.getD k z39).f3 1 := by unfold cntStep; rw [if_pos hr]; rfl
   rw [e, List.filter_cons_of_pos hr, show nl ++ k :: ks.filter (runsAt g L t) = (nl ++ [k]) ++ ks.filter (runsAt g L t) by simp]
   exact cnt_good hu ks _ _ (h.add (fun i hi => hu i (h1 i hi)) (hu k hk) (by omega)) (fun i hi => by
    rcases List.mem_append.1 hi with hi | hi
    ·exact h1 i hi
    ·rw [List.mem_singleton.1 hi]; exact hk) (fun i hi => h2 i (List.mem_cons_of_mem _ hi)) (by rw [List.length_append, List.length_singleton]; omega)
  | false =>
   have e : cntStep g L t c k = c := by unfold cntStep; rw [if_neg (by rw [hr]; exact Bool.false_ne_true)]
   rw [e, List.filter_cons_of_neg (by rw [hr]; exact Bool.false_ne_true)]
   exact cnt_good hu ks c nl h h1 (fun i hi => h2 i (List.mem_cons_of_mem _ hi)) (by omega)
theorem freeB_eq {g : List Tk} {room : List Int} {wk : Int} (hf : Fine g room wk) (h8 : g.length ≤ 8) {L : List Nat} {pl i t : Nat} (hi : i < g.length) (hpl : pl < 2 ^ g.length) : freeB g L pl i room wk t = (decide (((runL g L pl g.length t).length : Int) < wk) && decide (wrap64 (usedN g (g.getD i z39).f2 (runL g L pl g.length t) + (g.getD i z39).f3) ≤ rd room (g.getD i z39).f2)) := by
 have hz : Good g Cn.zero [] := ⟨rfl, rfl, rfl, rfl⟩
 have hel := elemsN_length pl
 have hg := cnt_good (L := L) (t := t) hf.units (elemsN pl) Cn.zero [] hz (by simp) (fun k hk => by
  have h2 := (mem_elemsN.1 hk).2
  have h4 : 2 ^ k < 2 ^ g.length := Nat.lt_of_le_of_lt (Nat.ge_two_pow_of_testBit h2) hpl
  exact (Nat.pow_lt_pow_iff_right (by omega)).1 h4) (by simp; omega)
 rw [List.nil_append, runL_elems h8 hpl] at hg
 have hp := hf.pool i hi
 show takesB (cntOf g L pl t) _ _ room wk = _
 unfold takesB
 rw [show (cntOf g L pl t).t = _ from hg.t, show (cntOf g L pl t).u _ = _ from hg.u hp]
theorem ev_fits {g : List Tk} {room : List Int} {wk : Int} (hf : Fine g room wk) (htok : ∀ t ∈ g, taskOk t) (h8 : g.length ≤ 8) {L : List Nat} {pl i a : Nat} (hi : i < g.length) (hpl : pl < 2 ^ g.length) (hLb : leB 200 L) (ha : a + tmN g i < 200) : ∀ (d now : Nat), now + d = a + tmN g i → Ev (fun k => spec_fits.l0 k g room wk (specS L pl g.length) (i : Int) (a : Int) (now : Int)) (freeN g L pl i room wk d now)
 | 0, now, h => by
  have htm := tm_int htok hi
  have hadd := (wadd (a := a) (b := tmN g i) (by omega) (by omega)).1
  refine Ev.succ ?_
  simp only [spec_fits.l0, rdT_nat, htm.1, hadd]
  exact Ev.pos (by omega) (Ev.pos (by omega) (Ev.neg (by omega) (Ev.const _)))
 | d + 1, now, h => by
  have hn200 : now < 200 := Nat.lt_of_le_of_lt (by rw [← h]; exact Nat.le_add_right _ _) ha
  have htm := tm_int htok hi
  have hadd := (wadd (a := a) (b := tmN g i) (by omega) (by omega)).1
  have hw : wrap64 ((now : Int) + 1) = ((now + 1 : Nat) : Int) := w64s (by unfold big; omega)
  have hr := ev_runningAt htok h8 (pl := pl) hLb hn200
  have hp := hf.pool i hi
  have h3 := hf.room.1
  have hlen := runL_len g L pl g.length now
  have hus := ev_used (g := g) (g.getD i z39).f2 (runL g L pl g.length now) (by omega) runL_lt (fun k hk => hf.units k (runL_lt k hk))
  have hfb := freeB_eq (L := L) (pl := pl) (t := now) hf h8 hi hpl
  have hfn : freeN g L pl i room wk (d + 1) now = (freeB g L pl i room wk now && freeN g L pl i room wk d (now + 1)) := rfl
  rw [hfn, hfb]
  refine Ev.succ ?_
  simp only [spec_fits.l0, rdT_nat, htm.1, hadd, hw]
  refine Ev.pos (Int.natCast_nonneg i) (Ev.pos (Int.ofNat_lt.2 hi) (Ev.pos (Int.ofNat_lt.2 (by rw [← h]; exact Nat.lt_add_of_pos_right (Nat.succ_pos d))) (Ev.bind hr ?_)))
  rw [up_length]
  by_cases h1 : ((runL g L pl g.length now).length : Int) < wk
  ·rw [decide_eq_true h1, Bool.true_and]
   refine Ev.neg (Int.not_le.2 h1) (Ev.bind hus (Ev.pos hp.1 (Ev.pos (by rw [h3]; exact Int.lt_of_le_of_lt hp.2 (by decide)) ?_)))
   by_cases h2 : wrap64 (usedN g (g.getD i z39).f2 (runL g L pl g.length now) + (g.getD i z39).f3) ≤ rd room (g.getD i z39).f2
   ·rw [decide_eq_true h2, Bool.true_and]
    exact Ev.neg (Int.not_lt.2 h2) (ev_fits hf htok h8 hi hpl hLb ha d (now + 1) (by rw [← h, Nat.add_assoc, Nat.add_comm 1 d]))
   ·rw [decide_eq_false h2, Bool.false_and]
    exact Ev.pos (Int.not_le.1 h2) (Ev.const _)
  ·rw [decide_eq_false h1, Bool.false_and, Bool.false_and]
   exact Ev.pos (Int.not_lt.1 h1) (Ev.const _)
end Go.Proofs.YtimbfcedigaffaaDoor.Core
end
section
namespace Go.Proofs.YtimbfcedigaffaaDoor.Core
open Go Go.RowKit Go.Proofs.YtimbfcedigaffaaDoorW.PrintWords Go.Proofs.YtimbfcedigaffaaDoorW.PrintMore Go.Proofs.YtimbfcedigaffaaDoor.P
theorem mx_natO (a b : Nat) : mx (a : Int) (b : Int) = ((max a b : Nat) : Int) := by unfold mx; split <;> omega
/-- The beginnings with one more. -/
theorem specS_set {L : List Nat} {pl n x e : Nat} (hx : x < n) (hl : L.length = n) : (specS L pl n).set x ((e : Nat) : Int) = specS (L.set x e) (pl ||| 2 ^ x) n := by
 unfold specS
 refine List.ext_getElem (by simp) fun k h1 h2 => ?_
 have hk : k < n := by simpa using h2
 rw [List.getElem_set]
 simp only [List.getElem_map, List.getElem_range, or_bit]
 by_cases e1 : x = k
 ·subst e1
  rw [if_pos rfl, if_pos (by simp), List.getD_eq_getElem?_getD, List.getElem?_set_self (by omega), Option.getD_some]
 ·rw [if_neg e1, decide_eq_false e1, Bool.or_false, List.getD_eq_getElem?_getD (l := L.set x e), List.getElem?_set_ne e1, ← List.getD_eq_getElem?_getD]
theorem specS_full {L : List Nat} {pl n : Nat} (hn : n ≤ 8) (hpl : pl < 2 ^ n) (hz : zb n pl = 0) (hl : L.length = n) : specS L pl n = up L := by
 have hfull := (full_zb hpl).1 hz
 unfold specS up
 refine List.ext_getElem (by simp [hl]) fun k h1 h2 => ?_
 have hk : k < n := by simpa using h1
 simp only [List.getElem_map, List.getElem_range]
 rw [if_pos (by rw [hfull, Nat.testBit_two_pow_sub_one]; simpa using hk), List.getD_eq_getElem?_getD, List.getElem?_eq_getElem (by omega), Option.getD_some]
 rfl
theorem zb_orO {n s k : Nat} (hk : k < n) (hb : s.testBit k = false) : zb n (s ||| 2 ^ k) + 1 ≤ zb n s := by
 have h1 : ∀ m, zb m (s ||| 2 ^ k) + (if k < m then 1 else 0) ≤ zb m s := by
  intro m
  rw [zb_count, zb_count]
  induction m with
  | zero => simp
  | succ m ih =>
   rw [List.range_succ, List.filter_append, List.filter_append, List.length_append, List.length_append]
   have hm : (s ||| 2 ^ k).testBit m = (s.testBit m || decide (k = m)) := or_bit _ _ _
   by_cases e : k = m
   ·subst e
    rw [List.filter_cons_of_neg (by rw [hm]; simp), List.filter_cons_of_pos (by rw [hb]; rfl)]
    simp only [List.filter_nil, List.length_nil, List.length_singleton]
    rw [if_neg (Nat.lt_irrefl _)] at ih
    rw [if_pos (Nat.lt_succ_self _)]
    omega
   ·have hle : ((([m] : List Nat).filter (fun i => !(s ||| 2 ^ k).testBit i))).length = (([m] : List Nat).filter (fun i => !s.testBit i)).length := by
     simp only [List.filter_cons, List.filter_nil, hm, decide_eq_false e, Bool.or_false]
    rw [hle]
    by_cases hkm : k < m
    ·rw [if_pos hkm] at ih
     rw [if_pos (by omega)]
     omega
    ·rw [if_neg hkm] at ih
     rw [if_neg (by omega)]
     omega
 have := h1 n
 rw [if_pos hk] at this
 exact this
theorem ev_ord3 {g : List Tk} {room : List Int} {wk : Int} (hf : Fine g room wk) (htok : ∀ t ∈ g, taskOk t) (h8 : g.length ≤ 8) {L : List Nat} {pl i : Nat} (hi : i < g.length) (hpl : pl < 2 ^ g.length) (hLb : leB 200 L) {idx : Int} {list RES : List Int} : ∀ (F f a : Nat), F ≤ f → freeN g L pl i room wk (tmN g i) (a + F) = true → a + F < 180 → Ev (fun k => spec_order.l1 k g room wk list ((specS L pl g.length).set i ((earlN g L pl i room wk f a : Nat) : Int)) (wrap64 (idx + 1))) RES → Ev (fun k => spec_order.l3 k g room wk list (specS L pl g.length) idx (i : Int) (a : Int)) RES := by
 intro F
 induction F with
 | zero =>
  intro f a _ hfr hlt hn
  rw [Nat.add_zero] at hfr hlt
  have ht := (hf.tm i hi).2
  have hfits : Ev (fun k => spec_fits.f k g room wk (specS L pl g.length) (i : Int) (a : Int)) (freeN g L pl i room wk (tmN g i) a) := ev_fits hf htok h8 hi hpl hLb (by omega) (tmN g i) a rfl
  have e : earlN g L pl i room wk f a = a := by
   cases f with
   | zero => rfl
   | succ f => unfold earlN; rw [if_pos hfr]
  rw [e] at hn
  rw [hfr] at hfits
  refine Ev.succ ?_
  simp only [spec_order.l3]
  refine Ev.bind hfits (Ev.pos rfl (Ev.pos (Int.natCast_nonneg i) (Ev.pos (by rw [specS_length]; exact Int.ofNat_lt.2 hi) ?_)))
  rw [Int.toNat_natCast]
  exact hn
 | succ F ih =>
  intro f a hFf hfr hlt hn
  have ht := (hf.tm i hi).2
  have hfits : Ev (fun k => spec_fits.f k g room wk (specS L pl g.length) (i : Int) (a : Int)) (freeN g L pl i room wk (tmN g i) a) := ev_fits hf htok h8 hi hpl hLb (by omega) (tmN g i) a rfl
  have hw : wrap64 ((a : Int) + 1) = ((a + 1 : Nat) : Int) := w64s (by unfold big; omega)
  cases hfa : freeN g L pl i room wk (tmN g i) a with
  | true =>
   have e : earlN g L pl i room wk f a = a := by
    cases f with
    | zero => rfl
    | succ f => unfold earlN; rw [if_pos hfa]
   rw [e] at hn
   rw [hfa] at hfits
   refine Ev.succ ?_
   simp only [spec_order.l3]
   refine Ev.bind hfits (Ev.pos rfl (Ev.pos (Int.natCast_nonneg i) (Ev.pos (by rw [specS_length]; exact Int.ofNat_lt.2 hi) ?_)))
   rw [Int.toNat_natCast]
   exact hn
  | false =>
   obtain ⟨f', rfl⟩ : ∃ f', f = f' + 1 := ⟨f - 1, by omega⟩
   have e : earlN g L pl i room wk (f' + 1) a = earlN g L pl i room wk f' (a + 1) := by rw [earlN, if_neg (by rw [hfa]; exact Bool.false_ne_true)]
   rw [e] at hn
   rw [hfa] at hfits
   refine Ev.succ ?_
   simp only [spec_order.l3, hw]
   exact Ev.bind hfits (Ev.neg Bool.false_ne_true (ih f' (a + 1) (by omega) (by rw [show a + 1 + F = a + (F + 1) by omega]; exact hfr) (by omega) hn))
theorem ev_ord2 {g : List Tk} {room : List Int} {wk : Int} (htok : ∀ t ∈ g, taskOk t) {L : List Nat} {pl i nd : Nat} (hi : i < g.length) (hLb : leB 200 L) (htm : tm20 g) (hfl : (g.getD i z39).f1 = up (elemsN nd)) (hnd : ∀ j ∈ elemsN nd, j < g.length ∧ pl.testBit j = true) {idx : Int} {list RES : List Int} (hn : Ev (fun k => spec_order.l3 k g room wk list (specS L pl g.length) idx (i : Int) ((needEnd g L nd : Nat) : Int)) RES) : ∀ (r pre : List Nat), elemsN nd = pre ++ r → Ev (fun k => spec_order.l2 k g room wk list (specS L pl g.length) idx (i : Int) ((pre.foldl (eStep g L) 0 : Nat) : Int) (pre.length : Int)) RES := by
 intro r
 induction r with
 | nil =>
  intro pre hp
  rw [List.append_nil] at hp
  refine Ev.succ ?_
  simp only [spec_order.l2, rdT_nat, hfl, up_length]
  refine Ev.pos (Int.natCast_nonneg i) (Ev.pos (Int.ofNat_lt.2 hi) (Ev.neg (by rw [hp]; exact Int.lt_irrefl _) ?_))
  rw [← hp]
  exact hn
 | cons j r ih =>
  intro pre hp
  have hel := elemsN_length nd
  have hlen : (elemsN nd).length = pre.length + (r.length + 1) := by rw [hp]; simp
  have hrd : rd (up (elemsN nd)) (pre.length : Int) = (j : Int) := by rw [rd_up (i := pre.length) rfl, hp]; simp
  have hw : wrap64 ((pre.length : Int) + 1) = ((pre ++ [j]).length : Int) := by rw [w64s (by unfold big; omega)]; simp
  obtain ⟨hjn, hjp⟩ := hnd j (by rw [hp]; simp)
  have hrs := specS_rd (L := L) (pl := pl) hjn
  rw [if_pos hjp] at hrs
  have htj := tm_int htok hjn
  have hlj := hLb j
  have hadd := (wadd (a := L.getD j 0) (b := tmN g j) (by omega) (by omega)).1
  have hfold : ((pre ++ [j]).foldl (eStep g L) 0) = max (pre.foldl (eStep g L) 0) (L.getD j 0 + tmN g j) := by rw [List.foldl_append]; rfl
  have hnx := ih (pre ++ [j]) (by rw [hp]; simp)
  rw [hfold] at hnx
  refine Ev.succ ?_
  simp only [spec_order.l2, rdT_nat, hfl, hrd, hw, hrs, htj.1, hadd, mx_natO]
  exact Ev.pos (Int.natCast_nonneg i) (Ev.pos (Int.ofNat_lt.2 hi) (Ev.pos (by rw [up_length]; exact Int.ofNat_lt.2 (by omega)) (Ev.pos (Int.natCast_nonneg _) (Ev.pos (Int.natCast_nonneg j) (Ev.pos (by rw [specS_length]; exact Int.ofNat_lt.2 hjn) (Ev.pos (Int.ofNat_lt.2 hjn) hnx))))))
theorem ev_ord1 {g : List Tk} {G : GD} (v : VG g G) {room : List Int} {wk : Int} (hf : Fine g room wk) (htok : ∀ t ∈ g, taskOk t) (h5 : g.length ≤ 5) {list : List Int} (hll : list.length = g.length) : ∀ (r pre : List Int) (pl : Nat) (L : List Nat), list = pre ++ r → ordOk g.length G.needs r pl = true → StOk g L pl pre.length → pl < 2 ^ g.length → zb g.length pl + pre.length ≤ g.length → Ev (fun k => spec_order.l1 k g room wk list (specS L pl g.length) (pre.length : Int)) (up (startGo g G.needs room wk r pl L)) := by
 intro r
 induction r with
 | nil =>
  intro pre pl L hp _ hst hpl hz
  rw [List.append_nil] at hp
  have hlp : pre.length = g.length := by rw [← hp]; exact hll
  have hfull := specS_full v.n8 hpl (show zb g.length pl = 0 by omega) hst.len
  refine Ev.succ ?_
  simp only [spec_order.l1]
  refine Ev.neg (by rw [hp]; exact Int.lt_irrefl _) ?_
  rw [hfull]
  exact Ev.const _
 | cons y r ih =>
  intro pre pl L hp hord hst hpl hz
  have hlen : list.length = pre.length + (r.length + 1) := by rw [hp]; simp
  have hrd : rd list (pre.length : Int) = y := by unfold rd; rw [Int.toNat_natCast, hp]; simp
  unfold ordOk at hord
  by_cases hc : (0 ≤ y ∧ y ≤ (g.length : Int) - 1) ∧ pl.testBit y.toNat = false ∧ sub (G.needs.getD y.toNat 0) pl = 0
  ·rw [if_pos hc] at hord
   obtain ⟨hin, hsk, hsz⟩ := hc
   obtain ⟨x, rfl⟩ := Int.eq_ofNat_of_zero_le hin.1
   rw [Int.toNat_natCast] at hord hsk hsz
   have hx : x < g.length := by omega
   have h256 := pow8 v.n8
   have hNx := getD_lt v.nb x
   have hsubs := sub_none (Nat.lt_of_lt_of_le hNx h256) (Nat.lt_of_lt_of_le hpl h256) hsz
   have hj5 : pre.length ≤ 5 := by omega
   obtain ⟨hst2, he20⟩ := hst.step hf hx (by omega) hsubs hsk
   obtain ⟨-, -, -, hfr⟩ := earlD_le hf hx hst.over (by omega) hsubs
   have hzb := zb_orO hx hsk
   have hle200 : leB 200 L := leB_mono hst.le (by omega)
   have hneL := needEnd_le hst.over hsubs
   have hw : wrap64 ((pre.length : Int) + 1) = ((pre ++ [((x : Nat) : Int)]).length : Int) := by rw [w64s (by unfold big; omega)]; simp
   have hih := ih (pre ++ [((x : Nat) : Int)]) (pl ||| 2 ^ x) (L.set x (earlD g L (G.needs.getD x 0) pl x room wk)) (by rw [hp]; simp) hord (by rw [List.length_append, List.length_singleton]; exact hst2) (Nat.or_lt_two_pow hpl (Nat.pow_lt_pow_right (by omega) hx)) (by rw [List.length_append, List.length_singleton]; omega)
   rw [← specS_set hx hst.len, ← hw] at hih
   have hres : startGo g G.needs room wk (((x : Nat) : Int) :: r) pl L = startGo g G.needs room wk r (pl ||| 2 ^ x) (L.set x (earlD g L (G.needs.getD x 0) pl x room wk)) := by
    show startGo g G.needs room wk r (pl ||| 2 ^ ((x : Nat) : Int).toNat) (L.set ((x : Nat) : Int).toNat (earlD g L (G.needs.getD ((x : Nat) : Int).toNat 0) pl ((x : Nat) : Int).toNat room wk)) = _
    rw [Int.toNat_natCast]
   rw [hres]
   have h3 := ev_ord3 (list := list) (idx := (pre.length : Int)) hf htok v.n8 hx hpl hle200 (20 * pre.length - needEnd g L (G.needs.getD x 0)) 400 (needEnd g L (G.needs.getD x 0)) (by omega) hfr (by omega) hih
   have h2 := ev_ord2 (room := room) (wk := wk) (list := list) (idx := (pre.length : Int)) htok hx hle200 (tm20_of htok) (v.list hx) (fun j hj => by
    have hb := (mem_elemsN.1 hj).2
    exact ⟨v.need_lt hb, hsubs j hb⟩) h3 (elemsN (G.needs.getD x 0)) [] rfl
   refine Ev.succ ?_
   simp only [spec_order.l1, hrd]
   exact Ev.pos (Int.ofNat_lt.2 (by omega)) (Ev.pos (Int.natCast_nonneg _) h2)
  ·rw [if_neg hc] at hord; cases hord
theorem ev_ord0 {g : List Tk} {room : List Int} {wk : Int} (h8 : g.length ≤ 8) {list RES : List Int} (hn : Ev (fun k => spec_order.l1 k g room wk list (specS (List.replicate g.length 0) 0 g.length) ((0 : Nat) : Int)) RES) : ∀ (d i : Nat) (X : List Int), X.length = g.length → i + d = g.length → (∀ k, k < i → X.getD k 0 = 200) → Ev (fun k => spec_order.l0 k g room wk list X (i : Int)) RES := by
 intro d
 induction d with
 | zero =>
  intro i X hX h hk
  have hi : i = g.length := by omega
  have e : X = specS (List.replicate g.length 0) 0 g.length := by
   refine List.ext_getElem (by rw [hX, specS_length]) fun k h1 h2 => ?_
   have hkx := hk k (by omega)
   rw [List.getD_eq_getElem?_getD, List.getElem?_eq_getElem h1, Option.getD_some] at hkx
   rw [hkx]
   unfold specS
   simp only [List.getElem_map, List.getElem_range, Nat.zero_testBit]
   rfl
  refine Ev.succ ?_
  simp only [spec_order.l0]
  refine Ev.neg (by rw [hX, hi]; exact Int.lt_irrefl _) ?_
  rw [e]
  exact hn
 | succ d ih =>
  intro i X hX h hk
  have hw : wrap64 ((i : Int) + 1) = ((i + 1 : Nat) : Int) := w64s (by unfold big; omega)
  refine Ev.succ ?_
  simp only [spec_order.l0, hw]
  refine Ev.pos (by rw [hX]; exact Int.ofNat_lt.2 (by omega)) (Ev.pos (Int.natCast_nonneg i) ?_)
  rw [Int.toNat_natCast]
  refine ih (i + 1) _ (by rw [List.length_set, hX]) (by omega) (fun k hki => ?_)
  by_cases e : i = k
  ·subst e
   rw [List.getD_eq_getElem?_getD, List.getElem?_set_self (by omega), Option.getD_some]
  ·rw [List.getD_eq_getElem?_getD, List.getElem?_set_ne e, ← List.getD_eq_getElem?_getD]
   exact hk k (by omega)
theorem ev_orderS {g : List Tk} {G : GD} (v : VG g G) {room : List Int} {wk : Int} (hf : Fine g room wk) (htok : ∀ t ∈ g, taskOk t) (h5 : g.length ≤ 5) {list : List Int} (hll : list.length = g.length) (hord : ordOk g.length G.needs list 0 = true) : Ev (fun k => spec_order.f k g room wk list) (up (startGo g G.needs room wk list 0 (List.replicate g.length 0))) := by
 have hz0 : zb g.length 0 ≤ g.length := by
  rw [zb_count]
  have := List.length_filter_le (fun i => !(0 : Nat).testBit i) (List.range g.length)
  rw [List.length_range] at this
  exact this
 have h1 := ev_ord1 v hf htok h5 hll list [] 0 (List.replicate g.length 0) rfl hord (st_zero g) (Nat.two_pow_pos _) (by simpa using hz0)
 unfold spec_order.f
 refine Ev.pos (Int.natCast_nonneg _) (Ev.pos (by rw [Int.toNat_natCast]; exact Nat.le_trans h5 (by decide)) ?_)
 rw [Int.toNat_natCast]
 exact ev_ord0 v.n8 h1 g.length 0 _ (by simp) (by omega) (fun k hk => absurd hk (Nat.not_lt_zero k))
theorem ev_validSearch {g : List Tk} (hg : Fits g) {room : List Int} (hr : room.length < big) (wk : Int) : Ev (fun k => spec_validSearch.f k g room wk) (fewD g room wk).isSome := by
 unfold spec_validSearch.f
 refine Ev.bind (ev_validGraph hg) ?_
 unfold fewD placeD
 cases hG : graphD g with
 | none =>
  refine Ev.neg (by simp) ?_
  have e : (if (g.length : Int) > 5 then (none : Option GD) else none) = none := by split <;> rfl
  rw [e]
  exact Ev.const _
 | some G =>
  refine Ev.pos rfl ?_
  by_cases h5 : (g.length : Int) ≤ 5
  ·rw [if_neg (Int.not_lt.2 h5)]
   refine Ev.pos h5 (Ev.bind (ev_validRoom hr) ?_)
   by_cases hro : roomOk room
   ·rw [decide_eq_true hro]
    refine Ev.pos rfl ?_
    simp only [inRange_eq, Option.bind_some]
    by_cases hw : 1 ≤ wk ∧ wk ≤ 4
    ·rw [if_pos ⟨hro, hw⟩, decide_eq_true hw]
     exact Ev.const _
    ·rw [if_neg (fun h => hw h.2), decide_eq_false hw]
     exact Ev.const _
   ·rw [decide_eq_false hro]
    refine Ev.neg Bool.false_ne_true ?_
    show Ev _ (if roomOk room ∧ 1 ≤ wk ∧ wk ≤ 4 then some G else none : Option GD).isSome
    rw [if_neg (fun h => hro h.1)]
    exact Ev.const _
  ·rw [if_pos (Int.not_le.1 h5)]
   exact Ev.neg h5 (Ev.const _)
end Go.Proofs.YtimbfcedigaffaaDoor.Core
end
section
namespace Go.Proofs.YtimbfcedigaffaaDoor.Core
open Go Go.RowKit Go.Proofs.YtimbfcedigaffaaDoorW.PrintWords Go.Proofs.YtimbfcedigaffaaDoorW.PrintMore Go.Proofs.YtimbfcedigaffaaDoor.P
/-- When the last task of an order is over. -/
def ordEnd (g : List Tk) (N : List Nat) (room : List Int) (wk : Int) (o : List Int) : Nat := endGo g N room wk o 0 (List.replicate g.length 0) 0
/-- The best order and its end. -/
def bestD (g : List Tk) (room : List Int) (wk : Int) : Option (List Int × Nat) := match fewD g room wk with
 | none => none
 | some G => (ordersL G.needs (g.length + 1) [] 0).foldl (bstep (ordEnd g G.needs room wk)) none
def bestOD (g : List Tk) (room : List Int) (wk : Int) : List Int := match bestD g room wk with | none => [] | some b => b.1
def bestTD (g : List Tk) (room : List Int) (wk : Int) : Int := match bestD g room wk with | none => -1 | some b => (b.2 : Int)
/-- The greatest end of a set of tasks. -/
structure IsEnd (g : List Tk) (L : List Nat) (pl e : Nat) : Prop where
 le : ∀ k, pl.testBit k = true → endN g L k ≤ e
 is : e = 0 ∨ ∃ k, pl.testBit k = true ∧ endN g L k = e
def endTo (g : List Tk) (L : List Nat) : Nat → Nat
 | 0 => 0
 | n + 1 => max (endTo g L n) (endN g L n)
theorem endTo_is (g : List Tk) (L : List Nat) : ∀ n, (∀ k, k < n → endN g L k ≤ endTo g L n) ∧ (endTo g L n = 0 ∨ ∃ k, k < n ∧ endN g L k = endTo g L n)
 | 0 => ⟨fun k h => absurd h (Nat.not_lt_zero k), .inl rfl⟩
 | n + 1 => by
  obtain ⟨h1, h2⟩ := endTo_is g L n
  refine ⟨fun k hk => ?_, ?_⟩
  ·show endN g L k ≤ max (endTo g L n) (endN g L n)
   by_cases e : k = n
   ·subst e; exact Nat.le_max_right _ _
   ·exact Nat.le_trans (h1 k (by omega)) (Nat.le_max_left _ _)
  ·show max (endTo g L n) (endN g L n) = 0 ∨ ∃ k, k < n + 1 ∧ endN g L k = max (endTo g L n) (endN g L n)
   by_cases hle : endTo g L n ≤ endN g L n
   ·rw [Nat.max_eq_right hle]
    exact .inr ⟨n, Nat.lt_succ_self n, rfl⟩
   ·rw [Nat.max_eq_left (by omega)]
    rcases h2 with h | ⟨k, hk, h⟩
    ·exact .inl h
    ·exact .inr ⟨k, by omega, h⟩
theorem isEnd_full {g : List Tk} {L : List Nat} {n e : Nat} (h : IsEnd g L (2 ^ n - 1) e) : e = endTo g L n := by
 obtain ⟨h1, h2⟩ := endTo_is g L n
 have hb : ∀ k, (2 ^ n - 1).testBit k = decide (k < n) := fun k => Nat.testBit_two_pow_sub_one n k
 have a : e ≤ endTo g L n := by
  rcases h.is with h0 | ⟨k, hk, hk2⟩
  ·omega
  ·rw [← hk2]
   exact h1 k (by rw [hb] at hk; exact of_decide_eq_true hk)
 have b : endTo g L n ≤ e := by
  rcases h2 with h0 | ⟨k, hk, hk2⟩
  ·omega
  ·rw [← hk2]
   exact h.le k (by rw [hb]; exact decide_eq_true hk)
 omega
theorem ev_endOf {g : List Tk} (htok : ∀ t ∈ g, taskOk t) (h8 : g.length ≤ 8) {L : List Nat} (hl : L.length = g.length) (hLb : leB 200 L) : Ev (fun k => spec_endOf.f k g (up L)) ((endTo g L g.length : Nat) : Int) := by
 unfold spec_endOf.f
 have key : ∀ (d i : Nat), i + d = g.length → Ev (fun k => spec_endOf.l0 k g (up L) ((endTo g L i : Nat) : Int) (i : Int)) ((endTo g L g.length : Nat) : Int) := by
  intro d
  induction d with
  | zero =>
   intro i h
   have hi : i = g.length := h
   refine Ev.succ ?_
   simp only [spec_endOf.l0]
   rw [hi]
   exact Ev.neg (Int.lt_irrefl _) (Ev.const _)
  | succ d ih =>
   intro i h
   have hig : i < g.length := by rw [← h]; exact Nat.lt_add_of_pos_right (Nat.succ_pos d)
   have hw : wrap64 ((i : Int) + 1) = ((i + 1 : Nat) : Int) := w64s (by unfold big; omega)
   have htm := tm_int htok hig
   have hls := hLb i
   have hadd := (wadd (a := L.getD i 0) (b := tmN g i) (by omega) (by omega)).1
   have hrd : rd (up L) (i : Int) = ((L.getD i 0 : Nat) : Int) := rd_up rfl
   have hn := ih (i + 1) (by rw [← h, Nat.add_assoc, Nat.add_comm 1 d])
   refine Ev.succ ?_
   simp only [spec_endOf.l0, hw, hrd, rdT_nat, htm.1, hadd, mx_natO]
   exact Ev.pos (Int.ofNat_lt.2 hig) (Ev.pos (Int.natCast_nonneg i) (Ev.pos (by rw [up_length, hl]; exact Int.ofNat_lt.2 hig) hn))
 exact key g.length 0 (Nat.zero_add _)
/-- The end of an order is that of its beginnings. -/
theorem endGo_is {g : List Tk} {N : List Nat} (hnb : ∀ x, N.getD x 0 < 256) {room : List Int} {wk : Int} (hf : Fine g room wk) (h8 : g.length ≤ 8) : ∀ (r : List Int) (pl j : Nat) (L : List Nat) (e : Nat), ordOk g.length N r pl = true → StOk g L pl j → j + r.length ≤ 8 → pl < 2 ^ g.length → zb g.length pl ≤ r.length → IsEnd g L pl e →
  endGo g N room wk r pl L e = endTo g (startGo g N room wk r pl L) g.length ∧ leB 200 (startGo g N room wk r pl L) := by
 intro r
 induction r with
 | nil =>
  intro pl j L e _ hst hj hpl hz he
  have hfull := (full_zb hpl).1 (by simpa using hz)
  rw [hfull] at he
  exact ⟨isEnd_full he, leB_mono hst.le (by rw [List.length_nil] at hj; omega)⟩
 | cons y r ih =>
  intro pl j L e hord hst hj hpl hz he
  unfold ordOk at hord
  by_cases hc : (0 ≤ y ∧ y ≤ (g.length : Int) - 1) ∧ pl.testBit y.toNat = false ∧ sub (N.getD y.toNat 0) pl = 0
  ·rw [if_pos hc] at hord
   obtain ⟨hin, hsk, hsz⟩ := hc
   rw [List.length_cons] at hj hz
   have hx : y.toNat < g.length := by omega
   have h256 := pow8 h8
   have hsubs := sub_none (hnb y.toNat) (Nat.lt_of_lt_of_le hpl h256) hsz
   obtain ⟨hst2, he20⟩ := hst.step hf hx (by omega) hsubs hsk
   have hzb := zb_orO hx hsk
   have hs1 : startGo g N room wk (y :: r) pl L = startGo g N room wk r (pl ||| 2 ^ y.toNat) (L.set y.toNat (earlD g L (N.getD y.toNat 0) pl y.toNat room wk)) := rfl
   have hs2 : endGo g N room wk (y :: r) pl L e = endGo g N room wk r (pl ||| 2 ^ y.toNat) (L.set y.toNat (earlD g L (N.getD y.toNat 0) pl y.toNat room wk)) (max e (earlD g L (N.getD y.toNat 0) pl y.toNat room wk + tmN g y.toNat)) := rfl
   rw [hs1, hs2]
   generalize earlD g L (N.getD y.toNat 0) pl y.toNat room wk = ee at hst2
   have hne : ∀ k, pl.testBit k = true → y.toNat ≠ k := fun k hk h => by rw [← h, hsk] at hk; cases hk
   have hend : ∀ k, pl.testBit k = true → endN g (L.set y.toNat ee) k = endN g L k := fun k hk => by
    unfold endN
    rw [List.getD_eq_getElem?_getD, List.getElem?_set_ne (hne k hk), ← List.getD_eq_getElem?_getD]
   have hget : endN g (L.set y.toNat ee) y.toNat = ee + tmN g y.toNat := by
    unfold endN
    rw [List.getD_eq_getElem?_getD, List.getElem?_set_self (by rw [hst.len]; exact hx), Option.getD_some]
   refine ih (pl ||| 2 ^ y.toNat) (j + 1) _ _ hord hst2 (by omega) (Nat.or_lt_two_pow hpl (Nat.pow_lt_pow_right (by omega) hx)) (by omega) ⟨fun k hk => ?_, ?_⟩
   ·rw [or_bit] at hk
    by_cases hkp : pl.testBit k = true
    ·rw [hend k hkp]; exact Nat.le_trans (he.le k hkp) (Nat.le_max_left _ _)
    ·have hyk : y.toNat = k := by
      rw [Bool.eq_false_iff.2 hkp, Bool.false_or] at hk
      exact of_decide_eq_true hk
     subst hyk
     rw [hget]; exact Nat.le_max_right _ _
   ·by_cases hle : e ≤ ee + tmN g y.toNat
    ·rw [Nat.max_eq_right hle]
     exact .inr ⟨y.toNat, by rw [or_bit, decide_eq_true rfl, Bool.or_true], hget⟩
    ·rw [Nat.max_eq_left (by omega)]
     rcases he.is with h | ⟨k, hk, h⟩
     ·exact .inl h
     ·exact .inr ⟨k, by rw [or_bit, hk, Bool.true_or], by rw [hend k hk]; exact h⟩
  ·rw [if_neg hc] at hord; cases hord
theorem ordersL_ok {N : List Nat} : ∀ (k : Nat) (lst : List Nat) (d : Nat), ∀ o ∈ ordersL N k lst d, ∃ r, o = up lst ++ r ∧ ordOk N.length N r d = true ∧ o.length = N.length
 | 0, _, _, o, h => by cases h
 | k + 1, lst, d, o, h => by
  unfold ordersL at h
  by_cases hf : lst.length = N.length
  ·rw [if_pos hf] at h
   have e := List.mem_singleton.1 h
   exact ⟨[], by rw [e, List.append_nil], rfl, by rw [e, up_length]; exact hf⟩
  ·rw [if_neg hf] at h
   obtain ⟨i, hi, ho⟩ := List.mem_flatMap.1 h
   obtain ⟨h1, h2⟩ := List.mem_filter.1 hi
   have hc2 : d.testBit i = false ∧ sub (N.getD i 0) d = 0 := by simpa [canNext] using h2
   have hin := List.mem_range.1 h1
   obtain ⟨r, e, hr, hl⟩ := ordersL_ok k (lst ++ [i]) (d ||| 2 ^ i) o ho
   refine ⟨(i : Int) :: r, by rw [e]; simp [up], ?_, hl⟩
   unfold ordOk
   rw [Int.toNat_natCast, if_pos ⟨⟨by omega, by omega⟩, hc2⟩]
   exact hr
theorem ordersL_ne {g : List Tk} {G : GD} (v : VG g G) : ∀ (k : Nat) (lst : List Nat) (d : Nat), OrdOk G.needs lst d → zb g.length d < k → ordersL G.needs k lst d ≠ []
 | 0, _, _, _, h => by omega
 | k + 1, lst, d, ok, h => by
  unfold ordersL
  by_cases hf : lst.length = G.needs.length
  ·rw [if_pos hf]; exact List.cons_ne_nil _ _
  ·rw [if_neg hf]
   have hn := v.nl
   have hd := ok.dlt
   rw [hn] at hd
   obtain ⟨i, hi, hb, hs⟩ := v.next hd (fun e => hf ((full_iff ok).1 (by rw [hn]; exact e)))
   have ok2 := ok.step (by rw [hn]; exact v.n8) (by rw [hn]; exact v.nb) (by rw [hn]; exact hi) hb hs
   have hzb := zb_orO hi hb
   have hne := ordersL_ne v k (lst ++ [i]) (d ||| 2 ^ i) ok2 (by omega)
   intro he
   have := List.flatMap_eq_nil_iff.1 he i (List.mem_filter.2 ⟨List.mem_range.2 (by rw [hn]; exact hi), by unfold canNext; rw [hb, decide_eq_true hs]; rfl⟩)
   exact hne this
theorem ord_nil (N : List Nat) : OrdOk N [] 0 := ⟨by simp, fun i => by simp, Nat.two_pow_pos _, List.nodup_nil, by
 rw [List.length_nil, Nat.zero_add, zb_count]
 have : (List.range N.length).filter (fun i => !(0 : Nat).testBit i) = List.range N.length := List.filter_eq_self.2 (fun i _ => by rw [Nat.zero_testBit]; rfl)
 rw [this, List.length_range], fun pre i suf h => by simp at h⟩
theorem bstep_some (f : List Int → Nat) (b : List Int × Nat) : ∀ (os : List (List Int)), ∃ c, os.foldl (bstep f) (some b) = some c
 | [] => ⟨b, rfl⟩
 | o :: os => by
  rw [List.foldl_cons]
  show ∃ c, os.foldl (bstep f) (if f o < b.2 then some (o, f o) else some b) = some c
  split
  ·exact bstep_some f _ os
  ·exact bstep_some f _ os
theorem ev_BestOrder' {g : List Tk} (hg : Fits g) {room : List Int} {wk : Int} (hr : room.length < big) : Ev (fun k => spec_BestOrder.f k g room wk) (bestOD g room wk) ∧ ∀ G, fewD g room wk = some G → ∃ b, bestD g room wk = some b ∧ b.1 ∈ ordersL G.needs (g.length + 1) [] 0 ∧ b.2 = ordEnd g G.needs room wk b.1 := by
 unfold bestOD bestD
 have hvs := ev_validSearch hg hr wk
 cases hfew : fewD g room wk with
 | none =>
  rw [hfew] at hvs
  refine ⟨?_, fun G h => by cases h⟩
  unfold spec_BestOrder.f
  exact Ev.bind hvs (Ev.neg (by simp) (Ev.const _))
 | some G =>
  rw [hfew] at hvs
  obtain ⟨h5, hp⟩ := fewD_some hfew
  obtain ⟨hG, hroom, hw1, hw4⟩ := placeD_some hp
  have v := vg_of hG
  have h8 := v.n8
  have h256 := pow8 h8
  have hf := fine_of hG hroom hw1
  have htok := graphD_taskOk hG
  have hnl := v.nl
  have hnb : ∀ x, G.needs.getD x 0 < 256 := fun x => Nat.lt_of_lt_of_le (getD_lt v.nb x) h256
  have hok0 := ord_nil G.needs
  have hz0 : zb g.length 0 ≤ g.length := zb_bound 0 g.length
  have hos := ev_orders hg v.needsD (g.length + 1) (by omega) [] 0 hok0 (by rw [hnl]; omega)
  have hne := ordersL_ne v (g.length + 1) [] 0 hok0 (by omega)
  have hall : ∀ o ∈ ordersL G.needs (g.length + 1) [] 0, ordOk g.length G.needs o 0 = true ∧ o.length = g.length := fun o ho => by
   obtain ⟨r, e, h1, h2⟩ := ordersL_ok (g.length + 1) [] 0 o ho
   have e : o = r := e
   rw [hnl] at h1 h2
   rw [e] at h2 ⊢
   exact ⟨h1, h2⟩
  have hev : ∀ o ∈ ordersL G.needs (g.length + 1) [] 0, Ev (fun k => spec_order.f k g room wk o) (up (startGo g G.needs room wk o 0 (List.replicate g.length 0))) ∧ Ev (fun k => spec_endOf.f k g (up (startGo g G.needs room wk o 0 (List.replicate g.length 0)))) ((ordEnd g G.needs room wk o : Nat) : Int) := fun o ho => by
   obtain ⟨h1, h2⟩ := hall o ho
   obtain ⟨h3, h4⟩ := endGo_is hnb hf h8 o 0 0 (List.replicate g.length 0) 0 h1 (st_zero g) (by omega) (Nat.two_pow_pos _) (by rw [h2]; exact hz0) ⟨(fun k hk => by rw [Nat.zero_testBit] at hk; cases hk), .inl rfl⟩
   refine ⟨ev_orderS v hf htok h5 h2 h1, ?_⟩
   have h6 := ev_endOf htok h8 (by rw [startGo_length, List.length_replicate]) h4
   rw [← h3] at h6
   exact h6
  have hlenO : ∀ o ∈ ordersL G.needs (g.length + 1) [] 0, o.length < big ∧ o.length < 17592186044416 := fun o ho => by
   have h2 := (hall o ho).2
   exact ⟨by rw [h2]; unfold big; omega, Nat.lt_of_le_of_lt (Nat.le_of_eq h2) (Nat.lt_of_le_of_lt h8 (by decide))⟩
  have hcnt := ordersL_le (N := G.needs) (by rw [hnl]; exact h8) (g.length + 1) [] 0
  have hcnt2 : (ordersL G.needs (g.length + 1) [] 0).length < big := Nat.lt_of_le_of_lt (Nat.le_trans hcnt (Nat.pow_le_pow_right (by omega) (show g.length + 1 ≤ 6 by omega))) (by decide)
  have main : Ev (fun k => spec_BestOrder.f k g room wk) (match (ordersL G.needs (g.length + 1) [] 0).foldl (bstep (ordEnd g G.needs room wk)) none with | none => ([] : List Int) | some b => b.1) ∧ ∃ b, (ordersL G.needs (g.length + 1) [] 0).foldl (bstep (ordEnd g G.needs room wk)) none = some b ∧ b.1 ∈ ordersL G.needs (g.length + 1) [] 0 ∧ b.2 = ordEnd g G.needs room wk b.1 := by
   generalize ordersL G.needs (g.length + 1) [] 0 = OS at hos hne hall hev hlenO hcnt2 ⊢
   have key : ∀ (r pre : List (List Int)) (b : List Int × Nat), OS = pre ++ r → b.1 ∈ OS → b.2 = ordEnd g G.needs room wk b.1 → ∃ c, r.foldl (bstep (ordEnd g G.needs room wk)) (some b) = some c ∧ c.1 ∈ OS ∧ c.2 = ordEnd g G.needs room wk c.1 ∧ Ev (fun k => spec_BestOrder.l0 k g room wk OS b.1 ((b.2 : Nat) : Int) (pre.length : Int)) c.1 := by
    intro r
    induction r with
    | nil =>
     intro pre b hp hb1 hb2
     rw [List.append_nil] at hp
     refine ⟨b, rfl, hb1, hb2, ?_⟩
     refine Ev.succ ?_
     simp only [spec_BestOrder.l0]
     refine Ev.neg (by rw [hp]; exact Int.lt_irrefl _) ?_
     obtain ⟨h1, h2⟩ := hlenO b.1 hb1
     rw [copyInts_eq h1 h2]
     exact Ev.const _
    | cons o r ih =>
     intro pre b hp hb1 hb2
     have hlen : OS.length = pre.length + (r.length + 1) := by rw [hp]; simp
     have hom : o ∈ OS := by rw [hp]; simp
     have hrd : rd_L1 OS (pre.length : Int) = o := by unfold rd_L1; rw [Int.toNat_natCast, hp]; simp
     have hw : wrap64 ((pre.length : Int) + 1) = ((pre ++ [o]).length : Int) := by rw [w64s (by omega)]; simp
     obtain ⟨he1, he2⟩ := hev o hom
     have hbs : bstep (ordEnd g G.needs room wk) (some b) o = if ordEnd g G.needs room wk o < b.2 then some (o, ordEnd g G.needs room wk o) else some b := rfl
     rw [List.foldl_cons, hbs]
     by_cases hlt : ordEnd g G.needs room wk o < b.2
     ·rw [if_pos hlt]
      obtain ⟨c, h1, h2, h3, h4⟩ := ih (pre ++ [o]) (o, ordEnd g G.needs room wk o) (by rw [hp]; simp) hom rfl
      refine ⟨c, h1, h2, h3, ?_⟩
      refine Ev.succ ?_
      simp only [spec_BestOrder.l0, hrd, hw]
      exact Ev.pos (Int.ofNat_lt.2 (by omega)) (Ev.pos (Int.natCast_nonneg _) (Ev.bind he1 (Ev.bind he2 (Ev.pos (Int.ofNat_lt.2 hlt) h4))))
     ·rw [if_neg hlt]
      obtain ⟨c, h1, h2, h3, h4⟩ := ih (pre ++ [o]) b (by rw [hp]; simp) hb1 hb2
      refine ⟨c, h1, h2, h3, ?_⟩
      refine Ev.succ ?_
      simp only [spec_BestOrder.l0, hrd, hw]
      exact Ev.pos (Int.ofNat_lt.2 (by omega)) (Ev.pos (Int.natCast_nonneg _) (Ev.bind he1 (Ev.bind he2 (Ev.neg (fun h => hlt (Int.ofNat_lt.1 h)) h4))))
   cases OS with
   | nil => exact absurd rfl hne
   | cons o OS =>
    obtain ⟨he1, he2⟩ := hev o List.mem_cons_self
    obtain ⟨c, h1, h2, h3, h4⟩ := key OS [o] (o, ordEnd g G.needs room wk o) rfl List.mem_cons_self rfl
    have hfold : (o :: OS).foldl (bstep (ordEnd g G.needs room wk)) none = some c := h1
    rw [hfold]
    refine ⟨?_, c, rfl, h2, h3⟩
    have hrd : rd_L1 (o :: OS) 0 = o := rfl
    unfold spec_BestOrder.f
    refine Ev.bind hvs (Ev.pos rfl (Ev.bind hos (Ev.pos (by rw [List.length_cons]; omega) ?_)))
    rw [hrd]
    exact Ev.bind he1 (Ev.bind he2 h4)
  exact ⟨main.1, fun G' hG' => by cases hG'; exact main.2⟩
end Go.Proofs.YtimbfcedigaffaaDoor.Core
end
section
namespace Go.Proofs.YtimbfcedigaffaaDoor.Core
open Go Go.RowKit Go.Proofs.YtimbfcedigaffaaDoorW.PrintWords Go.Proofs.YtimbfcedigaffaaDoorW.PrintMore Go.Proofs.YtimbfcedigaffaaDoor.P
/-- What the reference makes of each of all orders. -/
theorem ord_ev {g : List Tk} {room : List Int} {wk : Int} {G : GD} (hfew : fewD g room wk = some G) : ∀ o ∈ ordersL G.needs (g.length + 1) [] 0, (ordOk g.length G.needs o 0 = true ∧ o.length = g.length) ∧ Ev (fun k => spec_order.f k g room wk o) (up (startGo g G.needs room wk o 0 (List.replicate g.length 0))) ∧ Ev (fun k => spec_endOf.f k g (up (startGo g G.needs room wk o 0 (List.replicate g.length 0)))) ((ordEnd g G.needs room wk o : Nat) : Int) := by
 obtain ⟨h5, hp⟩ := fewD_some hfew
 obtain ⟨hG, hroom, hw1, hw4⟩ := placeD_some hp
 have v := vg_of hG
 have h8 := v.n8
 have h256 := pow8 h8
 have hf := fine_of hG hroom hw1
 have htok := graphD_taskOk hG
 have hnl := v.nl
 have hnb : ∀ x, G.needs.getD x 0 < 256 := fun x => Nat.lt_of_lt_of_le (getD_lt v.nb x) h256
 have hz0 : zb g.length 0 ≤ g.length := zb_bound 0 g.length
 intro o ho
 obtain ⟨r, e, h1, h2⟩ := ordersL_ok (g.length + 1) [] 0 o ho
 have e : o = r := e
 rw [hnl] at h1 h2
 rw [← e] at h1
 obtain ⟨h3, h4⟩ := endGo_is hnb hf h8 o 0 0 (List.replicate g.length 0) 0 h1 (st_zero g) (by omega) (Nat.two_pow_pos _) (by rw [h2]; exact hz0) ⟨(fun k hk => by rw [Nat.zero_testBit] at hk; cases hk), .inl rfl⟩
 have h6 := ev_endOf htok h8 (by rw [startGo_length, List.length_replicate]) h4
 rw [← h3] at h6
 exact ⟨⟨h1, h2⟩, ev_orderS v hf htok h5 h2 h1, h6⟩
theorem ev_BestTime' {g : List Tk} (hg : Fits g) {room : List Int} {wk : Int} (hr : room.length < big) : Ev (fun k => spec_BestTime.f k g room wk) (bestTD g room wk) := by
 have hvs := ev_validSearch hg hr wk
 obtain ⟨hbo, hb⟩ := ev_BestOrder' hg (room := room) (wk := wk) hr
 unfold spec_BestTime.f
 refine Ev.bind hvs ?_
 cases hfew : fewD g room wk with
 | none =>
  have e : bestTD g room wk = -1 := by unfold bestTD bestD; rw [hfew]
  rw [e]
  exact Ev.neg (by simp) (Ev.const _)
 | some G =>
  obtain ⟨b, h1, h2, h3⟩ := hb G hfew
  have e1 : bestTD g room wk = (b.2 : Int) := by unfold bestTD; rw [h1]
  have e2 : bestOD g room wk = b.1 := by unfold bestOD; rw [h1]
  obtain ⟨-, h4, h5⟩ := ord_ev hfew b.1 h2
  rw [e2] at hbo
  rw [e1, h3]
  exact Ev.pos rfl (Ev.bind hbo (Ev.bind h4 (Ev.bind h5 (Ev.const _))))
theorem best_none {g : List Tk} {room : List Int} {wk : Int} (h : bestD g room wk = none) : fewD g room wk = none := by
 cases hfew : fewD g room wk with
 | none => rfl
 | some G =>
  exfalso
  obtain ⟨h5, hp⟩ := fewD_some hfew
  have v := vg_of (placeD_some hp).1
  have hne := ordersL_ne v (g.length + 1) [] 0 (ord_nil G.needs) (by have := zb_bound 0 g.length; omega)
  unfold bestD at h
  rw [hfew] at h
  simp only [] at h
  generalize ordersL G.needs (g.length + 1) [] 0 = OS at h hne
  cases OS with
  | nil => exact hne rfl
  | cons o os =>
   obtain ⟨c, hc⟩ := bstep_some (ordEnd g G.needs room wk) (o, ordEnd g G.needs room wk o) os
   have h : os.foldl (bstep (ordEnd g G.needs room wk)) (some (o, ordEnd g G.needs room wk o)) = none := h
   rw [hc] at h
   cases h
/-- The program's search, begun with nothing, comes to the best order. -/
theorem fromF_best {g : List Tk} {room : List Int} {wk : Int} {G : GD} (hfew : fewD g room wk = some G) : fromF g G.needs room wk (g.length + 1) [] (List.replicate g.length 0) 0 0 none = bestD g room wk := by
 unfold bestD
 rw [hfew]
 exact fromF_fold (ordEnd g G.needs room wk) (g.length + 1) [] (List.replicate g.length 0) 0 0 none (fun r => rfl)
end Go.Proofs.YtimbfcedigaffaaDoor.Core
end
section
namespace Go.Proofs.YtimbfcedigaffaaDoor.Core
open Go Go.RowKit Go.Proofs.YtimbfcedigaffaaDoorW.PrintWords Go.Proofs.YtimbfcedigaffaaDoorW.PrintMore Go.Proofs.YtimbfcedigaffaaDoor.P
theorem usedN_sub {g : List Tk} {p : Int} : ∀ {L M : List Nat}, List.Sublist M L → UOk g L → usedN g p M ≤ usedN g p L
 | _, _, .slnil, _ => Int.le_refl _
 | _, _, .cons (l₂ := L) i h, hu => by
  have ih := usedN_sub (p := p) h (fun j hj => hu j (List.mem_cons_of_mem _ hj))
  have := hu i List.mem_cons_self
  simp only [usedN]
  split <;> omega
 | _, _, .cons_cons i h, hu => by
  have ih := usedN_sub (p := p) h (fun j hj => hu j (List.mem_cons_of_mem _ hj))
  simp only [usedN]
  omega
theorem filter_sub {a b : Nat → Bool} (h : ∀ k, a k = true → b k = true) : ∀ R : List Nat, List.Sublist (R.filter a) (R.filter b)
 | [] => .slnil
 | k :: R => by
  cases ha : a k with
  | true =>
   rw [List.filter_cons_of_pos ha, List.filter_cons_of_pos (h k ha)]
   exact .cons_cons _ (filter_sub h R)
  | false =>
   rw [List.filter_cons_of_neg (by rw [ha]; exact Bool.false_ne_true)]
   cases hb : b k with
   | true => rw [List.filter_cons_of_pos hb]; exact .cons _ (filter_sub h R)
   | false => rw [List.filter_cons_of_neg (by rw [hb]; exact Bool.false_ne_true)]; exact filter_sub h R
end Go.Proofs.YtimbfcedigaffaaDoor.Core
end
section
namespace Go.Proofs.YtimbfcedigaffaaDoor.Core
open Go Go.RowKit Go.Proofs.YtimbfcedigaffaaDoorW.PrintWords Go.Proofs.YtimbfcedigaffaaDoorW.PrintMore Go.Proofs.YtimbfcedigaffaaDoor.P
/-- The sum of the times of tasks. -/
def tsum (g : List Tk) : List Nat → Nat
 | [] => 0
 | k :: ks => tmN g k + tsum g ks
theorem tsum_filt (g : List Tk) (a b : Nat → Bool) (i : Nat) (ha : a i = false) (hb : ∀ j, b j = (a j || decide (i = j))) : ∀ R : List Nat, R.Nodup → tsum g (R.filter b) = tsum g (R.filter a) + (if i ∈ R then tmN g i else 0)
 | [], _ => by simp [tsum]
 | j :: R, hn => by
  obtain ⟨hj, hR⟩ := List.nodup_cons.1 hn
  have h1 := tsum_filt g a b i ha hb R hR
  by_cases e : i = j
  ·subst e
   have hbi : b i = true := by rw [hb]; simp
   rw [if_neg hj, Nat.add_zero] at h1
   rw [List.filter_cons_of_pos hbi, List.filter_cons_of_neg (by rw [ha]; simp), if_pos List.mem_cons_self, tsum, h1]
   omega
  ·have hm : (i ∈ j :: R) ↔ i ∈ R := by simp [e]
   have hbj : b j = a j := by rw [hb, decide_eq_false e, Bool.or_false]
   simp only [hm]
   cases haj : a j with
   | true =>
    rw [List.filter_cons_of_pos (by rw [hbj]; exact haj), List.filter_cons_of_pos haj, tsum, tsum, h1]
    omega
   | false =>
    rw [List.filter_cons_of_neg (by rw [hbj, haj]; simp), List.filter_cons_of_neg (by rw [haj]; simp)]
    exact h1
/-- The sum of the times of a set of tasks. -/
def setSum (g : List Tk) (pl : Nat) : Nat := tsum g ((List.range g.length).filter (fun k => pl.testBit k))
theorem setSum_or {g : List Tk} {pl x : Nat} (hx : x < g.length) (hb : pl.testBit x = false) : setSum g (pl ||| 2 ^ x) = setSum g pl + tmN g x := by
 have h := tsum_filt g (fun j => pl.testBit j) (fun j => (pl ||| 2 ^ x).testBit j) x hb (fun j => or_bit pl x j) (List.range g.length) List.nodup_range
 rw [if_pos (List.mem_range.2 hx)] at h
 exact h
theorem setSum_zero (g : List Tk) : setSum g 0 = 0 := by
 unfold setSum
 rw [List.filter_eq_nil_iff.2 (fun k _ => by rw [Nat.zero_testBit]; exact Bool.false_ne_true)]
 rfl
theorem setSum_full (g : List Tk) : setSum g (2 ^ g.length - 1) = tsum g (List.range g.length) := by
 unfold setSum
 rw [List.filter_eq_self.2 (fun k hk => by rw [Nat.testBit_two_pow_sub_one]; exact decide_eq_true (List.mem_range.1 hk))]
/-- Placed tasks fill the time up to e. -/
structure Tile (g : List Tk) (L : List Nat) (pl e : Nat) : Prop where
 over : overBy g L pl e
 full : ∀ t, t < e → ∃ k, pl.testBit k = true ∧ runsAt g L t k = true
 sum : e = setSum g pl
theorem earl_tile {g : List Tk} {room : List Int} (hf : Fine g room 1) (h8 : g.length ≤ 8) {L : List Nat} {pl i e : Nat} (hi : i < g.length) (hpl : pl < 2 ^ g.length) (ht : Tile g L pl e) : ∀ (F f a : Nat), a + F = e → F ≤ f → earlN g L pl i room 1 f a = e := by
 intro F
 induction F with
 | zero =>
  intro f a ha _
  have hae : a = e := ha
  have hfr := free_over hf hi ht.over (tmN g i) a (Nat.le_of_eq hae.symm)
  cases f with
  | zero => exact hae
  | succ f => unfold earlN; rw [if_pos hfr]; exact hae
 | succ F ih =>
  intro f a ha hFf
  obtain ⟨f', rfl⟩ : ∃ f', f = f' + 1 := ⟨f - 1, by omega⟩
  obtain ⟨k, hk1, hk2⟩ := ht.full a (by omega)
  have htm := (hf.tm i hi).1
  obtain ⟨T, hT⟩ : ∃ T, tmN g i = T + 1 := ⟨tmN g i - 1, by omega⟩
  have hkn : k < g.length := by
   have h4 : 2 ^ k < 2 ^ g.length := Nat.lt_of_le_of_lt (Nat.ge_two_pow_of_testBit hk1) hpl
   exact (Nat.pow_lt_pow_iff_right (by omega)).1 h4
  have hmem : k ∈ runL g L pl g.length a := List.mem_filter.2 ⟨List.mem_range.2 hkn, by rw [hk1, hk2]; rfl⟩
  have hpos := List.length_pos_of_mem hmem
  have hfb : freeB g L pl i room 1 a = false := by
   rw [freeB_eq hf h8 hi hpl, decide_eq_false (by omega), Bool.false_and]
  have hfn : freeN g L pl i room 1 (tmN g i) a = false := by
   rw [hT]
   show (freeB g L pl i room 1 a && freeN g L pl i room 1 T (a + 1)) = false
   rw [hfb, Bool.false_and]
  have e1 : earlN g L pl i room 1 (f' + 1) a = earlN g L pl i room 1 f' (a + 1) := by rw [earlN, if_neg (by rw [hfn]; exact Bool.false_ne_true)]
  rw [e1]
  exact ih f' (a + 1) (by omega) (by omega)
theorem endGo_one {g : List Tk} {N : List Nat} (hnb : ∀ x, N.getD x 0 < 256) {room : List Int} (hf : Fine g room 1) (h8 : g.length ≤ 8) : ∀ (r : List Int) (pl j : Nat) (L : List Nat) (e : Nat), ordOk g.length N r pl = true → StOk g L pl j → j + r.length ≤ 8 → pl < 2 ^ g.length → zb g.length pl ≤ r.length → e ≤ 20 * j → Tile g L pl e → endGo g N room 1 r pl L e = tsum g (List.range g.length) := by
 intro r
 induction r with
 | nil =>
  intro pl j L e _ _ _ hpl hz _ ht
  have hfull := (full_zb hpl).1 (by simpa using hz)
  show e = _
  rw [ht.sum, hfull, setSum_full]
 | cons y r ih =>
  intro pl j L e hord hst hj hpl hz hej ht
  unfold ordOk at hord
  by_cases hc : (0 ≤ y ∧ y ≤ (g.length : Int) - 1) ∧ pl.testBit y.toNat = false ∧ sub (N.getD y.toNat 0) pl = 0
  ·rw [if_pos hc] at hord
   obtain ⟨hin, hsk, hsz⟩ := hc
   rw [List.length_cons] at hj hz
   have hx : y.toNat < g.length := by omega
   have h256 := pow8 h8
   have hsubs := sub_none (hnb y.toNat) (Nat.lt_of_lt_of_le hpl h256) hsz
   obtain ⟨hst2, he20⟩ := hst.step (wk := 1) hf hx (by omega) hsubs hsk
   have hzb := zb_orO hx hsk
   have hnd := needEnd_le ht.over hsubs
   have hee : earlD g L (N.getD y.toNat 0) pl y.toNat room 1 = e := earl_tile hf h8 hx hpl ht (e - needEnd g L (N.getD y.toNat 0)) 400 _ (by omega) (by omega)
   have htm := hf.tm y.toNat hx
   have hs2 : endGo g N room 1 (y :: r) pl L e = endGo g N room 1 r (pl ||| 2 ^ y.toNat) (L.set y.toNat (earlD g L (N.getD y.toNat 0) pl y.toNat room 1)) (max e (earlD g L (N.getD y.toNat 0) pl y.toNat room 1 + tmN g y.toNat)) := rfl
   rw [hs2]
   rw [hee] at hst2 ⊢
   rw [Nat.max_eq_right (by omega)]
   have hne : ∀ k, pl.testBit k = true → y.toNat ≠ k := fun k hk h => by rw [← h, hsk] at hk; cases hk
   have hgd : ∀ k, pl.testBit k = true → (L.set y.toNat e).getD k 0 = L.getD k 0 := fun k hk => by
    rw [List.getD_eq_getElem?_getD, List.getElem?_set_ne (hne k hk), ← List.getD_eq_getElem?_getD]
   have hget : (L.set y.toNat e).getD y.toNat 0 = e := by
    rw [List.getD_eq_getElem?_getD, List.getElem?_set_self (by rw [hst.len]; exact hx), Option.getD_some]
   refine ih (pl ||| 2 ^ y.toNat) (j + 1) _ _ hord hst2 (by omega) (Nat.or_lt_two_pow hpl (Nat.pow_lt_pow_right (by omega) hx)) (by omega) (by omega) ⟨fun k hk => ?_, fun t htl => ?_, ?_⟩
   ·rw [or_bit] at hk
    unfold endN
    by_cases hkp : pl.testBit k = true
    ·rw [hgd k hkp]
     have := ht.over k hkp
     unfold endN at this
     omega
    ·have hyk : y.toNat = k := by
      rw [Bool.eq_false_iff.2 hkp, Bool.false_or] at hk
      exact of_decide_eq_true hk
     subst hyk
     rw [hget]
     exact Nat.le_refl _
   ·by_cases hlt : t < e
    ·obtain ⟨k, hk1, hk2⟩ := ht.full t hlt
     refine ⟨k, by rw [or_bit, hk1, Bool.true_or], ?_⟩
     unfold runsAt endN at hk2 ⊢
     rw [hgd k hk1]
     exact hk2
    ·refine ⟨y.toNat, by rw [or_bit, decide_eq_true rfl, Bool.or_true], ?_⟩
     unfold runsAt endN
     rw [hget, decide_eq_true (show e ≤ t by omega), decide_eq_true htl]
     rfl
   ·rw [setSum_or hx hsk, ← ht.sum]
  ·rw [if_neg hc] at hord; cases hord
/-- Every order takes the sum of all times, for one worker. -/
theorem ordEnd_one {g : List Tk} {room : List Int} {G : GD} (hfew : fewD g room 1 = some G) : ∀ o ∈ ordersL G.needs (g.length + 1) [] 0, ordEnd g G.needs room 1 o = tsum g (List.range g.length) := by
 obtain ⟨h5, hp⟩ := fewD_some hfew
 obtain ⟨hG, hroom, hw1, hw4⟩ := placeD_some hp
 have v := vg_of hG
 have h8 := v.n8
 have h256 := pow8 h8
 have hf := fine_of hG hroom (show (1 : Int) ≤ 1 by decide)
 have hnb : ∀ x, G.needs.getD x 0 < 256 := fun x => Nat.lt_of_lt_of_le (getD_lt v.nb x) h256
 intro o ho
 obtain ⟨⟨h1, h2⟩, -, -⟩ := ord_ev hfew o ho
 have hz0 : zb g.length 0 ≤ o.length := by rw [h2]; exact zb_bound 0 g.length
 exact endGo_one hnb hf h8 o 0 0 (List.replicate g.length 0) 0 h1 (st_zero g) (by omega) (Nat.two_pow_pos _) hz0 (Nat.le_refl _) ⟨(fun k hk => by rw [Nat.zero_testBit] at hk; cases hk), (fun t ht => absurd ht (Nat.not_lt_zero t)), (setSum_zero g).symm⟩
/-- The best time for one worker. -/
theorem bestTD_one {g : List Tk} (hg : Fits g) {room : List Int} (hr : room.length < big) {G : GD} (hfew : fewD g room 1 = some G) : bestTD g room 1 = ((tsum g (List.range g.length) : Nat) : Int) := by
 obtain ⟨-, hb⟩ := ev_BestOrder' hg (room := room) (wk := 1) hr
 obtain ⟨b, h1, h2, h3⟩ := hb G hfew
 unfold bestTD
 rw [h1]
 show ((b.2 : Nat) : Int) = _
 rw [h3, ordEnd_one hfew b.1 h2]
end Go.Proofs.YtimbfcedigaffaaDoor.Core
end
section
namespace Go.Proofs.YtimbfcedigaffaaDoor.Core
open Go Go.RowKit Go.Proofs.YtimbfcedigaffaaDoorW.PrintWords Go.Proofs.YtimbfcedigaffaaDoorW.PrintMore Go.Proofs.YtimbfcedigaffaaDoor.P
theorem usedN_add (g : List Tk) (p : Int) (a b : Nat → Bool) (i : Nat) (ha : a i = false) (hb : ∀ j, b j = (a j || decide (i = j))) : ∀ R : List Nat, R.Nodup →
  usedN g p (R.filter b) = usedN g p (R.filter a) + (if i ∈ R then (if (g.getD i z39).f2 = p then (g.getD i z39).f3 else 0) else 0) ∧ (R.filter b).length = (R.filter a).length + (if i ∈ R then 1 else 0)
 | [], _ => by simp [usedN]
 | j :: R, hn => by
  obtain ⟨hj, hR⟩ := List.nodup_cons.1 hn
  obtain ⟨h1, h2⟩ := usedN_add g p a b i ha hb R hR
  by_cases e : i = j
  ·subst e
   have hbi : b i = true := by rw [hb]; simp
   rw [if_neg hj, Int.add_zero] at h1
   rw [if_neg hj, Nat.add_zero] at h2
   rw [List.filter_cons_of_pos hbi, List.filter_cons_of_neg (by rw [ha]; simp), if_pos List.mem_cons_self, if_pos List.mem_cons_self]
   refine ⟨?_, ?_⟩
   ·rw [usedN, h1]; omega
   ·rw [List.length_cons, h2]
  ·have hm : (i ∈ j :: R) ↔ i ∈ R := by simp [e]
   have hbj : b j = a j := by rw [hb, decide_eq_false e, Bool.or_false]
   simp only [hm]
   cases haj : a j with
   | true =>
    rw [List.filter_cons_of_pos (by rw [hbj]; exact haj), List.filter_cons_of_pos haj]
    refine ⟨?_, ?_⟩
    ·rw [usedN, usedN, h1]; omega
    ·rw [List.length_cons, List.length_cons, h2]; omega
   | false =>
    rw [List.filter_cons_of_neg (by rw [hbj, haj]; simp), List.filter_cons_of_neg (by rw [haj]; simp)]
    exact ⟨h1, h2⟩
theorem freeN_at {g : List Tk} {L : List Nat} {pl i : Nat} {room : List Int} {wk : Int} : ∀ (d now : Nat), freeN g L pl i room wk d now = true → ∀ t, now ≤ t → t < now + d → freeB g L pl i room wk t = true
 | 0, now, _, t, h1, h2 => by omega
 | d + 1, now, h, t, h1, h2 => by
  have h' : (freeB g L pl i room wk now && freeN g L pl i room wk d (now + 1)) = true := h
  obtain ⟨h3, h4⟩ := (Bool.and_eq_true _ _).mp h'
  by_cases e : now = t
  ·rw [← e]; exact h3
  ·exact freeN_at d (now + 1) h4 t (by omega) (by omega)
theorem freeN_of {g : List Tk} {L : List Nat} {pl i : Nat} {room : List Int} {wk : Int} : ∀ (d now : Nat), (∀ t, now ≤ t → t < now + d → freeB g L pl i room wk t = true) → freeN g L pl i room wk d now = true
 | 0, _, _ => rfl
 | d + 1, now, h => by
  show (freeB g L pl i room wk now && freeN g L pl i room wk d (now + 1)) = true
  rw [h now (Nat.le_refl _) (by omega), freeN_of d (now + 1) (fun t h1 h2 => h t (by omega) (by omega))]
  rfl
/-- At each time no more tasks run than there are workers, and they fit. -/
def Feas (g : List Tk) (L : List Nat) (pl : Nat) (room : List Int) (wk : Int) : Prop := ∀ t, ((runL g L pl g.length t).length : Int) ≤ wk ∧ ∀ p : Int, 0 ≤ p → p ≤ 2 → usedN g p (runL g L pl g.length t) ≤ rd room p
/-- Needs are over when tasks begin. -/
def NeedsOk (g : List Tk) (N L : List Nat) (pl : Nat) : Prop := ∀ x, pl.testBit x = true → ∀ k, (N.getD x 0).testBit k = true → pl.testBit k = true ∧ endN g L k ≤ L.getD x 0
theorem needEnd_ge {g : List Tk} {L : List Nat} {s k : Nat} (hk8 : k < 8) (hk : s.testBit k = true) : endN g L k ≤ needEnd g L s := by
 have key : ∀ (ks : List Nat) (a : Nat), a ≤ ks.foldl (eStep g L) a ∧ ∀ j ∈ ks, endN g L j ≤ ks.foldl (eStep g L) a := by
  intro ks
  induction ks with
  | nil => intro a; exact ⟨Nat.le_refl _, by simp⟩
  | cons i ks ih =>
   intro a
   obtain ⟨h1, h2⟩ := ih (eStep g L a i)
   rw [List.foldl_cons]
   have h3 : a ≤ eStep g L a i := Nat.le_max_left _ _
   have h4 : endN g L i ≤ eStep g L a i := Nat.le_max_right _ _
   refine ⟨Nat.le_trans h3 h1, fun j hj => ?_⟩
   rcases List.mem_cons.1 hj with rfl | hj
   ·exact Nat.le_trans h4 h1
   ·exact h2 j hj
 exact (key (elemsN s) 0).2 k (mem_elemsN.2 ⟨hk8, hk⟩)
theorem feas_step {g : List Tk} {room : List Int} {wk : Int} (hf : Fine g room wk) (h8 : g.length ≤ 8) {L : List Nat} {pl x e : Nat} (hl : L.length = g.length) (hx : x < g.length) (hpl : pl < 2 ^ g.length) (hb : pl.testBit x = false) (hF : Feas g L pl room wk) (hfr : freeN g L pl x room wk (tmN g x) e = true) : Feas g (L.set x e) (pl ||| 2 ^ x) room wk := by
 intro t
 have hne : ∀ k, pl.testBit k = true → x ≠ k := fun k hk h => by rw [← h, hb] at hk; cases hk
 have hold : ∀ k, x ≠ k → runsAt g (L.set x e) t k = runsAt g L t k := fun k h => by
  unfold runsAt endN
  rw [List.getD_eq_getElem?_getD, List.getElem?_set_ne h, ← List.getD_eq_getElem?_getD]
 have hnew : runsAt g (L.set x e) t x = (decide (e ≤ t) && decide (t < e + tmN g x)) := by
  unfold runsAt endN
  rw [List.getD_eq_getElem?_getD, List.getElem?_set_self (by rw [hl]; exact hx), Option.getD_some]
 obtain ⟨hc, hu⟩ := hF t
 by_cases hr : e ≤ t ∧ t < e + tmN g x
 ·have hfb := freeN_at _ _ hfr t hr.1 hr.2
  rw [freeB_eq hf h8 hx hpl] at hfb
  obtain ⟨h1, h2⟩ := (Bool.and_eq_true _ _).mp hfb
  have h1 := of_decide_eq_true h1
  have h2 := of_decide_eq_true h2
  have hua : UOk g (runL g L pl g.length t) := fun k hk => hf.units k (runL_lt k hk)
  have hlen := runL_len g L pl g.length t
  have hun := hf.units x hx
  have hp := hf.pool x hx
  have bd := usedN_bd (p := (g.getD x z39).f2) hua
  rw [w64 (by omega) (by omega)] at h2
  have hbits : ∀ k, ((pl ||| 2 ^ x).testBit k && runsAt g (L.set x e) t k) = ((pl.testBit k && runsAt g L t k) || decide (x = k)) := fun k => by
   rw [or_bit]
   by_cases h : x = k
   ·subst h
    rw [hnew, decide_eq_true hr.1, decide_eq_true hr.2, decide_eq_true rfl, hb]
    rfl
   ·rw [decide_eq_false h, hold k h, Bool.or_false, Bool.or_false]
  have hadd := fun p => usedN_add g p (fun k => pl.testBit k && runsAt g L t k) (fun k => (pl ||| 2 ^ x).testBit k && runsAt g (L.set x e) t k) x (by show (pl.testBit x && runsAt g L t x) = false; rw [hb, Bool.false_and]) hbits (List.range g.length) List.nodup_range
  refine ⟨?_, fun p p0 p2 => ?_⟩
  ·have h3 := (hadd 0).2
   rw [if_pos (List.mem_range.2 hx)] at h3
   have h3 : (runL g (L.set x e) (pl ||| 2 ^ x) g.length t).length = (runL g L pl g.length t).length + 1 := h3
   omega
  ·have h3 := (hadd p).1
   rw [if_pos (List.mem_range.2 hx)] at h3
   have h3 : usedN g p (runL g (L.set x e) (pl ||| 2 ^ x) g.length t) = usedN g p (runL g L pl g.length t) + (if (g.getD x z39).f2 = p then (g.getD x z39).f3 else 0) := h3
   rw [h3]
   split
   ·rename_i he; subst he; exact h2
   ·rw [Int.add_zero]; exact hu p p0 p2
 ·have hsame : runL g (L.set x e) (pl ||| 2 ^ x) g.length t = runL g L pl g.length t := by
   unfold runL
   congr 1
   funext k
   rw [or_bit]
   by_cases h : x = k
   ·subst h
    have hd : (decide (e ≤ t) && decide (t < e + tmN g x)) = false := by
     by_cases h1 : e ≤ t
     ·rw [decide_eq_false (fun h2 => hr ⟨h1, h2⟩), Bool.and_false]
     ·rw [decide_eq_false h1, Bool.false_and]
    rw [hnew, hd, hb, Bool.and_false]
    rfl
   ·rw [decide_eq_false h, hold k h, Bool.or_false]
  rw [hsame]
  exact ⟨hc, hu⟩
theorem feas_zero {g : List Tk} {room : List Int} {wk : Int} (hf : Fine g room wk) (L : List Nat) : Feas g L 0 room wk := by
 intro t
 have e : runL g L 0 g.length t = [] := List.filter_eq_nil_iff.2 (fun k _ => by rw [Nat.zero_testBit, Bool.false_and]; exact Bool.false_ne_true)
 rw [e]
 have hw := hf.wk
 exact ⟨by rw [List.length_nil]; omega, fun p p0 p2 => by have := room_at hf.room p0 p2; show (0 : Int) ≤ _; omega⟩
/-- The beginnings of an order are feasible. -/
theorem startGo_feas {g : List Tk} {N : List Nat} (hnb : ∀ x, N.getD x 0 < 256) {room : List Int} {wk : Int} (hf : Fine g room wk) (h8 : g.length ≤ 8) : ∀ (r : List Int) (pl j : Nat) (L : List Nat), ordOk g.length N r pl = true → StOk g L pl j → j + r.length ≤ 8 → pl < 2 ^ g.length → zb g.length pl ≤ r.length → Feas g L pl room wk → NeedsOk g N L pl →
  Feas g (startGo g N room wk r pl L) (2 ^ g.length - 1) room wk ∧ NeedsOk g N (startGo g N room wk r pl L) (2 ^ g.length - 1) := by
 intro r
 induction r with
 | nil =>
  intro pl j L _ _ _ hpl hz hF hN
  rw [(full_zb hpl).1 (by simpa using hz)] at hF hN
  exact ⟨hF, hN⟩
 | cons y r ih =>
  intro pl j L hord hst hj hpl hz hF hN
  unfold ordOk at hord
  by_cases hc : (0 ≤ y ∧ y ≤ (g.length : Int) - 1) ∧ pl.testBit y.toNat = false ∧ sub (N.getD y.toNat 0) pl = 0
  ·rw [if_pos hc] at hord
   obtain ⟨hin, hsk, hsz⟩ := hc
   rw [List.length_cons] at hj hz
   have hx : y.toNat < g.length := by omega
   have h256 := pow8 h8
   have hsubs := sub_none (hnb y.toNat) (Nat.lt_of_lt_of_le hpl h256) hsz
   obtain ⟨hst2, he20⟩ := hst.step (wk := wk) hf hx (by omega) hsubs hsk
   obtain ⟨hd1, hd2, hd3, -⟩ := earlD_le (wk := wk) hf hx hst.over (by omega) hsubs
   have hzb := zb_orO hx hsk
   have hs1 : startGo g N room wk (y :: r) pl L = startGo g N room wk r (pl ||| 2 ^ y.toNat) (L.set y.toNat (earlD g L (N.getD y.toNat 0) pl y.toNat room wk)) := rfl
   rw [hs1]
   generalize earlD g L (N.getD y.toNat 0) pl y.toNat room wk = ee at hst2 hd1 hd2 hd3
   have hne : ∀ k, pl.testBit k = true → y.toNat ≠ k := fun k hk h => by rw [← h, hsk] at hk; cases hk
   have hgd : ∀ k, pl.testBit k = true → (L.set y.toNat ee).getD k 0 = L.getD k 0 := fun k hk => by
    rw [List.getD_eq_getElem?_getD, List.getElem?_set_ne (hne k hk), ← List.getD_eq_getElem?_getD]
   have hget : (L.set y.toNat ee).getD y.toNat 0 = ee := by
    rw [List.getD_eq_getElem?_getD, List.getElem?_set_self (by rw [hst.len]; exact hx), Option.getD_some]
   have hend : ∀ k, pl.testBit k = true → endN g (L.set y.toNat ee) k = endN g L k := fun k hk => by unfold endN; rw [hgd k hk]
   refine ih (pl ||| 2 ^ y.toNat) (j + 1) _ hord hst2 (by omega) (Nat.or_lt_two_pow hpl (Nat.pow_lt_pow_right (by omega) hx)) (by omega) (feas_step hf h8 hst.len hx hpl hsk hF hd3) ?_
   intro z hz' k hk
   rw [or_bit] at hz'
   by_cases hzp : pl.testBit z = true
   ·obtain ⟨h1, h2⟩ := hN z hzp k hk
    exact ⟨by rw [or_bit, h1, Bool.true_or], by rw [hend k h1, hgd z hzp]; exact h2⟩
   ·have hyz : y.toNat = z := by
     rw [Bool.eq_false_iff.2 hzp, Bool.false_or] at hz'
     exact of_decide_eq_true hz'
    subst hyz
    have h1 := hsubs k hk
    have hk8 : k < 8 := by
     have h4 : 2 ^ k < 2 ^ g.length := Nat.lt_of_le_of_lt (Nat.ge_two_pow_of_testBit h1) hpl
     have := (Nat.pow_lt_pow_iff_right (by omega)).1 h4
     omega
    refine ⟨by rw [or_bit, h1, Bool.true_or], ?_⟩
    rw [hend k h1, hget]
    exact Nat.le_trans (needEnd_ge hk8 hk) hd2
  ·rw [if_neg hc] at hord; cases hord
/-- The exchange: from a set of placed tasks whose beginnings are no later than in S, the others can follow, none later than in S. -/
theorem exchange {g : List Tk} {N : List Nat} (hnb : ∀ x, N.getD x 0 < 256) {room : List Int} {wk : Int} (hf : Fine g room wk) (h8 : g.length ≤ 8) {S : List Nat} (hF : Feas g S (2 ^ g.length - 1) room wk) (hN : NeedsOk g N S (2 ^ g.length - 1)) : ∀ (m pl j : Nat) (L : List Nat), zb g.length pl = m → StOk g L pl j → j + m ≤ 8 → pl < 2 ^ g.length → (∀ k, pl.testBit k = true → L.getD k 0 ≤ S.getD k 0) → (∀ k x, pl.testBit k = true → x < g.length → pl.testBit x = false → S.getD k 0 ≤ S.getD x 0) →
  ∃ r : List Int, ordOk g.length N r pl = true ∧ r.length = m ∧ ∀ x, x < g.length → (startGo g N room wk r pl L).getD x 0 ≤ S.getD x 0 := by
 intro m
 induction m with
 | zero =>
  intro pl j L hz hst hj hpl hle _
  have hfull := (full_zb hpl).1 hz
  exact ⟨[], rfl, rfl, fun x hx => hle x (by rw [hfull, Nat.testBit_two_pow_sub_one]; exact decide_eq_true hx)⟩
 | succ m ih =>
  intro pl j L hz hst hj hpl hle hord
  have hfullbit : ∀ k, k < g.length → (2 ^ g.length - 1).testBit k = true := fun k hk => by rw [Nat.testBit_two_pow_sub_one]; exact decide_eq_true hk
  -- the one that begins first of those that are left
  have hmin : ∃ x, x < g.length ∧ pl.testBit x = false ∧ ∀ y, y < g.length → pl.testBit y = false → S.getD x 0 ≤ S.getD y 0 := by
   have hex : ∃ x, x < g.length ∧ pl.testBit x = false := by
    apply Classical.byContradiction
    intro hno
    have : zb g.length pl = 0 := by
     rw [zb_count, List.length_eq_zero_iff, List.filter_eq_nil_iff]
     intro k hk
     have hkn := List.mem_range.1 hk
     cases hb : pl.testBit k with
     | true => simp
     | false => exact absurd ⟨k, hkn, hb⟩ hno
    omega
   have key : ∀ (b : Nat), (∃ x, x < g.length ∧ pl.testBit x = false ∧ S.getD x 0 ≤ b) → ∃ x, x < g.length ∧ pl.testBit x = false ∧ ∀ y, y < g.length → pl.testBit y = false → S.getD x 0 ≤ S.getD y 0 := by
    intro b
    induction b with
    | zero => rintro ⟨x, h1, h2, h3⟩; exact ⟨x, h1, h2, fun y _ _ => by omega⟩
    | succ b ihb =>
     rintro ⟨x, h1, h2, h3⟩
     by_cases h : ∃ x, x < g.length ∧ pl.testBit x = false ∧ S.getD x 0 ≤ b
     ·exact ihb h
     ·refine ⟨x, h1, h2, fun y hy1 hy2 => ?_⟩
      by_cases hyb : S.getD y 0 ≤ b
      ·exact absurd ⟨y, hy1, hy2, hyb⟩ h
      ·omega
   obtain ⟨x, h1, h2⟩ := hex
   exact key _ ⟨x, h1, h2, Nat.le_refl _⟩
  obtain ⟨x, hx, hxb, hxm⟩ := hmin
  have htx := hf.tm x hx
  -- its needs are placed
  have hsubs : ∀ k, (N.getD x 0).testBit k = true → pl.testBit k = true := by
   intro k hk
   obtain ⟨h1, h2⟩ := hN x (hfullbit x hx) k hk
   have hkn : k < g.length := by
    rw [Nat.testBit_two_pow_sub_one] at h1
    exact of_decide_eq_true h1
   cases hb : pl.testBit k with
   | true => rfl
   | false =>
    exfalso
    have h3 := hxm k hkn hb
    have h4 := (hf.tm k hkn).1
    unfold endN at h2
    omega
  have hends : ∀ k, pl.testBit k = true → k < g.length := fun k hk => by
   have h4 : 2 ^ k < 2 ^ g.length := Nat.lt_of_le_of_lt (Nat.ge_two_pow_of_testBit hk) hpl
   exact (Nat.pow_lt_pow_iff_right (by omega)).1 h4
  -- it fits where S has it
  have hfree : freeN g L pl x room wk (tmN g x) (S.getD x 0) = true := by
   refine freeN_of _ _ (fun t t1 t2 => ?_)
   rw [freeB_eq hf h8 hx hpl]
   obtain ⟨hc, hu⟩ := hF t
   have hxr : runsAt g S t x = true := by unfold runsAt endN; rw [decide_eq_true t1, decide_eq_true t2]; rfl
   have himp : ∀ k, ((pl.testBit k && runsAt g L t k) || decide (x = k)) = true → ((2 ^ g.length - 1).testBit k && runsAt g S t k) = true := by
    intro k hk
    rcases (Bool.or_eq_true _ _).mp hk with h | h
    ·obtain ⟨h1, h2⟩ := (Bool.and_eq_true _ _).mp h
     have hkn := hends k h1
     rw [hfullbit k hkn, Bool.true_and]
     unfold runsAt endN at h2 ⊢
     obtain ⟨h3, h4⟩ := (Bool.and_eq_true _ _).mp h2
     have h3 := of_decide_eq_true h3
     have h4 := of_decide_eq_true h4
     have h5 := hle k h1
     have h6 := hord k x h1 hx hxb
     rw [decide_eq_true (show S.getD k 0 ≤ t by omega), decide_eq_true (show t < S.getD k 0 + tmN g k by omega)]
     rfl
    ·have e := of_decide_eq_true h
     subst e
     rw [hfullbit x hx, hxr]
     rfl
   have hsub := filter_sub himp (List.range g.length)
   have hadd := fun p => usedN_add g p (fun k => pl.testBit k && runsAt g L t k) (fun k => (pl.testBit k && runsAt g L t k) || decide (x = k)) x (by show (pl.testBit x && runsAt g L t x) = false; rw [hxb, Bool.false_and]) (fun k => rfl) (List.range g.length) List.nodup_range
   have huS : UOk g (runL g S (2 ^ g.length - 1) g.length t) := fun k hk => hf.units k (runL_lt k hk)
   have huL : UOk g (runL g L pl g.length t) := fun k hk => hf.units k (runL_lt k hk)
   have hp := hf.pool x hx
   have hun := hf.units x hx
   have hlenL := runL_len g L pl g.length t
   have bd := usedN_bd (p := (g.getD x z39).f2) huL
   have c1 := (hadd (g.getD x z39).f2).2
   have c2 := (hadd (g.getD x z39).f2).1
   rw [if_pos (List.mem_range.2 hx)] at c1 c2
   rw [if_pos rfl] at c2
   have c1 : ((List.range g.length).filter (fun k => (pl.testBit k && runsAt g L t k) || decide (x = k))).length = (runL g L pl g.length t).length + 1 := c1
   have c2 : usedN g (g.getD x z39).f2 ((List.range g.length).filter (fun k => (pl.testBit k && runsAt g L t k) || decide (x = k))) = usedN g (g.getD x z39).f2 (runL g L pl g.length t) + (g.getD x z39).f3 := c2
   have d1 : ((List.range g.length).filter (fun k => (pl.testBit k && runsAt g L t k) || decide (x = k))).length ≤ (runL g S (2 ^ g.length - 1) g.length t).length := hsub.length_le
   have d2 : usedN g (g.getD x z39).f2 ((List.range g.length).filter (fun k => (pl.testBit k && runsAt g L t k) || decide (x = k))) ≤ usedN g (g.getD x z39).f2 (runL g S (2 ^ g.length - 1) g.length t) := usedN_sub hsub huS
   have d3 := hu _ hp.1 hp.2
   rw [w64 (by omega) (by omega), decide_eq_true (show ((runL g L pl g.length t).length : Int) < wk by omega), decide_eq_true (by omega)]
   rfl
  have hneS : needEnd g L (N.getD x 0) ≤ S.getD x 0 := by
   refine needEnd_le (pl := N.getD x 0) (fun k hk => ?_) (fun k h => h)
   have h1 := hsubs k hk
   obtain ⟨-, h2⟩ := hN x (hfullbit x hx) k hk
   have h3 := hle k h1
   unfold endN at h2 ⊢
   omega
  have hB := earlD_le (wk := wk) (s := N.getD x 0) hf hx hst.over (by omega) hsubs
  have heS : earlD g L (N.getD x 0) pl x room wk ≤ S.getD x 0 := by
   by_cases hbig : S.getD x 0 ≤ 300
   ·have := (earlN_le (S.getD x 0 - needEnd g L (N.getD x 0)) 400 (needEnd g L (N.getD x 0)) (by omega) (by rw [show needEnd g L (N.getD x 0) + (S.getD x 0 - needEnd g L (N.getD x 0)) = S.getD x 0 by omega]; exact hfree)).1
    unfold earlD
    omega
   ·omega
  obtain ⟨hst2, he20⟩ := hst.step (wk := wk) hf hx (by omega) hsubs hxb
  have hzb : zb g.length (pl ||| 2 ^ x) + 1 = zb g.length pl := zb_step hxb hx
  generalize hee : earlD g L (N.getD x 0) pl x room wk = ee at heS hst2
  obtain ⟨r, q1, q2, q3⟩ := ih (pl ||| 2 ^ x) (j + 1) (L.set x ee) (by omega) hst2 (by omega) (Nat.or_lt_two_pow hpl (Nat.pow_lt_pow_right (by omega) hx)) (fun k hk => by
   by_cases e : x = k
   ·subst e
    rw [List.getD_eq_getElem?_getD, List.getElem?_set_self (by rw [hst.len]; exact hx), Option.getD_some]
    exact heS
   ·rw [or_bit, decide_eq_false e, Bool.or_false] at hk
    rw [List.getD_eq_getElem?_getD, List.getElem?_set_ne e, ← List.getD_eq_getElem?_getD]
    exact hle k hk) (fun k z hk hz' hzb' => by
   rw [or_bit] at hk hzb'
   obtain ⟨hz1, hz2⟩ := (Bool.or_eq_false_iff).1 hzb'
   by_cases e : x = k
   ·subst e
    exact hxm z hz' hz1
   ·rw [decide_eq_false e, Bool.or_false] at hk
    exact hord k z hk hz' hz1)
  have hsz : sub (N.getD x 0) pl = 0 := (sub_zero (hnb x) (Nat.lt_of_lt_of_le hpl (pow8 h8))).2 hsubs
  refine ⟨(x : Int) :: r, ?_, by rw [List.length_cons, q2], ?_⟩
  ·unfold ordOk
   rw [Int.toNat_natCast, if_pos ⟨⟨by omega, by omega⟩, hxb, hsz⟩]
   exact q1
  ·intro z hz'
   show (startGo g N room wk r (pl ||| 2 ^ ((x : Nat) : Int).toNat) (L.set ((x : Nat) : Int).toNat (earlD g L (N.getD ((x : Nat) : Int).toNat 0) pl ((x : Nat) : Int).toNat room wk))).getD z 0 ≤ S.getD z 0
   rw [Int.toNat_natCast, hee]
   exact q3 z hz'
end Go.Proofs.YtimbfcedigaffaaDoor.Core
end
section
namespace Go.Proofs.YtimbfcedigaffaaDoor.Core
open Go Go.RowKit Go.Proofs.YtimbfcedigaffaaDoorW.PrintWords Go.Proofs.YtimbfcedigaffaaDoorW.PrintMore Go.Proofs.YtimbfcedigaffaaDoor.P
/-- All orders are among those that are looked at. -/
theorem ordersL_mem {N : List Nat} : ∀ (k : Nat) (lst : List Nat) (d : Nat) (r : List Int), ordOk N.length N r d = true → r.length < k → lst.length + r.length = N.length → up lst ++ r ∈ ordersL N k lst d
 | 0, _, _, _, _, h, _ => absurd h (Nat.not_lt_zero _)
 | k + 1, lst, d, [], _, _, hl => by
  unfold ordersL
  rw [if_pos (by simpa using hl), List.append_nil]
  exact List.mem_singleton.2 rfl
 | k + 1, lst, d, y :: r, ho, hk, hl => by
  rw [List.length_cons] at hk hl
  unfold ordOk at ho
  by_cases hc : (0 ≤ y ∧ y ≤ (N.length : Int) - 1) ∧ d.testBit y.toNat = false ∧ sub (N.getD y.toNat 0) d = 0
  ·rw [if_pos hc] at ho
   obtain ⟨hin, hb, hs⟩ := hc
   obtain ⟨i, rfl⟩ := Int.eq_ofNat_of_zero_le hin.1
   rw [Int.toNat_natCast] at ho hb hs
   unfold ordersL
   rw [if_neg (by omega)]
   refine List.mem_flatMap.2 ⟨i, List.mem_filter.2 ⟨List.mem_range.2 (by omega), by unfold canNext; rw [hb, decide_eq_true hs]; rfl⟩, ?_⟩
   have h := ordersL_mem k (lst ++ [i]) (d ||| 2 ^ i) r ho (by omega) (by rw [List.length_append, List.length_singleton]; omega)
   rw [show up (lst ++ [i]) ++ r = up lst ++ (i : Int) :: r by simp [up]] at h
   exact h
  ·rw [if_neg hc] at ho; cases ho
theorem fold_min (f : List Int → Nat) : ∀ (os : List (List Int)) (b c : List Int × Nat), os.foldl (bstep f) (some b) = some c → c.2 ≤ b.2 ∧ ∀ o ∈ os, c.2 ≤ f o
 | [], b, c, h => by
  have : b = c := Option.some.inj h
  subst this
  exact ⟨Nat.le_refl _, by simp⟩
 | o :: os, b, c, h => by
  rw [List.foldl_cons] at h
  have hb : bstep f (some b) o = if f o < b.2 then some (o, f o) else some b := rfl
  rw [hb] at h
  by_cases hlt : f o < b.2
  ·rw [if_pos hlt] at h
   obtain ⟨h1, h2⟩ := fold_min f os _ c h
   have h1 : c.2 ≤ f o := h1
   refine ⟨by omega, fun x hx => ?_⟩
   rcases List.mem_cons.1 hx with rfl | hx
   ·exact h1
   ·exact h2 x hx
  ·rw [if_neg hlt] at h
   obtain ⟨h1, h2⟩ := fold_min f os b c h
   refine ⟨h1, fun x hx => ?_⟩
   rcases List.mem_cons.1 hx with rfl | hx
   ·omega
   ·exact h2 x hx
theorem best_min {g : List Tk} {room : List Int} {wk : Int} {G : GD} (hfew : fewD g room wk = some G) {b : List Int × Nat} (hb : bestD g room wk = some b) : ∀ o ∈ ordersL G.needs (g.length + 1) [] 0, b.2 ≤ ordEnd g G.needs room wk o := by
 unfold bestD at hb
 rw [hfew] at hb
 simp only [] at hb
 generalize ordersL G.needs (g.length + 1) [] 0 = OS at hb ⊢
 cases OS with
 | nil => intro o ho; cases ho
 | cons a os =>
  rw [List.foldl_cons] at hb
  obtain ⟨h1, h2⟩ := fold_min _ os (a, ordEnd g G.needs room wk a) b hb
  intro o ho
  rcases List.mem_cons.1 ho with rfl | ho
  ·exact h1
  ·exact h2 o ho
theorem endTo_mono {g : List Tk} {L M : List Nat} : ∀ n, (∀ k, k < n → L.getD k 0 ≤ M.getD k 0) → endTo g L n ≤ endTo g M n
 | 0, _ => Nat.le_refl _
 | n + 1, h => by
  have h1 := endTo_mono (g := g) n (fun k hk => h k (by omega))
  have h2 := h n (Nat.lt_succ_self n)
  show max (endTo g L n) (endN g L n) ≤ max (endTo g M n) (endN g M n)
  unfold endN
  omega
theorem zb_none (n : Nat) : zb n 0 = n := by
 rw [zb_count, List.filter_eq_self.2 (fun i _ => by rw [Nat.zero_testBit]; rfl), List.length_range]
theorem orders_zb {g : List Tk} {N : List Nat} : NeedsOk g N (List.replicate g.length 0) 0 := fun x hx => by rw [Nat.zero_testBit] at hx; cases hx
/-- Feasible beginnings are reached by an order that ends no later. -/
theorem best_le {g : List Tk} {room : List Int} {wk : Int} {G : GD} (hfew : fewD g room wk = some G) {S : List Nat} (hF : Feas g S (2 ^ g.length - 1) room wk) (hN : NeedsOk g G.needs S (2 ^ g.length - 1)) {b : List Int × Nat} (hb : bestD g room wk = some b) : b.2 ≤ endTo g S g.length := by
 obtain ⟨h5, hp⟩ := fewD_some hfew
 obtain ⟨hG, hroom, hw1, hw4⟩ := placeD_some hp
 have v := vg_of hG
 have h8 := v.n8
 have h256 := pow8 h8
 have hnl := v.nl
 have hf := fine_of hG hroom hw1
 have hnb : ∀ x, G.needs.getD x 0 < 256 := fun x => Nat.lt_of_lt_of_le (getD_lt v.nb x) h256
 obtain ⟨r, h1, h2, h3⟩ := exchange hnb hf h8 hF hN g.length 0 0 (List.replicate g.length 0) (zb_none _) (st_zero g) (by omega) (Nat.two_pow_pos _) (fun k hk => by rw [Nat.zero_testBit] at hk; cases hk) (fun k x hk => by rw [Nat.zero_testBit] at hk; cases hk)
 have hmem := ordersL_mem (N := G.needs) (g.length + 1) [] 0 r (by rw [hnl]; exact h1) (by omega) (by rw [hnl, List.length_nil]; omega)
 have hmin := best_min hfew hb r hmem
 have hend := (endGo_is hnb hf h8 r 0 0 (List.replicate g.length 0) 0 h1 (st_zero g) (by omega) (Nat.two_pow_pos _) (by rw [zb_none, h2]; exact Nat.le_refl _) ⟨(fun k hk => by rw [Nat.zero_testBit] at hk; cases hk), .inl rfl⟩).1
 have hmono := endTo_mono (g := g) g.length h3
 have e : ordEnd g G.needs room wk r = endTo g (startGo g G.needs room wk r 0 (List.replicate g.length 0)) g.length := hend
 omega
/-- The best order's beginnings are feasible. -/
theorem best_feas {g : List Tk} (hg : Fits g) {room : List Int} (hr : room.length < big) {wk : Int} {G : GD} (hfew : fewD g room wk = some G) : ∃ b S, bestD g room wk = some b ∧ b.2 = endTo g S g.length ∧ Feas g S (2 ^ g.length - 1) room wk ∧ NeedsOk g G.needs S (2 ^ g.length - 1) := by
 obtain ⟨h5, hp⟩ := fewD_some hfew
 obtain ⟨hG, hroom, hw1, hw4⟩ := placeD_some hp
 have v := vg_of hG
 have h8 := v.n8
 have h256 := pow8 h8
 have hf := fine_of hG hroom hw1
 have hnb : ∀ x, G.needs.getD x 0 < 256 := fun x => Nat.lt_of_lt_of_le (getD_lt v.nb x) h256
 obtain ⟨-, hb⟩ := ev_BestOrder' hg (room := room) (wk := wk) hr
 obtain ⟨b, h1, h2, h3⟩ := hb G hfew
 obtain ⟨⟨ho, hl⟩, -, -⟩ := ord_ev hfew b.1 h2
 obtain ⟨hF, hN⟩ := startGo_feas hnb hf h8 b.1 0 0 (List.replicate g.length 0) ho (st_zero g) (by omega) (Nat.two_pow_pos _) (by rw [zb_none, hl]; exact Nat.le_refl _) (feas_zero hf _) orders_zb
 have hend := (endGo_is hnb hf h8 b.1 0 0 (List.replicate g.length 0) 0 ho (st_zero g) (by omega) (Nat.two_pow_pos _) (by rw [zb_none, hl]; exact Nat.le_refl _) ⟨(fun k hk => by rw [Nat.zero_testBit] at hk; cases hk), .inl rfl⟩).1
 exact ⟨b, _, h1, by rw [h3]; exact hend, hF, hN⟩
theorem few_wk {g : List Tk} {room : List Int} {wk wk' : Int} {G : GD} (h : fewD g room wk = some G) (h1 : 1 ≤ wk') (h4 : wk' ≤ 4) : fewD g room wk' = some G := by
 obtain ⟨h5, hp⟩ := fewD_some h
 obtain ⟨hG, hroom, -, -⟩ := placeD_some hp
 unfold fewD placeD
 rw [if_neg (by omega), hG]
 simp only []
 rw [if_pos ⟨hroom, h1, h4⟩]
/-- More workers are no slower at best. -/
theorem bestTD_more {g : List Tk} (hg : Fits g) {room : List Int} (hr : room.length < big) {wk wk' : Int} {G : GD} (hfew : fewD g room wk = some G) (hle : wk ≤ wk') (h4 : wk' ≤ 4) : bestTD g room wk' ≤ bestTD g room wk := by
 obtain ⟨b, S, h1, h2, hF, hN⟩ := best_feas hg hr hfew
 have hw1 := (placeD_some (fewD_some hfew).2).2.2.1
 have hfew' := few_wk hfew (show 1 ≤ wk' by omega) h4
 obtain ⟨c, -, h3, -, -, -⟩ := best_feas hg hr hfew'
 have hc := best_le hfew' (fun t => ⟨Int.le_trans (hF t).1 hle, (hF t).2⟩) hN h3
 unfold bestTD
 rw [h1, h3]
 show ((c.2 : Nat) : Int) ≤ ((b.2 : Nat) : Int)
 omega
end Go.Proofs.YtimbfcedigaffaaDoor.Core
end
section
namespace Go.Proofs.YtimbfcedigaffaaDoor.Core
open Go Go.RowKit Go.Proofs.YtimbfcedigaffaaDoorW.PrintWords Go.Proofs.YtimbfcedigaffaaDoorW.PrintMore Go.Proofs.YtimbfcedigaffaaDoor.P
theorem aStep_keep {i k m j : Nat} {U : List Nat} (h : (U.getD m 0).testBit j = true) : ((aStep i U k).getD m 0).testBit j = true := by
 unfold aStep
 by_cases e : k = m
 ·subst e
  by_cases hk : k < U.length
  ·rw [List.getD_eq_getElem?_getD, List.getElem?_set_self hk, Option.getD_some, or_bit, h]; rfl
  ·rw [List.getD_eq_getElem?_getD, List.getElem?_eq_none (by omega)] at h
   simp at h
 ·rw [List.getD_eq_getElem?_getD, List.getElem?_set_ne e, ← List.getD_eq_getElem?_getD]; exact h
theorem aFold_keep {i m j : Nat} : ∀ (ks : List Nat) {U : List Nat}, (U.getD m 0).testBit j = true → ((ks.foldl (aStep i) U).getD m 0).testBit j = true
 | [], _, h => h
 | k :: ks, _, h => aFold_keep ks (aStep_keep h)
theorem aFold_mem {i m : Nat} : ∀ (ks : List Nat) {U : List Nat}, m ∈ ks → m < U.length → ((ks.foldl (aStep i) U).getD m 0).testBit i = true
 | [], _, h, _ => by cases h
 | k :: ks, U, h, hl => by
  rcases List.mem_cons.1 h with rfl | h
  ·refine aFold_keep ks ?_
   unfold aStep
   rw [List.getD_eq_getElem?_getD, List.getElem?_set_self hl, Option.getD_some, or_bit, decide_eq_true rfl, Bool.or_true]
  ·exact aFold_mem ks h (by rw [aStep_length]; exact hl)
theorem bStep_keep {i k j : Nat} {U : List Nat} (h : (U.getD i 0).testBit j = true) : ((bStep i U k).getD i 0).testBit j = true := by
 unfold bStep
 by_cases hk : i < U.length
 ·rw [List.getD_eq_getElem?_getD, List.getElem?_set_self hk, Option.getD_some, Nat.testBit_or, h]; rfl
 ·rw [List.getD_eq_getElem?_getD, List.getElem?_eq_none (by omega)] at h
  simp at h
theorem bFold_keep {i j : Nat} : ∀ (ks : List Nat) {U : List Nat}, (U.getD i 0).testBit j = true → ((ks.foldl (bStep i) U).getD i 0).testBit j = true
 | [], _, h => h
 | k :: ks, _, h => bFold_keep ks (bStep_keep h)
theorem bFold_mem {i m : Nat} : ∀ (ks : List Nat) {U : List Nat}, m ∈ ks → i < U.length → ((ks.foldl (bStep i) U).getD i 0).testBit m = true
 | [], _, h, _ => by cases h
 | k :: ks, U, h, hl => by
  rcases List.mem_cons.1 h with rfl | h
  ·refine bFold_keep ks ?_
   unfold bStep
   rw [List.getD_eq_getElem?_getD, List.getElem?_set_self hl, Option.getD_some, Nat.testBit_or, or_bit, decide_eq_true rfl, Bool.or_true, Bool.or_true]
  ·exact bFold_mem ks h (by rw [bStep_length]; exact hl)
theorem rFold_lens {N : List Nat} {n : Nat} : ∀ (O : List Nat) {LU : List Nat × List Nat}, LU.1.length = n → LU.2.length = n → (O.foldl (rStep N) LU).1.length = n ∧ (O.foldl (rStep N) LU).2.length = n
 | [], _, h1, h2 => ⟨h1, h2⟩
 | i :: O, LU, h1, h2 => rFold_lens O (LU := rStep N LU i) (by show ((elemsN (N.getD i 0)).foldl (bStep i) LU.1).length = n; rw [fold_len (bStep_length i), h1]) (by show ((elemsN (((elemsN (N.getD i 0)).foldl (bStep i) LU.1).getD i 0)).foldl (aStep i) LU.2).length = n; rw [fold_len (aStep_length i), h2])
theorem rFold_keep {N : List Nat} {m j : Nat} : ∀ (O : List Nat) {LU : List Nat × List Nat}, (LU.2.getD m 0).testBit j = true → ((O.foldl (rStep N) LU).2.getD m 0).testBit j = true
 | [], _, h => h
 | i :: O, LU, h => rFold_keep O (LU := rStep N LU i) (aFold_keep _ h)
theorem rFold_mem {N : List Nat} {n i m : Nat} (hn : n ≤ 8) (hi : i < n) (hm : m < n) (hb : (N.getD i 0).testBit m = true) : ∀ (O : List Nat) {LU : List Nat × List Nat}, i ∈ O → LU.1.length = n → LU.2.length = n → ((O.foldl (rStep N) LU).2.getD m 0).testBit i = true
 | [], _, h, _, _ => by cases h
 | k :: O, LU, h, h1, h2 => by
  rcases List.mem_cons.1 h with rfl | h
  ·refine rFold_keep O (LU := rStep N LU i) ?_
   show (((elemsN (((elemsN (N.getD i 0)).foldl (bStep i) LU.1).getD i 0)).foldl (aStep i) LU.2).getD m 0).testBit i = true
   refine aFold_mem _ ?_ (by omega)
   exact mem_elemsN.2 ⟨by omega, bFold_mem _ (mem_elemsN.2 ⟨by omega, hb⟩) (by omega)⟩
  ·have hl := rFold_lens (N := N) [k] h1 h2
   exact rFold_mem hn hi hm hb O h hl.1 hl.2
/-- Who needs a task is above it. -/
theorem above_needs {g : List Tk} {G : GD} (hG : graphD g = some G) {i m : Nat} (hi : i < g.length) (hm : m < g.length) (hb : (G.needs.getD i 0).testBit m = true) : (G.above.getD m 0).testBit i = true := by
 have v := vg_of hG
 obtain ⟨N, hN, hf, rfl⟩ := graphD_spec hG
 exact rFold_mem v.n8 hi hm hb (orderD N).1 (v.mem.2 hi) (by simp) (by simp)
theorem take_getD {g : List Tk} {k i : Nat} (hi : i < k) : (g.take k).getD i z39 = g.getD i z39 := by
 rw [List.getD_eq_getElem?_getD, List.getElem?_take_of_lt hi, ← List.getD_eq_getElem?_getD]
theorem take_tm {g : List Tk} {k i : Nat} (hi : i < k) : tmN (g.take k) i = tmN g i := by
 unfold tmN
 rw [take_getD hi]
theorem less_graph {g : List Tk} {G : GD} (hG : graphD g = some G) {k : Nat} (hk : g.length = k + 1) (hno : ∀ i, i < g.length → (G.needs.getD i 0).testBit k = false) : ∃ G', graphD (g.take k) = some G' ∧ ∀ i, i < k → G'.needs.getD i 0 = G.needs.getD i 0 := by
 have v := vg_of hG
 have h8 := v.n8
 have hl : (g.take k).length = k := by rw [List.length_take]; omega
 have hok : ∀ t ∈ g.take k, taskOk t ∧ needsOk (g.take k).length t.f1 := by
  intro t ht
  rw [hl]
  obtain ⟨i, hi, e⟩ := List.getElem_of_mem ht
  have hik : i < k := by rw [hl] at hi; exact hi
  have he : t = g.getD i z39 := by
   rw [← take_getD hik, List.getD_eq_getElem?_getD, List.getElem?_eq_getElem hi, Option.getD_some, e]
  have hf := v.fine.1 t (List.mem_of_mem_take ht)
  refine ⟨hf.1, fun x hx => ?_, hf.2.2⟩
  have h1 := hf.2.1 x hx
  refine ⟨h1.1, ?_⟩
  have h2 := hno i (by omega)
  rw [v.bits i (by omega), decide_eq_false_iff_not, ← he] at h2
  have h3 : x ≠ (k : Int) := fun e2 => h2 (e2 ▸ hx)
  omega
 obtain ⟨N2, hN2⟩ := needsGo_ok hok
 have hD2 : needsD (g.take k) = some N2 := by
  unfold needsD
  rw [if_pos (by omega)]
  exact hN2
 obtain ⟨_, hNl, hNb⟩ := needsD_spec hD2
 have hb2 := (needsD_fine hD2).2
 rw [hl] at hNl hNb hb2
 have hsame : ∀ i, i < k → N2.getD i 0 = G.needs.getD i 0 := by
  intro i hi
  refine Nat.eq_of_testBit_eq fun j => ?_
  rw [hb2 i hi j, v.bits i (by omega) j, take_getD hi]
 refine ⟨mkG (g.take k) N2, ?_, hsame⟩
 refine graphD_of_next hD2 fun d hd hne => ?_
 rw [hl] at hd hne ⊢
 have h256 : 2 ^ g.length ≤ 256 := pow8 h8
 have hp : d ||| 2 ^ k < 2 ^ g.length := by
  rw [hk]
  exact Nat.or_lt_two_pow (Nat.lt_of_lt_of_le hd (Nat.pow_le_pow_right (by omega) (by omega))) (Nat.pow_lt_pow_right (by omega) (by omega))
 have hpne : d ||| 2 ^ k ≠ 2 ^ g.length - 1 := by
  intro e
  refine hne (Nat.eq_of_testBit_eq fun j => ?_)
  have h1 := congrArg (fun x => x.testBit j) e
  simp only [or_bit, hk, Nat.testBit_two_pow_sub_one] at h1
  rw [Nat.testBit_two_pow_sub_one]
  by_cases e2 : k = j
  ·subst e2
   rw [decide_eq_false (Nat.lt_irrefl _)]
   exact Nat.testBit_lt_two_pow hd
  ·rw [decide_eq_false e2, Bool.or_false] at h1
   rw [h1, Bool.eq_iff_iff, decide_eq_true_eq, decide_eq_true_eq]
   omega
 obtain ⟨i, hi, h1, h2⟩ := v.next hp hpne
 rw [or_bit, Bool.or_eq_false_iff, decide_eq_false_iff_not] at h1
 have hik : i < k := by omega
 refine ⟨i, hik, h1.1, ?_⟩
 rw [hsame i hik]
 have hd256 : d < 256 := Nat.lt_of_lt_of_le hd (pow8 (by omega))
 refine (sub_zero (Nat.lt_of_lt_of_le (getD_lt v.nb i) h256) hd256).2 fun j hj => ?_
 have h3 := (v.sub_iff' hp).1 h2 j hj
 rw [or_bit, Bool.or_eq_true, decide_eq_true_eq] at h3
 rcases h3 with h3 | h3
 ·exact h3
 ·subst h3
  rw [hno i hi] at hj
  cases hj
theorem less_few {g : List Tk} {room : List Int} {wk : Int} {G : GD} (hfew : fewD g room wk = some G) {k : Nat} (hk : g.length = k + 1) (hno : ∀ i, i < g.length → (G.needs.getD i 0).testBit k = false) : ∃ G', fewD (g.take k) room wk = some G' ∧ ∀ i, i < k → G'.needs.getD i 0 = G.needs.getD i 0 := by
 obtain ⟨h5, hp⟩ := fewD_some hfew
 obtain ⟨hG, hroom, hw1, hw4⟩ := placeD_some hp
 obtain ⟨G', hG', hs⟩ := less_graph hG hk hno
 refine ⟨G', ?_, hs⟩
 unfold fewD placeD
 rw [if_neg (by rw [List.length_take]; omega), hG']
 simp only []
 rw [if_pos ⟨hroom, hw1, hw4⟩]
theorem usedN_same {g g' : List Tk} (p : Int) : ∀ {R : List Nat}, (∀ j ∈ R, g'.getD j z39 = g.getD j z39) → usedN g' p R = usedN g p R
 | [], _ => rfl
 | j :: R, h => by
  have h1 := h j List.mem_cons_self
  have h2 := usedN_same p (R := R) (fun x hx => h x (List.mem_cons_of_mem _ hx))
  unfold usedN
  rw [h1, h2]
theorem runL_succ (g : List Tk) (L : List Nat) (k t : Nat) : runL g L (2 ^ (k + 1) - 1) (k + 1) t = (List.range k).filter (fun j => runsAt g L t j) ++ (if runsAt g L t k = true then [k] else []) := by
 unfold runL
 rw [List.range_succ, List.filter_append]
 congr 1
 ·refine List.filter_congr fun j hj => ?_
  have := List.mem_range.1 hj
  rw [Nat.testBit_two_pow_sub_one, decide_eq_true (by omega), Bool.true_and]
 ·have e : ((2 ^ (k + 1) - 1).testBit k && runsAt g L t k) = runsAt g L t k := by rw [Nat.testBit_two_pow_sub_one, decide_eq_true (by omega), Bool.true_and]
  rw [List.filter_cons, List.filter_nil, e]
theorem runL_full (g : List Tk) (L : List Nat) (k t : Nat) : runL g L (2 ^ k - 1) k t = (List.range k).filter (fun j => runsAt g L t j) := by
 unfold runL
 refine List.filter_congr fun j hj => ?_
 have := List.mem_range.1 hj
 rw [Nat.testBit_two_pow_sub_one, decide_eq_true (by omega), Bool.true_and]
theorem runs_same {g g' : List Tk} {L L' : List Nat} {t j : Nat} (h1 : tmN g' j = tmN g j) (h2 : L'.getD j 0 = L.getD j 0) : runsAt g' L' t j = runsAt g L t j := by
 unfold runsAt endN
 rw [h1, h2]
theorem best_less {g : List Tk} (hg : Fits g) (hg' : ∀ k, Fits (g.take k)) {room : List Int} (hr : room.length < big) {wk : Int} {G : GD} (hfew : fewD g room wk = some G) {k : Nat} (hk : g.length = k + 1) (hno : ∀ i, i < g.length → (G.needs.getD i 0).testBit k = false) :
  0 ≤ bestTD (g.take k) room wk ∧ bestTD (g.take k) room wk ≤ bestTD g room wk ∧ bestTD g room wk ≤ bestTD (g.take k) room wk + (tmN g k : Int) := by
 obtain ⟨G', hfew', hs⟩ := less_few hfew hk hno
 obtain ⟨h5, hp⟩ := fewD_some hfew
 obtain ⟨hG, hroom, hw1, hw4⟩ := placeD_some hp
 have v := vg_of hG
 have hf := fine_of hG hroom hw1
 have hl : (g.take k).length = k := by rw [List.length_take]; omega
 obtain ⟨b, S, hb1, hb2, hF, hN⟩ := best_feas hg hr hfew
 obtain ⟨c, S', hc1, hc2, hF', hN'⟩ := best_feas (hg' k) hr hfew'
 rw [hk] at hb2 hF hN
 rw [hl] at hc2 hF' hN'
 have hend : ∀ {L L' : List Nat} (n : Nat), n ≤ k → (∀ j, j < n → L'.getD j 0 = L.getD j 0) → endTo (g.take k) L' n = endTo g L n := by
  intro L L' n
  induction n with
  | zero => intro _ _; rfl
  | succ n ih =>
   intro hn hj
   show max (endTo (g.take k) L' n) (endN (g.take k) L' n) = max (endTo g L n) (endN g L n)
   rw [ih (by omega) (fun j h => hj j (by omega))]
   unfold endN
   rw [hj n (by omega), take_tm (show n < k by omega)]
 -- the best beginnings without the last task
 have h1 : c.2 ≤ b.2 := by
  have hle := best_le hfew' (S := S) (by
   rw [hl]
   intro t
   obtain ⟨q1, q2⟩ := hF t
   rw [hk, runL_succ] at q1 q2
   rw [hl, runL_full]
   have e : (List.range k).filter (fun j => runsAt (g.take k) S t j) = (List.range k).filter (fun j => runsAt g S t j) := List.filter_congr fun j hj => runs_same (take_tm (List.mem_range.1 hj)) rfl
   rw [e]
   refine ⟨?_, fun p p0 p2 => ?_⟩
   ·rw [List.length_append] at q1; omega
   ·rw [usedN_same (g := g) p (fun j hj => take_getD (List.mem_range.1 ((List.mem_filter.1 hj).1)))]
    have q := q2 p p0 p2
    split at q
    ·rw [usedN_snoc] at q
     have hu := hf.units k (by omega)
     split at q <;> omega
    ·rw [List.append_nil] at q; exact q) (by
   rw [hl]
   intro x hx j hj
   rw [Nat.testBit_two_pow_sub_one, decide_eq_true_eq] at hx
   rw [hs x hx] at hj
   have q := hN x (by rw [Nat.testBit_two_pow_sub_one, decide_eq_true_eq]; omega) j hj
   have hjk : j ≠ k := by
    intro e
    subst e
    rw [hno x (by omega)] at hj
    cases hj
   have hj2 := q.1
   rw [Nat.testBit_two_pow_sub_one, decide_eq_true_eq] at hj2
   refine ⟨by rw [Nat.testBit_two_pow_sub_one, decide_eq_true_eq]; omega, ?_⟩
   have q2 := q.2
   unfold endN at q2 ⊢
   rw [take_tm (by omega)]
   exact q2) hc1
  rw [hl, hend (L := S) k (Nat.le_refl _) (fun _ _ => rfl)] at hle
  have : b.2 = max (endTo g S k) (endN g S k) := hb2
  omega
 -- the last task behind all others
 have h2 : b.2 ≤ c.2 + tmN g k := by
  obtain ⟨S2, hS2⟩ : ∃ S2 : List Nat, S2 = (List.range (k + 1)).map (fun j => if j < k then S'.getD j 0 else c.2) := ⟨_, rfl⟩
  have g1 : ∀ j, j < k → S2.getD j 0 = S'.getD j 0 := by
   intro j hj
   rw [hS2, List.getD_eq_getElem?_getD, List.getElem?_map, List.getElem?_range (by omega)]
   simp [hj]
  have g2 : S2.getD k 0 = c.2 := by
   rw [hS2, List.getD_eq_getElem?_getD, List.getElem?_map, List.getElem?_range (by omega)]
   simp
  have hover : ∀ j, j < k → endN g S2 j ≤ c.2 := by
   intro j hj
   have q := (endTo_is (g.take k) S' k).1 j hj
   rw [← hc2] at q
   unfold endN at q ⊢
   rw [g1 j hj]
   rw [take_tm hj] at q
   exact q
  have hrun : ∀ t j, j < k → runsAt g S2 t j = runsAt (g.take k) S' t j := fun t j hj => (runs_same (take_tm hj) (g1 j hj).symm).symm
  have hle := best_le hfew (S := S2) (by
   rw [hk]
   intro t
   rw [hk, runL_succ]
   obtain ⟨q1, q2⟩ := hF' t
   rw [hl, runL_full] at q1 q2
   have e : (List.range k).filter (fun j => runsAt g S2 t j) = (List.range k).filter (fun j => runsAt (g.take k) S' t j) := List.filter_congr fun j hj => hrun t j (List.mem_range.1 hj)
   by_cases ht : t < c.2
   ·have hnr : runsAt g S2 t k = false := by
     unfold runsAt
     rw [g2, decide_eq_false (show ¬ c.2 ≤ t by omega), Bool.false_and]
    rw [hnr, if_neg Bool.false_ne_true, List.append_nil, e]
    refine ⟨q1, fun p p0 p2 => ?_⟩
    have q := q2 p p0 p2
    rw [usedN_same (g := g) p (fun j hj => take_getD (List.mem_range.1 ((List.mem_filter.1 hj).1)))] at q
    exact q
   ·have e0 : (List.range k).filter (fun j => runsAt g S2 t j) = [] := List.filter_eq_nil_iff.2 fun j hj => by
     have := hover j (List.mem_range.1 hj)
     unfold runsAt
     rw [decide_eq_false (show ¬ t < endN g S2 j by omega), Bool.and_false]
     exact Bool.false_ne_true
    rw [e0, List.nil_append]
    split
    ·refine ⟨by rw [List.length_singleton]; omega, fun p p0 p2 => ?_⟩
     have hu := hf.units k (by omega)
     have hra := room_at hf.room p0 p2
     have e1 := usedN_snoc g p k []
     rw [List.nil_append] at e1
     rw [e1]
     show (0 : Int) + _ ≤ _
     split <;> omega
    ·refine ⟨by rw [List.length_nil]; omega, fun p p0 p2 => ?_⟩
     have hra := room_at hf.room p0 p2
     show (0 : Int) ≤ _
     omega) (by
   rw [hk]
   intro x hx j hj
   rw [Nat.testBit_two_pow_sub_one, decide_eq_true_eq] at hx
   have hjn : j < k + 1 := by
    have h3 := getD_lt v.nb x
    rcases Nat.lt_or_ge j g.length with h4 | h4
    ·omega
    ·rw [Nat.testBit_lt_two_pow (Nat.lt_of_lt_of_le h3 (Nat.pow_le_pow_right (by omega) h4))] at hj
     cases hj
   have hjk : j ≠ k := by
    intro e
    subst e
    rw [hno x (by omega)] at hj
    cases hj
   refine ⟨by rw [Nat.testBit_two_pow_sub_one, decide_eq_true_eq]; omega, ?_⟩
   by_cases hxk : x = k
   ·subst hxk
    rw [g2]
    exact hover j (by omega)
   ·have q := (hN' x (by rw [Nat.testBit_two_pow_sub_one, decide_eq_true_eq]; omega) j (by rw [hs x (by omega)]; exact hj)).2
    unfold endN at q ⊢
    rw [take_tm (by omega)] at q
    rw [g1 j (by omega), g1 x (by omega)]
    exact q) hb1
  rw [hk] at hle
  have e1 : endTo g S2 (k + 1) = max (endTo g S2 k) (endN g S2 k) := rfl
  have e2 := hend (L := S2) (L' := S') k (Nat.le_refl _) (fun j hj => (g1 j hj).symm)
  have e3 : endN g S2 k = c.2 + tmN g k := by unfold endN; rw [g2]
  rw [hc2] at e3 ⊢
  omega
 unfold bestTD
 rw [hb1, hc1]
 show (0 : Int) ≤ ((c.2 : Nat) : Int) ∧ ((c.2 : Nat) : Int) ≤ ((b.2 : Nat) : Int) ∧ ((b.2 : Nat) : Int) ≤ ((c.2 : Nat) : Int) + (tmN g k : Int)
 omega
end Go.Proofs.YtimbfcedigaffaaDoor.Core
end
section
namespace Go.Proofs.YtimbfcedigaffaaDoor.Core
open Go Go.RowKit Go.Shelf Go.Proofs.YtimbfcedigaffaaDoorW.PrintWords Go.Proofs.YtimbfcedigaffaaDoorW.PrintLast Go.Proofs.YtimbfcedigaffaaDoorW.PrintMore Go.Proofs.YtimbfcedigaffaaDoor.P
attribute [local go_sem] Oper.semAt_some wide_fn wide_depth
/-- The answer that some number of rounds gives. -/
noncomputable def lim {α : Type} (f : Nat → Option α) : Option α := open Classical in if h : ∃ k r, f k = some r then some h.choose_spec.choose else none
theorem lim_some {α : Type} {f : Nat → Option α} {r : α} (h : lim f = some r) : ∃ k, f k = some r := by
 unfold lim at h
 by_cases hh : ∃ k r, f k = some r
 ·rw [dif_pos hh] at h
  cases h
  exact ⟨_, hh.choose_spec.choose_spec⟩
 ·rw [dif_neg hh] at h; cases h
theorem lim_of {α : Type} {f : Nat → Option α} (hm : ∀ k, LeO (f k) (f (k + 1))) {k : Nat} {r : α} (h : f k = some r) : lim f = some r := by
 have hh : ∃ k r, f k = some r := ⟨k, r, h⟩
 have h2 := hh.choose_spec.choose_spec
 unfold lim
 rw [dif_pos hh]
 rcases Nat.le_total k hh.choose with hle | hle
 ·have := at_rounds hm hle h
  rw [h2] at this; exact this
 ·have := at_rounds hm hle h2
  rw [h] at this; exact this.symm
theorem mkQ (w : World) (base : Nat) (ok : Nat → Prop) (x : Tk) {v1 : Value} (g1 : (Kd.int .i64).Q 3 w base ok v1 x.f1) : k39.M w base ok x [.int .i64 x.f0, v1, .int .i64 x.f2, .int .i64 x.f3] :=
 ⟨[.int .i64 x.f0], [v1, .int .i64 x.f2, .int .i64 x.f3], rfl, rfl, ⟨[v1], [.int .i64 x.f2, .int .i64 x.f3], rfl, ⟨v1, rfl, g1⟩, ⟨[.int .i64 x.f2], [.int .i64 x.f3], rfl, rfl, rfl⟩⟩⟩
theorem S_put0 {W : World} {base gb n cap : Nat} {ok : Nat → Prop} {xs : List Tk} (h : Kd.S k39 39 W base ok (.slice (some ⟨gb, 0, none⟩) n cap) xs) (i : Int) (h0 : 0 ≤ i) (h1 : i < n) :
  (∃ u, W.cell? ⟨gb, i.toNat * 4, none⟩ = some (.int .i64 u)) ∧ W.frozen? ⟨gb, i.toNat * 4, none⟩ = false ∧ ∀ t : Int,
   Kd.S k39 39 (W.setCell ⟨gb, i.toNat * 4, none⟩ (.int .i64 t)) base ok (.slice (some ⟨gb, 0, none⟩) n cap) (xs.set i.toNat { rd_T39 xs i with f0 := t }) ∧ W.grownBy (W.setCell ⟨gb, i.toNat * 4, none⟩ (.int .i64 t)) (some gb) := by
 obtain ⟨oki, c, hcl, hM, hcc, hfr, hoki, hH⟩ := Kd.S_elem (Kd.S_mono (ok' := fun k => ok k ∧ ¬ False) h (fun k hk => ⟨hk, id⟩)) z39 i h0 h1
 obtain ⟨v1, rfl, g1⟩ := k39_openM hM
 refine ⟨⟨_, hcc 0 _ rfl⟩, hfr 0, fun t => ?_⟩
 exact Kd.S_seg (okg := fun _ => False) hH h0 h1 (seg := [.int .i64 t]) (j := 0) (show 0 + 1 ≤ 4 from by decide) (x' := { rd_T39 xs i with f0 := t }) (mkQ _ _ _ { rd_T39 xs i with f0 := t } g1) (fun k hk => .inl hk) (fun k hk => hk.elim)
theorem S_put2 {W : World} {base gb n cap : Nat} {ok : Nat → Prop} {xs : List Tk} (h : Kd.S k39 39 W base ok (.slice (some ⟨gb, 0, none⟩) n cap) xs) (i : Int) (h0 : 0 ≤ i) (h1 : i < n) :
  (∃ u, W.cell? ⟨gb, i.toNat * 4 + 2, none⟩ = some (.int .i64 u)) ∧ W.frozen? ⟨gb, i.toNat * 4 + 2, none⟩ = false ∧ ∀ t : Int,
   Kd.S k39 39 (W.setCell ⟨gb, i.toNat * 4 + 2, none⟩ (.int .i64 t)) base ok (.slice (some ⟨gb, 0, none⟩) n cap) (xs.set i.toNat { rd_T39 xs i with f2 := t }) ∧ W.grownBy (W.setCell ⟨gb, i.toNat * 4 + 2, none⟩ (.int .i64 t)) (some gb) := by
 obtain ⟨oki, c, hcl, hM, hcc, hfr, hoki, hH⟩ := Kd.S_elem (Kd.S_mono (ok' := fun k => ok k ∧ ¬ False) h (fun k hk => ⟨hk, id⟩)) z39 i h0 h1
 obtain ⟨v1, rfl, g1⟩ := k39_openM hM
 refine ⟨⟨_, hcc 2 _ rfl⟩, hfr 2, fun t => ?_⟩
 exact Kd.S_seg (okg := fun _ => False) hH h0 h1 (seg := [.int .i64 t]) (j := 2) (show 2 + 1 ≤ 4 from by decide) (x' := { rd_T39 xs i with f2 := t }) (mkQ _ _ _ { rd_T39 xs i with f2 := t } g1) (fun k hk => .inl hk) (fun k hk => hk.elim)
theorem S_put3 {W : World} {base gb n cap : Nat} {ok : Nat → Prop} {xs : List Tk} (h : Kd.S k39 39 W base ok (.slice (some ⟨gb, 0, none⟩) n cap) xs) (i : Int) (h0 : 0 ≤ i) (h1 : i < n) :
  (∃ u, W.cell? ⟨gb, i.toNat * 4 + 3, none⟩ = some (.int .i64 u)) ∧ W.frozen? ⟨gb, i.toNat * 4 + 3, none⟩ = false ∧ ∀ t : Int,
   Kd.S k39 39 (W.setCell ⟨gb, i.toNat * 4 + 3, none⟩ (.int .i64 t)) base ok (.slice (some ⟨gb, 0, none⟩) n cap) (xs.set i.toNat { rd_T39 xs i with f3 := t }) ∧ W.grownBy (W.setCell ⟨gb, i.toNat * 4 + 3, none⟩ (.int .i64 t)) (some gb) := by
 obtain ⟨oki, c, hcl, hM, hcc, hfr, hoki, hH⟩ := Kd.S_elem (Kd.S_mono (ok' := fun k => ok k ∧ ¬ False) h (fun k hk => ⟨hk, id⟩)) z39 i h0 h1
 obtain ⟨v1, rfl, g1⟩ := k39_openM hM
 refine ⟨⟨_, hcc 3 _ rfl⟩, hfr 3, fun t => ?_⟩
 exact Kd.S_seg (okg := fun _ => False) hH h0 h1 (seg := [.int .i64 t]) (j := 3) (show 3 + 1 ≤ 4 from by decide) (x' := { rd_T39 xs i with f3 := t }) (mkQ _ _ _ { rd_T39 xs i with f3 := t } g1) (fun k hk => .inl hk) (fun k hk => hk.elim)
def spec_anyGraph.fk (k : Nat) (s0 : List Int) (s1 : Int) : Option (List Tk × Int) :=
 (spec_someGraph.f k s0 s1 8).bind fun a =>
 if a.1.length = 0 then some (a.1, a.2) else
 (spec_reader_pick.f k s0 a.2 (a.1.length : Int)).bind fun p =>
 (spec_reader_pick.f k s0 p.2 24).bind fun q =>
 if ¬ (0 ≤ p.1 ∧ p.1 < (a.1.length : Int)) then none else
 if q.1 = 0 then (spec_reader_one.f k s0 q.2 [0, 21, 20]).bind fun t => some (a.1.set p.1.toNat { rd_T39 a.1 p.1 with f0 := t.1 }, t.2)
 else if q.1 = 1 then (spec_reader_pick.f k s0 q.2 (a.1.length : Int)).bind fun b =>
  if (rd_T39 a.1 p.1).f1.length < 1000 then (spec_reader_spoil.f k s0 b.2 ((rd_T39 a.1 p.1).f1 ++ [b.1]) 8).bind fun c => some (a.1.set p.1.toNat { rd_T39 a.1 p.1 with f1 := c.1 }, c.2) else none
 else if q.1 = 2 then (spec_reader_one.f k s0 q.2 [-1, 3]).bind fun t => some (a.1.set p.1.toNat { rd_T39 a.1 p.1 with f2 := t.1 }, t.2)
 else if q.1 = 3 then (spec_reader_one.f k s0 q.2 [0, 5]).bind fun t => some (a.1.set p.1.toNat { rd_T39 a.1 p.1 with f3 := t.1 }, t.2)
 else if q.1 = 4 then (spec_someGraph.f k s0 q.2 8).bind fun b => if a.1.length + b.1.length < 1000 then some (a.1 ++ b.1, b.2) else none
 else some (a.1, q.2)
theorem spec_anyGraph.mono : ∀ a0 a1 k, LeO (spec_anyGraph.fk k a0 a1) (spec_anyGraph.fk (k + 1) a0 a1) := by
 intro a0 a1 k
 unfold spec_anyGraph.fk
 repeat' first
   | (with_reducible exact spec_someGraph.mono _ _ _ _)
   | (with_reducible exact spec_reader_pick.mono _ _ _ _)
   | (with_reducible exact spec_reader_one.mono _ _ _ _)
   | (with_reducible exact spec_reader_spoil.mono _ _ _ _ _)
   | (with_reducible exact LeO.refl _)
   | (with_reducible exact LeO.none _)
   | (with_reducible refine LeO.ite ?_ ?_)
   | (with_reducible refine LeO.bind ?_ (fun _ => ?_))
   | exact LeO.none _
   | refine LeO.ite ?_ ?_
   | refine LeO.bind ?_ (fun _ => ?_)
/-- What anyGraph leaves. -/
def anyPost (w0 w : World) (g : Nat) (s0 : List Int) (r1 : List Tk) (r2 : Int) (e : Ending) (w' : World) : Prop :=
 ∃ v0_ : Value, e = .returned (v0_) ∧ Kd.S k39 39 w' w.heap.size (fun _ => True) v0_ r1 ∧ IsS80 w0 w' g s0 r2 ∧ Below w0.heap.size w0 w' ∧ KeepBut w w' g none
theorem R_lits {w : World} {b base t : Nat} {l : List Int} (h : w.heap[b]? = some (.cells (l.map (Value.int .i64)).toArray t (0, 0))) (hb : base ≤ b) (hl : l.length ≤ maxLen) : (Kd.int .i64).R t w base (fun _ => True) (.slice (some ⟨b, 0, none⟩) l.length l.length) l :=
 row_R (k := .i64) ⟨by simp, .inr ⟨b, l.length, _, rfl, hb, h, Nat.le_refl _, hl, by simp, by simp [List.take_of_length_le]⟩⟩
theorem C_lits {w : World} {b t : Nat} {l : List Int} (h : w.heap[b]? = some (.cells (l.map (Value.int .i64)).toArray t (0, 0))) (hl : l.length ≤ maxLen) : (Kd.int .i64).C w (some ⟨b, 0, none⟩) l.length l :=
 (Kd.R_reads' (R_lits (base := 0) h (Nat.zero_le _) hl)).2.2
set_option maxRecDepth 100000 in
set_option maxHeartbeats 4000000 in
theorem any_empty (k g : Nat) (s0 : List Int) (s1 : Int) (w0 w : World) (hI : IsS80 w0 w g s0 s1) (hB : Below w0.heap.size w0 w) (a2 : Int) (h1 : spec_someGraph.f k s0 s1 8 = some ([], a2)) : Calls Tryd.prog 51 #[.pointer (some ⟨g, 0, none⟩)] w (anyPost w0 w g s0  [] a2) := by
 have A1 := m0 h1
 clear h1
 obtain ⟨a, ha⟩ : ∃ a : List Tk, a = [] := ⟨_, rfl⟩
 rw [← ha] at A1
 have hlen : (a.length : Int) = 0 := by rw [ha]; rfl
 have HA := m0 ha
 clear ha
 have hz : ((a.length : Int) == 0) = true := by simp [hlen]
 have HL := m0 hlen
 clear hlen
 go_enter Tryd.func51, Tryd.ntmps51
 go_wp2_with (go_at_call 52; refine (spec_someGraph.calls k g s0 s1 8 a a2 w0 _ hI hB A1.out).mono ?_; rintro e w1 ⟨v1, rfl, hS1, hI1, hB1, hK1⟩; clear hI hB; obtain ⟨A, c, rfl⟩ := Kd.S_slice hS1)
 go_ret
 exact ⟨_, rfl, by rw [← HA.out]; exact hS1, hI1, hB1, hK1⟩
set_option maxRecDepth 100000 in
set_option maxHeartbeats 4000000 in
theorem any_same (k g : Nat) (s0 : List Int) (s1 : Int) (w0 w : World) (hI : IsS80 w0 w g s0 s1) (hB : Below w0.heap.size w0 w) (a : List Tk) (a2 p p2 q q2 : Int) (hpos : 0 < a.length) (hp0 : 0 ≤ p) (hp1 : p < (a.length : Int)) (h1 : spec_someGraph.f k s0 s1 8 = some (a, a2)) (h2 : spec_reader_pick.f k s0 a2 (a.length : Int) = some (p, p2)) (h3 : spec_reader_pick.f k s0 p2 24 = some (q, q2)) (hq : q ≠ 0 ∧ q ≠ 1 ∧ q ≠ 2 ∧ q ≠ 3 ∧ q ≠ 4) : Calls Tryd.prog 51 #[.pointer (some ⟨g, 0, none⟩)] w (anyPost w0 w g s0  a q2) := by
 have A1 := m0 h1
 have A2 := m0 h2
 have A3 := m0 h3
 clear h1 h2 h3
 have hz : ((a.length : Int) == 0) = false := beq_eq_false_iff_ne.2 (by omega)
 have hglt : g < w.heap.size := hI.lt
 have hq0 : (q == 0) = false := beq_eq_false_iff_ne.2 (by omega)
 have hq1 : (q == 1) = false := beq_eq_false_iff_ne.2 (by omega)
 have hq2 : (q == 2) = false := beq_eq_false_iff_ne.2 (by omega)
 have hq3 : (q == 3) = false := beq_eq_false_iff_ne.2 (by omega)
 have hq4 : (q == 4) = false := beq_eq_false_iff_ne.2 (by omega)
 go_enter Tryd.func51, Tryd.ntmps51
 go_wp2_with (first | (go_at_call 52; refine (spec_someGraph.calls k g s0 s1 8 a a2 w0 _ hI hB A1.out).mono ?_; rintro e w1 ⟨v1, rfl, hS1, hI1, hB1, hK1⟩; clear hI hB; obtain ⟨gb, cap, rfl, hgb, hgl, cells, hcells⟩ := Kd.S_form hS1 hpos) | (go_at_call 50; refine (spec_reader_pick.calls k g s0 a2 (a.length : Int) p p2 w0 _ hI1 hB1 A2.out).mono ?_; rintro e w2 ⟨rfl, hI2, hB2, hK2⟩; clear hI1 hB1) | (go_at_call 50; refine (spec_reader_pick.calls k g s0 p2 24 q q2 w0 _ hI2 hB2 A3.out).mono ?_; rintro e w3 ⟨rfl, hI3, hB3, hK3⟩; clear hI2 hB2))
 have hS3 : Kd.S k39 39 w3 w.heap.size (fun k => k ≠ g) (.slice (some ⟨gb, 0, none⟩) a.length cap) a := Kd.S_keep (Kd.S_keep (Kd.S_mono (Kd.S_bound hS1) (fun k hk => Nat.ne_of_gt (Nat.lt_of_lt_of_le hglt hk.2.1))) hK2 (fun k hk => hk)) hK3 (fun k hk => hk)
 have hK4 := (hK1.trans hK2 (.inl rfl)).trans hK3 (.inl rfl)
 clear hS1 hK1 hK2 hK3
 go_ret
 exact ⟨_, rfl, Kd.S_mono hS3 (fun _ _ => trivial), hI3, hB3, hK4⟩
set_option maxRecDepth 100000 in
set_option maxHeartbeats 4000000 in
theorem any_case0 (k g : Nat) (s0 : List Int) (s1 : Int) (w0 w : World) (hI : IsS80 w0 w g s0 s1) (hB : Below w0.heap.size w0 w) (a : List Tk) (a2 p p2 q q2 : Int) (hpos : 0 < a.length) (hp0 : 0 ≤ p) (hp1 : p < (a.length : Int)) (h1 : spec_someGraph.f k s0 s1 8 = some (a, a2)) (h2 : spec_reader_pick.f k s0 a2 (a.length : Int) = some (p, p2)) (h3 : spec_reader_pick.f k s0 p2 24 = some (q, q2)) (hq : q = 0) (t t2 : Int) (h4 : spec_reader_one.f k s0 q2 [0, 21, 20] = some (t, t2)) : Calls Tryd.prog 51 #[.pointer (some ⟨g, 0, none⟩)] w (anyPost w0 w g s0  (a.set p.toNat { rd_T39 a p with f0 := t }) t2) := by
 have A1 := m0 h1
 have A2 := m0 h2
 have A3 := m0 h3
 clear h1 h2 h3
 have hz : ((a.length : Int) == 0) = false := beq_eq_false_iff_ne.2 (by omega)
 have hglt : g < w.heap.size := hI.lt
 have A4 := m0 h4
 clear h4
 have hq0 : (q == 0) = true := by simp [hq]
 have hp0' := eq_true hp0
 have hp1' := eq_true hp1
 go_enter Tryd.func51, Tryd.ntmps51
 go_wp2_with (first | (go_at_call 52; refine (spec_someGraph.calls k g s0 s1 8 a a2 w0 _ hI hB A1.out).mono ?_; rintro e w1 ⟨v1, rfl, hS1, hI1, hB1, hK1⟩; clear hI hB; obtain ⟨gb, cap, rfl, hgb, hgl, cells, hcells⟩ := Kd.S_form hS1 hpos) | (go_at_call 50; refine (spec_reader_pick.calls k g s0 a2 (a.length : Int) p p2 w0 _ hI1 hB1 A2.out).mono ?_; rintro e w2 ⟨rfl, hI2, hB2, hK2⟩; clear hI1 hB1) | (go_at_call 50; refine (spec_reader_pick.calls k g s0 p2 24 q q2 w0 _ hI2 hB2 A3.out).mono ?_; rintro e w3 ⟨rfl, hI3, hB3, hK3⟩; clear hI2 hB2) | (go_at_call 54; have hS3 : Kd.S k39 39 w3 w.heap.size (fun k => k ≠ g) (.slice (some ⟨gb, 0, none⟩) a.length cap) a := Kd.S_keep (Kd.S_keep (Kd.S_mono (Kd.S_bound hS1) (fun k hk => Nat.ne_of_gt (Nat.lt_of_lt_of_le hglt hk.2.1))) hK2 (fun k hk => hk)) hK3 (fun k hk => hk); have hK4 := (hK1.trans hK2 (.inl rfl)).trans hK3 (.inl rfl); clear hS1 hK1 hK2 hK3; have hN4 := cells_new w3 (.cells #[.int .i64 0, .int .i64 21, .int .i64 20] 3); have hI4 := hI3.alloc (.cells #[.int .i64 0, .int .i64 21, .int .i64 20] 3); have hB4 := hB3.alloc hB3.size (.cells #[.int .i64 0, .int .i64 21, .int .i64 20] 3); have hS4 := Kd.S_alloc hS3 (.cells #[.int .i64 0, .int .i64 21, .int .i64 20] 3); have hK5 := keep_alloc hK4 (.cells #[.int .i64 0, .int .i64 21, .int .i64 20] 3); have hsz := hI3.lt; refine (spec_reader_one.calls k g s0 q2 _ _ [0, 21, 20] t t2 w0 _ hI4 hB4 (C_lits (l := [0, 21, 20]) hN4 (by decide)) (by decide) (fun ad e _ => by cases e; show w3.heap.size ≠ g; omega) A4.out).mono ?_; rintro e w5 ⟨rfl, hI5, hB5, hK6⟩; have hS5 := Kd.S_keep hS4 hK6 (fun k hk => hk); obtain ⟨⟨u, hcu⟩, hfu, hput⟩ := S_put0 hS5 p hp0 hp1; have hK7 := hK5.trans hK6 (.inl rfl); have HPUT := m0 hput; have hI6 := m0 hI5; clear hS4 hS3 hI3 hB3 hK4 hI4 hB4 hN4 hK5 hK6 hput hI5))
 go_ret
 obtain ⟨hS6, hg6⟩ := HPUT.out t
 exact ⟨_, rfl, Kd.S_mono hS6 (fun _ _ => trivial), hI6.out.grown hg6 (fun e => by injection e with e; omega), below_put hg6 hB5 (Nat.le_refl _) (by have := hI6.out.ge; omega), hK7.trans (KeepBut.of_grown hg6 g) (.inr ⟨gb, rfl, hgb⟩)⟩
set_option maxRecDepth 100000 in
set_option maxHeartbeats 4000000 in
theorem any_case2 (k g : Nat) (s0 : List Int) (s1 : Int) (w0 w : World) (hI : IsS80 w0 w g s0 s1) (hB : Below w0.heap.size w0 w) (a : List Tk) (a2 p p2 q q2 : Int) (hpos : 0 < a.length) (hp0 : 0 ≤ p) (hp1 : p < (a.length : Int)) (h1 : spec_someGraph.f k s0 s1 8 = some (a, a2)) (h2 : spec_reader_pick.f k s0 a2 (a.length : Int) = some (p, p2)) (h3 : spec_reader_pick.f k s0 p2 24 = some (q, q2)) (hq : q = 2) (t t2 : Int) (h4 : spec_reader_one.f k s0 q2 [-1, 3] = some (t, t2)) : Calls Tryd.prog 51 #[.pointer (some ⟨g, 0, none⟩)] w (anyPost w0 w g s0  (a.set p.toNat { rd_T39 a p with f2 := t }) t2) := by
 have A1 := m0 h1
 have A2 := m0 h2
 have A3 := m0 h3
 clear h1 h2 h3
 have hz : ((a.length : Int) == 0) = false := beq_eq_false_iff_ne.2 (by omega)
 have hglt : g < w.heap.size := hI.lt
 have A4 := m0 h4
 clear h4
 have hq0 : (q == 0) = false := beq_eq_false_iff_ne.2 (by omega)
 have hq1 : (q == 1) = false := beq_eq_false_iff_ne.2 (by omega)
 have hq2 : (q == 2) = true := by simp [hq]
 have hp0' := eq_true hp0
 have hp1' := eq_true hp1
 go_enter Tryd.func51, Tryd.ntmps51
 go_wp2_with (first | (go_at_call 52; refine (spec_someGraph.calls k g s0 s1 8 a a2 w0 _ hI hB A1.out).mono ?_; rintro e w1 ⟨v1, rfl, hS1, hI1, hB1, hK1⟩; clear hI hB; obtain ⟨gb, cap, rfl, hgb, hgl, cells, hcells⟩ := Kd.S_form hS1 hpos) | (go_at_call 50; refine (spec_reader_pick.calls k g s0 a2 (a.length : Int) p p2 w0 _ hI1 hB1 A2.out).mono ?_; rintro e w2 ⟨rfl, hI2, hB2, hK2⟩; clear hI1 hB1) | (go_at_call 50; refine (spec_reader_pick.calls k g s0 p2 24 q q2 w0 _ hI2 hB2 A3.out).mono ?_; rintro e w3 ⟨rfl, hI3, hB3, hK3⟩; clear hI2 hB2) | (go_at_call 54; have hS3 : Kd.S k39 39 w3 w.heap.size (fun k => k ≠ g) (.slice (some ⟨gb, 0, none⟩) a.length cap) a := Kd.S_keep (Kd.S_keep (Kd.S_mono (Kd.S_bound hS1) (fun k hk => Nat.ne_of_gt (Nat.lt_of_lt_of_le hglt hk.2.1))) hK2 (fun k hk => hk)) hK3 (fun k hk => hk); have hK4 := (hK1.trans hK2 (.inl rfl)).trans hK3 (.inl rfl); clear hS1 hK1 hK2 hK3; have hN4 := cells_new w3 (.cells #[.int .i64 (-1), .int .i64 3] 3); have hI4 := hI3.alloc (.cells #[.int .i64 (-1), .int .i64 3] 3); have hB4 := hB3.alloc hB3.size (.cells #[.int .i64 (-1), .int .i64 3] 3); have hS4 := Kd.S_alloc hS3 (.cells #[.int .i64 (-1), .int .i64 3] 3); have hK5 := keep_alloc hK4 (.cells #[.int .i64 (-1), .int .i64 3] 3); have hsz := hI3.lt; refine (spec_reader_one.calls k g s0 q2 _ _ [-1, 3] t t2 w0 _ hI4 hB4 (C_lits (l := [-1, 3]) hN4 (by decide)) (by decide) (fun ad e _ => by cases e; show w3.heap.size ≠ g; omega) A4.out).mono ?_; rintro e w5 ⟨rfl, hI5, hB5, hK6⟩; have hS5 := Kd.S_keep hS4 hK6 (fun k hk => hk); obtain ⟨⟨u, hcu⟩, hfu, hput⟩ := S_put2 hS5 p hp0 hp1; have hK7 := hK5.trans hK6 (.inl rfl); have HPUT := m0 hput; have hI6 := m0 hI5; clear hS4 hS3 hI3 hB3 hK4 hI4 hB4 hN4 hK5 hK6 hput hI5))
 go_ret
 obtain ⟨hS6, hg6⟩ := HPUT.out t
 exact ⟨_, rfl, Kd.S_mono hS6 (fun _ _ => trivial), hI6.out.grown hg6 (fun e => by injection e with e; omega), below_put hg6 hB5 (Nat.le_refl _) (by have := hI6.out.ge; omega), hK7.trans (KeepBut.of_grown hg6 g) (.inr ⟨gb, rfl, hgb⟩)⟩
set_option maxRecDepth 100000 in
set_option maxHeartbeats 4000000 in
theorem any_case3 (k g : Nat) (s0 : List Int) (s1 : Int) (w0 w : World) (hI : IsS80 w0 w g s0 s1) (hB : Below w0.heap.size w0 w) (a : List Tk) (a2 p p2 q q2 : Int) (hpos : 0 < a.length) (hp0 : 0 ≤ p) (hp1 : p < (a.length : Int)) (h1 : spec_someGraph.f k s0 s1 8 = some (a, a2)) (h2 : spec_reader_pick.f k s0 a2 (a.length : Int) = some (p, p2)) (h3 : spec_reader_pick.f k s0 p2 24 = some (q, q2)) (hq : q = 3) (t t2 : Int) (h4 : spec_reader_one.f k s0 q2 [0, 5] = some (t, t2)) : Calls Tryd.prog 51 #[.pointer (some ⟨g, 0, none⟩)] w (anyPost w0 w g s0  (a.set p.toNat { rd_T39 a p with f3 := t }) t2) := by
 have A1 := m0 h1
 have A2 := m0 h2
 have A3 := m0 h3
 clear h1 h2 h3
 have hz : ((a.length : Int) == 0) = false := beq_eq_false_iff_ne.2 (by omega)
 have hglt : g < w.heap.size := hI.lt
 have A4 := m0 h4
 clear h4
 have hq0 : (q == 0) = false := beq_eq_false_iff_ne.2 (by omega)
 have hq1 : (q == 1) = false := beq_eq_false_iff_ne.2 (by omega)
 have hq2 : (q == 2) = false := beq_eq_false_iff_ne.2 (by omega)
 have hq3 : (q == 3) = true := by simp [hq]
 have hp0' := eq_true hp0
 have hp1' := eq_true hp1
 go_enter Tryd.func51, Tryd.ntmps51
 go_wp2_with (first | (go_at_call 52; refine (spec_someGraph.calls k g s0 s1 8 a a2 w0 _ hI hB A1.out).mono ?_; rintro e w1 ⟨v1, rfl, hS1, hI1, hB1, hK1⟩; clear hI hB; obtain ⟨gb, cap, rfl, hgb, hgl, cells, hcells⟩ := Kd.S_form hS1 hpos) | (go_at_call 50; refine (spec_reader_pick.calls k g s0 a2 (a.length : Int) p p2 w0 _ hI1 hB1 A2.out).mono ?_; rintro e w2 ⟨rfl, hI2, hB2, hK2⟩; clear hI1 hB1) | (go_at_call 50; refine (spec_reader_pick.calls k g s0 p2 24 q q2 w0 _ hI2 hB2 A3.out).mono ?_; rintro e w3 ⟨rfl, hI3, hB3, hK3⟩; clear hI2 hB2) | (go_at_call 54; have hS3 : Kd.S k39 39 w3 w.heap.size (fun k => k ≠ g) (.slice (some ⟨gb, 0, none⟩) a.length cap) a := Kd.S_keep (Kd.S_keep (Kd.S_mono (Kd.S_bound hS1) (fun k hk => Nat.ne_of_gt (Nat.lt_of_lt_of_le hglt hk.2.1))) hK2 (fun k hk => hk)) hK3 (fun k hk => hk); have hK4 := (hK1.trans hK2 (.inl rfl)).trans hK3 (.inl rfl); clear hS1 hK1 hK2 hK3; have hN4 := cells_new w3 (.cells #[.int .i64 0, .int .i64 5] 3); have hI4 := hI3.alloc (.cells #[.int .i64 0, .int .i64 5] 3); have hB4 := hB3.alloc hB3.size (.cells #[.int .i64 0, .int .i64 5] 3); have hS4 := Kd.S_alloc hS3 (.cells #[.int .i64 0, .int .i64 5] 3); have hK5 := keep_alloc hK4 (.cells #[.int .i64 0, .int .i64 5] 3); have hsz := hI3.lt; refine (spec_reader_one.calls k g s0 q2 _ _ [0, 5] t t2 w0 _ hI4 hB4 (C_lits (l := [0, 5]) hN4 (by decide)) (by decide) (fun ad e _ => by cases e; show w3.heap.size ≠ g; omega) A4.out).mono ?_; rintro e w5 ⟨rfl, hI5, hB5, hK6⟩; have hS5 := Kd.S_keep hS4 hK6 (fun k hk => hk); obtain ⟨⟨u, hcu⟩, hfu, hput⟩ := S_put3 hS5 p hp0 hp1; have hK7 := hK5.trans hK6 (.inl rfl); have HPUT := m0 hput; have hI6 := m0 hI5; clear hS4 hS3 hI3 hB3 hK4 hI4 hB4 hN4 hK5 hK6 hput hI5))
 go_ret
 obtain ⟨hS6, hg6⟩ := HPUT.out t
 exact ⟨_, rfl, Kd.S_mono hS6 (fun _ _ => trivial), hI6.out.grown hg6 (fun e => by injection e with e; omega), below_put hg6 hB5 (Nat.le_refl _) (by have := hI6.out.ge; omega), hK7.trans (KeepBut.of_grown hg6 g) (.inr ⟨gb, rfl, hgb⟩)⟩
theorem infoTask : (Tryd.prog.info? 39).map (fun i => (i.zero, i.size, i.bytes)) = some (some (.agg #[.int .i64 0, .slice none 0 0, .int .i64 0, .int .i64 0]), 4, 48) := by kernel_rfl
theorem zip_app (xs ys : List Tk) : (xs ++ ys).zipIdx = xs.zipIdx ++ ys.zipIdx xs.length := by rw [List.zipIdx_append]; simp
/-- Two rows' elements behind each other: the owners of the second one's rows are told anew. -/
theorem S_two {W : World} {b1 N : Nat} {ok : Nat → Prop} {v v2 : Value} {xs ys : List Tk} (h1 : Kd.S k39 39 W b1 (fun k => ok k ∧ k < N) v xs) (h2 : Kd.S k39 39 W N (fun _ => True) v2 ys) (hb : b1 ≤ N) :
  ∃ f A c, v2 = .slice A ys.length c ∧ (Kd.tag f k39).R 39 W b1 (fun k => ok k ∧ k < N) v xs.zipIdx ∧ ReadsRow ((Kd.tag f k39).M W b1 (fun k => N ≤ k)) 4 W A ys.length (ys.zipIdx xs.length) := by
 obtain ⟨f1, hf1⟩ := h1
 obtain ⟨f2, hf2⟩ := h2
 refine ⟨fun k => if k < N then f1 k else f2 k + xs.length, ?_⟩
 have hR2 := Kd.R_bound hf2
 obtain ⟨A, c, rfl, hl, hr⟩ := OwnRow.reads hR2.2
 rw [List.length_zipIdx] at hr
 refine ⟨A, c, by rw [List.length_zipIdx], Kd.R_tag hf1 (fun k hk _ => if_pos hk.2), by simp, hr.2.1, fun hn => ?_⟩
 obtain ⟨ad, e, hc⟩ := hr.2.2 hn
 refine ⟨ad, e, fun j p hj => ?_⟩
 rw [List.getElem?_zipIdx] at hj
 obtain ⟨x, hx, rfl⟩ := Option.map_eq_some_iff.1 hj
 obtain ⟨cs, h3, h4, h5⟩ := hc j (x, j) (by rw [List.getElem?_zipIdx, hx]; simp)
 refine ⟨cs, h3, ?_, h5⟩
 refine Kd.M_lower k39 hb (Kd.M_mono k39 (fun k hk => ?_) h4)
 have hk1 := hk.1.1.2.1
 have hk2 : f2 k = j := hk.2
 refine ⟨hk1, ?_⟩
 show (if k < N then f1 k else f2 k + xs.length) = xs.length + j
 rw [if_neg (by omega), hk2]
 omega
set_option maxRecDepth 100000 in
set_option maxHeartbeats 4000000 in
theorem any_case4 (k g : Nat) (s0 : List Int) (s1 : Int) (w0 w : World) (hI : IsS80 w0 w g s0 s1) (hB : Below w0.heap.size w0 w) (a : List Tk) (a2 p p2 q q2 : Int) (hpos : 0 < a.length) (hp0 : 0 ≤ p) (hp1 : p < (a.length : Int)) (h1 : spec_someGraph.f k s0 s1 8 = some (a, a2)) (h2 : spec_reader_pick.f k s0 a2 (a.length : Int) = some (p, p2)) (h3 : spec_reader_pick.f k s0 p2 24 = some (q, q2)) (hq : q = 4) (c : List Tk) (c2 : Int) (hlen : a.length + c.length < 1000) (h4 : spec_someGraph.f k s0 q2 8 = some (c, c2)) : Calls Tryd.prog 51 #[.pointer (some ⟨g, 0, none⟩)] w (anyPost w0 w g s0  (a ++ c) c2) := by
 have A1 := m0 h1
 have A2 := m0 h2
 have A3 := m0 h3
 clear h1 h2 h3
 have hz : ((a.length : Int) == 0) = false := beq_eq_false_iff_ne.2 (by omega)
 have hglt : g < w.heap.size := hI.lt
 have A4 := m0 h4
 clear h4
 have hq0 : (q == 0) = false := beq_eq_false_iff_ne.2 (by omega)
 have hq1 : (q == 1) = false := beq_eq_false_iff_ne.2 (by omega)
 have hq2 : (q == 2) = false := beq_eq_false_iff_ne.2 (by omega)
 have hq3 : (q == 3) = false := beq_eq_false_iff_ne.2 (by omega)
 have hq4 : (q == 4) = true := by simp [hq]
 go_enter Tryd.func51, Tryd.ntmps51
 go_wp2_with (first | (go_at_call 52; refine (spec_someGraph.calls k g s0 s1 8 a a2 w0 _ hI hB A1.out).mono ?_; rintro e w1 ⟨v1, rfl, hS1, hI1, hB1, hK1⟩; clear hI hB; obtain ⟨gb, cap, rfl, hgb, hgl, cells, hcells⟩ := Kd.S_form hS1 hpos) | (go_at_call 50; refine (spec_reader_pick.calls k g s0 a2 (a.length : Int) p p2 w0 _ hI1 hB1 A2.out).mono ?_; rintro e w2 ⟨rfl, hI2, hB2, hK2⟩; clear hI1 hB1) | (go_at_call 50; refine (spec_reader_pick.calls k g s0 p2 24 q q2 w0 _ hI2 hB2 A3.out).mono ?_; rintro e w3 ⟨rfl, hI3, hB3, hK3⟩; clear hI2 hB2) | (go_at_call 52; have hS3 : Kd.S k39 39 w3 w.heap.size (fun k => k ≠ g) (.slice (some ⟨gb, 0, none⟩) a.length cap) a := Kd.S_keep (Kd.S_keep (Kd.S_mono (Kd.S_bound hS1) (fun k hk => Nat.ne_of_gt (Nat.lt_of_lt_of_le hglt hk.2.1))) hK2 (fun k hk => hk)) hK3 (fun k hk => hk); have hK4 := (hK1.trans hK2 (.inl rfl)).trans hK3 (.inl rfl); clear hS1 hK1 hK2 hK3; have HGL3 := m0 hI3.lt; have HGB3 := m0 (Kd.S_lt hS3 gb (by simp [Value.ownBlock])); have hK4s := hK4.1; refine (spec_someGraph.calls k g s0 q2 8 c c2 w0 _ hI3 hB3 A4.out).mono ?_; rintro e w5 ⟨v2, rfl, hS5, hI5, hB5, hK5⟩; have hS4 : Kd.S k39 39 w5 w.heap.size (fun k => k ≠ g ∧ k < w3.heap.size) _ a := Kd.S_keep (Kd.S_mono (Kd.S_bound hS3) (fun k hk => ⟨hk.1, hk.2.2.1⟩)) hK5 (fun k hk => hk.1); obtain ⟨f, A, cc, rfl, hR6, hRR⟩ := S_two hS4 hS5 hK4s; have hK6 := hK4.trans hK5 (.inl rfl); have HR6 := m0 hR6; have HRR := m0 hRR; have HI5 := m0 hI5; have HB5 := m0 hB5; have HK6 := m0 hK6; have HLE := m0 hK5.1; clear hS3 hS4 hS5 hI3 hB3 hK4 hK5 hR6 hRR hI5 hB5 hK6 hK4s) | ((with_reducible refine gate_builtin (b := .append) (xs := #[.tmp 65, .tmp 67]) rfl ?_); go_loud (at_builtin; have hgb3 : gb < w3.heap.size := HGB3.out; have hle5 : w.heap.size ≤ w5.heap.size := HK6.out.1; refine Kd.R_append_rows (Kd.tag f k39) (w0 := w5) w.heap.size rfl (.tmp 65) (.tmp 67) 26 39 (.agg #[.int .i64 0, .slice none 0 0, .int .i64 0, .int .i64 0]) 48 rfl Tryd.underlying26 infoTask rfl (show 0 < 4 from by decide) (by decide) (.slice (some ⟨gb, 0, none⟩) a.length cap) a.zipIdx (c.zipIdx a.length) A c.length cc (fun k => k ≠ g) (fun k => w3.heap.size ≤ k) rfl rfl (Kd.R_mono HR6.out (fun _ hk => hk.1)) HRR.out (fun _ _ h => h) (fun k (hk : w3.heap.size ≤ k) => ⟨Nat.ne_of_gt (Nat.lt_of_lt_of_le HGL3.out hk), fun e => by have e2 : k = gb := (by simpa [Value.ownBlock] using e); omega⟩) (fun k hk => Nat.ne_of_gt (Nat.lt_of_lt_of_le HI5.out.lt hk)) (Below.refl _ _) hle5 (by simp; omega) ?_; intro v6 w6 ho hb hg hat)))
 go_ret
 have hS6 : Kd.S k39 39 w6 w.heap.size (fun k => k ≠ g) v6 (a ++ c) := ⟨f, by rw [zip_app]; exact ho⟩
 have hg' : w5.grownBy w6 (some gb) := by simpa [Value.ownBlock] using hg
 have hI6 := HI5.out.grown hg' (fun e => by injection e with e; omega)
 exact ⟨_, rfl, Kd.S_mono hS6 (fun _ _ => trivial), hI6, below_put hg' HB5.out (Nat.le_refl _) (by have := HI5.out.ge; omega), HK6.out.trans (KeepBut.of_grown hg' g) (.inr ⟨gb, rfl, hgb⟩)⟩
theorem infoInt_ : (Tryd.prog.info? 3).map (fun i => (i.zero, i.size, i.bytes)) = some (some (.int .i64 0), 1, 8) := by kernel_rfl
set_option maxRecDepth 100000 in
set_option maxHeartbeats 4000000 in
theorem any_case1 (k g : Nat) (s0 : List Int) (s1 : Int) (w0 w : World) (hI : IsS80 w0 w g s0 s1) (hB : Below w0.heap.size w0 w) (a : List Tk) (a2 p p2 q q2 : Int) (hpos : 0 < a.length) (hp0 : 0 ≤ p) (hp1 : p < (a.length : Int)) (h1 : spec_someGraph.f k s0 s1 8 = some (a, a2)) (h2 : spec_reader_pick.f k s0 a2 (a.length : Int) = some (p, p2)) (h3 : spec_reader_pick.f k s0 p2 24 = some (q, q2)) (hq : q = 1) (b b2 : Int) (r : List Int) (r2 : Int) (h4 : spec_reader_pick.f k s0 q2 (a.length : Int) = some (b, b2)) (hlen : (rd_T39 a p).f1.length < 1000) (h5 : spec_reader_spoil.f k s0 b2 ((rd_T39 a p).f1 ++ [b]) 8 = some (r, r2)) : Calls Tryd.prog 51 #[.pointer (some ⟨g, 0, none⟩)] w (anyPost w0 w g s0  (a.set p.toNat { rd_T39 a p with f1 := r }) r2) := by
 have A1 := m0 h1
 have A2 := m0 h2
 have A3 := m0 h3
 clear h1 h2 h3
 have hz : ((a.length : Int) == 0) = false := beq_eq_false_iff_ne.2 (by omega)
 have hglt : g < w.heap.size := hI.lt
 have A4 := m0 h4
 have A5 := m0 h5
 clear h4 h5
 have hq0 : (q == 0) = false := beq_eq_false_iff_ne.2 (by omega)
 have hq1 : (q == 1) = true := by simp [hq]
 go_enter Tryd.func51, Tryd.ntmps51
 go_wp2_with (first | (go_at_call 52; refine (spec_someGraph.calls k g s0 s1 8 a a2 w0 _ hI hB A1.out).mono ?_; rintro e w1 ⟨v1, rfl, hS1, hI1, hB1, hK1⟩; clear hI hB; obtain ⟨gb, cap, rfl, hgb, hgl, cells, hcells⟩ := Kd.S_form hS1 hpos) | (go_at_call 50; refine (spec_reader_pick.calls k g s0 a2 (a.length : Int) p p2 w0 _ hI1 hB1 A2.out).mono ?_; rintro e w2 ⟨rfl, hI2, hB2, hK2⟩; clear hI1 hB1) | (go_at_call 50; refine (spec_reader_pick.calls k g s0 p2 24 q q2 w0 _ hI2 hB2 A3.out).mono ?_; rintro e w3 ⟨rfl, hI3, hB3, hK3⟩; clear hI2 hB2))
 have hS3 : Kd.S k39 39 w3 w.heap.size (fun k => k ≠ g) (.slice (some ⟨gb, 0, none⟩) a.length cap) a := Kd.S_keep (Kd.S_keep (Kd.S_mono (Kd.S_bound hS1) (fun k hk => Nat.ne_of_gt (Nat.lt_of_lt_of_le hglt hk.2.1))) hK2 (fun k hk => hk)) hK3 (fun k hk => hk)
 have hK4 := (hK1.trans hK2 (.inl rfl)).trans hK3 (.inl rfl)
 clear hS1 hK1 hK2 hK3
 have hp0' := eq_true hp0
 have hp1' := eq_true hp1
 have hS3b : Kd.S k39 39 w3 w.heap.size (fun k => k ≠ g ∧ k < w3.heap.size) (.slice (some ⟨gb, 0, none⟩) a.length cap) a := Kd.S_mono (Kd.S_bound hS3) (fun k hk => ⟨hk.1, hk.2.2.1⟩)
 obtain ⟨oki, c, hcl, hM, hcc, hfr, hoki, hH⟩ := Kd.S_elem hS3b z39 p hp0 hp1
 obtain ⟨v4, rfl, g4⟩ := k39_openM hM
 clear hS3b
 have hx1 : w3.cell? ⟨gb, p.toNat * 4 + 1, none⟩ = some v4 := hcc 1 _ rfl
 have hgb3 : gb < w3.heap.size := Kd.S_lt hS3 gb (by simp [Value.ownBlock])
 clear hcc hfr hM hcl hS3
 have hI4 : IsS80 w0 w3.drew g s0 q2 := hI3.drew
 have hB4 : Below w0.heap.size w0 w3.drew := below_drew1 hB3
 have hK4' : KeepBut w w3.drew g none := keep_drew hK4
 have hH4 := Kd.H_drew hH
 have g4' := Kd.Q_drew g4
 have hsz4 : w3.drew.heap.size = w3.heap.size := rfl
 have hd4 : Below w3.heap.size w3 w3.drew := below_drew (Below.refl _ _)
 refine start_ (n := 18) (S := fun w' => w'.cell? ⟨gb, p.toNat * 4 + 1, none⟩ = some v4) (ds := [13, 14, 15, 16, 17]) #[F5q,F5q,F5q,F5q,F5q,F5q,F5q,F5q,F5q,F5q,F5q,F5q,F5q,F5q,F5q,F5q,F5q,F5q] rfl (by kernel_rfl) rfl ((hd4.cell hgb3).trans hx1) (fun hHeld => ?_)
 revert hI4 hB4 hK4' hH4 g4' hsz4 hHeld
 generalize w3.drew = w4
 intro hI4 hB4 hK4' hH4 g4' hsz4 hHeld
 clear hI3 hB3 hK4 hH g4 hx1 hd4
 refine pure_ (i := 0) (N := some 28) (v := ?_) (a' := ?_) #[T5q,F5q,F5q,F5q,F5q,F5q,F5q,F5q,F5q,F5q,F5q,F5q,F5q,F5q,F5q,F5q,F5q,F5q] rfl rfl (by kernel_rfl) (fun _ _ _ h => h) (Or.inl ⟨by rfl, ?_⟩) ?_ ?_
 rotate_left
 ·intro w'
  go_simp
  with_reducible rfl
 rotate_left
 ·simp only [Act.put, sIA, sC0, sCS, i64_w, i32_w]
  rfl
 refine pure_ (i := 1) (N := some 29) (v := ?_) (a' := ?_) #[T5q,T5q,F5q,F5q,F5q,F5q,F5q,F5q,F5q,F5q,F5q,F5q,F5q,F5q,F5q,F5q,F5q,F5q] rfl rfl (by kernel_rfl) (fun _ _ _ h => h) (Or.inl ⟨by rfl, ?_⟩) ?_ ?_
 rotate_left
 ·intro w'
  go_simp
  with_reducible rfl
 rotate_left
 ·simp only [Act.put, sIA, sC0, sCS, i64_w, i32_w]
  rfl
 refine pure_ (i := 2) (N := some 30) (v := ?_) (a' := ?_) #[T5q,T5q,T5q,F5q,F5q,F5q,F5q,F5q,F5q,F5q,F5q,F5q,F5q,F5q,F5q,F5q,F5q,F5q] rfl rfl (by kernel_rfl) (fun _ _ _ h => h) (Or.inl ⟨by rfl, ?_⟩) ?_ ?_
 rotate_left
 ·intro w'
  go_simp
  with_reducible rfl
 rotate_left
 ·simp only [Act.put, sIA, sC0, sCS, i64_w, i32_w]
  rfl
 refine pure_ (i := 3) (N := some 31) (v := ?_) (a' := ?_) #[T5q,T5q,T5q,T5q,F5q,F5q,F5q,F5q,F5q,F5q,F5q,F5q,F5q,F5q,F5q,F5q,F5q,F5q] rfl rfl (by kernel_rfl) (fun _ _ _ h => h) (Or.inl ⟨by rfl, ?_⟩) ?_ ?_
 rotate_left
 ·intro w'
  go_simp
  with_reducible rfl
 rotate_left
 ·simp only [Act.put, sIA, sC0, sCS, i64_w, i32_w]
  rfl
 refine pure_ (i := 4) (N := some 32) (v := ?_) (a' := ?_) #[T5q,T5q,T5q,T5q,T5q,F5q,F5q,F5q,F5q,F5q,F5q,F5q,F5q,F5q,F5q,F5q,F5q,F5q] rfl rfl (by kernel_rfl) (fun _ _ _ h => h) (Or.inl ⟨by rfl, ?_⟩) ?_ ?_
 rotate_left
 ·intro w'
  go_simp
  with_reducible rfl
 rotate_left
 ·simp only [Act.put, sIA, sC0, sCS, i64_w, i32_w]
  rfl
 refine pure_ (i := 5) (N := some 33) (v := ?_) (a' := ?_) #[T5q,T5q,T5q,T5q,T5q,T5q,F5q,F5q,F5q,F5q,F5q,F5q,F5q,F5q,F5q,F5q,F5q,F5q] rfl rfl (by kernel_rfl) (fun _ _ _ h => h) (Or.inl ⟨by rfl, ?_⟩) ?_ ?_
 rotate_left
 ·intro w'
  go_simp
  with_reducible rfl
 rotate_left
 ·simp only [Act.put, sIA, sC0, sCS, i64_w, i32_w]
  rfl
 refine pure_ (i := 6) (N := some 34) (v := ?_) (a' := ?_) #[T5q,T5q,T5q,T5q,T5q,T5q,T5q,F5q,F5q,F5q,F5q,F5q,F5q,F5q,F5q,F5q,F5q,F5q] rfl rfl (by kernel_rfl) (fun _ _ _ h => h) (Or.inl ⟨by rfl, ?_⟩) ?_ ?_
 rotate_left
 ·intro w'
  go_simp
  with_reducible rfl
 rotate_left
 ·simp only [Act.put, sIA, sC0, sCS, i64_w, i32_w]
  rfl
 refine take_ (i := 7) (N := some 35) (v := ?_) (a' := ?_) #[T5q,T5q,T5q,T5q,T5q,T5q,T5q,T5q,F5q,F5q,F5q,F5q,F5q,F5q,F5q,F5q,F5q,F5q] rfl rfl (by kernel_rfl) (fun _ _ _ h => h) (Or.inl ⟨by rfl, ?_⟩) hHeld ?_ ?_
 rotate_left
 ·rintro w' hc
  go_simp
  with_reducible rfl
 rotate_left
 ·simp only [Act.put, sIA, sC0, sCS, i64_w, i32_w]
  rfl
 refine pure_ (i := 8) (N := some 36) (v := ?_) (a' := ?_) #[T5q,T5q,T5q,T5q,T5q,T5q,T5q,T5q,T5q,F5q,F5q,F5q,F5q,F5q,F5q,F5q,F5q,F5q] rfl rfl (by kernel_rfl) (fun _ _ _ h => h) (Or.inl ⟨by rfl, ?_⟩) ?_ ?_
 rotate_left
 ·intro w'
  go_simp
  with_reducible rfl
 rotate_left
 ·simp only [Act.put, sIA, sC0, sCS, i64_w, i32_w]
  rfl
 refine pure_ (i := 9) (N := some 37) (v := ?_) (a' := ?_) #[T5q,T5q,T5q,T5q,T5q,T5q,T5q,T5q,T5q,T5q,F5q,F5q,F5q,F5q,F5q,F5q,F5q,F5q] rfl rfl (by kernel_rfl) (fun _ _ _ h => h) (Or.inl ⟨by rfl, ?_⟩) ?_ ?_
 rotate_left
 ·intro w'
  go_simp
  with_reducible rfl
 rotate_left
 ·simp only [Act.put, sIA, sC0, sCS, i64_w, i32_w]
  rfl
 refine pure_ (i := 10) (N := some 38) (v := ?_) (a' := ?_) #[T5q,T5q,T5q,T5q,T5q,T5q,T5q,T5q,T5q,T5q,T5q,F5q,F5q,F5q,F5q,F5q,F5q,F5q] rfl rfl (by kernel_rfl) (fun _ _ _ h => h) (Or.inl ⟨by rfl, ?_⟩) ?_ ?_
 rotate_left
 ·intro w'
  go_simp
  with_reducible rfl
 rotate_left
 ·simp only [Act.put, sIA, sC0, sCS, i64_w, i32_w]
  rfl
 refine one_ (i := 11) (N := some 39) #[T5q,T5q,T5q,T5q,T5q,T5q,T5q,T5q,T5q,T5q,T5q,T5q,F5q,F5q,F5q,F5q,F5q,F5q] rfl rfl (by kernel_rfl) (by decide) (fun K hK => ?_)
 refine goes_ Tryd.func50 (by kernel_rfl) rfl #[.pointer (some ⟨g, 0, none⟩), .int .i64 (a.length : Int)] (by rfl) rfl rfl (by (try simp only [List.map_toArray, List.map_cons, List.map_nil]); rfl) ?_
 refine (spec_reader_pick.calls k g s0 q2 (a.length : Int) b b2 w0 _ hI4 hB4 A4.out).mono ?_
 rintro e w5 ⟨rfl, hI5, hB5, hK5⟩
 have hgb4 : gb < w4.heap.size := by omega
 have hne : gb ≠ g := by have := Nat.lt_of_lt_of_le hglt hgb; omega
 refine ⟨_, rfl, hK.out _ _ (keep_cell hK5 hHeld hne) (fun hHeld5 => ?_)⟩
 clear hK K
 refine norm_ (a' := ?_) ?_ ?_
 rotate_left
 ·show Act.put _ (some 39) _ = _
  simp only [Act.put, sIA, sC0, sCS, i64_w, i32_w]
  rfl
 have hH5 := Kd.H_keep hH4 hK5 (fun k hk => hk.1)
 have g5 := Kd.Q_keep g4' hK5 (fun k hk => (hoki k hk).1.1)
 have hg5lt := hI5.lt
 have hK6 := hK4'.trans hK5 (.inl rfl)
 have hsz5 : w3.heap.size ≤ w5.heap.size := by rw [← hsz4]; exact hK5.1
 clear hH4 g4' hK5 hK4' hI4 hB4 hHeld hsz4
 refine one_ (i := 12) (N := some 40) #[T5q,T5q,T5q,T5q,T5q,T5q,T5q,T5q,T5q,T5q,T5q,T5q,T5q,F5q,F5q,F5q,F5q,F5q] rfl rfl (by kernel_rfl) (by decide) (fun K hK => ?_)
 refine value_ (w1 := w5.alloc (.cells #[.int .i64 b] 3)) (v := .slice (some ⟨w5.heap.size, 0, none⟩) 1 1) (by rfl) rfl ?_ ?_
 ·go_simp; try rfl
 refine hK.out _ _ ((((Below.refl w5.heap.size w5).alloc (Nat.le_refl _) (.cells #[.int .i64 b] 3)).cell (show gb < w5.heap.size by omega)).trans hHeld5) (fun hHeld6 => ?_)
 clear hK K
 refine norm_ (a' := ?_) ?_ ?_
 rotate_left
 ·simp only [Act.put, sIA, sC0, sCS, i64_w, i32_w]
  rfl
 refine last_ (i := 13) (N := some 41) #[T5q,T5q,T5q,T5q,T5q,T5q,T5q,T5q,T5q,T5q,T5q,T5q,T5q,T5q,F5q,F5q,F5q,F5q] rfl rfl (by kernel_rfl) (by decide) (fun K hK => ?_)
 refine Kd.Q_append_step (Kd.int .i64) (w0 := w5) w.heap.size (by rfl) (.tmp 35) (.tmp 40) 23 3 (.int .i64 0) 8 rfl Tryd.underlying23 infoInt_ rfl (by decide) (by decide) v4 (rd_T39 a p).f1 b [.int .i64 b] (fun k => oki k ∨ w5.heap.size ≤ k) (fun _ => False) rfl rfl rfl (fun _ h => h.elim) (fun _ hk => .inr hk) (Kd.Q_mono g5 (fun _ hk => .inl hk)) (Below.refl _ _) hK6.1 (by omega) ?_
 intro v7 w7 hQ7 hB7 hg7 hat7
 refine hK.out _ _ ?_
 clear hK K
 refine norm_ (a' := ?_) ?_ ?_
 rotate_left
 ·simp only [Act.put, sIA, sC0, sCS, i64_w, i32_w]
  rfl
 have hvo : ∀ k, v4.ownBlock = some k → oki k := fun k hk => g5.1 k hk
 have hH7 := Kd.H_grown hH5 hg7 hvo
 have hI7 := hI5.grown hg7 (fun e => (hoki g (hvo g e.symm)).1.1 rfl)
 have hB8 : Below w0.heap.size w0 w7 := by
  refine ⟨hg7.os.trans hB5.os, hg7.tape.trans hB5.tape, hg7.output.trans hB5.output, Nat.le_trans hB5.size hg7.size, fun k hk => (hg7.block k (Nat.lt_of_lt_of_le hk hB5.size) (fun e => ?_)).trans (hB5.block k hk)⟩
  have h1 := Kd.Q_base g5 k e.symm
  have h2 := hI5.ge
  omega
 have hK8 : KeepBut w w7 g none := ⟨Nat.le_trans hK6.1 hg7.size, fun k hk hkg hn => (hg7.block k (Nat.lt_of_lt_of_le hk hK6.1) (fun e => by have := Kd.Q_base g5 k e.symm; omega)).trans (hK6.2 k hk hkg hn)⟩
 have hsz7 := hg7.size
 obtain ⟨A7, c7, rfl, hl7, hC7⟩ := Kd.Q_reads hQ7
 have hlen7 : ((rd_T39 a p).f1 ++ [b]).length = (rd_T39 a p).f1.length + 1 := by simp
 have hQg := hQ7.1
 clear hH5 g5 hI5 hB5 hK6 hHeld5 hHeld6
 refine last_ (i := 14) (N := some 42) #[T5q,T5q,T5q,T5q,T5q,T5q,T5q,T5q,T5q,T5q,T5q,T5q,T5q,T5q,T5q,F5q,F5q,F5q] rfl rfl (by kernel_rfl) (by decide) (fun K hK => ?_)
 refine goes_ Tryd.func53 (by kernel_rfl) rfl #[.pointer (some ⟨g, 0, none⟩), .slice A7 ((rd_T39 a p).f1 ++ [b]).length c7, .int .i64 8] (by rfl) rfl rfl (by (try simp only [List.map_toArray, List.map_cons, List.map_nil]); rfl) ?_
 refine (spec_reader_spoil.calls k g s0 b2 A7 c7 ((rd_T39 a p).f1 ++ [b]) 8 r r2 w0 _ hI7 hB8 hC7 hl7 (fun ad e hpos7 => ?_) A5.out).mono ?_
 ·subst e
  rcases hQg ad.block (by simp [Value.ownBlock]) with h | h
  ·exact (hoki _ h).1.1
  ·exact Nat.ne_of_gt (Nat.lt_of_lt_of_le hg5lt h)
 rintro e w9 ⟨v9, rfl, hQ9, hI9, hB9, hK9⟩
 refine ⟨_, rfl, hK.out _ _ ?_⟩
 clear hK K
 refine norm_ (a' := ?_) ?_ ?_
 rotate_left
 ·simp only [Act.put, sIA, sC0, sCS, i64_w, i32_w]
  rfl
 have hH9 := Kd.H_keep hH7 hK9 (fun k hk => hk.1)
 have hH10 := Kd.H_mono (ok' := fun k => k ≠ g ∧ ¬ (w7.heap.size ≤ k)) hH9 (fun k hk => ⟨hk.1, by omega⟩)
 obtain ⟨hS11, hg11⟩ := Kd.S_seg (okg := fun k => w7.heap.size ≤ k) hH10 hp0 hp1 (seg := [v9]) (j := 1) (show 1 + 1 ≤ 4 from by decide) (x' := { rd_T39 a p with f1 := r }) (mkQ _ _ _ { rd_T39 a p with f1 := r } (Kd.Q_mono (Kd.Q_lower (Kd.Q_bound hQ9) (show w.heap.size ≤ w7.heap.size by have := hK8.1; omega)) (fun k hk => hk.2.1))) (fun k hk => .inr hk) (fun k hk => ⟨Nat.ne_of_gt (Nat.lt_of_lt_of_le hI7.lt hk), by omega⟩)
 obtain ⟨rows, _, hraw, _, _, hcc9, _⟩ := Kd.H_raw hH10 hp0 hp1
 have hcell9 : w9.cell? ⟨gb, p.toNat * 4 + 1, none⟩ = some v4 := hcc9 1 _ rfl
 obtain ⟨cs9, hcs9⟩ := Kd.R_typed hraw gb (by simp [Value.ownBlock])
 have hfz9 : w9.frozen? ⟨gb, p.toNat * 4 + 1, none⟩ = false := by simp [World.frozen?, hcs9]
 clear hraw hcc9 hcs9 hH10 hH9
 have hsl9 := Kd.Q_slice hQ9
 refine pure_ (i := 15) (N := some 43) (v := ?_) (a' := ?_) #[T5q,T5q,T5q,T5q,T5q,T5q,T5q,T5q,T5q,T5q,T5q,T5q,T5q,T5q,T5q,T5q,F5q,F5q] rfl rfl (by kernel_rfl) (fun _ _ _ h => h) (Or.inl ⟨by rfl, ?_⟩) ?_ ?_
 rotate_left
 ·intro w'
  go_simp
  with_reducible rfl
 rotate_left
 ·simp only [Act.put, sIA, sC0, sCS, i64_w, i32_w]
  rfl
 refine pure_ (i := 16) (N := some 44) (v := ?_) (a' := ?_) #[T5q,T5q,T5q,T5q,T5q,T5q,T5q,T5q,T5q,T5q,T5q,T5q,T5q,T5q,T5q,T5q,T5q,F5q] rfl rfl (by kernel_rfl) (fun _ _ _ h => h) (Or.inl ⟨by rfl, ?_⟩) ?_ ?_
 rotate_left
 ·intro w'
  go_simp
  with_reducible rfl
 rotate_left
 ·simp only [Act.put, sIA, sC0, sCS, i64_w, i32_w]
  rfl
 obtain ⟨A9, c9, hv9, _⟩ := hsl9
 refine last_ (i := 17) (N := none) #[T5q,T5q,T5q,T5q,T5q,T5q,T5q,T5q,T5q,T5q,T5q,T5q,T5q,T5q,T5q,T5q,T5q,T5q] rfl rfl (by kernel_rfl) (by decide) (fun K hK => ?_)
 refine skip_ (w1 := w9.setCell ⟨gb, p.toNat * 4 + 1, none⟩ v9) (by rfl) rfl ?_ ?_
 ·subst hv9; go_simp
 refine hK.out _ _ ?_
 clear hK K
 refine done_ (by kernel_rfl) ?_
 have hS12 : Kd.S k39 39 (w9.setCell ⟨gb, p.toNat * 4 + 1, none⟩ v9) w.heap.size (fun k => k ≠ g) _ _ := hS11
 have hg12 : w9.grownBy (w9.setCell ⟨gb, p.toNat * 4 + 1, none⟩ v9) (some gb) := hg11
 have hI12 := hI9.grown hg12 (fun e => by injection e with e; have := Nat.lt_of_lt_of_le hglt hgb; omega)
 have hB12 := below_put hg12 hB9 (Nat.le_refl _) (by have := hI9.ge; omega)
 have hK12 := (hK8.trans hK9 (.inl rfl)).trans (KeepBut.of_grown hg12 g) (.inr ⟨gb, rfl, hgb⟩)
 revert hS12 hI12 hB12 hK12
 generalize w9.setCell ⟨gb, p.toNat * 4 + 1, none⟩ v9 = w13
 intro hS12 hI12 hB12 hK12
 clear hS11 hg11 hg12
 go_wp2
 go_ret
 exact ⟨_, rfl, Kd.S_mono hS12 (fun _ _ => trivial), hI12, hB12, hK12⟩
end Go.Proofs.YtimbfcedigaffaaDoor.Core
namespace Go.Proofs.YtimbfcedigaffaaDoor.P
open Go Go.RowKit Go.Shelf Go.Proofs.YtimbfcedigaffaaDoorW.PrintWords Go.Proofs.YtimbfcedigaffaaDoorW.PrintMore Go.Proofs.YtimbfcedigaffaaDoor.Core
noncomputable def spec_anyGraph.f (s0_0 : List Int) (s0_1 : Int) : Option (List S39 × Int) := lim (fun k => spec_anyGraph.fk k s0_0 s0_1)
theorem spec_anyGraph.calls (g : Nat) (s0_0 : List Int) (s0_1 : Int) (r1 : List S39) (r2 : Int) (w0 w : World) (hI : IsS80 w0 w g s0_0 s0_1) (hB : Below w0.heap.size w0 w) (h : spec_anyGraph.f s0_0 s0_1 = some (r1, r2)) :
  Calls Tryd.prog 51 #[.pointer (some ⟨g, 0, none⟩)] w fun e w' => ∃ v0_ : Value, e = .returned (v0_) ∧ Kd.S k39 39 w' w.heap.size (fun _ => True) v0_ r1 ∧ IsS80 w0 w' g s0_0 r2 ∧ Below w0.heap.size w0 w' ∧ KeepBut w w' g none := by
 obtain ⟨k, hk⟩ := lim_some h
 clear h
 unfold spec_anyGraph.fk at hk
 obtain ⟨⟨a, a2⟩, h1, hk⟩ := Option.bind_eq_some_iff.1 hk
 by_cases hl : a.length = 0
 ·rw [if_pos hl] at hk
  cases hk
  obtain rfl := List.eq_nil_of_length_eq_zero hl
  exact any_empty k g s0_0 s0_1 w0 w hI hB _ h1
 ·rw [if_neg hl] at hk
  obtain ⟨⟨p, p2⟩, h2, hk⟩ := Option.bind_eq_some_iff.1 hk
  obtain ⟨⟨q, q2⟩, h3, hk⟩ := Option.bind_eq_some_iff.1 hk
  by_cases hp : ¬ (0 ≤ p ∧ p < (a.length : Int))
  ·rw [if_pos hp] at hk; cases hk
  ·rw [if_neg hp] at hk
   obtain ⟨hp0, hp1⟩ := Decidable.not_not.1 hp
   have hpos : 0 < a.length := by omega
   by_cases e0 : q = 0
   ·rw [if_pos e0] at hk
    obtain ⟨⟨t, t2⟩, h4, hk⟩ := Option.bind_eq_some_iff.1 hk
    cases hk
    exact any_case0 k g s0_0 s0_1 w0 w hI hB a a2 p p2 q q2 hpos hp0 hp1 h1 h2 h3 e0 t _ h4
   ·rw [if_neg e0] at hk
    by_cases e1 : q = 1
    ·rw [if_pos e1] at hk
     obtain ⟨⟨b, b2⟩, h4, hk⟩ := Option.bind_eq_some_iff.1 hk
     by_cases hlen : (rd_T39 a p).f1.length < 1000
     ·simp only [hlen, if_true] at hk
      obtain ⟨⟨c, c2⟩, h5, hk⟩ := Option.bind_eq_some_iff.1 hk
      cases hk
      exact any_case1 k g s0_0 s0_1 w0 w hI hB a a2 p p2 q q2 hpos hp0 hp1 h1 h2 h3 e1 b b2 c _ h4 hlen h5
     ·simp only [hlen, if_false] at hk; cases hk
    ·rw [if_neg e1] at hk
     by_cases e2 : q = 2
     ·rw [if_pos e2] at hk
      obtain ⟨⟨t, t2⟩, h4, hk⟩ := Option.bind_eq_some_iff.1 hk
      cases hk
      exact any_case2 k g s0_0 s0_1 w0 w hI hB a a2 p p2 q q2 hpos hp0 hp1 h1 h2 h3 e2 t _ h4
     ·rw [if_neg e2] at hk
      by_cases e3 : q = 3
      ·rw [if_pos e3] at hk
       obtain ⟨⟨t, t2⟩, h4, hk⟩ := Option.bind_eq_some_iff.1 hk
       cases hk
       exact any_case3 k g s0_0 s0_1 w0 w hI hB a a2 p p2 q q2 hpos hp0 hp1 h1 h2 h3 e3 t _ h4
      ·rw [if_neg e3] at hk
       by_cases e4 : q = 4
       ·rw [if_pos e4] at hk
        obtain ⟨⟨c, c2⟩, h4, hk⟩ := Option.bind_eq_some_iff.1 hk
        by_cases hlen : a.length + c.length < 1000
        ·simp only [hlen, if_true] at hk
         cases hk
         exact any_case4 k g s0_0 s0_1 w0 w hI hB a a2 p p2 q q2 hpos hp0 hp1 h1 h2 h3 e4 c _ hlen h4
        ·simp only [hlen, if_false] at hk; cases hk
       ·rw [if_neg e4] at hk
        cases hk
        exact any_same k g s0_0 s0_1 w0 w hI hB a a2 p p2 q _ hpos hp0 hp1 h1 h2 h3 ⟨e0, e1, e2, e3, e4⟩
end Go.Proofs.YtimbfcedigaffaaDoor.P
namespace Go.Proofs.YtimbfcedigaffaaDoor.Core
end Go.Proofs.YtimbfcedigaffaaDoor.Core
end
