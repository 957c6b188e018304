/- What the proofs of several laws use: words and contracts, part 5 of 6. -/
import Derived.Test.YtimbfcedigaffaaDoorZCH14
import Derived.Laws.Bits64
import Derived.WalkSpells
namespace Go.Proofs.YtimbfcedigaffaaDoor.P
abbrev T5qc : Bool := true
abbrev F5qc : Bool := false
end Go.Proofs.YtimbfcedigaffaaDoor.P
section
set_option linter.unusedVariables false
set_option linter.unusedSimpArgs false
namespace Go.Proofs.YtimbfcedigaffaaDoor.Core
open Go Go.RowKit Go.Shelf Go.Proofs.YtimbfcedigaffaaDoorW.PrintWords Go.Proofs.YtimbfcedigaffaaDoorW.PrintLast Go.Proofs.YtimbfcedigaffaaDoorW.PrintMore Go.Proofs.YtimbfcedigaffaaDoor.P
attribute [local go_sem] Oper.semAt_some wide_fn wide_depth max2_int max_two
/-- An operation with a guard, told by the guard's own value. -/
theorem wpStill_want {P : Program} {ops : Array Oper} {w : World} {Q : Act → Prop} {a : Act} {o : Oper} {rest : List Oper} (hw : Region.wanted o (yielded ops a.tmps) = true) (h : ∀ K : Act → Prop, (∀ a, wpStill P ops w Q rest a → K a) → o.still P a w K) : wpStill P ops w Q (o :: rest) a := by
 unfold wpStill
 rw [if_pos hw]
 exact h _ (fun _ h => h)
theorem wpStill_skip {P : Program} {ops : Array Oper} {w : World} {Q : Act → Prop} {a : Act} {o : Oper} {rest : List Oper} (hw : Region.wanted o (yielded ops a.tmps) = false) (h : wpStill P ops w Q rest (a.put o.dst undef)) : wpStill P ops w Q (o :: rest) a := by
 unfold wpStill
 rw [if_neg (by rw [hw]; exact Bool.false_ne_true)]
 exact h
/-- When a task is over. -/
def endN (g : List Tk) (L : List Nat) (k : Nat) : Nat := L.getD k 0 + tmN g k
/-- One more need. -/
def eStep (g : List Tk) (L : List Nat) (a k : Nat) : Nat := max a (endN g L k)
def needEnd (g : List Tk) (L : List Nat) (s : Nat) : Nat := (elemsN s).foldl (eStep g L) 0
/-- Whether a task runs at a time. -/
def runsAt (g : List Tk) (L : List Nat) (now k : Nat) : Bool := decide (L.getD k 0 ≤ now) && decide (now < endN g L k)
def cntStep (g : List Tk) (L : List Nat) (now : Nat) (c : Cn) (k : Nat) : Cn := if runsAt g L now k = true then cstep g c k else c
def cntOf (g : List Tk) (L : List Nat) (pl now : Nat) : Cn := (elemsN pl).foldl (cntStep g L now) Cn.zero
/-- Whether a task can run at a time. -/
def freeB (g : List Tk) (L : List Nat) (pl i : Nat) (room : List Int) (wk : Int) (now : Nat) : Bool := takesB (cntOf g L pl now) (g.getD i z39).f2 (g.getD i z39).f3 room wk
def freeN (g : List Tk) (L : List Nat) (pl i : Nat) (room : List Int) (wk : Int) : Nat → Nat → Bool
 | 0, _ => true
 | d + 1, now => freeB g L pl i room wk now && freeN g L pl i room wk d (now + 1)
def earlN (g : List Tk) (L : List Nat) (pl i : Nat) (room : List Int) (wk : Int) : Nat → Nat → Nat
 | 0, a => a
 | f + 1, a => if freeN g L pl i room wk (tmN g i) a = true then a else earlN g L pl i room wk f (a + 1)
def earlD (g : List Tk) (L : List Nat) (s pl i : Nat) (room : List Int) (wk : Int) : Nat := earlN g L pl i room wk 400 (needEnd g L s)
theorem eStep_le {g : List Tk} (ht : tm20 g) {L : List Nat} {b : Nat} (hL : leB b L) {a : Nat} (ha : a ≤ b + 20) (k : Nat) : eStep g L a k ≤ b + 20 := by
 have h1 := hL k
 have h2 := ht k
 unfold eStep endN
 omega
theorem efold_le {g : List Tk} (ht : tm20 g) {L : List Nat} {b : Nat} (hL : leB b L) : ∀ (ks : List Nat) (a : Nat), a ≤ b + 20 → ks.foldl (eStep g L) a ≤ b + 20
 | [], _, h => h
 | k :: ks, a, h => efold_le ht hL ks _ (eStep_le ht hL h k)
def eframe (f : Nat → Value) (v2 v3 v4 v5 v6 v7 v13 v15 v16 : Value) : Array Value := #[f 0, f 1, v2, v3, v4, v5, v6, v7, f 8, f 9, f 10, f 11, f 12, v13, f 14, v15, v16, f 17, f 18, f 19, f 20, f 21, f 22, f 23, f 24, f 25, f 26, f 27, f 28, f 29, f 30, f 31, f 32, f 33, f 34, f 35, f 36, f 37, f 38, f 39, f 40, f 41, f 42, f 43, f 44, f 45, f 46, f 47, f 48, f 49, f 50, f 51, f 52, f 53, f 54, f 55, f 56, f 57, f 58, f 59, f 60, f 61, f 62, f 63, f 64, f 65, f 66, f 67, f 68, f 69, f 70, f 71, f 72, f 73, f 74, f 75, f 76, f 77, f 78, f 79, f 80, f 81, f 82, f 83, f 84, f 85, f 86, f 87, f 88, f 89, f 90, f 91, f 92, f 93, f 94, f 95, f 96, f 97, f 98, f 99, f 100, f 101, f 102, f 103, f 104, f 105, f 106, f 107, f 108, f 109]
theorem eframe_lit {T : Array Value} {v2 v3 v4 v5 v6 v7 v13 v15 v16 : Value} (hs : T.size = 110) (h2 : T[2]? = some v2) (h3 : T[3]? = some v3) (h4 : T[4]? = some v4) (h5 : T[5]? = some v5) (h6 : T[6]? = some v6) (h7 : T[7]? = some v7) (h13 : T[13]? = some v13) (h15 : T[15]? = some v15) (h16 : T[16]? = some v16) : ∃ f, T = eframe f v2 v3 v4 v5 v6 v7 v13 v15 v16 := by
 refine ⟨fun j => T.getD j undef, ?_⟩
 have hT0 : T = ((List.range 110).map fun j => T.getD j undef).toArray := by
  apply Array.ext
  ·simp [hs]
  ·intro i h1 h2
   simp [Array.getD_eq_getD_getElem?, h1]
 have e (j : Nat) (v : Value) (h : T[j]? = some v) : v = T.getD j undef := by rw [Array.getD_eq_getD_getElem?, h]; rfl
 obtain rfl := e _ _ h2
 obtain rfl := e _ _ h3
 obtain rfl := e _ _ h4
 obtain rfl := e _ _ h5
 obtain rfl := e _ _ h6
 obtain rfl := e _ _ h7
 obtain rfl := e _ _ h13
 obtain rfl := e _ _ h15
 obtain rfl := e _ _ h16
 exact hT0
/-- What the walk knows of its cells: the graph, the beginnings, the time. -/
structure ES (w : World) (b : Nat) (A : Option Addr) (n c : Nat) (W : World) (t : Int) : Prop where
 x : Boxed W w.heap.size 60 (.pointer (some ⟨b, 0, none⟩))
 st : Boxed W (w.heap.size + 1) 23 (.slice A n c)
 at_ : Boxed W (w.heap.size + 1 + 1) 3 (.int .i64 t)
 below : Below w.heap.size w W
theorem ES.move {w W W' : World} {b n c : Nat} {A : Option Addr} {t : Int} (h : ES w b A n c W t) (hb : Below W.heap.size W W') : ES w b A n c W' t :=
 ⟨(hb.block _ h.x.lt).trans h.x, (hb.block _ h.st.lt).trans h.st, (hb.block _ h.at_.lt).trans h.at_, below_step h.below hb⟩
theorem ES.alloc {w W : World} {b n c : Nat} {A : Option Addr} {t : Int} (h : ES w b A n c W t) (o : Obj) : ES w b A n c (W.alloc o) t := h.move ((Below.refl W.heap.size W).alloc (Nat.le_refl _) o)
theorem ES.tame {w W W' : World} {b n c B : Nat} {A : Option Addr} {t : Int} (h : ES w b A n c W t) (hB : w.heap.size ≤ B) (ht : Tame B W W') : ES w b A n c W' t :=
 ⟨ht.boxed h.x, ht.boxed h.st, ht.boxed h.at_, ht.below h.below (Nat.le_refl _) hB⟩
theorem ES.size {w W : World} {b n c : Nat} {A : Option Addr} {t : Int} (h : ES w b A n c W t) : w.heap.size + 1 + 1 < W.heap.size := h.at_.lt
theorem ES.grow {w W W' : World} {b n c p : Nat} {A : Option Addr} {t : Int} (h : ES w b A n c W t) (hg : W.grownBy W' (some p)) (hp : w.heap.size + 1 + 1 < p) : ES w b A n c W' t :=
 ⟨h.x.kept hg (fun e => by injection e with e; omega), h.st.kept hg (fun e => by injection e with e; omega), h.at_.kept hg (fun e => by injection e with e; omega), below_put hg h.below (Nat.le_refl _) (by omega)⟩
theorem ES.set {w W : World} {b n c : Nat} {A : Option Addr} {t : Int} (h : ES w b A n c W t) (t' : Int) : ES w b A n c (W.setCell ⟨w.heap.size + 1 + 1, 0, none⟩ (.int .i64 t')) t' :=
 ⟨h.x.kept (grownBy_setCell' W (w.heap.size + 1 + 1) (.int .i64 t')) (fun e => by injection e with e; omega), h.st.kept (grownBy_setCell' W (w.heap.size + 1 + 1) (.int .i64 t')) (fun e => by injection e with e; omega), h.at_.set _, below_put (grownBy_setCell' W (w.heap.size + 1 + 1) (.int .i64 t')) h.below (Nat.le_refl _) (by omega)⟩
set_option maxRecDepth 100000 in
set_option maxHeartbeats 4000000 in
theorem earliest_calls (b : Nat) (G : GD) (pl i : Nat) (L : List Nat) (A1 : Option Addr) (c1 : Nat) (A2 : Option Addr) (c2 : Nat) (room : List Int) (wk : Int) (F : Nat) (w : World) (hT : Tab w) (hg : IsG w b G) (ok : GOk G) (htk : ∀ t ∈ G.tasks, taskOk t) (hpool : ∀ t ∈ G.tasks, 0 ≤ t.f2 ∧ t.f2 ≤ 2) (hi : i < G.tasks.length) (hL : L.length = G.tasks.length) (hLb : leB 200 L) (hC1 : Kd.C (Kd.int .i64) w A1 (up L).length (up L)) (h3 : room.length = 3) (hC2 : Kd.C (Kd.int .i64) w A2 room.length room) (hc2 : room.length ≤ c2) (hpl : pl < 2 ^ G.tasks.length) (hF : F ≤ 300) (hfree : freeN G.tasks L pl i room wk (tmN G.tasks i) (needEnd G.tasks L (G.needs.getD i 0) + F) = true) :
  Calls Tryd.prog 67 #[.pointer (some ⟨b, 0, none⟩), .slice A1 L.length c1, .int .u16 (pl : Int), .int .i64 (i : Int), .slice A2 room.length c2, .int .i64 wk] w fun e w' => e = .returned (.int .i64 (earlD G.tasks L (G.needs.getD i 0) pl i room wk : Int)) ∧ Below w.heap.size w w' := by
 have h8 := ok.n8
 have h256 := pow8 h8
 have hNi : G.needs.getD i 0 < 2 ^ G.tasks.length := getD_lt ok.nb i
 have htm20 := tm20_of htk
 have hres : earlD G.tasks L (G.needs.getD i 0) pl i room wk = earlN G.tasks L pl i room wk 400 ((elemsN (G.needs.getD i 0)).foldl (eStep G.tasks L) 0) := rfl
 have hfree' : freeN G.tasks L pl i room wk (tmN G.tasks i) ((elemsN (G.needs.getD i 0)).foldl (eStep G.tasks L) 0 + F) = true := hfree
 clear hfree
 generalize earlD G.tasks L (G.needs.getD i 0) pl i room wk = RES at hres ⊢
 generalize hs_ : G.needs.getD i 0 = s at hNi hres hfree'
 obtain ⟨xi, hxi⟩ : ∃ x : Int, x = (i : Int) := ⟨_, rfl⟩
 rw [← hxi]
 have hs8 : s < 256 := Nat.lt_of_lt_of_le hNi h256
 obtain ⟨An, cn, hcn0, hcl0, hCn0⟩ := hg.needs
 have p0 : 0 ≤ xi := by omega
 have q0 : xi < (G.needs.length : Int) := by have := ok.nl; omega
 obtain ⟨adn, e0, hxn0⟩ := Kd.at_int hCn0 xi p0 q0
 subst e0
 rw [rd_up (i := i) hxi, hs_] at hxn0
 obtain ⟨W3, hW3⟩ : ∃ W3, W3 = ((w.alloc (.cells #[.pointer (some ⟨b, 0, none⟩)] 60)).alloc (.cells #[.slice A1 L.length c1] 23)).alloc (.cells #[.int .i64 0] 3) := ⟨_, rfl⟩
 have HE : ES w b A1 L.length c1 W3 0 := by
  have o1 : (w.alloc (.cells #[.pointer (some ⟨b, 0, none⟩)] 60)).heap.size = w.heap.size + 1 := by simp
  have o2 : ((w.alloc (.cells #[.pointer (some ⟨b, 0, none⟩)] 60)).alloc (.cells #[.slice A1 L.length c1] 23)).heap.size = w.heap.size + 1 + 1 := by simp
  have B1 := (Below.refl w.heap.size w).alloc (Nat.le_refl _) (.cells #[.pointer (some ⟨b, 0, none⟩)] 60)
  have x1 := Boxed.new w 60 (.pointer (some ⟨b, 0, none⟩))
  have s1 := Boxed.new (w.alloc (.cells #[.pointer (some ⟨b, 0, none⟩)] 60)) 23 (.slice A1 L.length c1)
  rw [o1] at s1
  have a1 := Boxed.new ((w.alloc (.cells #[.pointer (some ⟨b, 0, none⟩)] 60)).alloc (.cells #[.slice A1 L.length c1] 23)) 3 (.int .i64 0)
  rw [o2] at a1
  rw [hW3]
  exact ⟨(x1.alloc _).alloc _, s1.alloc _, a1, (B1.alloc (by omega) _).alloc (by omega) _⟩
 have o3 : W3.heap.size = w.heap.size + 1 + 1 + 1 := by rw [hW3]; simp
 have hcx := HE.x.cell
 have hcn := (HE.below.cell (World.block_lt_of_cell? _ _ hcn0)).trans hcn0
 have hxn := (HE.below.cell (World.block_lt_of_cell? _ _ hxn0)).trans hxn0
 rw [hW3] at hcx hcn hxn
 have hC1w := hC1
 have HG := Aside0.mk hg
 have HT := Aside0.mk hT
 have OK := Aside0.mk ok
 have HTK := Aside0.mk htk
 have HPO := Aside0.mk hpool
 have HC1 := Aside0.mk hC1
 have HC2 := Aside0.mk hC2
 have HLB := Aside0.mk hLb
 have HEE := Aside0.mk HE
 have HW := Aside0.mk hW3
 have HX := Aside0.mk hxi
 have O3 := Aside0.mk o3
 have HRES := Aside0.mk hres
 have HFR := Aside0.mk hfree'
 have HS := Aside0.mk hs_
 have HLL := Aside0.mk hL
 have H3 := Aside0.mk h3
 replace p0 := eq_true p0
 replace q0 := eq_true q0
 clear o3 hL h3 hg hT ok htk hpool hC1 hC2 hLb HE hW3 hxi hres hfree' hs_ hC1w hcn0 hxn0 hcl0 hCn0
 refine calls_marks Tryd.func67 rfl ?_
 simp only [Tryd.ntmps67, List.size_toArray, List.length_cons, List.length_nil, Nat.reduceAdd, Nat.reduceSub, Array.replicate_succ, Array.replicate_zero, List.push_toArray, List.append_toArray, List.nil_append, List.cons_append]
 go_wp2_with (go_at_call 66; refine (all_calls s _).mono ?_; rintro e w' ⟨rfl, rfl⟩)
 rw [← HW.out]
 clear hcx hcn hxn p0 q0
 have s4 := Boxed.new W3 77 (.int .u16 (s : Int))
 rw [O3.out] at s4
 have E4 := HEE.out.alloc (.cells #[.int .u16 (s : Int)] 77)
 have o4 : (W3.alloc (.cells #[.int .u16 (s : Int)] 77)).heap.size = W3.heap.size + 1 := by simp
 clear HW
 revert s4 E4 o4
 generalize W3.alloc (.cells #[.int .u16 (s : Int)] 77) = W4
 intro s4 E4 o4
 have hle4 : w.heap.size ≤ W4.heap.size := E4.below.size
 refine wp_rangeSet Tab.tame (w := W4) (w0 := W4) (p := 27) (d := 14) rfl (enters_of Tryd.func77 (by kernel_rfl) rfl)
  (all_seq (w.heap.size + 1 + 1 + 1) s hs8 W4 (HT.out.of E4.below) s4.cell) (Below.refl _ _) (by simp)
  (fun ys W' => ∃ zs : List Nat, (∀ z ∈ zs, z < G.tasks.length) ∧ ys = up zs ∧ ES w b A1 L.length c1 W' ((zs.foldl (eStep G.tasks L) 0 : Nat) : Int) ∧ W4.heap.size ≤ W'.heap.size) (fun _ _ _ => False)
  (ownFrom_tame (fun ys W' W'' ht ⟨zs, z, a, e, f⟩ => ⟨zs, z, a, e.tame hle4 ht, Nat.le_trans f ht.size⟩)) (fun _ => ownFrom_tame (fun _ _ _ _ h => h))
  ⟨[], by simp, rfl, E4, Nat.le_refl _⟩ (fun ys W' ⟨_, _, _, e, _⟩ => HT.out.of e.below) ?body ?done (fun _ _ _ _ _ h _ => h.elim)
 case body =>
  rintro l pre1 x W1 hx ⟨zs, hzl, rfl, E1, hsz⟩ hlt1
  gi_wp2
  obtain ⟨k0, hxk, hk8, _⟩ := mem_elems.1 hx
  have hkn : k0 < G.tasks.length := by have := elems_lt hNi hx; omega
  have hle := efold_le htm20 HLB.out zs 0 (by omega)
  have hsl := HLB.out k0
  have htm := tm_int HTK.out hkn
  have hstep : (zs ++ [k0]).foldl (eStep G.tasks L) 0 = max (zs.foldl (eStep G.tasks L) 0) (L.getD k0 0 + tmN G.tasks k0) := by rw [List.foldl_append]; rfl
  refine wpIn_still_tail 15 rfl (by kernel_rfl) (by kernel_rfl) (fun ⟨_, _, h⟩ => h) ?_
  change wpStill _ _ W1.drew (fun a' => wpList _ _ _ _ a' W1.drew) _ _
  have hdr : Below W1.heap.size W1 W1.drew := below_drew (Below.refl _ _)
  have hko := KeepsOthers.drew W1
  revert hdr hko
  generalize W1.drew = Wd
  intro hdr hko
  have E2 := E1.move hdr
  have hca := E2.at_.cell
  have hfa := E2.at_.frozen
  have hcs := E2.st.cell
  have hcx := E2.x.cell
  obtain ⟨A, c, hc0, hcl, hC⟩ := (HG.out.move E2.below).tasks
  have p0 : 0 ≤ x := by omega
  have q0 : x < (G.tasks.length : Int) := by omega
  obtain ⟨ad, At, ct, e0, h0, h1, h2, h3_, h4, h5⟩ := at_T39 hC x p0 q0
  subst e0
  have hrd : rd_T39 G.tasks x = G.tasks.getD k0 z39 := by rw [hxk]; simp [rd_T39]
  rw [hrd, htm.1] at h0
  have q1 : x < (L.length : Int) := by have := HLL.out; omega
  obtain ⟨ads, e1, hxs⟩ := Kd.at_int (Kd.C_below HC1.out E2.below) x p0 (by rw [up_length]; omega)
  subst e1
  rw [rd_up (i := k0) hxk] at hxs
  have hmx : (if ((zs.foldl (eStep G.tasks L) 0 : Nat) : Int) < IntKind.i64.wrap (((L.getD k0 0 : Nat) : Int) + ((tmN G.tasks k0 : Nat) : Int)) then IntKind.i64.wrap (((L.getD k0 0 : Nat) : Int) + ((tmN G.tasks k0 : Nat) : Int)) else ((zs.foldl (eStep G.tasks L) 0 : Nat) : Int)) = (((zs ++ [k0]).foldl (eStep G.tasks L) 0 : Nat) : Int) := by
   rw [hstep, (wadd (a := L.getD k0 0) (b := tmN G.tasks k0) (by omega) (by omega)).2]
   exact wmax _ _
  generalize hr_ : (zs ++ [k0]).foldl (eStep G.tasks L) 0 = r at hmx hstep
  generalize hrI : ((r : Nat) : Int) = rI at hmx
  generalize ((zs.foldl (eStep G.tasks L) 0 : Nat) : Int) = aI at hca hmx
  generalize ((L.getD k0 0 : Nat) : Int) = sI at hxs hmx
  generalize ((tmN G.tasks k0 : Nat) : Int) = tI at h0 hmx
  replace p0 := eq_true p0
  replace q0 := eq_true q0
  replace q1 := eq_true q1
  have HMX := Aside0.mk hmx
  have HXK := Aside0.mk (show x = (k0 : Int) ∧ ((r : Nat) : Int) = rI ∧ (zs ++ [k0]).foldl (eStep G.tasks L) 0 = r ∧ k0 < G.tasks.length from ⟨hxk, hrI, hr_, hkn⟩)
  have HST := Aside0.mk hstep
  clear hmx hxk hrI hr_ hstep hle hsl htm hx hkn h1 h2 h3_ h4 h5 hC hcl hrd hlt1
  simp only [List.take_succ_cons, List.take_zero, List.drop_succ_cons, List.drop_zero]
  repeat still_step
  rw [HMX.out]
  refine wpStill_nil ?_
  go_wp2
  obtain ⟨hxk, hrI, hr_, hkn⟩ := HXK.out
  refine ⟨(hko.trans (KeepsOthers.setCell _ _ _)).from _, zs ++ [k0], ?_, ?_, ?_, ?_⟩
  ·intro z hz
   rcases List.mem_append.1 hz with hz | hz
   ·exact hzl z hz
   ·rw [List.mem_singleton.1 hz]; exact hkn
  ·rw [hxk]; simp [up]
  ·rw [hr_, hrI]; exact E2.set rI
  ·exact Nat.le_trans hsz (Nat.le_trans hdr.size (KeepsOthers.setCell _ _ _).size)
 case done =>
  rintro D W2 hD ⟨zs, hzl, hzs, E5, hsz⟩ hk
  obtain rfl : elemsN s = zs := up_inj hzs
  have hm := (Marks.nil w.heap.size W4.heap.size W2).cons hD hle4 hk
  have ha0 := efold_le htm20 HLB.out (elemsN s) 0 (by omega)
  clear hzs hk hzl
  generalize (elemsN s).foldl (eStep G.tasks L) 0 = a0 at E5 HRES HFR ha0
  have ht1 := tm_int HTK.out hi
  generalize htT : tmN G.tasks i = T at HFR ht1
  have HTT := Aside0.mk htT
  have HT1 := Aside0.mk ht1
  clear htT ht1 s4 E4 o4 hD
  go_wp2
  refine wp_loop_ghost_k (fun n a W => ∃ (t f : Nat) (v15 v16 : Value), n ≤ f ∧ t + n ≤ 520 ∧ RES = earlN G.tasks L pl i room wk f t ∧ freeN G.tasks L pl i room wk T (t + n) = true ∧ a.tmps.size = 110 ∧ a.tmps[2]? = some (.int .u16 (pl : Int)) ∧ a.tmps[3]? = some (.int .i64 xi) ∧ a.tmps[4]? = some (.slice A2 room.length c2) ∧ a.tmps[5]? = some (.int .i64 wk) ∧ a.tmps[6]? = some (.pointer (some ⟨w.heap.size, 0, none⟩)) ∧ a.tmps[7]? = some (.pointer (some ⟨w.heap.size + 1, 0, none⟩)) ∧ a.tmps[13]? = some (.pointer (some ⟨w.heap.size + 1 + 1, 0, none⟩)) ∧ a.tmps[15]? = some v15 ∧ a.tmps[16]? = some v16 ∧ (∃ hi, Marks w.heap.size hi W a.defers ∧ w.heap.size ≤ hi ∧ hi ≤ W.heap.size) ∧ ES w b A1 L.length c1 W (t : Int)) F
   ⟨a0, 400, _, _, by omega, by omega, HRES.out, HFR.out, rfl, rfl, rfl, rfl, rfl, rfl, rfl, rfl, rfl, rfl, ⟨_, hm, E5.below.size, Nat.le_refl _⟩, E5⟩ ?_
  clear hm E5 hsz HRES HFR ha0
  rintro n ⟨tmps, ds⟩ W ⟨t, f, v15, v16, hnf, htn, hR, hfr, hsz, h2, h3, h4, h5, h6, h7, h13, h15, h16, ⟨hi1, hM, hlo, hhi⟩, hE⟩ J K hJ hK
  obtain ⟨fr, rfl⟩ := eframe_lit hsz h2 h3 h4 h5 h6 h7 h13 h15 h16
  clear hsz h2 h3 h4 h5 h6 h7 h13 h15 h16
  unfold eframe
  generalize hti : ((t : Nat) : Int) = tI at hE
  have hca := hE.at_.cell
  have HE := Aside0.mk hE
  have HM := Aside0.mk hM
  have HTI := Aside0.mk hti
  have HR := Aside0.mk hR
  have HFR := Aside0.mk hfr
  clear hE hM hti hR hfr
  go_wp2
  have nb := Boxed.new W 3 (.int .i64 tI)
  have EA := HE.out.alloc (.cells #[.int .i64 tI] 3)
  have MA := HM.out.below ((Below.refl W.heap.size W).alloc (Nat.le_refl _) (.cells #[.int .i64 tI] 3))
  have oA : (W.alloc (.cells #[.int .i64 tI] 3)).heap.size = W.heap.size + 1 := by simp
  have hWs := HE.out.size
  clear hca
  revert nb EA MA oA
  generalize W.alloc (.cells #[.int .i64 tI] 3) = Wa
  intro nb EA MA oA
  rw [← HTI.out] at nb
  refine wp_loop_ghost_k (fun d a W' => ∃ (now pn : Nat) (go : Bool), (go = true → now + d = t + T ∧ freeN G.tasks L pl i room wk T t = freeN G.tasks L pl i room wk d now) ∧ (go = false → freeN G.tasks L pl i room wk T t = false) ∧ now ≤ 560 ∧ w.heap.size + 1 + 1 < pn ∧ Boxed W' pn 3 (.int .i64 (now : Int)) ∧ a.tmps.size = 110 ∧ a.tmps[2]? = some (.int .u16 (pl : Int)) ∧ a.tmps[3]? = some (.int .i64 xi) ∧ a.tmps[4]? = some (.slice A2 room.length c2) ∧ a.tmps[5]? = some (.int .i64 wk) ∧ a.tmps[6]? = some (.pointer (some ⟨w.heap.size, 0, none⟩)) ∧ a.tmps[7]? = some (.pointer (some ⟨w.heap.size + 1, 0, none⟩)) ∧ a.tmps[13]? = some (.pointer (some ⟨w.heap.size + 1 + 1, 0, none⟩)) ∧ a.tmps[15]? = some (.bool go) ∧ a.tmps[16]? = some (.pointer (some ⟨pn, 0, none⟩)) ∧ (∃ hi, Marks w.heap.size hi W' a.defers ∧ w.heap.size ≤ hi ∧ hi ≤ W'.heap.size) ∧ ES w b A1 L.length c1 W' tI) T
   ⟨t, W.heap.size, true, (fun _ => ⟨rfl, rfl⟩), (fun e => by cases e), by omega, hWs, nb, rfl, rfl, rfl, rfl, rfl, rfl, rfl, rfl, rfl, rfl, ⟨hi1, MA, hlo, by omega⟩, EA⟩ ?_
  clear nb EA MA oA HM HE hWs hhi hlo
  rintro d ⟨tmps, ds⟩ W' ⟨now, pn, go, hgo, hng, hnow, hpn, hnb, hsz, h2, h3, h4, h5, h6, h7, h13, h15, h16, ⟨hi2, hM, hlo, hhi⟩, hE⟩ J2 K2 hJ2 hK2
  obtain ⟨fr2, rfl⟩ := eframe_lit hsz h2 h3 h4 h5 h6 h7 h13 h15 h16
  clear hsz h2 h3 h4 h5 h6 h7 h13 h15 h16
  unfold eframe
  have HE := Aside0.mk hE
  have HM := Aside0.mk hM
  have HNB := Aside0.mk hnb
  have HGO := Aside0.mk hgo
  have HNG := Aside0.mk hng
  clear hE hM hnb hgo hng
  go_wp2
  refine wp_region_still_tail 14 rfl (by kernel_rfl) ?_
  change wpStill _ _ W'.drew (fun a' => wpList _ _ _ _ a' W'.drew) _ _
  have hdr : Below W'.heap.size W' W'.drew := below_drew (Below.refl _ _)
  revert hdr
  generalize W'.drew = Wd
  intro hdr
  have E2 := Aside0.mk (HE.out.move hdr)
  have M2 := Aside0.mk (HM.out.below hdr)
  have N2 := Aside0.mk (show Boxed Wd pn 3 (.int .i64 (now : Int)) from (hdr.block _ HNB.out.lt).trans HNB.out)
  clear HE HM HNB
  by_cases hgo2 : go = false
  ·have hgf : (some go == some true) = false := by rw [hgo2]; rfl
   have HG2 := Aside0.mk hgo2
   have HF1 := Aside0.mk (HNG.out hgo2)
   clear hgo2 HNG HGO
   simp only [List.take_succ_cons, List.take_zero, List.drop_succ_cons, List.drop_zero]
   still_step
   still_step
   repeat (refine wpStill_skip hgf ?_; simp only [Act.put, List.setIfInBounds_toArray, List.set_cons_zero, List.set_cons_succ])
   refine wpStill_nil ?_
   obtain rfl := HG2.out
   have hca := E2.out.at_.cell
   have hfa := E2.out.at_.frozen
   go_wp2
   have hf1 := HF1.out
   have hfr := HFR.out
   have hRr := HR.out
   cases n with
   | zero => rw [Nat.add_zero, hf1] at hfr; cases hfr
   | succ m =>
    obtain ⟨f', rfl⟩ : ∃ f', f = f' + 1 := ⟨f - 1, by omega⟩
    have hstep : RES = earlN G.tasks L pl i room wk f' (t + 1) := by
     rw [hRr]
     show (if freeN G.tasks L pl i room wk (tmN G.tasks i) t = true then t else earlN G.tasks L pl i room wk f' (t + 1)) = _
     rw [HTT.out, hf1, if_neg Bool.false_ne_true]
    have hw : wrap64 (tI + 1) = ((t + 1 : Nat) : Int) := by rw [← HTI.out, w64 (by omega) (by omega)]; omega
    rw [hw]
    have hgr := grownBy_setCell' Wd (w.heap.size + 1 + 1) (.int .i64 ((t + 1 : Nat) : Int))
    refine ⟨m, by omega, hJ _ _ _ ⟨t + 1, f', _, _, by omega, by omega, hstep, by rw [show t + 1 + m = t + (m + 1) by omega]; exact hfr, rfl, rfl, rfl, rfl, rfl, rfl, rfl, rfl, rfl, rfl, ⟨hi2, M2.out.grow hgr (fun k hk => ⟨_, _, by cases hk; exact E2.out.at_⟩), hlo, ?_⟩, E2.out.set _⟩⟩
    exact Nat.le_trans hhi (Nat.le_trans hdr.size hgr.size)
  ·have hgt : go = true := by
    cases go
    ·exact absurd rfl hgo2
    ·rfl
   have hgw : (some go == some true) = true := by rw [hgt]; rfl
   obtain ⟨hnd, hfq⟩ := HGO.out hgt
   have HG2 := Aside0.mk hgt
   have hcn := N2.out.cell
   have hca := E2.out.at_.cell
   have hcx := E2.out.x.cell
   obtain ⟨A, c, hc0, hcl, hC⟩ := (HG.out.move E2.out.below).tasks
   have hxi := HX.out
   have p0 : 0 ≤ xi := by omega
   have q0 : xi < (G.tasks.length : Int) := by omega
   obtain ⟨ad, At, ct, e0, h0, h1, h2, h3_, h4, h5⟩ := at_T39 hC xi p0 q0
   subst e0
   have hrd : rd_T39 G.tasks xi = G.tasks.getD i z39 := by rw [hxi]; simp [rd_T39]
   rw [hrd, HT1.out.1] at h0
   have hadd := (wadd (a := t) (b := T) (by omega) (by have := HT1.out.2.2; omega)).2
   rw [HTI.out] at hadd
   have hdd : decide (((now : Nat) : Int) < ((t + T : Nat) : Int)) = decide (d ≠ 0) := by rw [Bool.eq_iff_iff, decide_eq_true_eq, decide_eq_true_eq]; omega
   generalize ((T : Nat) : Int) = TI at h0 hadd
   generalize ((t + T : Nat) : Int) = sI at hadd hdd
   generalize hnI : ((now : Nat) : Int) = nI at hcn hdd
   obtain ⟨bd, hbd⟩ : ∃ bd, decide (d ≠ 0) = bd := ⟨_, rfl⟩
   rw [hbd] at hdd
   have HBD := Aside0.mk hbd
   have HNI := Aside0.mk hnI
   have HND := Aside0.mk hnd
   have HFQ := Aside0.mk hfq
   replace p0 := eq_true p0
   replace q0 := eq_true q0
   clear hgo2 hgt hxi hC hcl hrd h1 h2 h3_ h4 h5 hbd hnI hnd hfq
   simp only [List.take_succ_cons, List.take_zero, List.drop_succ_cons, List.drop_zero]
   still_step
   still_step
   repeat (refine wpStill_want hgw (fun K hK => ?_); go_simp; refine hK _ ?_; clear hK K)
   refine wpStill_nil ?_
   obtain rfl := HG2.out
   clear hgw
   cases bd with
   | false =>
    have hd0 : d = 0 := by have := of_decide_eq_false HBD.out; omega
    go_wp2
    refine leave_ret M2.out (fun W => results_tmp rfl _ _ _) ?_
    intro W'' ht
    refine ⟨?_, ht.below E2.out.below (Nat.le_refl _) (Nat.le_refl _)⟩
    have hfq := HFQ.out
    rw [hd0] at hfq
    have hft : freeN G.tasks L pl i room wk T t = true := hfq
    have hRr := HR.out
    have : RES = t := by
     rw [hRr]
     cases f with
     | zero => rfl
     | succ f =>
      show (if freeN G.tasks L pl i room wk (tmN G.tasks i) t = true then t else earlN G.tasks L pl i room wk f (t + 1)) = _
      rw [HTT.out, hft, if_pos rfl]
    rw [this, HTI.out]
    rfl
   | true =>
    obtain ⟨d', rfl⟩ : ∃ d', d = d' + 1 := ⟨d - 1, by have := of_decide_eq_true HBD.out; omega⟩
    clear HBD HGO HNG
    go_wp2_with (go_at_call 66; refine (all_calls pl _).mono ?_; rintro e w' ⟨rfl, rfl⟩)
    clear hcn hca hcx hc0 h0 hadd hdd p0 q0
    have hpnl := N2.out.lt
    have EB := E2.out.alloc (.cells #[.int .i64 0, .int .i64 0, .int .i64 0, .int .i64 0] 105)
    have MB := M2.out.below ((Below.refl Wd.heap.size Wd).alloc (Nat.le_refl _) (.cells #[.int .i64 0, .int .i64 0, .int .i64 0, .int .i64 0] 105))
    have NB := N2.out.alloc (.cells #[.int .i64 0, .int .i64 0, .int .i64 0, .int .i64 0] 105)
    have CB : IsCn (Wd.alloc (.cells #[.int .i64 0, .int .i64 0, .int .i64 0, .int .i64 0] 105)) Wd.heap.size Cn.zero := cells_new Wd _
    have oB : (Wd.alloc (.cells #[.int .i64 0, .int .i64 0, .int .i64 0, .int .i64 0] 105)).heap.size = Wd.heap.size + 1 := by simp
    have hhd := hdr.size
    clear E2 M2 N2
    revert EB MB NB CB oB
    generalize Wd.alloc (.cells #[.int .i64 0, .int .i64 0, .int .i64 0, .int .i64 0] 105) = WB
    intro EB MB NB CB oB
    have sC := Boxed.new WB 77 (.int .u16 (pl : Int))
    rw [oB] at sC
    have EC := EB.alloc (.cells #[.int .u16 (pl : Int)] 77)
    have MC := MB.below ((Below.refl WB.heap.size WB).alloc (Nat.le_refl _) (.cells #[.int .u16 (pl : Int)] 77))
    have NC := NB.alloc (.cells #[.int .u16 (pl : Int)] 77)
    have CC : IsCn (WB.alloc (.cells #[.int .u16 (pl : Int)] 77)) Wd.heap.size Cn.zero := cells_alloc CB _
    have oC : (WB.alloc (.cells #[.int .u16 (pl : Int)] 77)).heap.size = Wd.heap.size + 1 + 1 := by simp [oB]
    clear EB MB NB CB oB
    revert sC EC MC NC CC oC
    generalize WB.alloc (.cells #[.int .u16 (pl : Int)] 77) = WC
    intro sC EC MC NC CC oC
    obtain ⟨pc, hpc⟩ : ∃ pc, pc = Wd.heap.size := ⟨_, rfl⟩
    rw [← hpc] at sC CC oC ⊢
    have hpcn : pn < pc ∧ w.heap.size + 1 + 1 < pc := ⟨by omega, by have := EC.size; omega⟩
    have hb1 : w.heap.size ≤ WC.heap.size := EC.below.size
    have hb2 : hi2 ≤ WC.heap.size := by omega
    have hb3 : hi2 ≤ pc := by omega
    have HPC := Aside0.mk hpc
    clear hpc
    refine wp_rangeSet Tab.tame (w := WC) (w0 := WC) (p := 65) (d := 18) rfl (enters_of Tryd.func77 (by kernel_rfl) rfl)
     (all_seq (pc + 1) pl (Nat.lt_of_lt_of_le hpl h256) WC (HT.out.of EC.below) sC.cell) (Below.refl _ _) (by simp)
     (fun ys W'' => ∃ zs : List Nat, ys = up zs ∧ IsCn W'' pc (zs.foldl (cntStep G.tasks L now) Cn.zero) ∧ Boxed W'' pn 3 (.int .i64 (now : Int)) ∧ Marks w.heap.size hi2 W'' ds ∧ ES w b A1 L.length c1 W'' tI ∧ WC.heap.size ≤ W''.heap.size) (fun _ _ _ => False)
     (ownFrom_tame (fun ys W1 W2 ht ⟨zs, z, a, e, m, g, f⟩ => ⟨zs, z, a.tame ht, ht.boxed e, m.tame ht hb2, g.tame hb1 ht, Nat.le_trans f ht.size⟩)) (fun _ => ownFrom_tame (fun _ _ _ _ h => h))
     ⟨[], rfl, CC, NC, MC, EC, Nat.le_refl _⟩ (fun ys W'' ⟨_, _, _, _, _, e, _⟩ => HT.out.of e.below) ?body2 ?done2 (fun _ _ _ _ _ h _ => h.elim)
    case body2 =>
     rintro l pre1 x W1 hx ⟨zs, rfl, C1, N1, M1, E1, hsz1⟩ hlt1
     gi_wp2
     obtain ⟨k0, hxk, hk8, _⟩ := mem_elems.1 hx
     have hkn : k0 < G.tasks.length := by have := elems_lt hpl hx; omega
     have hstep : (zs ++ [k0]).foldl (cntStep G.tasks L now) Cn.zero = cntStep G.tasks L now (zs.foldl (cntStep G.tasks L now) Cn.zero) k0 := by rw [List.foldl_append]; rfl
     generalize zs.foldl (cntStep G.tasks L now) Cn.zero = cc at C1 hstep
     refine wpIn_still_tail 22 rfl (by kernel_rfl) (by kernel_rfl) (fun ⟨_, _, h⟩ => h) ?_
     change wpStill _ _ W1.drew (fun a' => wpList _ _ _ _ a' W1.drew) _ _
     have hdr2 : Below W1.heap.size W1 W1.drew := below_drew (Below.refl _ _)
     have hko := KeepsOthers.drew W1
     revert hdr2 hko
     generalize W1.drew = W3_
     intro hdr2 hko
     have E3 := E1.move hdr2
     have N3 : Boxed W3_ pn 3 (.int .i64 (now : Int)) := (hdr2.block _ N1.lt).trans N1
     have C3 := C1.move hdr2
     have M3 := M1.below hdr2
     have hsz3 := Nat.le_trans hsz1 hdr2.size
     have hcs := E3.st.cell
     have hcx := E3.x.cell
     have hcn := N3.cell
     obtain ⟨A, c, hc0, hcl, hC⟩ := (HG.out.move E3.below).tasks
     have p0 : 0 ≤ x := by omega
     have q0 : x < (G.tasks.length : Int) := by omega
     obtain ⟨ad, At, ct, e0, h0, h1, h2, h3_, h4, h5⟩ := at_T39 hC x p0 q0
     subst e0
     have hrd : rd_T39 G.tasks x = G.tasks.getD k0 z39 := by rw [hxk]; simp [rd_T39]
     rw [hrd] at h0 h1 h2 h3_ h4 h5
     have htm := tm_int HTK.out hkn
     have hpo := HPO.out _ (show G.tasks.getD k0 z39 ∈ G.tasks by rw [List.getD_eq_getElem?_getD, List.getElem?_eq_getElem hkn]; exact List.getElem_mem hkn)
     have q1 : x < (L.length : Int) := by have := HLL.out; omega
     obtain ⟨ads, e1, hxs⟩ := Kd.at_int (Kd.C_below HC1.out E3.below) x p0 (by rw [up_length]; omega)
     subst e1
     rw [rd_up (i := k0) hxk] at hxs
     have hsl := HLB.out k0
     have hadd := (wadd (a := L.getD k0 0) (b := tmN G.tasks k0) (by omega) (by omega)).2
     have hcs0 : cstep G.tasks cc k0 = cc.add (G.tasks.getD k0 z39).f2 (G.tasks.getD k0 z39).f3 1 := rfl
     have hrun : runsAt G.tasks L now k0 = (decide (((L.getD k0 0 : Nat) : Int) ≤ ((now : Nat) : Int)) && decide (((now : Nat) : Int) < ((L.getD k0 0 + tmN G.tasks k0 : Nat) : Int))) := by
      unfold runsAt endN
      congr 1
      ·rw [Bool.eq_iff_iff, decide_eq_true_eq, decide_eq_true_eq]; omega
      ·rw [Bool.eq_iff_iff, decide_eq_true_eq, decide_eq_true_eq]; omega
     have hf0 := htm.1
     generalize G.tasks.getD k0 z39 = tk at h0 h1 h2 h3_ h4 h5 hpo hcs0 hf0
     rw [hf0] at h0
     generalize ((L.getD k0 0 + tmN G.tasks k0 : Nat) : Int) = eI at hadd hrun
     generalize ((L.getD k0 0 : Nat) : Int) = sI at hxs hadd hrun
     generalize ((tmN G.tasks k0 : Nat) : Int) = TI at h0 hadd hf0
     generalize hnI : ((now : Nat) : Int) = nI at hcn hrun
     obtain ⟨q, hq⟩ : ∃ q, decide (sI ≤ nI) = q := ⟨_, rfl⟩
     obtain ⟨b2, hb2_⟩ : ∃ b2, decide (nI < eI) = b2 := ⟨_, rfl⟩
     rw [hq, hb2_] at hrun
     have HXK := Aside0.mk hxk
     have HST := Aside0.mk hstep
     have HRUN := Aside0.mk hrun
     have HCS := Aside0.mk hcs0
     have HPP := Aside0.mk hpo
     have HF0 := Aside0.mk hf0
     have HE3 := Aside0.mk E3
     have HN3 := Aside0.mk N3
     have HC3 := Aside0.mk C3
     have HM3 := Aside0.mk M3
     have HKO := Aside0.mk hko
     replace p0 := eq_true p0
     replace q0 := eq_true q0
     replace q1 := eq_true q1
     clear hxk hx hkn hstep hrun hcs0 hpo hf0 E3 N3 C3 M3 hko E1 N1 C1 M1 hsl htm hrd hC hcl hlt1 hnI sC EC MC NC CC oC
     simp only [List.take_succ_cons, List.take_zero, List.drop_succ_cons, List.drop_zero]
     by_cases hq0 : q = false
     ·have hqf : (some q == some true) = false := by rw [hq0]; rfl
      have HQ := Aside0.mk hq0
      clear hq0
      iterate 7 still_step
      repeat (refine wpStill_skip hqf ?_; simp only [Act.put, List.setIfInBounds_toArray, List.set_cons_zero, List.set_cons_succ])
      refine wpStill_nil ?_
      obtain rfl := HQ.out
      clear hqf
      go_wp2
      gi_wp2
      refine ⟨HKO.out.from _, zs ++ [k0], ?_, ?_, HN3.out, HM3.out, HE3.out, hsz3⟩
      ·rw [HXK.out]; simp [up]
      ·rw [HST.out]
       unfold cntStep
       rw [HRUN.out, Bool.false_and, if_neg Bool.false_ne_true]
       exact HC3.out
     ·have hqt : q = true := by
       cases q
       ·exact absurd rfl hq0
       ·rfl
      have hqw : (some q == some true) = true := by rw [hqt]; rfl
      have HQ := Aside0.mk hqt
      clear hq0 hqt
      iterate 7 still_step
      repeat (refine wpStill_want hqw (fun K hK => ?_); go_simp; refine hK _ ?_; clear hK K)
      refine wpStill_nil ?_
      obtain rfl := HQ.out
      clear hqw
      cases b2 with
      | false =>
       go_wp2
       gi_wp2
       refine ⟨HKO.out.from _, zs ++ [k0], ?_, ?_, HN3.out, HM3.out, HE3.out, hsz3⟩
       ·rw [HXK.out]; simp [up]
       ·rw [HST.out]
        unfold cntStep
        rw [HRUN.out, Bool.and_false, if_neg Bool.false_ne_true]
        exact HC3.out
      | true =>
       go_wp2
       gi_wp2
       refine CallsIn.inRound _ (callsIn_wide.2 ?_)
       have hp012 : tk.f2 = 0 ∨ tk.f2 = 1 ∨ tk.f2 = 2 := by have := HPP.out; omega
       have hadd2 := add_calls pc cc tk.f0 tk.f2 tk.f3 1 At tk.f1.length ct W3_ HC3.out hp012
       rw [HF0.out] at hadd2
       refine hadd2.mono ?_
       rintro e w'' ⟨rfl, hgr, hcn'⟩
       clear hadd2
       gi_wp2
       refine ⟨(HKO.out.trans (KeepsOthers.of_grownBy hgr (fun j o e hj => by injection e with e; subst e; rw [show W3_.heap[pc]? = _ from HC3.out] at hj; cases hj; rfl))).from _, zs ++ [k0], ?_, ?_, ?_, ?_, ?_, ?_⟩
       ·rw [HXK.out]; simp [up]
       ·rw [HST.out]
        unfold cntStep
        rw [HRUN.out, Bool.and_self, if_pos rfl, HCS.out]
        exact hcn'
       ·exact HN3.out.kept hgr (fun e => by injection e with e; omega)
       ·exact HM3.out.grow hgr (fun k hk => ⟨_, _, by cases hk; exact HC3.out⟩)
       ·exact HE3.out.grow hgr hpcn.2
       ·exact Nat.le_trans hsz3 hgr.size
    case done2 =>
     rintro D2 W2 hD2 ⟨zs, hzs, C1, N1, M1, E1, hsz1⟩ hk2
     obtain rfl : elemsN pl = zs := up_inj hzs
     have M4 := M1.cons (Nat.le_trans hb2 hD2) hlo hk2
     clear hzs hk2 M1 sC EC MC NC CC oC
     have hcc : (elemsN pl).foldl (cntStep G.tasks L now) Cn.zero = cntOf G.tasks L pl now := rfl
     rw [hcc] at C1
     have hcx := E1.x.cell
     obtain ⟨A, c, hc0, hcl, hC⟩ := (HG.out.move E1.below).tasks
     have hxi := HX.out
     have p0 : 0 ≤ xi := by omega
     have q0 : xi < (G.tasks.length : Int) := by omega
     obtain ⟨ad, At, ct, e0, h0, h1, h2, h3_, h4, h5⟩ := at_T39 hC xi p0 q0
     subst e0
     have hrd : rd_T39 G.tasks xi = G.tasks.getD i z39 := by rw [hxi]; simp [rd_T39]
     rw [hrd] at h0 h1 h2 h3_ h4 h5
     have hpo := HPO.out _ (show G.tasks.getD i z39 ∈ G.tasks by rw [List.getD_eq_getElem?_getD, List.getElem?_eq_getElem hi]; exact List.getElem_mem hi)
     have hfb : freeB G.tasks L pl i room wk now = takesB (cntOf G.tasks L pl now) (G.tasks.getD i z39).f2 (G.tasks.getD i z39).f3 room wk := rfl
     generalize G.tasks.getD i z39 = tk at h0 h1 h2 h3_ h4 h5 hpo hfb
     generalize cntOf G.tasks L pl now = cc at C1 hfb
     have htakes := takes_calls pc cc tk.f0 tk.f2 tk.f3 At tk.f1.length ct A2 c2 room wk W2 C1 (by omega) H3.out (Kd.C_below HC2.out E1.below) hc2
     rw [← hfb] at htakes
     obtain ⟨fb, hfbe⟩ : ∃ fb, fb = freeB G.tasks L pl i room wk now := ⟨_, rfl⟩
     rw [← hfbe] at htakes hfb
     have HFBE := Aside0.mk hfbe
     clear hfbe
     have HTK2 := Aside0.mk htakes
     have HE4 := Aside0.mk E1
     have HN4 := Aside0.mk N1
     have HC4 := Aside0.mk C1
     have HM4 := Aside0.mk M4
     have HFB := Aside0.mk hfb
     replace p0 := eq_true p0
     replace q0 := eq_true q0
     clear htakes E1 N1 C1 M4 hfb hxi hcl hC hrd hpo hcc
     go_wp2_with (go_at_call 80; refine HTK2.out.mono ?_; rintro e w' ⟨rfl, hgr, hcn'⟩; clear hcx hc0 h0 h1 h2 h3_ h4 h5 p0 q0 hcn'; have HGR := Aside0.mk hgr; have hcn := (HN4.out.kept hgr (fun e => by injection e with e; omega)).cell; clear hgr)
     rw [show ((now : Nat) : Int) + 1 = ((now + 1 : Nat) : Int) by omega]
     have hgr := HGR.out
     have hs1 := hgr.size
     have E5 := (HE4.out.grow hgr hpcn.2).alloc (.cells #[.int .i64 ((now + 1 : Nat) : Int)] 3)
     have M5 := (HM4.out.grow hgr (fun k hk => ⟨_, _, by cases hk; exact HC4.out⟩)).below ((Below.refl w'.heap.size w').alloc (Nat.le_refl _) (.cells #[.int .i64 ((now + 1 : Nat) : Int)] 3))
     have N5 := Boxed.new w' 3 (.int .i64 ((now + 1 : Nat) : Int))
     have hz5 : (w'.alloc (.cells #[.int .i64 ((now + 1 : Nat) : Int)] 3)).heap.size = w'.heap.size + 1 := by simp
     have hz6 := (HE4.out.grow hgr hpcn.2).size
     have hnd := HND.out
     have hT20 := HT1.out.2.2
     have hfq : freeN G.tasks L pl i room wk T t = (freeB G.tasks L pl i room wk now && freeN G.tasks L pl i room wk d' (now + 1)) := HFQ.out
     have hfb2 : fb = freeB G.tasks L pl i room wk now := HFBE.out
     rw [← hfb2] at hfq
     refine ⟨d', by omega, hJ2 _ _ _ ⟨now + 1, w'.heap.size, fb, (fun e => ⟨by omega, by rw [hfq, e, Bool.true_and]⟩), (fun e => by rw [hfq, e, Bool.false_and]), by omega, by omega, N5, rfl, rfl, rfl, rfl, rfl, rfl, rfl, rfl, rfl, rfl, ⟨_, M5, by omega, by omega⟩, E5⟩⟩
end Go.Proofs.YtimbfcedigaffaaDoor.Core
end
section
set_option linter.unusedVariables false
set_option linter.unusedSimpArgs false
namespace Go.Proofs.YtimbfcedigaffaaDoor.Core
open Go Go.RowKit Go.Shelf Go.Proofs.YtimbfcedigaffaaDoorW.PrintWords Go.Proofs.YtimbfcedigaffaaDoorW.PrintLast Go.Proofs.YtimbfcedigaffaaDoorW.PrintMore Go.Proofs.YtimbfcedigaffaaDoor.P
attribute [local go_sem] Oper.semAt_some wide_fn wide_depth
/-- The graph for valid pools and workers. -/
def placeD (g : List Tk) (room : List Int) (wk : Int) : Option GD := match graphD g with
 | none => none
 | some G => if roomOk room ∧ 1 ≤ wk ∧ wk ≤ 4 then some G else none
def fewD (g : List Tk) (room : List Int) (wk : Int) : Option GD := if (g.length : Int) > 5 then none else placeD g room wk
theorem placeD_some {g : List Tk} {room : List Int} {wk : Int} {G : GD} (h : placeD g room wk = some G) : graphD g = some G ∧ roomOk room ∧ 1 ≤ wk ∧ wk ≤ 4 := by
 unfold placeD at h
 cases hG : graphD g with
 | none => rw [hG] at h; cases h
 | some G' =>
  rw [hG] at h
  simp only [] at h
  by_cases hc : roomOk room ∧ 1 ≤ wk ∧ wk ≤ 4
  ·rw [if_pos hc] at h
   exact ⟨h, hc⟩
  ·rw [if_neg hc] at h; cases h
theorem fewD_some {g : List Tk} {room : List Int} {wk : Int} {G : GD} (h : fewD g room wk = some G) : g.length ≤ 5 ∧ placeD g room wk = some G := by
 unfold fewD at h
 by_cases hc : (g.length : Int) > 5
 ·rw [if_pos hc] at h; cases h
 ·rw [if_neg hc] at h; exact ⟨by omega, h⟩
set_option maxHeartbeats 1000000 in
theorem workersV_is (a : Int) (t : Bool) (w : World) (h : decide (1 ≤ a ∧ a ≤ 4) = t) :
  Calls Tryd.prog 75 #[.int .i64 a] w fun e w' => e = .returned (.bool t) ∧ Below w.heap.size w w' := by
 have HW := Aside0.mk (within_is a 1 4 t w h)
 clear h
 go_enter Tryd.func75, Tryd.ntmps75
 go_wp2_with (go_at_call 56; refine HW.out.mono ?_; rintro e w2 ⟨rfl, hB2⟩)
 go_ret
 exact ⟨rfl, hB2⟩
set_option maxRecDepth 100000 in
set_option maxHeartbeats 2000000 in
theorem placeIn_none (A0 : Option Addr) (c0 : Nat) (l0 : List Tk) (A1 : Option Addr) (c1 : Nat) (l1 : List Int) (wk : Int) (w : World) (hT : Tab w) (hr0 : k39.C w A0 l0.length l0) (hc0 : l0.length ≤ c0) (hr1 : (Kd.int .i64).C w A1 l1.length l1) (hc1 : l1.length ≤ c1) (h : placeD l0 l1 wk = none) :
  Calls Tryd.prog 63 #[.slice A0 l0.length c0, .slice A1 l1.length c1, .int .i64 wk] w fun e w' => e = .returned (.tuple #[.pointer none, .bool false]) ∧ Below w.heap.size w w' := by
 unfold placeD at h
 cases hG : graphD l0 with
 | none =>
  have HG := Aside0.mk (graphOf_none A0 c0 l0 w hT hr0 hc0 hG)
  clear hr0 hr1 hT hG h
  go_enter Tryd.func63, Tryd.ntmps63
  go_wp2_with (go_at_call 55; refine HG.out.mono ?_; rintro e w1 ⟨rfl, hB⟩; have HB := Aside0.mk hB; clear hB)
  refine bodyPost_ret (results_list (rs := [.tmp 6, .tmp 7]) rfl (by simp) (.tmp (.tmp .nil))) rfl ?_
  exact ⟨rfl, HB.out⟩
 | some G =>
  rw [hG] at h
  simp only [] at h
  have hn : ¬ (roomOk l1 ∧ 1 ≤ wk ∧ wk ≤ 4) := fun hc => by rw [if_pos hc] at h; cases h
  have HG := Aside0.mk (graphOf_some A0 c0 l0 G w hT hr0 hc0 hG)
  have HR1 := Aside0.mk hr1
  have HC1 := Aside0.mk hc1
  clear h hG hr0 hr1 hT hc0 hc1
  by_cases hroom : roomOk l1
  ·have HWK : Aside0 (decide (1 ≤ wk ∧ wk ≤ 4) = false) := ⟨decide_eq_false (fun h => hn ⟨hroom, h⟩)⟩
   have HRM := Aside0.mk (show decide (roomOk l1) = true from decide_eq_true hroom)
   clear hn hroom
   go_enter Tryd.func63, Tryd.ntmps63
   go_wp2_with (first
    | (go_at_call 55; refine HG.out.mono ?_; rintro e w1 ⟨b, rfl, hB, hgr⟩; have HB := Aside0.mk hB; clear hB hgr)
    | (go_at_call 74; refine (room_is A1 c1 l1 true _ (Kd.C_below HR1.out HB.out) HC1.out HRM.out).mono ?_; rintro e w2 ⟨rfl, hB2⟩; replace HB := Aside0.mk (below_step HB.out hB2); clear hB2)
    | (go_at_call 75; refine (workersV_is wk false _ HWK.out).mono ?_; rintro e w3 ⟨rfl, hB2⟩; replace HB := Aside0.mk (below_step HB.out hB2); clear hB2))
   refine bodyPost_ret (results_list (rs := [.tmp 6, .tmp 7]) rfl (by simp) (.tmp (.tmp .nil))) rfl ?_
   exact ⟨rfl, HB.out⟩
  ·have HRM := Aside0.mk (show decide (roomOk l1) = false from decide_eq_false hroom)
   clear hn hroom
   go_enter Tryd.func63, Tryd.ntmps63
   go_wp2_with (first
    | (go_at_call 55; refine HG.out.mono ?_; rintro e w1 ⟨b, rfl, hB, hgr⟩; have HB := Aside0.mk hB; clear hB hgr)
    | (go_at_call 74; refine (room_is A1 c1 l1 false _ (Kd.C_below HR1.out HB.out) HC1.out HRM.out).mono ?_; rintro e w2 ⟨rfl, hB2⟩; replace HB := Aside0.mk (below_step HB.out hB2); clear hB2))
   refine bodyPost_ret (results_list (rs := [.tmp 6, .tmp 7]) rfl (by simp) (.tmp (.tmp .nil))) rfl ?_
   exact ⟨rfl, HB.out⟩
set_option maxRecDepth 100000 in
set_option maxHeartbeats 2000000 in
theorem placeIn_some (A0 : Option Addr) (c0 : Nat) (l0 : List Tk) (A1 : Option Addr) (c1 : Nat) (l1 : List Int) (wk : Int) (G : GD) (w : World) (hT : Tab w) (hr0 : k39.C w A0 l0.length l0) (hc0 : l0.length ≤ c0) (hr1 : (Kd.int .i64).C w A1 l1.length l1) (hc1 : l1.length ≤ c1) (h : placeD l0 l1 wk = some G) :
  Calls Tryd.prog 63 #[.slice A0 l0.length c0, .slice A1 l1.length c1, .int .i64 wk] w fun e w' => ∃ b : Nat, e = .returned (.tuple #[.pointer (some ⟨b, 0, none⟩), .bool true]) ∧ Below w.heap.size w w' ∧ IsG w' b G := by
 obtain ⟨hG, hroom, hwk⟩ := placeD_some h
 have HG := Aside0.mk (graphOf_some A0 c0 l0 G w hT hr0 hc0 hG)
 have HR1 := Aside0.mk hr1
 have HC1 := Aside0.mk hc1
 have HWK : Aside0 (decide (1 ≤ wk ∧ wk ≤ 4) = true) := ⟨decide_eq_true hwk⟩
 have HRM := Aside0.mk (show decide (roomOk l1) = true from decide_eq_true hroom)
 clear h hG hr0 hr1 hT hc0 hc1 hroom hwk
 go_enter Tryd.func63, Tryd.ntmps63
 go_wp2_with (first
  | (go_at_call 55; refine HG.out.mono ?_; rintro e w1 ⟨b, rfl, hB, hgr⟩; have HB := Aside0.mk hB; have HI := Aside0.mk hgr; clear hB hgr)
  | (go_at_call 74; refine (room_is A1 c1 l1 true _ (Kd.C_below HR1.out HB.out) HC1.out HRM.out).mono ?_; rintro e w2 ⟨rfl, hB2⟩; replace HB := Aside0.mk (below_step HB.out hB2); replace HI := Aside0.mk (HI.out.move hB2); clear hB2)
  | (go_at_call 75; refine (workersV_is wk true _ HWK.out).mono ?_; rintro e w3 ⟨rfl, hB2⟩; replace HB := Aside0.mk (below_step HB.out hB2); replace HI := Aside0.mk (HI.out.move hB2); clear hB2))
 refine bodyPost_ret (results_list (rs := [.tmp 6, .tmp 7]) rfl (by simp) (.tmp (.tmp .nil))) rfl ?_
 exact ⟨b, rfl, HB.out, HI.out⟩
set_option maxRecDepth 100000 in
set_option maxHeartbeats 2000000 in
theorem fewIn_none (A0 : Option Addr) (c0 : Nat) (l0 : List Tk) (A1 : Option Addr) (c1 : Nat) (l1 : List Int) (wk : Int) (w : World) (hT : Tab w) (hr0 : k39.C w A0 l0.length l0) (hc0 : l0.length ≤ c0) (hr1 : (Kd.int .i64).C w A1 l1.length l1) (hc1 : l1.length ≤ c1) (h : fewD l0 l1 wk = none) :
  Calls Tryd.prog 45 #[.slice A0 l0.length c0, .slice A1 l1.length c1, .int .i64 wk] w fun e w' => e = .returned (.tuple #[.pointer none, .bool false]) ∧ Below w.heap.size w w' := by
 unfold fewD at h
 by_cases hc : (l0.length : Int) > 5
 ·have hd : decide (5 < (l0.length : Int)) = true := decide_eq_true hc
  have hd2 : decide (5 < l0.length) = true := decide_eq_true (by omega)
  have HB := Aside0.mk (Below.refl w.heap.size w)
  clear hr0 hr1 hT h hc
  go_enter Tryd.func45, Tryd.ntmps45
  go_wp2
  refine bodyPost_ret (results_list (rs := [.tmp 6, .tmp 7]) rfl (by simp) (.tmp (.tmp .nil))) rfl ?_
  exact ⟨rfl, HB.out⟩
 ·rw [if_neg hc] at h
  have hd : decide (5 < (l0.length : Int)) = false := decide_eq_false hc
  have hd2 : decide (5 < l0.length) = false := decide_eq_false (by omega)
  have HP := Aside0.mk (placeIn_none A0 c0 l0 A1 c1 l1 wk w hT hr0 hc0 hr1 hc1 h)
  clear hr0 hr1 hT h hc
  go_enter Tryd.func45, Tryd.ntmps45
  go_wp2_with (go_at_call 63; refine HP.out.mono ?_; rintro e w1 ⟨rfl, hB⟩; have HB := Aside0.mk hB; clear hB)
  refine bodyPost_ret (results_list (rs := [.tmp 6, .tmp 7]) rfl (by simp) (.tmp (.tmp .nil))) rfl ?_
  exact ⟨rfl, HB.out⟩
set_option maxRecDepth 100000 in
set_option maxHeartbeats 2000000 in
theorem fewIn_some (A0 : Option Addr) (c0 : Nat) (l0 : List Tk) (A1 : Option Addr) (c1 : Nat) (l1 : List Int) (wk : Int) (G : GD) (w : World) (hT : Tab w) (hr0 : k39.C w A0 l0.length l0) (hc0 : l0.length ≤ c0) (hr1 : (Kd.int .i64).C w A1 l1.length l1) (hc1 : l1.length ≤ c1) (h : fewD l0 l1 wk = some G) :
  Calls Tryd.prog 45 #[.slice A0 l0.length c0, .slice A1 l1.length c1, .int .i64 wk] w fun e w' => ∃ b : Nat, e = .returned (.tuple #[.pointer (some ⟨b, 0, none⟩), .bool true]) ∧ Below w.heap.size w w' ∧ IsG w' b G := by
 obtain ⟨h5, hp⟩ := fewD_some h
 have hd : decide (5 < (l0.length : Int)) = false := decide_eq_false (by omega)
 have hd2 : decide (5 < l0.length) = false := decide_eq_false (by omega)
 have HP := Aside0.mk (placeIn_some A0 c0 l0 A1 c1 l1 wk G w hT hr0 hc0 hr1 hc1 hp)
 clear hr0 hr1 hT h hp h5
 go_enter Tryd.func45, Tryd.ntmps45
 go_wp2_with (go_at_call 63; refine HP.out.mono ?_; rintro e w1 ⟨b, rfl, hB, hgr⟩; have HB := Aside0.mk hB; have HI := Aside0.mk hgr; clear hB hgr)
 refine bodyPost_ret (results_list (rs := [.tmp 6, .tmp 7]) rfl (by simp) (.tmp (.tmp .nil))) rfl ?_
 exact ⟨b, rfl, HB.out, HI.out⟩
end Go.Proofs.YtimbfcedigaffaaDoor.Core
end
section
set_option linter.unusedVariables false
set_option linter.unusedSimpArgs false
namespace Go.Proofs.YtimbfcedigaffaaDoor.Core
open Go Go.RowKit Go.Proofs.YtimbfcedigaffaaDoorW.PrintWords Go.Proofs.YtimbfcedigaffaaDoorW.PrintMore Go.Proofs.YtimbfcedigaffaaDoor.P
/-- All tasks of a set are over at a time. -/
def overBy (g : List Tk) (L : List Nat) (pl B : Nat) : Prop := ∀ k, pl.testBit k = true → endN g L k ≤ B
theorem cnt_over {g : List Tk} {L : List Nat} {pl B now : Nat} (h : overBy g L pl B) (hb : B ≤ now) : cntOf g L pl now = Cn.zero := by
 unfold cntOf
 have : ∀ (ks : List Nat), (∀ k ∈ ks, endN g L k ≤ B) → ks.foldl (cntStep g L now) Cn.zero = Cn.zero := by
  intro ks
  induction ks with
  | nil => intro _; rfl
  | cons k ks ih =>
   intro hk
   have h1 := hk k List.mem_cons_self
   have : cntStep g L now Cn.zero k = Cn.zero := by
    unfold cntStep runsAt
    rw [decide_eq_false (show ¬ now < endN g L k by omega), Bool.and_false, if_neg Bool.false_ne_true]
   rw [List.foldl_cons, this]
   exact ih (fun k hk' => hk k (List.mem_cons_of_mem _ hk'))
 exact this _ (fun k hk => h k (mem_elemsN.1 hk).2)
/-- What is asked of rooms, workers and a task. -/
structure Fine (g : List Tk) (room : List Int) (wk : Int) : Prop where
 room : roomOk room
 wk : 1 ≤ wk
 pool : ∀ i, i < g.length → 0 ≤ (g.getD i z39).f2 ∧ (g.getD i z39).f2 ≤ 2
 units : ∀ i, i < g.length → 1 ≤ (g.getD i z39).f3 ∧ (g.getD i z39).f3 ≤ 4
 tm : ∀ i, i < g.length → 1 ≤ tmN g i ∧ tmN g i ≤ 20
theorem room_at {room : List Int} (h : roomOk room) {p : Int} (h0 : 0 ≤ p) (h2 : p ≤ 2) : 4 ≤ rd room p ∧ rd room p ≤ 8 := by
 have r0 := h.1
 refine h.2 _ ?_
 unfold rd
 rw [List.getD_eq_getElem?_getD, List.getElem?_eq_getElem (by omega), Option.getD_some]
 exact List.getElem_mem _
theorem zero_u (p : Int) : Cn.zero.u p = 0 := by unfold Cn.u Cn.zero; split <;> (try split) <;> rfl
theorem free_over {g : List Tk} {room : List Int} {wk : Int} (hf : Fine g room wk) {L : List Nat} {pl B i : Nat} (hi : i < g.length) (h : overBy g L pl B) : ∀ (d now : Nat), B ≤ now → freeN g L pl i room wk d now = true
 | 0, _, _ => rfl
 | d + 1, now, hb => by
  have hp := hf.pool i hi
  have hu := hf.units i hi
  have hr := room_at hf.room hp.1 hp.2
  have hw := hf.wk
  have h1 : freeB g L pl i room wk now = true := by
   unfold freeB takesB
   rw [cnt_over h hb, zero_u, w64 (by omega) (by omega), show Cn.zero.t = 0 from rfl, decide_eq_true (by omega), decide_eq_true (by omega)]
   rfl
  show (freeB g L pl i room wk now && freeN g L pl i room wk d (now + 1)) = true
  rw [h1, free_over hf hi h d (now + 1) (by omega)]
  rfl
theorem earlN_le {g : List Tk} {L : List Nat} {pl i : Nat} {room : List Int} {wk : Int} : ∀ (F f a : Nat), F ≤ f → freeN g L pl i room wk (tmN g i) (a + F) = true → earlN g L pl i room wk f a ≤ a + F ∧ a ≤ earlN g L pl i room wk f a ∧ freeN g L pl i room wk (tmN g i) (earlN g L pl i room wk f a) = true
 | 0, 0, a, _, h => ⟨Nat.le_refl _, Nat.le_refl _, h⟩
 | 0, f + 1, a, _, h => by
  have e : earlN g L pl i room wk (f + 1) a = a := by unfold earlN; rw [if_pos (show freeN g L pl i room wk (tmN g i) a = true from h)]
  rw [e]
  exact ⟨Nat.le_refl _, Nat.le_refl _, h⟩
 | F + 1, 0, a, hF, _ => by omega
 | F + 1, f + 1, a, hF, h => by
  by_cases hfr : freeN g L pl i room wk (tmN g i) a = true
  ·have e : earlN g L pl i room wk (f + 1) a = a := by unfold earlN; rw [if_pos hfr]
   rw [e]
   exact ⟨by omega, Nat.le_refl _, hfr⟩
  ·have e : earlN g L pl i room wk (f + 1) a = earlN g L pl i room wk f (a + 1) := by rw [earlN, if_neg hfr]
   rw [e]
   have := earlN_le F f (a + 1) (by omega) (by rw [show a + 1 + F = a + (F + 1) by omega]; exact h)
   exact ⟨by omega, by omega, this.2.2⟩
theorem needEnd_le {g : List Tk} {L : List Nat} {s pl B : Nat} (h : overBy g L pl B) (hs : ∀ k, s.testBit k = true → pl.testBit k = true) : needEnd g L s ≤ B := by
 have : ∀ (ks : List Nat) (a : Nat), a ≤ B → (∀ k ∈ ks, endN g L k ≤ B) → ks.foldl (eStep g L) a ≤ B := by
  intro ks
  induction ks with
  | nil => intro a h _; exact h
  | cons k ks ih =>
   intro a h hk
   rw [List.foldl_cons]
   refine ih _ ?_ (fun k hk' => hk k (List.mem_cons_of_mem _ hk'))
   have := hk k List.mem_cons_self
   unfold eStep
   omega
 exact this _ 0 (Nat.zero_le _) (fun k hk => h k (hs k (mem_elemsN.1 hk).2))
/-- The least time is no later than when all others are over. -/
theorem earlD_le {g : List Tk} {room : List Int} {wk : Int} (hf : Fine g room wk) {L : List Nat} {s pl B i : Nat} (hi : i < g.length) (h : overBy g L pl B) (hB : B ≤ 300) (hs : ∀ k, s.testBit k = true → pl.testBit k = true) : earlD g L s pl i room wk ≤ B ∧ needEnd g L s ≤ earlD g L s pl i room wk ∧ freeN g L pl i room wk (tmN g i) (earlD g L s pl i room wk) = true ∧ freeN g L pl i room wk (tmN g i) (needEnd g L s + (B - needEnd g L s)) = true := by
 have hn := needEnd_le h hs
 have hfr := free_over hf hi h (tmN g i) (needEnd g L s + (B - needEnd g L s)) (by omega)
 obtain ⟨h1, h2, h3⟩ := earlN_le (B - needEnd g L s) 400 (needEnd g L s) (by omega) hfr
 exact ⟨by unfold earlD; omega, h2, h3, hfr⟩
theorem fine_of {g : List Tk} {G : GD} (hG : graphD g = some G) {room : List Int} (hr : roomOk room) {wk : Int} (hw : 1 ≤ wk) : Fine g room wk := by
 have key : ∀ i, i < g.length → g.getD i z39 ∈ g := fun i hi => by
  rw [List.getD_eq_getElem?_getD, List.getElem?_eq_getElem hi]
  exact List.getElem_mem hi
 refine ⟨hr, hw, fun i hi => graphD_pool hG _ (by rw [graphD_tasks hG]; exact key i hi), fun i hi => ?_, fun i hi => (tm_int (fun t ht => graphD_taskOk hG t ht) hi).2⟩
 have := graphD_taskOk hG _ (key i hi)
 unfold taskOk at this
 omega
end Go.Proofs.YtimbfcedigaffaaDoor.Core
end
section
set_option linter.unusedVariables false
set_option linter.unusedSimpArgs false
namespace Go.Proofs.YtimbfcedigaffaaDoor.Core
open Go Go.RowKit Go.Proofs.YtimbfcedigaffaaDoorW.PrintWords Go.Proofs.YtimbfcedigaffaaDoorW.PrintMore Go.Proofs.YtimbfcedigaffaaDoor.P
theorem asc_lt : ∀ {r : List Int} {x : Int}, ascD (x :: r) = true → ascD r = true ∧ ∀ y ∈ r, x < y
 | [], x, _ => ⟨rfl, by simp⟩
 | y :: r, x, h => by
  simp only [ascD, Bool.and_eq_true, decide_eq_true_eq] at h
  have h2 := asc_lt h.2
  refine ⟨h.2, fun z hz => ?_⟩
  rcases List.mem_cons.1 hz with rfl | hz
  ·exact h.1
  ·have := h2.2 z hz; omega
theorem asc_mk {r : List Int} {x : Int} (h : ascD r = true) (h2 : ∀ y ∈ r, x < y) : ascD (x :: r) = true := by
 cases r with
 | nil => rfl
 | cons y r => simp [ascD, h, h2 y List.mem_cons_self]
theorem setGo_some {n : Nat} : ∀ {r : List Int} {s : Nat} {last : Int} {t : Nat}, -1 ≤ last → setGo n r s last = some t → (∀ x ∈ r, last + 1 ≤ x ∧ x ≤ (n : Int) - 1) ∧ ascD r = true ∧ ∀ i : Nat, t.testBit i = (s.testBit i || decide ((i : Int) ∈ r))
 | [], s, last, t, hl, h => by
  rw [setGo] at h
  cases h
  exact ⟨by simp, rfl, by simp⟩
 | x :: r, s, last, t, hl, h => by
  rw [setGo] at h
  by_cases hx : last + 1 ≤ x ∧ x ≤ (n : Int) - 1
  ·rw [if_pos hx] at h
   obtain ⟨h1, h2, h3⟩ := setGo_some (by omega) h
   refine ⟨fun y hy => ?_, asc_mk h2 (fun y hy => by have := h1 y hy; omega), fun i => ?_⟩
   ·rcases List.mem_cons.1 hy with rfl | hy
    ·exact hx
    ·have := h1 y hy; omega
   ·rw [h3, or_bit]
    have : decide (x.toNat = i) = decide ((i : Int) = x) := by rw [decide_eq_decide]; omega
    rw [this]
    by_cases e : (i : Int) = x
    ·simp [e]
    ·simp [e]
  ·rw [if_neg hx] at h; cases h
theorem setGo_ok {n : Nat} : ∀ {r : List Int} (s : Nat) {last : Int}, (∀ x ∈ r, last + 1 ≤ x ∧ x ≤ (n : Int) - 1) → ascD r = true → ∃ t, setGo n r s last = some t
 | [], s, last, _, _ => ⟨s, rfl⟩
 | x :: r, s, last, h, ha => by
  have h2 := asc_lt ha
  have hx := h x List.mem_cons_self
  rw [setGo, if_pos hx]
  exact setGo_ok _ (fun y hy => ⟨by have := h2.2 y hy; omega, (h y (List.mem_cons_of_mem _ hy)).2⟩) h2.1
theorem setD_some {n : Nat} {l : List Int} {t : Nat} (h : setD n l = some t) : needsOk n l ∧ ∀ i : Nat, t.testBit i = decide ((i : Int) ∈ l) := by
 obtain ⟨h1, h2, h3⟩ := setGo_some (by omega) h
 exact ⟨⟨fun x hx => by have := h1 x hx; omega, h2⟩, fun i => by rw [h3]; simp⟩
theorem setD_ok {n : Nat} {l : List Int} (h : needsOk n l) : ∃ t, setD n l = some t := setGo_ok 0 (fun x hx => by have := h.1 x hx; omega) h.2
theorem needsGo_ok {n : Nat} : ∀ {r : List Tk}, (∀ t ∈ r, taskOk t ∧ needsOk n t.f1) → ∃ N, needsGo n r = some N
 | [], _ => ⟨[], rfl⟩
 | t :: r, h => by
  obtain ⟨s, hs⟩ := setD_ok (h t List.mem_cons_self).2
  obtain ⟨N, hN⟩ := needsGo_ok (fun t' ht => h t' (List.mem_cons_of_mem _ ht))
  rw [needsGo, hs]
  simp only [(h t List.mem_cons_self).1, if_true, hN]
  exact ⟨_, rfl⟩
theorem needsGo_fine {n : Nat} : ∀ {r : List Tk} {N : List Nat}, needsGo n r = some N → (∀ t ∈ r, taskOk t ∧ needsOk n t.f1) ∧ ∀ i, i < r.length → ∀ j : Nat, (N.getD i 0).testBit j = decide ((j : Int) ∈ (r.getD i z39).f1)
 | [], N, h => ⟨by simp, by intro i hi; simp at hi⟩
 | t :: r, N, h => by
  rw [needsGo] at h
  cases he : setD n t.f1 with
  | none => rw [he] at h; cases h
  | some s =>
   rw [he] at h
   by_cases hok : taskOk t
   ·simp only [hok, if_true] at h
    cases hg : needsGo n r with
    | none => rw [hg] at h; cases h
    | some M =>
     rw [hg] at h
     cases h
     have ih := needsGo_fine hg
     have hs := setD_some he
     refine ⟨fun t' ht => ?_, fun i hi j => ?_⟩
     ·rcases List.mem_cons.1 ht with rfl | ht
      ·exact ⟨hok, hs.1⟩
      ·exact ih.1 t' ht
     ·cases i with
      | zero => simpa using hs.2 j
      | succ i => simpa using ih.2 i (by simpa using hi) j
   ·simp [hok] at h
theorem needsD_fine {g : List Tk} {N : List Nat} (h : needsD g = some N) : fineD g ∧ ∀ i, i < g.length → ∀ j : Nat, (N.getD i 0).testBit j = decide ((j : Int) ∈ (g.getD i z39).f1) := by
 have h8 := (needsD_spec h).1
 unfold needsD at h
 rw [if_pos h8] at h
 have := needsGo_fine h
 exact ⟨⟨this.1, h8⟩, this.2⟩
theorem fineD_needs {g : List Tk} (h : fineD g) : ∃ N, needsD g = some N := by
 unfold needsD
 rw [if_pos h.2]
 exact needsGo_ok h.1
theorem sub_zero {a b : Nat} (ha : a < 256) (hb : b < 256) : sub a b = 0 ↔ ∀ j, a.testBit j = true → b.testBit j = true := by
 constructor
 ·intro h j hj
  have := sub_testBit (i := j) ha hb
  rw [h, hj] at this
  simpa using this
 ·intro h
  apply Nat.eq_of_testBit_eq
  intro j
  rw [sub_testBit ha hb, Nat.zero_testBit]
  cases e : a.testBit j
  ·rfl
  ·rw [h j e]; rfl
theorem mem_up {L : List Nat} {i : Nat} : (i : Int) ∈ up L ↔ i ∈ L := by
 unfold up
 rw [List.mem_map]
 constructor
 ·rintro ⟨a, ha, e⟩
  have : a = i := Int.ofNat.inj e
  exact this ▸ ha
 ·intro h
  exact ⟨i, h, rfl⟩
/-- All needs of a task are among some, said both ways. -/
theorem done_iff {g : List Tk} {N : List Nat} (hN : needsD g = some N) {L : List Nat} {d : Nat} (hd : d < 256) (hs : ∀ i, d.testBit i = true ↔ i ∈ L) {i : Nat} (hi : i < g.length) : (∀ x ∈ (g.getD i z39).f1, x ∈ up L) ↔ sub (N.getD i 0) d = 0 := by
 obtain ⟨h8, hl, hb⟩ := needsD_spec hN
 obtain ⟨hf, hbit⟩ := needsD_fine hN
 rw [sub_zero (Nat.lt_of_lt_of_le (getD_lt hb i) (pow8 h8)) hd]
 constructor
 ·intro h j hj
  rw [hbit i hi j, decide_eq_true_eq] at hj
  exact (hs j).2 (mem_up.1 (h _ hj))
 ·intro h x hx
  have hmem : g.getD i z39 ∈ g := by
   rw [List.getD_eq_getElem?_getD, List.getElem?_eq_getElem hi]
   exact List.getElem_mem hi
  have h0 := (hf.1 _ hmem).2.1 x hx
  obtain ⟨j, rfl⟩ : ∃ j : Nat, x = (j : Int) := ⟨x.toNat, by omega⟩
  refine mem_up.2 ((hs j).1 (h j ?_))
  rw [hbit i hi j, decide_eq_true_eq]
  exact hx
theorem rdT_nat (g : List Tk) (i : Nat) : rd_T39 g (i : Int) = g.getD i z39 := by simp [rd_T39]
theorem getD_mem {g : List Tk} {i : Nat} (hi : i < g.length) : g.getD i z39 ∈ g := by
 rw [List.getD_eq_getElem?_getD, List.getElem?_eq_getElem hi]
 exact List.getElem_mem hi
theorem ev_top_found {g : List Tk} (hg : Fits g) (L : List Nat) (hL : L.length ≤ 100) (j : Nat) (i : Int) (R : List Int) (h : Ev (fun k => spec_topOrder.l0 k g (up (L ++ [j]))) R) : Ev (fun k => spec_topOrder.l1 k g (up L) (j : Int) i) R := by
 have e : up (L ++ [j]) = up L ++ [(j : Int)] := by simp [up]
 have h2 : Ev (fun k => spec_topOrder.j2 k g (up L) (j : Int) i false) R := by
  refine Ev.succ (h.of fun k => ?_)
  rw [spec_topOrder.j2, if_neg (by simp), if_neg (by omega), if_pos (by rw [up_length]; omega), e]
 refine Ev.succ (h2.of fun k => ?_)
 rw [spec_topOrder.l1, show decide ((j : Int) < 0) = false by simp]
 split <;> rfl
theorem ev_top_scan {g : List Tk} (hg : Fits g) {N : List Nat} (hN : needsD g = some N) (L : List Nat) (d : Nat) (hL : L.length ≤ 100) (hd : d < 256) (hs : ∀ i, d.testBit i = true ↔ i ∈ L) (R : Option Nat → List Int) (hR : R none = up L) : ∀ (m i : Nat), i + m = g.length →
  (∀ j, nextFrom N d i m = some j → Ev (fun k => spec_topOrder.l0 k g (up (L ++ [j]))) (R (some j))) → Ev (fun k => spec_topOrder.l1 k g (up L) (-1) (i : Int)) (R (nextFrom N d i m))
 | 0, i, hi, ho => by
  rw [nextFrom, hR]
  refine Ev.succ ?_
  have h2 : Ev (fun k => spec_topOrder.j2 k g (up L) (-1) (i : Int) false) (up L) := by
   refine Ev.succ ((Ev.const _).of fun k => ?_)
   rw [spec_topOrder.j2, if_neg (by simp), if_pos (by omega)]
  refine h2.of fun k => ?_
  rw [spec_topOrder.l1, if_neg (by omega)]
 | m + 1, i, hi, ho => by
  have hig : i < g.length := by omega
  have h8 := (needsD_spec hN).1
  have hin := ev_isIn (L := up L) (by rw [up_length]; unfold big; omega) (i : Int)
  have hdn := ev_allDone (L := (g.getD i z39).f1) (M := up L) (hg.2 _ (getD_mem hig)) (by rw [up_length]; unfold big; omega)
  have e1 : decide ((i : Int) ∈ up L) = d.testBit i := by
   rw [Bool.eq_iff_iff, decide_eq_true_eq, mem_up, hs]
  have e2 : decide (∀ x ∈ (g.getD i z39).f1, x ∈ up L) = decide (sub (N.getD i 0) d = 0) := by
   rw [decide_eq_decide]; exact done_iff hN hd hs hig
  rw [e1] at hin
  rw [e2] at hdn
  have hw : wrap64 ((i : Int) + 1) = ((i + 1 : Nat) : Int) := w64s (by unfold big; omega)
  refine Ev.succ ?_
  have hj2 : Ev (fun k => spec_topOrder.j2 k g (up L) (-1) (i : Int) true) (R (nextFrom N d i (m + 1))) := by
   refine Ev.succ ?_
   have hu : ∀ k, spec_topOrder.j2 (k + 1) g (up L) (-1) (i : Int) true = (spec_isIn.f k (up L) (i : Int)).bind fun t126 => (if t126 = true then (spec_topOrder.l1 k g (up L) (-1) ((i + 1 : Nat) : Int)) else ((spec_allDone.f k (g.getD i z39).f1 (up L)).bind fun t128 => (if t128 = true then (spec_topOrder.l1 k g (up L) (i : Int) ((i + 1 : Nat) : Int)) else (spec_topOrder.l1 k g (up L) (-1) ((i + 1 : Nat) : Int))))) := by
    intro k
    rw [spec_topOrder.j2, if_pos rfl, hw, if_pos (show 0 ≤ (i : Int) by omega), if_pos (show (i : Int) < (g.length : Int) by omega), rdT_nat]
   refine Ev.of ?_ hu
   refine hin.bind (g := fun k t126 => (if t126 = true then (spec_topOrder.l1 k g (up L) (-1) ((i + 1 : Nat) : Int)) else ((spec_allDone.f k (g.getD i z39).f1 (up L)).bind fun t128 => (if t128 = true then (spec_topOrder.l1 k g (up L) (i : Int) ((i + 1 : Nat) : Int)) else (spec_topOrder.l1 k g (up L) (-1) ((i + 1 : Nat) : Int)))))) ?_
   cases hbit : d.testBit i with
   | true =>
    have hg2 : nextFrom N d i (m + 1) = nextFrom N d (i + 1) m := by rw [nextFrom, if_neg (by simp [hbit])]
    rw [hg2] at ho ⊢
    exact (ev_top_scan hg hN L d hL hd hs R hR m (i + 1) (by omega) ho).of fun k => if_pos rfl
   | false =>
    by_cases hz : sub (N.getD i 0) d = 0
    ·have hg2 : nextFrom N d i (m + 1) = some i := by rw [nextFrom, if_pos ⟨hbit, hz⟩]
     rw [hg2]
     rw [decide_eq_true hz] at hdn
     have hf := ev_top_found hg L hL i ((i + 1 : Nat) : Int) _ (ho i hg2)
     refine (hdn.bind (g := fun k t128 => if t128 = true then (spec_topOrder.l1 k g (up L) (i : Int) ((i + 1 : Nat) : Int)) else (spec_topOrder.l1 k g (up L) (-1) ((i + 1 : Nat) : Int))) (hf.of fun k => if_pos rfl)).of fun k => ?_
     rw [if_neg (by simp)]
    ·have hg2 : nextFrom N d i (m + 1) = nextFrom N d (i + 1) m := by rw [nextFrom, if_neg (fun h => hz h.2)]
     rw [hg2] at ho ⊢
     rw [decide_eq_false hz] at hdn
     have ih := ev_top_scan hg hN L d hL hd hs R hR m (i + 1) (by omega) ho
     refine (hdn.bind (g := fun k t128 => if t128 = true then (spec_topOrder.l1 k g (up L) (i : Int) ((i + 1 : Nat) : Int)) else (spec_topOrder.l1 k g (up L) (-1) ((i + 1 : Nat) : Int))) (ih.of fun k => if_neg (by simp))).of fun k => ?_
     rw [if_neg (by simp)]
  refine hj2.of fun k => ?_
  rw [spec_topOrder.l1, if_pos (by omega)]
  rfl
theorem orderGo_none {N : List Nat} {d : Nat} (h : nextD N d = none) : ∀ (m : Nat) (L : List Nat), orderGo N m L d = (L, d)
 | 0, L => rfl
 | m + 1, L => by rw [orderGo, h]; exact orderGo_none h m L
theorem next_zb {N : List Nat} {d j : Nat} (h : nextD N d = some j) : zb N.length (d ||| 2 ^ j) < zb N.length d := by
 have := nextD_spec h
 exact zb_lt this.2.1 this.1
theorem ev_top_go {g : List Tk} (hg : Fits g) {N : List Nat} (hN : needsD g = some N) : ∀ (m : Nat) (L : List Nat) (d : Nat), OrdOk N L d → zb N.length d ≤ m → Ev (fun k => spec_topOrder.l0 k g (up L)) (up (orderGo N m L d).1) := by
 obtain ⟨h8, hl, hb⟩ := needsD_spec hN
 have hb' : below1 N.length N := by rw [hl]; exact hb
 intro m
 induction m with
 | zero =>
  intro L d ok hz
  have hlt := Nat.lt_of_lt_of_le ok.dlt (pow8 (n := N.length) (by omega))
  have hnone : nextD N d = none := by
   cases h : nextD N d with
   | none => rfl
   | some j => have := next_zb h; omega
  have h := ev_top_scan hg hN L d (by have := ok.len; omega) hlt ok.set (fun _ => up L) rfl g.length 0 (by omega) (fun j hj => by
   have : nextD N d = some j := by unfold nextD; rw [hl]; exact hj
   rw [hnone] at this; cases this)
  refine Ev.succ (h.of fun k => ?_)
  rw [spec_topOrder.l0]
  rfl
 | succ m ih =>
  intro L d ok hz
  have hlt := Nat.lt_of_lt_of_le ok.dlt (pow8 (n := N.length) (by omega))
  have h := ev_top_scan hg hN L d (by have := ok.len; omega) hlt ok.set (fun o => match o with | some i => up (orderGo N m (L ++ [i]) (d ||| 2 ^ i)).1 | none => up L) rfl g.length 0 (by omega) (fun j hj => by
   have hj2 : nextD N d = some j := by unfold nextD; rw [hl]; exact hj
   have hsp := nextD_spec hj2
   have := next_zb hj2
   exact ih (L ++ [j]) (d ||| 2 ^ j) (ok.step (by omega) hb' hsp.1 hsp.2.1 hsp.2.2) (by omega))
  have e : (match nextFrom N d 0 g.length with | some i => up (orderGo N m (L ++ [i]) (d ||| 2 ^ i)).1 | none => up L) = up (orderGo N (m + 1) L d).1 := by
   rw [orderGo]
   have e2 : nextD N d = nextFrom N d 0 g.length := by unfold nextD; rw [hl]
   rw [e2]
   cases hx : nextFrom N d 0 g.length with
   | none => simp only []; rw [orderGo_none (by rw [e2]; exact hx)]
   | some i => rfl
  rw [← e]
  refine Ev.succ (h.of fun k => ?_)
  rw [spec_topOrder.l0]
  rfl
theorem ordOk_nil (N : List Nat) : OrdOk N [] 0 := ⟨by simp, by simp, Nat.two_pow_pos _, by simp, by rw [zb_zero]; simp, by simp⟩
theorem ev_topOrder {g : List Tk} (hg : Fits g) {N : List Nat} (hN : needsD g = some N) : Ev (fun k => spec_topOrder.f k g) (up (orderD N).1) :=
 ev_top_go hg hN N.length [] 0 (ordOk_nil N) (by rw [zb_zero]; exact Nat.le_refl _)
theorem zb_zero_full {n : Nat} : ∀ {m d : Nat}, zb m d = 0 → ∀ i, i < m → d.testBit i = true
 | 0, d, _, i, h => by omega
 | m + 1, d, h, i, hi => by
  simp only [zb] at h
  by_cases e : i = m
  ·subst e
   cases hb : d.testBit i
   ·simp [hb] at h
   ·rfl
  ·exact zb_zero_full (n := n) (m := m) (by omega) i (by omega)
theorem full_iff {N L : List Nat} {d : Nat} (ok : OrdOk N L d) : d = 2 ^ N.length - 1 ↔ L.length = N.length := by
 constructor
 ·intro h
  have := ok.len
  rw [h, zb_full _ _ (Nat.le_refl _)] at this
  exact this
 ·intro h
  have hz : zb N.length d = 0 := by have := ok.len; omega
  apply Nat.eq_of_testBit_eq
  intro i
  rw [Nat.testBit_two_pow_sub_one]
  by_cases hi : i < N.length
  ·rw [zb_zero_full (n := 0) hz i hi]; simp [hi]
  ·cases hb : d.testBit i
   ·simp [hi]
   ·exact absurd (ok.lt i ((ok.set i).1 hb)) hi
theorem ev_validGraph {g : List Tk} (hg : Fits g) : Ev (fun k => spec_validGraph.f k g) (graphD g).isSome := by
 have hf := ev_tasksFine hg
 unfold graphD
 by_cases h : fineD g
 ·obtain ⟨N, hN⟩ := fineD_needs h
  obtain ⟨h8, hl, hb⟩ := needsD_spec hN
  rw [decide_eq_true h] at hf
  have ht := ev_topOrder hg hN
  have ok := orderD_ok (N := N) (by omega) (by rw [hl]; exact hb)
  have hfull := full_iff ok
  rw [hN]
  simp only []
  refine (hf.bind (g := fun k b => if b = true then ((spec_topOrder.f k g).bind fun t130 => (some ((t130.length : Int) == (g.length : Int)))) else some false) ?_).of fun k => rfl
  refine (ht.bind (g := fun k t130 => some ((t130.length : Int) == (g.length : Int))) (b := (if (orderD N).2 = 2 ^ g.length - 1 then some (mkG g N) else none).isSome) ((Ev.const _).of fun k => ?_)).of fun k => if_pos rfl
  rw [up_length]
  congr 1
  by_cases hd : (orderD N).2 = 2 ^ g.length - 1
  ·rw [if_pos hd]
   have := hfull.1 (by rw [hl]; exact hd)
   simp [this, hl]
  ·rw [if_neg hd]
   have : (orderD N).1.length ≠ g.length := fun e => hd (by rw [← hl]; exact hfull.2 (by omega))
   simp [this]
   omega
 ·rw [decide_eq_false h] at hf
  have hn : needsD g = none := by
   cases e : needsD g with
   | none => rfl
   | some N => exact absurd (needsD_fine e).1 h
  rw [hn]
  refine (hf.bind (g := fun k b => if b = true then ((spec_topOrder.f k g).bind fun t130 => (some ((t130.length : Int) == (g.length : Int)))) else some false) ((Ev.const false).of fun k => if_neg (by simp))).of fun k => rfl
end Go.Proofs.YtimbfcedigaffaaDoor.Core
end
section
set_option linter.unusedVariables false
set_option linter.unusedSimpArgs false
namespace Go.Proofs.YtimbfcedigaffaaDoor.Core
open Go Go.RowKit Go.Proofs.YtimbfcedigaffaaDoorW.PrintWords Go.Proofs.YtimbfcedigaffaaDoorW.PrintMore Go.Proofs.YtimbfcedigaffaaDoor.P
theorem Ev.pos {α : Type} {c : Prop} [Decidable c] {f g : Nat → Option α} {r : α} (hc : c) (h : Ev f r) : Ev (fun k => if c then f k else g k) r := h.of fun k => if_pos hc
theorem Ev.neg {α : Type} {c : Prop} [Decidable c] {f g : Nat → Option α} {r : α} (hc : ¬ c) (h : Ev g r) : Ev (fun k => if c then f k else g k) r := h.of fun k => if_neg hc
theorem Ev.sb {α β : Type} {g : Nat → α → Option β} {a : α} {b : β} (h : Ev (fun k => g k a) b) : Ev (fun k => (some a).bind (g k)) b := h.of fun k => rfl
theorem Ev.conv {α : Type} {f : Nat → Option α} {a b : α} (h : Ev f a) (e : a = b) : Ev f b := e ▸ h
def EvP {α : Type} (f : Nat → Option α) (Q : α → Prop) : Prop := ∃ r, Ev f r ∧ Q r
theorem EvP.ret {α : Type} {Q : α → Prop} {a : α} (h : Q a) : EvP (fun _ => some a) Q := ⟨a, Ev.const a, h⟩
theorem EvP.bind {α β : Type} {f : Nat → Option α} {g : Nat → α → Option β} {Q : α → Prop} {R : β → Prop} (h : EvP f Q) (h2 : ∀ a, Q a → EvP (fun k => g k a) R) : EvP (fun k => (f k).bind (g k)) R := by
 obtain ⟨a, h, q⟩ := h
 obtain ⟨b, h2, q2⟩ := h2 a q
 exact ⟨b, h.bind h2, q2⟩
theorem EvP.sb {α β : Type} {g : Nat → α → Option β} {a : α} {R : β → Prop} (h : EvP (fun k => g k a) R) : EvP (fun k => (some a).bind (g k)) R := h
theorem EvP.pos {α : Type} {c : Prop} [Decidable c] {f g : Nat → Option α} {Q : α → Prop} (hc : c) (h : EvP f Q) : EvP (fun k => if c then f k else g k) Q := by
 obtain ⟨r, h, q⟩ := h
 exact ⟨r, h.pos hc, q⟩
theorem EvP.neg {α : Type} {c : Prop} [Decidable c] {f g : Nat → Option α} {Q : α → Prop} (hc : ¬ c) (h : EvP g Q) : EvP (fun k => if c then f k else g k) Q := by
 obtain ⟨r, h, q⟩ := h
 exact ⟨r, h.neg hc, q⟩
theorem EvP.ite {α : Type} {c : Prop} [Decidable c] {f g : Nat → Option α} {Q : α → Prop} (h1 : c → EvP f Q) (h2 : ¬ c → EvP g Q) : EvP (fun k => if c then f k else g k) Q :=
 if hc : c then EvP.pos hc (h1 hc) else EvP.neg hc (h2 hc)
theorem EvP.succ {α : Type} {f : Nat → Option α} {Q : α → Prop} (h : EvP (fun k => f (k + 1)) Q) : EvP f Q := by
 obtain ⟨r, h, q⟩ := h
 exact ⟨r, h.succ, q⟩
theorem EvP.of {α : Type} {f g : Nat → Option α} {Q : α → Prop} (h : EvP f Q) (e : ∀ k, g k = f k) : EvP g Q := by
 obtain ⟨r, h, q⟩ := h
 exact ⟨r, h.of e, q⟩
theorem EvP.mono {α : Type} {f : Nat → Option α} {Q R : α → Prop} (h : EvP f Q) (hq : ∀ a, Q a → R a) : EvP f R := by
 obtain ⟨r, h, q⟩ := h
 exact ⟨r, h, hq r q⟩
theorem Ev.p {α : Type} {f : Nat → Option α} {r : α} {Q : α → Prop} (h : Ev f r) (q : Q r) : EvP f Q := ⟨r, h, q⟩
end Go.Proofs.YtimbfcedigaffaaDoor.Core
end
section
set_option linter.unusedVariables false
set_option linter.unusedSimpArgs false
namespace Go.Proofs.YtimbfcedigaffaaDoor.Core
open Go Go.RowKit Go.Proofs.YtimbfcedigaffaaDoorW.PrintWords Go.Proofs.YtimbfcedigaffaaDoorW.PrintMore Go.Proofs.YtimbfcedigaffaaDoor.P
theorem asc_ext : ∀ {a b : List Int}, ascD a = true → ascD b = true → (∀ x, x ∈ a ↔ x ∈ b) → a = b
 | [], [], _, _, _ => rfl
 | [], y :: b, _, _, h => by have := (h y).2 List.mem_cons_self; cases this
 | x :: a, [], _, _, h => by have := (h x).1 List.mem_cons_self; cases this
 | x :: a, y :: b, ha, hb, h => by
  have h1 := asc_lt ha
  have h2 := asc_lt hb
  have e : x = y := by
   rcases List.mem_cons.1 ((h x).1 List.mem_cons_self) with e | e
   ·exact e
   ·rcases List.mem_cons.1 ((h y).2 List.mem_cons_self) with e' | e'
    ·exact e'.symm
    ·have := h1.2 y e'
     have := h2.2 x e
     omega
  subst e
  rw [asc_ext h1.1 h2.1 (fun z => ⟨fun hz => ?_, fun hz => ?_⟩)]
  ·rcases List.mem_cons.1 ((h z).1 (List.mem_cons_of_mem _ hz)) with e | e
   ·have := h1.2 z hz; omega
   ·exact e
  ·rcases List.mem_cons.1 ((h z).2 (List.mem_cons_of_mem _ hz)) with e | e
   ·have := h2.2 z hz; omega
   ·exact e
theorem asc_filter (p : Nat → Bool) : ∀ (m i : Nat), ascD (up ((List.range' i m).filter p)) = true ∧ ∀ x ∈ up ((List.range' i m).filter p), (i : Int) ≤ x
 | 0, i => ⟨rfl, by simp [up]⟩
 | m + 1, i => by
  have ih := asc_filter p m (i + 1)
  rw [List.range'_succ, List.filter_cons]
  split
  ·refine ⟨asc_mk ih.1 (fun y hy => by have := ih.2 y hy; show (i : Int) < y; omega), fun x hx => ?_⟩
   rcases List.mem_cons.1 hx with rfl | hx
   ·exact Int.le_refl _
   ·have := ih.2 x hx; omega
  ·exact ⟨ih.1, fun x hx => by have := ih.2 x hx; omega⟩
theorem asc_elems (s : Nat) : ascD (up (elemsN s)) = true := by
 unfold elemsN
 rw [List.range_eq_range']
 exact (asc_filter (fun i => s.testBit i) 8 0).1
theorem rd_up' (L : List Nat) (i : Nat) : rd (up L) (i : Int) = ((L.getD i 0 : Nat) : Int) := rd_up rfl
end Go.Proofs.YtimbfcedigaffaaDoor.Core
end
section
set_option linter.unusedVariables false
set_option linter.unusedSimpArgs false
namespace Go.Proofs.YtimbfcedigaffaaDoor.Core
open Go Go.RowKit Go.Proofs.YtimbfcedigaffaaDoorW.PrintWords Go.Proofs.YtimbfcedigaffaaDoorW.PrintMore Go.Proofs.YtimbfcedigaffaaDoor.P
theorem full_of_bits {n p : Nat} (hp : p < 2 ^ n) (h : ∀ i, i < n → p.testBit i = true) : p = 2 ^ n - 1 := by
 refine Nat.eq_of_testBit_eq fun i => ?_
 rw [Nat.testBit_two_pow_sub_one]
 by_cases hi : i < n
 ·rw [h i hi]; simp [hi]
 ·rw [Nat.testBit_lt_two_pow (Nat.lt_of_lt_of_le hp (Nat.pow_le_pow_right (by omega) (by omega)))]
  simp [hi]
/-- What is known of a valid graph. -/
structure VG (g : List Tk) (G : GD) : Prop where
 tasks : G.tasks = g
 n8 : g.length ≤ 8
 nl : G.needs.length = g.length
 nb : below1 g.length G.needs
 needsD : needsD g = some G.needs
 bits : ∀ i, i < g.length → ∀ j : Nat, (G.needs.getD i 0).testBit j = decide ((j : Int) ∈ (g.getD i z39).f1)
 fine : fineD g
 ord : OrdOk G.needs G.order (2 ^ g.length - 1)
theorem vg_of {g : List Tk} {G : GD} (h : graphD g = some G) : VG g G := by
 obtain ⟨N, hN, hf, rfl⟩ := graphD_spec h
 obtain ⟨h8, hl, hb⟩ := needsD_spec hN
 have ok := orderD_ok (N := N) (by omega) (by rw [hl]; exact hb)
 rw [hf] at ok
 exact ⟨rfl, h8, hl, hb, hN, (needsD_fine hN).2, (needsD_fine hN).1, ok⟩
theorem VG.mem {g : List Tk} {G : GD} (v : VG g G) {i : Nat} : i ∈ G.order ↔ i < g.length := by
 rw [← v.ord.set i, Nat.testBit_two_pow_sub_one]
 simp
/-- There is a next task as long as not all are done. -/
theorem VG.next {g : List Tk} {G : GD} (v : VG g G) {p : Nat} (hp : p < 2 ^ g.length) (hne : p ≠ 2 ^ g.length - 1) : ∃ i, i < g.length ∧ p.testBit i = false ∧ sub (G.needs.getD i 0) p = 0 := by
 have h256 : 2 ^ g.length ≤ 256 := pow8 v.n8
 have key : ∀ (suf pre : List Nat), G.order = pre ++ suf → (∀ i ∈ pre, p.testBit i = true) → (∃ i ∈ suf, p.testBit i = false) → ∃ i, i < g.length ∧ p.testBit i = false ∧ sub (G.needs.getD i 0) p = 0 := by
  intro suf
  induction suf with
  | nil => rintro pre _ _ ⟨i, hi, _⟩; cases hi
  | cons j suf ih =>
   intro pre ho hpre hex
   by_cases hj : p.testBit j = true
   ·refine ih (pre ++ [j]) (by rw [ho]; simp) (fun i hi => ?_) ?_
    ·rcases List.mem_append.1 hi with hi | hi
     ·exact hpre i hi
     ·rw [List.mem_singleton.1 hi]; exact hj
    ·obtain ⟨i, hi, hb⟩ := hex
     rcases List.mem_cons.1 hi with rfl | hi
     ·rw [hj] at hb; cases hb
     ·exact ⟨i, hi, hb⟩
   ·have hjl : j < g.length := v.mem.1 (by rw [ho]; simp)
    refine ⟨j, hjl, by simpa using hj, ?_⟩
    have hNj := getD_lt v.nb j
    refine (sub_zero (by omega) (by omega)).2 fun k hk => ?_
    exact hpre k (v.ord.needs pre j suf ho k hk)
 refine key G.order [] rfl (by simp) ?_
 refine Decidable.byContradiction fun hno => hne (full_of_bits hp fun i hi => ?_)
 cases hb : p.testBit i with
 | true => rfl
 | false => exact absurd ⟨i, v.mem.2 hi, hb⟩ hno
theorem zb_count (p : Nat) : ∀ n, zb n p = ((List.range n).filter (fun i => !p.testBit i)).length
 | 0 => rfl
 | n + 1 => by
  rw [zb, zb_count p n, List.range_succ, List.filter_append, List.length_append]
  congr 1
  by_cases h : p.testBit n = true
  ·simp [h]
  ·simp [h]
theorem VG.needs_len {g : List Tk} {G : GD} (v : VG g G) : G.needs.length ≤ 8 := by have := v.nl; have := v.n8; omega
theorem VG.mem_ready {g : List Tk} {G : GD} (v : VG g G) {p i : Nat} : i ∈ elemsN (G.ready p) ↔ i < g.length ∧ p.testBit i = false ∧ sub (G.needs.getD i 0) p = 0 := by
 rw [Core.mem_ready v.needs_len, v.nl]
end Go.Proofs.YtimbfcedigaffaaDoor.Core
end
section
set_option linter.unusedVariables false
set_option linter.unusedSimpArgs false
namespace Go.Proofs.YtimbfcedigaffaaDoor.Core
open Go Go.RowKit Go.Proofs.YtimbfcedigaffaaDoorW.PrintWords Go.Proofs.YtimbfcedigaffaaDoorW.PrintMore Go.Proofs.YtimbfcedigaffaaDoor.P
/-- Whether a list has different tasks, none of a set, each behind its needs. -/
def ordOk (n : Nat) (N : List Nat) : List Int → Nat → Bool
 | [], _ => true
 | x :: r, s => if (0 ≤ x ∧ x ≤ (n : Int) - 1) ∧ s.testBit x.toNat = false ∧ sub (N.getD x.toNat 0) s = 0 then ordOk n N r (s ||| 2 ^ x.toNat) else false
def startGo (g : List Tk) (N : List Nat) (room : List Int) (wk : Int) : List Int → Nat → List Nat → List Nat
 | [], _, L => L
 | x :: r, pl, L => startGo g N room wk r (pl ||| 2 ^ x.toNat) (L.set x.toNat (earlD g L (N.getD x.toNat 0) pl x.toNat room wk))
theorem startGo_length (g : List Tk) (N : List Nat) (room : List Int) (wk : Int) : ∀ (r : List Int) (pl : Nat) (L : List Nat), (startGo g N room wk r pl L).length = L.length
 | [], _, _ => rfl
 | x :: r, pl, L => by
  unfold startGo
  rw [startGo_length g N room wk r, List.length_set]
theorem sub_none {a b : Nat} (ha : a < 256) (hb : b < 256) (h : sub a b = 0) : ∀ k, a.testBit k = true → b.testBit k = true := by
 intro k hk
 have h1 := sub_testBit (i := k) ha hb
 rw [h, Nat.zero_testBit, hk, Bool.true_and] at h1
 cases hb' : b.testBit k with
 | true => rfl
 | false => rw [hb'] at h1; cases h1
/-- What is known of the beginnings when j tasks have got theirs. -/
structure StOk (g : List Tk) (L : List Nat) (s j : Nat) : Prop where
 len : L.length = g.length
 over : overBy g L s (20 * j)
 le : leB (20 * j) L
theorem st_zero (g : List Tk) : StOk g (List.replicate g.length 0) 0 0 :=
 ⟨by simp, (fun k hk => by rw [Nat.zero_testBit] at hk; cases hk), fun k => by rw [List.getD_eq_getElem?_getD, List.getElem?_replicate]; split <;> simp⟩
theorem StOk.step {g : List Tk} {room : List Int} {wk : Int} (hf : Fine g room wk) {L : List Nat} {s j x nd : Nat} (h : StOk g L s j) (hx : x < g.length) (hj : j ≤ 8) (hs : ∀ k, nd.testBit k = true → s.testBit k = true) (hxs : s.testBit x = false) : StOk g (L.set x (earlD g L nd s x room wk)) (s ||| 2 ^ x) (j + 1) ∧ earlD g L nd s x room wk ≤ 20 * j := by
 have he := (earlD_le hf hx h.over (by omega) hs).1
 refine ⟨⟨by rw [List.length_set]; exact h.len, ?_, ?_⟩, he⟩
 ·intro k hk
  rw [or_bit] at hk
  by_cases e : x = k
  ·subst e
   have ht := (hf.tm x hx).2
   unfold endN
   rw [List.getD_eq_getElem?_getD, List.getElem?_set_self (by rw [h.len]; exact hx), Option.getD_some]
   omega
  ·rw [decide_eq_false e, Bool.or_false] at hk
   have := h.over k hk
   unfold endN at this ⊢
   rw [List.getD_eq_getElem?_getD, List.getElem?_set_ne e, ← List.getD_eq_getElem?_getD]
   omega
 ·intro k
  by_cases e : x = k
  ·subst e
   rw [List.getD_eq_getElem?_getD, List.getElem?_set_self (by rw [h.len]; exact hx), Option.getD_some]
   omega
  ·rw [List.getD_eq_getElem?_getD, List.getElem?_set_ne e, ← List.getD_eq_getElem?_getD]
   have := h.le k
   omega
end Go.Proofs.YtimbfcedigaffaaDoor.Core
end
section
set_option linter.unusedVariables false
set_option linter.unusedSimpArgs false
namespace Go.Proofs.YtimbfcedigaffaaDoor.Core
open Go Go.RowKit Go.Proofs.YtimbfcedigaffaaDoorW.PrintWords Go.Proofs.YtimbfcedigaffaaDoorW.PrintMore Go.Proofs.YtimbfcedigaffaaDoor.P
def ordersL (N : List Nat) : Nat → List Nat → Nat → List (List Int)
 | 0, _, _ => []
 | k + 1, L, d => if L.length = N.length then [up L] else ((List.range N.length).filter (canNext N d)).flatMap fun i => ordersL N k (L ++ [i]) (d ||| 2 ^ i)
theorem flat_le {α β : Type} {f : α → List β} {b : Nat} (h : ∀ x, (f x).length ≤ b) : ∀ l : List α, (l.flatMap f).length ≤ l.length * b
 | [] => by simp
 | x :: l => by
  have := flat_le h l
  have := h x
  simp only [List.flatMap_cons, List.length_append, List.length_cons, Nat.add_mul, Nat.one_mul]
  omega
theorem ordersL_le {N : List Nat} (hn : N.length ≤ 8) : ∀ k L d, (ordersL N k L d).length ≤ 8 ^ k
 | 0, L, d => by simp [ordersL]
 | k + 1, L, d => by
  unfold ordersL
  split
  ·exact Nat.one_le_pow _ _ (by omega)
  ·refine Nat.le_trans (flat_le (fun i => ordersL_le hn k (L ++ [i]) (d ||| 2 ^ i)) _) ?_
   rw [Nat.pow_succ, Nat.mul_comm]
   refine Nat.mul_le_mul_left _ (Nat.le_trans (List.length_filter_le _ _) ?_)
   simpa using hn
theorem ev_ord_scan {g : List Tk} (hg : Fits g) {N : List Nat} (hN : needsD g = some N) (L : List Nat) (d : Nat) (hL : L.length ≤ 100) (hd : d < 256) (hs : ∀ i, d.testBit i = true ↔ i ∈ L) (kk : Nat) (hk : kk ≤ 9) (F : Nat → List (List Int)) (hF : ∀ i, (F i).length ≤ 8 ^ kk)
  (ho : ∀ j, j < g.length → canNext N d j = true → Ev (fun k => spec_orders.f k g (up (L ++ [j]))) (F j)) : ∀ (m i : Nat) (acc : List (List Int)), i + m = g.length → acc.length ≤ i * 8 ^ kk →
  Ev (fun k => spec_orders.l0 k g (up L) acc (i : Int)) (acc ++ ((List.range' i m).filter (canNext N d)).flatMap F)
 | 0, i, acc, hi, ha => by
  refine Ev.succ ((Ev.const _).of fun k => ?_)
  rw [spec_orders.l0, if_neg (by omega)]
  simp
 | m + 1, i, acc, hi, ha => by
  have hig : i < g.length := by omega
  have h8 := (needsD_spec hN).1
  have hpow : 8 ^ kk ≤ 8 ^ 9 := Nat.pow_le_pow_right (by omega) hk
  have h89 : (8 : Nat) ^ 9 = 134217728 := by decide
  have hi8 : i * 8 ^ kk ≤ 8 * 134217728 := by
   refine Nat.mul_le_mul (by omega) ?_
   rw [← h89]; exact hpow
  have hin := ev_isIn (L := up L) (by rw [up_length]; unfold big; omega) (i : Int)
  have hdn := ev_allDone (L := (g.getD i z39).f1) (M := up L) (hg.2 _ (getD_mem hig)) (by rw [up_length]; unfold big; omega)
  have e1 : decide ((i : Int) ∈ up L) = d.testBit i := by rw [Bool.eq_iff_iff, decide_eq_true_eq, mem_up, hs]
  have e2 : decide (∀ x ∈ (g.getD i z39).f1, x ∈ up L) = decide (sub (N.getD i 0) d = 0) := by rw [decide_eq_decide]; exact done_iff hN hd hs hig
  rw [e1] at hin
  rw [e2] at hdn
  have hw : wrap64 ((i : Int) + 1) = ((i + 1 : Nat) : Int) := w64s (by unfold big; omega)
  have e3 : up (L ++ [i]) = up L ++ [(i : Int)] := by simp [up]
  have hno : canNext N d i = false → Ev (fun k => spec_orders.j1 k g (up L) acc (i : Int) false) (acc ++ ((List.range' i (m + 1)).filter (canNext N d)).flatMap F) := by
   intro hc
   have ih := ev_ord_scan hg hN L d hL hd hs kk hk F hF ho m (i + 1) acc (by omega) (Nat.le_trans ha (Nat.mul_le_mul_right _ (by omega)))
   rw [List.range'_succ, List.filter_cons, hc]
   refine Ev.succ (ih.of fun k => ?_)
   rw [spec_orders.j1, if_neg (by simp), hw]
  have hyes : canNext N d i = true → Ev (fun k => spec_orders.j1 k g (up L) acc (i : Int) true) (acc ++ ((List.range' i (m + 1)).filter (canNext N d)).flatMap F) := by
   intro hc
   have hFi := hF i
   have ih := ev_ord_scan hg hN L d hL hd hs kk hk F hF ho m (i + 1) (acc ++ F i) (by omega) (by rw [List.length_append, Nat.add_mul, Nat.one_mul]; omega)
   have hf := ho i hig hc
   have e4 : acc ++ ((List.range' i (m + 1)).filter (canNext N d)).flatMap F = (acc ++ F i) ++ ((List.range' (i + 1) m).filter (canNext N d)).flatMap F := by
    rw [List.range'_succ, List.filter_cons, hc]
    simp
   rw [e4]
   refine Ev.succ ?_
   refine (hf.bind (g := fun k t157 => if acc.length + t157.length < 5864062014805 then spec_orders.l0 k g (up L) (acc ++ t157) ((i + 1 : Nat) : Int) else none) (ih.of fun k => if_pos (by omega))).of fun k => ?_
   rw [spec_orders.j1, if_pos rfl, copyInts_eq (by rw [up_length]; unfold big; omega) (by rw [up_length]; omega), Option.bind_some, if_pos (by rw [up_length]; omega), hw, e3]
  refine Ev.succ ?_
  have hu : ∀ k, spec_orders.l0 (k + 1) g (up L) acc (i : Int) = (spec_isIn.f k (up L) (i : Int)).bind fun t148 => (if t148 = true then (spec_orders.j1 k g (up L) acc (i : Int) false) else ((spec_allDone.f k (g.getD i z39).f1 (up L)).bind fun t150 => (spec_orders.j1 k g (up L) acc (i : Int) t150))) := by
   intro k
   rw [spec_orders.l0, if_pos (show (i : Int) < (g.length : Int) by omega), if_pos (show 0 ≤ (i : Int) by omega), rdT_nat]
  refine Ev.of ?_ hu
  refine hin.bind (g := fun k t148 => (if t148 = true then (spec_orders.j1 k g (up L) acc (i : Int) false) else ((spec_allDone.f k (g.getD i z39).f1 (up L)).bind fun t150 => (spec_orders.j1 k g (up L) acc (i : Int) t150)))) ?_
  cases hbit : d.testBit i with
  | true => exact (hno (by simp [canNext, hbit])).of fun k => if_pos rfl
  | false =>
   by_cases hz : sub (N.getD i 0) d = 0
   ·rw [decide_eq_true hz] at hdn
    refine (hdn.bind (g := fun k t150 => spec_orders.j1 k g (up L) acc (i : Int) t150) (hyes (by unfold canNext; rw [hbit, decide_eq_true hz]; rfl))).of fun k => ?_
    rw [if_neg (by simp)]
   ·rw [decide_eq_false hz] at hdn
    refine (hdn.bind (g := fun k t150 => spec_orders.j1 k g (up L) acc (i : Int) t150) (hno (by unfold canNext; rw [decide_eq_false hz, Bool.and_false]))).of fun k => ?_
    rw [if_neg (by simp)]
theorem ev_orders {g : List Tk} (hg : Fits g) {N : List Nat} (hN : needsD g = some N) : ∀ (m : Nat), m ≤ 9 → ∀ (L : List Nat) (d : Nat), OrdOk N L d → zb N.length d < m → Ev (fun k => spec_orders.f k g (up L)) (ordersL N m L d) := by
 obtain ⟨h8, hl, hb⟩ := needsD_spec hN
 have hb' : below1 N.length N := by rw [hl]; exact hb
 intro m
 induction m with
 | zero => intro _ L d _ h; omega
 | succ m ih =>
  intro hm L d ok hz
  have hlen := ok.len
  have hlt := Nat.lt_of_lt_of_le ok.dlt (pow8 (n := N.length) (by omega))
  unfold ordersL
  by_cases hfull : L.length = N.length
  ·rw [if_pos hfull]
   refine Ev.succ ((Ev.const _).of fun k => ?_)
   rw [spec_orders.f, if_pos (by rw [up_length]; omega), copyInts_eq (by rw [up_length]; unfold big; omega) (by rw [up_length]; omega)]
   rfl
  ·rw [if_neg hfull]
   have h := ev_ord_scan hg hN L d (by omega) hlt ok.set m (by omega) (fun i => ordersL N m (L ++ [i]) (d ||| 2 ^ i)) (fun i => ordersL_le (by omega) _ _ _) (fun j hj hc => by
    have hc2 : d.testBit j = false ∧ sub (N.getD j 0) d = 0 := by simpa [canNext] using hc
    have hlt2 := zb_lt hc2.1 (n := N.length) (by omega)
    exact ih (by omega) (L ++ [j]) (d ||| 2 ^ j) (ok.step (by omega) hb' (by omega) hc2.1 hc2.2) (by omega)) g.length 0 [] (by omega) (by simp)
   refine Ev.succ (Ev.of (f := fun k => spec_orders.l0 k g (up L) [] ((0 : Nat) : Int)) ?_ fun k => ?_)
   ·rw [List.nil_append, ← List.range_eq_range'] at h
    rw [hl]
    exact h
   ·rw [spec_orders.f, if_neg (by rw [up_length]; omega)]
    rfl
end Go.Proofs.YtimbfcedigaffaaDoor.Core
end
section
set_option linter.unusedVariables false
set_option linter.unusedSimpArgs false
namespace Go.Proofs.YtimbfcedigaffaaDoor.Core
open Go Go.RowKit Go.Proofs.YtimbfcedigaffaaDoorW.PrintWords Go.Proofs.YtimbfcedigaffaaDoorW.PrintMore Go.Proofs.YtimbfcedigaffaaDoor.P
theorem elemsN_range' {s n : Nat} (hn : n ≤ 8) (hs : s < 2 ^ n) : elemsN s = (List.range n).filter (fun i => s.testBit i) := by
 have e8 : List.range 8 = List.range n ++ (List.range (8 - n)).map (n + ·) := by rw [← List.range_add]; congr 1; omega
 unfold elemsN
 rw [e8, List.filter_append]
 have e2 : ((List.range (8 - n)).map (n + ·)).filter (fun i => s.testBit i) = [] := by
  rw [List.filter_eq_nil_iff]
  intro y hy hb
  obtain ⟨z, _, rfl⟩ := List.mem_map.1 hy
  rw [Nat.testBit_lt_two_pow (Nat.lt_of_lt_of_le hs (Nat.pow_le_pow_right (by omega) (by omega)))] at hb
  cases hb
 rw [e2, List.append_nil]
theorem full_zb {n p : Nat} (hp : p < 2 ^ n) : zb n p = 0 ↔ p = 2 ^ n - 1 := by
 constructor
 ·intro h
  exact full_of_bits hp (zb_zero_full (n := 0) h)
 ·intro h
  rw [h]; exact zb_full _ _ (Nat.le_refl _)
end Go.Proofs.YtimbfcedigaffaaDoor.Core
end
section
set_option linter.unusedVariables false
set_option linter.unusedSimpArgs false
namespace Go.Proofs.YtimbfcedigaffaaDoor.Core
open Go Go.RowKit Go.Proofs.YtimbfcedigaffaaDoorW.PrintWords Go.Proofs.YtimbfcedigaffaaDoorW.PrintMore Go.Proofs.YtimbfcedigaffaaDoor.P
theorem VG.need_lt {g : List Tk} {G : GD} (v : VG g G) {i m : Nat} (h : (G.needs.getD i 0).testBit m = true) : m < g.length := by
 have h1 := getD_lt v.nb i
 have h2 := Nat.ge_two_pow_of_testBit h
 have h3 : 2 ^ m < 2 ^ g.length := Nat.lt_of_le_of_lt h2 h1
 exact (Nat.pow_lt_pow_iff_right (by omega)).1 h3
theorem VG.list {g : List Tk} {G : GD} (v : VG g G) {i : Nat} (hi : i < g.length) : (g.getD i z39).f1 = up (elemsN (G.needs.getD i 0)) := by
 have hg : g.getD i z39 ∈ g := by
  rw [List.getD_eq_getElem?_getD, List.getElem?_eq_getElem hi]
  exact List.getElem_mem hi
 have hf := (v.fine.1 _ hg).2
 refine asc_ext hf.2 (asc_elems _) (fun x => ?_)
 show _ ↔ x ∈ elems _
 rw [mem_elems]
 constructor
 ·intro hx
  have hb := hf.1 x hx
  have h8 := v.n8
  refine ⟨x.toNat, by omega, by omega, ?_⟩
  rw [v.bits i hi, decide_eq_true_eq, show ((x.toNat : Nat) : Int) = x by omega]
  exact hx
 ·rintro ⟨k, rfl, _, hk⟩
  rw [v.bits i hi, decide_eq_true_eq] at hk
  exact hk
end Go.Proofs.YtimbfcedigaffaaDoor.Core
end
section
set_option linter.unusedVariables false
set_option linter.unusedSimpArgs false
namespace Go.Proofs.YtimbfcedigaffaaDoor.Core
open Go Go.RowKit Go.Proofs.YtimbfcedigaffaaDoorW.PrintWords Go.Proofs.YtimbfcedigaffaaDoorW.PrintMore Go.Proofs.YtimbfcedigaffaaDoor.P
/-- The best so far, with one order more. -/
def bstep (f : List Int → Nat) (s : Option (List Int × Nat)) (o : List Int) : Option (List Int × Nat) := match s with
 | none => some (o, f o)
 | some b => if f o < b.2 then some (o, f o) else some b
/-- Whether a branch is cut. -/
def cutB (s : Option (List Int × Nat)) (e : Nat) : Bool := match s with
 | none => false
 | some b => decide (b.2 ≤ e)
/-- The program's search: the beginnings L of the list, the set d of its tasks, when they are over. -/
def fromF (g : List Tk) (N : List Nat) (room : List Int) (wk : Int) : Nat → List Nat → List Nat → Nat → Nat → Option (List Int × Nat) → Option (List Int × Nat)
 | 0, _, _, _, _, s => s
 | k + 1, lst, L, d, e, s => if cutB s e = true then s else if lst.length = N.length then some (up lst, e) else
   ((List.range N.length).filter (canNext N d)).foldl (fun s i => fromF g N room wk k (lst ++ [i]) (L.set i (earlD g L (N.getD i 0) d i room wk)) (d ||| 2 ^ i) (max e (earlD g L (N.getD i 0) d i room wk + tmN g i)) s) s
/-- When the last task of an order is over, from a place on. -/
def endGo (g : List Tk) (N : List Nat) (room : List Int) (wk : Int) : List Int → Nat → List Nat → Nat → Nat
 | [], _, _, e => e
 | x :: r, pl, L, e => endGo g N room wk r (pl ||| 2 ^ x.toNat) (L.set x.toNat (earlD g L (N.getD x.toNat 0) pl x.toNat room wk)) (max e (earlD g L (N.getD x.toNat 0) pl x.toNat room wk + tmN g x.toNat))
theorem endGo_ge (g : List Tk) (N : List Nat) (room : List Int) (wk : Int) : ∀ (r : List Int) (pl : Nat) (L : List Nat) (e : Nat), e ≤ endGo g N room wk r pl L e
 | [], _, _, _ => Nat.le_refl _
 | x :: r, pl, L, e => Nat.le_trans (Nat.le_max_left _ _) (endGo_ge g N room wk r _ _ _)
theorem fold_flat {α β γ : Type} (f : γ → β → γ) (F : α → List β) : ∀ (l : List α) (s : γ), (l.flatMap F).foldl f s = l.foldl (fun s i => (F i).foldl f s) s
 | [], _ => rfl
 | x :: l, s => by rw [List.flatMap_cons, List.foldl_append, fold_flat f F l]; rfl
theorem fold_cut (f : List Int → Nat) {s : Option (List Int × Nat)} {e : Nat} (hc : cutB s e = true) : ∀ (os : List (List Int)), (∀ o ∈ os, e ≤ f o) → os.foldl (bstep f) s = s
 | [], _ => rfl
 | o :: os, h => by
  have h1 := h o List.mem_cons_self
  have : bstep f s o = s := by
   cases s with
   | none => cases hc
   | some b =>
    have hb := of_decide_eq_true (show decide (b.2 ≤ e) = true from hc)
    show (if f o < b.2 then some (o, f o) else some b) = some b
    rw [if_neg (by omega)]
  rw [List.foldl_cons, this]
  exact fold_cut f hc os (fun o ho => h o (List.mem_cons_of_mem _ ho))
/-- All orders that begin with a list begin with it. -/
theorem ordersL_pre {N : List Nat} : ∀ (k : Nat) (lst : List Nat) (d : Nat), ∀ o ∈ ordersL N k lst d, ∃ r, o = up lst ++ r
 | 0, _, _, o, h => by cases h
 | k + 1, lst, d, o, h => by
  unfold ordersL at h
  by_cases hf : lst.length = N.length
  ·rw [if_pos hf] at h
   exact ⟨[], by rw [List.mem_singleton.1 h, List.append_nil]⟩
  ·rw [if_neg hf] at h
   obtain ⟨i, hi, ho⟩ := List.mem_flatMap.1 h
   obtain ⟨r, e⟩ := ordersL_pre k (lst ++ [i]) (d ||| 2 ^ i) o ho
   exact ⟨(i : Int) :: r, by rw [e]; simp [up]⟩
/-- Branches and bounds give the first one of the least. -/
theorem fromF_fold {g : List Tk} {N : List Nat} {room : List Int} {wk : Int} (f : List Int → Nat) : ∀ (k : Nat) (lst L : List Nat) (d e : Nat) (s : Option (List Int × Nat)), (∀ r, f (up lst ++ r) = endGo g N room wk r d L e) →
  fromF g N room wk k lst L d e s = (ordersL N k lst d).foldl (bstep f) s
 | 0, _, _, _, _, _, _ => rfl
 | k + 1, lst, L, d, e, s, hf => by
  unfold fromF
  by_cases hc : cutB s e = true
  ·rw [if_pos hc]
   refine (fold_cut f hc _ (fun o ho => ?_)).symm
   obtain ⟨r, hr⟩ := ordersL_pre (k + 1) lst d o ho
   rw [hr, hf r]
   exact endGo_ge g N room wk r d L e
  ·rw [if_neg hc]
   unfold ordersL
   by_cases hl : lst.length = N.length
   ·rw [if_pos hl, if_pos hl]
    have h0 := hf []
    rw [List.append_nil] at h0
    have h0 : f (up lst) = e := h0
    show _ = bstep f s (up lst)
    cases s with
    | none => show some (up lst, e) = some (up lst, f (up lst)); rw [h0]
    | some b =>
     have hb : ¬ b.2 ≤ e := fun h => hc (decide_eq_true h)
     show _ = (if f (up lst) < b.2 then some (up lst, f (up lst)) else some b)
     rw [h0, if_pos (by omega)]
   ·rw [if_neg hl, if_neg hl, fold_flat]
    refine congrFun (congrArg (fun F => List.foldl F s) ?_) _
    funext s i
    refine fromF_fold f k (lst ++ [i]) _ (d ||| 2 ^ i) _ s (fun r => ?_)
    have h1 := hf ((i : Int) :: r)
    rw [show up (lst ++ [i]) ++ r = up lst ++ (i : Int) :: r by simp [up], h1]
    show endGo g N room wk r (d ||| 2 ^ ((i : Nat) : Int).toNat) _ _ = _
    rw [Int.toNat_natCast]
end Go.Proofs.YtimbfcedigaffaaDoor.Core
end
section
set_option linter.unusedVariables false
set_option linter.unusedSimpArgs false
namespace Go.Proofs.YtimbfcedigaffaaDoor.Core
open Go Go.RowKit Go.Proofs.YtimbfcedigaffaaDoorW.PrintWords Go.Proofs.YtimbfcedigaffaaDoorW.PrintMore Go.Proofs.YtimbfcedigaffaaDoor.P
/-- How many units of a pool tasks take. -/
def usedN (g : List Tk) (p : Int) : List Nat → Int
 | [] => 0
 | i :: r => (if (g.getD i z39).f2 = p then (g.getD i z39).f3 else 0) + usedN g p r
def UOk (g : List Tk) (L : List Nat) : Prop := ∀ i ∈ L, 1 ≤ (g.getD i z39).f3 ∧ (g.getD i z39).f3 ≤ 4
theorem usedN_bd {g : List Tk} {p : Int} : ∀ {L : List Nat}, UOk g L → 0 ≤ usedN g p L ∧ usedN g p L ≤ 4 * L.length
 | [], _ => by simp [usedN]
 | i :: r, h => by
  have ih := usedN_bd (p := p) (L := r) (fun j hj => h j (List.mem_cons_of_mem _ hj))
  have hi := h i List.mem_cons_self
  simp only [usedN, List.length_cons]
  split <;> omega
theorem ev_used {g : List Tk} (p : Int) (L0 : List Nat) (hb : L0.length ≤ 100) (hL : ∀ i ∈ L0, i < g.length) (hu : UOk g L0) : Ev (fun k => spec_used.f k g (up L0) p) (usedN g p L0) := by
 have key : ∀ (r pre : List Nat) (acc : Int), L0 = pre ++ r → 0 ≤ acc → acc + 4 * r.length ≤ 1000 → Ev (fun k => spec_used.l0 k g (up L0) p acc (pre.length : Int)) (acc + usedN g p r) := by
  intro r
  induction r with
  | nil =>
   intro pre acc hp h0 h1
   rw [List.append_nil] at hp
   subst hp
   refine Ev.succ ?_
   simp only [spec_used.l0, up_length]
   refine Ev.neg (by omega) ((Ev.const _).conv ?_)
   simp [usedN]
  | cons i r ih =>
   intro pre acc hp h0 h1
   have hi : i < g.length := hL i (by rw [hp]; simp)
   have hui := hu i (by rw [hp]; simp)
   have hlen : L0.length = pre.length + (r.length + 1) := by rw [hp]; simp
   have hrd : rd (up L0) (pre.length : Int) = (i : Int) := by
    rw [rd_up', hp]; simp
   simp only [List.length_cons] at h1
   refine Ev.succ ?_
   simp only [spec_used.l0, up_length, hrd, rdT_nat]
   rw [w64 (n := (pre.length : Int) + 1) (by omega) (by omega)]
   refine Ev.pos (by omega) (Ev.pos (by omega) (Ev.pos (by omega) (Ev.pos (by omega) ?_)))
   by_cases h : (g.getD i z39).f2 = p
   ·refine Ev.pos h ?_
    have := ih (pre ++ [i]) (acc + (g.getD i z39).f3) (by rw [hp]; simp) (by omega) (by omega)
    rw [w64 (by omega) (by omega)]
    have e : ((pre ++ [i]).length : Int) = (pre.length : Int) + 1 := by simp
    rw [e] at this
    refine this.conv ?_
    simp only [usedN, if_pos h]
    omega
   ·refine Ev.neg h ?_
    have := ih (pre ++ [i]) acc (by rw [hp]; simp) (by omega) (by omega)
    have e : ((pre ++ [i]).length : Int) = (pre.length : Int) + 1 := by simp
    rw [e] at this
    refine this.conv ?_
    simp only [usedN, if_neg h]
    omega
 exact (key L0 [] 0 rfl (by omega) (by omega)).conv (by omega)
theorem ev_validRoom {L : List Int} (hL : L.length < big) : Ev (fun k => spec_validRoom.f k L) (decide (roomOk L)) := by
 unfold spec_validRoom.f
 by_cases h : L.length = 3
 ·refine Ev.pos (by omega) (Ev.bind (ev_allIn hL 4 8) ((Ev.const _).conv ?_))
  rw [decide_eq_decide]
  exact ⟨fun x => ⟨h, x⟩, fun x => x.2⟩
 ·refine Ev.neg (by omega) ((Ev.const _).conv ?_)
  rw [eq_comm, decide_eq_false_iff_not]
  exact fun x => h x.1
end Go.Proofs.YtimbfcedigaffaaDoor.Core
end
section
set_option linter.unusedVariables false
set_option linter.unusedSimpArgs false
namespace Go.Proofs.YtimbfcedigaffaaDoor.Core
open Go Go.RowKit Go.Proofs.YtimbfcedigaffaaDoorW.PrintWords Go.Proofs.YtimbfcedigaffaaDoorW.PrintMore Go.Proofs.YtimbfcedigaffaaDoor.P
theorem usedN_snoc (g : List Tk) (p : Int) (i : Nat) : ∀ L : List Nat, usedN g p (L ++ [i]) = usedN g p L + (if (g.getD i z39).f2 = p then (g.getD i z39).f3 else 0)
 | [] => by simp [usedN]
 | j :: L => by
  rw [List.cons_append, usedN, usedN_snoc g p i L, usedN]
  omega
/-- A counter that tells what runs. -/
structure Good (g : List Tk) (c : Cn) (now : List Nat) : Prop where
 t : c.t = (now.length : Int)
 u0 : c.u0 = usedN g 0 now
 u1 : c.u1 = usedN g 1 now
 u2 : c.u2 = usedN g 2 now
theorem Good.u {g : List Tk} {c : Cn} {now : List Nat} (h : Good g c now) {p : Int} (hp : 0 ≤ p ∧ p ≤ 2) : c.u p = usedN g p now := by
 unfold Cn.u
 by_cases h0 : p = 0
 ·subst h0; exact h.u0
 ·by_cases h1 : p = 1
  ·subst h1; exact h.u1
  ·obtain rfl : p = 2 := by omega
   exact h.u2
theorem Good.add {g : List Tk} {c : Cn} {now : List Nat} {i : Nat} (h : Good g c now) (hu : UOk g now) (hi : 1 ≤ (g.getD i z39).f3 ∧ (g.getD i z39).f3 ≤ 4) (hl : now.length ≤ 100) : Good g (c.add (g.getD i z39).f2 (g.getD i z39).f3 1) (now ++ [i]) := by
 have b0 := usedN_bd (p := 0) hu
 have b1 := usedN_bd (p := 1) hu
 have b2 := usedN_bd (p := 2) hu
 have h0 := h.u0
 have h1 := h.u1
 have h2 := h.u2
 refine ⟨?_, ?_, ?_, ?_⟩
 ·simp only [Cn.add]
  rw [h.t, w64 (by omega) (by omega), List.length_append, List.length_singleton]
  omega
 ·rw [usedN_snoc]; simp only [Cn.add]; split <;> (first | (rw [w64 (n := 1 * _) (by omega) (by omega), w64 (by omega) (by omega)]; omega) | omega)
 ·rw [usedN_snoc]; simp only [Cn.add]; split <;> (first | (rw [w64 (n := 1 * _) (by omega) (by omega), w64 (by omega) (by omega)]; omega) | omega)
 ·rw [usedN_snoc]; simp only [Cn.add]; split <;> (first | (rw [w64 (n := 1 * _) (by omega) (by omega), w64 (by omega) (by omega)]; omega) | omega)
end Go.Proofs.YtimbfcedigaffaaDoor.Core
end
section
set_option linter.unusedVariables false
set_option linter.unusedSimpArgs false
namespace Go.Proofs.YtimbfcedigaffaaDoor.Core
open Go Go.RowKit Go.Proofs.YtimbfcedigaffaaDoorW.PrintWords Go.Proofs.YtimbfcedigaffaaDoorW.PrintMore Go.Proofs.YtimbfcedigaffaaDoor.P
/-- The reference's beginnings: 200 for a task that has none. -/
def specS (L : List Nat) (pl n : Nat) : List Int := (List.range n).map (fun k => if pl.testBit k = true then ((L.getD k 0 : Nat) : Int) else 200)
theorem specS_length (L : List Nat) (pl n : Nat) : (specS L pl n).length = n := by simp [specS]
theorem specS_rd {L : List Nat} {pl n k : Nat} (hk : k < n) : rd (specS L pl n) (k : Int) = if pl.testBit k = true then ((L.getD k 0 : Nat) : Int) else 200 := by
 unfold rd specS
 rw [Int.toNat_natCast, List.getD_eq_getElem?_getD, List.getElem?_map, List.getElem?_range hk]
 rfl
/-- What runs at a time. -/
def runL (g : List Tk) (L : List Nat) (pl n t : Nat) : List Nat := (List.range n).filter (fun k => pl.testBit k && runsAt g L t k)
theorem runL_elems {g : List Tk} {L : List Nat} {pl n t : Nat} (h8 : n ≤ 8) (hpl : pl < 2 ^ n) : (elemsN pl).filter (runsAt g L t) = runL g L pl n t := by
 rw [elemsN_range' h8 hpl, List.filter_filter]
 unfold runL
 congr 1
 funext k
 exact Bool.and_comm _ _
theorem runL_len (g : List Tk) (L : List Nat) (pl n t : Nat) : (runL g L pl n t).length ≤ n := by
 have := List.length_filter_le (fun k => pl.testBit k && runsAt g L t k) (List.range n)
 rw [List.length_range] at this
 exact this
theorem runL_lt {g : List Tk} {L : List Nat} {pl n t : Nat} : ∀ i ∈ runL g L pl n t, i < n := fun i hi => List.mem_range.1 (List.mem_filter.1 hi).1
theorem ev_runningAt {g : List Tk} (htok : ∀ t ∈ g, taskOk t) (h8 : g.length ≤ 8) {L : List Nat} {pl t : Nat} (hLb : leB 200 L) (ht : t < 200) : Ev (fun k => spec_runningAt.f k g (specS L pl g.length) (t : Int)) (up (runL g L pl g.length t)) := by
 unfold spec_runningAt.f
 have key : ∀ (d i : Nat) (X : List Nat), X = runL g L pl i t → i + d = g.length → Ev (fun k => spec_runningAt.l0 k g (specS L pl g.length) (t : Int) (up X) (i : Int)) (up (runL g L pl g.length t)) := by
  intro d
  induction d with
  | zero =>
   intro i X hX h
   refine Ev.succ ?_
   simp only [spec_runningAt.l0]
   have hi : i = g.length := by omega
   rw [hX, hi]
   exact Ev.neg (by omega) (Ev.const _)
  | succ d ih =>
   intro i X hX h
   have hig : i < g.length := by omega
   have hw : wrap64 ((i : Int) + 1) = ((i + 1 : Nat) : Int) := w64s (by unfold big; omega)
   have hlen : (up X).length < 17592186044416 := by
    rw [up_length, hX]
    exact Nat.lt_of_le_of_lt (runL_len g L pl i t) (Nat.lt_trans hig (Nat.lt_of_le_of_lt h8 (by decide)))
   have hsn : up (X ++ [i]) = up X ++ [(i : Int)] := by simp [up]
   have hrd := specS_rd (L := L) (pl := pl) hig
   have htm := tm_int htok hig
   have hls := hLb i
   have hadd := (wadd (a := L.getD i 0) (b := tmN g i) (by omega) (by omega)).1
   have hsp : ∀ b : Bool, (pl.testBit i && runsAt g L t i) = b → runL g L pl (i + 1) t = runL g L pl i t ++ (if b = true then [i] else []) := by
    intro b hb
    unfold runL
    rw [List.range_succ, List.filter_append]
    cases b with
    | true => rw [List.filter_cons_of_pos (p := fun k => pl.testBit k && runsAt g L t k) hb, List.filter_nil, if_pos rfl]
    | false => rw [List.filter_cons_of_neg (p := fun k => pl.testBit k && runsAt g L t k) (by show ¬ (pl.testBit i && runsAt g L t i) = true; rw [hb]; exact Bool.false_ne_true), List.filter_nil, if_neg Bool.false_ne_true]
   have hyes : (pl.testBit i && runsAt g L t i) = true → Ev (fun k => spec_runningAt.l0 k g (specS L pl g.length) (t : Int) (up X ++ [(i : Int)]) ((i + 1 : Nat) : Int)) (up (runL g L pl g.length t)) := fun hb => by
    rw [← hsn]
    exact ih (i + 1) (X ++ [i]) (by rw [hX, hsp _ hb, if_pos rfl]) (by omega)
   have hno : (pl.testBit i && runsAt g L t i) = false → Ev (fun k => spec_runningAt.l0 k g (specS L pl g.length) (t : Int) (up X) ((i + 1 : Nat) : Int)) (up (runL g L pl g.length t)) := fun hb => ih (i + 1) X (by rw [hX, hsp _ hb, if_neg Bool.false_ne_true, List.append_nil]) (by omega)
   clear ih hX hsp
   refine Ev.succ ?_
   simp only [spec_runningAt.l0, hw, hrd, rdT_nat, htm.1]
   refine Ev.pos (by omega) (Ev.pos (by omega) (Ev.pos (by rw [specS_length]; omega) ?_))
   cases hp : pl.testBit i with
   | true =>
    rw [hp, Bool.true_and] at hyes hno
    simp only [if_true, hadd]
    by_cases h1 : L.getD i 0 ≤ t
    ·refine Ev.pos (Int.ofNat_le.2 h1) ?_
     by_cases h2 : t < L.getD i 0 + tmN g i
     ·exact Ev.pos (Int.ofNat_lt.2 h2) (Ev.pos hlen (hyes (by unfold runsAt endN; rw [decide_eq_true h1, decide_eq_true h2]; rfl)))
     ·exact Ev.neg (fun h => h2 (Int.ofNat_lt.1 h)) (hno (by unfold runsAt endN; rw [decide_eq_false h2, Bool.and_false]))
    ·exact Ev.neg (fun h => h1 (Int.ofNat_le.1 h)) (hno (by unfold runsAt; rw [decide_eq_false h1, Bool.false_and]))
   | false =>
    rw [hp, Bool.false_and] at hno
    simp only [Bool.false_eq_true, if_false]
    exact Ev.neg (fun h => by clear hlen; omega) (hno rfl)
 exact key g.length 0 [] rfl (by omega)
theorem cnt_good {g : List Tk} {L : List Nat} {t : Nat} (hu : ∀ i, i < g.length → 1 ≤ (g.getD i z39).f3 ∧ (g.getD i z39).f3 ≤ 4) : ∀ (ks : List Nat) (c : Cn) (nl : List Nat), Good g c nl → (∀ i ∈ nl, i < g.length) → (∀ i ∈ ks, i < g.length) → nl.length + ks.length ≤ 100 → Good g (ks.foldl (cntStep g L t) c) (nl ++ ks.filter (runsAt g L t))
 | [], c, nl, h, _, _, _ => by simpa using h
 | k :: ks, c, nl, h, h1, h2, h3 => by
  rw [List.length_cons] at h3
  rw [List.foldl_cons]
  have hk := h2 k List.mem_cons_self
  cases hr : runsAt g L t k with
  | true =>
   have e : cntStep g L t c k = c.add (g.getD k z39).f2 (g.getD k z39).f3 1 := by unfold cntStep; rw [if_pos hr]; rfl
   rw [e, List.filter_cons_of_pos hr, show nl ++ k :: ks.filter (runsAt g L t) = (nl ++ [k]) ++ ks.filter (runsAt g L t) by simp]
   exact cnt_good hu ks _ _ (h.add (fun i hi => hu i (h1 i hi)) (hu k hk) (by omega)) (fun i hi => by
    rcases List.mem_append.1 hi with hi | hi
    ·exact h1 i hi
    ·rw [List.mem_singleton.1 hi]; exact hk) (fun i hi => h2 i (List.mem_cons_of_mem _ hi)) (by rw [List.length_append, List.length_singleton]; omega)
  | false =>
   have e : cntStep g L t c k = c := by unfold cntStep; rw [if_neg (by rw [hr]; exact Bool.false_ne_true)]
   rw [e, List.filter_cons_of_neg (by rw [hr]; exact Bool.false_ne_true)]
   exact cnt_good hu ks c nl h h1 (fun i hi => h2 i (List.mem_cons_of_mem _ hi)) (by omega)
theorem freeB_eq {g : List Tk} {room : List Int} {wk : Int} (hf : Fine g room wk) (h8 : g.length ≤ 8) {L : List Nat} {pl i t : Nat} (hi : i < g.length) (hpl : pl < 2 ^ g.length) : freeB g L pl i room wk t = (decide (((runL g L pl g.length t).length : Int) < wk) && decide (wrap64 (usedN g (g.getD i z39).f2 (runL g L pl g.length t) + (g.getD i z39).f3) ≤ rd room (g.getD i z39).f2)) := by
 have hz : Good g Cn.zero [] := ⟨rfl, rfl, rfl, rfl⟩
 have hel := elemsN_length pl
 have hg := cnt_good (L := L) (t := t) hf.units (elemsN pl) Cn.zero [] hz (by simp) (fun k hk => by
  have h2 := (mem_elemsN.1 hk).2
  have h4 : 2 ^ k < 2 ^ g.length := Nat.lt_of_le_of_lt (Nat.ge_two_pow_of_testBit h2) hpl
  exact (Nat.pow_lt_pow_iff_right (by omega)).1 h4) (by simp; omega)
 rw [List.nil_append, runL_elems h8 hpl] at hg
 have hp := hf.pool i hi
 show takesB (cntOf g L pl t) _ _ room wk = _
 unfold takesB
 rw [show (cntOf g L pl t).t = _ from hg.t, show (cntOf g L pl t).u _ = _ from hg.u hp]
theorem ev_fits {g : List Tk} {room : List Int} {wk : Int} (hf : Fine g room wk) (htok : ∀ t ∈ g, taskOk t) (h8 : g.length ≤ 8) {L : List Nat} {pl i a : Nat} (hi : i < g.length) (hpl : pl < 2 ^ g.length) (hLb : leB 200 L) (ha : a + tmN g i < 200) : ∀ (d now : Nat), now + d = a + tmN g i → Ev (fun k => spec_fits.l0 k g room wk (specS L pl g.length) (i : Int) (a : Int) (now : Int)) (freeN g L pl i room wk d now)
 | 0, now, h => by
  have htm := tm_int htok hi
  have hadd := (wadd (a := a) (b := tmN g i) (by omega) (by omega)).1
  refine Ev.succ ?_
  simp only [spec_fits.l0, rdT_nat, htm.1, hadd]
  exact Ev.pos (by omega) (Ev.pos (by omega) (Ev.neg (by omega) (Ev.const _)))
 | d + 1, now, h => by
  have hn200 : now < 200 := Nat.lt_of_le_of_lt (by rw [← h]; exact Nat.le_add_right _ _) ha
  have htm := tm_int htok hi
  have hadd := (wadd (a := a) (b := tmN g i) (by omega) (by omega)).1
  have hw : wrap64 ((now : Int) + 1) = ((now + 1 : Nat) : Int) := w64s (by unfold big; omega)
  have hr := ev_runningAt htok h8 (pl := pl) hLb hn200
  have hp := hf.pool i hi
  have h3 := hf.room.1
  have hlen := runL_len g L pl g.length now
  have hus := ev_used (g := g) (g.getD i z39).f2 (runL g L pl g.length now) (by omega) runL_lt (fun k hk => hf.units k (runL_lt k hk))
  have hfb := freeB_eq (L := L) (pl := pl) (t := now) hf h8 hi hpl
  have hfn : freeN g L pl i room wk (d + 1) now = (freeB g L pl i room wk now && freeN g L pl i room wk d (now + 1)) := rfl
  rw [hfn, hfb]
  refine Ev.succ ?_
  simp only [spec_fits.l0, rdT_nat, htm.1, hadd, hw]
  refine Ev.pos (Int.natCast_nonneg i) (Ev.pos (Int.ofNat_lt.2 hi) (Ev.pos (Int.ofNat_lt.2 (by rw [← h]; exact Nat.lt_add_of_pos_right (Nat.succ_pos d))) (Ev.bind hr ?_)))
  rw [up_length]
  by_cases h1 : ((runL g L pl g.length now).length : Int) < wk
  ·rw [decide_eq_true h1, Bool.true_and]
   refine Ev.neg (Int.not_le.2 h1) (Ev.bind hus (Ev.pos hp.1 (Ev.pos (by rw [h3]; exact Int.lt_of_le_of_lt hp.2 (by decide)) ?_)))
   by_cases h2 : wrap64 (usedN g (g.getD i z39).f2 (runL g L pl g.length now) + (g.getD i z39).f3) ≤ rd room (g.getD i z39).f2
   ·rw [decide_eq_true h2, Bool.true_and]
    exact Ev.neg (Int.not_lt.2 h2) (ev_fits hf htok h8 hi hpl hLb ha d (now + 1) (by rw [← h, Nat.add_assoc, Nat.add_comm 1 d]))
   ·rw [decide_eq_false h2, Bool.false_and]
    exact Ev.pos (Int.not_le.1 h2) (Ev.const _)
  ·rw [decide_eq_false h1, Bool.false_and, Bool.false_and]
   exact Ev.pos (Int.not_lt.1 h1) (Ev.const _)
end Go.Proofs.YtimbfcedigaffaaDoor.Core
end
section
set_option linter.unusedVariables false
set_option linter.unusedSimpArgs false
namespace Go.Proofs.YtimbfcedigaffaaDoor.Core
open Go Go.RowKit Go.Proofs.YtimbfcedigaffaaDoorW.PrintWords Go.Proofs.YtimbfcedigaffaaDoorW.PrintMore Go.Proofs.YtimbfcedigaffaaDoor.P
theorem mx_natO (a b : Nat) : mx (a : Int) (b : Int) = ((max a b : Nat) : Int) := by unfold mx; split <;> omega
/-- The beginnings with one more. -/
theorem specS_set {L : List Nat} {pl n x e : Nat} (hx : x < n) (hl : L.length = n) : (specS L pl n).set x ((e : Nat) : Int) = specS (L.set x e) (pl ||| 2 ^ x) n := by
 unfold specS
 refine List.ext_getElem (by simp) fun k h1 h2 => ?_
 have hk : k < n := by simpa using h2
 rw [List.getElem_set]
 simp only [List.getElem_map, List.getElem_range, or_bit]
 by_cases e1 : x = k
 ·subst e1
  rw [if_pos rfl, if_pos (by simp), List.getD_eq_getElem?_getD, List.getElem?_set_self (by omega), Option.getD_some]
 ·rw [if_neg e1, decide_eq_false e1, Bool.or_false, List.getD_eq_getElem?_getD (l := L.set x e), List.getElem?_set_ne e1, ← List.getD_eq_getElem?_getD]
theorem specS_full {L : List Nat} {pl n : Nat} (hn : n ≤ 8) (hpl : pl < 2 ^ n) (hz : zb n pl = 0) (hl : L.length = n) : specS L pl n = up L := by
 have hfull := (full_zb hpl).1 hz
 unfold specS up
 refine List.ext_getElem (by simp [hl]) fun k h1 h2 => ?_
 have hk : k < n := by simpa using h1
 simp only [List.getElem_map, List.getElem_range]
 rw [if_pos (by rw [hfull, Nat.testBit_two_pow_sub_one]; simpa using hk), List.getD_eq_getElem?_getD, List.getElem?_eq_getElem (by omega), Option.getD_some]
 rfl
theorem zb_orO {n s k : Nat} (hk : k < n) (hb : s.testBit k = false) : zb n (s ||| 2 ^ k) + 1 ≤ zb n s := by
 have h1 : ∀ m, zb m (s ||| 2 ^ k) + (if k < m then 1 else 0) ≤ zb m s := by
  intro m
  rw [zb_count, zb_count]
  induction m with
  | zero => simp
  | succ m ih =>
   rw [List.range_succ, List.filter_append, List.filter_append, List.length_append, List.length_append]
   have hm : (s ||| 2 ^ k).testBit m = (s.testBit m || decide (k = m)) := or_bit _ _ _
   by_cases e : k = m
   ·subst e
    rw [List.filter_cons_of_neg (by rw [hm]; simp), List.filter_cons_of_pos (by rw [hb]; rfl)]
    simp only [List.filter_nil, List.length_nil, List.length_singleton]
    rw [if_neg (Nat.lt_irrefl _)] at ih
    rw [if_pos (Nat.lt_succ_self _)]
    omega
   ·have hle : ((([m] : List Nat).filter (fun i => !(s ||| 2 ^ k).testBit i))).length = (([m] : List Nat).filter (fun i => !s.testBit i)).length := by
     simp only [List.filter_cons, List.filter_nil, hm, decide_eq_false e, Bool.or_false]
    rw [hle]
    by_cases hkm : k < m
    ·rw [if_pos hkm] at ih
     rw [if_pos (by omega)]
     omega
    ·rw [if_neg hkm] at ih
     rw [if_neg (by omega)]
     omega
 have := h1 n
 rw [if_pos hk] at this
 exact this
theorem ev_ord3 {g : List Tk} {room : List Int} {wk : Int} (hf : Fine g room wk) (htok : ∀ t ∈ g, taskOk t) (h8 : g.length ≤ 8) {L : List Nat} {pl i : Nat} (hi : i < g.length) (hpl : pl < 2 ^ g.length) (hLb : leB 200 L) {idx : Int} {list RES : List Int} : ∀ (F f a : Nat), F ≤ f → freeN g L pl i room wk (tmN g i) (a + F) = true → a + F < 180 → Ev (fun k => spec_order.l1 k g room wk list ((specS L pl g.length).set i ((earlN g L pl i room wk f a : Nat) : Int)) (wrap64 (idx + 1))) RES → Ev (fun k => spec_order.l3 k g room wk list (specS L pl g.length) idx (i : Int) (a : Int)) RES := by
 intro F
 induction F with
 | zero =>
  intro f a _ hfr hlt hn
  rw [Nat.add_zero] at hfr hlt
  have ht := (hf.tm i hi).2
  have hfits : Ev (fun k => spec_fits.f k g room wk (specS L pl g.length) (i : Int) (a : Int)) (freeN g L pl i room wk (tmN g i) a) := ev_fits hf htok h8 hi hpl hLb (by omega) (tmN g i) a rfl
  have e : earlN g L pl i room wk f a = a := by
   cases f with
   | zero => rfl
   | succ f => unfold earlN; rw [if_pos hfr]
  rw [e] at hn
  rw [hfr] at hfits
  refine Ev.succ ?_
  simp only [spec_order.l3]
  refine Ev.bind hfits (Ev.pos rfl (Ev.pos (Int.natCast_nonneg i) (Ev.pos (by rw [specS_length]; exact Int.ofNat_lt.2 hi) ?_)))
  rw [Int.toNat_natCast]
  exact hn
 | succ F ih =>
  intro f a hFf hfr hlt hn
  have ht := (hf.tm i hi).2
  have hfits : Ev (fun k => spec_fits.f k g room wk (specS L pl g.length) (i : Int) (a : Int)) (freeN g L pl i room wk (tmN g i) a) := ev_fits hf htok h8 hi hpl hLb (by omega) (tmN g i) a rfl
  have hw : wrap64 ((a : Int) + 1) = ((a + 1 : Nat) : Int) := w64s (by unfold big; omega)
  cases hfa : freeN g L pl i room wk (tmN g i) a with
  | true =>
   have e : earlN g L pl i room wk f a = a := by
    cases f with
    | zero => rfl
    | succ f => unfold earlN; rw [if_pos hfa]
   rw [e] at hn
   rw [hfa] at hfits
   refine Ev.succ ?_
   simp only [spec_order.l3]
   refine Ev.bind hfits (Ev.pos rfl (Ev.pos (Int.natCast_nonneg i) (Ev.pos (by rw [specS_length]; exact Int.ofNat_lt.2 hi) ?_)))
   rw [Int.toNat_natCast]
   exact hn
  | false =>
   obtain ⟨f', rfl⟩ : ∃ f', f = f' + 1 := ⟨f - 1, by omega⟩
   have e : earlN g L pl i room wk (f' + 1) a = earlN g L pl i room wk f' (a + 1) := by rw [earlN, if_neg (by rw [hfa]; exact Bool.false_ne_true)]
   rw [e] at hn
   rw [hfa] at hfits
   refine Ev.succ ?_
   simp only [spec_order.l3, hw]
   exact Ev.bind hfits (Ev.neg Bool.false_ne_true (ih f' (a + 1) (by omega) (by rw [show a + 1 + F = a + (F + 1) by omega]; exact hfr) (by omega) hn))
theorem ev_ord2 {g : List Tk} {room : List Int} {wk : Int} (htok : ∀ t ∈ g, taskOk t) {L : List Nat} {pl i nd : Nat} (hi : i < g.length) (hLb : leB 200 L) (htm : tm20 g) (hfl : (g.getD i z39).f1 = up (elemsN nd)) (hnd : ∀ j ∈ elemsN nd, j < g.length ∧ pl.testBit j = true) {idx : Int} {list RES : List Int} (hn : Ev (fun k => spec_order.l3 k g room wk list (specS L pl g.length) idx (i : Int) ((needEnd g L nd : Nat) : Int)) RES) : ∀ (r pre : List Nat), elemsN nd = pre ++ r → Ev (fun k => spec_order.l2 k g room wk list (specS L pl g.length) idx (i : Int) ((pre.foldl (eStep g L) 0 : Nat) : Int) (pre.length : Int)) RES := by
 intro r
 induction r with
 | nil =>
  intro pre hp
  rw [List.append_nil] at hp
  refine Ev.succ ?_
  simp only [spec_order.l2, rdT_nat, hfl, up_length]
  refine Ev.pos (Int.natCast_nonneg i) (Ev.pos (Int.ofNat_lt.2 hi) (Ev.neg (by rw [hp]; exact Int.lt_irrefl _) ?_))
  rw [← hp]
  exact hn
 | cons j r ih =>
  intro pre hp
  have hel := elemsN_length nd
  have hlen : (elemsN nd).length = pre.length + (r.length + 1) := by rw [hp]; simp
  have hrd : rd (up (elemsN nd)) (pre.length : Int) = (j : Int) := by rw [rd_up (i := pre.length) rfl, hp]; simp
  have hw : wrap64 ((pre.length : Int) + 1) = ((pre ++ [j]).length : Int) := by rw [w64s (by unfold big; omega)]; simp
  obtain ⟨hjn, hjp⟩ := hnd j (by rw [hp]; simp)
  have hrs := specS_rd (L := L) (pl := pl) hjn
  rw [if_pos hjp] at hrs
  have htj := tm_int htok hjn
  have hlj := hLb j
  have hadd := (wadd (a := L.getD j 0) (b := tmN g j) (by omega) (by omega)).1
  have hfold : ((pre ++ [j]).foldl (eStep g L) 0) = max (pre.foldl (eStep g L) 0) (L.getD j 0 + tmN g j) := by rw [List.foldl_append]; rfl
  have hnx := ih (pre ++ [j]) (by rw [hp]; simp)
  rw [hfold] at hnx
  refine Ev.succ ?_
  simp only [spec_order.l2, rdT_nat, hfl, hrd, hw, hrs, htj.1, hadd, mx_natO]
  exact Ev.pos (Int.natCast_nonneg i) (Ev.pos (Int.ofNat_lt.2 hi) (Ev.pos (by rw [up_length]; exact Int.ofNat_lt.2 (by omega)) (Ev.pos (Int.natCast_nonneg _) (Ev.pos (Int.natCast_nonneg j) (Ev.pos (by rw [specS_length]; exact Int.ofNat_lt.2 hjn) (Ev.pos (Int.ofNat_lt.2 hjn) hnx))))))
theorem ev_ord1 {g : List Tk} {G : GD} (v : VG g G) {room : List Int} {wk : Int} (hf : Fine g room wk) (htok : ∀ t ∈ g, taskOk t) (h5 : g.length ≤ 5) {list : List Int} (hll : list.length = g.length) : ∀ (r pre : List Int) (pl : Nat) (L : List Nat), list = pre ++ r → ordOk g.length G.needs r pl = true → StOk g L pl pre.length → pl < 2 ^ g.length → zb g.length pl + pre.length ≤ g.length → Ev (fun k => spec_order.l1 k g room wk list (specS L pl g.length) (pre.length : Int)) (up (startGo g G.needs room wk r pl L)) := by
 intro r
 induction r with
 | nil =>
  intro pre pl L hp _ hst hpl hz
  rw [List.append_nil] at hp
  have hlp : pre.length = g.length := by rw [← hp]; exact hll
  have hfull := specS_full v.n8 hpl (show zb g.length pl = 0 by omega) hst.len
  refine Ev.succ ?_
  simp only [spec_order.l1]
  refine Ev.neg (by rw [hp]; exact Int.lt_irrefl _) ?_
  rw [hfull]
  exact Ev.const _
 | cons y r ih =>
  intro pre pl L hp hord hst hpl hz
  have hlen : list.length = pre.length + (r.length + 1) := by rw [hp]; simp
  have hrd : rd list (pre.length : Int) = y := by unfold rd; rw [Int.toNat_natCast, hp]; simp
  unfold ordOk at hord
  by_cases hc : (0 ≤ y ∧ y ≤ (g.length : Int) - 1) ∧ pl.testBit y.toNat = false ∧ sub (G.needs.getD y.toNat 0) pl = 0
  ·rw [if_pos hc] at hord
   obtain ⟨hin, hsk, hsz⟩ := hc
   obtain ⟨x, rfl⟩ := Int.eq_ofNat_of_zero_le hin.1
   rw [Int.toNat_natCast] at hord hsk hsz
   have hx : x < g.length := by omega
   have h256 := pow8 v.n8
   have hNx := getD_lt v.nb x
   have hsubs := sub_none (Nat.lt_of_lt_of_le hNx h256) (Nat.lt_of_lt_of_le hpl h256) hsz
   have hj5 : pre.length ≤ 5 := by omega
   obtain ⟨hst2, he20⟩ := hst.step hf hx (by omega) hsubs hsk
   obtain ⟨-, -, -, hfr⟩ := earlD_le hf hx hst.over (by omega) hsubs
   have hzb := zb_orO hx hsk
   have hle200 : leB 200 L := leB_mono hst.le (by omega)
   have hneL := needEnd_le hst.over hsubs
   have hw : wrap64 ((pre.length : Int) + 1) = ((pre ++ [((x : Nat) : Int)]).length : Int) := by rw [w64s (by unfold big; omega)]; simp
   have hih := ih (pre ++ [((x : Nat) : Int)]) (pl ||| 2 ^ x) (L.set x (earlD g L (G.needs.getD x 0) pl x room wk)) (by rw [hp]; simp) hord (by rw [List.length_append, List.length_singleton]; exact hst2) (Nat.or_lt_two_pow hpl (Nat.pow_lt_pow_right (by omega) hx)) (by rw [List.length_append, List.length_singleton]; omega)
   rw [← specS_set hx hst.len, ← hw] at hih
   have hres : startGo g G.needs room wk (((x : Nat) : Int) :: r) pl L = startGo g G.needs room wk r (pl ||| 2 ^ x) (L.set x (earlD g L (G.needs.getD x 0) pl x room wk)) := by
    show startGo g G.needs room wk r (pl ||| 2 ^ ((x : Nat) : Int).toNat) (L.set ((x : Nat) : Int).toNat (earlD g L (G.needs.getD ((x : Nat) : Int).toNat 0) pl ((x : Nat) : Int).toNat room wk)) = _
    rw [Int.toNat_natCast]
   rw [hres]
   have h3 := ev_ord3 (list := list) (idx := (pre.length : Int)) hf htok v.n8 hx hpl hle200 (20 * pre.length - needEnd g L (G.needs.getD x 0)) 400 (needEnd g L (G.needs.getD x 0)) (by omega) hfr (by omega) hih
   have h2 := ev_ord2 (room := room) (wk := wk) (list := list) (idx := (pre.length : Int)) htok hx hle200 (tm20_of htok) (v.list hx) (fun j hj => by
    have hb := (mem_elemsN.1 hj).2
    exact ⟨v.need_lt hb, hsubs j hb⟩) h3 (elemsN (G.needs.getD x 0)) [] rfl
   refine Ev.succ ?_
   simp only [spec_order.l1, hrd]
   exact Ev.pos (Int.ofNat_lt.2 (by omega)) (Ev.pos (Int.natCast_nonneg _) h2)
  ·rw [if_neg hc] at hord; cases hord
theorem ev_ord0 {g : List Tk} {room : List Int} {wk : Int} (h8 : g.length ≤ 8) {list RES : List Int} (hn : Ev (fun k => spec_order.l1 k g room wk list (specS (List.replicate g.length 0) 0 g.length) ((0 : Nat) : Int)) RES) : ∀ (d i : Nat) (X : List Int), X.length = g.length → i + d = g.length → (∀ k, k < i → X.getD k 0 = 200) → Ev (fun k => spec_order.l0 k g room wk list X (i : Int)) RES := by
 intro d
 induction d with
 | zero =>
  intro i X hX h hk
  have hi : i = g.length := by omega
  have e : X = specS (List.replicate g.length 0) 0 g.length := by
   refine List.ext_getElem (by rw [hX, specS_length]) fun k h1 h2 => ?_
   have hkx := hk k (by omega)
   rw [List.getD_eq_getElem?_getD, List.getElem?_eq_getElem h1, Option.getD_some] at hkx
   rw [hkx]
   unfold specS
   simp only [List.getElem_map, List.getElem_range, Nat.zero_testBit]
   rfl
  refine Ev.succ ?_
  simp only [spec_order.l0]
  refine Ev.neg (by rw [hX, hi]; exact Int.lt_irrefl _) ?_
  rw [e]
  exact hn
 | succ d ih =>
  intro i X hX h hk
  have hw : wrap64 ((i : Int) + 1) = ((i + 1 : Nat) : Int) := w64s (by unfold big; omega)
  refine Ev.succ ?_
  simp only [spec_order.l0, hw]
  refine Ev.pos (by rw [hX]; exact Int.ofNat_lt.2 (by omega)) (Ev.pos (Int.natCast_nonneg i) ?_)
  rw [Int.toNat_natCast]
  refine ih (i + 1) _ (by rw [List.length_set, hX]) (by omega) (fun k hki => ?_)
  by_cases e : i = k
  ·subst e
   rw [List.getD_eq_getElem?_getD, List.getElem?_set_self (by omega), Option.getD_some]
  ·rw [List.getD_eq_getElem?_getD, List.getElem?_set_ne e, ← List.getD_eq_getElem?_getD]
   exact hk k (by omega)
theorem ev_orderS {g : List Tk} {G : GD} (v : VG g G) {room : List Int} {wk : Int} (hf : Fine g room wk) (htok : ∀ t ∈ g, taskOk t) (h5 : g.length ≤ 5) {list : List Int} (hll : list.length = g.length) (hord : ordOk g.length G.needs list 0 = true) : Ev (fun k => spec_order.f k g room wk list) (up (startGo g G.needs room wk list 0 (List.replicate g.length 0))) := by
 have hz0 : zb g.length 0 ≤ g.length := by
  rw [zb_count]
  have := List.length_filter_le (fun i => !(0 : Nat).testBit i) (List.range g.length)
  rw [List.length_range] at this
  exact this
 have h1 := ev_ord1 v hf htok h5 hll list [] 0 (List.replicate g.length 0) rfl hord (st_zero g) (Nat.two_pow_pos _) (by simpa using hz0)
 unfold spec_order.f
 refine Ev.pos (Int.natCast_nonneg _) (Ev.pos (by rw [Int.toNat_natCast]; exact Nat.le_trans h5 (by decide)) ?_)
 rw [Int.toNat_natCast]
 exact ev_ord0 v.n8 h1 g.length 0 _ (by simp) (by omega) (fun k hk => absurd hk (Nat.not_lt_zero k))
theorem ev_validSearch {g : List Tk} (hg : Fits g) {room : List Int} (hr : room.length < big) (wk : Int) : Ev (fun k => spec_validSearch.f k g room wk) (fewD g room wk).isSome := by
 unfold spec_validSearch.f
 refine Ev.bind (ev_validGraph hg) ?_
 unfold fewD placeD
 cases hG : graphD g with
 | none =>
  refine Ev.neg (by simp) ?_
  have e : (if (g.length : Int) > 5 then (none : Option GD) else none) = none := by split <;> rfl
  rw [e]
  exact Ev.const _
 | some G =>
  refine Ev.pos rfl ?_
  by_cases h5 : (g.length : Int) ≤ 5
  ·rw [if_neg (Int.not_lt.2 h5)]
   refine Ev.pos h5 (Ev.bind (ev_validRoom hr) ?_)
   by_cases hro : roomOk room
   ·rw [decide_eq_true hro]
    refine Ev.pos rfl ?_
    simp only [inRange_eq, Option.bind_some]
    by_cases hw : 1 ≤ wk ∧ wk ≤ 4
    ·rw [if_pos ⟨hro, hw⟩, decide_eq_true hw]
     exact Ev.const _
    ·rw [if_neg (fun h => hw h.2), decide_eq_false hw]
     exact Ev.const _
   ·rw [decide_eq_false hro]
    refine Ev.neg Bool.false_ne_true ?_
    show Ev _ (if roomOk room ∧ 1 ≤ wk ∧ wk ≤ 4 then some G else none : Option GD).isSome
    rw [if_neg (fun h => hro h.1)]
    exact Ev.const _
  ·rw [if_pos (Int.not_le.1 h5)]
   exact Ev.neg h5 (Ev.const _)
end Go.Proofs.YtimbfcedigaffaaDoor.Core
end
section
set_option linter.unusedVariables false
set_option linter.unusedSimpArgs false
namespace Go.Proofs.YtimbfcedigaffaaDoor.Core
open Go Go.RowKit Go.Proofs.YtimbfcedigaffaaDoorW.PrintWords Go.Proofs.YtimbfcedigaffaaDoorW.PrintMore Go.Proofs.YtimbfcedigaffaaDoor.P
/-- When the last task of an order is over. -/
def ordEnd (g : List Tk) (N : List Nat) (room : List Int) (wk : Int) (o : List Int) : Nat := endGo g N room wk o 0 (List.replicate g.length 0) 0
/-- The best order and its end. -/
def bestD (g : List Tk) (room : List Int) (wk : Int) : Option (List Int × Nat) := match fewD g room wk with
 | none => none
 | some G => (ordersL G.needs (g.length + 1) [] 0).foldl (bstep (ordEnd g G.needs room wk)) none
def bestOD (g : List Tk) (room : List Int) (wk : Int) : List Int := match bestD g room wk with | none => [] | some b => b.1
/-- The greatest end of a set of tasks. -/
structure IsEnd (g : List Tk) (L : List Nat) (pl e : Nat) : Prop where
 le : ∀ k, pl.testBit k = true → endN g L k ≤ e
 is : e = 0 ∨ ∃ k, pl.testBit k = true ∧ endN g L k = e
def endTo (g : List Tk) (L : List Nat) : Nat → Nat
 | 0 => 0
 | n + 1 => max (endTo g L n) (endN g L n)
theorem endTo_is (g : List Tk) (L : List Nat) : ∀ n, (∀ k, k < n → endN g L k ≤ endTo g L n) ∧ (endTo g L n = 0 ∨ ∃ k, k < n ∧ endN g L k = endTo g L n)
 | 0 => ⟨fun k h => absurd h (Nat.not_lt_zero k), .inl rfl⟩
 | n + 1 => by
  obtain ⟨h1, h2⟩ := endTo_is g L n
  refine ⟨fun k hk => ?_, ?_⟩
  ·show endN g L k ≤ max (endTo g L n) (endN g L n)
   by_cases e : k = n
   ·subst e; exact Nat.le_max_right _ _
   ·exact Nat.le_trans (h1 k (by omega)) (Nat.le_max_left _ _)
  ·show max (endTo g L n) (endN g L n) = 0 ∨ ∃ k, k < n + 1 ∧ endN g L k = max (endTo g L n) (endN g L n)
   by_cases hle : endTo g L n ≤ endN g L n
   ·rw [Nat.max_eq_right hle]
    exact .inr ⟨n, Nat.lt_succ_self n, rfl⟩
   ·rw [Nat.max_eq_left (by omega)]
    rcases h2 with h | ⟨k, hk, h⟩
    ·exact .inl h
    ·exact .inr ⟨k, by omega, h⟩
theorem isEnd_full {g : List Tk} {L : List Nat} {n e : Nat} (h : IsEnd g L (2 ^ n - 1) e) : e = endTo g L n := by
 obtain ⟨h1, h2⟩ := endTo_is g L n
 have hb : ∀ k, (2 ^ n - 1).testBit k = decide (k < n) := fun k => Nat.testBit_two_pow_sub_one n k
 have a : e ≤ endTo g L n := by
  rcases h.is with h0 | ⟨k, hk, hk2⟩
  ·omega
  ·rw [← hk2]
   exact h1 k (by rw [hb] at hk; exact of_decide_eq_true hk)
 have b : endTo g L n ≤ e := by
  rcases h2 with h0 | ⟨k, hk, hk2⟩
  ·omega
  ·rw [← hk2]
   exact h.le k (by rw [hb]; exact decide_eq_true hk)
 omega
theorem ev_endOf {g : List Tk} (htok : ∀ t ∈ g, taskOk t) (h8 : g.length ≤ 8) {L : List Nat} (hl : L.length = g.length) (hLb : leB 200 L) : Ev (fun k => spec_endOf.f k g (up L)) ((endTo g L g.length : Nat) : Int) := by
 unfold spec_endOf.f
 have key : ∀ (d i : Nat), i + d = g.length → Ev (fun k => spec_endOf.l0 k g (up L) ((endTo g L i : Nat) : Int) (i : Int)) ((endTo g L g.length : Nat) : Int) := by
  intro d
  induction d with
  | zero =>
   intro i h
   have hi : i = g.length := h
   refine Ev.succ ?_
   simp only [spec_endOf.l0]
   rw [hi]
   exact Ev.neg (Int.lt_irrefl _) (Ev.const _)
  | succ d ih =>
   intro i h
   have hig : i < g.length := by rw [← h]; exact Nat.lt_add_of_pos_right (Nat.succ_pos d)
   have hw : wrap64 ((i : Int) + 1) = ((i + 1 : Nat) : Int) := w64s (by unfold big; omega)
   have htm := tm_int htok hig
   have hls := hLb i
   have hadd := (wadd (a := L.getD i 0) (b := tmN g i) (by omega) (by omega)).1
   have hrd : rd (up L) (i : Int) = ((L.getD i 0 : Nat) : Int) := rd_up rfl
   have hn := ih (i + 1) (by rw [← h, Nat.add_assoc, Nat.add_comm 1 d])
   refine Ev.succ ?_
   simp only [spec_endOf.l0, hw, hrd, rdT_nat, htm.1, hadd, mx_natO]
   exact Ev.pos (Int.ofNat_lt.2 hig) (Ev.pos (Int.natCast_nonneg i) (Ev.pos (by rw [up_length, hl]; exact Int.ofNat_lt.2 hig) hn))
 exact key g.length 0 (Nat.zero_add _)
/-- The end of an order is that of its beginnings. -/
theorem endGo_is {g : List Tk} {N : List Nat} (hnb : ∀ x, N.getD x 0 < 256) {room : List Int} {wk : Int} (hf : Fine g room wk) (h8 : g.length ≤ 8) : ∀ (r : List Int) (pl j : Nat) (L : List Nat) (e : Nat), ordOk g.length N r pl = true → StOk g L pl j → j + r.length ≤ 8 → pl < 2 ^ g.length → zb g.length pl ≤ r.length → IsEnd g L pl e →
  endGo g N room wk r pl L e = endTo g (startGo g N room wk r pl L) g.length ∧ leB 200 (startGo g N room wk r pl L) := by
 intro r
 induction r with
 | nil =>
  intro pl j L e _ hst hj hpl hz he
  have hfull := (full_zb hpl).1 (by simpa using hz)
  rw [hfull] at he
  exact ⟨isEnd_full he, leB_mono hst.le (by rw [List.length_nil] at hj; omega)⟩
 | cons y r ih =>
  intro pl j L e hord hst hj hpl hz he
  unfold ordOk at hord
  by_cases hc : (0 ≤ y ∧ y ≤ (g.length : Int) - 1) ∧ pl.testBit y.toNat = false ∧ sub (N.getD y.toNat 0) pl = 0
  ·rw [if_pos hc] at hord
   obtain ⟨hin, hsk, hsz⟩ := hc
   rw [List.length_cons] at hj hz
   have hx : y.toNat < g.length := by omega
   have h256 := pow8 h8
   have hsubs := sub_none (hnb y.toNat) (Nat.lt_of_lt_of_le hpl h256) hsz
   obtain ⟨hst2, he20⟩ := hst.step hf hx (by omega) hsubs hsk
   have hzb := zb_orO hx hsk
   have hs1 : startGo g N room wk (y :: r) pl L = startGo g N room wk r (pl ||| 2 ^ y.toNat) (L.set y.toNat (earlD g L (N.getD y.toNat 0) pl y.toNat room wk)) := rfl
   have hs2 : endGo g N room wk (y :: r) pl L e = endGo g N room wk r (pl ||| 2 ^ y.toNat) (L.set y.toNat (earlD g L (N.getD y.toNat 0) pl y.toNat room wk)) (max e (earlD g L (N.getD y.toNat 0) pl y.toNat room wk + tmN g y.toNat)) := rfl
   rw [hs1, hs2]
   generalize earlD g L (N.getD y.toNat 0) pl y.toNat room wk = ee at hst2
   have hne : ∀ k, pl.testBit k = true → y.toNat ≠ k := fun k hk h => by rw [← h, hsk] at hk; cases hk
   have hend : ∀ k, pl.testBit k = true → endN g (L.set y.toNat ee) k = endN g L k := fun k hk => by
    unfold endN
    rw [List.getD_eq_getElem?_getD, List.getElem?_set_ne (hne k hk), ← List.getD_eq_getElem?_getD]
   have hget : endN g (L.set y.toNat ee) y.toNat = ee + tmN g y.toNat := by
    unfold endN
    rw [List.getD_eq_getElem?_getD, List.getElem?_set_self (by rw [hst.len]; exact hx), Option.getD_some]
   refine ih (pl ||| 2 ^ y.toNat) (j + 1) _ _ hord hst2 (by omega) (Nat.or_lt_two_pow hpl (Nat.pow_lt_pow_right (by omega) hx)) (by omega) ⟨fun k hk => ?_, ?_⟩
   ·rw [or_bit] at hk
    by_cases hkp : pl.testBit k = true
    ·rw [hend k hkp]; exact Nat.le_trans (he.le k hkp) (Nat.le_max_left _ _)
    ·have hyk : y.toNat = k := by
      rw [Bool.eq_false_iff.2 hkp, Bool.false_or] at hk
      exact of_decide_eq_true hk
     subst hyk
     rw [hget]; exact Nat.le_max_right _ _
   ·by_cases hle : e ≤ ee + tmN g y.toNat
    ·rw [Nat.max_eq_right hle]
     exact .inr ⟨y.toNat, by rw [or_bit, decide_eq_true rfl, Bool.or_true], hget⟩
    ·rw [Nat.max_eq_left (by omega)]
     rcases he.is with h | ⟨k, hk, h⟩
     ·exact .inl h
     ·exact .inr ⟨k, by rw [or_bit, hk, Bool.true_or], by rw [hend k hk]; exact h⟩
  ·rw [if_neg hc] at hord; cases hord
theorem ordersL_ok {N : List Nat} : ∀ (k : Nat) (lst : List Nat) (d : Nat), ∀ o ∈ ordersL N k lst d, ∃ r, o = up lst ++ r ∧ ordOk N.length N r d = true ∧ o.length = N.length
 | 0, _, _, o, h => by cases h
 | k + 1, lst, d, o, h => by
  unfold ordersL at h
  by_cases hf : lst.length = N.length
  ·rw [if_pos hf] at h
   have e := List.mem_singleton.1 h
   exact ⟨[], by rw [e, List.append_nil], rfl, by rw [e, up_length]; exact hf⟩
  ·rw [if_neg hf] at h
   obtain ⟨i, hi, ho⟩ := List.mem_flatMap.1 h
   obtain ⟨h1, h2⟩ := List.mem_filter.1 hi
   have hc2 : d.testBit i = false ∧ sub (N.getD i 0) d = 0 := by simpa [canNext] using h2
   have hin := List.mem_range.1 h1
   obtain ⟨r, e, hr, hl⟩ := ordersL_ok k (lst ++ [i]) (d ||| 2 ^ i) o ho
   refine ⟨(i : Int) :: r, by rw [e]; simp [up], ?_, hl⟩
   unfold ordOk
   rw [Int.toNat_natCast, if_pos ⟨⟨by omega, by omega⟩, hc2⟩]
   exact hr
theorem ordersL_ne {g : List Tk} {G : GD} (v : VG g G) : ∀ (k : Nat) (lst : List Nat) (d : Nat), OrdOk G.needs lst d → zb g.length d < k → ordersL G.needs k lst d ≠ []
 | 0, _, _, _, h => by omega
 | k + 1, lst, d, ok, h => by
  unfold ordersL
  by_cases hf : lst.length = G.needs.length
  ·rw [if_pos hf]; exact List.cons_ne_nil _ _
  ·rw [if_neg hf]
   have hn := v.nl
   have hd := ok.dlt
   rw [hn] at hd
   obtain ⟨i, hi, hb, hs⟩ := v.next hd (fun e => hf ((full_iff ok).1 (by rw [hn]; exact e)))
   have ok2 := ok.step (by rw [hn]; exact v.n8) (by rw [hn]; exact v.nb) (by rw [hn]; exact hi) hb hs
   have hzb := zb_orO hi hb
   have hne := ordersL_ne v k (lst ++ [i]) (d ||| 2 ^ i) ok2 (by omega)
   intro he
   have := List.flatMap_eq_nil_iff.1 he i (List.mem_filter.2 ⟨List.mem_range.2 (by rw [hn]; exact hi), by unfold canNext; rw [hb, decide_eq_true hs]; rfl⟩)
   exact hne this
theorem ord_nil (N : List Nat) : OrdOk N [] 0 := ⟨by simp, fun i => by simp, Nat.two_pow_pos _, List.nodup_nil, by
 rw [List.length_nil, Nat.zero_add, zb_count]
 have : (List.range N.length).filter (fun i => !(0 : Nat).testBit i) = List.range N.length := List.filter_eq_self.2 (fun i _ => by rw [Nat.zero_testBit]; rfl)
 rw [this, List.length_range], fun pre i suf h => by simp at h⟩
theorem bstep_some (f : List Int → Nat) (b : List Int × Nat) : ∀ (os : List (List Int)), ∃ c, os.foldl (bstep f) (some b) = some c
 | [] => ⟨b, rfl⟩
 | o :: os => by
  rw [List.foldl_cons]
  show ∃ c, os.foldl (bstep f) (if f o < b.2 then some (o, f o) else some b) = some c
  split
  ·exact bstep_some f _ os
  ·exact bstep_some f _ os
theorem ev_BestOrder' {g : List Tk} (hg : Fits g) {room : List Int} {wk : Int} (hr : room.length < big) : Ev (fun k => spec_BestOrder.f k g room wk) (bestOD g room wk) ∧ ∀ G, fewD g room wk = some G → ∃ b, bestD g room wk = some b ∧ b.1 ∈ ordersL G.needs (g.length + 1) [] 0 ∧ b.2 = ordEnd g G.needs room wk b.1 := by
 unfold bestOD bestD
 have hvs := ev_validSearch hg hr wk
 cases hfew : fewD g room wk with
 | none =>
  rw [hfew] at hvs
  refine ⟨?_, fun G h => by cases h⟩
  unfold spec_BestOrder.f
  exact Ev.bind hvs (Ev.neg (by simp) (Ev.const _))
 | some G =>
  rw [hfew] at hvs
  obtain ⟨h5, hp⟩ := fewD_some hfew
  obtain ⟨hG, hroom, hw1, hw4⟩ := placeD_some hp
  have v := vg_of hG
  have h8 := v.n8
  have h256 := pow8 h8
  have hf := fine_of hG hroom hw1
  have htok := graphD_taskOk hG
  have hnl := v.nl
  have hnb : ∀ x, G.needs.getD x 0 < 256 := fun x => Nat.lt_of_lt_of_le (getD_lt v.nb x) h256
  have hok0 := ord_nil G.needs
  have hz0 : zb g.length 0 ≤ g.length := zb_bound 0 g.length
  have hos := ev_orders hg v.needsD (g.length + 1) (by omega) [] 0 hok0 (by rw [hnl]; omega)
  have hne := ordersL_ne v (g.length + 1) [] 0 hok0 (by omega)
  have hall : ∀ o ∈ ordersL G.needs (g.length + 1) [] 0, ordOk g.length G.needs o 0 = true ∧ o.length = g.length := fun o ho => by
   obtain ⟨r, e, h1, h2⟩ := ordersL_ok (g.length + 1) [] 0 o ho
   have e : o = r := e
   rw [hnl] at h1 h2
   rw [e] at h2 ⊢
   exact ⟨h1, h2⟩
  have hev : ∀ o ∈ ordersL G.needs (g.length + 1) [] 0, Ev (fun k => spec_order.f k g room wk o) (up (startGo g G.needs room wk o 0 (List.replicate g.length 0))) ∧ Ev (fun k => spec_endOf.f k g (up (startGo g G.needs room wk o 0 (List.replicate g.length 0)))) ((ordEnd g G.needs room wk o : Nat) : Int) := fun o ho => by
   obtain ⟨h1, h2⟩ := hall o ho
   obtain ⟨h3, h4⟩ := endGo_is hnb hf h8 o 0 0 (List.replicate g.length 0) 0 h1 (st_zero g) (by omega) (Nat.two_pow_pos _) (by rw [h2]; exact hz0) ⟨(fun k hk => by rw [Nat.zero_testBit] at hk; cases hk), .inl rfl⟩
   refine ⟨ev_orderS v hf htok h5 h2 h1, ?_⟩
   have h6 := ev_endOf htok h8 (by rw [startGo_length, List.length_replicate]) h4
   rw [← h3] at h6
   exact h6
  have hlenO : ∀ o ∈ ordersL G.needs (g.length + 1) [] 0, o.length < big ∧ o.length < 17592186044416 := fun o ho => by
   have h2 := (hall o ho).2
   exact ⟨by rw [h2]; unfold big; omega, Nat.lt_of_le_of_lt (Nat.le_of_eq h2) (Nat.lt_of_le_of_lt h8 (by decide))⟩
  have hcnt := ordersL_le (N := G.needs) (by rw [hnl]; exact h8) (g.length + 1) [] 0
  have hcnt2 : (ordersL G.needs (g.length + 1) [] 0).length < big := Nat.lt_of_le_of_lt (Nat.le_trans hcnt (Nat.pow_le_pow_right (by omega) (show g.length + 1 ≤ 6 by omega))) (by decide)
  have main : Ev (fun k => spec_BestOrder.f k g room wk) (match (ordersL G.needs (g.length + 1) [] 0).foldl (bstep (ordEnd g G.needs room wk)) none with | none => ([] : List Int) | some b => b.1) ∧ ∃ b, (ordersL G.needs (g.length + 1) [] 0).foldl (bstep (ordEnd g G.needs room wk)) none = some b ∧ b.1 ∈ ordersL G.needs (g.length + 1) [] 0 ∧ b.2 = ordEnd g G.needs room wk b.1 := by
   generalize ordersL G.needs (g.length + 1) [] 0 = OS at hos hne hall hev hlenO hcnt2 ⊢
   have key : ∀ (r pre : List (List Int)) (b : List Int × Nat), OS = pre ++ r → b.1 ∈ OS → b.2 = ordEnd g G.needs room wk b.1 → ∃ c, r.foldl (bstep (ordEnd g G.needs room wk)) (some b) = some c ∧ c.1 ∈ OS ∧ c.2 = ordEnd g G.needs room wk c.1 ∧ Ev (fun k => spec_BestOrder.l0 k g room wk OS b.1 ((b.2 : Nat) : Int) (pre.length : Int)) c.1 := by
    intro r
    induction r with
    | nil =>
     intro pre b hp hb1 hb2
     rw [List.append_nil] at hp
     refine ⟨b, rfl, hb1, hb2, ?_⟩
     refine Ev.succ ?_
     simp only [spec_BestOrder.l0]
     refine Ev.neg (by rw [hp]; exact Int.lt_irrefl _) ?_
     obtain ⟨h1, h2⟩ := hlenO b.1 hb1
     rw [copyInts_eq h1 h2]
     exact Ev.const _
    | cons o r ih =>
     intro pre b hp hb1 hb2
     have hlen : OS.length = pre.length + (r.length + 1) := by rw [hp]; simp
     have hom : o ∈ OS := by rw [hp]; simp
     have hrd : rd_L1 OS (pre.length : Int) = o := by unfold rd_L1; rw [Int.toNat_natCast, hp]; simp
     have hw : wrap64 ((pre.length : Int) + 1) = ((pre ++ [o]).length : Int) := by rw [w64s (by omega)]; simp
     obtain ⟨he1, he2⟩ := hev o hom
     have hbs : bstep (ordEnd g G.needs room wk) (some b) o = if ordEnd g G.needs room wk o < b.2 then some (o, ordEnd g G.needs room wk o) else some b := rfl
     rw [List.foldl_cons, hbs]
     by_cases hlt : ordEnd g G.needs room wk o < b.2
     ·rw [if_pos hlt]
      obtain ⟨c, h1, h2, h3, h4⟩ := ih (pre ++ [o]) (o, ordEnd g G.needs room wk o) (by rw [hp]; simp) hom rfl
      refine ⟨c, h1, h2, h3, ?_⟩
      refine Ev.succ ?_
      simp only [spec_BestOrder.l0, hrd, hw]
      exact Ev.pos (Int.ofNat_lt.2 (by omega)) (Ev.pos (Int.natCast_nonneg _) (Ev.bind he1 (Ev.bind he2 (Ev.pos (Int.ofNat_lt.2 hlt) h4))))
     ·rw [if_neg hlt]
      obtain ⟨c, h1, h2, h3, h4⟩ := ih (pre ++ [o]) b (by rw [hp]; simp) hb1 hb2
      refine ⟨c, h1, h2, h3, ?_⟩
      refine Ev.succ ?_
      simp only [spec_BestOrder.l0, hrd, hw]
      exact Ev.pos (Int.ofNat_lt.2 (by omega)) (Ev.pos (Int.natCast_nonneg _) (Ev.bind he1 (Ev.bind he2 (Ev.neg (fun h => hlt (Int.ofNat_lt.1 h)) h4))))
   cases OS with
   | nil => exact absurd rfl hne
   | cons o OS =>
    obtain ⟨he1, he2⟩ := hev o List.mem_cons_self
    obtain ⟨c, h1, h2, h3, h4⟩ := key OS [o] (o, ordEnd g G.needs room wk o) rfl List.mem_cons_self rfl
    have hfold : (o :: OS).foldl (bstep (ordEnd g G.needs room wk)) none = some c := h1
    rw [hfold]
    refine ⟨?_, c, rfl, h2, h3⟩
    have hrd : rd_L1 (o :: OS) 0 = o := rfl
    unfold spec_BestOrder.f
    refine Ev.bind hvs (Ev.pos rfl (Ev.bind hos (Ev.pos (by rw [List.length_cons]; omega) ?_)))
    rw [hrd]
    exact Ev.bind he1 (Ev.bind he2 h4)
  exact ⟨main.1, fun G' hG' => by cases hG'; exact main.2⟩
end Go.Proofs.YtimbfcedigaffaaDoor.Core
end
section
set_option linter.unusedVariables false
set_option linter.unusedSimpArgs false
namespace Go.Proofs.YtimbfcedigaffaaDoor.Core
open Go Go.RowKit Go.Proofs.YtimbfcedigaffaaDoorW.PrintWords Go.Proofs.YtimbfcedigaffaaDoorW.PrintMore Go.Proofs.YtimbfcedigaffaaDoor.P
theorem best_none {g : List Tk} {room : List Int} {wk : Int} (h : bestD g room wk = none) : fewD g room wk = none := by
 cases hfew : fewD g room wk with
 | none => rfl
 | some G =>
  exfalso
  obtain ⟨h5, hp⟩ := fewD_some hfew
  have v := vg_of (placeD_some hp).1
  have hne := ordersL_ne v (g.length + 1) [] 0 (ord_nil G.needs) (by have := zb_bound 0 g.length; omega)
  unfold bestD at h
  rw [hfew] at h
  simp only [] at h
  generalize ordersL G.needs (g.length + 1) [] 0 = OS at h hne
  cases OS with
  | nil => exact hne rfl
  | cons o os =>
   obtain ⟨c, hc⟩ := bstep_some (ordEnd g G.needs room wk) (o, ordEnd g G.needs room wk o) os
   have h : os.foldl (bstep (ordEnd g G.needs room wk)) (some (o, ordEnd g G.needs room wk o)) = none := h
   rw [hc] at h
   cases h
/-- The program's search, begun with nothing, comes to the best order. -/
theorem fromF_best {g : List Tk} {room : List Int} {wk : Int} {G : GD} (hfew : fewD g room wk = some G) : fromF g G.needs room wk (g.length + 1) [] (List.replicate g.length 0) 0 0 none = bestD g room wk := by
 unfold bestD
 rw [hfew]
 exact fromF_fold (ordEnd g G.needs room wk) (g.length + 1) [] (List.replicate g.length 0) 0 0 none (fun r => rfl)
end Go.Proofs.YtimbfcedigaffaaDoor.Core
end
section
set_option linter.unusedVariables false
set_option linter.unusedSimpArgs false
namespace Go.Proofs.YtimbfcedigaffaaDoor.Core
open Go Go.RowKit Go.Proofs.YtimbfcedigaffaaDoorW.PrintWords Go.Proofs.YtimbfcedigaffaaDoorW.PrintMore Go.Proofs.YtimbfcedigaffaaDoor.P
/-- Beginnings that agree on a set of tasks. -/
def AgreeOn (pl : Nat) (L M : List Nat) : Prop := ∀ k, pl.testBit k = true → L.getD k 0 = M.getD k 0
theorem endN_congr {g : List Tk} {pl : Nat} {L M : List Nat} (h : AgreeOn pl L M) {k : Nat} (hk : pl.testBit k = true) : endN g L k = endN g M k := by unfold endN; rw [h k hk]
theorem cntOf_congr {g : List Tk} {pl : Nat} {L M : List Nat} (h : AgreeOn pl L M) (t : Nat) : cntOf g L pl t = cntOf g M pl t := by
 have key : ∀ (ks : List Nat) (c : Cn), (∀ k ∈ ks, pl.testBit k = true) → ks.foldl (cntStep g L t) c = ks.foldl (cntStep g M t) c := by
  intro ks
  induction ks with
  | nil => intro c _; rfl
  | cons k ks ih =>
   intro c hk
   have h1 := hk k List.mem_cons_self
   have e : cntStep g L t c k = cntStep g M t c k := by
    unfold cntStep runsAt
    rw [h k h1, endN_congr h h1]
   rw [List.foldl_cons, List.foldl_cons, e]
   exact ih _ (fun k hk' => hk k (List.mem_cons_of_mem _ hk'))
 exact key _ _ (fun k hk => (mem_elemsN.1 hk).2)
theorem freeN_congr {g : List Tk} {pl i : Nat} {room : List Int} {wk : Int} {L M : List Nat} (h : AgreeOn pl L M) : ∀ (d t : Nat), freeN g L pl i room wk d t = freeN g M pl i room wk d t
 | 0, _ => rfl
 | d + 1, t => by
  show (freeB g L pl i room wk t && freeN g L pl i room wk d (t + 1)) = (freeB g M pl i room wk t && freeN g M pl i room wk d (t + 1))
  rw [freeN_congr h d (t + 1)]
  unfold freeB
  rw [cntOf_congr h t]
theorem earlN_congr {g : List Tk} {pl i : Nat} {room : List Int} {wk : Int} {L M : List Nat} (h : AgreeOn pl L M) : ∀ (f a : Nat), earlN g L pl i room wk f a = earlN g M pl i room wk f a
 | 0, _ => rfl
 | f + 1, a => by
  unfold earlN
  rw [freeN_congr h, earlN_congr h f (a + 1)]
theorem needEnd_congr {g : List Tk} {s pl : Nat} {L M : List Nat} (h : AgreeOn pl L M) (hs : ∀ k, s.testBit k = true → pl.testBit k = true) : needEnd g L s = needEnd g M s := by
 have key : ∀ (ks : List Nat) (a : Nat), (∀ k ∈ ks, pl.testBit k = true) → ks.foldl (eStep g L) a = ks.foldl (eStep g M) a := by
  intro ks
  induction ks with
  | nil => intro a _; rfl
  | cons k ks ih =>
   intro a hk
   have e : eStep g L a k = eStep g M a k := by unfold eStep; rw [endN_congr h (hk k List.mem_cons_self)]
   rw [List.foldl_cons, List.foldl_cons, e]
   exact ih _ (fun k hk' => hk k (List.mem_cons_of_mem _ hk'))
 exact key _ _ (fun k hk => hs k (mem_elemsN.1 hk).2)
theorem earlD_congr {g : List Tk} {s pl i : Nat} {room : List Int} {wk : Int} {L M : List Nat} (h : AgreeOn pl L M) (hs : ∀ k, s.testBit k = true → pl.testBit k = true) : earlD g L s pl i room wk = earlD g M s pl i room wk := by
 unfold earlD
 rw [needEnd_congr h hs, earlN_congr h]
theorem AgreeOn.refl (pl : Nat) (L : List Nat) : AgreeOn pl L L := fun _ _ => rfl
/-- One more task, in both. -/
theorem AgreeOn.set {pl x e : Nat} {L M : List Nat} (h : AgreeOn pl L M) (hl : L.length = M.length) (hx : x < L.length) : AgreeOn (pl ||| 2 ^ x) (L.set x e) (M.set x e) := by
 intro k hk
 rw [or_bit] at hk
 by_cases e1 : x = k
 ·subst e1
  rw [List.getD_eq_getElem?_getD, List.getElem?_set_self hx, List.getD_eq_getElem?_getD, List.getElem?_set_self (by omega)]
 ·rw [decide_eq_false e1, Bool.or_false] at hk
  rw [List.getD_eq_getElem?_getD, List.getElem?_set_ne e1, List.getD_eq_getElem?_getD, List.getElem?_set_ne e1, ← List.getD_eq_getElem?_getD, ← List.getD_eq_getElem?_getD]
  exact h k hk
theorem AgreeOn.trans {pl : Nat} {L M K : List Nat} (h : AgreeOn pl L M) (h2 : AgreeOn pl M K) : AgreeOn pl L K := fun k hk => (h k hk).trans (h2 k hk)
end Go.Proofs.YtimbfcedigaffaaDoor.Core
end
section
set_option linter.unusedVariables false
set_option linter.unusedSimpArgs false
namespace Go.Proofs.YtimbfcedigaffaaDoor.Core
open Go Go.RowKit Go.Shelf Go.Proofs.YtimbfcedigaffaaDoorW.PrintWords Go.Proofs.YtimbfcedigaffaaDoorW.PrintLast Go.Proofs.YtimbfcedigaffaaDoorW.PrintMore Go.Proofs.YtimbfcedigaffaaDoor.P
attribute [local go_sem] Oper.semAt_some wide_fn wide_depth
theorem infoIntC : (Tryd.prog.info? 3).map (fun i => (i.zero, i.size, i.bytes)) = some (some (.int .i64 0), 1, 8) := by kernel_rfl
set_option maxRecDepth 100000 in
set_option maxHeartbeats 1000000 in
theorem clone_calls (A : Option Addr) (c : Nat) (xs : List Int) (w : World) (hC : Kd.C (Kd.int .i64) w A xs.length xs) (hl : xs.length ≤ 100) :
  Calls Tryd.prog 64 #[.slice A xs.length c] w fun e w' => ∃ v, e = .returned v ∧ (Kd.int .i64).R 3 w' w.heap.size (fun _ => True) v xs ∧ Below w.heap.size w w' := by
 have HC := Aside0.mk hC
 have HB := Aside0.mk (Below.refl w.heap.size w)
 cases A with
 | none =>
  have hx : xs = [] := by
   cases xs with
   | nil => rfl
   | cons y ys =>
    obtain ⟨ad, e, _⟩ := Kd.at_int hC 0 (by omega) (by rw [List.length_cons]; omega)
    cases e
  subst hx
  clear hC
  have hq := Lib.run_eql_slice_nil (P := Tryd.prog) w 23 3 none 0 c 0 0 Tryd.underlying23
  simp only [List.length_nil]
  go_enter Tryd.func64, Tryd.ntmps64
  go_wp2
  go_ret
  exact ⟨_, rfl, Kd.R_nil _ _ _ _ _, HB.out⟩
 | some ad =>
  clear hC
  have hq := Lib.run_eql_slice_nil (P := Tryd.prog) w 23 3 (some ad) xs.length c 0 0 Tryd.underlying23
  go_enter Tryd.func64, Tryd.ntmps64
  go_wp2_with (first | ((with_reducible refine gate_dst (N := 5) rfl ?_); refine Kd.R_lit (Kd.int .i64) _ 3 ?hg (N := 5) ?hd (xs := ([] : List Int)) (inner := []) (ok := fun _ => True) (okp := fun _ => True) ?hr ?hp (fun _ hk => hk) trivial (Below.refl _ _) (Nat.le_refl _) (by simp) ?_; (case hd => rfl); (case hg => rfl); (case hr => first | (go_simp; done) | (go_simp; rfl)); (case hp => exact (Reps.none _ _)); intro v134 w4 ho4 hb hg_ hnew_; clear hg_ hnew_; have HB4 := Aside0.mk (below_step HB.out hb); have HC4 := Aside0.mk (Kd.C_below HC.out hb); have HO4 := Aside0.mk (Kd.R_lower ho4 HB.out.size); clear HB HC hb ho4) | ((with_reducible refine gate_builtin (b := .append) (xs := #[.tmp 5, .tmp 6]) rfl ?_); at_builtin; refine Kd.R_append_rows (Kd.int .i64) (w0 := w) w.heap.size rfl (.tmp 5) (.tmp 6) 23 3 (.int .i64 0) 8 rfl Tryd.underlying23 infoIntC rfl (by decide) (by omega) _ [] xs _ _ _ (fun _ => True) (fun _ => False) rfl rfl ?aO ?aR (fun _ _ h => h) (fun _ h => h.elim) ?aF ?aB ?aS ?aL ?_; (case aR => exact HC4.out); (case aB => exact HB4.out); (case aF => exact (fun _ _ => trivial)); (case aO => exact HO4.out); (case aS => exact HB4.out.size); (case aL => simp; omega); intro v137 w5 ho hb hg hat; clear HB4 HO4 HC4; have HB5 := Aside0.mk hb; have HO5 := Aside0.mk ho; clear ho hb hg hat))
  go_ret
  exact ⟨_, rfl, by simpa using HO5.out, HB5.out⟩
end Go.Proofs.YtimbfcedigaffaaDoor.Core
end
section
set_option linter.unusedVariables false
set_option linter.unusedSimpArgs false
namespace Go.Proofs.YtimbfcedigaffaaDoor.Core
open Go Go.RowKit Go.Shelf Go.Proofs.YtimbfcedigaffaaDoorW.PrintWords Go.Proofs.YtimbfcedigaffaaDoorW.PrintLast Go.Proofs.YtimbfcedigaffaaDoorW.PrintMore Go.Proofs.YtimbfcedigaffaaDoor.P
attribute [local go_sem] Oper.semAt_some wide_fn wide_depth max2_int max_two
/-- The search's cells. -/
structure SB (W : World) (q b : Nat) (A1 : Option Addr) (n1 c1 : Nat) (wk : Int) (p n : Nat) (lv bv : Value) (e : Int) (f : Bool) : Prop where
 row : W.heap[q]? = some (.cells #[.pointer (some ⟨b, 0, none⟩), .slice A1 n1 c1, .int .i64 wk, .slice (some ⟨p, 0, none⟩) n n, lv, bv, .int .i64 e, .bool f] 74 (0, 0))
theorem SB.c7 {W : World} {q b : Nat} {A1 : Option Addr} {n1 c1 : Nat} {wk : Int} {p n : Nat} {lv bv : Value} {e : Int} {f : Bool} (h : SB W q b A1 n1 c1 wk p n lv bv e f) : W.cell? ⟨q, 7, none⟩ = some (.bool f) := by simp [World.cell?, h.row]
theorem SB.c6 {W : World} {q b : Nat} {A1 : Option Addr} {n1 c1 : Nat} {wk : Int} {p n : Nat} {lv bv : Value} {e : Int} {f : Bool} (h : SB W q b A1 n1 c1 wk p n lv bv e f) : W.cell? ⟨q, 6, none⟩ = some (.int .i64 e) := by simp [World.cell?, h.row]
theorem SB.move {W W' : World} {q b : Nat} {A1 : Option Addr} {n1 c1 : Nat} {wk : Int} {p n : Nat} {lv bv : Value} {e : Int} {f : Bool} (h : SB W q b A1 n1 c1 wk p n lv bv e f) (hb : Below W.heap.size W W') : SB W' q b A1 n1 c1 wk p n lv bv e f := ⟨(hb.block _ (cells_lt h.row)).trans h.row⟩
set_option maxRecDepth 100000 in
set_option maxHeartbeats 4000000 in
/-- A branch that is cut. -/
theorem from_cut (q b : Nat) (A1 : Option Addr) (n1 c1 : Nat) (wk : Int) (p n : Nat) (lv bv : Value) (se : Int) (d : Nat) (e : Int) (w : World) (hS : SB w q b A1 n1 c1 wk p n lv bv se true) (hcut : se ≤ e) :
  Calls Tryd.prog 47 #[.pointer (some ⟨q, 0, none⟩), .int .u16 (d : Int), .int .i64 e] w fun r w' => r = .returned (.tuple #[]) ∧ Below w.heap.size w w' := by
 obtain ⟨W3, hW3⟩ : ∃ W3, W3 = ((w.alloc (.cells #[.pointer (some ⟨q, 0, none⟩)] 71)).alloc (.cells #[.int .u16 (d : Int)] 77)).alloc (.cells #[.int .i64 e] 3) := ⟨_, rfl⟩
 have B3 : Below w.heap.size w W3 := by rw [hW3]; exact (((Below.refl w.heap.size w).alloc (Nat.le_refl _) _).alloc (by simp) _).alloc (by simp; omega) _
 have x3 : Boxed W3 w.heap.size 71 (.pointer (some ⟨q, 0, none⟩)) := by rw [hW3]; exact ((Boxed.new w _ _).alloc _).alloc _
 have e3 : Boxed W3 (w.heap.size + 1 + 1) 3 (.int .i64 e) := by
  have h := Boxed.new ((w.alloc (.cells #[.pointer (some ⟨q, 0, none⟩)] 71)).alloc (.cells #[.int .u16 (d : Int)] 77)) 3 (.int .i64 e)
  rw [hW3]
  simpa using h
 have S3 := hS.move B3
 have HB := Aside0.mk B3
 have HX := Aside0.mk x3
 have HE := Aside0.mk e3
 have HS := Aside0.mk S3
 have HW := Aside0.mk hW3
 have hge : decide (e ≥ se) = true := decide_eq_true hcut
 clear B3 x3 e3 S3 hW3 hS hcut
 refine calls_marks Tryd.func47 rfl ?_
 simp only [Tryd.ntmps47, List.size_toArray, List.length_cons, List.length_nil, Nat.reduceAdd, Nat.reduceSub, Array.replicate_succ, Array.replicate_zero, List.push_toArray, List.append_toArray, List.nil_append, List.cons_append]
 go_wp2
 rw [← HW.out]
 refine wp_region_still_tail 11 rfl (by kernel_rfl) ?_
 change wpStill _ _ W3.drew (fun a' => wpList _ _ _ _ a' W3.drew) _ _
 have hdr : Below W3.heap.size W3 W3.drew := below_drew (Below.refl _ _)
 revert hdr
 generalize W3.drew = Wd
 intro hdr
 have hcx : Wd.cell? ⟨w.heap.size, 0, none⟩ = some (.pointer (some ⟨q, 0, none⟩)) := Boxed.cell ((hdr.block _ HX.out.lt).trans HX.out)
 have hce : Wd.cell? ⟨w.heap.size + 1 + 1, 0, none⟩ = some (.int .i64 e) := Boxed.cell ((hdr.block _ HE.out.lt).trans HE.out)
 have Sd := HS.out.move hdr
 have hc7 := Sd.c7
 have hc6 := Sd.c6
 have HB2 := Aside0.mk (below_step HB.out hdr)
 clear hdr Sd HB HX HE HS HW
 simp only [List.take_succ_cons, List.take_zero, List.drop_succ_cons, List.drop_zero]
 repeat still_step
 refine wpStill_nil ?_
 go_wp2
 refine leave_ret (Marks.nil w.heap.size Wd.heap.size Wd) (fun W => results_list (rs := []) rfl (by simp) .nil) ?_
 intro W' ht
 exact ⟨rfl, ht.below HB2.out (Nat.le_refl _) (Nat.le_refl _)⟩
end Go.Proofs.YtimbfcedigaffaaDoor.Core
end
section
set_option linter.unusedVariables false
set_option linter.unusedSimpArgs false
namespace Go.Proofs.YtimbfcedigaffaaDoor.Core
open Go Go.RowKit Go.Shelf Go.Proofs.YtimbfcedigaffaaDoorW.PrintWords Go.Proofs.YtimbfcedigaffaaDoorW.PrintLast Go.Proofs.YtimbfcedigaffaaDoorW.PrintMore Go.Proofs.YtimbfcedigaffaaDoor.P
/-- What does not change: the world ahead of the search, the search's block, the graph's, the room's row, the workers, the beginnings' block, the number of tasks. -/
structure FK where
 w0 : World
 q : Nat
 b : Nat
 A1 : Option Addr
 n1 : Nat
 c1 : Nat
 wk : Int
 p : Nat
 n : Nat
 hq : w0.heap.size ≤ q
 hp : w0.heap.size ≤ p
 hqp : q ≠ p
/-- The search's cells, the beginnings M, the list, the best so far; P: where the list's row may lie. -/
structure FX (K : FK) (P : Nat → Prop) (W : World) (lst M : List Nat) (s : Option (List Int × Nat)) (lA : Option Addr) (lc : Nat) (bv : Value) (se : Int) : Prop where
 sb : SB W K.q K.b K.A1 K.n1 K.c1 K.wk K.p K.n (.slice lA lst.length lc) bv se s.isSome
 row : W.heap[K.p]? = some (.cells (icells M) 3 (0, 0))
 lst : (Kd.int .i64).R 3 W K.w0.heap.size (fun k => P k ∧ k ≠ K.q ∧ k ≠ K.p ∧ some k ≠ bv.ownBlock) (.slice lA lst.length lc) (up lst)
 best : ∀ o, s = some o → se = (o.2 : Int) ∧ (Kd.int .i64).R 3 W K.w0.heap.size (fun k => k ≠ K.q ∧ k ≠ K.p) bv o.1
 bown : ∀ k, bv.ownBlock = some k → k < W.heap.size
 len : M.length = K.n
 le : leB 100 M
 below : Below K.w0.heap.size K.w0 W
/-- A row of numbers, told of other blocks. -/
theorem R_ok {e : Nat} {w : World} {base : Nat} {ok ok' : Nat → Prop} {v : Value} {xs : List Int} (h : (Kd.int .i64).R e w base ok v xs) (hk : ∀ k, v.ownBlock = some k → ok' k) : (Kd.int .i64).R e w base ok' v xs := Kd.R_of_own (Kd.own_of_R h) hk
section
variable {K : FK} {P : Nat → Prop} {W W' : World} {lst M : List Nat} {s : Option (List Int × Nat)} {lA : Option Addr} {lc : Nat} {bv : Value} {se : Int}
theorem FX.size (h : FX K P W lst M s lA lc bv se) : K.w0.heap.size ≤ W.heap.size := h.below.size
theorem FX.qlt (h : FX K P W lst M s lA lc bv se) : K.q < W.heap.size := cells_lt h.sb.row
theorem FX.plt (h : FX K P W lst M s lA lc bv se) : K.p < W.heap.size := cells_lt h.row
theorem FX.move (h : FX K P W lst M s lA lc bv se) (hb : Below W.heap.size W W') : FX K P W' lst M s lA lc bv se :=
 ⟨h.sb.move hb, (hb.block _ (cells_lt h.row)).trans h.row, Kd.R_below h.lst hb, fun o ho => ⟨(h.best o ho).1, Kd.R_below (h.best o ho).2 hb⟩, fun k hk => Nat.lt_of_lt_of_le (h.bown k hk) hb.size, h.len, h.le, below_step h.below hb⟩
theorem FX.alloc (h : FX K P W lst M s lA lc bv se) (o : Obj) : FX K P (W.alloc o) lst M s lA lc bv se := h.move ((Below.refl W.heap.size W).alloc (Nat.le_refl _) o)
theorem FX.tame {B : Nat} (h : FX K P W lst M s lA lc bv se) (hB : K.w0.heap.size ≤ B) (ht : Tame B W W') : FX K P W' lst M s lA lc bv se :=
 ⟨⟨ht.cells h.sb.row⟩, ht.cells h.row, ht.R h.lst, fun o ho => ⟨(h.best o ho).1, ht.R (h.best o ho).2⟩, fun k hk => Nat.lt_of_lt_of_le (h.bown k hk) ht.size, h.len, h.le, ht.below h.below (Nat.le_refl _) hB⟩
/-- The list's row may lie elsewhere. -/
theorem FX.with (h : FX K P W lst M s lA lc bv se) {P' : Nat → Prop} (hp : ∀ k, k < W.heap.size → P k → P' k) : FX K P' W lst M s lA lc bv se :=
 ⟨h.sb, h.row, Kd.R_mono (Kd.R_bound h.lst) (fun k hk => ⟨hp k hk.2.2.1 hk.1.1, hk.1.2⟩), h.best, h.bown, h.len, h.le, h.below⟩
/-- A task's beginning is stored. -/
theorem FX.start (h : FX K P W lst M s lA lc bv se) (i x : Nat) (hx : x ≤ 100) : FX K P (W.setCell ⟨K.p, i, none⟩ (.int .i64 (x : Int))) lst (M.set i x) s lA lc bv se :=
 ⟨⟨(sother _ K.hqp).trans h.sb.row⟩, iset h.row i x, Kd.R_far h.lst (fun k hk => hk.2.2.1) _, fun o ho => ⟨(h.best o ho).1, Kd.R_far (h.best o ho).2 (fun k hk => hk.2) _⟩, fun k hk => by rw [show (W.setCell ⟨K.p, i, none⟩ (.int .i64 (x : Int))).heap.size = W.heap.size by simp [World.setCell]]; exact h.bown k hk, by rw [List.length_set]; exact h.len, leB_set h.le hx, h.below.setCell (p := ⟨K.p, i, none⟩) K.hp _⟩
/-- The list has got one more. -/
theorem FX.appended (h : FX K P W lst M s lA lc bv se) {W1 : World} {lA1 : Option Addr} {lc1 i : Nat}
  (hR : (Kd.int .i64).R 3 W1 K.w0.heap.size (fun k => P k ∧ k ≠ K.q ∧ k ≠ K.p ∧ some k ≠ bv.ownBlock) (.slice lA1 (lst.length + 1) lc1) (up lst ++ [(i : Int)])) (hg : W.grownBy W1 (Value.slice lA lst.length lc).ownBlock) (hb : Below K.w0.heap.size K.w0 W1) :
  FX K P (W1.setCell ⟨K.q, 4, none⟩ (.slice lA1 (lst.length + 1) lc1)) (lst ++ [i]) M s lA1 lc1 bv se := by
 have hne : ∀ k, (∀ j, (Value.slice lA lst.length lc).ownBlock = some j → j ≠ k) → k < W.heap.size → W1.heap[k]? = W.heap[k]? := fun k hk hl => hg.block k hl (fun e => hk k e.symm rfl)
 have hq := hne K.q (fun j hj => (h.lst.1 j hj).2.1) h.qlt
 have hp := hne K.p (fun j hj => (h.lst.1 j hj).2.2.1) h.plt
 have hsz : (W1.setCell ⟨K.q, 4, none⟩ (.slice lA1 (lst.length + 1) lc1)).heap.size = W1.heap.size := by simp [World.setCell]
 have hlen : (lst ++ [i]).length = lst.length + 1 := by simp
 refine ⟨⟨?_⟩, ?_, ?_, ?_, ?_, h.len, h.le, hb.setCell (p := ⟨K.q, 4, none⟩) K.hq _⟩
 ·rw [blk_set (hq.trans h.sb.row) 4 _, hlen]
  simp
 ·exact (sother _ (Ne.symm K.hqp)).trans (hp.trans h.row)
 ·rw [hlen, show up (lst ++ [i]) = up lst ++ [(i : Int)] by simp [up]]
  exact Kd.R_far hR (fun k hk => hk.2.1) _
 ·intro o ho
  have h2 := (h.best o ho).2
  refine ⟨(h.best o ho).1, Kd.R_far ?_ (fun k hk => hk.1) _⟩
  have h3 := R_ok h2 (ok' := fun k => (k ≠ K.q ∧ k ≠ K.p) ∧ some k ≠ (Value.slice lA lst.length lc).ownBlock) (fun k hk => ⟨h2.1 k hk, fun e => (h.lst.1 k e.symm).2.2.2 hk.symm⟩)
  exact Kd.R_mono (Kd.R_step h3 (fun k hk hl => hg.block k hl hk.2)) (fun k hk => hk.1)
 ·intro k hk
  rw [hsz]
  exact Nat.lt_of_lt_of_le (h.bown k hk) hg.size
/-- The list is cut back. -/
theorem FX.cut {i : Nat} (h : FX K P W (lst ++ [i]) M s lA lc bv se) : FX K P (W.setCell ⟨K.q, 4, none⟩ (.slice lA lst.length lc)) lst M s lA lc bv se := by
 have hsz : (W.setCell ⟨K.q, 4, none⟩ (.slice lA lst.length lc)).heap.size = W.heap.size := by simp [World.setCell]
 have hlen : (lst ++ [i]).length = lst.length + 1 := by simp
 refine ⟨⟨?_⟩, ?_, ?_, ?_, ?_, h.len, h.le, h.below.setCell (p := ⟨K.q, 4, none⟩) K.hq _⟩
 ·rw [blk_set h.sb.row 4 _]
  simp
 ·exact (sother _ (Ne.symm K.hqp)).trans h.row
 ·have h1 := h.lst
  rw [hlen, show up (lst ++ [i]) = up lst ++ [(i : Int)] by simp [up]] at h1
  have h0 := Kd.own_of_R h1
  rw [show (up lst ++ [(i : Int)]).length = lst.length + 1 by simp [up]] at h0
  have h2 := own_take (m := lst.length) h0 (by omega)
  have h3 : W.ownsRow K.w0.heap.size 3 1 (.slice lA lst.length lc) (up lst).length (encs (Value.int .i64) (up lst)) := by
   rw [up_length]
   have e1 : (encs (Value.int .i64) (up lst ++ [(i : Int)])).take (lst.length * 1) = encs (Value.int .i64) (up lst) := by
    rw [Nat.mul_one, encs, List.map_append, List.take_append_of_le_length (by simp [up]), List.take_of_length_le (by simp [up])]
    rfl
   rw [← e1]
   exact h2
  refine Kd.R_far (Kd.R_of_own h3 (fun k hk => h1.1 k ?_)) (fun k hk => hk.2.1) _
  rw [← hk]
  cases lA <;> rfl
 ·intro o ho
  exact ⟨(h.best o ho).1, Kd.R_far (h.best o ho).2 (fun k hk => hk.1) _⟩
 ·intro k hk
  rw [hsz]
  exact h.bown k hk
/-- A better order is stored. -/
theorem FX.found (h : FX K P W lst M s lA lc bv se) {W1 : World} {v : Value} {e : Nat} (hb : Below W.heap.size W W1) (hR : (Kd.int .i64).R 3 W1 W.heap.size (fun _ => True) v (up lst)) :
  FX K P (((W1.setCell ⟨K.q, 5, none⟩ v).setCell ⟨K.q, 6, none⟩ (.int .i64 (e : Int))).setCell ⟨K.q, 7, none⟩ (.bool true)) lst M (some (up lst, e)) lA lc v (e : Int) := by
 have h1 := h.move hb
 have hsz : (((W1.setCell ⟨K.q, 5, none⟩ v).setCell ⟨K.q, 6, none⟩ (.int .i64 (e : Int))).setCell ⟨K.q, 7, none⟩ (.bool true)).heap.size = W1.heap.size := by simp [World.setCell]
 refine ⟨⟨?_⟩, ?_, ?_, ?_, ?_, h.len, h.le, ((h1.below.setCell (p := ⟨K.q, 5, none⟩) K.hq _).setCell (p := ⟨K.q, 6, none⟩) K.hq _).setCell (p := ⟨K.q, 7, none⟩) K.hq _⟩
 ·rw [blk_set (blk_set (blk_set h1.sb.row 5 v) 6 _) 7 _]
  simp
 ·exact (sother _ (Ne.symm K.hqp)).trans ((sother _ (Ne.symm K.hqp)).trans ((sother _ (Ne.symm K.hqp)).trans h1.row))
 ·refine Kd.R_far (Kd.R_far (Kd.R_far (R_ok h1.lst (fun k hk => ?_)) (fun k hk => hk.2.1) _) (fun k hk => hk.2.1) _) (fun k hk => hk.2.1) _
  obtain ⟨a, b, c, _⟩ := h1.lst.1 k hk
  refine ⟨a, b, c, fun e2 => ?_⟩
  have e3 := Kd.R_base hR k e2.symm
  have e4 := Kd.R_lt h.lst k hk
  omega
 ·intro o ho
  cases ho
  refine ⟨rfl, ?_⟩
  have h4 := R_ok (Kd.R_lower hR h.below.size) (ok' := fun k => k ≠ K.q ∧ k ≠ K.p) (fun k hk => ⟨fun e2 => ?_, fun e2 => ?_⟩)
  ·exact Kd.R_far (Kd.R_far (Kd.R_far h4 (fun k hk => hk.1) _) (fun k hk => hk.1) _) (fun k hk => hk.1) _
  ·have e3 := Kd.R_base hR k hk
   have e4 := h.qlt
   omega
  ·have e3 := Kd.R_base hR k hk
   have e4 := h.plt
   omega
 ·intro k hk
  rw [hsz]
  exact Kd.R_lt hR k hk
end
/-- What a call of from leaves. -/
structure FromRes (K : FK) (P : Nat → Prop) (w w' : World) (lst L : List Nat) (d : Nat) (s : Option (List Int × Nat)) : Prop where
 ex : ∃ M lA lc bv se, FX K P w' lst M s lA lc bv se ∧ AgreeOn d L M
 others : KeepsOthers w w'
 keep : ∀ k, k < w.heap.size → k ≠ K.q → k ≠ K.p → ¬ P k → w'.heap[k]? = w.heap[k]?
end Go.Proofs.YtimbfcedigaffaaDoor.Core
end
section
set_option linter.unusedVariables false
set_option linter.unusedSimpArgs false
namespace Go.Proofs.YtimbfcedigaffaaDoor.Core
open Go Go.RowKit Go.Shelf Go.Proofs.YtimbfcedigaffaaDoorW.PrintWords Go.Proofs.YtimbfcedigaffaaDoorW.PrintLast Go.Proofs.YtimbfcedigaffaaDoorW.PrintMore Go.Proofs.YtimbfcedigaffaaDoor.P
/-- Where the list's row may lie: apart from three blocks of the call's own. -/
def PF (P : Nat → Prop) (r : Nat) (k : Nat) : Prop := P k ∧ k ≠ r ∧ k ≠ r + 1 ∧ k ≠ r + 1 + 1
structure FJ (K : FK) (P : Nat → Prop) (w : World) (L : List Nat) (d e : Nat) (W : World) (lst M : List Nat) (s : Option (List Int × Nat)) (lA : Option Addr) (lc : Nat) (bv : Value) (se : Int) : Prop where
 fx : FX K (PF P w.heap.size) W lst M s lA lc bv se
 agree : AgreeOn d L M
 x : Boxed W w.heap.size 71 (.pointer (some ⟨K.q, 0, none⟩))
 pl : Boxed W (w.heap.size + 1) 77 (.int .u16 (d : Int))
 en : Boxed W (w.heap.size + 1 + 1) 3 (.int .i64 (e : Int))
 keep : ∀ k, k < w.heap.size → k ≠ K.q → k ≠ K.p → ¬ P k → W.heap[k]? = w.heap[k]?
 others : KeepsOthers w W
 base : K.w0.heap.size ≤ w.heap.size
 ql : K.q < w.heap.size
 pll : K.p < w.heap.size
section
variable {K : FK} {P : Nat → Prop} {w W W' : World} {L : List Nat} {d e : Nat} {lst M : List Nat} {s : Option (List Int × Nat)} {lA : Option Addr} {lc : Nat} {bv : Value} {se : Int}
theorem FJ.size (h : FJ K P w L d e W lst M s lA lc bv se) : w.heap.size ≤ W.heap.size := h.others.size
theorem FJ.move (h : FJ K P w L d e W lst M s lA lc bv se) (hb : Below W.heap.size W W') : FJ K P w L d e W' lst M s lA lc bv se :=
 ⟨h.fx.move hb, h.agree, (hb.block _ h.x.lt).trans h.x, (hb.block _ h.pl.lt).trans h.pl, (hb.block _ h.en.lt).trans h.en, fun k h1 h2 h3 h4 => (hb.block k (Nat.lt_of_lt_of_le h1 h.size)).trans (h.keep k h1 h2 h3 h4), h.others.trans (keepsOthers_below hb), h.base, h.ql, h.pll⟩
theorem FJ.alloc (h : FJ K P w L d e W lst M s lA lc bv se) (o : Obj) : FJ K P w L d e (W.alloc o) lst M s lA lc bv se := h.move ((Below.refl W.heap.size W).alloc (Nat.le_refl _) o)
theorem FJ.tame {B : Nat} (h : FJ K P w L d e W lst M s lA lc bv se) (hB : w.heap.size ≤ B) (ht : Tame B W W') : FJ K P w L d e W' lst M s lA lc bv se :=
 ⟨h.fx.tame (Nat.le_trans h.base hB) ht, h.agree, ht.boxed h.x, ht.boxed h.pl, ht.boxed h.en, fun k h1 h2 h3 h4 => (ht.block k (Nat.lt_of_lt_of_le h1 h.size) (.inl (by omega))).trans (h.keep k h1 h2 h3 h4),
 ⟨Nat.le_trans h.size ht.size, fun k o hk ho => by
   have hlt := (Array.getElem?_eq_some_iff.1 hk).1
   exact (ht.block k (Nat.lt_of_lt_of_le hlt h.size) (.inl (by omega))).trans (h.others.same k o hk ho)⟩, h.base, h.ql, h.pll⟩
theorem AgreeOn.keepset {d i x : Nat} {L M : List Nat} (h : AgreeOn d L M) (hi : d.testBit i = false) : AgreeOn d L (M.set i x) := by
 intro k hk
 have hne : i ≠ k := by
  intro e1
  subst e1
  rw [hi] at hk
  cases hk
 rw [List.getD_eq_getElem?_getD (l := M.set i x), List.getElem?_set_ne hne, ← List.getD_eq_getElem?_getD]
 exact h k hk
/-- One task more, in both. -/
theorem AgreeOn.more {d i v : Nat} {L M : List Nat} (h : AgreeOn d L (M.set i v)) (hl : i < L.length) (hm : i < M.length) : AgreeOn (d ||| 2 ^ i) (L.set i v) (M.set i v) := by
 intro k hk
 by_cases e1 : i = k
 ·subst e1
  rw [List.getD_eq_getElem?_getD, List.getElem?_set_self hl, List.getD_eq_getElem?_getD, List.getElem?_set_self hm]
 ·rw [or_bit, decide_eq_false e1, Bool.or_false] at hk
  rw [List.getD_eq_getElem?_getD, List.getElem?_set_ne e1, ← List.getD_eq_getElem?_getD]
  exact h k hk
theorem over_more {g : List Tk} {d i v B C : Nat} {L : List Nat} (h : overBy g L d B) (hl : i < L.length) (hv : v + tmN g i ≤ C) (hB : B ≤ C) : overBy g (L.set i v) (d ||| 2 ^ i) C := by
 intro k hk
 unfold endN
 by_cases e1 : i = k
 ·subst e1
  rw [List.getD_eq_getElem?_getD, List.getElem?_set_self hl, Option.getD_some]
  exact hv
 ·rw [or_bit, decide_eq_false e1, Bool.or_false] at hk
  have := h k hk
  unfold endN at this
  rw [List.getD_eq_getElem?_getD, List.getElem?_set_ne e1, ← List.getD_eq_getElem?_getD]
  omega
theorem FJ.start (h : FJ K P w L d e W lst M s lA lc bv se) (i x : Nat) (hx : x ≤ 100) (hi : d.testBit i = false) : FJ K P w L d e (W.setCell ⟨K.p, i, none⟩ (.int .i64 (x : Int))) lst (M.set i x) s lA lc bv se := by
 have hp := h.pll
 exact ⟨h.fx.start i x hx, h.agree.keepset hi, (sother _ (by omega)).trans h.x, (sother _ (by omega)).trans h.pl, (sother _ (by omega)).trans h.en, fun k h1 h2 h3 h4 => (sother _ h3).trans (h.keep k h1 h2 h3 h4), h.others.trans (KeepsOthers.setCell _ _ _), h.base, h.ql, h.pll⟩
theorem FJ.appended (h : FJ K P w L d e W lst M s lA lc bv se) {W1 : World} {lA1 : Option Addr} {lc1 i : Nat}
  (hR : (Kd.int .i64).R 3 W1 K.w0.heap.size (fun k => PF P w.heap.size k ∧ k ≠ K.q ∧ k ≠ K.p ∧ some k ≠ bv.ownBlock) (.slice lA1 (lst.length + 1) lc1) (up lst ++ [(i : Int)])) (hg : W.grownBy W1 (Value.slice lA lst.length lc).ownBlock) (hb : Below K.w0.heap.size K.w0 W1) :
  FJ K P w L d e (W1.setCell ⟨K.q, 4, none⟩ (.slice lA1 (lst.length + 1) lc1)) (lst ++ [i]) M s lA1 lc1 bv se := by
 have hq := h.ql
 have hne : ∀ k, ¬ PF P w.heap.size k → k < W.heap.size → W1.heap[k]? = W.heap[k]? := fun k hk hl => hg.block k hl (fun e1 => hk (h.fx.lst.1 k e1.symm).1)
 refine ⟨h.fx.appended hR hg hb, h.agree, (sother _ (by omega)).trans ((hne _ (fun hk => hk.2.1 rfl) h.x.lt).trans h.x), (sother _ (by omega)).trans ((hne _ (fun hk => hk.2.2.1 rfl) h.pl.lt).trans h.pl), (sother _ (by omega)).trans ((hne _ (fun hk => hk.2.2.2 rfl) h.en.lt).trans h.en), fun k h1 h2 h3 h4 => (sother _ h2).trans ((hne k (fun hk => h4 hk.1) (Nat.lt_of_lt_of_le h1 h.size)).trans (h.keep k h1 h2 h3 h4)), (h.others.trans (KeepsOthers.of_grownBy hg ?_)).trans (KeepsOthers.setCell _ _ _), h.base, h.ql, h.pll⟩
 intro j o ej hj
 obtain ⟨cs, t, hc⟩ := Kd.R_ownTyped h.fx.lst j ej
 rw [hc] at hj
 cases hj
 rfl
theorem FJ.call (h : FJ K P w L d e W lst M s lA lc bv se) {s' : Option (List Int × Nat)} {i v : Nat} (hi : d.testBit i = false) (hr : FromRes K (PF P w.heap.size) W W' lst (L.set i v) (d ||| 2 ^ i) s') :
  ∃ M' lA' lc' bv' se', FJ K P w L d e W' lst M' s' lA' lc' bv' se' := by
 obtain ⟨⟨M', lA', lc', bv', se', hx, ha⟩, ho, hk⟩ := hr
 have hq := h.ql
 have hp := h.pll
 refine ⟨M', lA', lc', bv', se', hx, fun k hdk => ?_, (hk _ h.x.lt (by omega) (by omega) (fun hk => hk.2.1 rfl)).trans h.x, (hk _ h.pl.lt (by omega) (by omega) (fun hk => hk.2.2.1 rfl)).trans h.pl, (hk _ h.en.lt (by omega) (by omega) (fun hk => hk.2.2.2 rfl)).trans h.en, fun k h1 h2 h3 h4 => (hk k (Nat.lt_of_lt_of_le h1 h.size) h2 h3 (fun h5 => h4 h5.1)).trans (h.keep k h1 h2 h3 h4), h.others.trans ho, h.base, h.ql, h.pll⟩
 have hne : i ≠ k := by
  intro e1
  subst e1
  rw [hi] at hdk
  cases hdk
 have h1 := ha k (by rw [or_bit, hdk]; rfl)
 rw [List.getD_eq_getElem?_getD, List.getElem?_set_ne hne, ← List.getD_eq_getElem?_getD] at h1
 exact h1
theorem FJ.cut {i : Nat} (h : FJ K P w L d e W (lst ++ [i]) M s lA lc bv se) : FJ K P w L d e (W.setCell ⟨K.q, 4, none⟩ (.slice lA lst.length lc)) lst M s lA lc bv se := by
 have hq := h.ql
 exact ⟨h.fx.cut, h.agree, (sother _ (by omega)).trans h.x, (sother _ (by omega)).trans h.pl, (sother _ (by omega)).trans h.en, fun k h1 h2 h3 h4 => (sother _ h2).trans (h.keep k h1 h2 h3 h4), h.others.trans (KeepsOthers.setCell _ _ _), h.base, h.ql, h.pll⟩
theorem FJ.res (h : FJ K P w L d e W lst M s lA lc bv se) : FromRes K P w W lst L d s :=
 ⟨⟨M, lA, lc, bv, se, h.fx.with (fun k _ hk => hk.1), h.agree⟩, h.others, h.keep⟩
theorem FJ.found (h : FJ K P w L d e W lst M s lA lc bv se) {W1 : World} {v : Value} (hb : Below W.heap.size W W1) (hR : (Kd.int .i64).R 3 W1 W.heap.size (fun _ => True) v (up lst)) :
  FJ K P w L d e (((W1.setCell ⟨K.q, 5, none⟩ v).setCell ⟨K.q, 6, none⟩ (.int .i64 (e : Int))).setCell ⟨K.q, 7, none⟩ (.bool true)) lst M (some (up lst, e)) lA lc v (e : Int) := by
 have hq := h.ql
 have h1 := h.move hb
 exact ⟨h.fx.found hb hR, h.agree, (sother _ (by omega)).trans ((sother _ (by omega)).trans ((sother _ (by omega)).trans h1.x)), (sother _ (by omega)).trans ((sother _ (by omega)).trans ((sother _ (by omega)).trans h1.pl)), (sother _ (by omega)).trans ((sother _ (by omega)).trans ((sother _ (by omega)).trans h1.en)), fun k h1' h2 h3 h4 => (sother _ h2).trans ((sother _ h2).trans ((sother _ h2).trans (h1.keep k h1' h2 h3 h4))), ((h1.others.trans (KeepsOthers.setCell _ _ _)).trans (KeepsOthers.setCell _ _ _)).trans (KeepsOthers.setCell _ _ _), h.base, h.ql, h.pll⟩
/-- At the beginning: three blocks more. -/
theorem FJ.new (h : FX K P w lst M s lA lc bv se) (ha : AgreeOn d L M) :
  FJ K P w L d e (((w.alloc (.cells #[.pointer (some ⟨K.q, 0, none⟩)] 71)).alloc (.cells #[.int .u16 (d : Int)] 77)).alloc (.cells #[.int .i64 (e : Int)] 3)) lst M s lA lc bv se := by
 have s1 : (w.alloc (.cells #[.pointer (some ⟨K.q, 0, none⟩)] 71)).heap.size = w.heap.size + 1 := by simp
 have s2 : ((w.alloc (.cells #[.pointer (some ⟨K.q, 0, none⟩)] 71)).alloc (.cells #[.int .u16 (d : Int)] 77)).heap.size = w.heap.size + 1 + 1 := by simp
 have b1 := Boxed.new (w.alloc (.cells #[.pointer (some ⟨K.q, 0, none⟩)] 71)) 77 (.int .u16 (d : Int))
 rw [s1] at b1
 have b2 := Boxed.new ((w.alloc (.cells #[.pointer (some ⟨K.q, 0, none⟩)] 71)).alloc (.cells #[.int .u16 (d : Int)] 77)) 3 (.int .i64 (e : Int))
 rw [s2] at b2
 have hB : Below w.heap.size w (((w.alloc (.cells #[.pointer (some ⟨K.q, 0, none⟩)] 71)).alloc (.cells #[.int .u16 (d : Int)] 77)).alloc (.cells #[.int .i64 (e : Int)] 3)) := (((Below.refl w.heap.size w).alloc (Nat.le_refl _) _).alloc (by simp) _).alloc (by simp; omega) _
 have hF : FX K (PF P w.heap.size) w lst M s lA lc bv se := h.with (fun k hk hp => ⟨hp, by omega, by omega, by omega⟩)
 exact ⟨hF.move hB, ha, ((Boxed.new w _ _).alloc _).alloc _, b1.alloc _, b2, fun k h1 _ _ _ => hB.block k h1, keepsOthers_below hB, h.below.size, h.qlt, h.plt⟩
end
end Go.Proofs.YtimbfcedigaffaaDoor.Core
end
section
set_option linter.unusedVariables false
set_option linter.unusedSimpArgs false
namespace Go.Proofs.YtimbfcedigaffaaDoor.Core
open Go Go.RowKit Go.Shelf Go.Proofs.YtimbfcedigaffaaDoorW.PrintWords Go.Proofs.YtimbfcedigaffaaDoorW.PrintLast Go.Proofs.YtimbfcedigaffaaDoorW.PrintMore Go.Proofs.YtimbfcedigaffaaDoor.P
attribute [local go_sem] Oper.semAt_some wide_fn wide_depth
set_option maxRecDepth 100000 in
set_option maxHeartbeats 4000000 in
theorem ready_calls (b : Nat) (G : GD) (d : Nat) (w : World) (hg : IsG w b G) (ok : GOk G) (hd : d < 256) :
  Calls Tryd.prog 65 #[.pointer (some ⟨b, 0, none⟩), .int .u16 (d : Int)] w fun e w' => e = .returned (.int .u16 ((G.ready d : Nat) : Int)) ∧ w = w' := by
 obtain ⟨A, c, hc, _, hC⟩ := hg.needs
 have hC := Aside0.mk hC
 go_enter Tryd.func65, Tryd.ntmps65
 go_wp2
 go_loopg [5, 13] G.needs.length (fun kq v5 v13 w' => ∃ (i : Nat) (x : Int) (o : Int), v5 = .int .u16 o ∧ v13 = .int .i64 x ∧ Aside0 (i + kq = G.needs.length ∧ x = (i : Int) ∧ o = ((readyTo G.needs d i : Nat) : Int)) ∧ w = w')
 case atStart => exact ⟨0, 0, 0, rfl, rfl, ⟨by omega, rfl, rfl⟩, rfl⟩
 case round =>
  obtain ⟨i, x, o, rfl, rfl, hh, rfl⟩ := hrel
  by_cases hlt : i < G.needs.length
  ·have p0 : 0 ≤ x := by have := hh.out.2.1; omega
   have q0 : x < (G.needs.length : Int) := by have := hh.out.2.1; omega
   have hlt0 : decide (x < (G.needs.length : Int)) = true := decide_eq_true q0
   obtain ⟨ad, e0, hx0⟩ := Kd.at_int hC.out x p0 q0
   subst e0
   rw [rd_up (i := i) hh.out.2.1] at hx0
   have h8 : G.needs.length ≤ 8 := by have := ok.n8; have := ok.nl; omega
   have hNi : G.needs.getD i 0 < 256 := Nat.lt_of_lt_of_le (getD_lt ok.nb i) (pow8 ok.n8)
   have hA := andNot_eq hNi hd
   have hW := readyTo_lt G.needs d i
   have hstep : readyTo G.needs d (i + 1) = if d.testBit i = false ∧ sub (G.needs.getD i 0) d = 0 then readyTo G.needs d i ||| 2 ^ i else readyTo G.needs d i := rfl
   have hB := has_calls d i hd (by omega) w
   have hWc := with_calls (readyTo G.needs d i) i (Nat.lt_of_lt_of_le hW (Nat.le_trans (Nat.pow_le_pow_right (by omega) (show i ≤ 8 by omega)) (by decide))) (by omega) w
   rw [← hh.out.2.2, ← hh.out.2.1] at hWc
   rw [← hh.out.2.1] at hB
   generalize G.needs.getD i 0 = s at hx0 hA hstep
   generalize hbb : d.testBit i = bb at hB hstep
   generalize hz : sub s d = z0 at hA hstep
   generalize hz2 : ((z0 : Nat) : Int) = z at hA
   generalize hr1 : readyTo G.needs d i ||| 2 ^ i = r1 at hWc hstep
   replace p0 := eq_true p0
   replace q0 := eq_true q0
   have HS := Aside0.mk hstep
   have HZ := Aside0.mk hz2
   have HL := Aside0.mk hlt
   clear hstep hbb hz hz2 hr1 hlt hW
   have hz01 : z = 0 ∨ z ≠ 0 := by omega
   cases bb with
   | true =>
    go_wp2_with (go_at_call 76; refine hB.mono ?_; rintro e w' ⟨rfl, rfl⟩)
    go_roundg (G.needs.length - (i + 1))
    case measure => have := hh.out.1; have := HL.out; omega
    case rel =>
     have h1 := hh.out; have := HL.out
     refine ⟨i + 1, _, _, rfl, rfl, ⟨by omega, by rw [h1.2.1]; unfold wrap64; omega, by rw [HS.out, h1.2.2]; simp⟩, rfl⟩
   | false =>
    rcases hz01 with rfl | hz0
    ·go_wp2_with (first | (go_at_call 76; refine hB.mono ?_; rintro e w' ⟨rfl, rfl⟩) | (go_at_call 68; refine hWc.mono ?_; rintro e w' ⟨rfl, rfl⟩))
     go_roundg (G.needs.length - (i + 1))
     case measure => have := hh.out.1; have := HL.out; omega
     case rel =>
      have h1 := hh.out; have := HL.out
      have hz3 : z0 = 0 := by have := HZ.out; omega
      refine ⟨i + 1, _, _, rfl, rfl, ⟨by omega, by rw [h1.2.1]; unfold wrap64; omega, by rw [HS.out, hz3]; simp⟩, rfl⟩
    ·have hz4 : (z == 0) = false := beq_eq_false_iff_ne.2 hz0
     go_wp2_with (first | (go_at_call 76; refine hB.mono ?_; rintro e w' ⟨rfl, rfl⟩) | (go_at_call 68; refine hWc.mono ?_; rintro e w' ⟨rfl, rfl⟩))
     go_roundg (G.needs.length - (i + 1))
     case measure => have := hh.out.1; have := HL.out; omega
     case rel =>
      have h1 := hh.out; have := HL.out
      have hz3 : z0 ≠ 0 := by have := HZ.out; omega
      refine ⟨i + 1, _, _, rfl, rfl, ⟨by omega, by rw [h1.2.1]; unfold wrap64; omega, by rw [HS.out, h1.2.2]; simp [hz3]⟩, rfl⟩
  ·have hlt0 : decide (x < (G.needs.length : Int)) = false := by have := hh.out; simp; omega
   have hi : i = G.needs.length := by have := hh.out; omega
   have ho := hh.out.2.2
   go_wp2
   go_ret
   refine ⟨?_, rfl⟩
   rw [ho, hi]
   rfl
end Go.Proofs.YtimbfcedigaffaaDoor.Core
end
section
set_option linter.unusedVariables false
set_option linter.unusedSimpArgs false
namespace Go.Proofs.YtimbfcedigaffaaDoor.Core
open Go Go.RowKit Go.Shelf Go.Proofs.YtimbfcedigaffaaDoorW.PrintWords Go.Proofs.YtimbfcedigaffaaDoorW.PrintLast Go.Proofs.YtimbfcedigaffaaDoorW.PrintMore Go.Proofs.YtimbfcedigaffaaDoor.P
attribute [local go_sem] Oper.semAt_some wide_fn wide_depth max2_int max_two
/-- What is known of the search all the time. -/
structure FG (K : FK) (G : GD) (room : List Int) : Prop where
 tab : Tab K.w0
 g : IsG K.w0 K.b G
 ok : GOk G
 task : ∀ t ∈ G.tasks, taskOk t
 pool : ∀ t ∈ G.tasks, 0 ≤ t.f2 ∧ t.f2 ≤ 2
 fine : Fine G.tasks room K.wk
 n : K.n = G.tasks.length
 n5 : G.tasks.length ≤ 5
 r3 : room.length = 3
 rc : Kd.C (Kd.int .i64) K.w0 K.A1 room.length room
 n1 : K.n1 = room.length
 c1 : room.length ≤ K.c1
set_option maxRecDepth 100000 in
set_option maxHeartbeats 8000000 in
theorem from_calls (K : FK) (G : GD) (room : List Int) (F : FG K G room) : ∀ k, ∀ (P : Nat → Prop) (lst L M : List Nat) (d e : Nat) (s : Option (List Int × Nat)) (lA : Option Addr) (lc : Nat) (bv : Value) (se : Int) (w : World), K.n < lst.length + k → lst.length ≤ K.n → FX K P w lst M s lA lc bv se → (∀ j, w.heap.size ≤ j → P j) → AgreeOn d L M → L.length = K.n → d < 2 ^ K.n → overBy G.tasks L d (20 * lst.length) → e ≤ 20 * lst.length →
  Calls Tryd.prog 47 #[.pointer (some ⟨K.q, 0, none⟩), .int .u16 (d : Int), .int .i64 (e : Int)] w fun r w' => r = .returned (.tuple #[]) ∧ FromRes K P w w' lst L d (fromF G.tasks G.needs room K.wk k lst L d e s) := by
 intro k
 induction k with
 | zero => exact fun _ _ _ _ _ _ _ _ _ _ _ _ h1 h2 _ _ _ _ _ _ _ => absurd h1 (by omega)
 | succ k ih0 =>
  intro P lst L M d e s lA lc bv se w hk1 hln hX hP hA hLl hd2 hov he
  have ih := Lib.hid ih0
  clear ih0
  by_cases hcut : cutB s e = true
  ·-- a branch that is cut
   have hres : fromF G.tasks G.needs room K.wk (k + 1) lst L d e s = s := by unfold fromF; rw [if_pos hcut]
   rw [hres]
   cases s with
   | none => cases hcut
   | some o =>
    have hle : o.2 ≤ e := of_decide_eq_true hcut
    refine (from_cut K.q K.b K.A1 K.n1 K.c1 K.wk K.p K.n _ bv se d e w hX.sb (by rw [(hX.best o rfl).1]; omega)).mono ?_
    rintro r w' ⟨hr, hB⟩
    exact ⟨hr, ⟨⟨M, lA, lc, bv, se, hX.move hB, hA⟩, keepsOthers_below hB, fun k h _ _ _ => hB.block k h⟩⟩
  have h8 : G.tasks.length ≤ 8 := F.ok.n8
  have h256 := pow8 h8
  have hd256 : d < 256 := Nat.lt_of_lt_of_le (by rw [← F.n]; exact hd2) h256
  obtain ⟨RES, hRES⟩ : ∃ R, R = fromF G.tasks G.needs room K.wk (k + 1) lst L d e s := ⟨_, rfl⟩
  rw [← hRES]
  unfold fromF at hRES
  rw [if_neg hcut] at hRES
  obtain ⟨W3, hW3⟩ : ∃ W3, W3 = ((w.alloc (.cells #[.pointer (some ⟨K.q, 0, none⟩)] 71)).alloc (.cells #[.int .u16 (d : Int)] 77)).alloc (.cells #[.int .i64 (e : Int)] 3) := ⟨_, rfl⟩
  have J3 : FJ K P w L d e W3 lst M s lA lc bv se := by rw [hW3]; exact FJ.new hX hA
  have HJ := Aside0.mk J3
  have HW := Aside0.mk hW3
  have HRES := Aside0.mk hRES
  have HBEST := Aside0.mk hX.best
  have HF := Aside0.mk F
  have HP := Aside0.mk hP
  have HOV := Aside0.mk (show overBy G.tasks L d (20 * lst.length) ∧ L.length = K.n ∧ d < 2 ^ K.n ∧ e ≤ 20 * lst.length ∧ K.n < lst.length + (k + 1) ∧ lst.length ≤ K.n ∧ d < 256 from ⟨hov, hLl, hd2, he, hk1, hln, hd256⟩)
  have HIH := Aside0.mk ih.out
  have HQX := Aside0.mk (show w.heap.size ≠ K.q ∧ w.heap.size + 1 + 1 ≠ K.q from ⟨by have := J3.ql; omega, by have := J3.ql; omega⟩)
  have hge : s.isSome = true → decide ((e : Int) ≥ se) = false := by
   intro hs
   obtain ⟨o, rfl⟩ := Option.isSome_iff_exists.1 hs
   rw [(hX.best o rfl).1]
   refine decide_eq_false (fun h => hcut (decide_eq_true ?_))
   omega
  have HGE := Aside0.mk hge
  clear J3 hW3 hRES hX F hP hA hov hLl hd2 he hk1 hln ih hd256 hge hcut
  refine calls_marks Tryd.func47 rfl ?_
  simp only [Tryd.ntmps47, List.size_toArray, List.length_cons, List.length_nil, Nat.reduceAdd, Nat.reduceSub, Array.replicate_succ, Array.replicate_zero, List.push_toArray, List.append_toArray, List.nil_append, List.cons_append]
  go_wp2
  rw [← HW.out]
  refine wp_region_still_tail 11 rfl (by kernel_rfl) ?_
  change wpStill _ _ W3.drew (fun a' => wpList _ _ _ _ a' W3.drew) _ _
  have hdr : Below W3.heap.size W3 W3.drew := below_drew (Below.refl _ _)
  revert hdr
  generalize W3.drew = Wd
  intro hdr
  have HJ2 := Aside0.mk (HJ.out.move hdr)
  clear hdr HJ HW
  simp only [List.take_succ_cons, List.take_zero, List.drop_succ_cons, List.drop_zero]
  rename_i Q0 K1 a1 K0 a0
  have key : ∀ v7 v8 v9 v10 v11 v12 v13 v14 v15 v16 v17 v18 : Value, K1 { tmps := #[.pointer (some ⟨K.q, 0, none⟩), .int .u16 (d : Int), .int .i64 (e : Int), .pointer (some ⟨w.heap.size, 0, none⟩), .pointer (some ⟨w.heap.size + 1, 0, none⟩), .pointer (some ⟨w.heap.size + 1 + 1, 0, none⟩), undef, v7, v8, v9, v10, v11, v12, v13, v14, v15, v16, v17, v18, undef, undef, undef, undef, undef, undef, undef, undef, undef, undef, undef, undef, undef, undef, undef, undef, undef, undef, undef, undef, undef, undef, undef, undef, undef, undef, undef, undef, undef, undef, undef, undef, undef, undef, undef, undef, undef, undef, undef, undef, undef, undef, undef, undef, undef, undef, undef, undef, undef, undef, undef, undef, undef, undef, undef, undef, undef, undef, undef, undef, undef, undef, undef, undef, undef, undef, undef, undef, undef, undef, undef, undef, undef, undef, undef, undef, undef, undef, undef, undef, undef, undef, undef, undef, undef, undef, undef, undef, undef, undef, undef, undef, undef, undef, undef, undef, undef, undef, undef, undef, undef, undef, undef, undef, undef, undef, undef, undef, undef], defers := [] } Wd := by
   intro v7 v8 v9 v10 v11 v12 v13 v14 v15 v16 v17 v18
   refine a1 _ _ ?_
   go_wp2
   refine wp_region_still_tail 10 rfl (by kernel_rfl) ?_
   change wpStill _ _ Wd.drew (fun a' => wpList _ _ _ _ a' Wd.drew) _ _
   have hdr : Below Wd.heap.size Wd Wd.drew := below_drew (Below.refl _ _)
   revert hdr
   generalize Wd.drew = We
   intro hdr
   have HJ3 := Aside0.mk (HJ2.out.move hdr)
   clear hdr
   have hcx := HJ3.out.x.cell
   have hc4 : We.cell? ⟨K.q, 4, none⟩ = some (.slice lA lst.length lc) := by simp [World.cell?, HJ3.out.fx.sb.row]
   have hc0 : We.cell? ⟨K.q, 0, none⟩ = some (.pointer (some ⟨K.b, 0, none⟩)) := by simp [World.cell?, HJ3.out.fx.sb.row]
   have hsz : Calls Tryd.prog 46 #[.pointer (some ⟨K.b, 0, none⟩)] We (fun e w'' => e = .returned (.int .i64 (G.tasks.length : Int)) ∧ w'' = We) := (size_calls K.b G We (HF.out.g.move HJ3.out.fx.below)).mono (fun _ _ h => ⟨h.1, h.2.symm⟩)
   have HSZ := Aside0.mk hsz
   clear hsz
   simp only [List.take_succ_cons, List.take_zero, List.drop_succ_cons, List.drop_zero]
   iterate 9 still_step
   still_call HSZ.out
   refine wpStill_nil ?_
   have hnn : G.needs.length = K.n := by have := HF.out.ok.nl; have := HF.out.n; omega
   have hnt : G.tasks.length = K.n := HF.out.n.symm
   by_cases hfull : lst.length = K.n
   ·have heq : ((lst.length : Int) == (G.tasks.length : Int)) = true := beq_iff_eq.2 (by rw [hfull, hnt])
    have hrs := HRES.out
    rw [hnn, if_pos hfull] at hrs
    replace HRES := Aside0.mk hrs
    have HJ4 := Aside0.mk (HJ3.out.move (below_drew (Below.refl _ _)))
    have hcl := clone_calls lA lc (up lst) We.drew (Kd.R_reads' (by simpa [up_length] using HJ4.out.fx.lst)).2.2 (by rw [up_length]; have := HF.out.n5; omega)
    rw [up_length] at hcl
    have HCL := Aside0.mk hcl
    have hc4 : We.drew.cell? ⟨K.q, 4, none⟩ = some (.slice lA lst.length lc) := by simp [World.cell?, HJ4.out.fx.sb.row]
    clear hrs hcl hnn hnt hfull
    go_wp2
    clear heq hcx hc0
    refine wp_normal ?_
    refine start_ (n := 18) (S := fun w' => w'.cell? ⟨w.heap.size, 0, none⟩ = some (.pointer (some ⟨K.q, 0, none⟩)) ∧ w'.cell? ⟨w.heap.size + 1 + 1, 0, none⟩ = some (.int .i64 (e : Int)) ∧ w'.cell? ⟨K.q, 4, none⟩ = some (.slice lA lst.length lc)) (ds := []) #[F5qc,F5qc,F5qc,F5qc,F5qc,F5qc,F5qc,F5qc,F5qc,F5qc,F5qc,F5qc,F5qc,F5qc,F5qc,F5qc,F5qc,F5qc] rfl (by kernel_rfl) rfl ⟨HJ4.out.x.cell, HJ4.out.en.cell, hc4⟩ (fun hHeld => ?_)
    clear hc4
    revert hHeld HJ4 HCL
    generalize We.drew = Wf
    intro HJ4 HCL hHeld
    refine take_ (i := 0) (N := some 30) (v := ?_) (a' := ?_) #[T5qc,F5qc,F5qc,F5qc,F5qc,F5qc,F5qc,F5qc,F5qc,F5qc,F5qc,F5qc,F5qc,F5qc,F5qc,F5qc,F5qc,F5qc] rfl rfl (by kernel_rfl) (fun _ _ _ h => h) (Or.inl ⟨by rfl, ?_⟩) hHeld ?_ ?_
    rotate_left
    ·rintro w' ⟨s0, s1, s2⟩
     go_simp
     with_reducible rfl
    rotate_left
    ·simp only [Act.put, List.setIfInBounds_toArray, List.set_cons_zero, List.set_cons_succ, i64_w, i32_w]
     rfl
    refine take_ (i := 1) (N := some 31) (v := ?_) (a' := ?_) #[T5qc,T5qc,F5qc,F5qc,F5qc,F5qc,F5qc,F5qc,F5qc,F5qc,F5qc,F5qc,F5qc,F5qc,F5qc,F5qc,F5qc,F5qc] rfl rfl (by kernel_rfl) (fun _ _ _ h => h) (Or.inl ⟨by rfl, ?_⟩) hHeld ?_ ?_
    rotate_left
    ·rintro w' ⟨s0, s1, s2⟩
     go_simp
     with_reducible rfl
    rotate_left
    ·simp only [Act.put, List.setIfInBounds_toArray, List.set_cons_zero, List.set_cons_succ, i64_w, i32_w]
     rfl
    refine take_ (i := 2) (N := some 32) (v := ?_) (a' := ?_) #[T5qc,T5qc,T5qc,F5qc,F5qc,F5qc,F5qc,F5qc,F5qc,F5qc,F5qc,F5qc,F5qc,F5qc,F5qc,F5qc,F5qc,F5qc] rfl rfl (by kernel_rfl) (fun _ _ _ h => h) (Or.inl ⟨by rfl, ?_⟩) hHeld ?_ ?_
    rotate_left
    ·rintro w' ⟨s0, s1, s2⟩
     go_simp
     with_reducible rfl
    rotate_left
    ·simp only [Act.put, List.setIfInBounds_toArray, List.set_cons_zero, List.set_cons_succ, i64_w, i32_w]
     rfl
    refine take_ (i := 3) (N := some 33) (v := ?_) (a' := ?_) #[T5qc,T5qc,T5qc,T5qc,F5qc,F5qc,F5qc,F5qc,F5qc,F5qc,F5qc,F5qc,F5qc,F5qc,F5qc,F5qc,F5qc,F5qc] rfl rfl (by kernel_rfl) (fun _ _ _ h => h) (Or.inl ⟨by rfl, ?_⟩) hHeld ?_ ?_
    rotate_left
    ·rintro w' ⟨s0, s1, s2⟩
     go_simp
     with_reducible rfl
    rotate_left
    ·simp only [Act.put, List.setIfInBounds_toArray, List.set_cons_zero, List.set_cons_succ, i64_w, i32_w]
     rfl
    refine pure_ (i := 4) (N := some 34) (v := ?_) (a' := ?_) #[T5qc,T5qc,T5qc,T5qc,T5qc,F5qc,F5qc,F5qc,F5qc,F5qc,F5qc,F5qc,F5qc,F5qc,F5qc,F5qc,F5qc,F5qc] rfl rfl (by kernel_rfl) (fun _ _ _ h => h) (Or.inl ⟨by rfl, ?_⟩) ?_ ?_
    rotate_left
    ·intro w'
     go_simp
     with_reducible rfl
    rotate_left
    ·simp only [Act.put, List.setIfInBounds_toArray, List.set_cons_zero, List.set_cons_succ, i64_w, i32_w]
     rfl
    refine pure_ (i := 5) (N := some 35) (v := ?_) (a' := ?_) #[T5qc,T5qc,T5qc,T5qc,T5qc,T5qc,F5qc,F5qc,F5qc,F5qc,F5qc,F5qc,F5qc,F5qc,F5qc,F5qc,F5qc,F5qc] rfl rfl (by kernel_rfl) (fun _ _ _ h => h) (Or.inl ⟨by rfl, ?_⟩) ?_ ?_
    rotate_left
    ·intro w'
     go_simp
     with_reducible rfl
    rotate_left
    ·simp only [Act.put, List.setIfInBounds_toArray, List.set_cons_zero, List.set_cons_succ, i64_w, i32_w]
     rfl
    refine take_ (i := 6) (N := some 36) (v := ?_) (a' := ?_) #[T5qc,T5qc,T5qc,T5qc,T5qc,T5qc,T5qc,F5qc,F5qc,F5qc,F5qc,F5qc,F5qc,F5qc,F5qc,F5qc,F5qc,F5qc] rfl rfl (by kernel_rfl) (fun _ _ _ h => h) (Or.inl ⟨by rfl, ?_⟩) hHeld ?_ ?_
    rotate_left
    ·rintro w' ⟨s0, s1, s2⟩
     go_simp
     with_reducible rfl
    rotate_left
    ·simp only [Act.put, List.setIfInBounds_toArray, List.set_cons_zero, List.set_cons_succ, i64_w, i32_w]
     rfl
    refine take_ (i := 8) (N := some 38) (v := ?_) (a' := ?_) #[T5qc,T5qc,T5qc,T5qc,T5qc,T5qc,T5qc,F5qc,T5qc,F5qc,F5qc,F5qc,F5qc,F5qc,F5qc,F5qc,F5qc,F5qc] rfl rfl (by kernel_rfl) (fun _ _ _ h => h) (Or.inl ⟨by rfl, ?_⟩) hHeld ?_ ?_
    rotate_left
    ·rintro w' ⟨s0, s1, s2⟩
     go_simp
     with_reducible rfl
    rotate_left
    ·simp only [Act.put, List.setIfInBounds_toArray, List.set_cons_zero, List.set_cons_succ, i64_w, i32_w]
     rfl
    refine one_ (i := 7) (N := some 37) #[T5qc,T5qc,T5qc,T5qc,T5qc,T5qc,T5qc,T5qc,T5qc,F5qc,F5qc,F5qc,F5qc,F5qc,F5qc,F5qc,F5qc,F5qc] rfl rfl (by kernel_rfl) (by decide) (fun K_ hK => ?_)
    refine goes_ Tryd.func64 (by kernel_rfl) rfl #[.slice lA lst.length lc] (by rfl) rfl rfl (by (try simp only [List.map_toArray, List.map_cons, List.map_nil]); rfl) ?_
    refine (HCL.out).mono ?_
    rintro e_ w5 ⟨vc, rfl, hRv, hb5⟩
    obtain ⟨Ac, cc, ec⟩ := Kd.R_slice hRv
    subst ec
    refine ⟨_, rfl, ?_⟩
    have hHeld5 : w5.cell? ⟨w.heap.size, 0, none⟩ = some (.pointer (some ⟨K.q, 0, none⟩)) ∧ w5.cell? ⟨w.heap.size + 1 + 1, 0, none⟩ = some (.int .i64 (e : Int)) ∧ w5.cell? ⟨K.q, 4, none⟩ = some (.slice lA lst.length lc) := ⟨(hb5.cell (World.block_lt_of_cell? _ _ hHeld.1)).trans hHeld.1, (hb5.cell (World.block_lt_of_cell? _ _ hHeld.2.1)).trans hHeld.2.1, (hb5.cell (World.block_lt_of_cell? _ _ hHeld.2.2)).trans hHeld.2.2⟩
    refine hK.out _ _ hHeld5 (fun hHeld => ?_)
    clear hK K_ hHeld5
    refine norm_ (a' := ?_) ?_ ?_
    rotate_left
    ·show Act.put _ (some 37) _ = _
     simp only [Act.put, List.setIfInBounds_toArray, List.set_cons_zero, List.set_cons_succ, i64_w, i32_w]
     rfl
    have hj5 := HJ4.out.fx.move hb5
    have q5 := hj5.sb.row
    have HFD := Aside0.mk (HJ4.out.found hb5 hRv)
    have hqx := HQX.out
    refine pure_ (i := 9) (N := some 39) (v := ?_) (a' := ?_) #[T5qc,T5qc,T5qc,T5qc,T5qc,T5qc,T5qc,T5qc,T5qc,T5qc,F5qc,F5qc,F5qc,F5qc,F5qc,F5qc,F5qc,F5qc] rfl rfl (by kernel_rfl) (fun _ _ _ h => h) (Or.inl ⟨by rfl, ?_⟩) ?_ ?_
    rotate_left
    ·intro w'
     go_simp
     with_reducible rfl
    rotate_left
    ·simp only [Act.put, List.setIfInBounds_toArray, List.set_cons_zero, List.set_cons_succ, i64_w, i32_w]
     rfl
    refine pure_ (i := 10) (N := some 40) (v := ?_) (a' := ?_) #[T5qc,T5qc,T5qc,T5qc,T5qc,T5qc,T5qc,T5qc,T5qc,T5qc,T5qc,F5qc,F5qc,F5qc,F5qc,F5qc,F5qc,F5qc] rfl rfl (by kernel_rfl) (fun _ _ _ h => h) (Or.inl ⟨by rfl, ?_⟩) ?_ ?_
    rotate_left
    ·intro w'
     go_simp
     with_reducible rfl
    rotate_left
    ·simp only [Act.put, List.setIfInBounds_toArray, List.set_cons_zero, List.set_cons_succ, i64_w, i32_w]
     rfl
    refine one_ (i := 11) (N := none) #[T5qc,T5qc,T5qc,T5qc,T5qc,T5qc,T5qc,T5qc,T5qc,T5qc,T5qc,T5qc,F5qc,F5qc,F5qc,F5qc,F5qc,F5qc] rfl rfl (by kernel_rfl) (by decide) (fun K_ hK => ?_)
    refine skip_ (w1 := ?_) (by rfl) rfl ?_ ?_
    rotate_left
    ·have hcq : (w5).cell? ⟨K.q, 5, none⟩ = some bv := by simp [World.cell?, q5]
     have hfq : (w5).frozen? ⟨K.q, 5, none⟩ = false := by simp [World.frozen?, q5]
     go_simp
     rfl
    refine hK.out _ _ ?hs11 (fun hHeld => ?_)
    case hs11 =>
     exact ⟨(World.cell?_of_block (a := ⟨w.heap.size, 0, none⟩) (sother _ hqx.1)).trans hHeld.1, (World.cell?_of_block (a := ⟨w.heap.size + 1 + 1, 0, none⟩) (sother _ hqx.2)).trans hHeld.2.1, by rw [World.cell?, blk_set q5 5 _]; simp⟩
    clear hK K_
    have q6 := blk_set q5 5 (.slice Ac (up lst).length cc)
    simp only [List.setIfInBounds_toArray, List.set_cons_zero, List.set_cons_succ] at q6
    obtain ⟨w6, hw6⟩ : ∃ W_, W_ = (w5).setCell ⟨K.q, 5, none⟩ (.slice Ac (up lst).length cc) := ⟨_, rfl⟩
    rw [← hw6] at hHeld q6 ⊢
    have Hw6 := Aside0.mk hw6
    clear hw6
    refine pure_ (i := 12) (N := some 41) (v := ?_) (a' := ?_) #[T5qc,T5qc,T5qc,T5qc,T5qc,T5qc,T5qc,T5qc,T5qc,T5qc,T5qc,T5qc,T5qc,F5qc,F5qc,F5qc,F5qc,F5qc] rfl rfl (by kernel_rfl) (fun _ _ _ h => h) (Or.inl ⟨by rfl, ?_⟩) ?_ ?_
    rotate_left
    ·intro w'
     go_simp
     with_reducible rfl
    rotate_left
    ·simp only [Act.put, List.setIfInBounds_toArray, List.set_cons_zero, List.set_cons_succ, i64_w, i32_w]
     rfl
    refine pure_ (i := 13) (N := some 42) (v := ?_) (a' := ?_) #[T5qc,T5qc,T5qc,T5qc,T5qc,T5qc,T5qc,T5qc,T5qc,T5qc,T5qc,T5qc,T5qc,T5qc,F5qc,F5qc,F5qc,F5qc] rfl rfl (by kernel_rfl) (fun _ _ _ h => h) (Or.inl ⟨by rfl, ?_⟩) ?_ ?_
    rotate_left
    ·intro w'
     go_simp
     with_reducible rfl
    rotate_left
    ·simp only [Act.put, List.setIfInBounds_toArray, List.set_cons_zero, List.set_cons_succ, i64_w, i32_w]
     rfl
    refine one_ (i := 14) (N := none) #[T5qc,T5qc,T5qc,T5qc,T5qc,T5qc,T5qc,T5qc,T5qc,T5qc,T5qc,T5qc,T5qc,T5qc,T5qc,F5qc,F5qc,F5qc] rfl rfl (by kernel_rfl) (by decide) (fun K_ hK => ?_)
    refine skip_ (w1 := ?_) (by rfl) rfl ?_ ?_
    rotate_left
    ·have hcq : (w6).cell? ⟨K.q, 6, none⟩ = some (.int .i64 se) := by simp [World.cell?, q6]
     have hfq : (w6).frozen? ⟨K.q, 6, none⟩ = false := by simp [World.frozen?, q6]
     go_simp
     rfl
    refine hK.out _ _ ?hs14 (fun hHeld => ?_)
    case hs14 =>
     exact ⟨(World.cell?_of_block (a := ⟨w.heap.size, 0, none⟩) (sother _ hqx.1)).trans hHeld.1, (World.cell?_of_block (a := ⟨w.heap.size + 1 + 1, 0, none⟩) (sother _ hqx.2)).trans hHeld.2.1, by rw [World.cell?, blk_set q6 6 _]; simp⟩
    clear hK K_
    have q7 := blk_set q6 6 (.int .i64 (e : Int))
    simp only [List.setIfInBounds_toArray, List.set_cons_zero, List.set_cons_succ] at q7
    obtain ⟨w7, hw7⟩ : ∃ W_, W_ = (w6).setCell ⟨K.q, 6, none⟩ (.int .i64 (e : Int)) := ⟨_, rfl⟩
    rw [← hw7] at hHeld q7 ⊢
    have Hw7 := Aside0.mk hw7
    clear hw7
    refine pure_ (i := 15) (N := some 43) (v := ?_) (a' := ?_) #[T5qc,T5qc,T5qc,T5qc,T5qc,T5qc,T5qc,T5qc,T5qc,T5qc,T5qc,T5qc,T5qc,T5qc,T5qc,T5qc,F5qc,F5qc] rfl rfl (by kernel_rfl) (fun _ _ _ h => h) (Or.inl ⟨by rfl, ?_⟩) ?_ ?_
    rotate_left
    ·intro w'
     go_simp
     with_reducible rfl
    rotate_left
    ·simp only [Act.put, List.setIfInBounds_toArray, List.set_cons_zero, List.set_cons_succ, i64_w, i32_w]
     rfl
    refine pure_ (i := 16) (N := some 44) (v := ?_) (a' := ?_) #[T5qc,T5qc,T5qc,T5qc,T5qc,T5qc,T5qc,T5qc,T5qc,T5qc,T5qc,T5qc,T5qc,T5qc,T5qc,T5qc,T5qc,F5qc] rfl rfl (by kernel_rfl) (fun _ _ _ h => h) (Or.inl ⟨by rfl, ?_⟩) ?_ ?_
    rotate_left
    ·intro w'
     go_simp
     with_reducible rfl
    rotate_left
    ·simp only [Act.put, List.setIfInBounds_toArray, List.set_cons_zero, List.set_cons_succ, i64_w, i32_w]
     rfl
    refine one_ (i := 17) (N := none) #[T5qc,T5qc,T5qc,T5qc,T5qc,T5qc,T5qc,T5qc,T5qc,T5qc,T5qc,T5qc,T5qc,T5qc,T5qc,T5qc,T5qc,T5qc] rfl rfl (by kernel_rfl) (by decide) (fun K_ hK => ?_)
    refine skip_ (w1 := ?_) (by rfl) rfl ?_ ?_
    rotate_left
    ·have hcq : (w7).cell? ⟨K.q, 7, none⟩ = some (.bool s.isSome) := by simp [World.cell?, q7]
     have hfq : (w7).frozen? ⟨K.q, 7, none⟩ = false := by simp [World.frozen?, q7]
     go_simp
     rfl
    refine hK.out _ _ ?hs17 (fun hHeld => ?_)
    case hs17 =>
     exact ⟨(World.cell?_of_block (a := ⟨w.heap.size, 0, none⟩) (sother _ hqx.1)).trans hHeld.1, (World.cell?_of_block (a := ⟨w.heap.size + 1 + 1, 0, none⟩) (sother _ hqx.2)).trans hHeld.2.1, by rw [World.cell?, blk_set q7 7 _]; simp⟩
    clear hK K_
    have q8 := blk_set q7 7 (.bool true)
    simp only [List.setIfInBounds_toArray, List.set_cons_zero, List.set_cons_succ] at q8
    obtain ⟨w8, hw8⟩ : ∃ W_, W_ = (w7).setCell ⟨K.q, 7, none⟩ (.bool true) := ⟨_, rfl⟩
    rw [← hw8] at hHeld q8 ⊢
    have Hw8 := Aside0.mk hw8
    clear hw8
    refine done_ (by kernel_rfl) ?_
    have hfd := HFD.out
    rw [← Hw6.out, ← Hw7.out, ← Hw8.out] at hfd
    have HFD2 := Aside0.mk hfd
    clear hfd q5 q6 q7 q8 hj5 hqx Hw6 Hw7 Hw8 HFD
    go_wp2
    refine leave_ret (Marks.nil w.heap.size w.heap.size w8) (fun W => results_list (rs := []) rfl (by simp) .nil) ?_
    intro W' ht
    refine ⟨rfl, ?_⟩
    rw [HRES.out]
    exact (HFD2.out.tame (Nat.le_refl _) ht).res
   ·have heq : ((lst.length : Int) == (G.tasks.length : Int)) = false := beq_eq_false_iff_ne.2 (by rw [hnt]; omega)
    have hrs := HRES.out
    rw [if_neg (by rw [hnn]; exact hfull), ← elemsN_ready (by rw [hnn, ← hnt]; exact h8)] at hrs
    obtain ⟨stp, hstp⟩ : ∃ f : Option (List Int × Nat) → Nat → Option (List Int × Nat), f = (fun s i => fromF G.tasks G.needs room K.wk k (lst ++ [i]) (L.set i (earlD G.tasks L (G.needs.getD i 0) d i room K.wk)) (d ||| 2 ^ i) (max e (earlD G.tasks L (G.needs.getD i 0) d i room K.wk + tmN G.tasks i)) s) := ⟨_, rfl⟩
    rw [← hstp] at hrs
    replace HRES := Aside0.mk hrs
    have HSTP := Aside0.mk hstp
    have HNN := Aside0.mk (show G.needs.length = K.n ∧ G.tasks.length = K.n ∧ lst.length < K.n from ⟨hnn, hnt, by have := HOV.out; omega⟩)
    clear hrs hstp hnn hnt hfull hc4
    go_wp2
    clear heq hcx hc0
    refine wp_region_still_tail 6 rfl (by kernel_rfl) ?_
    change wpStill _ _ We.drew (fun a' => wpList _ _ _ _ a' We.drew) _ _
    have hdr : Below We.heap.size We We.drew := below_drew (Below.refl _ _)
    revert hdr
    generalize We.drew = Wf
    intro hdr
    have HJ4 := Aside0.mk (HJ3.out.move hdr)
    clear hdr
    have hcx := HJ4.out.x.cell
    have hcp := HJ4.out.pl.cell
    have hc0 : Wf.cell? ⟨K.q, 0, none⟩ = some (.pointer (some ⟨K.b, 0, none⟩)) := by simp [World.cell?, HJ4.out.fx.sb.row]
    have hrc := (ready_calls K.b G d Wf (HF.out.g.move HJ4.out.fx.below) HF.out.ok HOV.out.2.2.2.2.2.2).mono (R' := fun e w' => e = .returned (.int .u16 ((G.ready d : Nat) : Int)) ∧ w' = Wf) (fun _ _ h => ⟨h.1, h.2.symm⟩)
    have hrl : G.ready d < 256 := Nat.lt_of_lt_of_le (ready_lt G d) (by rw [HNN.out.1, ← HNN.out.2.1]; exact h256)
    generalize hr_ : G.ready d = rd at hrc hrl HRES
    have HRC := Aside0.mk hrc
    have HR := Aside0.mk hr_
    clear hrc hr_
    simp only [List.take_succ_cons, List.take_zero, List.drop_succ_cons, List.drop_zero]
    iterate 5 still_step
    still_call HRC.out
    refine wpStill_nil ?_
    clear hcx hcp hc0
    go_wp2_with (go_at_call 66; refine (all_calls rd _).mono ?_; rintro e_ w' ⟨rfl, rfl⟩)
    have hst := Boxed.new Wf 77 (.int .u16 (rd : Int))
    have J5 := HJ4.out.alloc (.cells #[.int .u16 (rd : Int)] 77)
    have hs5 : (Wf.alloc (.cells #[.int .u16 (rd : Int)] 77)).heap.size = Wf.heap.size + 1 := by simp
    revert hst J5 hs5
    generalize Wf.alloc (.cells #[.int .u16 (rd : Int)] 77) = w4
    intro hst J5 hs5
    have hle : w.heap.size ≤ w4.heap.size := J5.size
    refine wp_rangeSet Tab.tame (w := w4) (w0 := w4) (p := 52) (d := 6) rfl (enters_of Tryd.func77 (by kernel_rfl) rfl)
     (all_seq Wf.heap.size rd hrl w4 (HF.out.tab.of J5.fx.below) hst.cell) (Below.refl _ _) (by simp)
     (fun ys W' => ∃ zs M' lA' lc' bv' se', ys = up zs ∧ FJ K P w L d e W' lst M' (zs.foldl stp s) lA' lc' bv' se' ∧ w4.heap.size ≤ W'.heap.size) (fun _ _ _ => False)
     (ownFrom_tame (fun ys W' W'' ht ⟨zs, M', lA', lc', bv', se', a, j, f⟩ => ⟨zs, M', lA', lc', bv', se', a, j.tame hle ht, Nat.le_trans f ht.size⟩)) (fun _ => ownFrom_tame (fun _ _ _ _ h => h))
     ⟨[], M, lA, lc, bv, se, rfl, J5, Nat.le_refl _⟩ (fun ys W' ⟨_, _, _, _, _, _, _, j, _⟩ => HF.out.tab.of j.fx.below) ?body ?done (fun _ _ _ _ _ h _ => h.elim)
    case done =>
     rintro D W2 hD ⟨zs, M', lA', lc', bv', se', hzs, J6, hsz⟩ hk
     obtain rfl : elemsN rd = zs := up_inj hzs
     have hm := (Marks.nil w.heap.size w4.heap.size W2).cons hD hle hk
     clear hzs hk
     go_wp2
     refine leave_ret hm (fun W => results_list (rs := []) rfl (by simp) .nil) ?_
     intro W' ht
     refine ⟨rfl, ?_⟩
     rw [HRES.out]
     exact (J6.tame (Nat.le_refl _) ht).res
    case body =>
     rintro l pre1 x W1 hx ⟨zs, M1, lA1, lc1, bv1, se1, rfl, J1, hsz⟩ hlt1
     gi_wp2
     obtain ⟨i, hxi, hi8, hib⟩ := mem_elems.1 hx
     have hmr := (mem_ready (G := G) (d := d) (i := i) (by have := HNN.out.1; have := HF.out.n5; have := HNN.out.2.1; omega)).1 (mem_elemsN.2 ⟨hi8, by rw [HR.out]; exact hib⟩)
     obtain ⟨hin, hdi, hz⟩ := hmr
     have hnd8 : G.needs.getD i 0 < 256 := Nat.lt_of_lt_of_le (getD_lt HF.out.ok.nb i) h256
     have hsubs := sub_none hnd8 HOV.out.2.2.2.2.2.2 hz
     have hinG : i < G.tasks.length := by have := HNN.out.1; have := HNN.out.2.1; omega
     have hovM : overBy G.tasks M1 d (20 * lst.length) := fun k_ hk_ => by rw [← endN_congr J1.agree hk_]; exact HOV.out.1 k_ hk_
     have hB : 20 * lst.length ≤ 100 := by have := HF.out.n5; have := HNN.out.2.1; have := HNN.out.2.2; omega
     obtain ⟨hv1, -, -, hfr⟩ := earlD_le HF.out.fine hinG hovM (by omega) hsubs
     have hcg := earlD_congr (g := G.tasks) (i := i) (room := room) (wk := K.wk) J1.agree hsubs
     have hst1 : (zs ++ [i]).foldl stp s = stp (zs.foldl stp s) i := by rw [List.foldl_append]; rfl
     have hst2 : stp (zs.foldl stp s) i = fromF G.tasks G.needs room K.wk k (lst ++ [i]) (L.set i (earlD G.tasks L (G.needs.getD i 0) d i room K.wk)) (d ||| 2 ^ i) (max e (earlD G.tasks L (G.needs.getD i 0) d i room K.wk + tmN G.tasks i)) (zs.foldl stp s) := by rw [HSTP.out]
     have hecall := fun (W : World) (hB_ : Below K.w0.heap.size K.w0 W) (hrw : W.heap[K.p]? = some (.cells (icells M1) 3 (0, 0))) => earliest_calls K.b G d i M1 (some ⟨K.p, 0, none⟩) K.n K.A1 K.c1 room K.wk (20 * lst.length - needEnd G.tasks M1 (G.needs.getD i 0)) W (HF.out.tab.of hB_) (HF.out.g.move hB_) HF.out.ok HF.out.task HF.out.pool hinG (J1.fx.len.trans HF.out.n) (leB_mono J1.fx.le (by omega)) (Kd.R_reads' (icells_R (base := 0) (Nat.zero_le _) hrw J1.fx.len (by have := HF.out.n5; have := HNN.out.2.1; omega))).2.2 HF.out.r3 (Kd.C_below HF.out.rc hB_) HF.out.c1 (by have := HOV.out.2.2.1; rw [HNN.out.2.1]; exact this) (by omega) hfr
     rw [J1.fx.len, ← HF.out.n1] at hecall
     rw [hcg] at hst2
     generalize earlD G.tasks M1 (G.needs.getD i 0) d i room K.wk = v at hecall hst2 hv1
     have htm := tm_int HF.out.task hinG
     have hwith := fun W => with_calls d i HOV.out.2.2.2.2.2.2 hi8 W
     have hor : d ||| 2 ^ i < 2 ^ K.n := Nat.or_lt_two_pow HOV.out.2.2.1 (Nat.pow_lt_pow_right (by omega) (by have := HNN.out.2.1; omega))
     have hit : ((i : Nat) : Int).toNat = i := Int.toNat_natCast i
     have p1 : (0 ≤ ((i : Nat) : Int)) = True := eq_true (by omega)
     have q1 : (((i : Nat) : Int) < (K.n : Int)) = True := eq_true (by have := HNN.out.2.1; omega)
     have q2 : (((i : Nat) : Int) < (G.tasks.length : Int)) = True := eq_true (by omega)
     have hiK : (i : Int) = x := hxi.symm
     have HII := Aside0.mk (show i < G.tasks.length ∧ d.testBit i = false ∧ v ≤ 20 * lst.length ∧ 20 * lst.length ≤ 100 from ⟨hinG, hdi, hv1, hB⟩)
     rw [hiK] at hit p1 q1 q2 hecall hwith
     have HIT := Aside0.mk hit
     have HIK := Aside0.mk hiK
     have HST1 := Aside0.mk hst1
     have HST2 := Aside0.mk hst2
     have HEC := Aside0.mk hecall
     have HWI := Aside0.mk hwith
     have HTM := Aside0.mk htm
     have HOR := Aside0.mk hor
     have HJ6 := Aside0.mk J1
     clear hx hxi hi8 hib hin hdi hz hnd8 hsubs hinG hovM hB hv1 hfr hcg hst1 hst2 hecall htm hwith hor hit hiK J1 hlt1
     have hko := KeepsOthers.drew W1
     have hdr : Below W1.heap.size W1 W1.drew := below_drew (Below.refl _ _)
     have HJ7 := Aside0.mk (HJ6.out.move hdr)
     have HKO := Aside0.mk hko
     have HSZ6 := Aside0.mk (Nat.le_trans hsz hdr.size)
     have HEC2 := Aside0.mk (HEC.out _ HJ7.out.fx.below HJ7.out.fx.row)
     clear hdr hko hsz HJ6 HEC
     have hcx := HJ7.out.x.cell
     have hcp := HJ7.out.pl.cell
     have hc0 : W1.drew.cell? ⟨K.q, 0, none⟩ = some (.pointer (some ⟨K.b, 0, none⟩)) := by simp [World.cell?, HJ7.out.fx.sb.row]
     have hc1 : W1.drew.cell? ⟨K.q, 1, none⟩ = some (.slice K.A1 K.n1 K.c1) := by simp [World.cell?, HJ7.out.fx.sb.row]
     have hc2 : W1.drew.cell? ⟨K.q, 2, none⟩ = some (.int .i64 K.wk) := by simp [World.cell?, HJ7.out.fx.sb.row]
     have hc3 : W1.drew.cell? ⟨K.q, 3, none⟩ = some (.slice (some ⟨K.p, 0, none⟩) K.n K.n) := by simp [World.cell?, HJ7.out.fx.sb.row]
     refine start_in (n := 26) (S := fun w' => w'.cell? ⟨w.heap.size, 0, none⟩ = some (.pointer (some ⟨K.q, 0, none⟩)) ∧ w'.cell? ⟨w.heap.size + 1, 0, none⟩ = some (.int .u16 (d : Int)) ∧ w'.cell? ⟨K.q, 0, none⟩ = some (.pointer (some ⟨K.b, 0, none⟩)) ∧ w'.cell? ⟨K.q, 1, none⟩ = some (.slice K.A1 K.n1 K.c1) ∧ w'.cell? ⟨K.q, 2, none⟩ = some (.int .i64 K.wk) ∧ w'.cell? ⟨K.q, 3, none⟩ = some (.slice (some ⟨K.p, 0, none⟩) K.n K.n)) (ds := [25]) #[F5qc,F5qc,F5qc,F5qc,F5qc,F5qc,F5qc,F5qc,F5qc,F5qc,F5qc,F5qc,F5qc,F5qc,F5qc,F5qc,F5qc,F5qc,F5qc,F5qc,F5qc,F5qc,F5qc,F5qc,F5qc,F5qc] rfl (by kernel_rfl) (fun ⟨_, _, h⟩ => h) (by kernel_rfl) rfl ⟨hcx, hcp, hc0, hc1, hc2, hc3⟩ (fun hHeld => ?_)
     revert hHeld HJ7 HKO HSZ6 HEC2
     clear hcx hcp hc0 hc1 hc2 hc3
     generalize W1.drew = Wg
     intro HJ7 HKO HSZ6 HEC2 hHeld
     refine take_ (i := 0) (N := some 53) (v := ?_) (a' := ?_) #[T5qc,F5qc,F5qc,F5qc,F5qc,F5qc,F5qc,F5qc,F5qc,F5qc,F5qc,F5qc,F5qc,F5qc,F5qc,F5qc,F5qc,F5qc,F5qc,F5qc,F5qc,F5qc,F5qc,F5qc,F5qc,F5qc] rfl rfl (by kernel_rfl) (fun _ _ _ h => h) (Or.inl ⟨by rfl, ?_⟩) hHeld ?_ ?_
     rotate_left
     ·rintro w' ⟨s0, s1, s2, s3, s4, s5⟩
      go_simp
      with_reducible rfl
     rotate_left
     ·simp only [Act.put, List.setIfInBounds_toArray, List.set_cons_zero, List.set_cons_succ, i64_w, i32_w]
      rfl
     refine pure_ (i := 1) (N := some 54) (v := ?_) (a' := ?_) #[T5qc,T5qc,F5qc,F5qc,F5qc,F5qc,F5qc,F5qc,F5qc,F5qc,F5qc,F5qc,F5qc,F5qc,F5qc,F5qc,F5qc,F5qc,F5qc,F5qc,F5qc,F5qc,F5qc,F5qc,F5qc,F5qc] rfl rfl (by kernel_rfl) (fun _ _ _ h => h) (Or.inl ⟨by rfl, ?_⟩) ?_ ?_
     rotate_left
     ·intro w'
      go_simp
      with_reducible rfl
     rotate_left
     ·simp only [Act.put, List.setIfInBounds_toArray, List.set_cons_zero, List.set_cons_succ, i64_w, i32_w]
      rfl
     refine pure_ (i := 2) (N := some 55) (v := ?_) (a' := ?_) #[T5qc,T5qc,T5qc,F5qc,F5qc,F5qc,F5qc,F5qc,F5qc,F5qc,F5qc,F5qc,F5qc,F5qc,F5qc,F5qc,F5qc,F5qc,F5qc,F5qc,F5qc,F5qc,F5qc,F5qc,F5qc,F5qc] rfl rfl (by kernel_rfl) (fun _ _ _ h => h) (Or.inl ⟨by rfl, ?_⟩) ?_ ?_
     rotate_left
     ·intro w'
      go_simp
      with_reducible rfl
     rotate_left
     ·simp only [Act.put, List.setIfInBounds_toArray, List.set_cons_zero, List.set_cons_succ, i64_w, i32_w]
      rfl
     refine take_ (i := 3) (N := some 56) (v := ?_) (a' := ?_) #[T5qc,T5qc,T5qc,T5qc,F5qc,F5qc,F5qc,F5qc,F5qc,F5qc,F5qc,F5qc,F5qc,F5qc,F5qc,F5qc,F5qc,F5qc,F5qc,F5qc,F5qc,F5qc,F5qc,F5qc,F5qc,F5qc] rfl rfl (by kernel_rfl) (fun _ _ _ h => h) (Or.inl ⟨by rfl, ?_⟩) hHeld ?_ ?_
     rotate_left
     ·rintro w' ⟨s0, s1, s2, s3, s4, s5⟩
      go_simp
      with_reducible rfl
     rotate_left
     ·simp only [Act.put, List.setIfInBounds_toArray, List.set_cons_zero, List.set_cons_succ, i64_w, i32_w]
      rfl
     refine pure_ (i := 4) (N := some 57) (v := ?_) (a' := ?_) #[T5qc,T5qc,T5qc,T5qc,T5qc,F5qc,F5qc,F5qc,F5qc,F5qc,F5qc,F5qc,F5qc,F5qc,F5qc,F5qc,F5qc,F5qc,F5qc,F5qc,F5qc,F5qc,F5qc,F5qc,F5qc,F5qc] rfl rfl (by kernel_rfl) (fun _ _ _ h => h) (Or.inl ⟨by rfl, ?_⟩) ?_ ?_
     rotate_left
     ·intro w'
      go_simp
      with_reducible rfl
     rotate_left
     ·simp only [Act.put, List.setIfInBounds_toArray, List.set_cons_zero, List.set_cons_succ, i64_w, i32_w]
      rfl
     refine take_ (i := 5) (N := some 58) (v := ?_) (a' := ?_) #[T5qc,T5qc,T5qc,T5qc,T5qc,T5qc,F5qc,F5qc,F5qc,F5qc,F5qc,F5qc,F5qc,F5qc,F5qc,F5qc,F5qc,F5qc,F5qc,F5qc,F5qc,F5qc,F5qc,F5qc,F5qc,F5qc] rfl rfl (by kernel_rfl) (fun _ _ _ h => h) (Or.inl ⟨by rfl, ?_⟩) hHeld ?_ ?_
     rotate_left
     ·rintro w' ⟨s0, s1, s2, s3, s4, s5⟩
      go_simp
      with_reducible rfl
     rotate_left
     ·simp only [Act.put, List.setIfInBounds_toArray, List.set_cons_zero, List.set_cons_succ, i64_w, i32_w]
      rfl
     refine pure_ (i := 6) (N := some 59) (v := ?_) (a' := ?_) #[T5qc,T5qc,T5qc,T5qc,T5qc,T5qc,T5qc,F5qc,F5qc,F5qc,F5qc,F5qc,F5qc,F5qc,F5qc,F5qc,F5qc,F5qc,F5qc,F5qc,F5qc,F5qc,F5qc,F5qc,F5qc,F5qc] rfl rfl (by kernel_rfl) (fun _ _ _ h => h) (Or.inl ⟨by rfl, ?_⟩) ?_ ?_
     rotate_left
     ·intro w'
      go_simp
      with_reducible rfl
     rotate_left
     ·simp only [Act.put, List.setIfInBounds_toArray, List.set_cons_zero, List.set_cons_succ, i64_w, i32_w]
      rfl
     refine pure_ (i := 7) (N := some 60) (v := ?_) (a' := ?_) #[T5qc,T5qc,T5qc,T5qc,T5qc,T5qc,T5qc,T5qc,F5qc,F5qc,F5qc,F5qc,F5qc,F5qc,F5qc,F5qc,F5qc,F5qc,F5qc,F5qc,F5qc,F5qc,F5qc,F5qc,F5qc,F5qc] rfl rfl (by kernel_rfl) (fun _ _ _ h => h) (Or.inl ⟨by rfl, ?_⟩) ?_ ?_
     rotate_left
     ·intro w'
      go_simp
      with_reducible rfl
     rotate_left
     ·simp only [Act.put, List.setIfInBounds_toArray, List.set_cons_zero, List.set_cons_succ, i64_w, i32_w]
      rfl
     refine take_ (i := 8) (N := some 61) (v := ?_) (a' := ?_) #[T5qc,T5qc,T5qc,T5qc,T5qc,T5qc,T5qc,T5qc,T5qc,F5qc,F5qc,F5qc,F5qc,F5qc,F5qc,F5qc,F5qc,F5qc,F5qc,F5qc,F5qc,F5qc,F5qc,F5qc,F5qc,F5qc] rfl rfl (by kernel_rfl) (fun _ _ _ h => h) (Or.inl ⟨by rfl, ?_⟩) hHeld ?_ ?_
     rotate_left
     ·rintro w' ⟨s0, s1, s2, s3, s4, s5⟩
      go_simp
      with_reducible rfl
     rotate_left
     ·simp only [Act.put, List.setIfInBounds_toArray, List.set_cons_zero, List.set_cons_succ, i64_w, i32_w]
      rfl
     refine take_ (i := 9) (N := some 62) (v := ?_) (a' := ?_) #[T5qc,T5qc,T5qc,T5qc,T5qc,T5qc,T5qc,T5qc,T5qc,T5qc,F5qc,F5qc,F5qc,F5qc,F5qc,F5qc,F5qc,F5qc,F5qc,F5qc,F5qc,F5qc,F5qc,F5qc,F5qc,F5qc] rfl rfl (by kernel_rfl) (fun _ _ _ h => h) (Or.inl ⟨by rfl, ?_⟩) hHeld ?_ ?_
     rotate_left
     ·rintro w' ⟨s0, s1, s2, s3, s4, s5⟩
      go_simp
      with_reducible rfl
     rotate_left
     ·simp only [Act.put, List.setIfInBounds_toArray, List.set_cons_zero, List.set_cons_succ, i64_w, i32_w]
      rfl
     refine pure_ (i := 10) (N := some 63) (v := ?_) (a' := ?_) #[T5qc,T5qc,T5qc,T5qc,T5qc,T5qc,T5qc,T5qc,T5qc,T5qc,T5qc,F5qc,F5qc,F5qc,F5qc,F5qc,F5qc,F5qc,F5qc,F5qc,F5qc,F5qc,F5qc,F5qc,F5qc,F5qc] rfl rfl (by kernel_rfl) (fun _ _ _ h => h) (Or.inl ⟨by rfl, ?_⟩) ?_ ?_
     rotate_left
     ·intro w'
      go_simp
      with_reducible rfl
     rotate_left
     ·simp only [Act.put, List.setIfInBounds_toArray, List.set_cons_zero, List.set_cons_succ, i64_w, i32_w]
      rfl
     refine pure_ (i := 11) (N := some 64) (v := ?_) (a' := ?_) #[T5qc,T5qc,T5qc,T5qc,T5qc,T5qc,T5qc,T5qc,T5qc,T5qc,T5qc,T5qc,F5qc,F5qc,F5qc,F5qc,F5qc,F5qc,F5qc,F5qc,F5qc,F5qc,F5qc,F5qc,F5qc,F5qc] rfl rfl (by kernel_rfl) (fun _ _ _ h => h) (Or.inl ⟨by rfl, ?_⟩) ?_ ?_
     rotate_left
     ·intro w'
      go_simp
      with_reducible rfl
     rotate_left
     ·simp only [Act.put, List.setIfInBounds_toArray, List.set_cons_zero, List.set_cons_succ, i64_w, i32_w]
      rfl
     refine take_ (i := 12) (N := some 65) (v := ?_) (a' := ?_) #[T5qc,T5qc,T5qc,T5qc,T5qc,T5qc,T5qc,T5qc,T5qc,T5qc,T5qc,T5qc,T5qc,F5qc,F5qc,F5qc,F5qc,F5qc,F5qc,F5qc,F5qc,F5qc,F5qc,F5qc,F5qc,F5qc] rfl rfl (by kernel_rfl) (fun _ _ _ h => h) (Or.inl ⟨by rfl, ?_⟩) hHeld ?_ ?_
     rotate_left
     ·rintro w' ⟨s0, s1, s2, s3, s4, s5⟩
      go_simp
      with_reducible rfl
     rotate_left
     ·simp only [Act.put, List.setIfInBounds_toArray, List.set_cons_zero, List.set_cons_succ, i64_w, i32_w]
      rfl
     refine take_ (i := 13) (N := some 66) (v := ?_) (a' := ?_) #[T5qc,T5qc,T5qc,T5qc,T5qc,T5qc,T5qc,T5qc,T5qc,T5qc,T5qc,T5qc,T5qc,T5qc,F5qc,F5qc,F5qc,F5qc,F5qc,F5qc,F5qc,F5qc,F5qc,F5qc,F5qc,F5qc] rfl rfl (by kernel_rfl) (fun _ _ _ h => h) (Or.inl ⟨by rfl, ?_⟩) hHeld ?_ ?_
     rotate_left
     ·rintro w' ⟨s0, s1, s2, s3, s4, s5⟩
      go_simp
      with_reducible rfl
     rotate_left
     ·simp only [Act.put, List.setIfInBounds_toArray, List.set_cons_zero, List.set_cons_succ, i64_w, i32_w]
      rfl
     refine pure_ (i := 14) (N := some 67) (v := ?_) (a' := ?_) #[T5qc,T5qc,T5qc,T5qc,T5qc,T5qc,T5qc,T5qc,T5qc,T5qc,T5qc,T5qc,T5qc,T5qc,T5qc,F5qc,F5qc,F5qc,F5qc,F5qc,F5qc,F5qc,F5qc,F5qc,F5qc,F5qc] rfl rfl (by kernel_rfl) (fun _ _ _ h => h) (Or.inl ⟨by rfl, ?_⟩) ?_ ?_
     rotate_left
     ·intro w'
      go_simp
      with_reducible rfl
     rotate_left
     ·simp only [Act.put, List.setIfInBounds_toArray, List.set_cons_zero, List.set_cons_succ, i64_w, i32_w]
      rfl
     refine take_ (i := 15) (N := some 68) (v := ?_) (a' := ?_) #[T5qc,T5qc,T5qc,T5qc,T5qc,T5qc,T5qc,T5qc,T5qc,T5qc,T5qc,T5qc,T5qc,T5qc,T5qc,T5qc,F5qc,F5qc,F5qc,F5qc,F5qc,F5qc,F5qc,F5qc,F5qc,F5qc] rfl rfl (by kernel_rfl) (fun _ _ _ h => h) (Or.inl ⟨by rfl, ?_⟩) hHeld ?_ ?_
     rotate_left
     ·rintro w' ⟨s0, s1, s2, s3, s4, s5⟩
      go_simp
      with_reducible rfl
     rotate_left
     ·simp only [Act.put, List.setIfInBounds_toArray, List.set_cons_zero, List.set_cons_succ, i64_w, i32_w]
      rfl
     refine pure_ (i := 16) (N := some 69) (v := ?_) (a' := ?_) #[T5qc,T5qc,T5qc,T5qc,T5qc,T5qc,T5qc,T5qc,T5qc,T5qc,T5qc,T5qc,T5qc,T5qc,T5qc,T5qc,T5qc,F5qc,F5qc,F5qc,F5qc,F5qc,F5qc,F5qc,F5qc,F5qc] rfl rfl (by kernel_rfl) (fun _ _ _ h => h) (Or.inl ⟨by rfl, ?_⟩) ?_ ?_
     rotate_left
     ·intro w'
      go_simp
      with_reducible rfl
     rotate_left
     ·simp only [Act.put, List.setIfInBounds_toArray, List.set_cons_zero, List.set_cons_succ, i64_w, i32_w]
      rfl
     refine pure_ (i := 17) (N := some 70) (v := ?_) (a' := ?_) #[T5qc,T5qc,T5qc,T5qc,T5qc,T5qc,T5qc,T5qc,T5qc,T5qc,T5qc,T5qc,T5qc,T5qc,T5qc,T5qc,T5qc,T5qc,F5qc,F5qc,F5qc,F5qc,F5qc,F5qc,F5qc,F5qc] rfl rfl (by kernel_rfl) (fun _ _ _ h => h) (Or.inl ⟨by rfl, ?_⟩) ?_ ?_
     rotate_left
     ·intro w'
      go_simp
      with_reducible rfl
     rotate_left
     ·simp only [Act.put, List.setIfInBounds_toArray, List.set_cons_zero, List.set_cons_succ, i64_w, i32_w]
      rfl
     refine take_ (i := 18) (N := some 71) (v := ?_) (a' := ?_) #[T5qc,T5qc,T5qc,T5qc,T5qc,T5qc,T5qc,T5qc,T5qc,T5qc,T5qc,T5qc,T5qc,T5qc,T5qc,T5qc,T5qc,T5qc,T5qc,F5qc,F5qc,F5qc,F5qc,F5qc,F5qc,F5qc] rfl rfl (by kernel_rfl) (fun _ _ _ h => h) (Or.inl ⟨by rfl, ?_⟩) hHeld ?_ ?_
     rotate_left
     ·rintro w' ⟨s0, s1, s2, s3, s4, s5⟩
      go_simp
      with_reducible rfl
     rotate_left
     ·simp only [Act.put, List.setIfInBounds_toArray, List.set_cons_zero, List.set_cons_succ, i64_w, i32_w]
      rfl
     refine take_ (i := 19) (N := some 72) (v := ?_) (a' := ?_) #[T5qc,T5qc,T5qc,T5qc,T5qc,T5qc,T5qc,T5qc,T5qc,T5qc,T5qc,T5qc,T5qc,T5qc,T5qc,T5qc,T5qc,T5qc,T5qc,T5qc,F5qc,F5qc,F5qc,F5qc,F5qc,F5qc] rfl rfl (by kernel_rfl) (fun _ _ _ h => h) (Or.inl ⟨by rfl, ?_⟩) hHeld ?_ ?_
     rotate_left
     ·rintro w' ⟨s0, s1, s2, s3, s4, s5⟩
      go_simp
      with_reducible rfl
     rotate_left
     ·simp only [Act.put, List.setIfInBounds_toArray, List.set_cons_zero, List.set_cons_succ, i64_w, i32_w]
      rfl
     refine pure_ (i := 20) (N := some 73) (v := ?_) (a' := ?_) #[T5qc,T5qc,T5qc,T5qc,T5qc,T5qc,T5qc,T5qc,T5qc,T5qc,T5qc,T5qc,T5qc,T5qc,T5qc,T5qc,T5qc,T5qc,T5qc,T5qc,T5qc,F5qc,F5qc,F5qc,F5qc,F5qc] rfl rfl (by kernel_rfl) (fun _ _ _ h => h) (Or.inl ⟨by rfl, ?_⟩) ?_ ?_
     rotate_left
     ·intro w'
      go_simp
      with_reducible rfl
     rotate_left
     ·simp only [Act.put, List.setIfInBounds_toArray, List.set_cons_zero, List.set_cons_succ, i64_w, i32_w]
      rfl
     refine pure_ (i := 21) (N := some 74) (v := ?_) (a' := ?_) #[T5qc,T5qc,T5qc,T5qc,T5qc,T5qc,T5qc,T5qc,T5qc,T5qc,T5qc,T5qc,T5qc,T5qc,T5qc,T5qc,T5qc,T5qc,T5qc,T5qc,T5qc,T5qc,F5qc,F5qc,F5qc,F5qc] rfl rfl (by kernel_rfl) (fun _ _ _ h => h) (Or.inl ⟨by rfl, ?_⟩) ?_ ?_
     rotate_left
     ·intro w'
      go_simp
      with_reducible rfl
     rotate_left
     ·simp only [Act.put, List.setIfInBounds_toArray, List.set_cons_zero, List.set_cons_succ, i64_w, i32_w]
      rfl
     refine take_ (i := 22) (N := some 75) (v := ?_) (a' := ?_) #[T5qc,T5qc,T5qc,T5qc,T5qc,T5qc,T5qc,T5qc,T5qc,T5qc,T5qc,T5qc,T5qc,T5qc,T5qc,T5qc,T5qc,T5qc,T5qc,T5qc,T5qc,T5qc,T5qc,F5qc,F5qc,F5qc] rfl rfl (by kernel_rfl) (fun _ _ _ h => h) (Or.inl ⟨by rfl, ?_⟩) hHeld ?_ ?_
     rotate_left
     ·rintro w' ⟨s0, s1, s2, s3, s4, s5⟩
      go_simp
      with_reducible rfl
     rotate_left
     ·simp only [Act.put, List.setIfInBounds_toArray, List.set_cons_zero, List.set_cons_succ, i64_w, i32_w]
      rfl
     refine one_ (i := 23) (N := some 76) #[T5qc,T5qc,T5qc,T5qc,T5qc,T5qc,T5qc,T5qc,T5qc,T5qc,T5qc,T5qc,T5qc,T5qc,T5qc,T5qc,T5qc,T5qc,T5qc,T5qc,T5qc,T5qc,T5qc,T5qc,F5qc,F5qc] rfl rfl (by kernel_rfl) (by decide) (fun K_ hK => ?_)
     refine goes_ Tryd.func67 (by kernel_rfl) rfl #[.pointer (some ⟨K.b, 0, none⟩), .slice (some ⟨K.p, 0, none⟩) K.n K.n, .int .u16 (d : Int), .int .i64 x, .slice K.A1 K.n1 K.c1, .int .i64 K.wk] (by rfl) rfl rfl (by (try simp only [List.map_toArray, List.map_cons, List.map_nil]); rfl) ?_
     refine HEC2.out.mono ?_
     rintro e_ w5 ⟨rfl, hb5⟩
     refine ⟨_, rfl, ?_⟩
     have hHeld5 := (show (fun w' => w'.cell? ⟨w.heap.size, 0, none⟩ = some (.pointer (some ⟨K.q, 0, none⟩)) ∧ w'.cell? ⟨w.heap.size + 1, 0, none⟩ = some (.int .u16 (d : Int)) ∧ w'.cell? ⟨K.q, 0, none⟩ = some (.pointer (some ⟨K.b, 0, none⟩)) ∧ w'.cell? ⟨K.q, 1, none⟩ = some (.slice K.A1 K.n1 K.c1) ∧ w'.cell? ⟨K.q, 2, none⟩ = some (.int .i64 K.wk) ∧ w'.cell? ⟨K.q, 3, none⟩ = some (.slice (some ⟨K.p, 0, none⟩) K.n K.n)) w5 from ⟨(hb5.cell (World.block_lt_of_cell? _ _ hHeld.1)).trans hHeld.1, (hb5.cell (World.block_lt_of_cell? _ _ hHeld.2.1)).trans hHeld.2.1, (hb5.cell (World.block_lt_of_cell? _ _ hHeld.2.2.1)).trans hHeld.2.2.1, (hb5.cell (World.block_lt_of_cell? _ _ hHeld.2.2.2.1)).trans hHeld.2.2.2.1, (hb5.cell (World.block_lt_of_cell? _ _ hHeld.2.2.2.2.1)).trans hHeld.2.2.2.2.1, (hb5.cell (World.block_lt_of_cell? _ _ hHeld.2.2.2.2.2)).trans hHeld.2.2.2.2.2⟩)
     refine hK.out _ _ hHeld5 (fun _ => ?_)
     clear hK K_ hHeld5 hHeld
     refine norm_ (a' := ?_) ?_ ?_
     rotate_left
     ·show Act.put _ (some 76) _ = _
      simp only [Act.put, List.setIfInBounds_toArray, List.set_cons_zero, List.set_cons_succ, i64_w, i32_w]
      rfl
     have HJ8 := Aside0.mk (HJ7.out.move hb5)
     have HKO8 := Aside0.mk (HKO.out.trans (keepsOthers_below hb5))
     have HSZ8 := Aside0.mk (Nat.le_trans HSZ6.out hb5.size)
     clear hb5 HJ7 HKO HSZ6 HEC2
     have hci := icell HJ8.out.fx.row i (by have h1 := HJ8.out.fx.len; have h2 := HII.out.1; have h3 := HNN.out.2.1; omega)
     have hfi := ifrozen HJ8.out.fx.row i
     rw [← HIT.out] at hci hfi
     refine pure_ (i := 24) (N := some 77) (v := ?_) (a' := ?_) #[T5qc,T5qc,T5qc,T5qc,T5qc,T5qc,T5qc,T5qc,T5qc,T5qc,T5qc,T5qc,T5qc,T5qc,T5qc,T5qc,T5qc,T5qc,T5qc,T5qc,T5qc,T5qc,T5qc,T5qc,T5qc,F5qc] rfl rfl (by kernel_rfl) (fun _ _ _ h => h) (Or.inl ⟨by rfl, ?_⟩) ?_ ?_
     rotate_left
     ·intro w'
      go_simp
      with_reducible rfl
     rotate_left
     ·simp only [Act.put, List.setIfInBounds_toArray, List.set_cons_zero, List.set_cons_succ, i64_w, i32_w]
      rfl
     refine last_ (i := 25) (N := none) #[T5qc,T5qc,T5qc,T5qc,T5qc,T5qc,T5qc,T5qc,T5qc,T5qc,T5qc,T5qc,T5qc,T5qc,T5qc,T5qc,T5qc,T5qc,T5qc,T5qc,T5qc,T5qc,T5qc,T5qc,T5qc,T5qc] rfl rfl (by kernel_rfl) (by decide) (fun K_ hK => ?_)
     refine skip_ (w1 := ?_) (by rfl) rfl ?_ ?_
     rotate_left
     ·go_simp
      rfl
     refine hK.out _ _ ?_
     clear hK K_
     refine done_ (by kernel_rfl) ?_
     have J9 : FJ K P w L d e (w5.setCell ⟨K.p, x.toNat, none⟩ (.int .i64 (v : Int))) lst (M1.set i v) (zs.foldl stp s) lA1 lc1 bv1 se1 := by
      rw [HIT.out]
      exact HJ8.out.start i v (by have := HII.out.2.2.1; have := HII.out.2.2.2; omega) HII.out.2.1
     have ko9 := HKO8.out.trans (KeepsOthers.setCell w5 ⟨K.p, x.toNat, none⟩ (.int .i64 (v : Int)))
     have sz9 := Nat.le_trans HSZ8.out (KeepsOthers.setCell w5 ⟨K.p, x.toNat, none⟩ (.int .i64 (v : Int))).size
     have ml1 := HJ8.out.fx.len
     clear hci hfi HJ8 HKO8 HSZ8
     revert J9 ko9 sz9
     generalize w5.setCell ⟨K.p, x.toNat, none⟩ (.int .i64 (v : Int)) = w6
     intro J9 ko9 sz9
     have HML := Aside0.mk ml1
     clear ml1
     gi_wp2
     have hko := ko9.trans (KeepsOthers.drew w6)
     have hdr : Below w6.heap.size w6 w6.drew := below_drew (Below.refl _ _)
     have HJ10 := Aside0.mk (J9.move hdr)
     have HKO10 := Aside0.mk hko
     have HSZ10 := Aside0.mk (Nat.le_trans sz9 hdr.size)
     clear hdr hko sz9 ko9 J9
     have hcx := HJ10.out.x.cell
     have hc4 : w6.drew.cell? ⟨K.q, 4, none⟩ = some (.slice lA1 lst.length lc1) := by simp [World.cell?, HJ10.out.fx.sb.row]
     refine start_in (n := 11) (S := fun w' => w'.cell? ⟨w.heap.size, 0, none⟩ = some (.pointer (some ⟨K.q, 0, none⟩)) ∧ w'.cell? ⟨K.q, 4, none⟩ = some (.slice lA1 lst.length lc1)) (ds := [10]) #[F5qc,F5qc,F5qc,F5qc,F5qc,F5qc,F5qc,F5qc,F5qc,F5qc,F5qc] rfl (by kernel_rfl) (fun ⟨_, _, h⟩ => h) (by kernel_rfl) rfl ⟨hcx, hc4⟩ (fun hHeld => ?_)
     revert hHeld HJ10 HKO10 HSZ10
     clear hcx hc4
     generalize w6.drew = Wh
     intro HJ10 HKO10 HSZ10 hHeld
     refine take_ (i := 0) (N := some 78) (v := ?_) (a' := ?_) #[T5qc,F5qc,F5qc,F5qc,F5qc,F5qc,F5qc,F5qc,F5qc,F5qc,F5qc] rfl rfl (by kernel_rfl) (fun _ _ _ h => h) (Or.inl ⟨by rfl, ?_⟩) hHeld ?_ ?_
     rotate_left
     ·rintro w' ⟨s0, s1⟩
      go_simp
      with_reducible rfl
     rotate_left
     ·simp only [Act.put, List.setIfInBounds_toArray, List.set_cons_zero, List.set_cons_succ, i64_w, i32_w]
      rfl
     refine take_ (i := 1) (N := some 79) (v := ?_) (a' := ?_) #[T5qc,T5qc,F5qc,F5qc,F5qc,F5qc,F5qc,F5qc,F5qc,F5qc,F5qc] rfl rfl (by kernel_rfl) (fun _ _ _ h => h) (Or.inl ⟨by rfl, ?_⟩) hHeld ?_ ?_
     rotate_left
     ·rintro w' ⟨s0, s1⟩
      go_simp
      with_reducible rfl
     rotate_left
     ·simp only [Act.put, List.setIfInBounds_toArray, List.set_cons_zero, List.set_cons_succ, i64_w, i32_w]
      rfl
     refine pure_ (i := 2) (N := some 80) (v := ?_) (a' := ?_) #[T5qc,T5qc,T5qc,F5qc,F5qc,F5qc,F5qc,F5qc,F5qc,F5qc,F5qc] rfl rfl (by kernel_rfl) (fun _ _ _ h => h) (Or.inl ⟨by rfl, ?_⟩) ?_ ?_
     rotate_left
     ·intro w'
      go_simp
      with_reducible rfl
     rotate_left
     ·simp only [Act.put, List.setIfInBounds_toArray, List.set_cons_zero, List.set_cons_succ, i64_w, i32_w]
      rfl
     refine pure_ (i := 3) (N := some 81) (v := ?_) (a' := ?_) #[T5qc,T5qc,T5qc,T5qc,F5qc,F5qc,F5qc,F5qc,F5qc,F5qc,F5qc] rfl rfl (by kernel_rfl) (fun _ _ _ h => h) (Or.inl ⟨by rfl, ?_⟩) ?_ ?_
     rotate_left
     ·intro w'
      go_simp
      with_reducible rfl
     rotate_left
     ·simp only [Act.put, List.setIfInBounds_toArray, List.set_cons_zero, List.set_cons_succ, i64_w, i32_w]
      rfl
     refine take_ (i := 4) (N := some 82) (v := ?_) (a' := ?_) #[T5qc,T5qc,T5qc,T5qc,T5qc,F5qc,F5qc,F5qc,F5qc,F5qc,F5qc] rfl rfl (by kernel_rfl) (fun _ _ _ h => h) (Or.inl ⟨by rfl, ?_⟩) hHeld ?_ ?_
     rotate_left
     ·rintro w' ⟨s0, s1⟩
      go_simp
      with_reducible rfl
     rotate_left
     ·simp only [Act.put, List.setIfInBounds_toArray, List.set_cons_zero, List.set_cons_succ, i64_w, i32_w]
      rfl
     refine pure_ (i := 5) (N := some 83) (v := ?_) (a' := ?_) #[T5qc,T5qc,T5qc,T5qc,T5qc,T5qc,F5qc,F5qc,F5qc,F5qc,F5qc] rfl rfl (by kernel_rfl) (fun _ _ _ h => h) (Or.inl ⟨by rfl, ?_⟩) ?_ ?_
     rotate_left
     ·intro w'
      go_simp
      with_reducible rfl
     rotate_left
     ·simp only [Act.put, List.setIfInBounds_toArray, List.set_cons_zero, List.set_cons_succ, i64_w, i32_w]
      rfl
     refine one_ (i := 6) (N := some 84) #[T5qc,T5qc,T5qc,T5qc,T5qc,T5qc,T5qc,F5qc,F5qc,F5qc,F5qc] rfl rfl (by kernel_rfl) (by decide) (fun K_ hK => ?_)
     refine value_ (v := .slice (some ⟨Wh.heap.size, 0, none⟩) 1 1) (w1 := Wh.alloc (.cells #[.int .i64 x] 3)) (by rfl) rfl ?_ ?_
     ·go_simp
     refine hK.out _ _ ⟨(((Below.refl Wh.heap.size Wh).alloc (Nat.le_refl _) _).cell (World.block_lt_of_cell? _ _ hHeld.1)).trans hHeld.1, (((Below.refl Wh.heap.size Wh).alloc (Nat.le_refl _) _).cell (World.block_lt_of_cell? _ _ hHeld.2)).trans hHeld.2⟩ (fun _ => ?_)
     clear hK K_
     refine norm_ (a' := ?_) ?_ ?_
     rotate_left
     ·show Act.put _ (some 84) _ = _
      simp only [Act.put, List.setIfInBounds_toArray, List.set_cons_zero, List.set_cons_succ, i64_w, i32_w]
      rfl
     refine one_ (i := 7) (N := some 85) #[T5qc,T5qc,T5qc,T5qc,T5qc,T5qc,T5qc,T5qc,F5qc,F5qc,F5qc] rfl rfl (by kernel_rfl) (by decide) (fun K_ hK => ?_)
     refine Kd.R_append_step (Kd.int .i64) (w0 := K.w0) K.w0.heap.size (by rfl) (.tmp 82) (.tmp 84) 23 3 (.int .i64 0) 8 rfl Tryd.underlying23 infoIntC rfl (by decide) (by omega) (.slice lA1 lst.length lc1) (up lst) x [.int .i64 x] (fun k_ => PF P w.heap.size k_ ∧ k_ ≠ K.q ∧ k_ ≠ K.p ∧ some k_ ≠ bv1.ownBlock) (fun _ => False) rfl rfl ?aP (fun _ hk => hk.elim) ?aF ?aO ?aB ?aS ?aL ?_
     case aP => exact rfl
     case aF => exact fun k_ hk_ => ⟨⟨HP.out k_ (Nat.le_trans HJ10.out.size hk_), by have := HJ10.out.x.lt; omega, by have := HJ10.out.pl.lt; omega, by have := HJ10.out.en.lt; omega⟩, by have := HJ10.out.fx.qlt; omega, by have := HJ10.out.fx.plt; omega, fun e2 => by have := HJ10.out.fx.bown k_ e2.symm; omega⟩
     case aO => exact HJ10.out.fx.lst
     case aB => exact HJ10.out.fx.below
     case aS => exact HJ10.out.fx.size
     case aL => rw [up_length]; have := HII.out.2.2.2; omega
     intro v1_ w7 ho hb hg hat
     obtain ⟨A9, c9, e9⟩ := Kd.R_slice ho
     rw [show (up lst ++ [x]).length = lst.length + 1 by simp [up]] at e9
     subst e9
     rw [← HIK.out] at ho
     have HJ11 := Aside0.mk (HJ10.out.appended ho hg hb)
     have HKO11 := Aside0.mk (HKO10.out.trans (KeepsOthers.of_grownBy hg (fun j o ej hj => by obtain ⟨cs, tt, hc⟩ := Kd.R_ownTyped HJ10.out.fx.lst j ej; rw [hc] at hj; cases hj; rfl)))
     have HSZ11 := Aside0.mk (Nat.le_trans HSZ10.out hg.size)
     have hq7 := (hg.block K.q HJ10.out.fx.qlt (fun e1 => (HJ10.out.fx.lst.1 K.q e1.symm).2.1 rfl)).trans HJ10.out.fx.sb.row
     have hx7 := (hg.block w.heap.size HJ10.out.x.lt (fun e1 => (HJ10.out.fx.lst.1 w.heap.size e1.symm).1.2.1 rfl)).trans HJ10.out.x
     have hc4 : w7.cell? ⟨K.q, 4, none⟩ = some (.slice lA1 lst.length lc1) := by simp [World.cell?, hq7]
     have hf4 : w7.frozen? ⟨K.q, 4, none⟩ = false := by simp [World.frozen?, hq7]
     refine hK.out _ _ ⟨Boxed.cell hx7, hc4⟩ (fun _ => ?_)
     clear hK K_ ho hb hg hat hq7 hx7 HJ10 HKO10 HSZ10 hHeld
     refine norm_ (a' := ?_) ?_ ?_
     rotate_left
     ·show Act.put _ (some 85) _ = _
      simp only [Act.put, List.setIfInBounds_toArray, List.set_cons_zero, List.set_cons_succ, i64_w, i32_w]
      rfl
     refine pure_ (i := 8) (N := some 86) (v := ?_) (a' := ?_) #[T5qc,T5qc,T5qc,T5qc,T5qc,T5qc,T5qc,T5qc,T5qc,F5qc,F5qc] rfl rfl (by kernel_rfl) (fun _ _ _ h => h) (Or.inl ⟨by rfl, ?_⟩) ?_ ?_
     rotate_left
     ·intro w'
      go_simp
      with_reducible rfl
     rotate_left
     ·simp only [Act.put, List.setIfInBounds_toArray, List.set_cons_zero, List.set_cons_succ, i64_w, i32_w]
      rfl
     refine pure_ (i := 9) (N := some 87) (v := ?_) (a' := ?_) #[T5qc,T5qc,T5qc,T5qc,T5qc,T5qc,T5qc,T5qc,T5qc,T5qc,F5qc] rfl rfl (by kernel_rfl) (fun _ _ _ h => h) (Or.inl ⟨by rfl, ?_⟩) ?_ ?_
     rotate_left
     ·intro w'
      go_simp
      with_reducible rfl
     rotate_left
     ·simp only [Act.put, List.setIfInBounds_toArray, List.set_cons_zero, List.set_cons_succ, i64_w, i32_w]
      rfl
     refine last_ (i := 10) (N := none) #[T5qc,T5qc,T5qc,T5qc,T5qc,T5qc,T5qc,T5qc,T5qc,T5qc,T5qc] rfl rfl (by kernel_rfl) (by decide) (fun K_ hK => ?_)
     refine skip_ (w1 := ?_) (by rfl) rfl ?_ ?_
     rotate_left
     ·go_simp
      rfl
     refine hK.out _ _ ?_
     clear hK K_
     refine done_ (by kernel_rfl) ?_
     have J12 := HJ11.out
     have ko12 := HKO11.out.trans (KeepsOthers.setCell w7 ⟨K.q, 4, none⟩ (.slice A9 (lst.length + 1) c9))
     have sz12 := Nat.le_trans HSZ11.out (KeepsOthers.setCell w7 ⟨K.q, 4, none⟩ (.slice A9 (lst.length + 1) c9)).size
     clear hc4 hf4 HJ11 HKO11 HSZ11
     revert J12 ko12 sz12
     generalize w7.setCell ⟨K.q, 4, none⟩ (.slice A9 (lst.length + 1) c9) = w8
     intro J12 ko12 sz12
     gi_wp2
     have hor256 : d ||| 2 ^ i < 2 ^ K.n := HOR.out
     have hml : (M1.set i v).getD i 0 = v := by rw [List.getD_eq_getElem?_getD, List.getElem?_set_self (by have h1 := HML.out; have h2 := HII.out.1; have h3 := HNN.out.2.1; omega), Option.getD_some]
     have hmx : (if (e : Int) < IntKind.i64.wrap ((v : Int) + ((tmN G.tasks i : Nat) : Int)) then IntKind.i64.wrap ((v : Int) + ((tmN G.tasks i : Nat) : Int)) else (e : Int)) = ((max e (v + tmN G.tasks i) : Nat) : Int) := by
      rw [(wadd (a := v) (b := tmN G.tasks i) (by have := HII.out.2.2.1; have := HII.out.2.2.2; omega) (by have := HTM.out.2.2; omega)).2]
      exact wmax _ _
     have hmax_ := max2_int
     refine wpIn_still_tail 25 rfl (by kernel_rfl) (by kernel_rfl) (fun ⟨_, _, h⟩ => h) ?_
     change wpStill _ _ w8.drew (fun a' => wpList _ _ _ _ a' w8.drew) _ _
     have hdr : Below w8.heap.size w8 w8.drew := below_drew (Below.refl _ _)
     have hko := ko12.trans (KeepsOthers.drew w8)
     revert hdr hko
     generalize w8.drew = Wi
     intro hdr hko
     have HJ13 := Aside0.mk (J12.move hdr)
     have HKO13 := Aside0.mk hko
     have HSZ13 := Aside0.mk (Nat.le_trans sz12 hdr.size)
     clear hdr hko sz12 ko12 J12 hmax_
     have hcx := HJ13.out.x.cell
     have hcp := HJ13.out.pl.cell
     have hce := HJ13.out.en.cell
     have hc0 : Wi.cell? ⟨K.q, 0, none⟩ = some (.pointer (some ⟨K.b, 0, none⟩)) := by simp [World.cell?, HJ13.out.fx.sb.row]
     have hc3 : Wi.cell? ⟨K.q, 3, none⟩ = some (.slice (some ⟨K.p, 0, none⟩) K.n K.n) := by simp [World.cell?, HJ13.out.fx.sb.row]
     have hci := icell HJ13.out.fx.row i (by rw [List.length_set]; have h1 := HML.out; have h2 := HII.out.1; have h3 := HNN.out.2.1; omega)
     rw [hml, ← HIT.out] at hci
     obtain ⟨At_, ct_, hct0, hctl, hctC⟩ := (HF.out.g.move HJ13.out.fx.below).tasks
     obtain ⟨ad, At, ct, e0, h0, h1, h2, h3_, h4, h5⟩ := at_T39 hctC x (of_eq_true p1) (of_eq_true q2)
     subst e0
     have hrd : rd_T39 G.tasks x = G.tasks.getD i z39 := by rw [← HIK.out]; simp [rd_T39]
     rw [hrd, HTM.out.1] at h0
     have hrec := HIH.out (PF P w.heap.size) (lst ++ [i]) (L.set i v) (M1.set i v) (d ||| 2 ^ i) (max e (v + tmN G.tasks i)) (zs.foldl stp s) A9 c9 bv1 se1 Wi (by have := HOV.out.2.2.2.2.1; rw [List.length_append, List.length_singleton]; omega) (by have := HNN.out.2.2; rw [List.length_append, List.length_singleton]; omega) HJ13.out.fx (fun k_ hk_ => ⟨HP.out k_ (Nat.le_trans HJ13.out.size hk_), by have := HJ13.out.x.lt; omega, by have := HJ13.out.pl.lt; omega, by have := HJ13.out.en.lt; omega⟩) (HJ13.out.agree.more (by have h1 := HOV.out.2.1; have h2 := HII.out.1; have h3 := HNN.out.2.1; omega) (by have h1 := HML.out; have h2 := HII.out.1; have h3 := HNN.out.2.1; omega)) (by rw [List.length_set]; exact HOV.out.2.1) hor256 (over_more HOV.out.1 (by have h1 := HOV.out.2.1; have h2 := HII.out.1; have h3 := HNN.out.2.1; omega) (by have h1 := HII.out.2.2.1; have h2 := HTM.out.2.2; rw [List.length_append, List.length_singleton]; omega) (by rw [List.length_append, List.length_singleton]; omega)) (by have h1 := HII.out.2.2.1; have h2 := HTM.out.2.2; have h3 := HOV.out.2.2.2.1; rw [List.length_append, List.length_singleton]; omega)
     rw [← HST2.out, ← HST1.out] at hrec
     have HREC := Aside0.mk hrec
     have HMX := Aside0.mk hmx
     have HWW := Aside0.mk ((HWI.out Wi).mono (R' := fun e_ w_ => e_ = .returned (.int .u16 ((d ||| 2 ^ i : Nat) : Int)) ∧ w_ = Wi) (fun _ _ h => ⟨h.1, h.2.symm⟩))
     generalize ((v : Nat) : Int) = vI at hci HMX
     generalize ((tmN G.tasks i : Nat) : Int) = tI at h0 HMX
     clear hrec hmx hml hor256 hrd h1 h2 h3_ h4 h5 hctC hctl
     simp only [List.take_succ_cons, List.take_zero, List.drop_succ_cons, List.drop_zero]
     iterate 3 still_step
     still_call HWW.out
     iterate 21 still_step
     rw [HMX.out]
     refine wpStill_nil ?_
     clear hcx hcp hce hc0 hc3 hci hct0 h0
     go_wp2_with (go_at_call 47; refine HREC.out.mono ?_; rintro e_ w9 ⟨rfl, hres⟩; have hJ14 := HJ13.out.call HII.out.2.1 hres; have HKO14 := Aside0.mk (HKO13.out.trans hres.others); have HSZ14 := Aside0.mk (Nat.le_trans HSZ13.out hres.others.size); clear hres HKO13 HSZ13 HJ13 HREC)
     obtain ⟨M2, lA2, lc2, bv2, se2, J14⟩ := hJ14
     -- region 9
     try gi_wp2
     refine wpIn_still_tail 14 rfl (by kernel_rfl) (by kernel_rfl) (fun ⟨_, _, h⟩ => h) ?_
     change wpStill _ _ w9.drew (fun a' => wpList _ _ _ _ a' w9.drew) _ _
     have hdr : Below w9.heap.size w9 w9.drew := below_drew (Below.refl _ _)
     have hko := HKO14.out.trans (KeepsOthers.drew w9)
     revert hdr hko
     generalize w9.drew = Wj
     intro hdr hko
     have HJ15 := Aside0.mk (J14.move hdr)
     have HKO15 := Aside0.mk hko
     have HSZ15 := Aside0.mk (Nat.le_trans HSZ14.out hdr.size)
     clear hdr hko HKO14 HSZ14 J14
     have hcx := HJ15.out.x.cell
     have hc4 : Wj.cell? ⟨K.q, 4, none⟩ = some (.slice lA2 (lst.length + 1) lc2) := by
      have := HJ15.out.fx.sb.row
      rw [List.length_append, List.length_singleton] at this
      simp [World.cell?, this]
     have hf4 : Wj.frozen? ⟨K.q, 4, none⟩ = false := by simp [World.frozen?, HJ15.out.fx.sb.row]
     have hw_ : IntKind.i64.wrap (lst.length : Int) = (lst.length : Int) := by
      have := HII.out.2.2.2
      rw [i64_w, w64 (by omega) (by omega)]
     have hcap : lst.length + 1 ≤ lc2 := by
      have h1 := (Kd.R_reads' HJ15.out.fx.lst).2.1
      rw [List.length_append, List.length_singleton] at h1
      exact h1
     have hcp1 : ((lst.length : Int) ≤ (lc2 : Int)) = True := eq_true (by omega)
     have hcp2 : (lst.length ≤ lc2) = True := eq_true (by omega)
     clear hcap
     simp only [List.take_succ_cons, List.take_zero, List.drop_succ_cons, List.drop_zero]
     iterate 11 still_step
     iterate 3 still_step
     refine wpStill_nil ?_
     clear hcx hw_ hcp1 hcp2
     go_wp2
     refine ⟨(HKO15.out.trans (KeepsOthers.setCell _ _ _)).from _, zs ++ [i], M2, lA2, lc2, bv2, se2, ?_, HJ15.out.cut, Nat.le_trans HSZ15.out (KeepsOthers.setCell _ _ _).size⟩
     rw [← HIK.out]
     simp [up]
  clear a1
  have hcx := HJ2.out.x.cell
  have hce := HJ2.out.en.cell
  obtain ⟨fnd, hfnd⟩ : ∃ f : Bool, f = s.isSome := ⟨_, rfl⟩
  have hc7 := HJ2.out.fx.sb.c7
  rw [← hfnd] at hc7
  have hc6 := HJ2.out.fx.sb.c6
  have hge : fnd = true → decide ((e : Int) ≥ se) = false := fun h => HGE.out (by rw [← hfnd]; exact h)
  have HG2 := Aside0.mk hge
  clear hfnd hge
  by_cases hfd : fnd = false
  ·have hgf : (some fnd == some true) = false := by rw [hfd]; rfl
   have HFN := Aside0.mk hfd
   clear hfd hce hc6
   iterate 5 still_step
   repeat (refine wpStill_skip hgf ?_; simp only [Act.put, List.setIfInBounds_toArray, List.set_cons_zero, List.set_cons_succ])
   refine wpStill_nil ?_
   obtain rfl := HFN.out
   clear hgf hc7 hcx
   go_wp2
   exact key _ _ _ _ _ _ _ _ _ _ _ _
  ·have hfd1 : fnd = true := by
    cases fnd
    ·exact absurd rfl hfd
    ·rfl
   have hge := HG2.out hfd1
   have hgf : (some fnd == some true) = true := by rw [hfd1]; rfl
   have HFN := Aside0.mk hfd1
   clear hfd hfd1
   iterate 5 still_step
   repeat (refine wpStill_want hgf (fun K_ hK => ?_); go_simp; refine hK _ ?_; clear hK K_)
   refine wpStill_nil ?_
   obtain rfl := HFN.out
   clear hgf hc7 hcx
   go_wp2
   exact key _ _ _ _ _ _ _ _ _ _ _ _
end Go.Proofs.YtimbfcedigaffaaDoor.Core
end
section
set_option linter.unusedVariables false
set_option linter.unusedSimpArgs false
namespace Go.Proofs.YtimbfcedigaffaaDoor.Core
open Go Go.RowKit Go.Shelf Go.Proofs.YtimbfcedigaffaaDoorW.PrintWords Go.Proofs.YtimbfcedigaffaaDoorW.PrintLast Go.Proofs.YtimbfcedigaffaaDoorW.PrintMore Go.Proofs.YtimbfcedigaffaaDoor.P
attribute [local go_sem] Oper.semAt_some wide_fn wide_depth
set_option maxRecDepth 100000 in
set_option maxHeartbeats 2000000 in
theorem bestIn_none (A0 : Option Addr) (c0 : Nat) (l0 : List Tk) (A1 : Option Addr) (c1 : Nat) (l1 : List Int) (wk : Int) (w : World) (hT : Tab w) (hr0 : k39.C w A0 l0.length l0) (hc0 : l0.length ≤ c0) (hr1 : (Kd.int .i64).C w A1 l1.length l1) (hc1 : l1.length ≤ c1) (h : fewD l0 l1 wk = none) :
  Calls Tryd.prog 30 #[.slice A0 l0.length c0, .slice A1 l1.length c1, .int .i64 wk] w fun e w' => e = .returned (.tuple #[.slice none 0 0, .int .i64 0, .bool false]) ∧ Below w.heap.size w w' := by
 have HP := Aside0.mk (fewIn_none A0 c0 l0 A1 c1 l1 wk w hT hr0 hc0 hr1 hc1 h)
 clear hr0 hr1 hT h
 go_enter Tryd.func30, Tryd.ntmps30
 go_wp2_with (go_at_call 45; refine HP.out.mono ?_; rintro e w1 ⟨rfl, hB⟩; have HB := Aside0.mk hB; clear hB)
 refine bodyPost_ret (results_list (rs := [.tmp 6, .tmp 7, .tmp 8]) rfl (by simp) (.tmp (.tmp (.tmp .nil)))) rfl ?_
 exact ⟨rfl, HB.out⟩
theorem bestD_some {g : List Tk} {room : List Int} {wk : Int} {b : List Int × Nat} (h : bestD g room wk = some b) : ∃ G, fewD g room wk = some G := by
 unfold bestD at h
 cases hf : fewD g room wk with
 | none => rw [hf] at h; cases h
 | some G => exact ⟨G, rfl⟩
theorem leB_zero (b n : Nat) : leB b (List.replicate n 0) := fun k => by rw [List.getD_eq_getElem?_getD, List.getElem?_replicate]; split <;> simp
/-- The search, begun. -/
theorem from_start (b_ : Nat) (G : GD) (A1 : Option Addr) (c1 : Nat) (l1 : List Int) (wk : Int) (b : List Int × Nat) (w1 : World) (hT : Tab w1) (hg : IsG w1 b_ G) (ok : GOk G) (htok : ∀ t ∈ G.tasks, taskOk t) (hpool : ∀ t ∈ G.tasks, 0 ≤ t.f2 ∧ t.f2 ≤ 2) (hf : Fine G.tasks l1 wk) (h5 : G.tasks.length ≤ 5) (h3 : l1.length = 3) (hC : Kd.C (Kd.int .i64) w1 A1 l1.length l1) (hc1 : l1.length ≤ c1) (hfb : fromF G.tasks G.needs l1 wk (G.tasks.length + 1) [] (List.replicate G.tasks.length 0) 0 0 none = some b) :
  Calls Tryd.prog 47 #[.pointer (some ⟨w1.heap.size + 1, 0, none⟩), .int .u16 0, .int .i64 0] ((w1.alloc (.cells (icells (List.replicate G.tasks.length 0)) 3)).alloc (.cells #[.pointer (some ⟨b_, 0, none⟩), .slice A1 l1.length c1, .int .i64 wk, .slice (some ⟨w1.heap.size, 0, none⟩) G.tasks.length G.tasks.length, .slice none 0 0, .slice none 0 0, .int .i64 0, .bool false] 74)) fun r w' => r = .returned (.tuple #[]) ∧ ∃ A c, w'.cell? ⟨w1.heap.size + 1, 5, none⟩ = some (.slice A b.1.length c) ∧ w'.cell? ⟨w1.heap.size + 1, 6, none⟩ = some (.int .i64 (b.2 : Int)) ∧ (Kd.int .i64).R 3 w' w1.heap.size (fun _ => True) (.slice A b.1.length c) b.1 ∧ Below w1.heap.size w1 w' := by
 have o1 : (w1.alloc (.cells (icells (List.replicate G.tasks.length 0)) 3)).heap.size = w1.heap.size + 1 := by simp
 have r1 := cells_new w1 (.cells (icells (List.replicate G.tasks.length 0)) 3)
 have B1 := (Below.refl w1.heap.size w1).alloc (Nat.le_refl _) (.cells (icells (List.replicate G.tasks.length 0)) 3)
 revert o1 r1 B1
 generalize w1.alloc (.cells (icells (List.replicate G.tasks.length 0)) 3) = w2
 intro o1 r1 B1
 have r2 := cells_new w2 (.cells #[.pointer (some ⟨b_, 0, none⟩), .slice A1 l1.length c1, .int .i64 wk, .slice (some ⟨w1.heap.size, 0, none⟩) G.tasks.length G.tasks.length, .slice none 0 0, .slice none 0 0, .int .i64 0, .bool false] 74)
 rw [o1] at r2
 have r1' := cells_alloc r1 (.cells #[.pointer (some ⟨b_, 0, none⟩), .slice A1 l1.length c1, .int .i64 wk, .slice (some ⟨w1.heap.size, 0, none⟩) G.tasks.length G.tasks.length, .slice none 0 0, .slice none 0 0, .int .i64 0, .bool false] 74)
 have B2 := B1.alloc (by omega) (.cells #[.pointer (some ⟨b_, 0, none⟩), .slice A1 l1.length c1, .int .i64 wk, .slice (some ⟨w1.heap.size, 0, none⟩) G.tasks.length G.tasks.length, .slice none 0 0, .slice none 0 0, .int .i64 0, .bool false] 74)
 clear r1 B1 o1
 revert r2 r1' B2
 generalize w2.alloc (.cells #[.pointer (some ⟨b_, 0, none⟩), .slice A1 l1.length c1, .int .i64 wk, .slice (some ⟨w1.heap.size, 0, none⟩) G.tasks.length G.tasks.length, .slice none 0 0, .slice none 0 0, .int .i64 0, .bool false] 74) = w3
 intro r2 r1 B2
 let K : FK := { w0 := w1, q := w1.heap.size + 1, b := b_, A1 := A1, n1 := l1.length, c1 := c1, wk := wk, p := w1.heap.size, n := G.tasks.length, hq := Nat.le_succ _, hp := Nat.le_refl _, hqp := Nat.succ_ne_self _ }
 have FGK : FG K G l1 := ⟨hT, hg, ok, htok, hpool, hf, rfl, h5, h3, hC, rfl, hc1⟩
 have hX : FX K (fun _ => True) w3 [] (List.replicate G.tasks.length 0) none none 0 (.slice none 0 0) 0 :=
  ⟨⟨r2⟩, r1, Kd.R_nil _ _ _ _ _, (fun o ho => by cases ho), (fun k hk => by simp [Value.ownBlock] at hk), (by simp [K]), leB_zero _ _, B2⟩
 have hc := from_calls K G l1 FGK (G.tasks.length + 1) (fun _ => True) [] (List.replicate G.tasks.length 0) (List.replicate G.tasks.length 0) 0 0 none none 0 (.slice none 0 0) 0 w3 (by show G.tasks.length < 0 + _; omega) (Nat.zero_le _) hX (fun _ _ => trivial) (fun _ _ => rfl) (by simp [K]) (Nat.two_pow_pos _) (fun k hk => by rw [Nat.zero_testBit] at hk; cases hk) (Nat.zero_le _)
 rw [show K.wk = wk from rfl, hfb] at hc
 refine hc.mono ?_
 rintro r w' ⟨hr, ⟨⟨M, lA, lc, bv, se, hx, _⟩, _, _⟩⟩
 obtain ⟨he, hR⟩ := hx.best b rfl
 obtain ⟨A, c, e1⟩ := Kd.R_slice hR
 subst e1
 have hrow := hx.sb.row
 refine ⟨hr, A, c, ?_, ?_, Kd.R_mono hR (fun _ _ => trivial), hx.below⟩
 ·have : w'.heap[w1.heap.size + 1]? = _ := hrow
  simp [World.cell?, this]
 ·have : w'.heap[w1.heap.size + 1]? = _ := hrow
  simp [World.cell?, this, he]
set_option maxRecDepth 100000 in
set_option maxHeartbeats 4000000 in
theorem bestIn_some (A0 : Option Addr) (c0 : Nat) (l0 : List Tk) (A1 : Option Addr) (c1 : Nat) (l1 : List Int) (wk : Int) (b : List Int × Nat) (w : World) (hT : Tab w) (hr0 : k39.C w A0 l0.length l0) (hc0 : l0.length ≤ c0) (hr1 : (Kd.int .i64).C w A1 l1.length l1) (hc1 : l1.length ≤ c1) (h : bestD l0 l1 wk = some b) :
  Calls Tryd.prog 30 #[.slice A0 l0.length c0, .slice A1 l1.length c1, .int .i64 wk] w fun e w' => ∃ v, e = .returned (.tuple #[v, .int .i64 (b.2 : Int), .bool true]) ∧ Kd.R (Kd.int .i64) 3 w' w.heap.size (fun _ => True) v b.1 ∧ Below w.heap.size w w' := by
 obtain ⟨G, hg⟩ := bestD_some h
 obtain ⟨h5, hp⟩ := fewD_some hg
 obtain ⟨hG, hroom, hw1, hw4⟩ := placeD_some hp
 have ok := graphD_ok hG
 have htk := graphD_tasks hG
 have htok := graphD_taskOk hG
 have hpool := graphD_pool hG
 have hfine := fine_of hG hroom hw1
 have h8 := ok.n8
 have hfb := fromF_best hg
 rw [h] at hfb
 have HG := Aside0.mk (fewIn_some A0 c0 l0 A1 c1 l1 wk G w hT hr0 hc0 hr1 hc1 hg)
 have HR1 := Aside0.mk hr1
 have HC1 := Aside0.mk hc1
 have HT := Aside0.mk hT
 have OK := Aside0.mk ok
 have HROOM := Aside0.mk hroom.1
 have HF := Aside0.mk hfine
 have HPO := Aside0.mk hpool
 subst htk
 have HTK := Aside0.mk htok
 have H5 := Aside0.mk h5
 have HFB := Aside0.mk hfb
 have hmk := run_make_ints G.tasks.length h8
 clear hr0 hr1 hT hp hG hroom ok htok hpool hfine hg hc0 hc1 h5 hfb h hw1 hw4
 go_enter Tryd.func30, Tryd.ntmps30
 go_wp2_with (first | (go_at_call 45; refine HG.out.mono ?_; rintro e w1 ⟨b_, rfl, hB, hgr⟩; have HB := Aside0.mk hB; have HI := Aside0.mk hgr; clear hB hgr) | (go_at_call 46; refine (size_calls b_ G _ HI.out).mono ?_; rintro e w2 ⟨rfl, rfl⟩) | (go_at_call 47; clear hmk; refine (from_start b_ G A1 c1 l1 wk b w1 (HT.out.of HB.out) HI.out OK.out HTK.out HPO.out HF.out H5.out HROOM.out (Kd.C_below HR1.out HB.out) HC1.out HFB.out).mono ?_; rintro e w3 ⟨rfl, A9, c9, hc5, hc6, hR9, hB9⟩; have HR9 := Aside0.mk hR9; have HB9 := Aside0.mk (below_step HB.out hB9); clear hR9 hB9))
 refine wp_region_still_lit rfl (by kernel_rfl) ?_
 change wpStill _ _ w3.drew (fun a' => Exit.then _ _ .normal a' w3.drew) _ _
 have hdr : Below w3.heap.size w3 w3.drew := below_drew (Below.refl _ _)
 revert hdr
 generalize w3.drew = w4
 intro hdr
 replace hc5 := pw_cell_below hdr hc5
 replace hc6 := pw_cell_below hdr hc6
 repeat still_step
 refine wpStill_nil ?_
 go_wp2
 refine bodyPost_ret (results_list (rs := [.tmp 6, .tmp 7, .tmp 8]) rfl (by simp) (.tmp (.tmp (.tmp .nil)))) rfl ?_
 exact ⟨_, rfl, Kd.R_below (Kd.R_lower HR9.out HB.out.size) hdr, below_step HB9.out hdr⟩
end Go.Proofs.YtimbfcedigaffaaDoor.Core
end
