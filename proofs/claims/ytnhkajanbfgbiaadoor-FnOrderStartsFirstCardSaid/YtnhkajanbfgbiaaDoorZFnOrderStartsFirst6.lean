/- The law FnOrderStartsFirst holds of the given program: the proof's own part, with its row and its card, part 6 of 9. -/
import Derived.Test.YtnhkajanbfgbiaaDoorZFnOrderStartsFirst5
section
set_option linter.unusedVariables false
set_option linter.unusedSimpArgs false
namespace Go.Proofs.YtnhkajanbfgbiaaDoor.Core
open Go Go.RowKit Go.Shelf Go.Proofs.YtnhkajanbfgbiaaDoorW.PrintWords Go.Proofs.YtnhkajanbfgbiaaDoorW.PrintLast Go.Proofs.YtnhkajanbfgbiaaDoorW.PrintMore Go.Proofs.YtnhkajanbfgbiaaDoor.P
attribute [local go_sem] Oper.semAt_some wide_fn wide_depth max2_int max_two
/-- An operation with a guard, told by the guard's own value. -/
theorem wpStill_want {P : Program} {ops : Array Oper} {w : World} {Q : Act → Prop} {a : Act} {o : Oper} {rest : List Oper} (hw : Region.wanted o (yielded ops a.tmps) = true) (h : ∀ K : Act → Prop, (∀ a, wpStill P ops w Q rest a → K a) → o.still P a w K) : wpStill P ops w Q (o :: rest) a := by
 unfold wpStill
 rw [if_pos hw]
 exact h _ (fun _ h => h)
theorem wpStill_skip {P : Program} {ops : Array Oper} {w : World} {Q : Act → Prop} {a : Act} {o : Oper} {rest : List Oper} (hw : Region.wanted o (yielded ops a.tmps) = false) (h : wpStill P ops w Q rest (a.put o.dst undef)) : wpStill P ops w Q (o :: rest) a := by
 unfold wpStill
 rw [if_neg (by rw [hw]; exact Bool.false_ne_true)]
 exact h
/-- When a task is over. -/
def endN (g : List Tk) (L : List Nat) (k : Nat) : Nat := L.getD k 0 + tmN g k
/-- One more need. -/
def eStep (g : List Tk) (L : List Nat) (a k : Nat) : Nat := max a (endN g L k)
def needEnd (g : List Tk) (L : List Nat) (s : Nat) : Nat := (elemsN s).foldl (eStep g L) 0
/-- Whether a task runs at a time. -/
def runsAt (g : List Tk) (L : List Nat) (now k : Nat) : Bool := decide (L.getD k 0 ≤ now) && decide (now < endN g L k)
def cntStep (g : List Tk) (L : List Nat) (now : Nat) (c : Cn) (k : Nat) : Cn := if runsAt g L now k = true then cstep g c k else c
def cntOf (g : List Tk) (L : List Nat) (pl now : Nat) : Cn := (elemsN pl).foldl (cntStep g L now) Cn.zero
/-- Whether a task can run at a time. -/
def freeB (g : List Tk) (L : List Nat) (pl i : Nat) (room : List Int) (wk : Int) (now : Nat) : Bool := takesB (cntOf g L pl now) (g.getD i z38).f2 (g.getD i z38).f3 room wk
def freeN (g : List Tk) (L : List Nat) (pl i : Nat) (room : List Int) (wk : Int) : Nat → Nat → Bool
 | 0, _ => true
 | d + 1, now => freeB g L pl i room wk now && freeN g L pl i room wk d (now + 1)
def earlN (g : List Tk) (L : List Nat) (pl i : Nat) (room : List Int) (wk : Int) : Nat → Nat → Nat
 | 0, a => a
 | f + 1, a => if freeN g L pl i room wk (tmN g i) a = true then a else earlN g L pl i room wk f (a + 1)
def earlD (g : List Tk) (L : List Nat) (s pl i : Nat) (room : List Int) (wk : Int) : Nat := earlN g L pl i room wk 400 (needEnd g L s)
theorem eStep_le {g : List Tk} (ht : tm20 g) {L : List Nat} {b : Nat} (hL : leB b L) {a : Nat} (ha : a ≤ b + 20) (k : Nat) : eStep g L a k ≤ b + 20 := by
 have h1 := hL k
 have h2 := ht k
 unfold eStep endN
 omega
theorem efold_le {g : List Tk} (ht : tm20 g) {L : List Nat} {b : Nat} (hL : leB b L) : ∀ (ks : List Nat) (a : Nat), a ≤ b + 20 → ks.foldl (eStep g L) a ≤ b + 20
 | [], _, h => h
 | k :: ks, a, h => efold_le ht hL ks _ (eStep_le ht hL h k)
def eframe (f : Nat → Value) (v2 v3 v4 v5 v6 v7 v13 v15 v16 : Value) : Array Value := #[f 0, f 1, v2, v3, v4, v5, v6, v7, f 8, f 9, f 10, f 11, f 12, v13, f 14, v15, v16, f 17, f 18, f 19, f 20, f 21, f 22, f 23, f 24, f 25, f 26, f 27, f 28, f 29, f 30, f 31, f 32, f 33, f 34, f 35, f 36, f 37, f 38, f 39, f 40, f 41, f 42, f 43, f 44, f 45, f 46, f 47, f 48, f 49, f 50, f 51, f 52, f 53, f 54, f 55, f 56, f 57, f 58, f 59, f 60, f 61, f 62, f 63, f 64, f 65, f 66, f 67, f 68, f 69, f 70, f 71, f 72, f 73, f 74, f 75, f 76, f 77, f 78, f 79, f 80, f 81, f 82, f 83, f 84, f 85, f 86, f 87, f 88, f 89, f 90, f 91, f 92, f 93, f 94, f 95, f 96, f 97, f 98, f 99, f 100, f 101, f 102, f 103, f 104, f 105, f 106, f 107, f 108, f 109]
theorem eframe_lit {T : Array Value} {v2 v3 v4 v5 v6 v7 v13 v15 v16 : Value} (hs : T.size = 110) (h2 : T[2]? = some v2) (h3 : T[3]? = some v3) (h4 : T[4]? = some v4) (h5 : T[5]? = some v5) (h6 : T[6]? = some v6) (h7 : T[7]? = some v7) (h13 : T[13]? = some v13) (h15 : T[15]? = some v15) (h16 : T[16]? = some v16) : ∃ f, T = eframe f v2 v3 v4 v5 v6 v7 v13 v15 v16 := by
 refine ⟨fun j => T.getD j undef, ?_⟩
 have hT0 : T = ((List.range 110).map fun j => T.getD j undef).toArray := by
  apply Array.ext
  ·simp [hs]
  ·intro i h1 h2
   simp [Array.getD_eq_getD_getElem?, h1]
 have e (j : Nat) (v : Value) (h : T[j]? = some v) : v = T.getD j undef := by rw [Array.getD_eq_getD_getElem?, h]; rfl
 obtain rfl := e _ _ h2
 obtain rfl := e _ _ h3
 obtain rfl := e _ _ h4
 obtain rfl := e _ _ h5
 obtain rfl := e _ _ h6
 obtain rfl := e _ _ h7
 obtain rfl := e _ _ h13
 obtain rfl := e _ _ h15
 obtain rfl := e _ _ h16
 exact hT0
/-- What the walk knows of its cells: the graph, the beginnings, the time. -/
structure ES (w : World) (b : Nat) (A : Option Addr) (n c : Nat) (W : World) (t : Int) : Prop where
 x : Boxed W w.heap.size 45 (.pointer (some ⟨b, 0, none⟩))
 st : Boxed W (w.heap.size + 1) 23 (.slice A n c)
 at_ : Boxed W (w.heap.size + 1 + 1) 3 (.int .i64 t)
 below : Below w.heap.size w W
theorem ES.move {w W W' : World} {b n c : Nat} {A : Option Addr} {t : Int} (h : ES w b A n c W t) (hb : Below W.heap.size W W') : ES w b A n c W' t :=
 ⟨(hb.block _ h.x.lt).trans h.x, (hb.block _ h.st.lt).trans h.st, (hb.block _ h.at_.lt).trans h.at_, below_step h.below hb⟩
theorem ES.alloc {w W : World} {b n c : Nat} {A : Option Addr} {t : Int} (h : ES w b A n c W t) (o : Obj) : ES w b A n c (W.alloc o) t := h.move ((Below.refl W.heap.size W).alloc (Nat.le_refl _) o)
theorem ES.tame {w W W' : World} {b n c B : Nat} {A : Option Addr} {t : Int} (h : ES w b A n c W t) (hB : w.heap.size ≤ B) (ht : Tame B W W') : ES w b A n c W' t :=
 ⟨ht.boxed h.x, ht.boxed h.st, ht.boxed h.at_, ht.below h.below (Nat.le_refl _) hB⟩
theorem ES.size {w W : World} {b n c : Nat} {A : Option Addr} {t : Int} (h : ES w b A n c W t) : w.heap.size + 1 + 1 < W.heap.size := h.at_.lt
theorem ES.grow {w W W' : World} {b n c p : Nat} {A : Option Addr} {t : Int} (h : ES w b A n c W t) (hg : W.grownBy W' (some p)) (hp : w.heap.size + 1 + 1 < p) : ES w b A n c W' t :=
 ⟨h.x.kept hg (fun e => by injection e with e; omega), h.st.kept hg (fun e => by injection e with e; omega), h.at_.kept hg (fun e => by injection e with e; omega), below_put hg h.below (Nat.le_refl _) (by omega)⟩
theorem ES.set {w W : World} {b n c : Nat} {A : Option Addr} {t : Int} (h : ES w b A n c W t) (t' : Int) : ES w b A n c (W.setCell ⟨w.heap.size + 1 + 1, 0, none⟩ (.int .i64 t')) t' :=
 ⟨h.x.kept (grownBy_setCell' W (w.heap.size + 1 + 1) (.int .i64 t')) (fun e => by injection e with e; omega), h.st.kept (grownBy_setCell' W (w.heap.size + 1 + 1) (.int .i64 t')) (fun e => by injection e with e; omega), h.at_.set _, below_put (grownBy_setCell' W (w.heap.size + 1 + 1) (.int .i64 t')) h.below (Nat.le_refl _) (by omega)⟩
set_option maxRecDepth 100000 in
set_option maxHeartbeats 4000000 in
theorem earliest_calls (b : Nat) (G : GD) (pl i : Nat) (L : List Nat) (A1 : Option Addr) (c1 : Nat) (A2 : Option Addr) (c2 : Nat) (room : List Int) (wk : Int) (F : Nat) (w : World) (hT : Tab w) (hg : IsG w b G) (ok : GOk G) (htk : ∀ t ∈ G.tasks, taskOk t) (hpool : ∀ t ∈ G.tasks, 0 ≤ t.f2 ∧ t.f2 ≤ 2) (hi : i < G.tasks.length) (hL : L.length = G.tasks.length) (hLb : leB 200 L) (hC1 : Kd.C (Kd.int .i64) w A1 (up L).length (up L)) (h3 : room.length = 3) (hC2 : Kd.C (Kd.int .i64) w A2 room.length room) (hc2 : room.length ≤ c2) (hpl : pl < 2 ^ G.tasks.length) (hF : F ≤ 300) (hfree : freeN G.tasks L pl i room wk (tmN G.tasks i) (needEnd G.tasks L (G.needs.getD i 0) + F) = true) :
  Calls Tryd.prog 27 #[.pointer (some ⟨b, 0, none⟩), .slice A1 L.length c1, .int .u16 (pl : Int), .int .i64 (i : Int), .slice A2 room.length c2, .int .i64 wk] w fun e w' => e = .returned (.int .i64 (earlD G.tasks L (G.needs.getD i 0) pl i room wk : Int)) ∧ Below w.heap.size w w' := by
 have h8 := ok.n8
 have h256 := pow8 h8
 have hNi : G.needs.getD i 0 < 2 ^ G.tasks.length := getD_lt ok.nb i
 have htm20 := tm20_of htk
 have hres : earlD G.tasks L (G.needs.getD i 0) pl i room wk = earlN G.tasks L pl i room wk 400 ((elemsN (G.needs.getD i 0)).foldl (eStep G.tasks L) 0) := rfl
 have hfree' : freeN G.tasks L pl i room wk (tmN G.tasks i) ((elemsN (G.needs.getD i 0)).foldl (eStep G.tasks L) 0 + F) = true := hfree
 clear hfree
 generalize earlD G.tasks L (G.needs.getD i 0) pl i room wk = RES at hres ⊢
 generalize hs_ : G.needs.getD i 0 = s at hNi hres hfree'
 obtain ⟨xi, hxi⟩ : ∃ x : Int, x = (i : Int) := ⟨_, rfl⟩
 rw [← hxi]
 have hs8 : s < 256 := Nat.lt_of_lt_of_le hNi h256
 obtain ⟨An, cn, hcn0, hcl0, hCn0⟩ := hg.needs
 have p0 : 0 ≤ xi := by omega
 have q0 : xi < (G.needs.length : Int) := by have := ok.nl; omega
 obtain ⟨adn, e0, hxn0⟩ := Kd.at_int hCn0 xi p0 q0
 subst e0
 rw [rd_up (i := i) hxi, hs_] at hxn0
 obtain ⟨W3, hW3⟩ : ∃ W3, W3 = ((w.alloc (.cells #[.pointer (some ⟨b, 0, none⟩)] 45)).alloc (.cells #[.slice A1 L.length c1] 23)).alloc (.cells #[.int .i64 0] 3) := ⟨_, rfl⟩
 have HE : ES w b A1 L.length c1 W3 0 := by
  have o1 : (w.alloc (.cells #[.pointer (some ⟨b, 0, none⟩)] 45)).heap.size = w.heap.size + 1 := by simp
  have o2 : ((w.alloc (.cells #[.pointer (some ⟨b, 0, none⟩)] 45)).alloc (.cells #[.slice A1 L.length c1] 23)).heap.size = w.heap.size + 1 + 1 := by simp
  have B1 := (Below.refl w.heap.size w).alloc (Nat.le_refl _) (.cells #[.pointer (some ⟨b, 0, none⟩)] 45)
  have x1 := Boxed.new w 45 (.pointer (some ⟨b, 0, none⟩))
  have s1 := Boxed.new (w.alloc (.cells #[.pointer (some ⟨b, 0, none⟩)] 45)) 23 (.slice A1 L.length c1)
  rw [o1] at s1
  have a1 := Boxed.new ((w.alloc (.cells #[.pointer (some ⟨b, 0, none⟩)] 45)).alloc (.cells #[.slice A1 L.length c1] 23)) 3 (.int .i64 0)
  rw [o2] at a1
  rw [hW3]
  exact ⟨(x1.alloc _).alloc _, s1.alloc _, a1, (B1.alloc (by omega) _).alloc (by omega) _⟩
 have o3 : W3.heap.size = w.heap.size + 1 + 1 + 1 := by rw [hW3]; simp
 have hcx := HE.x.cell
 have hcn := (HE.below.cell (World.block_lt_of_cell? _ _ hcn0)).trans hcn0
 have hxn := (HE.below.cell (World.block_lt_of_cell? _ _ hxn0)).trans hxn0
 rw [hW3] at hcx hcn hxn
 have hC1w := hC1
 have HG := Aside0.mk hg
 have HT := Aside0.mk hT
 have OK := Aside0.mk ok
 have HTK := Aside0.mk htk
 have HPO := Aside0.mk hpool
 have HC1 := Aside0.mk hC1
 have HC2 := Aside0.mk hC2
 have HLB := Aside0.mk hLb
 have HEE := Aside0.mk HE
 have HW := Aside0.mk hW3
 have HX := Aside0.mk hxi
 have O3 := Aside0.mk o3
 have HRES := Aside0.mk hres
 have HFR := Aside0.mk hfree'
 have HS := Aside0.mk hs_
 have HLL := Aside0.mk hL
 have H3 := Aside0.mk h3
 replace p0 := eq_true p0
 replace q0 := eq_true q0
 clear o3 hL h3 hg hT ok htk hpool hC1 hC2 hLb HE hW3 hxi hres hfree' hs_ hC1w hcn0 hxn0 hcl0 hCn0
 refine calls_marks Tryd.func27 rfl ?_
 simp only [Tryd.ntmps27, List.size_toArray, List.length_cons, List.length_nil, Nat.reduceAdd, Nat.reduceSub, Array.replicate_succ, Array.replicate_zero, List.push_toArray, List.append_toArray, List.nil_append, List.cons_append]
 go_wp2_with (go_at_call 43; refine (all_calls s _).mono ?_; rintro e w' ⟨rfl, rfl⟩)
 rw [← HW.out]
 clear hcx hcn hxn p0 q0
 have s4 := Boxed.new W3 50 (.int .u16 (s : Int))
 rw [O3.out] at s4
 have E4 := HEE.out.alloc (.cells #[.int .u16 (s : Int)] 50)
 have o4 : (W3.alloc (.cells #[.int .u16 (s : Int)] 50)).heap.size = W3.heap.size + 1 := by simp
 clear HW
 revert s4 E4 o4
 generalize W3.alloc (.cells #[.int .u16 (s : Int)] 50) = W4
 intro s4 E4 o4
 have hle4 : w.heap.size ≤ W4.heap.size := E4.below.size
 refine wp_rangeSet Tab.tame (w := W4) (w0 := W4) (p := 27) (d := 14) rfl (enters_of Tryd.func58 (by kernel_rfl) rfl)
  (all_seq (w.heap.size + 1 + 1 + 1) s hs8 W4 (HT.out.of E4.below) s4.cell) (Below.refl _ _) (by simp)
  (fun ys W' => ∃ zs : List Nat, (∀ z ∈ zs, z < G.tasks.length) ∧ ys = up zs ∧ ES w b A1 L.length c1 W' ((zs.foldl (eStep G.tasks L) 0 : Nat) : Int) ∧ W4.heap.size ≤ W'.heap.size) (fun _ _ _ => False)
  (ownFrom_tame (fun ys W' W'' ht ⟨zs, z, a, e, f⟩ => ⟨zs, z, a, e.tame hle4 ht, Nat.le_trans f ht.size⟩)) (fun _ => ownFrom_tame (fun _ _ _ _ h => h))
  ⟨[], by simp, rfl, E4, Nat.le_refl _⟩ (fun ys W' ⟨_, _, _, e, _⟩ => HT.out.of e.below) ?body ?done (fun _ _ _ _ _ h _ => h.elim)
 case body =>
  rintro l pre1 x W1 hx ⟨zs, hzl, rfl, E1, hsz⟩ hlt1
  gi_wp2
  obtain ⟨k0, hxk, hk8, _⟩ := mem_elems.1 hx
  have hkn : k0 < G.tasks.length := by have := elems_lt hNi hx; omega
  have hle := efold_le htm20 HLB.out zs 0 (by omega)
  have hsl := HLB.out k0
  have htm := tm_int HTK.out hkn
  have hstep : (zs ++ [k0]).foldl (eStep G.tasks L) 0 = max (zs.foldl (eStep G.tasks L) 0) (L.getD k0 0 + tmN G.tasks k0) := by rw [List.foldl_append]; rfl
  refine wpIn_still_tail 15 rfl (by kernel_rfl) (by kernel_rfl) (fun ⟨_, _, h⟩ => h) ?_
  change wpStill _ _ W1.drew (fun a' => wpList _ _ _ _ a' W1.drew) _ _
  have hdr : Below W1.heap.size W1 W1.drew := below_drew (Below.refl _ _)
  have hko := KeepsOthers.drew W1
  revert hdr hko
  generalize W1.drew = Wd
  intro hdr hko
  have E2 := E1.move hdr
  have hca := E2.at_.cell
  have hfa := E2.at_.frozen
  have hcs := E2.st.cell
  have hcx := E2.x.cell
  obtain ⟨A, c, hc0, hcl, hC⟩ := (HG.out.move E2.below).tasks
  have p0 : 0 ≤ x := by omega
  have q0 : x < (G.tasks.length : Int) := by omega
  obtain ⟨ad, At, ct, e0, h0, h1, h2, h3_, h4, h5⟩ := at_T38 hC x p0 q0
  subst e0
  have hrd : rd_T38 G.tasks x = G.tasks.getD k0 z38 := by rw [hxk]; simp [rd_T38]
  rw [hrd, htm.1] at h0
  have q1 : x < (L.length : Int) := by have := HLL.out; omega
  obtain ⟨ads, e1, hxs⟩ := Kd.at_int (Kd.C_below HC1.out E2.below) x p0 (by rw [up_length]; omega)
  subst e1
  rw [rd_up (i := k0) hxk] at hxs
  have hmx : (if ((zs.foldl (eStep G.tasks L) 0 : Nat) : Int) < IntKind.i64.wrap (((L.getD k0 0 : Nat) : Int) + ((tmN G.tasks k0 : Nat) : Int)) then IntKind.i64.wrap (((L.getD k0 0 : Nat) : Int) + ((tmN G.tasks k0 : Nat) : Int)) else ((zs.foldl (eStep G.tasks L) 0 : Nat) : Int)) = (((zs ++ [k0]).foldl (eStep G.tasks L) 0 : Nat) : Int) := by
   rw [hstep, (wadd (a := L.getD k0 0) (b := tmN G.tasks k0) (by omega) (by omega)).2]
   exact wmax _ _
  generalize hr_ : (zs ++ [k0]).foldl (eStep G.tasks L) 0 = r at hmx hstep
  generalize hrI : ((r : Nat) : Int) = rI at hmx
  generalize ((zs.foldl (eStep G.tasks L) 0 : Nat) : Int) = aI at hca hmx
  generalize ((L.getD k0 0 : Nat) : Int) = sI at hxs hmx
  generalize ((tmN G.tasks k0 : Nat) : Int) = tI at h0 hmx
  replace p0 := eq_true p0
  replace q0 := eq_true q0
  replace q1 := eq_true q1
  have HMX := Aside0.mk hmx
  have HXK := Aside0.mk (show x = (k0 : Int) ∧ ((r : Nat) : Int) = rI ∧ (zs ++ [k0]).foldl (eStep G.tasks L) 0 = r ∧ k0 < G.tasks.length from ⟨hxk, hrI, hr_, hkn⟩)
  have HST := Aside0.mk hstep
  clear hmx hxk hrI hr_ hstep hle hsl htm hx hkn h1 h2 h3_ h4 h5 hC hcl hrd hlt1
  simp only [List.take_succ_cons, List.take_zero, List.drop_succ_cons, List.drop_zero]
  repeat still_step
  rw [HMX.out]
  refine wpStill_nil ?_
  go_wp2
  obtain ⟨hxk, hrI, hr_, hkn⟩ := HXK.out
  refine ⟨(hko.trans (KeepsOthers.setCell _ _ _)).from _, zs ++ [k0], ?_, ?_, ?_, ?_⟩
  ·intro z hz
   rcases List.mem_append.1 hz with hz | hz
   ·exact hzl z hz
   ·rw [List.mem_singleton.1 hz]; exact hkn
  ·rw [hxk]; simp [up]
  ·rw [hr_, hrI]; exact E2.set rI
  ·exact Nat.le_trans hsz (Nat.le_trans hdr.size (KeepsOthers.setCell _ _ _).size)
 case done =>
  rintro D W2 hD ⟨zs, hzl, hzs, E5, hsz⟩ hk
  obtain rfl : elemsN s = zs := up_inj hzs
  have hm := (Marks.nil w.heap.size W4.heap.size W2).cons hD hle4 hk
  have ha0 := efold_le htm20 HLB.out (elemsN s) 0 (by omega)
  clear hzs hk hzl
  generalize (elemsN s).foldl (eStep G.tasks L) 0 = a0 at E5 HRES HFR ha0
  have ht1 := tm_int HTK.out hi
  generalize htT : tmN G.tasks i = T at HFR ht1
  have HTT := Aside0.mk htT
  have HT1 := Aside0.mk ht1
  clear htT ht1 s4 E4 o4 hD
  go_wp2
  refine wp_loop_ghost_k (fun n a W => ∃ (t f : Nat) (v15 v16 : Value), n ≤ f ∧ t + n ≤ 520 ∧ RES = earlN G.tasks L pl i room wk f t ∧ freeN G.tasks L pl i room wk T (t + n) = true ∧ a.tmps.size = 110 ∧ a.tmps[2]? = some (.int .u16 (pl : Int)) ∧ a.tmps[3]? = some (.int .i64 xi) ∧ a.tmps[4]? = some (.slice A2 room.length c2) ∧ a.tmps[5]? = some (.int .i64 wk) ∧ a.tmps[6]? = some (.pointer (some ⟨w.heap.size, 0, none⟩)) ∧ a.tmps[7]? = some (.pointer (some ⟨w.heap.size + 1, 0, none⟩)) ∧ a.tmps[13]? = some (.pointer (some ⟨w.heap.size + 1 + 1, 0, none⟩)) ∧ a.tmps[15]? = some v15 ∧ a.tmps[16]? = some v16 ∧ (∃ hi, Marks w.heap.size hi W a.defers ∧ w.heap.size ≤ hi ∧ hi ≤ W.heap.size) ∧ ES w b A1 L.length c1 W (t : Int)) F
   ⟨a0, 400, _, _, by omega, by omega, HRES.out, HFR.out, rfl, rfl, rfl, rfl, rfl, rfl, rfl, rfl, rfl, rfl, ⟨_, hm, E5.below.size, Nat.le_refl _⟩, E5⟩ ?_
  clear hm E5 hsz HRES HFR ha0
  rintro n ⟨tmps, ds⟩ W ⟨t, f, v15, v16, hnf, htn, hR, hfr, hsz, h2, h3, h4, h5, h6, h7, h13, h15, h16, ⟨hi1, hM, hlo, hhi⟩, hE⟩ J K hJ hK
  obtain ⟨fr, rfl⟩ := eframe_lit hsz h2 h3 h4 h5 h6 h7 h13 h15 h16
  clear hsz h2 h3 h4 h5 h6 h7 h13 h15 h16
  unfold eframe
  generalize hti : ((t : Nat) : Int) = tI at hE
  have hca := hE.at_.cell
  have HE := Aside0.mk hE
  have HM := Aside0.mk hM
  have HTI := Aside0.mk hti
  have HR := Aside0.mk hR
  have HFR := Aside0.mk hfr
  clear hE hM hti hR hfr
  go_wp2
  have nb := Boxed.new W 3 (.int .i64 tI)
  have EA := HE.out.alloc (.cells #[.int .i64 tI] 3)
  have MA := HM.out.below ((Below.refl W.heap.size W).alloc (Nat.le_refl _) (.cells #[.int .i64 tI] 3))
  have oA : (W.alloc (.cells #[.int .i64 tI] 3)).heap.size = W.heap.size + 1 := by simp
  have hWs := HE.out.size
  clear hca
  revert nb EA MA oA
  generalize W.alloc (.cells #[.int .i64 tI] 3) = Wa
  intro nb EA MA oA
  rw [← HTI.out] at nb
  refine wp_loop_ghost_k (fun d a W' => ∃ (now pn : Nat) (go : Bool), (go = true → now + d = t + T ∧ freeN G.tasks L pl i room wk T t = freeN G.tasks L pl i room wk d now) ∧ (go = false → freeN G.tasks L pl i room wk T t = false) ∧ now ≤ 560 ∧ w.heap.size + 1 + 1 < pn ∧ Boxed W' pn 3 (.int .i64 (now : Int)) ∧ a.tmps.size = 110 ∧ a.tmps[2]? = some (.int .u16 (pl : Int)) ∧ a.tmps[3]? = some (.int .i64 xi) ∧ a.tmps[4]? = some (.slice A2 room.length c2) ∧ a.tmps[5]? = some (.int .i64 wk) ∧ a.tmps[6]? = some (.pointer (some ⟨w.heap.size, 0, none⟩)) ∧ a.tmps[7]? = some (.pointer (some ⟨w.heap.size + 1, 0, none⟩)) ∧ a.tmps[13]? = some (.pointer (some ⟨w.heap.size + 1 + 1, 0, none⟩)) ∧ a.tmps[15]? = some (.bool go) ∧ a.tmps[16]? = some (.pointer (some ⟨pn, 0, none⟩)) ∧ (∃ hi, Marks w.heap.size hi W' a.defers ∧ w.heap.size ≤ hi ∧ hi ≤ W'.heap.size) ∧ ES w b A1 L.length c1 W' tI) T
   ⟨t, W.heap.size, true, (fun _ => ⟨rfl, rfl⟩), (fun e => by cases e), by omega, hWs, nb, rfl, rfl, rfl, rfl, rfl, rfl, rfl, rfl, rfl, rfl, ⟨hi1, MA, hlo, by omega⟩, EA⟩ ?_
  clear nb EA MA oA HM HE hWs hhi hlo
  rintro d ⟨tmps, ds⟩ W' ⟨now, pn, go, hgo, hng, hnow, hpn, hnb, hsz, h2, h3, h4, h5, h6, h7, h13, h15, h16, ⟨hi2, hM, hlo, hhi⟩, hE⟩ J2 K2 hJ2 hK2
  obtain ⟨fr2, rfl⟩ := eframe_lit hsz h2 h3 h4 h5 h6 h7 h13 h15 h16
  clear hsz h2 h3 h4 h5 h6 h7 h13 h15 h16
  unfold eframe
  have HE := Aside0.mk hE
  have HM := Aside0.mk hM
  have HNB := Aside0.mk hnb
  have HGO := Aside0.mk hgo
  have HNG := Aside0.mk hng
  clear hE hM hnb hgo hng
  go_wp2
  refine wp_region_still_tail 14 rfl (by kernel_rfl) ?_
  change wpStill _ _ W'.drew (fun a' => wpList _ _ _ _ a' W'.drew) _ _
  have hdr : Below W'.heap.size W' W'.drew := below_drew (Below.refl _ _)
  revert hdr
  generalize W'.drew = Wd
  intro hdr
  have E2 := Aside0.mk (HE.out.move hdr)
  have M2 := Aside0.mk (HM.out.below hdr)
  have N2 := Aside0.mk (show Boxed Wd pn 3 (.int .i64 (now : Int)) from (hdr.block _ HNB.out.lt).trans HNB.out)
  clear HE HM HNB
  by_cases hgo2 : go = false
  ·have hgf : (some go == some true) = false := by rw [hgo2]; rfl
   have HG2 := Aside0.mk hgo2
   have HF1 := Aside0.mk (HNG.out hgo2)
   clear hgo2 HNG HGO
   simp only [List.take_succ_cons, List.take_zero, List.drop_succ_cons, List.drop_zero]
   still_step
   still_step
   repeat (refine wpStill_skip hgf ?_; simp only [Act.put, List.setIfInBounds_toArray, List.set_cons_zero, List.set_cons_succ])
   refine wpStill_nil ?_
   obtain rfl := HG2.out
   have hca := E2.out.at_.cell
   have hfa := E2.out.at_.frozen
   go_wp2
   have hf1 := HF1.out
   have hfr := HFR.out
   have hRr := HR.out
   cases n with
   | zero => rw [Nat.add_zero, hf1] at hfr; cases hfr
   | succ m =>
    obtain ⟨f', rfl⟩ : ∃ f', f = f' + 1 := ⟨f - 1, by omega⟩
    have hstep : RES = earlN G.tasks L pl i room wk f' (t + 1) := by
     rw [hRr]
     show (if freeN G.tasks L pl i room wk (tmN G.tasks i) t = true then t else earlN G.tasks L pl i room wk f' (t + 1)) = _
     rw [HTT.out, hf1, if_neg Bool.false_ne_true]
    have hw : wrap64 (tI + 1) = ((t + 1 : Nat) : Int) := by rw [← HTI.out, w64 (by omega) (by omega)]; omega
    rw [hw]
    have hgr := grownBy_setCell' Wd (w.heap.size + 1 + 1) (.int .i64 ((t + 1 : Nat) : Int))
    refine ⟨m, by omega, hJ _ _ _ ⟨t + 1, f', _, _, by omega, by omega, hstep, by rw [show t + 1 + m = t + (m + 1) by omega]; exact hfr, rfl, rfl, rfl, rfl, rfl, rfl, rfl, rfl, rfl, rfl, ⟨hi2, M2.out.grow hgr (fun k hk => ⟨_, _, by cases hk; exact E2.out.at_⟩), hlo, ?_⟩, E2.out.set _⟩⟩
    exact Nat.le_trans hhi (Nat.le_trans hdr.size hgr.size)
  ·have hgt : go = true := by
    cases go
    ·exact absurd rfl hgo2
    ·rfl
   have hgw : (some go == some true) = true := by rw [hgt]; rfl
   obtain ⟨hnd, hfq⟩ := HGO.out hgt
   have HG2 := Aside0.mk hgt
   have hcn := N2.out.cell
   have hca := E2.out.at_.cell
   have hcx := E2.out.x.cell
   obtain ⟨A, c, hc0, hcl, hC⟩ := (HG.out.move E2.out.below).tasks
   have hxi := HX.out
   have p0 : 0 ≤ xi := by omega
   have q0 : xi < (G.tasks.length : Int) := by omega
   obtain ⟨ad, At, ct, e0, h0, h1, h2, h3_, h4, h5⟩ := at_T38 hC xi p0 q0
   subst e0
   have hrd : rd_T38 G.tasks xi = G.tasks.getD i z38 := by rw [hxi]; simp [rd_T38]
   rw [hrd, HT1.out.1] at h0
   have hadd := (wadd (a := t) (b := T) (by omega) (by have := HT1.out.2.2; omega)).2
   rw [HTI.out] at hadd
   have hdd : decide (((now : Nat) : Int) < ((t + T : Nat) : Int)) = decide (d ≠ 0) := by rw [Bool.eq_iff_iff, decide_eq_true_eq, decide_eq_true_eq]; omega
   generalize ((T : Nat) : Int) = TI at h0 hadd
   generalize ((t + T : Nat) : Int) = sI at hadd hdd
   generalize hnI : ((now : Nat) : Int) = nI at hcn hdd
   obtain ⟨bd, hbd⟩ : ∃ bd, decide (d ≠ 0) = bd := ⟨_, rfl⟩
   rw [hbd] at hdd
   have HBD := Aside0.mk hbd
   have HNI := Aside0.mk hnI
   have HND := Aside0.mk hnd
   have HFQ := Aside0.mk hfq
   replace p0 := eq_true p0
   replace q0 := eq_true q0
   clear hgo2 hgt hxi hC hcl hrd h1 h2 h3_ h4 h5 hbd hnI hnd hfq
   simp only [List.take_succ_cons, List.take_zero, List.drop_succ_cons, List.drop_zero]
   still_step
   still_step
   repeat (refine wpStill_want hgw (fun K hK => ?_); go_simp; refine hK _ ?_; clear hK K)
   refine wpStill_nil ?_
   obtain rfl := HG2.out
   clear hgw
   cases bd with
   | false =>
    have hd0 : d = 0 := by have := of_decide_eq_false HBD.out; omega
    go_wp2
    refine leave_ret M2.out (fun W => results_tmp rfl _ _ _) ?_
    intro W'' ht
    refine ⟨?_, ht.below E2.out.below (Nat.le_refl _) (Nat.le_refl _)⟩
    have hfq := HFQ.out
    rw [hd0] at hfq
    have hft : freeN G.tasks L pl i room wk T t = true := hfq
    have hRr := HR.out
    have : RES = t := by
     rw [hRr]
     cases f with
     | zero => rfl
     | succ f =>
      show (if freeN G.tasks L pl i room wk (tmN G.tasks i) t = true then t else earlN G.tasks L pl i room wk f (t + 1)) = _
      rw [HTT.out, hft, if_pos rfl]
    rw [this, HTI.out]
    rfl
   | true =>
    obtain ⟨d', rfl⟩ : ∃ d', d = d' + 1 := ⟨d - 1, by have := of_decide_eq_true HBD.out; omega⟩
    clear HBD HGO HNG
    go_wp2_with (go_at_call 43; refine (all_calls pl _).mono ?_; rintro e w' ⟨rfl, rfl⟩)
    clear hcn hca hcx hc0 h0 hadd hdd p0 q0
    have hpnl := N2.out.lt
    have EB := E2.out.alloc (.cells #[.int .i64 0, .int .i64 0, .int .i64 0, .int .i64 0] 75)
    have MB := M2.out.below ((Below.refl Wd.heap.size Wd).alloc (Nat.le_refl _) (.cells #[.int .i64 0, .int .i64 0, .int .i64 0, .int .i64 0] 75))
    have NB := N2.out.alloc (.cells #[.int .i64 0, .int .i64 0, .int .i64 0, .int .i64 0] 75)
    have CB : IsCn (Wd.alloc (.cells #[.int .i64 0, .int .i64 0, .int .i64 0, .int .i64 0] 75)) Wd.heap.size Cn.zero := cells_new Wd _
    have oB : (Wd.alloc (.cells #[.int .i64 0, .int .i64 0, .int .i64 0, .int .i64 0] 75)).heap.size = Wd.heap.size + 1 := by simp
    have hhd := hdr.size
    clear E2 M2 N2
    revert EB MB NB CB oB
    generalize Wd.alloc (.cells #[.int .i64 0, .int .i64 0, .int .i64 0, .int .i64 0] 75) = WB
    intro EB MB NB CB oB
    have sC := Boxed.new WB 50 (.int .u16 (pl : Int))
    rw [oB] at sC
    have EC := EB.alloc (.cells #[.int .u16 (pl : Int)] 50)
    have MC := MB.below ((Below.refl WB.heap.size WB).alloc (Nat.le_refl _) (.cells #[.int .u16 (pl : Int)] 50))
    have NC := NB.alloc (.cells #[.int .u16 (pl : Int)] 50)
    have CC : IsCn (WB.alloc (.cells #[.int .u16 (pl : Int)] 50)) Wd.heap.size Cn.zero := cells_alloc CB _
    have oC : (WB.alloc (.cells #[.int .u16 (pl : Int)] 50)).heap.size = Wd.heap.size + 1 + 1 := by simp [oB]
    clear EB MB NB CB oB
    revert sC EC MC NC CC oC
    generalize WB.alloc (.cells #[.int .u16 (pl : Int)] 50) = WC
    intro sC EC MC NC CC oC
    obtain ⟨pc, hpc⟩ : ∃ pc, pc = Wd.heap.size := ⟨_, rfl⟩
    rw [← hpc] at sC CC oC ⊢
    have hpcn : pn < pc ∧ w.heap.size + 1 + 1 < pc := ⟨by omega, by have := EC.size; omega⟩
    have hb1 : w.heap.size ≤ WC.heap.size := EC.below.size
    have hb2 : hi2 ≤ WC.heap.size := by omega
    have hb3 : hi2 ≤ pc := by omega
    have HPC := Aside0.mk hpc
    clear hpc
    refine wp_rangeSet Tab.tame (w := WC) (w0 := WC) (p := 65) (d := 18) rfl (enters_of Tryd.func58 (by kernel_rfl) rfl)
     (all_seq (pc + 1) pl (Nat.lt_of_lt_of_le hpl h256) WC (HT.out.of EC.below) sC.cell) (Below.refl _ _) (by simp)
     (fun ys W'' => ∃ zs : List Nat, ys = up zs ∧ IsCn W'' pc (zs.foldl (cntStep G.tasks L now) Cn.zero) ∧ Boxed W'' pn 3 (.int .i64 (now : Int)) ∧ Marks w.heap.size hi2 W'' ds ∧ ES w b A1 L.length c1 W'' tI ∧ WC.heap.size ≤ W''.heap.size) (fun _ _ _ => False)
     (ownFrom_tame (fun ys W1 W2 ht ⟨zs, z, a, e, m, g, f⟩ => ⟨zs, z, a.tame ht, ht.boxed e, m.tame ht hb2, g.tame hb1 ht, Nat.le_trans f ht.size⟩)) (fun _ => ownFrom_tame (fun _ _ _ _ h => h))
     ⟨[], rfl, CC, NC, MC, EC, Nat.le_refl _⟩ (fun ys W'' ⟨_, _, _, _, _, e, _⟩ => HT.out.of e.below) ?body2 ?done2 (fun _ _ _ _ _ h _ => h.elim)
    case body2 =>
     rintro l pre1 x W1 hx ⟨zs, rfl, C1, N1, M1, E1, hsz1⟩ hlt1
     gi_wp2
     obtain ⟨k0, hxk, hk8, _⟩ := mem_elems.1 hx
     have hkn : k0 < G.tasks.length := by have := elems_lt hpl hx; omega
     have hstep : (zs ++ [k0]).foldl (cntStep G.tasks L now) Cn.zero = cntStep G.tasks L now (zs.foldl (cntStep G.tasks L now) Cn.zero) k0 := by rw [List.foldl_append]; rfl
     generalize zs.foldl (cntStep G.tasks L now) Cn.zero = cc at C1 hstep
     refine wpIn_still_tail 22 rfl (by kernel_rfl) (by kernel_rfl) (fun ⟨_, _, h⟩ => h) ?_
     change wpStill _ _ W1.drew (fun a' => wpList _ _ _ _ a' W1.drew) _ _
     have hdr2 : Below W1.heap.size W1 W1.drew := below_drew (Below.refl _ _)
     have hko := KeepsOthers.drew W1
     revert hdr2 hko
     generalize W1.drew = W3_
     intro hdr2 hko
     have E3 := E1.move hdr2
     have N3 : Boxed W3_ pn 3 (.int .i64 (now : Int)) := (hdr2.block _ N1.lt).trans N1
     have C3 := C1.move hdr2
     have M3 := M1.below hdr2
     have hsz3 := Nat.le_trans hsz1 hdr2.size
     have hcs := E3.st.cell
     have hcx := E3.x.cell
     have hcn := N3.cell
     obtain ⟨A, c, hc0, hcl, hC⟩ := (HG.out.move E3.below).tasks
     have p0 : 0 ≤ x := by omega
     have q0 : x < (G.tasks.length : Int) := by omega
     obtain ⟨ad, At, ct, e0, h0, h1, h2, h3_, h4, h5⟩ := at_T38 hC x p0 q0
     subst e0
     have hrd : rd_T38 G.tasks x = G.tasks.getD k0 z38 := by rw [hxk]; simp [rd_T38]
     rw [hrd] at h0 h1 h2 h3_ h4 h5
     have htm := tm_int HTK.out hkn
     have hpo := HPO.out _ (show G.tasks.getD k0 z38 ∈ G.tasks by rw [List.getD_eq_getElem?_getD, List.getElem?_eq_getElem hkn]; exact List.getElem_mem hkn)
     have q1 : x < (L.length : Int) := by have := HLL.out; omega
     obtain ⟨ads, e1, hxs⟩ := Kd.at_int (Kd.C_below HC1.out E3.below) x p0 (by rw [up_length]; omega)
     subst e1
     rw [rd_up (i := k0) hxk] at hxs
     have hsl := HLB.out k0
     have hadd := (wadd (a := L.getD k0 0) (b := tmN G.tasks k0) (by omega) (by omega)).2
     have hcs0 : cstep G.tasks cc k0 = cc.add (G.tasks.getD k0 z38).f2 (G.tasks.getD k0 z38).f3 1 := rfl
     have hrun : runsAt G.tasks L now k0 = (decide (((L.getD k0 0 : Nat) : Int) ≤ ((now : Nat) : Int)) && decide (((now : Nat) : Int) < ((L.getD k0 0 + tmN G.tasks k0 : Nat) : Int))) := by
      unfold runsAt endN
      congr 1
      ·rw [Bool.eq_iff_iff, decide_eq_true_eq, decide_eq_true_eq]; omega
      ·rw [Bool.eq_iff_iff, decide_eq_true_eq, decide_eq_true_eq]; omega
     have hf0 := htm.1
     generalize G.tasks.getD k0 z38 = tk at h0 h1 h2 h3_ h4 h5 hpo hcs0 hf0
     rw [hf0] at h0
     generalize ((L.getD k0 0 + tmN G.tasks k0 : Nat) : Int) = eI at hadd hrun
     generalize ((L.getD k0 0 : Nat) : Int) = sI at hxs hadd hrun
     generalize ((tmN G.tasks k0 : Nat) : Int) = TI at h0 hadd hf0
     generalize hnI : ((now : Nat) : Int) = nI at hcn hrun
     obtain ⟨q, hq⟩ : ∃ q, decide (sI ≤ nI) = q := ⟨_, rfl⟩
     obtain ⟨b2, hb2_⟩ : ∃ b2, decide (nI < eI) = b2 := ⟨_, rfl⟩
     rw [hq, hb2_] at hrun
     have HXK := Aside0.mk hxk
     have HST := Aside0.mk hstep
     have HRUN := Aside0.mk hrun
     have HCS := Aside0.mk hcs0
     have HPP := Aside0.mk hpo
     have HF0 := Aside0.mk hf0
     have HE3 := Aside0.mk E3
     have HN3 := Aside0.mk N3
     have HC3 := Aside0.mk C3
     have HM3 := Aside0.mk M3
     have HKO := Aside0.mk hko
     replace p0 := eq_true p0
     replace q0 := eq_true q0
     replace q1 := eq_true q1
     clear hxk hx hkn hstep hrun hcs0 hpo hf0 E3 N3 C3 M3 hko E1 N1 C1 M1 hsl htm hrd hC hcl hlt1 hnI sC EC MC NC CC oC
     simp only [List.take_succ_cons, List.take_zero, List.drop_succ_cons, List.drop_zero]
     by_cases hq0 : q = false
     ·have hqf : (some q == some true) = false := by rw [hq0]; rfl
      have HQ := Aside0.mk hq0
      clear hq0
      iterate 7 still_step
      repeat (refine wpStill_skip hqf ?_; simp only [Act.put, List.setIfInBounds_toArray, List.set_cons_zero, List.set_cons_succ])
      refine wpStill_nil ?_
      obtain rfl := HQ.out
      clear hqf
      go_wp2
      gi_wp2
      refine ⟨HKO.out.from _, zs ++ [k0], ?_, ?_, HN3.out, HM3.out, HE3.out, hsz3⟩
      ·rw [HXK.out]; simp [up]
      ·rw [HST.out]
       unfold cntStep
       rw [HRUN.out, Bool.false_and, if_neg Bool.false_ne_true]
       exact HC3.out
     ·have hqt : q = true := by
       cases q
       ·exact absurd rfl hq0
       ·rfl
      have hqw : (some q == some true) = true := by rw [hqt]; rfl
      have HQ := Aside0.mk hqt
      clear hq0 hqt
      iterate 7 still_step
      repeat (refine wpStill_want hqw (fun K hK => ?_); go_simp; refine hK _ ?_; clear hK K)
      refine wpStill_nil ?_
      obtain rfl := HQ.out
      clear hqw
      cases b2 with
      | false =>
       go_wp2
       gi_wp2
       refine ⟨HKO.out.from _, zs ++ [k0], ?_, ?_, HN3.out, HM3.out, HE3.out, hsz3⟩
       ·rw [HXK.out]; simp [up]
       ·rw [HST.out]
        unfold cntStep
        rw [HRUN.out, Bool.and_false, if_neg Bool.false_ne_true]
        exact HC3.out
      | true =>
       go_wp2
       gi_wp2
       refine CallsIn.inRound _ (callsIn_wide.2 ?_)
       have hp012 : tk.f2 = 0 ∨ tk.f2 = 1 ∨ tk.f2 = 2 := by have := HPP.out; omega
       have hadd2 := add_calls pc cc tk.f0 tk.f2 tk.f3 1 At tk.f1.length ct W3_ HC3.out hp012
       rw [HF0.out] at hadd2
       refine hadd2.mono ?_
       rintro e w'' ⟨rfl, hgr, hcn'⟩
       clear hadd2
       gi_wp2
       refine ⟨(HKO.out.trans (KeepsOthers.of_grownBy hgr (fun j o e hj => by injection e with e; subst e; rw [show W3_.heap[pc]? = _ from HC3.out] at hj; cases hj; rfl))).from _, zs ++ [k0], ?_, ?_, ?_, ?_, ?_, ?_⟩
       ·rw [HXK.out]; simp [up]
       ·rw [HST.out]
        unfold cntStep
        rw [HRUN.out, Bool.and_self, if_pos rfl, HCS.out]
        exact hcn'
       ·exact HN3.out.kept hgr (fun e => by injection e with e; omega)
       ·exact HM3.out.grow hgr (fun k hk => ⟨_, _, by cases hk; exact HC3.out⟩)
       ·exact HE3.out.grow hgr hpcn.2
       ·exact Nat.le_trans hsz3 hgr.size
    case done2 =>
     rintro D2 W2 hD2 ⟨zs, hzs, C1, N1, M1, E1, hsz1⟩ hk2
     obtain rfl : elemsN pl = zs := up_inj hzs
     have M4 := M1.cons (Nat.le_trans hb2 hD2) hlo hk2
     clear hzs hk2 M1 sC EC MC NC CC oC
     have hcc : (elemsN pl).foldl (cntStep G.tasks L now) Cn.zero = cntOf G.tasks L pl now := rfl
     rw [hcc] at C1
     have hcx := E1.x.cell
     obtain ⟨A, c, hc0, hcl, hC⟩ := (HG.out.move E1.below).tasks
     have hxi := HX.out
     have p0 : 0 ≤ xi := by omega
     have q0 : xi < (G.tasks.length : Int) := by omega
     obtain ⟨ad, At, ct, e0, h0, h1, h2, h3_, h4, h5⟩ := at_T38 hC xi p0 q0
     subst e0
     have hrd : rd_T38 G.tasks xi = G.tasks.getD i z38 := by rw [hxi]; simp [rd_T38]
     rw [hrd] at h0 h1 h2 h3_ h4 h5
     have hpo := HPO.out _ (show G.tasks.getD i z38 ∈ G.tasks by rw [List.getD_eq_getElem?_getD, List.getElem?_eq_getElem hi]; exact List.getElem_mem hi)
     have hfb : freeB G.tasks L pl i room wk now = takesB (cntOf G.tasks L pl now) (G.tasks.getD i z38).f2 (G.tasks.getD i z38).f3 room wk := rfl
     generalize G.tasks.getD i z38 = tk at h0 h1 h2 h3_ h4 h5 hpo hfb
     generalize cntOf G.tasks L pl now = cc at C1 hfb
     have htakes := takes_calls pc cc tk.f0 tk.f2 tk.f3 At tk.f1.length ct A2 c2 room wk W2 C1 (by omega) H3.out (Kd.C_below HC2.out E1.below) hc2
     rw [← hfb] at htakes
     obtain ⟨fb, hfbe⟩ : ∃ fb, fb = freeB G.tasks L pl i room wk now := ⟨_, rfl⟩
     rw [← hfbe] at htakes hfb
     have HFBE := Aside0.mk hfbe
     clear hfbe
     have HTK2 := Aside0.mk htakes
     have HE4 := Aside0.mk E1
     have HN4 := Aside0.mk N1
     have HC4 := Aside0.mk C1
     have HM4 := Aside0.mk M4
     have HFB := Aside0.mk hfb
     replace p0 := eq_true p0
     replace q0 := eq_true q0
     clear htakes E1 N1 C1 M4 hfb hxi hcl hC hrd hpo hcc
     go_wp2_with (go_at_call 45; refine HTK2.out.mono ?_; rintro e w' ⟨rfl, hgr, hcn'⟩; clear hcx hc0 h0 h1 h2 h3_ h4 h5 p0 q0 hcn'; have HGR := Aside0.mk hgr; have hcn := (HN4.out.kept hgr (fun e => by injection e with e; omega)).cell; clear hgr)
     rw [show ((now : Nat) : Int) + 1 = ((now + 1 : Nat) : Int) by omega]
     have hgr := HGR.out
     have hs1 := hgr.size
     have E5 := (HE4.out.grow hgr hpcn.2).alloc (.cells #[.int .i64 ((now + 1 : Nat) : Int)] 3)
     have M5 := (HM4.out.grow hgr (fun k hk => ⟨_, _, by cases hk; exact HC4.out⟩)).below ((Below.refl w'.heap.size w').alloc (Nat.le_refl _) (.cells #[.int .i64 ((now + 1 : Nat) : Int)] 3))
     have N5 := Boxed.new w' 3 (.int .i64 ((now + 1 : Nat) : Int))
     have hz5 : (w'.alloc (.cells #[.int .i64 ((now + 1 : Nat) : Int)] 3)).heap.size = w'.heap.size + 1 := by simp
     have hz6 := (HE4.out.grow hgr hpcn.2).size
     have hnd := HND.out
     have hT20 := HT1.out.2.2
     have hfq : freeN G.tasks L pl i room wk T t = (freeB G.tasks L pl i room wk now && freeN G.tasks L pl i room wk d' (now + 1)) := HFQ.out
     have hfb2 : fb = freeB G.tasks L pl i room wk now := HFBE.out
     rw [← hfb2] at hfq
     refine ⟨d', by omega, hJ2 _ _ _ ⟨now + 1, w'.heap.size, fb, (fun e => ⟨by omega, by rw [hfq, e, Bool.true_and]⟩), (fun e => by rw [hfq, e, Bool.false_and]), by omega, by omega, N5, rfl, rfl, rfl, rfl, rfl, rfl, rfl, rfl, rfl, rfl, ⟨_, M5, by omega, by omega⟩, E5⟩⟩
end Go.Proofs.YtnhkajanbfgbiaaDoor.Core
end
section
set_option linter.unusedVariables false
set_option linter.unusedSimpArgs false
namespace Go.Proofs.YtnhkajanbfgbiaaDoor.Core
open Go Go.RowKit Go.Shelf Go.Proofs.YtnhkajanbfgbiaaDoorW.PrintWords Go.Proofs.YtnhkajanbfgbiaaDoorW.PrintLast Go.Proofs.YtnhkajanbfgbiaaDoorW.PrintMore Go.Proofs.YtnhkajanbfgbiaaDoor.P
attribute [local go_sem] Oper.semAt_some wide_fn wide_depth
/-- The graph for valid pools and workers. -/
def placeD (g : List Tk) (room : List Int) (wk : Int) : Option GD := match graphD g with
 | none => none
 | some G => if roomOk room ∧ 1 ≤ wk ∧ wk ≤ 4 then some G else none
def fewD (g : List Tk) (room : List Int) (wk : Int) : Option GD := if (g.length : Int) > 5 then none else placeD g room wk
theorem placeD_some {g : List Tk} {room : List Int} {wk : Int} {G : GD} (h : placeD g room wk = some G) : graphD g = some G ∧ roomOk room ∧ 1 ≤ wk ∧ wk ≤ 4 := by
 unfold placeD at h
 cases hG : graphD g with
 | none => rw [hG] at h; cases h
 | some G' =>
  rw [hG] at h
  simp only [] at h
  by_cases hc : roomOk room ∧ 1 ≤ wk ∧ wk ≤ 4
  ·rw [if_pos hc] at h
   exact ⟨h, hc⟩
  ·rw [if_neg hc] at h; cases h
theorem fewD_some {g : List Tk} {room : List Int} {wk : Int} {G : GD} (h : fewD g room wk = some G) : g.length ≤ 5 ∧ placeD g room wk = some G := by
 unfold fewD at h
 by_cases hc : (g.length : Int) > 5
 ·rw [if_pos hc] at h; cases h
 ·rw [if_neg hc] at h; exact ⟨by omega, h⟩
set_option maxHeartbeats 1000000 in
theorem workersV_is (a : Int) (t : Bool) (w : World) (h : decide (1 ≤ a ∧ a ≤ 4) = t) :
  Calls Tryd.prog 57 #[.int .i64 a] w fun e w' => e = .returned (.bool t) ∧ Below w.heap.size w w' := by
 have HW := Aside0.mk (within_is a 1 4 t w h)
 clear h
 go_enter Tryd.func57, Tryd.ntmps57
 go_wp2_with (go_at_call 24; refine HW.out.mono ?_; rintro e w2 ⟨rfl, hB2⟩)
 go_ret
 exact ⟨rfl, hB2⟩
set_option maxRecDepth 100000 in
set_option maxHeartbeats 2000000 in
theorem placeIn_none (A0 : Option Addr) (c0 : Nat) (l0 : List Tk) (A1 : Option Addr) (c1 : Nat) (l1 : List Int) (wk : Int) (w : World) (hT : Tab w) (hr0 : k38.C w A0 l0.length l0) (hc0 : l0.length ≤ c0) (hr1 : (Kd.int .i64).C w A1 l1.length l1) (hc1 : l1.length ≤ c1) (h : placeD l0 l1 wk = none) :
  Calls Tryd.prog 42 #[.slice A0 l0.length c0, .slice A1 l1.length c1, .int .i64 wk] w fun e w' => e = .returned (.tuple #[.pointer none, .bool false]) ∧ Below w.heap.size w w' := by
 unfold placeD at h
 cases hG : graphD l0 with
 | none =>
  have HG := Aside0.mk (graphOf_none A0 c0 l0 w hT hr0 hc0 hG)
  clear hr0 hr1 hT hG h
  go_enter Tryd.func42, Tryd.ntmps42
  go_wp2_with (go_at_call 55; refine HG.out.mono ?_; rintro e w1 ⟨rfl, hB⟩; have HB := Aside0.mk hB; clear hB)
  refine bodyPost_ret (results_list (rs := [.tmp 6, .tmp 7]) rfl (by simp) (.tmp (.tmp .nil))) rfl ?_
  exact ⟨rfl, HB.out⟩
 | some G =>
  rw [hG] at h
  simp only [] at h
  have hn : ¬ (roomOk l1 ∧ 1 ≤ wk ∧ wk ≤ 4) := fun hc => by rw [if_pos hc] at h; cases h
  have HG := Aside0.mk (graphOf_some A0 c0 l0 G w hT hr0 hc0 hG)
  have HR1 := Aside0.mk hr1
  have HC1 := Aside0.mk hc1
  clear h hG hr0 hr1 hT hc0 hc1
  by_cases hroom : roomOk l1
  ·have HWK : Aside0 (decide (1 ≤ wk ∧ wk ≤ 4) = false) := ⟨decide_eq_false (fun h => hn ⟨hroom, h⟩)⟩
   have HRM := Aside0.mk (show decide (roomOk l1) = true from decide_eq_true hroom)
   clear hn hroom
   go_enter Tryd.func42, Tryd.ntmps42
   go_wp2_with (first
    | (go_at_call 55; refine HG.out.mono ?_; rintro e w1 ⟨b, rfl, hB, hgr⟩; have HB := Aside0.mk hB; clear hB hgr)
    | (go_at_call 56; refine (room_is A1 c1 l1 true _ (Kd.C_below HR1.out HB.out) HC1.out HRM.out).mono ?_; rintro e w2 ⟨rfl, hB2⟩; replace HB := Aside0.mk (below_step HB.out hB2); clear hB2)
    | (go_at_call 57; refine (workersV_is wk false _ HWK.out).mono ?_; rintro e w3 ⟨rfl, hB2⟩; replace HB := Aside0.mk (below_step HB.out hB2); clear hB2))
   refine bodyPost_ret (results_list (rs := [.tmp 6, .tmp 7]) rfl (by simp) (.tmp (.tmp .nil))) rfl ?_
   exact ⟨rfl, HB.out⟩
  ·have HRM := Aside0.mk (show decide (roomOk l1) = false from decide_eq_false hroom)
   clear hn hroom
   go_enter Tryd.func42, Tryd.ntmps42
   go_wp2_with (first
    | (go_at_call 55; refine HG.out.mono ?_; rintro e w1 ⟨b, rfl, hB, hgr⟩; have HB := Aside0.mk hB; clear hB hgr)
    | (go_at_call 56; refine (room_is A1 c1 l1 false _ (Kd.C_below HR1.out HB.out) HC1.out HRM.out).mono ?_; rintro e w2 ⟨rfl, hB2⟩; replace HB := Aside0.mk (below_step HB.out hB2); clear hB2))
   refine bodyPost_ret (results_list (rs := [.tmp 6, .tmp 7]) rfl (by simp) (.tmp (.tmp .nil))) rfl ?_
   exact ⟨rfl, HB.out⟩
set_option maxRecDepth 100000 in
set_option maxHeartbeats 2000000 in
theorem placeIn_some (A0 : Option Addr) (c0 : Nat) (l0 : List Tk) (A1 : Option Addr) (c1 : Nat) (l1 : List Int) (wk : Int) (G : GD) (w : World) (hT : Tab w) (hr0 : k38.C w A0 l0.length l0) (hc0 : l0.length ≤ c0) (hr1 : (Kd.int .i64).C w A1 l1.length l1) (hc1 : l1.length ≤ c1) (h : placeD l0 l1 wk = some G) :
  Calls Tryd.prog 42 #[.slice A0 l0.length c0, .slice A1 l1.length c1, .int .i64 wk] w fun e w' => ∃ b : Nat, e = .returned (.tuple #[.pointer (some ⟨b, 0, none⟩), .bool true]) ∧ Below w.heap.size w w' ∧ IsG w' b G := by
 obtain ⟨hG, hroom, hwk⟩ := placeD_some h
 have HG := Aside0.mk (graphOf_some A0 c0 l0 G w hT hr0 hc0 hG)
 have HR1 := Aside0.mk hr1
 have HC1 := Aside0.mk hc1
 have HWK : Aside0 (decide (1 ≤ wk ∧ wk ≤ 4) = true) := ⟨decide_eq_true hwk⟩
 have HRM := Aside0.mk (show decide (roomOk l1) = true from decide_eq_true hroom)
 clear h hG hr0 hr1 hT hc0 hc1 hroom hwk
 go_enter Tryd.func42, Tryd.ntmps42
 go_wp2_with (first
  | (go_at_call 55; refine HG.out.mono ?_; rintro e w1 ⟨b, rfl, hB, hgr⟩; have HB := Aside0.mk hB; have HI := Aside0.mk hgr; clear hB hgr)
  | (go_at_call 56; refine (room_is A1 c1 l1 true _ (Kd.C_below HR1.out HB.out) HC1.out HRM.out).mono ?_; rintro e w2 ⟨rfl, hB2⟩; replace HB := Aside0.mk (below_step HB.out hB2); replace HI := Aside0.mk (HI.out.move hB2); clear hB2)
  | (go_at_call 57; refine (workersV_is wk true _ HWK.out).mono ?_; rintro e w3 ⟨rfl, hB2⟩; replace HB := Aside0.mk (below_step HB.out hB2); replace HI := Aside0.mk (HI.out.move hB2); clear hB2))
 refine bodyPost_ret (results_list (rs := [.tmp 6, .tmp 7]) rfl (by simp) (.tmp (.tmp .nil))) rfl ?_
 exact ⟨b, rfl, HB.out, HI.out⟩
set_option maxRecDepth 100000 in
set_option maxHeartbeats 2000000 in
theorem fewIn_none (A0 : Option Addr) (c0 : Nat) (l0 : List Tk) (A1 : Option Addr) (c1 : Nat) (l1 : List Int) (wk : Int) (w : World) (hT : Tab w) (hr0 : k38.C w A0 l0.length l0) (hc0 : l0.length ≤ c0) (hr1 : (Kd.int .i64).C w A1 l1.length l1) (hc1 : l1.length ≤ c1) (h : fewD l0 l1 wk = none) :
  Calls Tryd.prog 22 #[.slice A0 l0.length c0, .slice A1 l1.length c1, .int .i64 wk] w fun e w' => e = .returned (.tuple #[.pointer none, .bool false]) ∧ Below w.heap.size w w' := by
 unfold fewD at h
 by_cases hc : (l0.length : Int) > 5
 ·have hd : decide (5 < (l0.length : Int)) = true := decide_eq_true hc
  have hd2 : decide (5 < l0.length) = true := decide_eq_true (by omega)
  have HB := Aside0.mk (Below.refl w.heap.size w)
  clear hr0 hr1 hT h hc
  go_enter Tryd.func22, Tryd.ntmps22
  go_wp2
  refine bodyPost_ret (results_list (rs := [.tmp 6, .tmp 7]) rfl (by simp) (.tmp (.tmp .nil))) rfl ?_
  exact ⟨rfl, HB.out⟩
 ·rw [if_neg hc] at h
  have hd : decide (5 < (l0.length : Int)) = false := decide_eq_false hc
  have hd2 : decide (5 < l0.length) = false := decide_eq_false (by omega)
  have HP := Aside0.mk (placeIn_none A0 c0 l0 A1 c1 l1 wk w hT hr0 hc0 hr1 hc1 h)
  clear hr0 hr1 hT h hc
  go_enter Tryd.func22, Tryd.ntmps22
  go_wp2_with (go_at_call 42; refine HP.out.mono ?_; rintro e w1 ⟨rfl, hB⟩; have HB := Aside0.mk hB; clear hB)
  refine bodyPost_ret (results_list (rs := [.tmp 6, .tmp 7]) rfl (by simp) (.tmp (.tmp .nil))) rfl ?_
  exact ⟨rfl, HB.out⟩
set_option maxRecDepth 100000 in
set_option maxHeartbeats 2000000 in
theorem fewIn_some (A0 : Option Addr) (c0 : Nat) (l0 : List Tk) (A1 : Option Addr) (c1 : Nat) (l1 : List Int) (wk : Int) (G : GD) (w : World) (hT : Tab w) (hr0 : k38.C w A0 l0.length l0) (hc0 : l0.length ≤ c0) (hr1 : (Kd.int .i64).C w A1 l1.length l1) (hc1 : l1.length ≤ c1) (h : fewD l0 l1 wk = some G) :
  Calls Tryd.prog 22 #[.slice A0 l0.length c0, .slice A1 l1.length c1, .int .i64 wk] w fun e w' => ∃ b : Nat, e = .returned (.tuple #[.pointer (some ⟨b, 0, none⟩), .bool true]) ∧ Below w.heap.size w w' ∧ IsG w' b G := by
 obtain ⟨h5, hp⟩ := fewD_some h
 have hd : decide (5 < (l0.length : Int)) = false := decide_eq_false (by omega)
 have hd2 : decide (5 < l0.length) = false := decide_eq_false (by omega)
 have HP := Aside0.mk (placeIn_some A0 c0 l0 A1 c1 l1 wk G w hT hr0 hc0 hr1 hc1 hp)
 clear hr0 hr1 hT h hp h5
 go_enter Tryd.func22, Tryd.ntmps22
 go_wp2_with (go_at_call 42; refine HP.out.mono ?_; rintro e w1 ⟨b, rfl, hB, hgr⟩; have HB := Aside0.mk hB; have HI := Aside0.mk hgr; clear hB hgr)
 refine bodyPost_ret (results_list (rs := [.tmp 6, .tmp 7]) rfl (by simp) (.tmp (.tmp .nil))) rfl ?_
 exact ⟨b, rfl, HB.out, HI.out⟩
end Go.Proofs.YtnhkajanbfgbiaaDoor.Core
end
section
set_option linter.unusedVariables false
set_option linter.unusedSimpArgs false
namespace Go.Proofs.YtnhkajanbfgbiaaDoor.Core
open Go Go.RowKit Go.Proofs.YtnhkajanbfgbiaaDoorW.PrintWords Go.Proofs.YtnhkajanbfgbiaaDoorW.PrintMore Go.Proofs.YtnhkajanbfgbiaaDoor.P
/-- All tasks of a set are over at a time. -/
def overBy (g : List Tk) (L : List Nat) (pl B : Nat) : Prop := ∀ k, pl.testBit k = true → endN g L k ≤ B
theorem cnt_over {g : List Tk} {L : List Nat} {pl B now : Nat} (h : overBy g L pl B) (hb : B ≤ now) : cntOf g L pl now = Cn.zero := by
 unfold cntOf
 have : ∀ (ks : List Nat), (∀ k ∈ ks, endN g L k ≤ B) → ks.foldl (cntStep g L now) Cn.zero = Cn.zero := by
  intro ks
  induction ks with
  | nil => intro _; rfl
  | cons k ks ih =>
   intro hk
   have h1 := hk k List.mem_cons_self
   have : cntStep g L now Cn.zero k = Cn.zero := by
    unfold cntStep runsAt
    rw [decide_eq_false (show ¬ now < endN g L k by omega), Bool.and_false, if_neg Bool.false_ne_true]
   rw [List.foldl_cons, this]
   exact ih (fun k hk' => hk k (List.mem_cons_of_mem _ hk'))
 exact this _ (fun k hk => h k (mem_elemsN.1 hk).2)
/-- What is asked of rooms, workers and a task. -/
structure Fine (g : List Tk) (room : List Int) (wk : Int) : Prop where
 room : roomOk room
 wk : 1 ≤ wk
 pool : ∀ i, i < g.length → 0 ≤ (g.getD i z38).f2 ∧ (g.getD i z38).f2 ≤ 2
 units : ∀ i, i < g.length → 1 ≤ (g.getD i z38).f3 ∧ (g.getD i z38).f3 ≤ 4
 tm : ∀ i, i < g.length → 1 ≤ tmN g i ∧ tmN g i ≤ 20
theorem room_at {room : List Int} (h : roomOk room) {p : Int} (h0 : 0 ≤ p) (h2 : p ≤ 2) : 4 ≤ rd room p ∧ rd room p ≤ 8 := by
 have r0 := h.1
 refine h.2 _ ?_
 unfold rd
 rw [List.getD_eq_getElem?_getD, List.getElem?_eq_getElem (by omega), Option.getD_some]
 exact List.getElem_mem _
theorem zero_u (p : Int) : Cn.zero.u p = 0 := by unfold Cn.u Cn.zero; split <;> (try split) <;> rfl
theorem free_over {g : List Tk} {room : List Int} {wk : Int} (hf : Fine g room wk) {L : List Nat} {pl B i : Nat} (hi : i < g.length) (h : overBy g L pl B) : ∀ (d now : Nat), B ≤ now → freeN g L pl i room wk d now = true
 | 0, _, _ => rfl
 | d + 1, now, hb => by
  have hp := hf.pool i hi
  have hu := hf.units i hi
  have hr := room_at hf.room hp.1 hp.2
  have hw := hf.wk
  have h1 : freeB g L pl i room wk now = true := by
   unfold freeB takesB
   rw [cnt_over h hb, zero_u, w64 (by omega) (by omega), show Cn.zero.t = 0 from rfl, decide_eq_true (by omega), decide_eq_true (by omega)]
   rfl
  show (freeB g L pl i room wk now && freeN g L pl i room wk d (now + 1)) = true
  rw [h1, free_over hf hi h d (now + 1) (by omega)]
  rfl
theorem earlN_le {g : List Tk} {L : List Nat} {pl i : Nat} {room : List Int} {wk : Int} : ∀ (F f a : Nat), F ≤ f → freeN g L pl i room wk (tmN g i) (a + F) = true → earlN g L pl i room wk f a ≤ a + F ∧ a ≤ earlN g L pl i room wk f a ∧ freeN g L pl i room wk (tmN g i) (earlN g L pl i room wk f a) = true
 | 0, 0, a, _, h => ⟨Nat.le_refl _, Nat.le_refl _, h⟩
 | 0, f + 1, a, _, h => by
  have e : earlN g L pl i room wk (f + 1) a = a := by unfold earlN; rw [if_pos (show freeN g L pl i room wk (tmN g i) a = true from h)]
  rw [e]
  exact ⟨Nat.le_refl _, Nat.le_refl _, h⟩
 | F + 1, 0, a, hF, _ => by omega
 | F + 1, f + 1, a, hF, h => by
  by_cases hfr : freeN g L pl i room wk (tmN g i) a = true
  ·have e : earlN g L pl i room wk (f + 1) a = a := by unfold earlN; rw [if_pos hfr]
   rw [e]
   exact ⟨by omega, Nat.le_refl _, hfr⟩
  ·have e : earlN g L pl i room wk (f + 1) a = earlN g L pl i room wk f (a + 1) := by rw [earlN, if_neg hfr]
   rw [e]
   have := earlN_le F f (a + 1) (by omega) (by rw [show a + 1 + F = a + (F + 1) by omega]; exact h)
   exact ⟨by omega, by omega, this.2.2⟩
theorem needEnd_le {g : List Tk} {L : List Nat} {s pl B : Nat} (h : overBy g L pl B) (hs : ∀ k, s.testBit k = true → pl.testBit k = true) : needEnd g L s ≤ B := by
 have : ∀ (ks : List Nat) (a : Nat), a ≤ B → (∀ k ∈ ks, endN g L k ≤ B) → ks.foldl (eStep g L) a ≤ B := by
  intro ks
  induction ks with
  | nil => intro a h _; exact h
  | cons k ks ih =>
   intro a h hk
   rw [List.foldl_cons]
   refine ih _ ?_ (fun k hk' => hk k (List.mem_cons_of_mem _ hk'))
   have := hk k List.mem_cons_self
   unfold eStep
   omega
 exact this _ 0 (Nat.zero_le _) (fun k hk => h k (hs k (mem_elemsN.1 hk).2))
/-- The least time is no later than when all others are over. -/
theorem earlD_le {g : List Tk} {room : List Int} {wk : Int} (hf : Fine g room wk) {L : List Nat} {s pl B i : Nat} (hi : i < g.length) (h : overBy g L pl B) (hB : B ≤ 300) (hs : ∀ k, s.testBit k = true → pl.testBit k = true) : earlD g L s pl i room wk ≤ B ∧ needEnd g L s ≤ earlD g L s pl i room wk ∧ freeN g L pl i room wk (tmN g i) (earlD g L s pl i room wk) = true ∧ freeN g L pl i room wk (tmN g i) (needEnd g L s + (B - needEnd g L s)) = true := by
 have hn := needEnd_le h hs
 have hfr := free_over hf hi h (tmN g i) (needEnd g L s + (B - needEnd g L s)) (by omega)
 obtain ⟨h1, h2, h3⟩ := earlN_le (B - needEnd g L s) 400 (needEnd g L s) (by omega) hfr
 exact ⟨by unfold earlD; omega, h2, h3, hfr⟩
theorem fine_of {g : List Tk} {G : GD} (hG : graphD g = some G) {room : List Int} (hr : roomOk room) {wk : Int} (hw : 1 ≤ wk) : Fine g room wk := by
 have key : ∀ i, i < g.length → g.getD i z38 ∈ g := fun i hi => by
  rw [List.getD_eq_getElem?_getD, List.getElem?_eq_getElem hi]
  exact List.getElem_mem hi
 refine ⟨hr, hw, fun i hi => graphD_pool hG _ (by rw [graphD_tasks hG]; exact key i hi), fun i hi => ?_, fun i hi => (tm_int (fun t ht => graphD_taskOk hG t ht) hi).2⟩
 have := graphD_taskOk hG _ (key i hi)
 unfold taskOk at this
 omega
end Go.Proofs.YtnhkajanbfgbiaaDoor.Core
end
section
set_option linter.unusedVariables false
set_option linter.unusedSimpArgs false
namespace Go.Proofs.YtnhkajanbfgbiaaDoor.Core
open Go Go.RowKit Go.Proofs.YtnhkajanbfgbiaaDoorW.PrintWords Go.Proofs.YtnhkajanbfgbiaaDoorW.PrintMore Go.Proofs.YtnhkajanbfgbiaaDoor.P
theorem asc_ext : ∀ {a b : List Int}, ascD a = true → ascD b = true → (∀ x, x ∈ a ↔ x ∈ b) → a = b
 | [], [], _, _, _ => rfl
 | [], y :: b, _, _, h => by have := (h y).2 List.mem_cons_self; cases this
 | x :: a, [], _, _, h => by have := (h x).1 List.mem_cons_self; cases this
 | x :: a, y :: b, ha, hb, h => by
  have h1 := asc_lt ha
  have h2 := asc_lt hb
  have e : x = y := by
   rcases List.mem_cons.1 ((h x).1 List.mem_cons_self) with e | e
   ·exact e
   ·rcases List.mem_cons.1 ((h y).2 List.mem_cons_self) with e' | e'
    ·exact e'.symm
    ·have := h1.2 y e'
     have := h2.2 x e
     omega
  subst e
  rw [asc_ext h1.1 h2.1 (fun z => ⟨fun hz => ?_, fun hz => ?_⟩)]
  ·rcases List.mem_cons.1 ((h z).1 (List.mem_cons_of_mem _ hz)) with e | e
   ·have := h1.2 z hz; omega
   ·exact e
  ·rcases List.mem_cons.1 ((h z).2 (List.mem_cons_of_mem _ hz)) with e | e
   ·have := h2.2 z hz; omega
   ·exact e
theorem asc_filter (p : Nat → Bool) : ∀ (m i : Nat), ascD (up ((List.range' i m).filter p)) = true ∧ ∀ x ∈ up ((List.range' i m).filter p), (i : Int) ≤ x
 | 0, i => ⟨rfl, by simp [up]⟩
 | m + 1, i => by
  have ih := asc_filter p m (i + 1)
  rw [List.range'_succ, List.filter_cons]
  split
  ·refine ⟨asc_mk ih.1 (fun y hy => by have := ih.2 y hy; show (i : Int) < y; omega), fun x hx => ?_⟩
   rcases List.mem_cons.1 hx with rfl | hx
   ·exact Int.le_refl _
   ·have := ih.2 x hx; omega
  ·exact ⟨ih.1, fun x hx => by have := ih.2 x hx; omega⟩
theorem asc_elems (s : Nat) : ascD (up (elemsN s)) = true := by
 unfold elemsN
 rw [List.range_eq_range']
 exact (asc_filter (fun i => s.testBit i) 8 0).1
theorem rd_up' (L : List Nat) (i : Nat) : rd (up L) (i : Int) = ((L.getD i 0 : Nat) : Int) := rd_up rfl
end Go.Proofs.YtnhkajanbfgbiaaDoor.Core
end
section
set_option linter.unusedVariables false
set_option linter.unusedSimpArgs false
namespace Go.Proofs.YtnhkajanbfgbiaaDoor.Core
open Go Go.RowKit Go.Proofs.YtnhkajanbfgbiaaDoorW.PrintWords Go.Proofs.YtnhkajanbfgbiaaDoorW.PrintMore Go.Proofs.YtnhkajanbfgbiaaDoor.P
theorem full_of_bits {n p : Nat} (hp : p < 2 ^ n) (h : ∀ i, i < n → p.testBit i = true) : p = 2 ^ n - 1 := by
 refine Nat.eq_of_testBit_eq fun i => ?_
 rw [Nat.testBit_two_pow_sub_one]
 by_cases hi : i < n
 ·rw [h i hi]; simp [hi]
 ·rw [Nat.testBit_lt_two_pow (Nat.lt_of_lt_of_le hp (Nat.pow_le_pow_right (by omega) (by omega)))]
  simp [hi]
/-- What is known of a valid graph. -/
structure VG (g : List Tk) (G : GD) : Prop where
 tasks : G.tasks = g
 n8 : g.length ≤ 8
 nl : G.needs.length = g.length
 nb : below1 g.length G.needs
 needsD : needsD g = some G.needs
 bits : ∀ i, i < g.length → ∀ j : Nat, (G.needs.getD i 0).testBit j = decide ((j : Int) ∈ (g.getD i z38).f1)
 fine : fineD g
 ord : OrdOk G.needs G.order (2 ^ g.length - 1)
theorem vg_of {g : List Tk} {G : GD} (h : graphD g = some G) : VG g G := by
 obtain ⟨N, hN, hf, rfl⟩ := graphD_spec h
 obtain ⟨h8, hl, hb⟩ := needsD_spec hN
 have ok := orderD_ok (N := N) (by omega) (by rw [hl]; exact hb)
 rw [hf] at ok
 exact ⟨rfl, h8, hl, hb, hN, (needsD_fine hN).2, (needsD_fine hN).1, ok⟩
theorem zb_count (p : Nat) : ∀ n, zb n p = ((List.range n).filter (fun i => !p.testBit i)).length
 | 0 => rfl
 | n + 1 => by
  rw [zb, zb_count p n, List.range_succ, List.filter_append, List.length_append]
  congr 1
  by_cases h : p.testBit n = true
  ·simp [h]
  ·simp [h]
theorem VG.needs_len {g : List Tk} {G : GD} (v : VG g G) : G.needs.length ≤ 8 := by have := v.nl; have := v.n8; omega
theorem VG.mem_ready {g : List Tk} {G : GD} (v : VG g G) {p i : Nat} : i ∈ elemsN (G.ready p) ↔ i < g.length ∧ p.testBit i = false ∧ sub (G.needs.getD i 0) p = 0 := by
 rw [Core.mem_ready v.needs_len, v.nl]
end Go.Proofs.YtnhkajanbfgbiaaDoor.Core
end
section
set_option linter.unusedVariables false
set_option linter.unusedSimpArgs false
namespace Go.Proofs.YtnhkajanbfgbiaaDoor.Core
open Go Go.RowKit Go.Proofs.YtnhkajanbfgbiaaDoorW.PrintWords Go.Proofs.YtnhkajanbfgbiaaDoorW.PrintMore Go.Proofs.YtnhkajanbfgbiaaDoor.P
/-- Whether a list has different tasks, none of a set, each behind its needs. -/
def ordOk (n : Nat) (N : List Nat) : List Int → Nat → Bool
 | [], _ => true
 | x :: r, s => if (0 ≤ x ∧ x ≤ (n : Int) - 1) ∧ s.testBit x.toNat = false ∧ sub (N.getD x.toNat 0) s = 0 then ordOk n N r (s ||| 2 ^ x.toNat) else false
def startGo (g : List Tk) (N : List Nat) (room : List Int) (wk : Int) : List Int → Nat → List Nat → List Nat
 | [], _, L => L
 | x :: r, pl, L => startGo g N room wk r (pl ||| 2 ^ x.toNat) (L.set x.toNat (earlD g L (N.getD x.toNat 0) pl x.toNat room wk))
def startsD (g : List Tk) (room : List Int) (wk : Int) (list : List Int) : List Int := match fewD g room wk with
 | none => []
 | some G => if list.length = g.length ∧ ordOk g.length G.needs list 0 = true then up (startGo g G.needs room wk list 0 (List.replicate g.length 0)) else []
theorem startGo_length (g : List Tk) (N : List Nat) (room : List Int) (wk : Int) : ∀ (r : List Int) (pl : Nat) (L : List Nat), (startGo g N room wk r pl L).length = L.length
 | [], _, _ => rfl
 | x :: r, pl, L => by
  unfold startGo
  rw [startGo_length g N room wk r, List.length_set]
theorem sub_none {a b : Nat} (ha : a < 256) (hb : b < 256) (h : sub a b = 0) : ∀ k, a.testBit k = true → b.testBit k = true := by
 intro k hk
 have h1 := sub_testBit (i := k) ha hb
 rw [h, Nat.zero_testBit, hk, Bool.true_and] at h1
 cases hb' : b.testBit k with
 | true => rfl
 | false => rw [hb'] at h1; cases h1
/-- What is known of the beginnings when j tasks have got theirs. -/
structure StOk (g : List Tk) (L : List Nat) (s j : Nat) : Prop where
 len : L.length = g.length
 over : overBy g L s (20 * j)
 le : leB (20 * j) L
theorem st_zero (g : List Tk) : StOk g (List.replicate g.length 0) 0 0 :=
 ⟨by simp, (fun k hk => by rw [Nat.zero_testBit] at hk; cases hk), fun k => by rw [List.getD_eq_getElem?_getD, List.getElem?_replicate]; split <;> simp⟩
theorem StOk.step {g : List Tk} {room : List Int} {wk : Int} (hf : Fine g room wk) {L : List Nat} {s j x nd : Nat} (h : StOk g L s j) (hx : x < g.length) (hj : j ≤ 8) (hs : ∀ k, nd.testBit k = true → s.testBit k = true) (hxs : s.testBit x = false) : StOk g (L.set x (earlD g L nd s x room wk)) (s ||| 2 ^ x) (j + 1) ∧ earlD g L nd s x room wk ≤ 20 * j := by
 have he := (earlD_le hf hx h.over (by omega) hs).1
 refine ⟨⟨by rw [List.length_set]; exact h.len, ?_, ?_⟩, he⟩
 ·intro k hk
  rw [or_bit] at hk
  by_cases e : x = k
  ·subst e
   have ht := (hf.tm x hx).2
   unfold endN
   rw [List.getD_eq_getElem?_getD, List.getElem?_set_self (by rw [h.len]; exact hx), Option.getD_some]
   omega
  ·rw [decide_eq_false e, Bool.or_false] at hk
   have := h.over k hk
   unfold endN at this ⊢
   rw [List.getD_eq_getElem?_getD, List.getElem?_set_ne e, ← List.getD_eq_getElem?_getD]
   omega
 ·intro k
  by_cases e : x = k
  ·subst e
   rw [List.getD_eq_getElem?_getD, List.getElem?_set_self (by rw [h.len]; exact hx), Option.getD_some]
   omega
  ·rw [List.getD_eq_getElem?_getD, List.getElem?_set_ne e, ← List.getD_eq_getElem?_getD]
   have := h.le k
   omega
end Go.Proofs.YtnhkajanbfgbiaaDoor.Core
end
section
set_option linter.unusedVariables false
set_option linter.unusedSimpArgs false
namespace Go.Proofs.YtnhkajanbfgbiaaDoor.Core
open Go Go.RowKit Go.Proofs.YtnhkajanbfgbiaaDoorW.PrintWords Go.Proofs.YtnhkajanbfgbiaaDoorW.PrintMore Go.Proofs.YtnhkajanbfgbiaaDoor.P
/-- How many units of a pool tasks take. -/
def usedN (g : List Tk) (p : Int) : List Nat → Int
 | [] => 0
 | i :: r => (if (g.getD i z38).f2 = p then (g.getD i z38).f3 else 0) + usedN g p r
def UOk (g : List Tk) (L : List Nat) : Prop := ∀ i ∈ L, 1 ≤ (g.getD i z38).f3 ∧ (g.getD i z38).f3 ≤ 4
theorem usedN_bd {g : List Tk} {p : Int} : ∀ {L : List Nat}, UOk g L → 0 ≤ usedN g p L ∧ usedN g p L ≤ 4 * L.length
 | [], _ => by simp [usedN]
 | i :: r, h => by
  have ih := usedN_bd (p := p) (L := r) (fun j hj => h j (List.mem_cons_of_mem _ hj))
  have hi := h i List.mem_cons_self
  simp only [usedN, List.length_cons]
  split <;> omega
theorem ev_used {g : List Tk} (p : Int) (L0 : List Nat) (hb : L0.length ≤ 100) (hL : ∀ i ∈ L0, i < g.length) (hu : UOk g L0) : Ev (fun k => spec_used.f k g (up L0) p) (usedN g p L0) := by
 have key : ∀ (r pre : List Nat) (acc : Int), L0 = pre ++ r → 0 ≤ acc → acc + 4 * r.length ≤ 1000 → Ev (fun k => spec_used.l0 k g (up L0) p acc (pre.length : Int)) (acc + usedN g p r) := by
  intro r
  induction r with
  | nil =>
   intro pre acc hp h0 h1
   rw [List.append_nil] at hp
   subst hp
   refine Ev.succ ?_
   simp only [spec_used.l0, up_length]
   refine Ev.neg (by omega) ((Ev.const _).conv ?_)
   simp [usedN]
  | cons i r ih =>
   intro pre acc hp h0 h1
   have hi : i < g.length := hL i (by rw [hp]; simp)
   have hui := hu i (by rw [hp]; simp)
   have hlen : L0.length = pre.length + (r.length + 1) := by rw [hp]; simp
   have hrd : rd (up L0) (pre.length : Int) = (i : Int) := by
    rw [rd_up', hp]; simp
   simp only [List.length_cons] at h1
   refine Ev.succ ?_
   simp only [spec_used.l0, up_length, hrd, rdT_nat]
   rw [w64 (n := (pre.length : Int) + 1) (by omega) (by omega)]
   refine Ev.pos (by omega) (Ev.pos (by omega) (Ev.pos (by omega) (Ev.pos (by omega) ?_)))
   by_cases h : (g.getD i z38).f2 = p
   ·refine Ev.pos h ?_
    have := ih (pre ++ [i]) (acc + (g.getD i z38).f3) (by rw [hp]; simp) (by omega) (by omega)
    rw [w64 (by omega) (by omega)]
    have e : ((pre ++ [i]).length : Int) = (pre.length : Int) + 1 := by simp
    rw [e] at this
    refine this.conv ?_
    simp only [usedN, if_pos h]
    omega
   ·refine Ev.neg h ?_
    have := ih (pre ++ [i]) acc (by rw [hp]; simp) (by omega) (by omega)
    have e : ((pre ++ [i]).length : Int) = (pre.length : Int) + 1 := by simp
    rw [e] at this
    refine this.conv ?_
    simp only [usedN, if_neg h]
    omega
 exact (key L0 [] 0 rfl (by omega) (by omega)).conv (by omega)
theorem ev_validRoom {L : List Int} (hL : L.length < big) : Ev (fun k => spec_validRoom.f k L) (decide (roomOk L)) := by
 unfold spec_validRoom.f
 by_cases h : L.length = 3
 ·refine Ev.pos (by omega) (Ev.bind (ev_allIn hL 4 8) ((Ev.const _).conv ?_))
  rw [decide_eq_decide]
  exact ⟨fun x => ⟨h, x⟩, fun x => x.2⟩
 ·refine Ev.neg (by omega) ((Ev.const _).conv ?_)
  rw [eq_comm, decide_eq_false_iff_not]
  exact fun x => h x.1
end Go.Proofs.YtnhkajanbfgbiaaDoor.Core
end
section
set_option linter.unusedVariables false
set_option linter.unusedSimpArgs false
namespace Go.Proofs.YtnhkajanbfgbiaaDoor.Core
open Go Go.RowKit Go.Proofs.YtnhkajanbfgbiaaDoorW.PrintWords Go.Proofs.YtnhkajanbfgbiaaDoorW.PrintMore Go.Proofs.YtnhkajanbfgbiaaDoor.P
theorem usedN_snoc (g : List Tk) (p : Int) (i : Nat) : ∀ L : List Nat, usedN g p (L ++ [i]) = usedN g p L + (if (g.getD i z38).f2 = p then (g.getD i z38).f3 else 0)
 | [] => by simp [usedN]
 | j :: L => by
  rw [List.cons_append, usedN, usedN_snoc g p i L, usedN]
  omega
/-- A counter that tells what runs. -/
structure Good (g : List Tk) (c : Cn) (now : List Nat) : Prop where
 t : c.t = (now.length : Int)
 u0 : c.u0 = usedN g 0 now
 u1 : c.u1 = usedN g 1 now
 u2 : c.u2 = usedN g 2 now
theorem Good.u {g : List Tk} {c : Cn} {now : List Nat} (h : Good g c now) {p : Int} (hp : 0 ≤ p ∧ p ≤ 2) : c.u p = usedN g p now := by
 unfold Cn.u
 by_cases h0 : p = 0
 ·subst h0; exact h.u0
 ·by_cases h1 : p = 1
  ·subst h1; exact h.u1
  ·obtain rfl : p = 2 := by omega
   exact h.u2
theorem Good.add {g : List Tk} {c : Cn} {now : List Nat} {i : Nat} (h : Good g c now) (hu : UOk g now) (hi : 1 ≤ (g.getD i z38).f3 ∧ (g.getD i z38).f3 ≤ 4) (hl : now.length ≤ 100) : Good g (c.add (g.getD i z38).f2 (g.getD i z38).f3 1) (now ++ [i]) := by
 have b0 := usedN_bd (p := 0) hu
 have b1 := usedN_bd (p := 1) hu
 have b2 := usedN_bd (p := 2) hu
 have h0 := h.u0
 have h1 := h.u1
 have h2 := h.u2
 refine ⟨?_, ?_, ?_, ?_⟩
 ·simp only [Cn.add]
  rw [h.t, w64 (by omega) (by omega), List.length_append, List.length_singleton]
  omega
 ·rw [usedN_snoc]; simp only [Cn.add]; split <;> (first | (rw [w64 (n := 1 * _) (by omega) (by omega), w64 (by omega) (by omega)]; omega) | omega)
 ·rw [usedN_snoc]; simp only [Cn.add]; split <;> (first | (rw [w64 (n := 1 * _) (by omega) (by omega), w64 (by omega) (by omega)]; omega) | omega)
 ·rw [usedN_snoc]; simp only [Cn.add]; split <;> (first | (rw [w64 (n := 1 * _) (by omega) (by omega), w64 (by omega) (by omega)]; omega) | omega)
end Go.Proofs.YtnhkajanbfgbiaaDoor.Core
end
section
set_option linter.unusedVariables false
set_option linter.unusedSimpArgs false
namespace Go.Proofs.YtnhkajanbfgbiaaDoor.Core
open Go Go.RowKit Go.Proofs.YtnhkajanbfgbiaaDoorW.PrintWords Go.Proofs.YtnhkajanbfgbiaaDoorW.PrintMore Go.Proofs.YtnhkajanbfgbiaaDoor.P
theorem elemsN_range' {s n : Nat} (hn : n ≤ 8) (hs : s < 2 ^ n) : elemsN s = (List.range n).filter (fun i => s.testBit i) := by
 have e8 : List.range 8 = List.range n ++ (List.range (8 - n)).map (n + ·) := by rw [← List.range_add]; congr 1; omega
 unfold elemsN
 rw [e8, List.filter_append]
 have e2 : ((List.range (8 - n)).map (n + ·)).filter (fun i => s.testBit i) = [] := by
  rw [List.filter_eq_nil_iff]
  intro y hy hb
  obtain ⟨z, _, rfl⟩ := List.mem_map.1 hy
  rw [Nat.testBit_lt_two_pow (Nat.lt_of_lt_of_le hs (Nat.pow_le_pow_right (by omega) (by omega)))] at hb
  cases hb
 rw [e2, List.append_nil]
theorem full_zb {n p : Nat} (hp : p < 2 ^ n) : zb n p = 0 ↔ p = 2 ^ n - 1 := by
 constructor
 ·intro h
  exact full_of_bits hp (zb_zero_full (n := 0) h)
 ·intro h
  rw [h]; exact zb_full _ _ (Nat.le_refl _)
end Go.Proofs.YtnhkajanbfgbiaaDoor.Core
end
section
set_option linter.unusedVariables false
set_option linter.unusedSimpArgs false
namespace Go.Proofs.YtnhkajanbfgbiaaDoor.Core
open Go Go.RowKit Go.Proofs.YtnhkajanbfgbiaaDoorW.PrintWords Go.Proofs.YtnhkajanbfgbiaaDoorW.PrintMore Go.Proofs.YtnhkajanbfgbiaaDoor.P
/-- The reference's beginnings: 200 for a task that has none. -/
def specS (L : List Nat) (pl n : Nat) : List Int := (List.range n).map (fun k => if pl.testBit k = true then ((L.getD k 0 : Nat) : Int) else 200)
theorem specS_length (L : List Nat) (pl n : Nat) : (specS L pl n).length = n := by simp [specS]
theorem specS_rd {L : List Nat} {pl n k : Nat} (hk : k < n) : rd (specS L pl n) (k : Int) = if pl.testBit k = true then ((L.getD k 0 : Nat) : Int) else 200 := by
 unfold rd specS
 rw [Int.toNat_natCast, List.getD_eq_getElem?_getD, List.getElem?_map, List.getElem?_range hk]
 rfl
/-- What runs at a time. -/
def runL (g : List Tk) (L : List Nat) (pl n t : Nat) : List Nat := (List.range n).filter (fun k => pl.testBit k && runsAt g L t k)
theorem runL_elems {g : List Tk} {L : List Nat} {pl n t : Nat} (h8 : n ≤ 8) (hpl : pl < 2 ^ n) : (elemsN pl).filter (runsAt g L t) = runL g L pl n t := by
 rw [elemsN_range' h8 hpl, List.filter_filter]
 unfold runL
 congr 1
 funext k
 exact Bool.and_comm _ _
theorem runL_len (g : List Tk) (L : List Nat) (pl n t : Nat) : (runL g L pl n t).length ≤ n := by
 have := List.length_filter_le (fun k => pl.testBit k && runsAt g L t k) (List.range n)
 rw [List.length_range] at this
 exact this
theorem runL_lt {g : List Tk} {L : List Nat} {pl n t : Nat} : ∀ i ∈ runL g L pl n t, i < n := fun i hi => List.mem_range.1 (List.mem_filter.1 hi).1
theorem ev_runningAt {g : List Tk} (htok : ∀ t ∈ g, taskOk t) (h8 : g.length ≤ 8) {L : List Nat} {pl t : Nat} (hLb : leB 200 L) (ht : t < 200) : Ev (fun k => spec_runningAt.f k g (specS L pl g.length) (t : Int)) (up (runL g L pl g.length t)) := by
 unfold spec_runningAt.f
 have key : ∀ (d i : Nat) (X : List Nat), X = runL g L pl i t → i + d = g.length → Ev (fun k => spec_runningAt.l0 k g (specS L pl g.length) (t : Int) (up X) (i : Int)) (up (runL g L pl g.length t)) := by
  intro d
  induction d with
  | zero =>
   intro i X hX h
   refine Ev.succ ?_
   simp only [spec_runningAt.l0]
   have hi : i = g.length := by omega
   rw [hX, hi]
   exact Ev.neg (by omega) (Ev.const _)
  | succ d ih =>
   intro i X hX h
   have hig : i < g.length := by omega
   have hw : wrap64 ((i : Int) + 1) = ((i + 1 : Nat) : Int) := w64s (by unfold big; omega)
   have hlen : (up X).length < 17592186044416 := by
    rw [up_length, hX]
    exact Nat.lt_of_le_of_lt (runL_len g L pl i t) (Nat.lt_trans hig (Nat.lt_of_le_of_lt h8 (by decide)))
   have hsn : up (X ++ [i]) = up X ++ [(i : Int)] := by simp [up]
   have hrd := specS_rd (L := L) (pl := pl) hig
   have htm := tm_int htok hig
   have hls := hLb i
   have hadd := (wadd (a := L.getD i 0) (b := tmN g i) (by omega) (by omega)).1
   have hsp : ∀ b : Bool, (pl.testBit i && runsAt g L t i) = b → runL g L pl (i + 1) t = runL g L pl i t ++ (if b = true then [i] else []) := by
    intro b hb
    unfold runL
    rw [List.range_succ, List.filter_append]
    cases b with
    | true => rw [List.filter_cons_of_pos (p := fun k => pl.testBit k && runsAt g L t k) hb, List.filter_nil, if_pos rfl]
    | false => rw [List.filter_cons_of_neg (p := fun k => pl.testBit k && runsAt g L t k) (by show ¬ (pl.testBit i && runsAt g L t i) = true; rw [hb]; exact Bool.false_ne_true), List.filter_nil, if_neg Bool.false_ne_true]
   have hyes : (pl.testBit i && runsAt g L t i) = true → Ev (fun k => spec_runningAt.l0 k g (specS L pl g.length) (t : Int) (up X ++ [(i : Int)]) ((i + 1 : Nat) : Int)) (up (runL g L pl g.length t)) := fun hb => by
    rw [← hsn]
    exact ih (i + 1) (X ++ [i]) (by rw [hX, hsp _ hb, if_pos rfl]) (by omega)
   have hno : (pl.testBit i && runsAt g L t i) = false → Ev (fun k => spec_runningAt.l0 k g (specS L pl g.length) (t : Int) (up X) ((i + 1 : Nat) : Int)) (up (runL g L pl g.length t)) := fun hb => ih (i + 1) X (by rw [hX, hsp _ hb, if_neg Bool.false_ne_true, List.append_nil]) (by omega)
   clear ih hX hsp
   refine Ev.succ ?_
   simp only [spec_runningAt.l0, hw, hrd, rdT_nat, htm.1]
   refine Ev.pos (by omega) (Ev.pos (by omega) (Ev.pos (by rw [specS_length]; omega) ?_))
   cases hp : pl.testBit i with
   | true =>
    rw [hp, Bool.true_and] at hyes hno
    simp only [if_true, hadd]
    by_cases h1 : L.getD i 0 ≤ t
    ·refine Ev.pos (Int.ofNat_le.2 h1) ?_
     by_cases h2 : t < L.getD i 0 + tmN g i
     ·exact Ev.pos (Int.ofNat_lt.2 h2) (Ev.pos hlen (hyes (by unfold runsAt endN; rw [decide_eq_true h1, decide_eq_true h2]; rfl)))
     ·exact Ev.neg (fun h => h2 (Int.ofNat_lt.1 h)) (hno (by unfold runsAt endN; rw [decide_eq_false h2, Bool.and_false]))
    ·exact Ev.neg (fun h => h1 (Int.ofNat_le.1 h)) (hno (by unfold runsAt; rw [decide_eq_false h1, Bool.false_and]))
   | false =>
    rw [hp, Bool.false_and] at hno
    simp only [Bool.false_eq_true, if_false]
    exact Ev.neg (fun h => by clear hlen; omega) (hno rfl)
 exact key g.length 0 [] rfl (by omega)
theorem cnt_good {g : List Tk} {L : List Nat} {t : Nat} (hu : ∀ i, i < g.length → 1 ≤ (g.getD i z38).f3 ∧ (g.getD i z38).f3 ≤ 4) : ∀ (ks : List Nat) (c : Cn) (nl : List Nat), Good g c nl → (∀ i ∈ nl, i < g.length) → (∀ i ∈ ks, i < g.length) → nl.length + ks.length ≤ 100 → Good g (ks.foldl (cntStep g L t) c) (nl ++ ks.filter (runsAt g L t))
 | [], c, nl, h, _, _, _ => by simpa using h
 | k :: ks, c, nl, h, h1, h2, h3 => by
  rw [List.length_cons] at h3
  rw [List.foldl_cons]
  have hk := h2 k List.mem_cons_self
  cases hr : runsAt g L t k with
  | true =>
   have e : cntStep g L t c k = c.add (g.getD k z38).f2 (g.getD k z38).f3 1 := by unfold cntStep; rw [if_pos hr]; rfl
   rw [e, List.filter_cons_of_pos hr, show nl ++ k :: ks.filter (runsAt g L t) = (nl ++ [k]) ++ ks.filter (runsAt g L t) by simp]
   exact cnt_good hu ks _ _ (h.add (fun i hi => hu i (h1 i hi)) (hu k hk) (by omega)) (fun i hi => by
    rcases List.mem_append.1 hi with hi | hi
    ·exact h1 i hi
    ·rw [List.mem_singleton.1 hi]; exact hk) (fun i hi => h2 i (List.mem_cons_of_mem _ hi)) (by rw [List.length_append, List.length_singleton]; omega)
  | false =>
   have e : cntStep g L t c k = c := by unfold cntStep; rw [if_neg (by rw [hr]; exact Bool.false_ne_true)]
   rw [e, List.filter_cons_of_neg (by rw [hr]; exact Bool.false_ne_true)]
   exact cnt_good hu ks c nl h h1 (fun i hi => h2 i (List.mem_cons_of_mem _ hi)) (by omega)
theorem freeB_eq {g : List Tk} {room : List Int} {wk : Int} (hf : Fine g room wk) (h8 : g.length ≤ 8) {L : List Nat} {pl i t : Nat} (hi : i < g.length) (hpl : pl < 2 ^ g.length) : freeB g L pl i room wk t = (decide (((runL g L pl g.length t).length : Int) < wk) && decide (wrap64 (usedN g (g.getD i z38).f2 (runL g L pl g.length t) + (g.getD i z38).f3) ≤ rd room (g.getD i z38).f2)) := by
 have hz : Good g Cn.zero [] := ⟨rfl, rfl, rfl, rfl⟩
 have hel := elemsN_length pl
 have hg := cnt_good (L := L) (t := t) hf.units (elemsN pl) Cn.zero [] hz (by simp) (fun k hk => by
  have h2 := (mem_elemsN.1 hk).2
  have h4 : 2 ^ k < 2 ^ g.length := Nat.lt_of_le_of_lt (Nat.ge_two_pow_of_testBit h2) hpl
  exact (Nat.pow_lt_pow_iff_right (by omega)).1 h4) (by simp; omega)
 rw [List.nil_append, runL_elems h8 hpl] at hg
 have hp := hf.pool i hi
 show takesB (cntOf g L pl t) _ _ room wk = _
 unfold takesB
 rw [show (cntOf g L pl t).t = _ from hg.t, show (cntOf g L pl t).u _ = _ from hg.u hp]
theorem ev_fits {g : List Tk} {room : List Int} {wk : Int} (hf : Fine g room wk) (htok : ∀ t ∈ g, taskOk t) (h8 : g.length ≤ 8) {L : List Nat} {pl i a : Nat} (hi : i < g.length) (hpl : pl < 2 ^ g.length) (hLb : leB 200 L) (ha : a + tmN g i < 200) : ∀ (d now : Nat), now + d = a + tmN g i → Ev (fun k => spec_fits.l0 k g room wk (specS L pl g.length) (i : Int) (a : Int) (now : Int)) (freeN g L pl i room wk d now)
 | 0, now, h => by
  have htm := tm_int htok hi
  have hadd := (wadd (a := a) (b := tmN g i) (by omega) (by omega)).1
  refine Ev.succ ?_
  simp only [spec_fits.l0, rdT_nat, htm.1, hadd]
  exact Ev.pos (by omega) (Ev.pos (by omega) (Ev.neg (by omega) (Ev.const _)))
 | d + 1, now, h => by
  have hn200 : now < 200 := Nat.lt_of_le_of_lt (by rw [← h]; exact Nat.le_add_right _ _) ha
  have htm := tm_int htok hi
  have hadd := (wadd (a := a) (b := tmN g i) (by omega) (by omega)).1
  have hw : wrap64 ((now : Int) + 1) = ((now + 1 : Nat) : Int) := w64s (by unfold big; omega)
  have hr := ev_runningAt htok h8 (pl := pl) hLb hn200
  have hp := hf.pool i hi
  have h3 := hf.room.1
  have hlen := runL_len g L pl g.length now
  have hus := ev_used (g := g) (g.getD i z38).f2 (runL g L pl g.length now) (by omega) runL_lt (fun k hk => hf.units k (runL_lt k hk))
  have hfb := freeB_eq (L := L) (pl := pl) (t := now) hf h8 hi hpl
  have hfn : freeN g L pl i room wk (d + 1) now = (freeB g L pl i room wk now && freeN g L pl i room wk d (now + 1)) := rfl
  rw [hfn, hfb]
  refine Ev.succ ?_
  simp only [spec_fits.l0, rdT_nat, htm.1, hadd, hw]
  refine Ev.pos (Int.natCast_nonneg i) (Ev.pos (Int.ofNat_lt.2 hi) (Ev.pos (Int.ofNat_lt.2 (by rw [← h]; exact Nat.lt_add_of_pos_right (Nat.succ_pos d))) (Ev.bind hr ?_)))
  rw [up_length]
  by_cases h1 : ((runL g L pl g.length now).length : Int) < wk
  ·rw [decide_eq_true h1, Bool.true_and]
   refine Ev.neg (Int.not_le.2 h1) (Ev.bind hus (Ev.pos hp.1 (Ev.pos (by rw [h3]; exact Int.lt_of_le_of_lt hp.2 (by decide)) ?_)))
   by_cases h2 : wrap64 (usedN g (g.getD i z38).f2 (runL g L pl g.length now) + (g.getD i z38).f3) ≤ rd room (g.getD i z38).f2
   ·rw [decide_eq_true h2, Bool.true_and]
    exact Ev.neg (Int.not_lt.2 h2) (ev_fits hf htok h8 hi hpl hLb ha d (now + 1) (by rw [← h, Nat.add_assoc, Nat.add_comm 1 d]))
   ·rw [decide_eq_false h2, Bool.false_and]
    exact Ev.pos (Int.not_le.1 h2) (Ev.const _)
  ·rw [decide_eq_false h1, Bool.false_and, Bool.false_and]
   exact Ev.pos (Int.not_lt.1 h1) (Ev.const _)
end Go.Proofs.YtnhkajanbfgbiaaDoor.Core
end
section
set_option linter.unusedVariables false
set_option linter.unusedSimpArgs false
namespace Go.Proofs.YtnhkajanbfgbiaaDoor.Core
open Go Go.RowKit Go.Proofs.YtnhkajanbfgbiaaDoorW.PrintWords Go.Proofs.YtnhkajanbfgbiaaDoorW.PrintMore Go.Proofs.YtnhkajanbfgbiaaDoor.P
theorem VG.need_lt {g : List Tk} {G : GD} (v : VG g G) {i m : Nat} (h : (G.needs.getD i 0).testBit m = true) : m < g.length := by
 have h1 := getD_lt v.nb i
 have h2 := Nat.ge_two_pow_of_testBit h
 have h3 : 2 ^ m < 2 ^ g.length := Nat.lt_of_le_of_lt h2 h1
 exact (Nat.pow_lt_pow_iff_right (by omega)).1 h3
theorem VG.list {g : List Tk} {G : GD} (v : VG g G) {i : Nat} (hi : i < g.length) : (g.getD i z38).f1 = up (elemsN (G.needs.getD i 0)) := by
 have hg : g.getD i z38 ∈ g := by
  rw [List.getD_eq_getElem?_getD, List.getElem?_eq_getElem hi]
  exact List.getElem_mem hi
 have hf := (v.fine.1 _ hg).2
 refine asc_ext hf.2 (asc_elems _) (fun x => ?_)
 show _ ↔ x ∈ elems _
 rw [mem_elems]
 constructor
 ·intro hx
  have hb := hf.1 x hx
  have h8 := v.n8
  refine ⟨x.toNat, by omega, by omega, ?_⟩
  rw [v.bits i hi, decide_eq_true_eq, show ((x.toNat : Nat) : Int) = x by omega]
  exact hx
 ·rintro ⟨k, rfl, _, hk⟩
  rw [v.bits i hi, decide_eq_true_eq] at hk
  exact hk
end Go.Proofs.YtnhkajanbfgbiaaDoor.Core
end
section
set_option linter.unusedVariables false
set_option linter.unusedSimpArgs false
namespace Go.Proofs.YtnhkajanbfgbiaaDoor.P
open Go Go.RowKit Go.Shelf Go.Proofs.YtnhkajanbfgbiaaDoorW.PrintWords Go.Proofs.YtnhkajanbfgbiaaDoorW.PrintLast Go.Proofs.YtnhkajanbfgbiaaDoorW.PrintMore Go.Proofs.YtnhkajanbfgbiaaDoor.Core
attribute [local go_sem] Oper.semAt_some wide_fn wide_depth
def impl_OrderStarts.f (l0 : List S38) (l1 : List Int) (a2 : Int) (l3 : List Int) : Option (List Int) := some (startsD l0 l1 a2 l3)
set_option maxRecDepth 100000 in
set_option maxHeartbeats 4000000 in
theorem or_lt' {n t i : Nat} (ht : t < 2 ^ n) (hi : i < n) : t ||| 2 ^ i < 2 ^ n := Nat.or_lt_two_pow ht (Nat.pow_lt_pow_right (by omega) hi)
set_option maxRecDepth 100000 in
set_option maxHeartbeats 4000000 in
theorem impl_OrderStarts.calls (A0 : Option Addr) (c0 : Nat) (l0 : List S38) (A1 : Option Addr) (c1 : Nat) (l1 : List Int) (a2 : Int) (A3 : Option Addr) (c3 : Nat) (l3 : List Int) (r : List Int) (w : World) (hr0 : Kd.C k38 w A0 l0.length l0) (hc0 : l0.length ≤ c0) (hr1 : Kd.C (Kd.int .i64) w A1 l1.length l1) (hc1 : l1.length ≤ c1) (hr3 : Kd.C (Kd.int .i64) w A3 l3.length l3) (hc3 : l3.length ≤ c3) (hT : Tab w) (h : impl_OrderStarts.f l0 l1 a2 l3 = some r) :
  Calls Tryd.prog 9 #[.slice A0 l0.length c0, .slice A1 l1.length c1, .int .i64 a2, .slice A3 l3.length c3] w fun e w' => ∃ v0_ : Value, e = .returned v0_ ∧ Kd.R (Kd.int .i64) 3 w' w.heap.size (fun _ => True) v0_ r ∧ Below w.heap.size w w' := by
 have hr : r = startsD l0 l1 a2 l3 := (Option.some.inj h).symm
 subst hr
 clear h
 have hlm : l3.length ≤ 9223372036854775807 := hr3.2.1
 cases hg : fewD l0 l1 a2 with
 | none =>
  have hcd : startsD l0 l1 a2 l3 = [] := by unfold startsD; rw [hg]
  rw [hcd]
  have HG := Aside0.mk (fewIn_none A0 c0 l0 A1 c1 l1 a2 w hT hr0 hc0 hr1 hc1 hg)
  clear hr0 hr1 hr3 hT hcd hg
  go_enter Tryd.func9, Tryd.ntmps9
  go_wp2_with (go_at_call 22; refine HG.out.mono ?_; rintro e w' ⟨rfl, hB⟩; have HB := Aside0.mk hB; clear hB)
  go_ret
  exact ⟨_, rfl, Kd.R_nil _ _ _ _ _, HB.out⟩
 | some G =>
  obtain ⟨h5, hp⟩ := fewD_some hg
  obtain ⟨hG, hroom, hw1, hw4⟩ := placeD_some hp
  have ok := graphD_ok hG
  have htk := graphD_tasks hG
  have htok := graphD_taskOk hG
  have hpool := graphD_pool hG
  have hfine := fine_of hG hroom hw1
  have h8 := ok.n8
  have HG := Aside0.mk (fewIn_some A0 c0 l0 A1 c1 l1 a2 G w hT hr0 hc0 hr1 hc1 hg)
  have hdf : startsD l0 l1 a2 l3 = if l3.length = l0.length ∧ ordOk l0.length G.needs l3 0 = true then up (startGo l0 G.needs l1 a2 l3 0 (List.replicate l0.length 0)) else [] := by unfold startsD; rw [hg]
  have HR1 := Aside0.mk hr1
  have HR3 := Aside0.mk hr3
  have HC1 := Aside0.mk hc1
  have HC3 := Aside0.mk hc3
  have HT := Aside0.mk hT
  have OK := Aside0.mk ok
  have HROOM := Aside0.mk hroom.1
  have HF := Aside0.mk hfine
  have HPO := Aside0.mk hpool
  subst htk
  have HTK := Aside0.mk htok
  by_cases hll : l3.length = G.tasks.length
  rotate_left
  ·have hcd : startsD G.tasks l1 a2 l3 = [] := by rw [hdf, if_neg (fun h => hll h.1)]
   rw [hcd]
   have hne : ((l3.length : Int) != (G.tasks.length : Int)) = true := bne_iff_ne.2 (by omega)
   clear hcd hdf hr0 hr1 hr3 hT hp hG hroom ok htok hpool hfine hg hc0 hc1 hc3 hll
   go_enter Tryd.func9, Tryd.ntmps9
   go_wp2_with (go_at_call 22; refine HG.out.mono ?_; rintro e w' ⟨b, rfl, hB, hgr⟩; have HB := Aside0.mk hB; clear hB hgr)
   go_ret
   exact ⟨_, rfl, Kd.R_nil _ _ _ _ _, HB.out⟩
  have hne : ((l3.length : Int) != (G.tasks.length : Int)) = false := bne_eq_false_iff_eq.2 (by omega)
  have hmk := run_make_ints G.tasks.length h8
  obtain ⟨RES, hRES⟩ : ∃ RES, RES = startsD G.tasks l1 a2 l3 := ⟨_, rfl⟩
  rw [← hRES] at hdf ⊢
  have HD := Aside0.mk hdf
  have HLL := Aside0.mk hll
  clear hRES hdf hr0 hr1 hr3 hT hp hG hroom ok htok hpool hfine hg hc0 hc1 hc3 hll
  go_enter Tryd.func9, Tryd.ntmps9
  go_wp2_with (first | (go_at_call 22; refine HG.out.mono ?_; rintro e w1 ⟨b, rfl, hB, hgr⟩; have HB := Aside0.mk hB; have HI := Aside0.mk hgr; clear hB hgr) | (go_at_call 23; refine (size_calls b G _ HI.out).mono ?_; rintro e w2 ⟨rfl, rfl⟩))
  clear hmk hne
  have hrow : (w1.alloc (.cells (icells (List.replicate G.tasks.length 0)) 3)).heap[w1.heap.size]? = some (.cells (icells (List.replicate G.tasks.length 0)) 3 (0, 0)) := cells_new w1 _
  have hsz := HB.out.size
  have HV1 := (Below.refl w1.heap.size w1).alloc (Nat.le_refl _) (.cells (icells (List.replicate G.tasks.length 0)) 3)
  have HB0 := Aside0.mk HB.out
  have HI0 := Aside0.mk HI.out
  have HB1 := HB.out.alloc HB.out.size (.cells (icells (List.replicate G.tasks.length 0)) 3)
  have HI1 := HI.out.move ((Below.refl w1.heap.size w1).alloc (Nat.le_refl _) (.cells (icells (List.replicate G.tasks.length 0)) 3))
  clear HB HI HG
  revert HV1 hrow HB1 HI1
  generalize w1.alloc (.cells (icells (List.replicate G.tasks.length 0)) 3) = W1
  intro hrow HV1 HB1 HI1
  obtain ⟨p, hp⟩ : ∃ p, p = w1.heap.size := ⟨_, rfl⟩
  rw [← hp] at hrow hsz ⊢
  have HPP := Aside0.mk hp
  clear hp
  have HVW := Aside0.mk HV1
  clear HV1
  have HBW := Aside0.mk HB1
  have HIW := Aside0.mk HI1
  have HROW := Aside0.mk hrow
  have HSZ := Aside0.mk hsz
  clear hrow HB1 HI1 hsz
  go_loopg [12, 38] l3.length (fun kq v12 v38 w' => ∃ (j s : Nat) (x : Int), v12 = .int .u16 (s : Int) ∧ v38 = .int .i64 x ∧ Aside0 (kq + j = l3.length ∧ x = (j : Int)) ∧ Aside0 (s < 2 ^ G.tasks.length ∧ ordOk G.tasks.length G.needs l3 0 = ordOk G.tasks.length G.needs (l3.drop j) s) ∧ Aside0 (w'.heap[p]? = some (.cells (icells (List.replicate G.tasks.length 0)) 3 (0, 0))) ∧ Aside0 (IsG w' b G) ∧ Aside0 (Below w.heap.size w w') ∧ Aside0 (Below w1.heap.size w1 w'))
  case atStart => exact ⟨0, 0, 0, rfl, rfl, ⟨by omega, rfl⟩, ⟨Nat.two_pow_pos _, rfl⟩, ⟨HROW.out⟩, ⟨HIW.out⟩, ⟨HBW.out⟩, ⟨HVW.out⟩⟩
  case round =>
   clear HROW HIW HBW HVW
   obtain ⟨j, s, x, rfl, rfl, HJ, HS, HROW, HI, HB, HV⟩ := hrel
   by_cases hlt : j < l3.length
   ·have hx := HJ.out.2
    have hd : decide (x < (l3.length : Int)) = true := decide_eq_true (by omega)
    have p0 : 0 ≤ x := by omega
    have q0 : x < (l3.length : Int) := by omega
    obtain ⟨ad3, e3, hx3⟩ := Kd.at_int (Kd.C_below HR3.out HB.out) x p0 q0
    have hy : rd l3 x = l3[j] := by rw [hx]; unfold rd; rw [Int.toNat_natCast, List.getD_eq_getElem?_getD, List.getElem?_eq_getElem hlt, Option.getD_some]
    have hdrop : l3.drop j = l3[j] :: l3.drop (j + 1) := List.drop_eq_getElem_cons hlt
    rw [hy] at hx3
    generalize l3[j] = y at hx3 hdrop
    obtain ⟨hs2, hord⟩ := HS.out
    rw [hdrop] at hord
    have h256 := pow8 h8
    have hs8 : s < 256 := Nat.lt_of_lt_of_le hs2 h256
    have hnl := OK.out.nl
    have hgt : (G.tasks.length : Int) - 1 = (G.tasks.length : Int) - 1 := rfl
    have hw2 : wrap64 ((G.tasks.length : Int) - 1) = (G.tasks.length : Int) - 1 := w64 (by omega) (by omega)
    have hw1_ : IntKind.i64.wrap ((G.tasks.length : Int) - 1) = (G.tasks.length : Int) - 1 := by rw [i64_w, w64 (by omega) (by omega)]
    have HLT := Aside0.mk hlt
    have hwi := fun W (t : Bool) (ht : decide (0 ≤ y ∧ y ≤ (G.tasks.length : Int) - 1) = t) => within_is y 0 ((G.tasks.length : Int) - 1) t W ht
    replace p0 := eq_true p0
    replace q0 := eq_true q0
    subst e3
    clear hgt hx hlt hy hdrop
    by_cases hin : 0 ≤ y ∧ y ≤ (G.tasks.length : Int) - 1
    ·obtain ⟨k, rfl⟩ := Int.eq_ofNat_of_zero_le hin.1
     have hk8 : k < 8 := by omega
     have hkn : k < G.tasks.length := by omega
     have HW2 := Aside0.mk (fun W => hwi W true (decide_eq_true hin))
     have hhas := has_calls s k hs8 hk8
     cases hsk : s.testBit k with
     | true =>
      rw [hsk] at hhas
      have HHAS := Aside0.mk hhas
      have hno : ordOk G.tasks.length G.needs l3 0 = false := by rw [hord]; unfold ordOk; rw [if_neg (fun h => by rw [Int.toNat_natCast, hsk] at h; cases h.2.1)]
      have HRS := Aside0.mk (show RES = [] by rw [HD.out, if_neg (fun h => by rw [hno] at h; cases h.2)])
      clear hwi hord hno hin hhas hsk
      go_wp2_with (first | (go_at_call 23; refine (size_calls b G _ HI.out).mono ?_; rintro e w2 ⟨rfl, rfl⟩) | (go_at_call 24; refine (HW2.out _).mono ?_; rintro e w2 ⟨rfl, hB2⟩; replace HROW := Aside0.mk ((hB2.block _ (cells_lt HROW.out)).trans HROW.out); replace HI := Aside0.mk (HI.out.move hB2); replace HB := Aside0.mk (below_step HB.out hB2); replace HV := Aside0.mk (below_step HV.out hB2); clear hB2) | (go_at_call 25; refine (HHAS.out _).mono ?_; rintro e w3 ⟨rfl, rfl⟩))
      go_ret
      exact ⟨_, rfl, by rw [HRS.out]; exact Kd.R_nil _ _ _ _ _, HB.out⟩
     | false =>
      rw [hsk] at hhas
      have HHAS := Aside0.mk hhas
      have hNk := getD_lt OK.out.nb k
      have hN8 : G.needs.getD k 0 < 256 := Nat.lt_of_lt_of_le hNk h256
      have hand := andNot_eq hN8 hs8
      have hsubl : sub (G.needs.getD k 0) s < 256 := sub_lt hN8
      have HAT := Aside0.mk (fun (W : World) (hg : IsG W b G) => (show ∃ (ad : Addr) (c : Nat), W.cell? ⟨b, 1, none⟩ = some (.slice (some ad) G.needs.length c) ∧ W.cell? (ad.add ((k : Nat) : Int).toNat) = some (.int .u16 ((G.needs.getD k 0 : Nat) : Int)) from by
       obtain ⟨A, c, h1, -, h2⟩ := hg.needs
       obtain ⟨ad, e0, h⟩ := Kd.at_int h2 ((k : Nat) : Int) (by omega) (by omega)
       subst e0
       rw [rd_up (i := k) rfl] at h
       exact ⟨ad, c, h1, h⟩))
      have hor : ordOk G.tasks.length G.needs (((k : Nat) : Int) :: l3.drop (j + 1)) s = if sub (G.needs.getD k 0) s = 0 then ordOk G.tasks.length G.needs (l3.drop (j + 1)) (s ||| 2 ^ k) else false := by
       show (if _ then _ else false) = _
       rw [Int.toNat_natCast]
       by_cases hz : sub (G.needs.getD k 0) s = 0
       ·rw [if_pos ⟨hin, hsk, hz⟩, if_pos hz]
       ·rw [if_neg (fun h => hz h.2.2), if_neg hz]
      rw [hor] at hord
      generalize hnd_ : G.needs.getD k 0 = nd at HAT hand hsubl hord hN8
      have p1 : (0 ≤ ((k : Nat) : Int)) = True := eq_true (by omega)
      have q1 : (((k : Nat) : Int) < (G.needs.length : Int)) = True := eq_true (by omega)
      generalize hkI : ((k : Nat) : Int) = kI at HAT HHAS HW2 p1 q1 hx3 ⊢
      have HKI := Aside0.mk hkI
      by_cases hz : sub nd s = 0
      ·rw [if_pos hz] at hord
       have hz4 : (((sub nd s : Nat) : Int) != 0) = false := bne_eq_false_iff_eq.2 (by omega)
       generalize sub nd s = r2 at hand hsubl hz4 hz
       have hwith := fun W => with_calls s k hs8 hk8 W
       rw [hkI] at hwith
       have HWI := Aside0.mk hwith
       have HORD := Aside0.mk hord
       have HS2 := Aside0.mk (or_lt' hs2 hkn)
       clear hnl hwi hin hhas hsk hnd_ hkI hord hor hwith hz hNk hN8 hsubl
       go_wp2_with (first | (go_at_call 23; refine (size_calls b G _ HI.out).mono ?_; rintro e w2 ⟨rfl, rfl⟩) | (go_at_call 24; refine (HW2.out _).mono ?_; rintro e w2 ⟨rfl, hB2⟩; replace HROW := Aside0.mk ((hB2.block _ (cells_lt HROW.out)).trans HROW.out); replace HI := Aside0.mk (HI.out.move hB2); replace HB := Aside0.mk (below_step HB.out hB2); replace HV := Aside0.mk (below_step HV.out hB2); clear hB2) | (go_at_call 25; refine (HHAS.out _).mono ?_; rintro e w3 ⟨rfl, rfl⟩; obtain ⟨adn, cn, hcn, hxn⟩ := HAT.out _ HI.out) | (go_at_call 26; refine (HWI.out _).mono ?_; rintro e w4 ⟨rfl, rfl⟩))
       go_roundg (l3.length - (j + 1))
       case measure => have h1 := HJ.out.1; have h2 := HLT.out; omega
       case rel => exact ⟨j + 1, s ||| 2 ^ k, _, rfl, rfl, ⟨by have h2 := HLT.out; omega, by have h1 := HJ.out.2; have h3 := HLT.out; have h4 := HLL.out; unfold wrap64; omega⟩, ⟨HS2.out, HORD.out⟩, ⟨HROW.out⟩, ⟨HI.out⟩, ⟨HB.out⟩, ⟨HV.out⟩⟩
      ·rw [if_neg hz] at hord
       have hz4 : (((sub nd s : Nat) : Int) != 0) = true := bne_iff_ne.2 (by omega)
       generalize sub nd s = r2 at hand hsubl hz4 hz
       have HRS := Aside0.mk (show RES = [] by rw [HD.out, if_neg (fun h => by rw [hord] at h; cases h.2)])
       clear hnl hwi hin hhas hsk hnd_ hkI hord hor hz hNk hN8 hsubl
       go_wp2_with (first | (go_at_call 23; refine (size_calls b G _ HI.out).mono ?_; rintro e w2 ⟨rfl, rfl⟩) | (go_at_call 24; refine (HW2.out _).mono ?_; rintro e w2 ⟨rfl, hB2⟩; replace HROW := Aside0.mk ((hB2.block _ (cells_lt HROW.out)).trans HROW.out); replace HI := Aside0.mk (HI.out.move hB2); replace HB := Aside0.mk (below_step HB.out hB2); replace HV := Aside0.mk (below_step HV.out hB2); clear hB2) | (go_at_call 25; refine (HHAS.out _).mono ?_; rintro e w3 ⟨rfl, rfl⟩; obtain ⟨adn, cn, hcn, hxn⟩ := HAT.out _ HI.out))
       go_ret
       exact ⟨_, rfl, by rw [HRS.out]; exact Kd.R_nil _ _ _ _ _, HB.out⟩
    ·have hno : ordOk G.tasks.length G.needs l3 0 = false := by rw [hord]; unfold ordOk; rw [if_neg (fun h => hin h.1)]
     have HRS := Aside0.mk (show RES = [] by rw [HD.out, if_neg (fun h => by rw [hno] at h; cases h.2)])
     have HW2 := Aside0.mk (fun W => hwi W false (decide_eq_false hin))
     clear hwi hord hno hin
     go_wp2_with (first | (go_at_call 23; refine (size_calls b G _ HI.out).mono ?_; rintro e w2 ⟨rfl, rfl⟩) | (go_at_call 24; refine (HW2.out _).mono ?_; rintro e w2 ⟨rfl, hB2⟩; replace HB := Aside0.mk (below_step HB.out hB2); replace HV := Aside0.mk (below_step HV.out hB2); clear hB2))
     go_ret
     exact ⟨_, rfl, by rw [HRS.out]; exact Kd.R_nil _ _ _ _ _, HB.out⟩
   ·have hj := HJ.out.1
    have hx := HJ.out.2
    have hd : decide (x < (l3.length : Int)) = false := decide_eq_false (by omega)
    have hok : ordOk G.tasks.length G.needs l3 0 = true := by rw [HS.out.2, List.drop_eq_nil_of_le (by omega)]; rfl
    have HOK := Aside0.mk hok
    have HRS := Aside0.mk (show RES = up (startGo G.tasks G.needs l1 a2 l3 0 (List.replicate G.tasks.length 0)) by rw [HD.out, if_pos ⟨HLL.out, hok⟩])
    clear hok hx hlt hj HS HI
    go_wp2
    clear HJ hd
    go_loopg [12, 71] l3.length (fun kq v12 v71 w' => ∃ (j s : Nat) (x : Int) (L : List Nat), v12 = .int .u16 (s : Int) ∧ v71 = .int .i64 x ∧ Aside0 (kq + j = l3.length ∧ x = (j : Int)) ∧ Aside0 (s < 2 ^ G.tasks.length ∧ ordOk G.tasks.length G.needs (l3.drop j) s = true ∧ RES = up (startGo G.tasks G.needs l1 a2 (l3.drop j) s L) ∧ StOk G.tasks L s j) ∧ Aside0 (w'.heap[p]? = some (.cells (icells L) 3 (0, 0))) ∧ Aside0 (Below w1.heap.size w1 w'))
    case atStart => exact ⟨0, 0, 0, _, rfl, rfl, ⟨by omega, rfl⟩, ⟨Nat.two_pow_pos _, HOK.out, HRS.out, st_zero _⟩, ⟨HROW.out⟩, ⟨HV.out⟩⟩
    case round =>
     clear HROW HB HV HOK HRS
     obtain ⟨j, s, x, L, rfl, rfl, HJ, HS, HROW, HV⟩ := hrel
     have HB := Aside0.mk (below_step HB0.out HV.out)
     by_cases hlt : j < l3.length
     ·have hx := HJ.out.2
      have hd : decide (x < (l3.length : Int)) = true := decide_eq_true (by omega)
      have p0 : 0 ≤ x := by omega
      have q0 : x < (l3.length : Int) := by omega
      obtain ⟨ad3, e3, hx3⟩ := Kd.at_int (Kd.C_below HR3.out HB.out) x p0 q0
      have hy : rd l3 x = l3[j] := by rw [hx]; unfold rd; rw [Int.toNat_natCast, List.getD_eq_getElem?_getD, List.getElem?_eq_getElem hlt, Option.getD_some]
      have hdrop : l3.drop j = l3[j] :: l3.drop (j + 1) := List.drop_eq_getElem_cons hlt
      rw [hy] at hx3
      generalize l3[j] = y at hx3 hdrop
      obtain ⟨hs2, hord, hres, hst⟩ := HS.out
      rw [hdrop] at hord hres
      have h256 := pow8 h8
      have hs8 : s < 256 := Nat.lt_of_lt_of_le hs2 h256
      unfold ordOk at hord
      by_cases hc : (0 ≤ y ∧ y ≤ (G.tasks.length : Int) - 1) ∧ s.testBit y.toNat = false ∧ sub (G.needs.getD y.toNat 0) s = 0
      ·rw [if_pos hc] at hord
       obtain ⟨hin, hsk, hz⟩ := hc
       obtain ⟨k, rfl⟩ := Int.eq_ofNat_of_zero_le hin.1
       rw [Int.toNat_natCast] at hord hsk hz
       have hk8 : k < 8 := by omega
       have hkn : k < G.tasks.length := by omega
       have hN8 : G.needs.getD k 0 < 256 := Nat.lt_of_lt_of_le (getD_lt OK.out.nb k) h256
       have hsubs := sub_none hN8 hs8 hz
       have hj5 : j ≤ 5 := by have := HLL.out; omega
       obtain ⟨hst2, he20⟩ := hst.step HF.out hkn (by omega) hsubs hsk
       obtain ⟨-, -, -, hfr⟩ := earlD_le HF.out hkn hst.over (by omega) hsubs
       have hres2 : RES = up (startGo G.tasks G.needs l1 a2 (l3.drop (j + 1)) (s ||| 2 ^ k) (L.set k (earlD G.tasks L (G.needs.getD k 0) s k l1 a2))) := by
        rw [hres]
        show up (startGo G.tasks G.needs l1 a2 (l3.drop (j + 1)) (s ||| 2 ^ ((k : Nat) : Int).toNat) (L.set ((k : Nat) : Int).toNat (earlD G.tasks L (G.needs.getD ((k : Nat) : Int).toNat 0) s ((k : Nat) : Int).toNat l1 a2))) = _
        rw [Int.toNat_natCast]
       have hcall := fun (W : World) (hI : IsG W b G) (hTW : Tab W) (hrw : W.heap[p]? = some (.cells (icells L) 3 (0, 0))) (hC : Kd.C (Kd.int .i64) W A1 l1.length l1) => earliest_calls b G s k L (some ⟨p, 0, none⟩) G.tasks.length A1 c1 l1 a2 (20 * j - needEnd G.tasks L (G.needs.getD k 0)) W hTW hI OK.out HTK.out HPO.out hkn hst.len (leB_mono hst.le (by omega)) (Kd.R_reads' (icells_R (base := 0) (Nat.zero_le _) hrw hst.len h8)).2.2 HROOM.out hC HC1.out hs2 (by omega) hfr
       rw [hst.len] at hcall
       have hwith := fun W => with_calls s k hs8 hk8 W
       generalize earlD G.tasks L (G.needs.getD k 0) s k l1 a2 = ee at hcall hst2 hres2 he20
       have hit : ((k : Nat) : Int).toNat = k := Int.toNat_natCast k
       have p1 : (0 ≤ ((k : Nat) : Int)) = True := eq_true (by omega)
       have q1 : (((k : Nat) : Int) < (G.tasks.length : Int)) = True := eq_true (by omega)
       generalize hkI : ((k : Nat) : Int) = kI at hcall hwith p1 q1 hx3 hit ⊢
       have HCALL := Aside0.mk hcall
       have HWI := Aside0.mk hwith
       have HS2 := Aside0.mk (show s ||| 2 ^ k < 2 ^ G.tasks.length ∧ ordOk G.tasks.length G.needs (l3.drop (j + 1)) (s ||| 2 ^ k) = true ∧ RES = up (startGo G.tasks G.needs l1 a2 (l3.drop (j + 1)) (s ||| 2 ^ k) (L.set k ee)) ∧ StOk G.tasks (L.set k ee) (s ||| 2 ^ k) (j + 1) from ⟨or_lt' hs2 hkn, hord, hres2, hst2⟩)
       have HIT := Aside0.mk hit
       have HLT := Aside0.mk hlt
       have HKL := Aside0.mk (show k < L.length by rw [hst.len]; exact hkn)
       replace p0 := eq_true p0
       replace q0 := eq_true q0
       subst e3
       clear hx hlt hy hdrop hord hres hst hsk hz hin hsubs hst2 he20 hfr hres2 hcall hwith hit hkI hs2 hN8 hkn HS
       go_wp2_with (first | (go_at_call 27; refine (HCALL.out _ (HI0.out.move HV.out) (HT.out.of HB.out) HROW.out (Kd.C_below HR1.out HB.out)).mono ?_; rintro e w3 ⟨rfl, hB2⟩; replace HROW := Aside0.mk ((hB2.block _ (cells_lt HROW.out)).trans HROW.out); replace HB := Aside0.mk (below_step HB.out hB2); replace HV := Aside0.mk (below_step HV.out hB2); clear hB2; have hci := icell HROW.out k HKL.out; have hfi := ifrozen HROW.out k; rw [← HIT.out] at hci hfi) | (go_at_call 26; refine (HWI.out _).mono ?_; rintro e w4 ⟨rfl, rfl⟩))
       go_roundg (l3.length - (j + 1))
       case measure => have h1 := HJ.out.1; have h2 := HLT.out; omega
       case rel => exact ⟨j + 1, s ||| 2 ^ k, _, L.set k ee, rfl, rfl, ⟨by have h2 := HLT.out; omega, by have h1 := HJ.out.2; have h3 := HLT.out; have h4 := HLL.out; unfold wrap64; omega⟩, ⟨HS2.out⟩, ⟨by rw [HIT.out]; exact iset HROW.out k ee⟩, ⟨below_put (grownBy_setCell'' _ _ _ _) HV.out (Nat.le_refl _) (Nat.le_of_eq HPP.out.symm)⟩⟩
      ·rw [if_neg hc] at hord; cases hord
     ·have hx := HJ.out.2
      have hj := HJ.out.1
      have hd : decide (x < (l3.length : Int)) = false := decide_eq_false (by omega)
      obtain ⟨hs2, hord, hres, hst⟩ := HS.out
      rw [List.drop_eq_nil_of_le (by omega)] at hres
      have HRES := Aside0.mk (show RES = up L from hres)
      have HST := Aside0.mk hst
      clear hx hj hlt hs2 hord hres hst HS
      go_wp2
      go_ret
      exact ⟨_, rfl, by rw [HRES.out]; exact icells_R HSZ.out HROW.out HST.out.len h8, HB.out⟩
end Go.Proofs.YtnhkajanbfgbiaaDoor.P
end
section
namespace Go.Proofs.YtnhkajanbfgbiaaDoor.P
open Go.Proofs.YtnhkajanbfgbiaaDoor.Core (Tab Tab.of)
open Go.RowKit Go.Proofs.YtnhkajanbfgbiaaDoorW.PrintWords Go.Proofs.YtnhkajanbfgbiaaDoorW.PrintLast Go.Proofs.YtnhkajanbfgbiaaDoorW.PrintMore
attribute [local go_sem] max2_int min2_int max_two min_two max_three min_three max_four min_four   -- for this text's walks alone
set_option linter.unusedVariables false
set_option linter.unusedSimpArgs false
mutual
noncomputable def laws_FnOrderStartsFirst.j0 : Nat → List (S38) → List Int → Int → List Int → List Int → Bool → Option (Bool)
 | 0, _, _, _, _, _, _ => none
 | k + 1, x3, x4, x5, x6, x7, x38 => if x38 = true then ((spec_OrderStarts.f k x3 x4 x5 x6).bind fun t486 => ((laws_equalInts.f k x7 t486).bind fun t489 => (some t489))) else (laws_FnOrderStartsFirst.l0 k x3 x6 x7 0)
noncomputable def laws_FnOrderStartsFirst.l0 : Nat → List (S38) → List Int → List Int → Int → Option (Bool)
 | 0, _, _, _, _ => none
 | k + 1, x3, x6, x7, x8 => if x8 < (x7.length : Int) then (if 0 ≤ x8 then (laws_FnOrderStartsFirst.l1 k x3 x6 x7 x8 ((rd x7 x8) == 0) 0) else (none)) else (if 0 < (x6.length : Int) then (if 0 ≤ (rd x6 0) then (if (rd x6 0) < (x7.length : Int) then (some ((rd x7 (rd x6 0)) == 0)) else (none)) else (none)) else (none))
noncomputable def laws_FnOrderStartsFirst.l1 : Nat → List (S38) → List Int → List Int → Int → Bool → Int → Option (Bool)
 | 0, _, _, _, _, _, _ => none
 | k + 1, x3, x6, x7, x8, x9, x10 => if x10 < (x7.length : Int) then (if x9 = true then (laws_FnOrderStartsFirst.l1 k x3 x6 x7 x8 true (wrap64 (x10 + 1))) else (if 0 ≤ x10 then (if x10 < (x3.length : Int) then (if 0 ≤ x8 then (if x8 < (x7.length : Int) then (laws_FnOrderStartsFirst.l1 k x3 x6 x7 x8 ((wrap64 ((rd x7 x10) + ((rd_T38 x3 x10).f0))) == (rd x7 x8)) (wrap64 (x10 + 1))) else (none)) else (none)) else (none)) else (none))) else (if x9 = true then (laws_FnOrderStartsFirst.l0 k x3 x6 x7 (wrap64 (x8 + 1))) else (some false))
end
noncomputable def laws_FnOrderStartsFirst.f (k : Nat) (l0 : List Int) : Option (Bool) := if (l0.length : Int) > 1048576 then (some true) else ((spec_DrawOrderStarts.f k l0).bind fun bt469 => ((impl_OrderStarts.f bt469.1 bt469.2.1 bt469.2.2.1 bt469.2.2.2).bind fun t479 => ((spec_OrderStarts.f k bt469.1 bt469.2.1 bt469.2.2.1 bt469.2.2.2).bind fun t482 => ((laws_equalInts.f k t479 t482).bind fun t485 => (if t485 = true then (laws_FnOrderStartsFirst.j0 k bt469.1 bt469.2.1 bt469.2.2.1 bt469.2.2.2 t479 ((t479.length : Int) == 0)) else (laws_FnOrderStartsFirst.j0 k bt469.1 bt469.2.1 bt469.2.2.1 bt469.2.2.2 t479 true))))))
theorem laws_FnOrderStartsFirst.mono_l : ∀ k, (∀ y0 y1 y2 y3 y4 y5, LeO (laws_FnOrderStartsFirst.j0 k y0 y1 y2 y3 y4 y5) (laws_FnOrderStartsFirst.j0 (k + 1) y0 y1 y2 y3 y4 y5)) ∧ (∀ y0 y1 y2 y3, LeO (laws_FnOrderStartsFirst.l0 k y0 y1 y2 y3) (laws_FnOrderStartsFirst.l0 (k + 1) y0 y1 y2 y3)) ∧ (∀ y0 y1 y2 y3 y4 y5, LeO (laws_FnOrderStartsFirst.l1 k y0 y1 y2 y3 y4 y5) (laws_FnOrderStartsFirst.l1 (k + 1) y0 y1 y2 y3 y4 y5))
 | 0 => ⟨fun _ _ _ _ _ _ r h => by simp [laws_FnOrderStartsFirst.j0] at h, fun _ _ _ _ r h => by simp [laws_FnOrderStartsFirst.l0] at h, fun _ _ _ _ _ _ r h => by simp [laws_FnOrderStartsFirst.l1] at h⟩
 | k + 1 => by
  obtain ⟨ih0, ih1, ih2⟩ := laws_FnOrderStartsFirst.mono_l k
  refine ⟨?_, ?_, ?_⟩
  ·intro y0 y1 y2 y3 y4 y5
   unfold laws_FnOrderStartsFirst.j0
   repeat' first
   | (with_reducible exact ih0 _ _ _ _ _ _)
   | (with_reducible exact ih1 _ _ _ _)
   | (with_reducible exact ih2 _ _ _ _ _ _)
   | (with_reducible exact laws_equalInts.mono _ _ _)
   | (with_reducible exact spec_DrawOrderStarts.mono _ _)
   | (with_reducible exact spec_OrderStarts.mono _ _ _ _ _)
   | (with_reducible exact LeO.refl _)
   | (with_reducible exact LeO.none _)
   | (with_reducible refine LeO.ite ?_ ?_)
   | (with_reducible refine LeO.bind ?_ (fun _ => ?_))
   | exact ih0 _ _ _ _ _ _
   | exact ih1 _ _ _ _
   | exact ih2 _ _ _ _ _ _
   | exact laws_equalInts.mono _ _ _
   | exact spec_DrawOrderStarts.mono _ _
   | exact spec_OrderStarts.mono _ _ _ _ _
   | exact LeO.none _
   | refine LeO.ite ?_ ?_
   | refine LeO.bind ?_ (fun _ => ?_)
  ·intro y0 y1 y2 y3
   unfold laws_FnOrderStartsFirst.l0
   repeat' first
   | (with_reducible exact ih0 _ _ _ _ _ _)
   | (with_reducible exact ih1 _ _ _ _)
   | (with_reducible exact ih2 _ _ _ _ _ _)
   | (with_reducible exact laws_equalInts.mono _ _ _)
   | (with_reducible exact spec_DrawOrderStarts.mono _ _)
   | (with_reducible exact spec_OrderStarts.mono _ _ _ _ _)
   | (with_reducible exact LeO.refl _)
   | (with_reducible exact LeO.none _)
   | (with_reducible refine LeO.ite ?_ ?_)
   | (with_reducible refine LeO.bind ?_ (fun _ => ?_))
   | exact ih0 _ _ _ _ _ _
   | exact ih1 _ _ _ _
   | exact ih2 _ _ _ _ _ _
   | exact laws_equalInts.mono _ _ _
   | exact spec_DrawOrderStarts.mono _ _
   | exact spec_OrderStarts.mono _ _ _ _ _
   | exact LeO.none _
   | refine LeO.ite ?_ ?_
   | refine LeO.bind ?_ (fun _ => ?_)
  ·intro y0 y1 y2 y3 y4 y5
   unfold laws_FnOrderStartsFirst.l1
   repeat' first
   | (with_reducible exact ih0 _ _ _ _ _ _)
   | (with_reducible exact ih1 _ _ _ _)
   | (with_reducible exact ih2 _ _ _ _ _ _)
   | (with_reducible exact laws_equalInts.mono _ _ _)
   | (with_reducible exact spec_DrawOrderStarts.mono _ _)
   | (with_reducible exact spec_OrderStarts.mono _ _ _ _ _)
   | (with_reducible exact LeO.refl _)
   | (with_reducible exact LeO.none _)
   | (with_reducible refine LeO.ite ?_ ?_)
   | (with_reducible refine LeO.bind ?_ (fun _ => ?_))
   | exact ih0 _ _ _ _ _ _
   | exact ih1 _ _ _ _
   | exact ih2 _ _ _ _ _ _
   | exact laws_equalInts.mono _ _ _
   | exact spec_DrawOrderStarts.mono _ _
   | exact spec_OrderStarts.mono _ _ _ _ _
   | exact LeO.none _
   | refine LeO.ite ?_ ?_
   | refine LeO.bind ?_ (fun _ => ?_)
theorem laws_FnOrderStartsFirst.mono : ∀ a0 k, LeO (laws_FnOrderStartsFirst.f k a0) (laws_FnOrderStartsFirst.f (k + 1) a0) := by
 intro a0 k
 obtain ⟨ih0, ih1, ih2⟩ := laws_FnOrderStartsFirst.mono_l k
 unfold laws_FnOrderStartsFirst.f
 repeat' first
   | (with_reducible exact ih0 _ _ _ _ _ _)
   | (with_reducible exact ih1 _ _ _ _)
   | (with_reducible exact ih2 _ _ _ _ _ _)
   | (with_reducible exact laws_equalInts.mono _ _ _)
   | (with_reducible exact spec_DrawOrderStarts.mono _ _)
   | (with_reducible exact spec_OrderStarts.mono _ _ _ _ _)
   | (with_reducible exact LeO.refl _)
   | (with_reducible exact LeO.none _)
   | (with_reducible refine LeO.ite ?_ ?_)
   | (with_reducible refine LeO.bind ?_ (fun _ => ?_))
   | exact ih0 _ _ _ _ _ _
   | exact ih1 _ _ _ _
   | exact ih2 _ _ _ _ _ _
   | exact laws_equalInts.mono _ _ _
   | exact spec_DrawOrderStarts.mono _ _
   | exact spec_OrderStarts.mono _ _ _ _ _
   | exact LeO.none _
   | refine LeO.ite ?_ ?_
   | refine LeO.bind ?_ (fun _ => ?_)
set_option maxHeartbeats 8000000 in
set_option maxRecDepth 100000 in
theorem laws_FnOrderStartsFirst.calls (k : Nat) (A0 : Option Addr) (c0 : Nat) (l0 : List Int) (r : Bool) (w : World) (hr0 : Kd.C (Kd.int .u8) w A0 l0.length l0) (hc0 : l0.length ≤ c0) (hT : Tab w) (h : laws_FnOrderStartsFirst.f k l0 = some r) :
  Calls Tryd.prog 4 #[.slice A0 l0.length c0] w fun e w' => e = .returned (.bool r) ∧ Below w.heap.size w w' := by
 have HT := Aside0.mk hT
 clear hT
 have HR0 := Aside0.mk hr0
 have HC0 := Aside0.mk hc0
 clear hr0 hc0
 have HB := Aside0.mk (Below.refl w.heap.size w)
 have H : (if (l0.length : Int) > 1048576 then (some true) else ((spec_DrawOrderStarts.f k l0).bind fun bt469 => ((impl_OrderStarts.f bt469.1 bt469.2.1 bt469.2.2.1 bt469.2.2.2).bind fun t479 => ((spec_OrderStarts.f k bt469.1 bt469.2.1 bt469.2.2.1 bt469.2.2.2).bind fun t482 => ((laws_equalInts.f k t479 t482).bind fun t485 => (if t485 = true then (laws_FnOrderStartsFirst.j0 k bt469.1 bt469.2.1 bt469.2.2.1 bt469.2.2.2 t479 ((t479.length : Int) == 0)) else (laws_FnOrderStartsFirst.j0 k bt469.1 bt469.2.1 bt469.2.2.1 bt469.2.2.2 t479 true))))))) = some r := h
 clear h
 by_cases c2 : (l0.length : Int) > 1048576
 ·rw [if_pos c2] at H
  have c2b0 : decide (1048576 < (l0.length : Int)) = true := decide_eq_true c2
  have c2b1 : decide (1048576 < l0.length) = true := decide_eq_true (by omega)
  clear c2
  obtain rfl := Option.some.inj H
  go_enter Tryd.func4, Tryd.ntmps4
  go_wp2
  repeat (go_quiet (fail); try go_wp2)
  go_ret
  exact ⟨by first | rfl | (simp [errW_none, errW_some] <;> rfl) | (simp [*, errW_none, errW_some] <;> rfl), HB.out⟩
 ·rw [if_neg c2] at H
  have c2b0 : decide (1048576 < (l0.length : Int)) = false := decide_eq_false c2
  have c2b1 : decide (1048576 < l0.length) = false := decide_eq_false (by omega)
  clear c2
  replace H := Option.bind_eq_some_iff.mp H
  obtain ⟨⟨t469, t470, t471, t472⟩, A30, H⟩ := H
  replace H : ((impl_OrderStarts.f t469 t470 t471 t472).bind fun t479 => ((spec_OrderStarts.f k t469 t470 t471 t472).bind fun t482 => ((laws_equalInts.f k t479 t482).bind fun t485 => (if t485 = true then (laws_FnOrderStartsFirst.j0 k t469 t470 t471 t472 t479 ((t479.length : Int) == 0)) else (laws_FnOrderStartsFirst.j0 k t469 t470 t471 t472 t479 true))))) = some r := H
  have A3 := Aside0.mk A30
  clear A30
  replace H := Option.bind_eq_some_iff.mp H
  obtain ⟨t479, A40, H⟩ := H
  replace H : ((spec_OrderStarts.f k t469 t470 t471 t472).bind fun t482 => ((laws_equalInts.f k t479 t482).bind fun t485 => (if t485 = true then (laws_FnOrderStartsFirst.j0 k t469 t470 t471 t472 t479 ((t479.length : Int) == 0)) else (laws_FnOrderStartsFirst.j0 k t469 t470 t471 t472 t479 true)))) = some r := H
  have A4 := Aside0.mk A40
  clear A40
  have HC5 := Aside0.mk H
  clear H
  go_enter Tryd.func4, Tryd.ntmps4
  go_upto_region 5 with (first | (go_at_call 15; (with_reducible refine (spec_DrawOrderStarts.calls k _ _ l0 t469 t470 t471 t472 _ ?side1 ?side2 A3.out).mono ?_); (case side1 => exact HR0.out); (case side2 => exact HC0.out); rintro e w6 ⟨v473, v475, v477, rfl, ho0, ho1, ho2, hb⟩; have n0_ := Aside0.mk (Kd.S_lower ho0 (below_size HB.out)); have n1_ := Aside0.mk (Kd.Q_lower ho1 (below_size HB.out)); have n2_ := Aside0.mk (Kd.Q_lower ho2 (below_size HB.out)); have n3_ := Aside0.mk (below_step HB.out hb); clear HB; have HO474 := n0_; have HO476 := n1_; have HO478 := n2_; have HB := n3_; clear n0_ n1_ n2_ n3_; (try clear hb); (try clear hb2); (try clear hk); (try clear hi); (try clear ho0); (try clear ho1); (try clear ho2); obtain ⟨Ao7, co7, eo7⟩ := Kd.S_slice HO474.out; subst eo7; obtain ⟨Ao8, co8, eo8, _⟩ := Kd.Q_slice HO476.out; subst eo8; obtain ⟨Ao9, co9, eo9, _⟩ := Kd.Q_slice HO478.out; subst eo9) | (go_at_call 9; (with_reducible refine (impl_OrderStarts.calls _ _ t469 _ _ t470 t471 _ _ t472 t479 _ ?side1 ?side2 ?side3 ?side4 ?side5 ?side6 ?side7 A4.out).mono ?_); (case side1 => exact (Kd.S_reads' HO474.out).2.2); (case side2 => exact (Kd.S_reads' HO474.out).2.1); (case side3 => exact (Kd.Q_reads' HO476.out).2.2); (case side4 => exact (Kd.Q_reads' HO476.out).2.1); (case side5 => exact (Kd.Q_reads' HO478.out).2.2); (case side6 => exact (Kd.Q_reads' HO478.out).2.1); (case side7 => exact Tab.of HT.out HB.out); rintro e w10 ⟨v480, rfl, ho0, hb⟩; have n0_ := Aside0.mk (Kd.S_elder' HO474.out (Kd.R_base ho0) hb); have n1_ := Aside0.mk (Kd.Q_elder' HO476.out (Kd.R_base ho0) hb); have n2_ := Aside0.mk (Kd.Q_elder' HO478.out (Kd.R_base ho0) hb); have n3_ := Aside0.mk (Kd.R_lower (Kd.R_new' (Kd.R_new' ho0 (Kd.Q_lt HO476.out)) (Kd.Q_lt HO478.out)) (below_size HB.out)); have n4_ := Aside0.mk (below_step HB.out hb); clear HO474; clear HO476; clear HO478; clear HB; have HO474 := n0_; have HO476 := n1_; have HO478 := n2_; have HO481 := n3_; have HB := n4_; clear n0_ n1_ n2_ n3_ n4_; (try clear hb); (try clear hb2); (try clear hk); (try clear hi); (try clear ho0)))
  (try simp only [Act.put, List.setIfInBounds_toArray, List.set_cons_zero, List.set_cons_succ])
  go_cut [38] (fun v38 wc => ∃ (kq : Nat) (x38_4 : Bool), v38 = .bool x38_4 ∧ Aside0 (laws_FnOrderStartsFirst.j0 kq t469 t470 t471 t472 t479 x38_4 = some r) ∧ Aside0 (kq ≤ k) ∧ Aside0 (Kd.S k38 38 wc w.heap.size (fun k_ => some k_ ≠ ((.slice Ao8 t470.length co8) : Value).ownBlock ∧ some k_ ≠ ((.slice Ao9 t472.length co9) : Value).ownBlock ∧ some k_ ≠ (v480 : Value).ownBlock) (.slice Ao7 t469.length co7) t469) ∧ Aside0 (Kd.Q (Kd.int .i64) 3 wc w.heap.size (fun k_ => some k_ ≠ ((.slice Ao9 t472.length co9) : Value).ownBlock ∧ some k_ ≠ (v480 : Value).ownBlock) (.slice Ao8 t470.length co8) t470) ∧ Aside0 (Kd.Q (Kd.int .i64) 3 wc w.heap.size (fun k_ => some k_ ≠ ((.slice Ao8 t470.length co8) : Value).ownBlock ∧ some k_ ≠ (v480 : Value).ownBlock) (.slice Ao9 t472.length co9) t472) ∧ Aside0 (Kd.R (Kd.int .i64) 3 wc w.heap.size (fun k_ => some k_ ≠ ((.slice Ao8 t470.length co8) : Value).ownBlock ∧ some k_ ≠ ((.slice Ao9 t472.length co9) : Value).ownBlock) v480 t479) ∧ Aside0 (Below w.heap.size w wc))
  case first =>
   have H := HC5.out
   clear HC5
   replace H := Option.bind_eq_some_iff.mp H
   obtain ⟨t482, A110, H⟩ := H
   replace H : ((laws_equalInts.f k t479 t482).bind fun t485 => (if t485 = true then (laws_FnOrderStartsFirst.j0 k t469 t470 t471 t472 t479 ((t479.length : Int) == 0)) else (laws_FnOrderStartsFirst.j0 k t469 t470 t471 t472 t479 true))) = some r := H
   have A11 := Aside0.mk A110
   clear A110
   replace H := Option.bind_eq_some_iff.mp H
   obtain ⟨t485, A120, H⟩ := H
   replace H : (if t485 = true then (laws_FnOrderStartsFirst.j0 k t469 t470 t471 t472 t479 ((t479.length : Int) == 0)) else (laws_FnOrderStartsFirst.j0 k t469 t470 t471 t472 t479 true)) = some r := H
   have A12 := Aside0.mk A120
   clear A120
   by_cases c13 : t485 = true
   ·subst c13
    have H1 : (laws_FnOrderStartsFirst.j0 k t469 t470 t471 t472 t479 ((t479.length : Int) == 0)) = some r := by rw [if_pos rfl] at H; exact H
    clear H
    have H := H1
    clear H1
    have H' := Aside0.mk H
    clear H
    go_wp2_with (first | (go_at_call 6; (with_reducible refine (spec_OrderStarts.calls k _ _ t469 _ _ t470 t471 _ _ t472 t482 _ ?side1 ?side2 ?side3 ?side4 ?side5 ?side6 A11.out).mono ?_); (case side1 => exact (Kd.S_reads' HO474.out).2.2); (case side2 => exact (Kd.S_reads' HO474.out).2.1); (case side3 => exact (Kd.Q_reads' HO476.out).2.2); (case side4 => exact (Kd.Q_reads' HO476.out).2.1); (case side5 => exact (Kd.Q_reads' HO478.out).2.2); (case side6 => exact (Kd.Q_reads' HO478.out).2.1); rintro e w14 ⟨v483, rfl, ho0, hb⟩; have n0_ := Aside0.mk (Kd.S_elder' HO474.out (Kd.R_base ho0) hb); have n1_ := Aside0.mk (Kd.Q_elder' HO476.out (Kd.R_base ho0) hb); have n2_ := Aside0.mk (Kd.Q_elder' HO478.out (Kd.R_base ho0) hb); have n3_ := Aside0.mk (Kd.R_elder' HO481.out (Kd.R_base ho0) hb); have n4_ := Aside0.mk (Kd.R_lower (Kd.R_new' (Kd.R_new' (Kd.R_new' ho0 (Kd.Q_lt HO476.out)) (Kd.Q_lt HO478.out)) (Kd.R_lt HO481.out)) (below_size HB.out)); have n5_ := Aside0.mk (below_step HB.out hb); clear HO474; clear HO476; clear HO478; clear HO481; clear HB; have HO474 := n0_; have HO476 := n1_; have HO478 := n2_; have HO481 := n3_; have HO484 := n4_; have HB := n5_; clear n0_ n1_ n2_ n3_ n4_ n5_; (try clear hb); (try clear hb2); (try clear hk); (try clear hi); (try clear ho0); obtain ⟨Ao15, co15, eo15⟩ := Kd.R_slice HO481.out; subst eo15; obtain ⟨Ao16, co16, eo16⟩ := Kd.R_slice HO484.out; subst eo16) | (go_at_call 16; (with_reducible refine (laws_equalInts.calls k _ _ t479 _ _ t482 true _ ?side1 ?side2 ?side3 ?side4 A12.out).mono ?_); (case side1 => exact (Kd.R_reads' HO481.out).2.2); (case side2 => exact (Kd.R_reads' HO481.out).2.1); (case side3 => exact (Kd.R_reads' HO484.out).2.2); (case side4 => exact (Kd.R_reads' HO484.out).2.1); rintro e w' ⟨rfl, ⟨nd, rfl⟩⟩; (try first | exact ⟨rfl, _, World.drewN_drewN _ _ _⟩ | exact ⟨rfl, _, Eq.trans (World.drewN_drewN _ _ _) (congrArg (World.drewN _) (Nat.add_assoc _ _ _))⟩)))
    go_meet
    case rel => exact ⟨_, (((t479.length : Int) == 0)), (by first | rfl | (simp; done) | (simp [*]; done)), H', ⟨by first | omega | exact Nat.le_refl _⟩, ⟨by (with_reducible repeat (first | apply Kd.S_alloc | apply Kd.S_drewN | apply Kd.S_drew)); exact Kd.S_mono HO474.out (fun _ hk => ⟨hk.1.1.1, ⟨hk.1.1.2, hk.1.2⟩⟩)⟩, ⟨by (with_reducible repeat (first | apply Kd.Q_alloc | apply Kd.Q_drewN | apply Kd.Q_drew)); exact Kd.Q_mono HO476.out (fun _ hk => ⟨hk.1.1, hk.1.2⟩)⟩, ⟨by (with_reducible repeat (first | apply Kd.Q_alloc | apply Kd.Q_drewN | apply Kd.Q_drew)); exact Kd.Q_mono HO478.out (fun _ hk => ⟨hk.1.1, hk.1.2⟩)⟩, ⟨by (with_reducible repeat (first | apply Kd.R_alloc | apply Kd.R_drewN | apply Kd.R_drew)); exact Kd.R_mono HO481.out (fun _ hk => ⟨hk.1.1.2, hk.1.2⟩)⟩, ⟨by repeat (first | (with_reducible first | exact HB.out | apply below_alloc | apply pw_below_drewN | apply below_drew1) | exact HB.out)⟩⟩
   ·replace c13 := Bool.eq_false_iff.mpr c13
    subst c13
    have H1 : (laws_FnOrderStartsFirst.j0 k t469 t470 t471 t472 t479 true) = some r := by rw [if_neg (show ¬ (false = true) by decide)] at H; exact H
    clear H
    have H := H1
    clear H1
    have H' := Aside0.mk H
    clear H
    go_wp2_with (first | (go_at_call 6; (with_reducible refine (spec_OrderStarts.calls k _ _ t469 _ _ t470 t471 _ _ t472 t482 _ ?side1 ?side2 ?side3 ?side4 ?side5 ?side6 A11.out).mono ?_); (case side1 => exact (Kd.S_reads' HO474.out).2.2); (case side2 => exact (Kd.S_reads' HO474.out).2.1); (case side3 => exact (Kd.Q_reads' HO476.out).2.2); (case side4 => exact (Kd.Q_reads' HO476.out).2.1); (case side5 => exact (Kd.Q_reads' HO478.out).2.2); (case side6 => exact (Kd.Q_reads' HO478.out).2.1); rintro e w17 ⟨v483, rfl, ho0, hb⟩; have n0_ := Aside0.mk (Kd.S_elder' HO474.out (Kd.R_base ho0) hb); have n1_ := Aside0.mk (Kd.Q_elder' HO476.out (Kd.R_base ho0) hb); have n2_ := Aside0.mk (Kd.Q_elder' HO478.out (Kd.R_base ho0) hb); have n3_ := Aside0.mk (Kd.R_elder' HO481.out (Kd.R_base ho0) hb); have n4_ := Aside0.mk (Kd.R_lower (Kd.R_new' (Kd.R_new' (Kd.R_new' ho0 (Kd.Q_lt HO476.out)) (Kd.Q_lt HO478.out)) (Kd.R_lt HO481.out)) (below_size HB.out)); have n5_ := Aside0.mk (below_step HB.out hb); clear HO474; clear HO476; clear HO478; clear HO481; clear HB; have HO474 := n0_; have HO476 := n1_; have HO478 := n2_; have HO481 := n3_; have HO484 := n4_; have HB := n5_; clear n0_ n1_ n2_ n3_ n4_ n5_; (try clear hb); (try clear hb2); (try clear hk); (try clear hi); (try clear ho0); obtain ⟨Ao18, co18, eo18⟩ := Kd.R_slice HO481.out; subst eo18; obtain ⟨Ao19, co19, eo19⟩ := Kd.R_slice HO484.out; subst eo19) | (go_at_call 16; (with_reducible refine (laws_equalInts.calls k _ _ t479 _ _ t482 false _ ?side1 ?side2 ?side3 ?side4 A12.out).mono ?_); (case side1 => exact (Kd.R_reads' HO481.out).2.2); (case side2 => exact (Kd.R_reads' HO481.out).2.1); (case side3 => exact (Kd.R_reads' HO484.out).2.2); (case side4 => exact (Kd.R_reads' HO484.out).2.1); rintro e w' ⟨rfl, ⟨nd, rfl⟩⟩; (try first | exact ⟨rfl, _, World.drewN_drewN _ _ _⟩ | exact ⟨rfl, _, Eq.trans (World.drewN_drewN _ _ _) (congrArg (World.drewN _) (Nat.add_assoc _ _ _))⟩)))
    go_meet
    case rel => exact ⟨_, (true), (by first | rfl | (simp; done) | (simp [*]; done)), H', ⟨by first | omega | exact Nat.le_refl _⟩, ⟨by (with_reducible repeat (first | apply Kd.S_alloc | apply Kd.S_drewN | apply Kd.S_drew)); exact Kd.S_mono HO474.out (fun _ hk => ⟨hk.1.1.1, ⟨hk.1.1.2, hk.1.2⟩⟩)⟩, ⟨by (with_reducible repeat (first | apply Kd.Q_alloc | apply Kd.Q_drewN | apply Kd.Q_drew)); exact Kd.Q_mono HO476.out (fun _ hk => ⟨hk.1.1, hk.1.2⟩)⟩, ⟨by (with_reducible repeat (first | apply Kd.Q_alloc | apply Kd.Q_drewN | apply Kd.Q_drew)); exact Kd.Q_mono HO478.out (fun _ hk => ⟨hk.1.1, hk.1.2⟩)⟩, ⟨by (with_reducible repeat (first | apply Kd.R_alloc | apply Kd.R_drewN | apply Kd.R_drew)); exact Kd.R_mono HO481.out (fun _ hk => ⟨hk.1.1.2, hk.1.2⟩)⟩, ⟨by repeat (first | (with_reducible first | exact HB.out | apply below_alloc | apply pw_below_drewN | apply below_drew1) | exact HB.out)⟩⟩
  case rest =>
   clear HC5
   try clear c1
   try clear c2
   try clear c2b0
   try clear c2b1
   try clear p2
   try clear c4
   try clear c13
   obtain ⟨kq, x38_4, rfl, HA, HJ4, HO_3, HO_4, HO_6, HO_7, HB⟩ := hcut
   cases kq with
   | zero => exact absurd HA.out (by simp [laws_FnOrderStartsFirst.j0])
   | succ kj4 =>
    have H := HA.out
    clear HA
    simp only [laws_FnOrderStartsFirst.j0] at H
    by_cases c20 : x38_4 = true
    ·subst c20
     have H1 : ((spec_OrderStarts.f kj4 t469 t470 t471 t472).bind fun t486 => ((laws_equalInts.f kj4 t479 t486).bind fun t489 => (some t489))) = some r := by rw [if_pos rfl] at H; exact H
     clear H
     have H := H1
     clear H1
     replace H := Option.bind_eq_some_iff.mp H
     obtain ⟨t486, A210, H⟩ := H
     replace H : ((laws_equalInts.f kj4 t479 t486).bind fun t489 => (some t489)) = some r := H
     have A21 := Aside0.mk A210
     clear A210
     replace H := Option.bind_eq_some_iff.mp H
     obtain ⟨t489, A220, H⟩ := H
     replace H : (some t489) = some r := H
     have A22 := Aside0.mk A220
     clear A220
     obtain rfl := Option.some.inj H
     go_wp2_with (first | (go_at_call 6; (with_reducible refine (spec_OrderStarts.calls kj4 _ _ t469 _ _ t470 t471 _ _ t472 t486 _ ?side1 ?side2 ?side3 ?side4 ?side5 ?side6 A21.out).mono ?_); (case side1 => exact (Kd.S_reads' HO_3.out).2.2); (case side2 => exact (Kd.S_reads' HO_3.out).2.1); (case side3 => exact (Kd.Q_reads' HO_4.out).2.2); (case side4 => exact (Kd.Q_reads' HO_4.out).2.1); (case side5 => exact (Kd.Q_reads' HO_6.out).2.2); (case side6 => exact (Kd.Q_reads' HO_6.out).2.1); rintro e w23 ⟨v487, rfl, ho0, hb⟩; have n0_ := Aside0.mk (Kd.S_elder' HO_3.out (Kd.R_base ho0) hb); have n1_ := Aside0.mk (Kd.Q_elder' HO_4.out (Kd.R_base ho0) hb); have n2_ := Aside0.mk (Kd.Q_elder' HO_6.out (Kd.R_base ho0) hb); have n3_ := Aside0.mk (Kd.R_elder' HO_7.out (Kd.R_base ho0) hb); have n4_ := Aside0.mk (Kd.R_lower (Kd.R_new' (Kd.R_new' (Kd.R_new' ho0 (Kd.Q_lt HO_4.out)) (Kd.Q_lt HO_6.out)) (Kd.R_lt HO_7.out)) (below_size HB.out)); have n5_ := Aside0.mk (below_step HB.out hb); clear HO_3; clear HO_4; clear HO_6; clear HO_7; clear HB; have HO_3 := n0_; have HO_4 := n1_; have HO_6 := n2_; have HO_7 := n3_; have HO488 := n4_; have HB := n5_; clear n0_ n1_ n2_ n3_ n4_ n5_; (try clear hb); (try clear hb2); (try clear hk); (try clear hi); (try clear ho0); obtain ⟨Ao24, co24, eo24⟩ := Kd.R_slice HO_7.out; subst eo24; obtain ⟨Ao25, co25, eo25⟩ := Kd.R_slice HO488.out; subst eo25) | (go_at_call 16; (with_reducible refine (laws_equalInts.calls kj4 _ _ t479 _ _ t486 t489 _ ?side1 ?side2 ?side3 ?side4 A22.out).mono ?_); (case side1 => exact (Kd.R_reads' HO_7.out).2.2); (case side2 => exact (Kd.R_reads' HO_7.out).2.1); (case side3 => exact (Kd.R_reads' HO488.out).2.2); (case side4 => exact (Kd.R_reads' HO488.out).2.1); rintro e w' ⟨rfl, ⟨nd, rfl⟩⟩; (try first | exact ⟨rfl, _, World.drewN_drewN _ _ _⟩ | exact ⟨rfl, _, Eq.trans (World.drewN_drewN _ _ _) (congrArg (World.drewN _) (Nat.add_assoc _ _ _))⟩)))
     go_ret
     exact ⟨by first | rfl | (simp [errW_none, errW_some] <;> rfl) | (simp [*, errW_none, errW_some] <;> rfl), by repeat (first | (with_reducible first | exact HB.out | apply below_alloc | apply pw_below_drewN | apply below_drew1) | exact HB.out)⟩
    ·replace c20 := Bool.eq_false_iff.mpr c20
     subst c20
     have H1 : (laws_FnOrderStartsFirst.l0 kj4 t469 t472 t479 0) = some r := by rw [if_neg (show ¬ (false = true) by decide)] at H; exact H
     clear H
     have H := H1
     clear H1
     have H' := Aside0.mk H
     clear H
     go_wp2
     repeat (go_quiet (fail); try go_wp2)
     go_loopg [8] kj4 (fun kq v8 w' => ∃ (x8_2 : Int), v8 = .int .i64 x8_2 ∧ Aside0 (laws_FnOrderStartsFirst.l0 kq t469 t472 t479 x8_2 = some r) ∧ Aside0 (kq ≤ kj4) ∧ Aside0 (Kd.S k38 38 w' w.heap.size (fun k_ => some k_ ≠ ((.slice Ao9 t472.length co9) : Value).ownBlock ∧ some k_ ≠ (v480 : Value).ownBlock) (.slice Ao7 t469.length co7) t469) ∧ Aside0 (Kd.Q (Kd.int .i64) 3 w' w.heap.size (fun k_ => some k_ ≠ (v480 : Value).ownBlock) (.slice Ao9 t472.length co9) t472) ∧ Aside0 (Kd.R (Kd.int .i64) 3 w' w.heap.size (fun k_ => some k_ ≠ ((.slice Ao9 t472.length co9) : Value).ownBlock) v480 t479) ∧ Aside0 (Below w.heap.size w w'))
     case atStart => exact ⟨(0), (by first | rfl | (simp; done) | (simp [*]; done)), H', ⟨Nat.le_refl _⟩, ⟨by (with_reducible repeat (first | apply Kd.S_alloc | apply Kd.S_drewN | apply Kd.S_drew)); exact Kd.S_mono HO_3.out (fun _ hk => ⟨hk.2.1, hk.2.2⟩)⟩, ⟨by (with_reducible repeat (first | apply Kd.Q_alloc | apply Kd.Q_drewN | apply Kd.Q_drew)); exact Kd.Q_mono HO_6.out (fun _ hk => hk.2)⟩, ⟨by (with_reducible repeat (first | apply Kd.R_alloc | apply Kd.R_drewN | apply Kd.R_drew)); exact Kd.R_mono HO_7.out (fun _ hk => hk.2)⟩, ⟨HB.out⟩⟩
     case round =>
      clear H'
      try clear c1
      try clear c2
      try clear c2b0
      try clear c2b1
      try clear p2
      try clear c4
      try clear c13
      try clear c20
      try clear p2
      obtain ⟨x8_2, rfl, HA, HK2, HO_3, HO_6, HO_7, HB⟩ := hrel
      cases gk with
      | zero => exact absurd HA.out (by simp [laws_FnOrderStartsFirst.l0])
      | succ k2 =>
       have H := HA.out
       clear HA
       simp only [laws_FnOrderStartsFirst.l0] at H
       by_cases c26 : x8_2 < (t479.length : Int)
       ·rw [if_pos c26] at H
        have c26b0 : decide (x8_2 < (t479.length : Int)) = true := decide_eq_true c26
        clear c26
        by_cases c27 : 0 ≤ x8_2
        ·rw [if_pos c27] at H
         have c27b0 : decide (0 ≤ x8_2) = true := decide_eq_true c27
         clear c27
         have H' := Aside0.mk H
         clear H
         obtain ⟨Ao28, co28, eo28⟩ := Kd.R_slice HO_7.out
         subst eo28
         have p492 : 0 ≤ (x8_2 : Int) := of_decide_eq_true (by first | (with_reducible assumption) | assumption)
         have q492 : x8_2 < (t479.length : Int) := of_decide_eq_true (by first | (with_reducible assumption) | assumption)
         obtain ⟨ad492, e492, hx492_0⟩ := Kd.at_int (Kd.R_reads' HO_7.out).2.2 x8_2 p492 q492
         cases e492
         replace p492 := eq_true p492
         replace q492 := eq_true q492
         go_wp2
         repeat (go_quiet (fail); try go_wp2)
         go_loopg [9, 10] k2 (fun kq v9 v10 w' => ∃ (x9_3 : Bool) (x10_3 : Int), v9 = .bool x9_3 ∧ v10 = .int .i64 x10_3 ∧ Aside0 (laws_FnOrderStartsFirst.l1 kq t469 t472 t479 x8_2 x9_3 x10_3 = some r) ∧ Aside0 (kq ≤ k2) ∧ Aside0 (Kd.S k38 38 w' w.heap.size (fun k_ => some k_ ≠ ((.slice Ao9 t472.length co9) : Value).ownBlock ∧ some k_ ≠ ((.slice (some ad492) t479.length co28) : Value).ownBlock) (.slice Ao7 t469.length co7) t469) ∧ Aside0 (Kd.Q (Kd.int .i64) 3 w' w.heap.size (fun k_ => some k_ ≠ ((.slice (some ad492) t479.length co28) : Value).ownBlock) (.slice Ao9 t472.length co9) t472) ∧ Aside0 (Kd.R (Kd.int .i64) 3 w' w.heap.size (fun k_ => some k_ ≠ ((.slice Ao9 t472.length co9) : Value).ownBlock) (.slice (some ad492) t479.length co28) t479) ∧ Aside0 (Below w.heap.size w w'))
         case atStart => exact ⟨(((rd t479 x8_2) == 0)), (0), (by first | rfl | (simp; done) | (simp [*]; done)), (by first | rfl | (simp; done) | (simp [*]; done)), H', ⟨Nat.le_refl _⟩, ⟨HO_3.out⟩, ⟨HO_6.out⟩, ⟨HO_7.out⟩, ⟨HB.out⟩⟩
         case round =>
          clear H'
          try clear c1
          try clear c2
          try clear c2b0
          try clear c2b1
          try clear p2
          try clear c4
          try clear p4
          try clear q4
          try clear hx4
          try clear c13
          try clear c20
          try clear c26
          try clear c26b0
          try clear c27
          try clear c27b0
          try clear hx492_0
          try clear p2
          try clear p492
          try clear q492
          obtain ⟨x9_3, x10_3, rfl, rfl, HA, HK3, HO_3, HO_6, HO_7, HB⟩ := hrel
          cases gk with
          | zero => exact absurd HA.out (by simp [laws_FnOrderStartsFirst.l1])
          | succ k3 =>
           have H := HA.out
           clear HA
           simp only [laws_FnOrderStartsFirst.l1] at H
           by_cases c29 : x10_3 < (t479.length : Int)
           ·rw [if_pos c29] at H
            have c29b0 : decide (x10_3 < (t479.length : Int)) = true := decide_eq_true c29
            clear c29
            by_cases c30 : x9_3 = true
            ·subst c30
             have H1 : (laws_FnOrderStartsFirst.l1 k3 t469 t472 t479 x8_2 true (wrap64 (x10_3 + 1))) = some r := by rw [if_pos rfl] at H; exact H
             clear H
             have H := H1
             clear H1
             have H' := Aside0.mk H
             clear H
             go_wp2
             repeat (go_quiet (fail); try go_wp2)
             go_roundg k3
             case measure => have := HJ4.out; have := HK2.out; have := HK3.out; omega
             case rel => exact ⟨(true), (wrap64 (x10_3 + 1)), (by first | rfl | (simp; done) | (simp [*]; done)), (by first | rfl | (simp; done) | (simp [*]; done)), H', ⟨by have := HJ4.out; have := HK2.out; have := HK3.out; omega⟩, ⟨by (with_reducible repeat (first | apply Kd.S_alloc | apply Kd.S_drewN | apply Kd.S_drew)); exact HO_3.out⟩, ⟨by (with_reducible repeat (first | apply Kd.Q_alloc | apply Kd.Q_drewN | apply Kd.Q_drew)); exact HO_6.out⟩, ⟨by (with_reducible repeat (first | apply Kd.R_alloc | apply Kd.R_drewN | apply Kd.R_drew)); exact HO_7.out⟩, ⟨by repeat (first | (with_reducible first | exact HB.out | apply below_alloc | apply pw_below_drewN | apply below_drew1) | exact HB.out)⟩⟩
            ·replace c30 := Bool.eq_false_iff.mpr c30
             subst c30
             have H1 : (if 0 ≤ x10_3 then (if x10_3 < (t469.length : Int) then (if 0 ≤ x8_2 then (if x8_2 < (t479.length : Int) then (laws_FnOrderStartsFirst.l1 k3 t469 t472 t479 x8_2 ((wrap64 ((rd t479 x10_3) + ((rd_T38 t469 x10_3).f0))) == (rd t479 x8_2)) (wrap64 (x10_3 + 1))) else (none)) else (none)) else (none)) else (none)) = some r := by rw [if_neg (show ¬ (false = true) by decide)] at H; exact H
             clear H
             have H := H1
             clear H1
             by_cases c31 : 0 ≤ x10_3
             ·rw [if_pos c31] at H
              have c31b0 : decide (0 ≤ x10_3) = true := decide_eq_true c31
              clear c31
              by_cases c32 : x10_3 < (t469.length : Int)
              ·rw [if_pos c32] at H
               have c32b0 : decide (x10_3 < (t469.length : Int)) = true := decide_eq_true c32
               clear c32
               by_cases c33 : 0 ≤ x8_2
               ·rw [if_pos c33] at H
                have c33b0 : decide (0 ≤ x8_2) = true := decide_eq_true c33
                clear c33
                by_cases c34 : x8_2 < (t479.length : Int)
                ·rw [if_pos c34] at H
                 have c34b0 : decide (x8_2 < (t479.length : Int)) = true := decide_eq_true c34
                 clear c34
                 have H' := Aside0.mk H
                 clear H
                 have p493 : 0 ≤ (x10_3 : Int) := of_decide_eq_true (by first | (with_reducible assumption) | assumption)
                 have q493 : x10_3 < (t479.length : Int) := of_decide_eq_true (by first | (with_reducible assumption) | assumption)
                 obtain ⟨ad493, e493, hx493_0⟩ := Kd.at_int (Kd.R_reads' HO_7.out).2.2 x10_3 p493 q493
                 obtain rfl : ad492 = ad493 := (by injection e493)
                 replace p493 := eq_true p493
                 replace q493 := eq_true q493
                 have p494 : 0 ≤ (x10_3 : Int) := of_decide_eq_true (by first | (with_reducible assumption) | assumption)
                 have q494 : x10_3 < (t469.length : Int) := of_decide_eq_true (by first | (with_reducible assumption) | assumption)
                 obtain ⟨ad494, A494_1, c494_1, e494, hx494_0, hx494_1, hx494_2, hx494_3, hl494_1, hi494_1⟩ := at_T38 (Kd.S_reads' HO_3.out).2.2 x10_3 p494 q494
                 cases e494
                 obtain ⟨ce494, hce494, hMe494, hcc494⟩ := Kd.S_get HO_3.out z38 x10_3 p494 (by first | exact q494 | exact of_decide_eq_true (by first | (with_reducible assumption) | assumption) | (have e_ := (Kd.S_reads' HO_3.out).1; omega))
                 obtain ⟨ve494_1, rfl, ge494_1⟩ := k38_openM hMe494
                 have hv494_1 := hcc494 1 _ rfl
                 rw [add_field _ _ 1 (by omega)] at hv494_1
                 replace hv494_1 := Option.some.inj (hv494_1.symm.trans hx494_1)
                 rw [hv494_1] at ge494_1
                 have HL494_1 := Aside0.mk (show Kd.Q (Kd.int .i64) 3 _ _ _ _ ((rd_T38 t469 x10_3).f1) from ge494_1)
                 clear hv494_1 ge494_1
                 clear hcc494 hce494
                 have HR494_1 := Aside0.mk hi494_1
                 have HC494_1 := Aside0.mk hl494_1
                 clear hi494_1 hl494_1
                 replace p494 := eq_true p494
                 replace q494 := eq_true q494
                 have p495 : 0 ≤ (x8_2 : Int) := of_decide_eq_true (by first | (with_reducible assumption) | assumption)
                 have q495 : x8_2 < (t479.length : Int) := of_decide_eq_true (by first | (with_reducible assumption) | assumption)
                 obtain ⟨ad495, e495, hx495_0⟩ := Kd.at_int (Kd.R_reads' HO_7.out).2.2 x8_2 p495 q495
                 obtain rfl : ad492 = ad495 := (by injection e495)
                 replace p495 := eq_true p495
                 replace q495 := eq_true q495
                 go_wp2
                 repeat (go_quiet (fail); try go_wp2)
                 go_roundg k3
                 case measure => have := HJ4.out; have := HK2.out; have := HK3.out; omega
                 case rel => exact ⟨(((wrap64 ((rd t479 x10_3) + ((rd_T38 t469 x10_3).f0))) == (rd t479 x8_2))), (wrap64 (x10_3 + 1)), (by first | rfl | (simp; done) | (simp [*]; done)), (by first | rfl | (simp; done) | (simp [*]; done)), H', ⟨by have := HJ4.out; have := HK2.out; have := HK3.out; omega⟩, ⟨by (with_reducible repeat (first | apply Kd.S_alloc | apply Kd.S_drewN | apply Kd.S_drew)); exact HO_3.out⟩, ⟨by (with_reducible repeat (first | apply Kd.Q_alloc | apply Kd.Q_drewN | apply Kd.Q_drew)); exact HO_6.out⟩, ⟨by (with_reducible repeat (first | apply Kd.R_alloc | apply Kd.R_drewN | apply Kd.R_drew)); exact HO_7.out⟩, ⟨by repeat (first | (with_reducible first | exact HB.out | apply below_alloc | apply pw_below_drewN | apply below_drew1) | exact HB.out)⟩⟩
                ·rw [if_neg c34] at H
                 exact absurd H (by simp)
               ·rw [if_neg c33] at H
                exact absurd H (by simp)
              ·rw [if_neg c32] at H
               exact absurd H (by simp)
             ·rw [if_neg c31] at H
              exact absurd H (by simp)
           ·rw [if_neg c29] at H
            have c29b0 : decide (x10_3 < (t479.length : Int)) = false := decide_eq_false c29
            clear c29
            by_cases c35 : x9_3 = true
            ·subst c35
             have H1 : (laws_FnOrderStartsFirst.l0 k3 t469 t472 t479 (wrap64 (x8_2 + 1))) = some r := by rw [if_pos rfl] at H; exact H
             clear H
             have H := H1
             clear H1
             have H' := Aside0.mk H
             clear H
             go_wp2
             repeat (go_quiet (fail); try go_wp2)
             go_roundg k3
             case measure => have := HJ4.out; have := HK2.out; have := HK3.out; omega
             case rel => exact ⟨(wrap64 (x8_2 + 1)), (by first | rfl | (simp; done) | (simp [*]; done)), H', ⟨by have := HJ4.out; have := HK2.out; have := HK3.out; omega⟩, ⟨HO_3.out⟩, ⟨HO_6.out⟩, ⟨HO_7.out⟩, ⟨HB.out⟩⟩
            ·replace c35 := Bool.eq_false_iff.mpr c35
             subst c35
             have H1 : (some false) = some r := by rw [if_neg (show ¬ (false = true) by decide)] at H; exact H
             clear H
             have H := H1
             clear H1
             obtain rfl := Option.some.inj H
             go_wp2
             repeat (go_quiet (fail); try go_wp2)
             go_ret
             exact ⟨by first | rfl | (simp [errW_none, errW_some] <;> rfl) | (simp [*, errW_none, errW_some] <;> rfl), HB.out⟩
        ·rw [if_neg c27] at H
         exact absurd H (by simp)
       ·rw [if_neg c26] at H
        have c26b0 : decide (x8_2 < (t479.length : Int)) = false := decide_eq_false c26
        clear c26
        by_cases c36 : 0 < (t472.length : Int)
        ·rw [if_pos c36] at H
         have c36b0 : decide (0 < (t472.length : Int)) = true := decide_eq_true c36
         have c36b1 : decide (0 < t472.length) = true := decide_eq_true (by omega)
         clear c36
         by_cases c37 : 0 ≤ (rd t472 0)
         ·rw [if_pos c37] at H
          have c37b0 : decide (0 ≤ (rd t472 0)) = true := decide_eq_true c37
          clear c37
          by_cases c38 : (rd t472 0) < (t479.length : Int)
          ·rw [if_pos c38] at H
           have c38b0 : decide ((rd t472 0) < (t479.length : Int)) = true := decide_eq_true c38
           clear c38
           obtain rfl := Option.some.inj H
           obtain ⟨Ao39, co39, eo39⟩ := Kd.R_slice HO_7.out
           subst eo39
           have p490 : 0 ≤ (0 : Int) := (by omega)
           have q490 : 0 < (t472.length : Int) := of_decide_eq_true (by first | (with_reducible assumption) | assumption)
           obtain ⟨ad490, e490, hx490_0⟩ := Kd.at_int (Kd.Q_reads' HO_6.out).2.2 0 p490 q490
           cases e490
           have qi490 : (0 < t472.length) = True := eq_true (by omega)
           (try rw [show ((0 : Int)).toNat = 0 from rfl] at hx490_0)
           (try rw [Addr.add_zero'] at hx490_0)
           replace p490 := eq_true p490
           replace q490 := eq_true q490
           have p491 : 0 ≤ ((rd t472 0) : Int) := of_decide_eq_true (by first | (with_reducible assumption) | assumption)
           have q491 : (rd t472 0) < (t479.length : Int) := of_decide_eq_true (by first | (with_reducible assumption) | assumption)
           obtain ⟨ad491, e491, hx491_0⟩ := Kd.at_int (Kd.R_reads' HO_7.out).2.2 (rd t472 0) p491 q491
           cases e491
           replace p491 := eq_true p491
           replace q491 := eq_true q491
           go_wp2
           repeat (go_quiet (fail); try go_wp2)
           go_ret
           exact ⟨by first | rfl | (simp [errW_none, errW_some] <;> rfl) | (simp [*, errW_none, errW_some] <;> rfl), HB.out⟩
          ·rw [if_neg c38] at H
           exact absurd H (by simp)
         ·rw [if_neg c37] at H
          exact absurd H (by simp)
        ·rw [if_neg c36] at H
         exact absurd H (by simp)
end Go.Proofs.YtnhkajanbfgbiaaDoor.P
end
section
set_option linter.unusedVariables false
set_option linter.unusedSimpArgs false
namespace Go.Proofs.YtnhkajanbfgbiaaDoor.Core
open Go Go.RowKit Go.Proofs.YtnhkajanbfgbiaaDoorW.PrintWords Go.Proofs.YtnhkajanbfgbiaaDoorW.PrintMore Go.Proofs.YtnhkajanbfgbiaaDoor.P
theorem mx_natO (a b : Nat) : mx (a : Int) (b : Int) = ((max a b : Nat) : Int) := by unfold mx; split <;> omega
/-- The beginnings with one more. -/
theorem specS_set {L : List Nat} {pl n x e : Nat} (hx : x < n) (hl : L.length = n) : (specS L pl n).set x ((e : Nat) : Int) = specS (L.set x e) (pl ||| 2 ^ x) n := by
 unfold specS
 refine List.ext_getElem (by simp) fun k h1 h2 => ?_
 have hk : k < n := by simpa using h2
 rw [List.getElem_set]
 simp only [List.getElem_map, List.getElem_range, or_bit]
 by_cases e1 : x = k
 ·subst e1
  rw [if_pos rfl, if_pos (by simp), List.getD_eq_getElem?_getD, List.getElem?_set_self (by omega), Option.getD_some]
 ·rw [if_neg e1, decide_eq_false e1, Bool.or_false, List.getD_eq_getElem?_getD (l := L.set x e), List.getElem?_set_ne e1, ← List.getD_eq_getElem?_getD]
theorem specS_full {L : List Nat} {pl n : Nat} (hn : n ≤ 8) (hpl : pl < 2 ^ n) (hz : zb n pl = 0) (hl : L.length = n) : specS L pl n = up L := by
 have hfull := (full_zb hpl).1 hz
 unfold specS up
 refine List.ext_getElem (by simp [hl]) fun k h1 h2 => ?_
 have hk : k < n := by simpa using h1
 simp only [List.getElem_map, List.getElem_range]
 rw [if_pos (by rw [hfull, Nat.testBit_two_pow_sub_one]; simpa using hk), List.getD_eq_getElem?_getD, List.getElem?_eq_getElem (by omega), Option.getD_some]
 rfl
theorem zb_orO {n s k : Nat} (hk : k < n) (hb : s.testBit k = false) : zb n (s ||| 2 ^ k) + 1 ≤ zb n s := by
 have h1 : ∀ m, zb m (s ||| 2 ^ k) + (if k < m then 1 else 0) ≤ zb m s := by
  intro m
  rw [zb_count, zb_count]
  induction m with
  | zero => simp
  | succ m ih =>
   rw [List.range_succ, List.filter_append, List.filter_append, List.length_append, List.length_append]
   have hm : (s ||| 2 ^ k).testBit m = (s.testBit m || decide (k = m)) := or_bit _ _ _
   by_cases e : k = m
   ·subst e
    rw [List.filter_cons_of_neg (by rw [hm]; simp), List.filter_cons_of_pos (by rw [hb]; rfl)]
    simp only [List.filter_nil, List.length_nil, List.length_singleton]
    rw [if_neg (Nat.lt_irrefl _)] at ih
    rw [if_pos (Nat.lt_succ_self _)]
    omega
   ·have hle : ((([m] : List Nat).filter (fun i => !(s ||| 2 ^ k).testBit i))).length = (([m] : List Nat).filter (fun i => !s.testBit i)).length := by
     simp only [List.filter_cons, List.filter_nil, hm, decide_eq_false e, Bool.or_false]
    rw [hle]
    by_cases hkm : k < m
    ·rw [if_pos hkm] at ih
     rw [if_pos (by omega)]
     omega
    ·rw [if_neg hkm] at ih
     rw [if_neg (by omega)]
     omega
 have := h1 n
 rw [if_pos hk] at this
 exact this
theorem ev_ord3 {g : List Tk} {room : List Int} {wk : Int} (hf : Fine g room wk) (htok : ∀ t ∈ g, taskOk t) (h8 : g.length ≤ 8) {L : List Nat} {pl i : Nat} (hi : i < g.length) (hpl : pl < 2 ^ g.length) (hLb : leB 200 L) {idx : Int} {list RES : List Int} : ∀ (F f a : Nat), F ≤ f → freeN g L pl i room wk (tmN g i) (a + F) = true → a + F < 180 → Ev (fun k => spec_order.l1 k g room wk list ((specS L pl g.length).set i ((earlN g L pl i room wk f a : Nat) : Int)) (wrap64 (idx + 1))) RES → Ev (fun k => spec_order.l3 k g room wk list (specS L pl g.length) idx (i : Int) (a : Int)) RES := by
 intro F
 induction F with
 | zero =>
  intro f a _ hfr hlt hn
  rw [Nat.add_zero] at hfr hlt
  have ht := (hf.tm i hi).2
  have hfits : Ev (fun k => spec_fits.f k g room wk (specS L pl g.length) (i : Int) (a : Int)) (freeN g L pl i room wk (tmN g i) a) := ev_fits hf htok h8 hi hpl hLb (by omega) (tmN g i) a rfl
  have e : earlN g L pl i room wk f a = a := by
   cases f with
   | zero => rfl
   | succ f => unfold earlN; rw [if_pos hfr]
  rw [e] at hn
  rw [hfr] at hfits
  refine Ev.succ ?_
  simp only [spec_order.l3]
  refine Ev.bind hfits (Ev.pos rfl (Ev.pos (Int.natCast_nonneg i) (Ev.pos (by rw [specS_length]; exact Int.ofNat_lt.2 hi) ?_)))
  rw [Int.toNat_natCast]
  exact hn
 | succ F ih =>
  intro f a hFf hfr hlt hn
  have ht := (hf.tm i hi).2
  have hfits : Ev (fun k => spec_fits.f k g room wk (specS L pl g.length) (i : Int) (a : Int)) (freeN g L pl i room wk (tmN g i) a) := ev_fits hf htok h8 hi hpl hLb (by omega) (tmN g i) a rfl
  have hw : wrap64 ((a : Int) + 1) = ((a + 1 : Nat) : Int) := w64s (by unfold big; omega)
  cases hfa : freeN g L pl i room wk (tmN g i) a with
  | true =>
   have e : earlN g L pl i room wk f a = a := by
    cases f with
    | zero => rfl
    | succ f => unfold earlN; rw [if_pos hfa]
   rw [e] at hn
   rw [hfa] at hfits
   refine Ev.succ ?_
   simp only [spec_order.l3]
   refine Ev.bind hfits (Ev.pos rfl (Ev.pos (Int.natCast_nonneg i) (Ev.pos (by rw [specS_length]; exact Int.ofNat_lt.2 hi) ?_)))
   rw [Int.toNat_natCast]
   exact hn
  | false =>
   obtain ⟨f', rfl⟩ : ∃ f', f = f' + 1 := ⟨f - 1, by omega⟩
   have e : earlN g L pl i room wk (f' + 1) a = earlN g L pl i room wk f' (a + 1) := by rw [earlN, if_neg (by rw [hfa]; exact Bool.false_ne_true)]
   rw [e] at hn
   rw [hfa] at hfits
   refine Ev.succ ?_
   simp only [spec_order.l3, hw]
   exact Ev.bind hfits (Ev.neg Bool.false_ne_true (ih f' (a + 1) (by omega) (by rw [show a + 1 + F = a + (F + 1) by omega]; exact hfr) (by omega) hn))
theorem ev_ord2 {g : List Tk} {room : List Int} {wk : Int} (htok : ∀ t ∈ g, taskOk t) {L : List Nat} {pl i nd : Nat} (hi : i < g.length) (hLb : leB 200 L) (htm : tm20 g) (hfl : (g.getD i z38).f1 = up (elemsN nd)) (hnd : ∀ j ∈ elemsN nd, j < g.length ∧ pl.testBit j = true) {idx : Int} {list RES : List Int} (hn : Ev (fun k => spec_order.l3 k g room wk list (specS L pl g.length) idx (i : Int) ((needEnd g L nd : Nat) : Int)) RES) : ∀ (r pre : List Nat), elemsN nd = pre ++ r → Ev (fun k => spec_order.l2 k g room wk list (specS L pl g.length) idx (i : Int) ((pre.foldl (eStep g L) 0 : Nat) : Int) (pre.length : Int)) RES := by
 intro r
 induction r with
 | nil =>
  intro pre hp
  rw [List.append_nil] at hp
  refine Ev.succ ?_
  simp only [spec_order.l2, rdT_nat, hfl, up_length]
  refine Ev.pos (Int.natCast_nonneg i) (Ev.pos (Int.ofNat_lt.2 hi) (Ev.neg (by rw [hp]; exact Int.lt_irrefl _) ?_))
  rw [← hp]
  exact hn
 | cons j r ih =>
  intro pre hp
  have hel := elemsN_length nd
  have hlen : (elemsN nd).length = pre.length + (r.length + 1) := by rw [hp]; simp
  have hrd : rd (up (elemsN nd)) (pre.length : Int) = (j : Int) := by rw [rd_up (i := pre.length) rfl, hp]; simp
  have hw : wrap64 ((pre.length : Int) + 1) = ((pre ++ [j]).length : Int) := by rw [w64s (by unfold big; omega)]; simp
  obtain ⟨hjn, hjp⟩ := hnd j (by rw [hp]; simp)
  have hrs := specS_rd (L := L) (pl := pl) hjn
  rw [if_pos hjp] at hrs
  have htj := tm_int htok hjn
  have hlj := hLb j
  have hadd := (wadd (a := L.getD j 0) (b := tmN g j) (by omega) (by omega)).1
  have hfold : ((pre ++ [j]).foldl (eStep g L) 0) = max (pre.foldl (eStep g L) 0) (L.getD j 0 + tmN g j) := by rw [List.foldl_append]; rfl
  have hnx := ih (pre ++ [j]) (by rw [hp]; simp)
  rw [hfold] at hnx
  refine Ev.succ ?_
  simp only [spec_order.l2, rdT_nat, hfl, hrd, hw, hrs, htj.1, hadd, mx_natO]
  exact Ev.pos (Int.natCast_nonneg i) (Ev.pos (Int.ofNat_lt.2 hi) (Ev.pos (by rw [up_length]; exact Int.ofNat_lt.2 (by omega)) (Ev.pos (Int.natCast_nonneg _) (Ev.pos (Int.natCast_nonneg j) (Ev.pos (by rw [specS_length]; exact Int.ofNat_lt.2 hjn) (Ev.pos (Int.ofNat_lt.2 hjn) hnx))))))
theorem ev_ord1 {g : List Tk} {G : GD} (v : VG g G) {room : List Int} {wk : Int} (hf : Fine g room wk) (htok : ∀ t ∈ g, taskOk t) (h5 : g.length ≤ 5) {list : List Int} (hll : list.length = g.length) : ∀ (r pre : List Int) (pl : Nat) (L : List Nat), list = pre ++ r → ordOk g.length G.needs r pl = true → StOk g L pl pre.length → pl < 2 ^ g.length → zb g.length pl + pre.length ≤ g.length → Ev (fun k => spec_order.l1 k g room wk list (specS L pl g.length) (pre.length : Int)) (up (startGo g G.needs room wk r pl L)) := by
 intro r
 induction r with
 | nil =>
  intro pre pl L hp _ hst hpl hz
  rw [List.append_nil] at hp
  have hlp : pre.length = g.length := by rw [← hp]; exact hll
  have hfull := specS_full v.n8 hpl (show zb g.length pl = 0 by omega) hst.len
  refine Ev.succ ?_
  simp only [spec_order.l1]
  refine Ev.neg (by rw [hp]; exact Int.lt_irrefl _) ?_
  rw [hfull]
  exact Ev.const _
 | cons y r ih =>
  intro pre pl L hp hord hst hpl hz
  have hlen : list.length = pre.length + (r.length + 1) := by rw [hp]; simp
  have hrd : rd list (pre.length : Int) = y := by unfold rd; rw [Int.toNat_natCast, hp]; simp
  unfold ordOk at hord
  by_cases hc : (0 ≤ y ∧ y ≤ (g.length : Int) - 1) ∧ pl.testBit y.toNat = false ∧ sub (G.needs.getD y.toNat 0) pl = 0
  ·rw [if_pos hc] at hord
   obtain ⟨hin, hsk, hsz⟩ := hc
   obtain ⟨x, rfl⟩ := Int.eq_ofNat_of_zero_le hin.1
   rw [Int.toNat_natCast] at hord hsk hsz
   have hx : x < g.length := by omega
   have h256 := pow8 v.n8
   have hNx := getD_lt v.nb x
   have hsubs := sub_none (Nat.lt_of_lt_of_le hNx h256) (Nat.lt_of_lt_of_le hpl h256) hsz
   have hj5 : pre.length ≤ 5 := by omega
   obtain ⟨hst2, he20⟩ := hst.step hf hx (by omega) hsubs hsk
   obtain ⟨-, -, -, hfr⟩ := earlD_le hf hx hst.over (by omega) hsubs
   have hzb := zb_orO hx hsk
   have hle200 : leB 200 L := leB_mono hst.le (by omega)
   have hneL := needEnd_le hst.over hsubs
   have hw : wrap64 ((pre.length : Int) + 1) = ((pre ++ [((x : Nat) : Int)]).length : Int) := by rw [w64s (by unfold big; omega)]; simp
   have hih := ih (pre ++ [((x : Nat) : Int)]) (pl ||| 2 ^ x) (L.set x (earlD g L (G.needs.getD x 0) pl x room wk)) (by rw [hp]; simp) hord (by rw [List.length_append, List.length_singleton]; exact hst2) (Nat.or_lt_two_pow hpl (Nat.pow_lt_pow_right (by omega) hx)) (by rw [List.length_append, List.length_singleton]; omega)
   rw [← specS_set hx hst.len, ← hw] at hih
   have hres : startGo g G.needs room wk (((x : Nat) : Int) :: r) pl L = startGo g G.needs room wk r (pl ||| 2 ^ x) (L.set x (earlD g L (G.needs.getD x 0) pl x room wk)) := by
    show startGo g G.needs room wk r (pl ||| 2 ^ ((x : Nat) : Int).toNat) (L.set ((x : Nat) : Int).toNat (earlD g L (G.needs.getD ((x : Nat) : Int).toNat 0) pl ((x : Nat) : Int).toNat room wk)) = _
    rw [Int.toNat_natCast]
   rw [hres]
   have h3 := ev_ord3 (list := list) (idx := (pre.length : Int)) hf htok v.n8 hx hpl hle200 (20 * pre.length - needEnd g L (G.needs.getD x 0)) 400 (needEnd g L (G.needs.getD x 0)) (by omega) hfr (by omega) hih
   have h2 := ev_ord2 (room := room) (wk := wk) (list := list) (idx := (pre.length : Int)) htok hx hle200 (tm20_of htok) (v.list hx) (fun j hj => by
    have hb := (mem_elemsN.1 hj).2
    exact ⟨v.need_lt hb, hsubs j hb⟩) h3 (elemsN (G.needs.getD x 0)) [] rfl
   refine Ev.succ ?_
   simp only [spec_order.l1, hrd]
   exact Ev.pos (Int.ofNat_lt.2 (by omega)) (Ev.pos (Int.natCast_nonneg _) h2)
  ·rw [if_neg hc] at hord; cases hord
theorem ev_ord0 {g : List Tk} {room : List Int} {wk : Int} (h8 : g.length ≤ 8) {list RES : List Int} (hn : Ev (fun k => spec_order.l1 k g room wk list (specS (List.replicate g.length 0) 0 g.length) ((0 : Nat) : Int)) RES) : ∀ (d i : Nat) (X : List Int), X.length = g.length → i + d = g.length → (∀ k, k < i → X.getD k 0 = 200) → Ev (fun k => spec_order.l0 k g room wk list X (i : Int)) RES := by
 intro d
 induction d with
 | zero =>
  intro i X hX h hk
  have hi : i = g.length := by omega
  have e : X = specS (List.replicate g.length 0) 0 g.length := by
   refine List.ext_getElem (by rw [hX, specS_length]) fun k h1 h2 => ?_
   have hkx := hk k (by omega)
   rw [List.getD_eq_getElem?_getD, List.getElem?_eq_getElem h1, Option.getD_some] at hkx
   rw [hkx]
   unfold specS
   simp only [List.getElem_map, List.getElem_range, Nat.zero_testBit]
   rfl
  refine Ev.succ ?_
  simp only [spec_order.l0]
  refine Ev.neg (by rw [hX, hi]; exact Int.lt_irrefl _) ?_
  rw [e]
  exact hn
 | succ d ih =>
  intro i X hX h hk
  have hw : wrap64 ((i : Int) + 1) = ((i + 1 : Nat) : Int) := w64s (by unfold big; omega)
  refine Ev.succ ?_
  simp only [spec_order.l0, hw]
  refine Ev.pos (by rw [hX]; exact Int.ofNat_lt.2 (by omega)) (Ev.pos (Int.natCast_nonneg i) ?_)
  rw [Int.toNat_natCast]
  refine ih (i + 1) _ (by rw [List.length_set, hX]) (by omega) (fun k hki => ?_)
  by_cases e : i = k
  ·subst e
   rw [List.getD_eq_getElem?_getD, List.getElem?_set_self (by omega), Option.getD_some]
  ·rw [List.getD_eq_getElem?_getD, List.getElem?_set_ne e, ← List.getD_eq_getElem?_getD]
   exact hk k (by omega)
theorem ev_orderS {g : List Tk} {G : GD} (v : VG g G) {room : List Int} {wk : Int} (hf : Fine g room wk) (htok : ∀ t ∈ g, taskOk t) (h5 : g.length ≤ 5) {list : List Int} (hll : list.length = g.length) (hord : ordOk g.length G.needs list 0 = true) : Ev (fun k => spec_order.f k g room wk list) (up (startGo g G.needs room wk list 0 (List.replicate g.length 0))) := by
 have hz0 : zb g.length 0 ≤ g.length := by
  rw [zb_count]
  have := List.length_filter_le (fun i => !(0 : Nat).testBit i) (List.range g.length)
  rw [List.length_range] at this
  exact this
 have h1 := ev_ord1 v hf htok h5 hll list [] 0 (List.replicate g.length 0) rfl hord (st_zero g) (Nat.two_pow_pos _) (by simpa using hz0)
 unfold spec_order.f
 refine Ev.pos (Int.natCast_nonneg _) (Ev.pos (by rw [Int.toNat_natCast]; exact Nat.le_trans h5 (by decide)) ?_)
 rw [Int.toNat_natCast]
 exact ev_ord0 v.n8 h1 g.length 0 _ (by simp) (by omega) (fun k hk => absurd hk (Nat.not_lt_zero k))
theorem ev_isOrd {g : List Tk} {G : GD} (v : VG g G) {list : List Int} (hl : list.length < big) : ∀ (r pre : List Int) (s : Nat), list = pre ++ r → (∀ i : Nat, s.testBit i = decide ((i : Int) ∈ pre)) → s < 2 ^ g.length → Ev (fun k => spec_isOrder.l0 k g list (pre.length : Int)) (ordOk g.length G.needs r s) := by
 intro r
 induction r with
 | nil =>
  intro pre s hp _ _
  rw [List.append_nil] at hp
  refine Ev.succ ?_
  simp only [spec_isOrder.l0]
  exact Ev.neg (by rw [hp]; exact Int.lt_irrefl _) (Ev.const _)
 | cons y r ih =>
  intro pre s hp hs hs2
  have hlen : list.length = pre.length + (r.length + 1) := by rw [hp]; simp
  have hrd : rd list (pre.length : Int) = y := by unfold rd; rw [Int.toNat_natCast, hp]; simp
  have hw : wrap64 ((pre.length : Int) + 1) = ((pre ++ [y]).length : Int) := by rw [w64s (by omega)]; simp
  have htk : list.take ((pre.length : Int)).toNat = pre := by rw [Int.toNat_natCast, hp]; simp
  have h8 := v.n8
  have hwn : wrap64 ((g.length : Int) - 1) = (g.length : Int) - 1 := w64 (by omega) (by omega)
  have hpb : pre.length < big := by omega
  refine Ev.succ ?_
  simp only [spec_isOrder.l0, hrd, hw, htk, hwn, inRange_eq, Option.bind_some]
  refine Ev.pos (Int.ofNat_lt.2 (by omega)) (Ev.pos (Int.natCast_nonneg _) ?_)
  by_cases hin : 0 ≤ y ∧ y ≤ (g.length : Int) - 1
  ·obtain ⟨x, rfl⟩ := Int.eq_ofNat_of_zero_le hin.1
   have hx : x < g.length := by omega
   have hfl := v.list hx
   have h256 := pow8 h8
   have hNx := getD_lt v.nb x
   have hor : ordOk g.length G.needs (((x : Nat) : Int) :: r) s = if s.testBit x = false ∧ sub (G.needs.getD x 0) s = 0 then ordOk g.length G.needs r (s ||| 2 ^ x) else false := by
    show (if _ then _ else false) = _
    rw [Int.toNat_natCast]
    by_cases hz : s.testBit x = false ∧ sub (G.needs.getD x 0) s = 0
    ·rw [if_pos ⟨hin, hz⟩, if_pos hz]
    ·rw [if_neg (fun h => hz h.2), if_neg hz]
   rw [hor]
   refine Ev.pos (decide_eq_true hin) (Ev.pos (Int.ofNat_le.2 (by omega)) (Ev.bind (ev_isIn hpb ((x : Nat) : Int)) ?_))
   cases hsx : s.testBit x with
   | true =>
    have hm := hs x
    rw [hsx] at hm
    rw [← hm, if_neg (fun h => by cases h.1)]
    exact Ev.pos rfl (Ev.const _)
   | false =>
    have hm := hs x
    rw [hsx] at hm
    rw [← hm]
    refine Ev.neg Bool.false_ne_true (Ev.pos (Int.natCast_nonneg x) (Ev.pos (Int.ofNat_lt.2 hx) ?_))
    rw [rdT_nat, hfl]
    refine Ev.bind (ev_allDone (L := up (elemsN (G.needs.getD x 0))) (M := pre) (by rw [up_length]; have := elemsN_length (G.needs.getD x 0); unfold big; omega) hpb) ?_
    have hiff : (∀ z ∈ up (elemsN (G.needs.getD x 0)), z ∈ pre) ↔ sub (G.needs.getD x 0) s = 0 := by
     constructor
     ·intro h
      apply Nat.eq_of_testBit_eq
      intro k
      rw [sub_testBit (Nat.lt_of_lt_of_le hNx h256) (Nat.lt_of_lt_of_le hs2 h256), Nat.zero_testBit]
      cases hk : (G.needs.getD x 0).testBit k with
      | false => rfl
      | true =>
       have hkl := v.need_lt hk
       have hkm := h (k : Int) (mem_up.2 (mem_elemsN.2 ⟨by omega, hk⟩))
       rw [hs k, decide_eq_true hkm]
       rfl
     ·intro h z hz
      obtain ⟨k, hk, rfl⟩ := List.mem_map.1 hz
      have hb := sub_none (Nat.lt_of_lt_of_le hNx h256) (Nat.lt_of_lt_of_le hs2 h256) h k (mem_elemsN.1 hk).2
      rw [hs k] at hb
      exact of_decide_eq_true hb
    by_cases hz : sub (G.needs.getD x 0) s = 0
    ·rw [decide_eq_true (hiff.2 hz), if_pos ⟨rfl, hz⟩]
     exact Ev.pos rfl (ih (pre ++ [((x : Nat) : Int)]) (s ||| 2 ^ x) (by rw [hp]; simp) (fun i => by
      rw [or_bit, hs i, Bool.eq_iff_iff, Bool.or_eq_true, decide_eq_true_eq, decide_eq_true_eq, decide_eq_true_eq, List.mem_append, List.mem_singleton]
      constructor
      ·rintro (h | h)
       ·exact .inl h
       ·exact .inr (by rw [h])
      ·rintro (h | h)
       ·exact .inl h
       ·exact .inr (Int.ofNat_inj.1 h).symm) (Nat.or_lt_two_pow hs2 (Nat.pow_lt_pow_right (by omega) hx)))
    ·rw [decide_eq_false (fun h => hz (hiff.1 h)), if_neg (fun h => hz h.2)]
     exact Ev.neg Bool.false_ne_true (Ev.const _)
  ·have hor : ordOk g.length G.needs (y :: r) s = false := by unfold ordOk; rw [if_neg (fun h => hin h.1)]
   rw [hor, decide_eq_false hin]
   exact Ev.neg Bool.false_ne_true (Ev.const _)
theorem ev_validSearch {g : List Tk} (hg : Fits g) {room : List Int} (hr : room.length < big) (wk : Int) : Ev (fun k => spec_validSearch.f k g room wk) (fewD g room wk).isSome := by
 unfold spec_validSearch.f
 refine Ev.bind (ev_validGraph hg) ?_
 unfold fewD placeD
 cases hG : graphD g with
 | none =>
  refine Ev.neg (by simp) ?_
  have e : (if (g.length : Int) > 5 then (none : Option GD) else none) = none := by split <;> rfl
  rw [e]
  exact Ev.const _
 | some G =>
  refine Ev.pos rfl ?_
  by_cases h5 : (g.length : Int) ≤ 5
  ·rw [if_neg (Int.not_lt.2 h5)]
   refine Ev.pos h5 (Ev.bind (ev_validRoom hr) ?_)
   by_cases hro : roomOk room
   ·rw [decide_eq_true hro]
    refine Ev.pos rfl ?_
    simp only [inRange_eq, Option.bind_some]
    by_cases hw : 1 ≤ wk ∧ wk ≤ 4
    ·rw [if_pos ⟨hro, hw⟩, decide_eq_true hw]
     exact Ev.const _
    ·rw [if_neg (fun h => hw h.2), decide_eq_false hw]
     exact Ev.const _
   ·rw [decide_eq_false hro]
    refine Ev.neg Bool.false_ne_true ?_
    show Ev _ (if roomOk room ∧ 1 ≤ wk ∧ wk ≤ 4 then some G else none : Option GD).isSome
    rw [if_neg (fun h => hro h.1)]
    exact Ev.const _
  ·rw [if_pos (Int.not_le.1 h5)]
   exact Ev.neg h5 (Ev.const _)
theorem ev_OrderStarts' {g : List Tk} (hg : Fits g) {room list : List Int} {wk : Int} (hr : room.length < big) (hl : list.length < big) : Ev (fun k => spec_OrderStarts.f k g room wk list) (startsD g room wk list) := by
 unfold spec_OrderStarts.f
 refine Ev.bind (ev_validSearch hg hr wk) ?_
 unfold startsD
 cases hfew : fewD g room wk with
 | none => exact Ev.neg (by simp) (Ev.const _)
 | some G =>
  obtain ⟨h5, hp⟩ := fewD_some hfew
  obtain ⟨hG, hroom, hw1, hw4⟩ := placeD_some hp
  have v := vg_of hG
  have hf := fine_of hG hroom hw1
  have htok := graphD_taskOk hG
  refine Ev.pos rfl ?_
  simp only []
  by_cases hll : list.length = g.length
  ·have hio : Ev (fun k => spec_isOrder.f k g list) (ordOk g.length G.needs list 0) := by
    unfold spec_isOrder.f
    exact Ev.pos (by rw [hll]) (ev_isOrd v hl list [] 0 rfl (fun i => by simp) (Nat.two_pow_pos _))
   refine Ev.bind hio ?_
   cases hord : ordOk g.length G.needs list 0 with
   | true =>
    rw [if_pos ⟨hll, rfl⟩]
    exact Ev.pos rfl (Ev.bind (ev_orderS v hf htok h5 hll hord) (Ev.const _))
   | false =>
    rw [if_neg (fun h => by cases h.2)]
    exact Ev.neg Bool.false_ne_true (Ev.const _)
  ·have hio : Ev (fun k => spec_isOrder.f k g list) false := by
    unfold spec_isOrder.f
    exact Ev.neg (fun h => hll (Int.ofNat_inj.1 h)) (Ev.const _)
   rw [if_neg (fun h => hll h.1)]
   exact Ev.bind hio (Ev.neg Bool.false_ne_true (Ev.const _))
theorem startsD_length (g : List Tk) (room : List Int) (wk : Int) (list : List Int) : (startsD g room wk list).length ≤ 8 := by
 unfold startsD
 cases hfew : fewD g room wk with
 | none => simp
 | some G =>
  have h5 := (fewD_some hfew).1
  simp only []
  split
  ·rw [up_length, startGo_length, List.length_replicate]; omega
  ·simp
end Go.Proofs.YtnhkajanbfgbiaaDoor.Core
end
section
set_option linter.unusedVariables false
set_option linter.unusedSimpArgs false
namespace Go.Proofs.YtnhkajanbfgbiaaDoor.Core
open Go Go.RowKit Go.Proofs.YtnhkajanbfgbiaaDoorW.PrintWords Go.Proofs.YtnhkajanbfgbiaaDoorW.PrintMore Go.Proofs.YtnhkajanbfgbiaaDoor.P
theorem needEnd_is {g : List Tk} {L : List Nat} {s : Nat} : needEnd g L s = 0 ∨ ∃ k, s.testBit k = true ∧ endN g L k = needEnd g L s := by
 have : ∀ (ks : List Nat) (a : Nat), (∀ k ∈ ks, s.testBit k = true) → (a = 0 ∨ ∃ k, s.testBit k = true ∧ endN g L k = a) → (ks.foldl (eStep g L) a = 0 ∨ ∃ k, s.testBit k = true ∧ endN g L k = ks.foldl (eStep g L) a) := by
  intro ks
  induction ks with
  | nil => intro a _ h; exact h
  | cons k ks ih =>
   intro a hk h
   rw [List.foldl_cons]
   refine ih _ (fun k hk' => hk k (List.mem_cons_of_mem _ hk')) ?_
   unfold eStep
   by_cases hle : a ≤ endN g L k
   ·rw [Nat.max_eq_right hle]
    exact .inr ⟨k, hk k List.mem_cons_self, rfl⟩
   ·rw [Nat.max_eq_left (by omega)]
    exact h
 exact this _ 0 (fun k hk => (mem_elemsN.1 hk).2) (.inl rfl)
theorem usedN_sub {g : List Tk} {p : Int} : ∀ {L M : List Nat}, List.Sublist M L → UOk g L → usedN g p M ≤ usedN g p L
 | _, _, .slnil, _ => Int.le_refl _
 | _, _, .cons (l₂ := L) i h, hu => by
  have ih := usedN_sub (p := p) h (fun j hj => hu j (List.mem_cons_of_mem _ hj))
  have := hu i List.mem_cons_self
  simp only [usedN]
  split <;> omega
 | _, _, .cons_cons i h, hu => by
  have ih := usedN_sub (p := p) h (fun j hj => hu j (List.mem_cons_of_mem _ hj))
  simp only [usedN]
  omega
theorem filter_sub {a b : Nat → Bool} (h : ∀ k, a k = true → b k = true) : ∀ R : List Nat, List.Sublist (R.filter a) (R.filter b)
 | [] => .slnil
 | k :: R => by
  cases ha : a k with
  | true =>
   rw [List.filter_cons_of_pos ha, List.filter_cons_of_pos (h k ha)]
   exact .cons_cons _ (filter_sub h R)
  | false =>
   rw [List.filter_cons_of_neg (by rw [ha]; exact Bool.false_ne_true)]
   cases hb : b k with
   | true => rw [List.filter_cons_of_pos hb]; exact .cons _ (filter_sub h R)
   | false => rw [List.filter_cons_of_neg (by rw [hb]; exact Bool.false_ne_true)]; exact filter_sub h R
/-- If no task is over at a time, then what fits then fits just before, too. -/
theorem free_back {g : List Tk} {room : List Int} {wk : Int} (hf : Fine g room wk) (h8 : g.length ≤ 8) {L : List Nat} {pl i t : Nat} (hi : i < g.length) (hpl : pl < 2 ^ g.length) (hno : ∀ k, pl.testBit k = true → endN g L k ≠ t + 1) (hfr : freeB g L pl i room wk (t + 1) = true) : freeB g L pl i room wk t = true := by
 rw [freeB_eq hf h8 hi hpl] at hfr ⊢
 have hsub : List.Sublist (runL g L pl g.length t) (runL g L pl g.length (t + 1)) := by
  unfold runL
  refine filter_sub (fun k hk => ?_) _
  obtain ⟨h1, h2⟩ := (Bool.and_eq_true _ _).mp hk
  unfold runsAt at h2
  obtain ⟨h3, h4⟩ := (Bool.and_eq_true _ _).mp h2
  have h3 := of_decide_eq_true h3
  have h4 := of_decide_eq_true h4
  have h5 := hno k h1
  show (pl.testBit k && runsAt g L (t + 1) k) = true
  unfold runsAt
  rw [h1, decide_eq_true (show L.getD k 0 ≤ t + 1 by omega), decide_eq_true (show t + 1 < endN g L k by omega)]
  rfl
 have hlen := hsub.length_le
 have hu : UOk g (runL g L pl g.length (t + 1)) := fun k hk => hf.units k (runL_lt k hk)
 have hu0 : UOk g (runL g L pl g.length t) := fun k hk => hf.units k (runL_lt k hk)
 have hus := usedN_sub (p := (g.getD i z38).f2) hsub hu
 have b1 := usedN_bd (p := (g.getD i z38).f2) hu
 have b0 := usedN_bd (p := (g.getD i z38).f2) hu0
 have hun := hf.units i hi
 have l1 := runL_len g L pl g.length (t + 1)
 obtain ⟨h1, h2⟩ := (Bool.and_eq_true _ _).mp hfr
 have h1 := of_decide_eq_true h1
 have h2 := of_decide_eq_true h2
 rw [w64 (by omega) (by omega)] at h2
 rw [decide_eq_true (show ((runL g L pl g.length t).length : Int) < wk by omega), w64 (by omega) (by omega), decide_eq_true (by omega)]
 rfl
theorem freeN_le {g : List Tk} {L : List Nat} {pl i : Nat} {room : List Int} {wk : Int} : ∀ (d now : Nat), freeN g L pl i room wk (d + 1) now = true → freeN g L pl i room wk d now = true
 | 0, _, _ => rfl
 | d + 1, now, h => by
  have h' : (freeB g L pl i room wk now && freeN g L pl i room wk (d + 1) (now + 1)) = true := h
  obtain ⟨h1, h2⟩ := (Bool.and_eq_true _ _).mp h'
  show (freeB g L pl i room wk now && freeN g L pl i room wk d (now + 1)) = true
  rw [h1, freeN_le d (now + 1) h2]
  rfl
/-- The least time is the needs' end, or a time at which a task is over. -/
theorem earlN_is {g : List Tk} {room : List Int} {wk : Int} (hf : Fine g room wk) (h8 : g.length ≤ 8) {L : List Nat} {pl i : Nat} (hi : i < g.length) (hpl : pl < 2 ^ g.length) : ∀ (F f a : Nat), F ≤ f → freeN g L pl i room wk (tmN g i) (a + F) = true → earlN g L pl i room wk f a = a ∨ ∃ k, pl.testBit k = true ∧ endN g L k = earlN g L pl i room wk f a := by
 intro F
 induction F with
 | zero =>
  intro f a _ hfr
  cases f with
  | zero => exact .inl rfl
  | succ f => left; unfold earlN; rw [if_pos (show freeN g L pl i room wk (tmN g i) a = true from hfr)]
 | succ F ih =>
  intro f a hFf hfr
  obtain ⟨f', rfl⟩ : ∃ f', f = f' + 1 := ⟨f - 1, by omega⟩
  cases hfa : freeN g L pl i room wk (tmN g i) a with
  | true => left; unfold earlN; rw [if_pos hfa]
  | false =>
   have e : earlN g L pl i room wk (f' + 1) a = earlN g L pl i room wk f' (a + 1) := by rw [earlN, if_neg (by rw [hfa]; exact Bool.false_ne_true)]
   rw [e]
   have hfr' : freeN g L pl i room wk (tmN g i) (a + 1 + F) = true := by rw [show a + 1 + F = a + (F + 1) by omega]; exact hfr
   rcases ih f' (a + 1) (by omega) hfr' with h | h
   ·-- it begins at a + 1: just before, it didn't fit
    obtain ⟨-, -, hfree⟩ := earlN_le F f' (a + 1) (by omega) hfr'
    rw [h] at hfree ⊢
    by_cases hex : ∃ k, pl.testBit k = true ∧ endN g L k = a + 1
    ·exact .inr hex
    ·exfalso
     have hno : ∀ k, pl.testBit k = true → endN g L k ≠ a + 1 := fun k hk e => hex ⟨k, hk, e⟩
     have ht := (hf.tm i hi).1
     obtain ⟨T, hT⟩ : ∃ T, tmN g i = T + 1 := ⟨tmN g i - 1, by omega⟩
     rw [hT] at hfree hfa
     have h1 : (freeB g L pl i room wk (a + 1) && freeN g L pl i room wk T (a + 2)) = true := hfree
     have hb := free_back hf h8 hi hpl hno ((Bool.and_eq_true _ _).mp h1).1
     have h2 : (freeB g L pl i room wk a && freeN g L pl i room wk T (a + 1)) = false := hfa
     rw [hb, freeN_le T (a + 1) hfree] at h2
     cases h2
   ·exact .inr h
theorem earlD_is {g : List Tk} {room : List Int} {wk : Int} (hf : Fine g room wk) (h8 : g.length ≤ 8) {L : List Nat} {pl i nd B : Nat} (hi : i < g.length) (hpl : pl < 2 ^ g.length) (ho : overBy g L pl B) (hB : B ≤ 300) (hs : ∀ k, nd.testBit k = true → pl.testBit k = true) : earlD g L nd pl i room wk = 0 ∨ ∃ k, pl.testBit k = true ∧ endN g L k = earlD g L nd pl i room wk := by
 have hfr := (earlD_le hf hi ho hB hs).2.2.2
 have hn := needEnd_le ho hs
 rcases earlN_is hf h8 hi hpl (B - needEnd g L nd) 400 (needEnd g L nd) (by omega) hfr with h | h
 ·have e : earlD g L nd pl i room wk = needEnd g L nd := h
  rw [e]
  rcases needEnd_is (g := g) (L := L) (s := nd) with h0 | ⟨k, h1, h2⟩
  ·exact .inl h0
  ·exact .inr ⟨k, hs k h1, h2⟩
 ·exact .inr h
/-- All tasks of a set begin at 0 or when one of it is over. -/
def AtEnds (g : List Tk) (L : List Nat) (pl : Nat) : Prop := ∀ i, pl.testBit i = true → L.getD i 0 = 0 ∨ ∃ k, pl.testBit k = true ∧ endN g L k = L.getD i 0
theorem startGo_ends {g : List Tk} {N : List Nat} (hnb : ∀ x, N.getD x 0 < 256) {room : List Int} {wk : Int} (hf : Fine g room wk) (h8 : g.length ≤ 8) : ∀ (r : List Int) (pl j : Nat) (L : List Nat), ordOk g.length N r pl = true → StOk g L pl j → j + r.length ≤ 8 → pl < 2 ^ g.length → AtEnds g L pl →
  ∃ P, (∀ i, pl.testBit i = true → P.testBit i = true) ∧ (∀ y ∈ r, P.testBit y.toNat = true) ∧ AtEnds g (startGo g N room wk r pl L) P ∧ (∀ i, pl.testBit i = true → (startGo g N room wk r pl L).getD i 0 = L.getD i 0) := by
 intro r
 induction r with
 | nil => intro pl j L _ _ _ _ hA; exact ⟨pl, fun _ h => h, by simp, hA, fun _ _ => rfl⟩
 | cons y r ih =>
  intro pl j L hord hst hj hpl hA
  unfold ordOk at hord
  by_cases hc : (0 ≤ y ∧ y ≤ (g.length : Int) - 1) ∧ pl.testBit y.toNat = false ∧ sub (N.getD y.toNat 0) pl = 0
  ·rw [if_pos hc] at hord
   obtain ⟨hin, hsk, hsz⟩ := hc
   rw [List.length_cons] at hj
   have hx : y.toNat < g.length := by omega
   have h256 := pow8 h8
   have hsubs := sub_none (hnb y.toNat) (Nat.lt_of_lt_of_le hpl h256) hsz
   obtain ⟨hst2, he20⟩ := hst.step hf hx (by omega) hsubs hsk
   have his := earlD_is hf h8 hx hpl hst.over (by omega) hsubs
   have hstep : startGo g N room wk (y :: r) pl L = startGo g N room wk r (pl ||| 2 ^ y.toNat) (L.set y.toNat (earlD g L (N.getD y.toNat 0) pl y.toNat room wk)) := rfl
   rw [hstep]
   generalize earlD g L (N.getD y.toNat 0) pl y.toNat room wk = e at hst2 his
   have hne : ∀ k, pl.testBit k = true → y.toNat ≠ k := fun k hk he => by rw [← he, hsk] at hk; cases hk
   have hend : ∀ k, pl.testBit k = true → endN g (L.set y.toNat e) k = endN g L k := fun k hk => by
    unfold endN
    rw [List.getD_eq_getElem?_getD, List.getElem?_set_ne (hne k hk), ← List.getD_eq_getElem?_getD]
   have hgd : ∀ k, pl.testBit k = true → (L.set y.toNat e).getD k 0 = L.getD k 0 := fun k hk => by
    rw [List.getD_eq_getElem?_getD, List.getElem?_set_ne (hne k hk), ← List.getD_eq_getElem?_getD]
   have hget : (L.set y.toNat e).getD y.toNat 0 = e := by
    rw [List.getD_eq_getElem?_getD, List.getElem?_set_self (by rw [hst.len]; exact hx), Option.getD_some]
   have hor : ∀ k, pl.testBit k = true → (pl ||| 2 ^ y.toNat).testBit k = true := fun k hk => by rw [or_bit, hk, Bool.true_or]
   have hA2 : AtEnds g (L.set y.toNat e) (pl ||| 2 ^ y.toNat) := by
    intro i hib
    rw [or_bit] at hib
    by_cases hip : pl.testBit i = true
    ·rw [hgd i hip]
     rcases hA i hip with h | ⟨k, h1, h2⟩
     ·exact .inl h
     ·exact .inr ⟨k, hor k h1, by rw [hend k h1]; exact h2⟩
    ·have hyi : y.toNat = i := by
      rw [Bool.eq_false_iff.2 hip, Bool.false_or] at hib
      exact of_decide_eq_true hib
     subst hyi
     rw [hget]
     rcases his with h | ⟨k, h1, h2⟩
     ·exact .inl h
     ·exact .inr ⟨k, hor k h1, by rw [hend k h1]; exact h2⟩
   obtain ⟨P, q1, q2, q3, q4⟩ := ih (pl ||| 2 ^ y.toNat) (j + 1) _ hord hst2 (by omega) (Nat.or_lt_two_pow hpl (Nat.pow_lt_pow_right (by omega) hx)) hA2
   refine ⟨P, fun i hi => q1 i (hor i hi), ?_, q3, fun i hi => by rw [q4 i (hor i hi), hgd i hi]⟩
   intro z hz
   rcases List.mem_cons.1 hz with rfl | hz
   ·exact q1 _ (by rw [or_bit, decide_eq_true rfl, Bool.or_true])
   ·exact q2 z hz
  ·rw [if_neg hc] at hord; cases hord
end Go.Proofs.YtnhkajanbfgbiaaDoor.Core
end
