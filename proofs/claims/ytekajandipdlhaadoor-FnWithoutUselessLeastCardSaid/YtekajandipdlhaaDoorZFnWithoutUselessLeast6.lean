/- The law FnWithoutUselessLeast holds of the given program: the proof's own part, with its row and its card, part 6 of 11. -/
import Derived.Test.YtekajandipdlhaaDoorZFnWithoutUselessLeast5
section
set_option linter.unusedVariables false
set_option linter.unusedSimpArgs false
namespace Go.Proofs.YtekajandipdlhaaDoor.Core
open Go Go.RowKit Go.Proofs.YtekajandipdlhaaDoorW.PrintWords Go.Proofs.YtekajandipdlhaaDoorW.PrintMore Go.Proofs.YtekajandipdlhaaDoor.P
theorem VG.need_lt {g : List Tk} {G : GD} (v : VG g G) {i m : Nat} (h : (G.needs.getD i 0).testBit m = true) : m < g.length := by
 have h1 := getD_lt v.nb i
 have h2 := Nat.ge_two_pow_of_testBit h
 have h3 : 2 ^ m < 2 ^ g.length := Nat.lt_of_le_of_lt h2 h1
 exact (Nat.pow_lt_pow_iff_right (by omega)).1 h3
/-- From the needs to the task. -/
theorem VG.ind {g : List Tk} {G : GD} (v : VG g G) {Q : Nat → Prop} (h : ∀ i, i < g.length → (∀ m, (G.needs.getD i 0).testBit m = true → Q m) → Q i) : ∀ i, i < g.length → Q i := by
 have key : ∀ (suf pre : List Nat), G.order = pre ++ suf → (∀ i ∈ pre, Q i) → ∀ i ∈ G.order, Q i := by
  intro suf
  induction suf with
  | nil => intro pre ho hp i hi; rw [ho, List.append_nil] at hi; exact hp i hi
  | cons a s ih =>
   intro pre ho hp
   refine ih (pre ++ [a]) (by rw [ho]; simp) fun i hi => ?_
   rcases List.mem_append.1 hi with hi | hi
   ·exact hp i hi
   ·rw [List.mem_singleton.1 hi]
    exact h a (v.mem.1 (by rw [ho]; simp)) fun m hm => hp m (v.ord.needs pre a s ho m hm)
 exact fun i hi => key G.order [] rfl (by simp) i (v.mem.2 hi)
theorem VG.below_in {g : List Tk} {G : GD} (v : VG g G) (hG : graphD g = some G) {p : Nat} (hc : closedN g.length G.needs p) : ∀ i, i < g.length → p.testBit i = true → ∀ k, (G.below.getD i 0).testBit k = true → p.testBit k = true := by
 refine v.ind (Q := fun i => p.testBit i = true → ∀ k, (G.below.getD i 0).testBit k = true → p.testBit k = true) fun i hi ih hp k hk => ?_
 obtain ⟨m, hm, h⟩ := (below_bits hG hi k).1 hk
 have hpm := hc i hi hp m hm
 rcases h with rfl | h
 ·exact hpm
 ·exact ih m hm hpm k h
theorem VG.below_before {g : List Tk} {G : GD} (v : VG g G) (hG : graphD g = some G) : ∀ i, i < g.length → ∀ k, (G.below.getD i 0).testBit k = true → ∀ pre suf, G.order = pre ++ i :: suf → k ∈ pre := by
 refine v.ind (Q := fun i => ∀ k, (G.below.getD i 0).testBit k = true → ∀ pre suf, G.order = pre ++ i :: suf → k ∈ pre) fun i hi ih k hk pre suf ho => ?_
 obtain ⟨m, hm, h⟩ := (below_bits hG hi k).1 hk
 have hmp := v.ord.needs pre i suf ho m hm
 rcases h with rfl | h
 ·exact hmp
 ·obtain ⟨a, b, rfl⟩ := List.append_of_mem hmp
  exact List.mem_append_left _ (ih m hm k h a (b ++ i :: suf) (by rw [ho]; simp))
/-- From what is above to the task. -/
theorem VG.rind {g : List Tk} {G : GD} (v : VG g G) (hG : graphD g = some G) {Q : Nat → Prop} (h : ∀ k, k < g.length → (∀ m, m < g.length → (G.below.getD m 0).testBit k = true → Q m) → Q k) : ∀ k, k < g.length → Q k := by
 have hn := v.ord.nodup
 have key : ∀ (n : Nat) (pre suf : List Nat), pre.length = n → G.order = pre ++ suf → (∀ i ∈ suf, Q i) → ∀ i ∈ G.order, Q i := by
  intro n
  induction n with
  | zero =>
   intro pre suf hl ho hs i hi
   have : pre = [] := List.length_eq_zero_iff.1 hl
   rw [ho, this, List.nil_append] at hi
   exact hs i hi
  | succ n ih =>
   intro pre suf hl ho hs
   obtain ⟨pre0, k, rfl⟩ : ∃ t z, pre = t ++ [z] := by
    have hne : pre ≠ [] := by intro h; rw [h] at hl; simp at hl
    exact ⟨pre.dropLast, pre.getLast hne, (List.dropLast_concat_getLast hne).symm⟩
   have ho' : G.order = pre0 ++ k :: suf := by rw [ho]; simp
   refine ih pre0 (k :: suf) (by simp at hl; omega) ho' fun i hi => ?_
   rcases List.mem_cons.1 hi with rfl | hi
   ·refine h i (v.mem.1 (by rw [ho']; simp)) fun m hm hb => ?_
    have hmo := v.mem.2 hm
    rw [ho'] at hmo hn
    rw [List.nodup_append] at hn
    rcases List.mem_append.1 hmo with hmo | hmo
    ·obtain ⟨a, c, hac⟩ := List.append_of_mem hmo
     have := v.below_before hG m hm i hb a (c ++ i :: suf) (by rw [ho', hac]; simp)
     exact absurd rfl (hn.2.2 i (by rw [hac]; exact List.mem_append_left _ this) i List.mem_cons_self)
    ·rcases List.mem_cons.1 hmo with hmo | hmo
     ·rw [hmo] at hb
      have := v.below_before hG i (v.mem.1 (by rw [ho']; simp)) i hb pre0 suf ho'
      exact absurd rfl (hn.2.2 i this i List.mem_cons_self)
     ·exact hs m hmo
   ·exact hs i hi
 exact fun k hk => key G.order.length G.order [] rfl (by simp) (by simp) k (v.mem.2 hk)
theorem VG.list {g : List Tk} {G : GD} (v : VG g G) {i : Nat} (hi : i < g.length) : (g.getD i z37).f1 = up (elemsN (G.needs.getD i 0)) := by
 have hg : g.getD i z37 ∈ g := by
  rw [List.getD_eq_getElem?_getD, List.getElem?_eq_getElem hi]
  exact List.getElem_mem hi
 have hf := (v.fine.1 _ hg).2
 refine asc_ext hf.2 (asc_elems _) (fun x => ?_)
 show _ ↔ x ∈ elems _
 rw [mem_elems]
 constructor
 ·intro hx
  have hb := hf.1 x hx
  have h8 := v.n8
  refine ⟨x.toNat, by omega, by omega, ?_⟩
  rw [v.bits i hi, decide_eq_true_eq, show ((x.toNat : Nat) : Int) = x by omega]
  exact hx
 ·rintro ⟨k, rfl, _, hk⟩
  rw [v.bits i hi, decide_eq_true_eq] at hk
  exact hk
end Go.Proofs.YtekajandipdlhaaDoor.Core
end
section
set_option linter.unusedVariables false
set_option linter.unusedSimpArgs false
namespace Go.Proofs.YtekajandipdlhaaDoor.Core
open Go Go.RowKit Go.Shelf Go.Proofs.YtekajandipdlhaaDoorW.PrintWords Go.Proofs.YtekajandipdlhaaDoorW.PrintMore Go.Proofs.YtekajandipdlhaaDoor.P
attribute [local go_sem] Oper.semAt_some wide_fn wide_depth
theorem drawn_below {w w' : World} (h : Drawn0 w w') : Below w.heap.size w w' := by
 obtain ⟨n, rfl⟩ := h
 exact pw_below_drewN (Below.refl _ _) n
theorem graphOf_none (A0 : Option Addr) (c0 : Nat) (l0 : List Tk) (w : World) (hT : Tab w) (hr0 : k37.C w A0 l0.length l0) (hc0 : l0.length ≤ c0) (hg : graphD l0 = none) :
  Calls Tryd.prog 60 #[.slice A0 l0.length c0] w fun e w' => e = .returned (.tuple #[.pointer none, .bool false]) ∧ Below w.heap.size w w' :=
 (graphOf_calls A0 c0 l0 w hT hr0 hc0).mono fun e w' h => by unfold graphPost at h; rw [hg] at h; exact h
theorem graphOf_row (A0 : Option Addr) (c0 : Nat) (l0 : List Tk) (G : GD) (w : World) (hT : Tab w) (hr0 : k37.C w A0 l0.length l0) (hc0 : l0.length ≤ c0) (hg : graphD l0 = some G) :
  Calls Tryd.prog 60 #[.slice A0 l0.length c0] w fun e w' => ∃ (b : Nat) (v : Value), e = .returned (.tuple #[.pointer (some ⟨b, 0, none⟩), .bool true]) ∧ Below w.heap.size w w' ∧ w.heap.size ≤ b ∧ IsG w' b G ∧ w'.cell? ⟨b, 2, none⟩ = some v ∧ (Kd.int .i64).R 3 w' w.heap.size (fun _ => True) v (up G.order) :=
 (graphOf_calls A0 c0 l0 w hT hr0 hc0).mono fun e w' h => by
  unfold graphPost at h
  rw [hg] at h
  obtain ⟨b, v, h1, h2, h3, h4, h5, h6, _⟩ := h
  exact ⟨b, v, h1, h2, h3, h4, h5, h6⟩
theorem graphOf_some (A0 : Option Addr) (c0 : Nat) (l0 : List Tk) (G : GD) (w : World) (hT : Tab w) (hr0 : k37.C w A0 l0.length l0) (hc0 : l0.length ≤ c0) (hg : graphD l0 = some G) :
  Calls Tryd.prog 60 #[.slice A0 l0.length c0] w fun e w' => ∃ b : Nat, e = .returned (.tuple #[.pointer (some ⟨b, 0, none⟩), .bool true]) ∧ Below w.heap.size w w' ∧ IsG w' b G :=
 (graphOf_row A0 c0 l0 G w hT hr0 hc0 hg).mono fun e w' ⟨b, v, h1, h2, _, h3, _⟩ => ⟨b, h1, h2, h3⟩
theorem within_is (x a b : Int) (t : Bool) (w : World) (h : decide (a ≤ x ∧ x ≤ b) = t) :
  Calls Tryd.prog 81 #[.int .i64 x, .int .i64 a, .int .i64 b] w fun e w' => e = .returned (.bool t) ∧ Below w.heap.size w w' :=
 (impl_within.calls x a b t w (by rw [within_eq, h])).mono fun e w' h => ⟨h.1, drawn_below h.2⟩
theorem grown_trans {a b c : World} {row : Option Nat} (h1 : a.grownBy b row) (h2 : b.grownBy c row) : a.grownBy c row :=
 ⟨h2.os.trans h1.os, h2.tape.trans h1.tape, h2.output.trans h1.output, Nat.le_trans h1.size h2.size, fun k hk hn => (h2.block k (Nat.lt_of_lt_of_le hk h1.size) hn).trans (h1.block k hk hn)⟩
theorem grown_of_below {a b : World} (row : Option Nat) (h : Below a.heap.size a b) : a.grownBy b row := ⟨h.os, h.tape, h.output, h.size, fun k hk _ => h.block k hk⟩
end Go.Proofs.YtekajandipdlhaaDoor.Core
end
section
set_option linter.unusedVariables false
set_option linter.unusedSimpArgs false
namespace Go.Proofs.YtekajandipdlhaaDoor.Core
open Go Go.RowKit Go.Shelf Go.Proofs.YtekajandipdlhaaDoorW.PrintWords Go.Proofs.YtekajandipdlhaaDoorW.PrintLast Go.Proofs.YtekajandipdlhaaDoorW.PrintMore Go.Proofs.YtekajandipdlhaaDoor.P
attribute [local go_sem] Oper.semAt_some wide_fn wide_depth
/-- One more need's own needs. -/
def ustep (G : GD) (i : Nat) (o k : Nat) : Nat := o ||| (G.needs.getD i 0 &&& G.below.getD k 0)
/-- The needs of a task that another one of its needs needs. -/
def uselessD (G : GD) (i : Nat) : Nat := (elemsN (G.needs.getD i 0)).foldl (ustep G i) 0
theorem ustep_lt {G : GD} (ok : GOk G) (i : Nat) {o : Nat} (ho : o < 2 ^ G.tasks.length) (k : Nat) : ustep G i o k < 2 ^ G.tasks.length :=
 Nat.or_lt_two_pow ho (Nat.lt_of_le_of_lt Nat.and_le_left (getD_lt ok.nb i))
theorem ufold_lt {G : GD} (ok : GOk G) (i : Nat) : ∀ (ks : List Nat) (o : Nat), o < 2 ^ G.tasks.length → ks.foldl (ustep G i) o < 2 ^ G.tasks.length
 | [], _, h => h
 | k :: ks, o, h => ufold_lt ok i ks _ (ustep_lt ok i h k)
theorem uselessD_lt {G : GD} (ok : GOk G) (i : Nat) : uselessD G i < 2 ^ G.tasks.length := ufold_lt ok i _ 0 (Nat.two_pow_pos _)
set_option maxRecDepth 100000 in
set_option maxHeartbeats 8000000 in
theorem useless_calls (b : Nat) (G : GD) (i : Nat) (w : World) (hT : Tab w) (hg : IsG w b G) (ok : GOk G) (hi : i < G.tasks.length) :
  Calls Tryd.prog 61 #[.pointer (some ⟨b, 0, none⟩), .int .i64 (i : Int)] w fun e w' => e = .returned (.int .u16 ((uselessD G i : Nat) : Int)) ∧ Below w.heap.size w w' := by
 obtain ⟨xi, hxi⟩ : ∃ x : Int, x = (i : Int) := ⟨_, rfl⟩
 rw [← hxi]
 have HI := Aside0.mk hxi
 clear hxi
 refine calls_marks Tryd.func61 rfl ?_
 simp only [Tryd.ntmps61, List.size_toArray, List.length_cons, List.length_nil, Nat.reduceAdd, Nat.reduceSub, Array.replicate_succ, Array.replicate_zero, List.push_toArray, List.append_toArray, List.nil_append, List.cons_append]
 go_wp2
 have o1 : (w.alloc (.cells #[.pointer (some ⟨b, 0, none⟩)] 61)).heap.size = w.heap.size + 1 := by simp
 have x1 := Boxed.new w 61 (.pointer (some ⟨b, 0, none⟩))
 have B1 := (Below.refl w.heap.size w).alloc (Nat.le_refl _) (.cells #[.pointer (some ⟨b, 0, none⟩)] 61)
 revert o1 x1 B1
 generalize w.alloc (.cells #[.pointer (some ⟨b, 0, none⟩)] 61) = w1
 intro o1 x1 B1
 have i2 := Boxed.new w1 3 (.int .i64 xi)
 rw [o1] at i2
 have o2 : (w1.alloc (.cells #[.int .i64 xi] 3)).heap.size = w.heap.size + 1 + 1 := by simp [o1]
 have x2 := x1.alloc (.cells #[.int .i64 xi] 3)
 have B2 := B1.alloc (by omega) (.cells #[.int .i64 xi] 3)
 revert o2 x2 B2 i2
 generalize w1.alloc (.cells #[.int .i64 xi] 3) = w2
 intro i2 o2 x2 B2
 have u3 := Boxed.new w2 70 (.int .u16 0)
 rw [o2] at u3
 have o3 : (w2.alloc (.cells #[.int .u16 0] 70)).heap.size = w.heap.size + 1 + 1 + 1 := by simp [o2]
 have x3 := x2.alloc (.cells #[.int .u16 0] 70)
 have i3 := i2.alloc (.cells #[.int .u16 0] 70)
 have B3 := B2.alloc (by omega) (.cells #[.int .u16 0] 70)
 revert o3 x3 B3 i3 u3
 generalize w2.alloc (.cells #[.int .u16 0] 70) = w3
 intro u3 o3 x3 i3 B3
 clear o1 x1 B1 i2 o2 x2 B2
 refine wp_region_still_tail 7 rfl (by kernel_rfl) ?_
 change wpStill _ _ w3.drew (fun a' => wpList _ _ _ _ a' w3.drew) _ _
 have hdr : Below w3.heap.size w3 w3.drew := below_drew (Below.refl _ _)
 revert hdr
 generalize w3.drew = w4
 intro hdr
 have x4 : Boxed w4 w.heap.size 61 (.pointer (some ⟨b, 0, none⟩)) := (hdr.block _ x3.lt).trans x3
 have i4 : Boxed w4 (w.heap.size + 1) 3 (.int .i64 xi) := (hdr.block _ i3.lt).trans i3
 have u4 : Boxed w4 (w.heap.size + 1 + 1) 70 (.int .u16 0) := (hdr.block _ u3.lt).trans u3
 have B4 := below_step B3 hdr
 have hs4 : w.heap.size + 1 + 1 + 1 ≤ w4.heap.size := by have := hdr.size; omega
 clear u3 o3 x3 i3 B3 hdr
 have hg4 := hg.move B4
 obtain ⟨A1, c1, hcn, hcl, hC⟩ := hg4.needs
 have hnl := ok.nl
 have hxi := HI.out
 have p0 : 0 ≤ xi := by omega
 have q0 : xi < (G.needs.length : Int) := by omega
 obtain ⟨ad, e0, hxn⟩ := Kd.at_int hC xi p0 q0
 subst e0
 rw [rd_up (i := i) hxi] at hxn
 have h256 := pow8 ok.n8
 have hsi := getD_lt ok.nb i
 have hs_ : uselessD G i = (elemsN (G.needs.getD i 0)).foldl (ustep G i) 0 := rfl
 have hlt8 : ∀ {x : Int}, x ∈ elems (G.needs.getD i 0) → x < G.tasks.length := fun hx => by have := elems_lt hsi hx; omega
 generalize hsn : G.needs.getD i 0 = s at hxn hsi hs_ hlt8
 have HS := Aside0.mk hsn
 have HU := Aside0.mk hs_
 clear hsn hs_ hxi hnl hC hcl
 have hcx := x4.cell
 have hci := i4.cell
 replace p0 := eq_true p0
 replace q0 := eq_true q0
 simp only [List.take_succ_cons, List.take_zero, List.drop_succ_cons, List.drop_zero]
 repeat still_step
 refine wpStill_nil ?_
 go_wp2_with (go_at_call 62; refine (all_calls s _).mono ?_; rintro e w' ⟨rfl, rfl⟩)
 clear hcx hci hcn hxn p0 q0 hg4
 have s5 := Boxed.new w4 70 (.int .u16 (s : Int))
 have x5 := x4.alloc (.cells #[.int .u16 (s : Int)] 70)
 have i5 := i4.alloc (.cells #[.int .u16 (s : Int)] 70)
 have u5 := u4.alloc (.cells #[.int .u16 (s : Int)] 70)
 have B5 := B4.alloc B4.size (.cells #[.int .u16 (s : Int)] 70)
 have o5 : (w4.alloc (.cells #[.int .u16 (s : Int)] 70)).heap.size = w4.heap.size + 1 := by simp
 revert s5 x5 i5 u5 B5 o5
 generalize w4.alloc (.cells #[.int .u16 (s : Int)] 70) = w5
 intro s5 x5 i5 u5 B5 o5
 clear x4 i4 u4 B4
 have hle : w.heap.size ≤ w5.heap.size := B5.size
 refine wp_rangeSet Tab.tame (w := w5) (w0 := w5) (p := 15) (d := 6) rfl (enters_of Tryd.func101 (by kernel_rfl) rfl)
  (all_seq w4.heap.size s (Nat.lt_of_lt_of_le hsi h256) w5 (hT.of B5) s5.cell) (Below.refl _ _) (by simp)
  (fun ys W' => ∃ zs : List Nat, ys = up zs ∧ Boxed W' (w.heap.size + 1 + 1) 70 (.int .u16 ((zs.foldl (ustep G i) 0 : Nat) : Int)) ∧ Boxed W' w.heap.size 61 (.pointer (some ⟨b, 0, none⟩)) ∧ Boxed W' (w.heap.size + 1) 3 (.int .i64 xi) ∧ Below w.heap.size w W' ∧ w5.heap.size ≤ W'.heap.size) (fun _ _ _ => False)
  (ownFrom_tame (fun ys W' W'' ht ⟨zs, a, b, c, d, e, f⟩ => ⟨zs, a, ht.boxed b, ht.boxed c, ht.boxed d, ht.below e (Nat.le_refl _) hle, Nat.le_trans f ht.size⟩)) (fun _ => ownFrom_tame (fun _ _ _ _ h => h))
  ⟨[], rfl, u5, x5, i5, B5, Nat.le_refl _⟩ (fun ys W' ⟨_, _, _, _, _, b, _⟩ => hT.of b) ?body ?done (fun _ _ _ _ _ h _ => h.elim)
 case body =>
  rintro l pre1 x W1 hx ⟨zs, rfl, hu, hxb, hib, hB, hsz⟩ hlt1
  gi_wp2
  obtain ⟨k0, hxk, hk8, _⟩ := mem_elems.1 hx
  have hkn : k0 < G.tasks.length := by have := hlt8 hx; omega
  have hofold := ufold_lt ok i zs 0 (Nat.two_pow_pos _)
  have hstep : (zs ++ [k0]).foldl (ustep G i) 0 = zs.foldl (ustep G i) 0 ||| (s &&& G.below.getD k0 0) := by rw [List.foldl_append, ← HS.out]; rfl
  refine wpIn_still_tail 17 rfl (by kernel_rfl) (by kernel_rfl) (fun ⟨_, _, h⟩ => h) ?_
  change wpStill _ _ W1.drew (fun a' => wpList _ _ _ _ a' W1.drew) _ _
  have hdr : Below W1.heap.size W1 W1.drew := below_drew (Below.refl _ _)
  have hko := KeepsOthers.drew W1
  revert hdr hko
  generalize W1.drew = Wd
  intro hdr hko
  have hu4 : Boxed Wd (w.heap.size + 1 + 1) 70 (.int .u16 ((zs.foldl (ustep G i) 0 : Nat) : Int)) := (hdr.block _ hu.lt).trans hu
  have hxb4 : Boxed Wd w.heap.size 61 (.pointer (some ⟨b, 0, none⟩)) := (hdr.block _ hxb.lt).trans hxb
  have hib4 : Boxed Wd (w.heap.size + 1) 3 (.int .i64 xi) := (hdr.block _ hib.lt).trans hib
  have hBd := below_step hB hdr
  have hgd := hg.move hBd
  obtain ⟨An, cn, hcn, _, hCn⟩ := hgd.needs
  obtain ⟨Ab, cb, hcb, _, hCb⟩ := hgd.below
  have hnl := ok.nl
  have hbl := ok.bl
  have hxi := HI.out
  have p1 : 0 ≤ xi := by omega
  have q1 : xi < (G.needs.length : Int) := by omega
  have p2 : 0 ≤ x := by omega
  have q2 : x < (G.below.length : Int) := by omega
  obtain ⟨adn, e1, hxn⟩ := Kd.at_int hCn xi p1 q1
  obtain ⟨adb, e2, hxbl⟩ := Kd.at_int hCb x p2 q2
  subst e1
  subst e2
  rw [rd_up (i := i) hxi, HS.out] at hxn
  rw [rd_up (i := k0) hxk] at hxbl
  have hbk := getD_lt ok.bb k0
  generalize G.below.getD k0 0 = sb at hxbl hbk hstep
  have hand := and_eq (a := s) (b := sb) (Nat.lt_of_lt_of_le hsi h256) (Nat.lt_of_lt_of_le hbk h256)
  have handlt : s &&& sb < 2 ^ G.tasks.length := Nat.lt_of_le_of_lt Nat.and_le_left hsi
  generalize hr2_ : s &&& sb = r2 at hand handlt hstep
  generalize hso : zs.foldl (ustep G i) 0 = so at hu4 hofold hstep
  have hor := or_eq (a := so) (b := r2) (Nat.lt_of_lt_of_le hofold h256) (Nat.lt_of_lt_of_le handlt h256)
  generalize so ||| r2 = r3 at hor hstep
  replace p1 := eq_true p1
  replace q1 := eq_true q1
  replace p2 := eq_true p2
  replace q2 := eq_true q2
  have hcu := hu4.cell
  have hfu := hu4.frozen
  have hcx := hxb4.cell
  have hci := hib4.cell
  have HX := Aside0.mk hxk
  have HST := Aside0.mk hstep
  clear hxk hx hnl hbl hxi hr2_ hso hstep hgd hCn hCb hlt1
  simp only [List.take_succ_cons, List.take_zero, List.drop_succ_cons, List.drop_zero]
  repeat still_step
  refine wpStill_nil ?_
  go_wp2
  have hgr := grownBy_setCell' Wd (w.heap.size + 1 + 1) (.int .u16 (r3 : Int))
  refine ⟨(hko.trans (KeepsOthers.setCell _ _ _)).from _, zs ++ [k0], ?_, ?_, ?_, ?_, ?_, ?_⟩
  ·rw [HX.out]; simp [up]
  ·rw [HST.out]; exact hu4.set _
  ·exact hxb4.kept hgr (fun e => by injection e with e; omega)
  ·exact hib4.kept hgr (fun e => by injection e with e; omega)
  ·exact below_put hgr hBd (Nat.le_refl _) (by omega)
  ·have h1 := hgr.size; have h3 := hdr.size; omega
 case done =>
  rintro D W2 hD ⟨zs, hzs, hu, hxb, hib, hB, hsz⟩ hk
  obtain rfl : elemsN s = zs := up_inj hzs
  have hm := (Marks.nil w.heap.size w5.heap.size W2).cons hD (by omega) hk
  rw [← HU.out] at hu
  have hcu := hu.cell
  clear hzs hk
  go_wp2
  refine leave_ret hm (fun W => results_tmp rfl _ _ _) ?_
  intro W' ht
  exact ⟨rfl, ht.below hB (Nat.le_refl _) (Nat.le_refl _)⟩
end Go.Proofs.YtekajandipdlhaaDoor.Core
end
section
set_option linter.unusedVariables false
set_option linter.unusedSimpArgs false
namespace Go.Proofs.YtekajandipdlhaaDoor.Core
open Go Go.RowKit Go.Shelf Go.Proofs.YtekajandipdlhaaDoorW.PrintWords Go.Proofs.YtekajandipdlhaaDoorW.PrintLast Go.Proofs.YtekajandipdlhaaDoorW.PrintMore Go.Proofs.YtekajandipdlhaaDoor.P
attribute [local go_sem] Oper.semAt_some wide_fn wide_depth
/-- All needs of the set's tasks are in it. -/
def closedD (N : List Nat) (s : Nat) : Bool := (elemsN s).all fun i => decide (sub (N.getD i 0) s = 0)
/-- The world behind the three results' boxes. -/
structure DW (w w0 : World) : Prop where
 eq : w0 = ((w.alloc (.cells #[.pointer none] 61)).alloc (.cells #[.int .u16 0] 70)).alloc (.cells #[.bool false] 4)
 r0 : Boxed w0 w.heap.size 61 (.pointer none)
 r1 : Boxed w0 (w.heap.size + 1) 70 (.int .u16 0)
 r2 : Boxed w0 (w.heap.size + 1 + 1) 4 (.bool false)
 below : Below w.heap.size w w0
 size : w0.heap.size = w.heap.size + 1 + 1 + 1
/-- Behind a call that leaves the elder blocks alone, and a further box. -/
theorem DW.on {w w0 w1 : World} (h : DW w w0) (hB : Below w0.heap.size w0 w1) : Boxed w1 w.heap.size 61 (.pointer none) ∧ Boxed w1 (w.heap.size + 1) 70 (.int .u16 0) ∧ Boxed w1 (w.heap.size + 1 + 1) 4 (.bool false) ∧ Below w.heap.size w w1 :=
 ⟨(hB.block _ h.r0.lt).trans h.r0, (hB.block _ h.r1.lt).trans h.r1, (hB.block _ h.r2.lt).trans h.r2, below_step h.below hB⟩
/-- The three results' boxes, and those of the graph and the set; what graphOf made stays. -/
structure DI (w w1 : World) (bx bs b s : Nat) (W : World) : Prop where
 r0 : Boxed W w.heap.size 61 (.pointer none)
 r1 : Boxed W (w.heap.size + 1) 70 (.int .u16 0)
 r2 : Boxed W (w.heap.size + 1 + 1) 4 (.bool false)
 x : Boxed W bx 61 (.pointer (some ⟨b, 0, none⟩))
 s : Boxed W bs 70 (.int .u16 (s : Int))
 below : Below w.heap.size w W
 keep : ∀ k, w.heap.size + 1 + 1 + 1 ≤ k → k < w1.heap.size → W.heap[k]? = w1.heap[k]?
 size : w1.heap.size ≤ W.heap.size
theorem DI.move {w w1 : World} {bx bs b s : Nat} {W W' : World} (h : DI w w1 bx bs b s W) (hb : Below W.heap.size W W') : DI w w1 bx bs b s W' :=
 ⟨(hb.block _ h.r0.lt).trans h.r0, (hb.block _ h.r1.lt).trans h.r1, (hb.block _ h.r2.lt).trans h.r2, (hb.block _ h.x.lt).trans h.x, (hb.block _ h.s.lt).trans h.s, below_step h.below hb,
  fun k h1 h2 => (hb.block k (Nat.lt_of_lt_of_le h2 h.size)).trans (h.keep k h1 h2), Nat.le_trans h.size hb.size⟩
theorem DI.tame {w w1 : World} {bx bs b s B : Nat} {W W' : World} (h : DI w w1 bx bs b s W) (hw : w.heap.size ≤ B) (hB : w1.heap.size ≤ B) (ht : Tame B W W') : DI w w1 bx bs b s W' :=
 ⟨ht.boxed h.r0, ht.boxed h.r1, ht.boxed h.r2, ht.boxed h.x, ht.boxed h.s, ht.below h.below (Nat.le_refl _) hw,
  fun k h1 h2 => (ht.block k (Nat.lt_of_lt_of_le h2 h.size) (.inl (Nat.lt_of_lt_of_le h2 hB))).trans (h.keep k h1 h2), Nat.le_trans h.size ht.size⟩
end Go.Proofs.YtekajandipdlhaaDoor.Core
end
section
set_option linter.unusedVariables false
set_option linter.unusedSimpArgs false
namespace Go.Proofs.YtekajandipdlhaaDoor.Core
open Go Go.RowKit Go.Proofs.YtekajandipdlhaaDoorW.PrintWords Go.Proofs.YtekajandipdlhaaDoorW.PrintMore Go.Proofs.YtekajandipdlhaaDoor.P
theorem VG.list_bit {g : List Tk} {G : GD} (v : VG g G) {s : Nat} (hs : s < 2 ^ g.length) (i : Nat) : s.testBit i = true ↔ i ∈ elemsN s := by
 rw [mem_elemsN]
 refine ⟨fun h => ⟨?_, h⟩, fun h => h.2⟩
 have h1 := Nat.ge_two_pow_of_testBit h
 have h2 : 2 ^ i < 2 ^ g.length := Nat.lt_of_le_of_lt h1 hs
 have h3 := (Nat.pow_lt_pow_iff_right (by omega : 1 < 2)).1 h2
 have := v.n8
 omega
end Go.Proofs.YtekajandipdlhaaDoor.Core
end
section
set_option linter.unusedVariables false
set_option linter.unusedSimpArgs false
namespace Go.Proofs.YtekajandipdlhaaDoor.Core
open Go Go.RowKit Go.Shelf Go.Proofs.YtekajandipdlhaaDoorW.PrintWords Go.Proofs.YtekajandipdlhaaDoorW.PrintLast Go.Proofs.YtekajandipdlhaaDoorW.PrintMore Go.Proofs.YtekajandipdlhaaDoor.P
attribute [local go_sem] Oper.semAt_some wide_fn wide_depth
/-- The answer that some number of rounds gives. -/
noncomputable def lim {α : Type} (f : Nat → Option α) : Option α := open Classical in if h : ∃ k r, f k = some r then some h.choose_spec.choose else none
theorem lim_some {α : Type} {f : Nat → Option α} {r : α} (h : lim f = some r) : ∃ k, f k = some r := by
 unfold lim at h
 by_cases hh : ∃ k r, f k = some r
 ·rw [dif_pos hh] at h
  cases h
  exact ⟨_, hh.choose_spec.choose_spec⟩
 ·rw [dif_neg hh] at h; cases h
theorem lim_of {α : Type} {f : Nat → Option α} (hm : ∀ k, LeO (f k) (f (k + 1))) {k : Nat} {r : α} (h : f k = some r) : lim f = some r := by
 have hh : ∃ k r, f k = some r := ⟨k, r, h⟩
 have h2 := hh.choose_spec.choose_spec
 unfold lim
 rw [dif_pos hh]
 rcases Nat.le_total k hh.choose with hle | hle
 ·have := at_rounds hm hle h
  rw [h2] at this; exact this
 ·have := at_rounds hm hle h2
  rw [h] at this; exact this.symm
theorem mkQ (w : World) (base : Nat) (ok : Nat → Prop) (x : Tk) {v1 : Value} (g1 : (Kd.int .i64).Q 3 w base ok v1 x.f1) : k37.M w base ok x [.int .i64 x.f0, v1, .int .i64 x.f2, .int .i64 x.f3] :=
 ⟨[.int .i64 x.f0], [v1, .int .i64 x.f2, .int .i64 x.f3], rfl, rfl, ⟨[v1], [.int .i64 x.f2, .int .i64 x.f3], rfl, ⟨v1, rfl, g1⟩, ⟨[.int .i64 x.f2], [.int .i64 x.f3], rfl, rfl, rfl⟩⟩⟩
theorem S_put0 {W : World} {base gb n cap : Nat} {ok : Nat → Prop} {xs : List Tk} (h : Kd.S k37 37 W base ok (.slice (some ⟨gb, 0, none⟩) n cap) xs) (i : Int) (h0 : 0 ≤ i) (h1 : i < n) :
  (∃ u, W.cell? ⟨gb, i.toNat * 4, none⟩ = some (.int .i64 u)) ∧ W.frozen? ⟨gb, i.toNat * 4, none⟩ = false ∧ ∀ t : Int,
   Kd.S k37 37 (W.setCell ⟨gb, i.toNat * 4, none⟩ (.int .i64 t)) base ok (.slice (some ⟨gb, 0, none⟩) n cap) (xs.set i.toNat { rd_T37 xs i with f0 := t }) ∧ W.grownBy (W.setCell ⟨gb, i.toNat * 4, none⟩ (.int .i64 t)) (some gb) := by
 obtain ⟨oki, c, hcl, hM, hcc, hfr, hoki, hH⟩ := Kd.S_elem (Kd.S_mono (ok' := fun k => ok k ∧ ¬ False) h (fun k hk => ⟨hk, id⟩)) z37 i h0 h1
 obtain ⟨v1, rfl, g1⟩ := k37_openM hM
 refine ⟨⟨_, hcc 0 _ rfl⟩, hfr 0, fun t => ?_⟩
 exact Kd.S_seg (okg := fun _ => False) hH h0 h1 (seg := [.int .i64 t]) (j := 0) (show 0 + 1 ≤ 4 from by decide) (x' := { rd_T37 xs i with f0 := t }) (mkQ _ _ _ { rd_T37 xs i with f0 := t } g1) (fun k hk => .inl hk) (fun k hk => hk.elim)
theorem S_put2 {W : World} {base gb n cap : Nat} {ok : Nat → Prop} {xs : List Tk} (h : Kd.S k37 37 W base ok (.slice (some ⟨gb, 0, none⟩) n cap) xs) (i : Int) (h0 : 0 ≤ i) (h1 : i < n) :
  (∃ u, W.cell? ⟨gb, i.toNat * 4 + 2, none⟩ = some (.int .i64 u)) ∧ W.frozen? ⟨gb, i.toNat * 4 + 2, none⟩ = false ∧ ∀ t : Int,
   Kd.S k37 37 (W.setCell ⟨gb, i.toNat * 4 + 2, none⟩ (.int .i64 t)) base ok (.slice (some ⟨gb, 0, none⟩) n cap) (xs.set i.toNat { rd_T37 xs i with f2 := t }) ∧ W.grownBy (W.setCell ⟨gb, i.toNat * 4 + 2, none⟩ (.int .i64 t)) (some gb) := by
 obtain ⟨oki, c, hcl, hM, hcc, hfr, hoki, hH⟩ := Kd.S_elem (Kd.S_mono (ok' := fun k => ok k ∧ ¬ False) h (fun k hk => ⟨hk, id⟩)) z37 i h0 h1
 obtain ⟨v1, rfl, g1⟩ := k37_openM hM
 refine ⟨⟨_, hcc 2 _ rfl⟩, hfr 2, fun t => ?_⟩
 exact Kd.S_seg (okg := fun _ => False) hH h0 h1 (seg := [.int .i64 t]) (j := 2) (show 2 + 1 ≤ 4 from by decide) (x' := { rd_T37 xs i with f2 := t }) (mkQ _ _ _ { rd_T37 xs i with f2 := t } g1) (fun k hk => .inl hk) (fun k hk => hk.elim)
theorem S_put3 {W : World} {base gb n cap : Nat} {ok : Nat → Prop} {xs : List Tk} (h : Kd.S k37 37 W base ok (.slice (some ⟨gb, 0, none⟩) n cap) xs) (i : Int) (h0 : 0 ≤ i) (h1 : i < n) :
  (∃ u, W.cell? ⟨gb, i.toNat * 4 + 3, none⟩ = some (.int .i64 u)) ∧ W.frozen? ⟨gb, i.toNat * 4 + 3, none⟩ = false ∧ ∀ t : Int,
   Kd.S k37 37 (W.setCell ⟨gb, i.toNat * 4 + 3, none⟩ (.int .i64 t)) base ok (.slice (some ⟨gb, 0, none⟩) n cap) (xs.set i.toNat { rd_T37 xs i with f3 := t }) ∧ W.grownBy (W.setCell ⟨gb, i.toNat * 4 + 3, none⟩ (.int .i64 t)) (some gb) := by
 obtain ⟨oki, c, hcl, hM, hcc, hfr, hoki, hH⟩ := Kd.S_elem (Kd.S_mono (ok' := fun k => ok k ∧ ¬ False) h (fun k hk => ⟨hk, id⟩)) z37 i h0 h1
 obtain ⟨v1, rfl, g1⟩ := k37_openM hM
 refine ⟨⟨_, hcc 3 _ rfl⟩, hfr 3, fun t => ?_⟩
 exact Kd.S_seg (okg := fun _ => False) hH h0 h1 (seg := [.int .i64 t]) (j := 3) (show 3 + 1 ≤ 4 from by decide) (x' := { rd_T37 xs i with f3 := t }) (mkQ _ _ _ { rd_T37 xs i with f3 := t } g1) (fun k hk => .inl hk) (fun k hk => hk.elim)
def spec_anyGraph.fk (k : Nat) (s0 : List Int) (s1 : Int) : Option (List Tk × Int) :=
 (spec_someGraph.f k s0 s1 8).bind fun a =>
 if a.1.length = 0 then some (a.1, a.2) else
 (spec_reader_pick.f k s0 a.2 (a.1.length : Int)).bind fun p =>
 (spec_reader_pick.f k s0 p.2 24).bind fun q =>
 if ¬ (0 ≤ p.1 ∧ p.1 < (a.1.length : Int)) then none else
 if q.1 = 0 then (spec_reader_one.f k s0 q.2 [0, 21, 20]).bind fun t => some (a.1.set p.1.toNat { rd_T37 a.1 p.1 with f0 := t.1 }, t.2)
 else if q.1 = 1 then (spec_reader_pick.f k s0 q.2 (a.1.length : Int)).bind fun b =>
  if (rd_T37 a.1 p.1).f1.length < 1000 then (spec_reader_spoil.f k s0 b.2 ((rd_T37 a.1 p.1).f1 ++ [b.1]) 8).bind fun c => some (a.1.set p.1.toNat { rd_T37 a.1 p.1 with f1 := c.1 }, c.2) else none
 else if q.1 = 2 then (spec_reader_one.f k s0 q.2 [-1, 3]).bind fun t => some (a.1.set p.1.toNat { rd_T37 a.1 p.1 with f2 := t.1 }, t.2)
 else if q.1 = 3 then (spec_reader_one.f k s0 q.2 [0, 5]).bind fun t => some (a.1.set p.1.toNat { rd_T37 a.1 p.1 with f3 := t.1 }, t.2)
 else if q.1 = 4 then (spec_someGraph.f k s0 q.2 8).bind fun b => if a.1.length + b.1.length < 1000 then some (a.1 ++ b.1, b.2) else none
 else some (a.1, q.2)
theorem spec_anyGraph.mono : ∀ a0 a1 k, LeO (spec_anyGraph.fk k a0 a1) (spec_anyGraph.fk (k + 1) a0 a1) := by
 intro a0 a1 k
 unfold spec_anyGraph.fk
 repeat' first
   | (with_reducible exact spec_someGraph.mono _ _ _ _)
   | (with_reducible exact spec_reader_pick.mono _ _ _ _)
   | (with_reducible exact spec_reader_one.mono _ _ _ _)
   | (with_reducible exact spec_reader_spoil.mono _ _ _ _ _)
   | (with_reducible exact LeO.refl _)
   | (with_reducible exact LeO.none _)
   | (with_reducible refine LeO.ite ?_ ?_)
   | (with_reducible refine LeO.bind ?_ (fun _ => ?_))
   | exact LeO.none _
   | refine LeO.ite ?_ ?_
   | refine LeO.bind ?_ (fun _ => ?_)
/-- What anyGraph leaves. -/
def anyPost (w0 w : World) (g : Nat) (s0 : List Int) (r1 : List Tk) (r2 : Int) (e : Ending) (w' : World) : Prop :=
 ∃ v0_ : Value, e = .returned (v0_) ∧ Kd.S k37 37 w' w.heap.size (fun _ => True) v0_ r1 ∧ IsS101 w0 w' g s0 r2 ∧ Below w0.heap.size w0 w' ∧ KeepBut w w' g none
theorem R_lits {w : World} {b base t : Nat} {l : List Int} (h : w.heap[b]? = some (.cells (l.map (Value.int .i64)).toArray t (0, 0))) (hb : base ≤ b) (hl : l.length ≤ maxLen) : (Kd.int .i64).R t w base (fun _ => True) (.slice (some ⟨b, 0, none⟩) l.length l.length) l :=
 row_R (k := .i64) ⟨by simp, .inr ⟨b, l.length, _, rfl, hb, h, Nat.le_refl _, hl, by simp, by simp [List.take_of_length_le]⟩⟩
theorem C_lits {w : World} {b t : Nat} {l : List Int} (h : w.heap[b]? = some (.cells (l.map (Value.int .i64)).toArray t (0, 0))) (hl : l.length ≤ maxLen) : (Kd.int .i64).C w (some ⟨b, 0, none⟩) l.length l :=
 (Kd.R_reads' (R_lits (base := 0) h (Nat.zero_le _) hl)).2.2
set_option maxRecDepth 100000 in
set_option maxHeartbeats 4000000 in
theorem any_empty (k g : Nat) (s0 : List Int) (s1 : Int) (w0 w : World) (hI : IsS101 w0 w g s0 s1) (hB : Below w0.heap.size w0 w) (a2 : Int) (h1 : spec_someGraph.f k s0 s1 8 = some ([], a2)) : Calls Tryd.prog 67 #[.pointer (some ⟨g, 0, none⟩)] w (anyPost w0 w g s0  [] a2) := by
 have A1 := Aside0.mk h1
 clear h1
 obtain ⟨a, ha⟩ : ∃ a : List Tk, a = [] := ⟨_, rfl⟩
 rw [← ha] at A1
 have hlen : (a.length : Int) = 0 := by rw [ha]; rfl
 have HA := Aside0.mk ha
 clear ha
 have hz : ((a.length : Int) == 0) = true := by simp [hlen]
 have HL := Aside0.mk hlen
 clear hlen
 go_enter Tryd.func67, Tryd.ntmps67
 go_wp2_with (go_at_call 103; refine (spec_someGraph.calls k g s0 s1 8 a a2 w0 _ hI hB A1.out).mono ?_; rintro e w1 ⟨v1, rfl, hS1, hI1, hB1, hK1⟩; clear hI hB; obtain ⟨A, c, rfl⟩ := Kd.S_slice hS1)
 go_ret
 exact ⟨_, rfl, by rw [← HA.out]; exact hS1, hI1, hB1, hK1⟩
set_option maxRecDepth 100000 in
set_option maxHeartbeats 4000000 in
theorem any_same (k g : Nat) (s0 : List Int) (s1 : Int) (w0 w : World) (hI : IsS101 w0 w g s0 s1) (hB : Below w0.heap.size w0 w) (a : List Tk) (a2 p p2 q q2 : Int) (hpos : 0 < a.length) (hp0 : 0 ≤ p) (hp1 : p < (a.length : Int)) (h1 : spec_someGraph.f k s0 s1 8 = some (a, a2)) (h2 : spec_reader_pick.f k s0 a2 (a.length : Int) = some (p, p2)) (h3 : spec_reader_pick.f k s0 p2 24 = some (q, q2)) (hq : q ≠ 0 ∧ q ≠ 1 ∧ q ≠ 2 ∧ q ≠ 3 ∧ q ≠ 4) : Calls Tryd.prog 67 #[.pointer (some ⟨g, 0, none⟩)] w (anyPost w0 w g s0  a q2) := by
 have A1 := Aside0.mk h1
 have A2 := Aside0.mk h2
 have A3 := Aside0.mk h3
 clear h1 h2 h3
 have hz : ((a.length : Int) == 0) = false := beq_eq_false_iff_ne.2 (by omega)
 have hglt : g < w.heap.size := hI.lt
 have hq0 : (q == 0) = false := beq_eq_false_iff_ne.2 (by omega)
 have hq1 : (q == 1) = false := beq_eq_false_iff_ne.2 (by omega)
 have hq2 : (q == 2) = false := beq_eq_false_iff_ne.2 (by omega)
 have hq3 : (q == 3) = false := beq_eq_false_iff_ne.2 (by omega)
 have hq4 : (q == 4) = false := beq_eq_false_iff_ne.2 (by omega)
 go_enter Tryd.func67, Tryd.ntmps67
 go_wp2_with (first | (go_at_call 103; refine (spec_someGraph.calls k g s0 s1 8 a a2 w0 _ hI hB A1.out).mono ?_; rintro e w1 ⟨v1, rfl, hS1, hI1, hB1, hK1⟩; clear hI hB; obtain ⟨gb, cap, rfl, hgb, hgl, cells, hcells⟩ := Kd.S_form hS1 hpos) | (go_at_call 104; refine (spec_reader_pick.calls k g s0 a2 (a.length : Int) p p2 w0 _ hI1 hB1 A2.out).mono ?_; rintro e w2 ⟨rfl, hI2, hB2, hK2⟩; clear hI1 hB1) | (go_at_call 104; refine (spec_reader_pick.calls k g s0 p2 24 q q2 w0 _ hI2 hB2 A3.out).mono ?_; rintro e w3 ⟨rfl, hI3, hB3, hK3⟩; clear hI2 hB2))
 have hS3 : Kd.S k37 37 w3 w.heap.size (fun k => k ≠ g) (.slice (some ⟨gb, 0, none⟩) a.length cap) a := Kd.S_keep (Kd.S_keep (Kd.S_mono (Kd.S_bound hS1) (fun k hk => Nat.ne_of_gt (Nat.lt_of_lt_of_le hglt hk.2.1))) hK2 (fun k hk => hk)) hK3 (fun k hk => hk)
 have hK4 := (hK1.trans hK2 (.inl rfl)).trans hK3 (.inl rfl)
 clear hS1 hK1 hK2 hK3
 go_ret
 exact ⟨_, rfl, Kd.S_mono hS3 (fun _ _ => trivial), hI3, hB3, hK4⟩
set_option maxRecDepth 100000 in
set_option maxHeartbeats 4000000 in
theorem any_case0 (k g : Nat) (s0 : List Int) (s1 : Int) (w0 w : World) (hI : IsS101 w0 w g s0 s1) (hB : Below w0.heap.size w0 w) (a : List Tk) (a2 p p2 q q2 : Int) (hpos : 0 < a.length) (hp0 : 0 ≤ p) (hp1 : p < (a.length : Int)) (h1 : spec_someGraph.f k s0 s1 8 = some (a, a2)) (h2 : spec_reader_pick.f k s0 a2 (a.length : Int) = some (p, p2)) (h3 : spec_reader_pick.f k s0 p2 24 = some (q, q2)) (hq : q = 0) (t t2 : Int) (h4 : spec_reader_one.f k s0 q2 [0, 21, 20] = some (t, t2)) : Calls Tryd.prog 67 #[.pointer (some ⟨g, 0, none⟩)] w (anyPost w0 w g s0  (a.set p.toNat { rd_T37 a p with f0 := t }) t2) := by
 have A1 := Aside0.mk h1
 have A2 := Aside0.mk h2
 have A3 := Aside0.mk h3
 clear h1 h2 h3
 have hz : ((a.length : Int) == 0) = false := beq_eq_false_iff_ne.2 (by omega)
 have hglt : g < w.heap.size := hI.lt
 have A4 := Aside0.mk h4
 clear h4
 have hq0 : (q == 0) = true := by simp [hq]
 have hp0' := eq_true hp0
 have hp1' := eq_true hp1
 go_enter Tryd.func67, Tryd.ntmps67
 go_wp2_with (first | (go_at_call 103; refine (spec_someGraph.calls k g s0 s1 8 a a2 w0 _ hI hB A1.out).mono ?_; rintro e w1 ⟨v1, rfl, hS1, hI1, hB1, hK1⟩; clear hI hB; obtain ⟨gb, cap, rfl, hgb, hgl, cells, hcells⟩ := Kd.S_form hS1 hpos) | (go_at_call 104; refine (spec_reader_pick.calls k g s0 a2 (a.length : Int) p p2 w0 _ hI1 hB1 A2.out).mono ?_; rintro e w2 ⟨rfl, hI2, hB2, hK2⟩; clear hI1 hB1) | (go_at_call 104; refine (spec_reader_pick.calls k g s0 p2 24 q q2 w0 _ hI2 hB2 A3.out).mono ?_; rintro e w3 ⟨rfl, hI3, hB3, hK3⟩; clear hI2 hB2) | (go_at_call 105; have hS3 : Kd.S k37 37 w3 w.heap.size (fun k => k ≠ g) (.slice (some ⟨gb, 0, none⟩) a.length cap) a := Kd.S_keep (Kd.S_keep (Kd.S_mono (Kd.S_bound hS1) (fun k hk => Nat.ne_of_gt (Nat.lt_of_lt_of_le hglt hk.2.1))) hK2 (fun k hk => hk)) hK3 (fun k hk => hk); have hK4 := (hK1.trans hK2 (.inl rfl)).trans hK3 (.inl rfl); clear hS1 hK1 hK2 hK3; have hN4 := cells_new w3 (.cells #[.int .i64 0, .int .i64 21, .int .i64 20] 3); have hI4 := hI3.alloc (.cells #[.int .i64 0, .int .i64 21, .int .i64 20] 3); have hB4 := hB3.alloc hB3.size (.cells #[.int .i64 0, .int .i64 21, .int .i64 20] 3); have hS4 := Kd.S_alloc hS3 (.cells #[.int .i64 0, .int .i64 21, .int .i64 20] 3); have hK5 := keep_alloc hK4 (.cells #[.int .i64 0, .int .i64 21, .int .i64 20] 3); have hsz := hI3.lt; refine (spec_reader_one.calls k g s0 q2 _ _ [0, 21, 20] t t2 w0 _ hI4 hB4 (C_lits (l := [0, 21, 20]) hN4 (by decide)) (by decide) (fun ad e _ => by cases e; show w3.heap.size ≠ g; omega) A4.out).mono ?_; rintro e w5 ⟨rfl, hI5, hB5, hK6⟩; have hS5 := Kd.S_keep hS4 hK6 (fun k hk => hk); obtain ⟨⟨u, hcu⟩, hfu, hput⟩ := S_put0 hS5 p hp0 hp1; have hK7 := hK5.trans hK6 (.inl rfl); have HPUT := Aside0.mk hput; have hI6 := Aside0.mk hI5; clear hS4 hS3 hI3 hB3 hK4 hI4 hB4 hN4 hK5 hK6 hput hI5))
 go_ret
 obtain ⟨hS6, hg6⟩ := HPUT.out t
 exact ⟨_, rfl, Kd.S_mono hS6 (fun _ _ => trivial), hI6.out.grown hg6 (fun e => by injection e with e; omega), below_put hg6 hB5 (Nat.le_refl _) (by have := hI6.out.ge; omega), hK7.trans (KeepBut.of_grown hg6 g) (.inr ⟨gb, rfl, hgb⟩)⟩
set_option maxRecDepth 100000 in
set_option maxHeartbeats 4000000 in
theorem any_case2 (k g : Nat) (s0 : List Int) (s1 : Int) (w0 w : World) (hI : IsS101 w0 w g s0 s1) (hB : Below w0.heap.size w0 w) (a : List Tk) (a2 p p2 q q2 : Int) (hpos : 0 < a.length) (hp0 : 0 ≤ p) (hp1 : p < (a.length : Int)) (h1 : spec_someGraph.f k s0 s1 8 = some (a, a2)) (h2 : spec_reader_pick.f k s0 a2 (a.length : Int) = some (p, p2)) (h3 : spec_reader_pick.f k s0 p2 24 = some (q, q2)) (hq : q = 2) (t t2 : Int) (h4 : spec_reader_one.f k s0 q2 [-1, 3] = some (t, t2)) : Calls Tryd.prog 67 #[.pointer (some ⟨g, 0, none⟩)] w (anyPost w0 w g s0  (a.set p.toNat { rd_T37 a p with f2 := t }) t2) := by
 have A1 := Aside0.mk h1
 have A2 := Aside0.mk h2
 have A3 := Aside0.mk h3
 clear h1 h2 h3
 have hz : ((a.length : Int) == 0) = false := beq_eq_false_iff_ne.2 (by omega)
 have hglt : g < w.heap.size := hI.lt
 have A4 := Aside0.mk h4
 clear h4
 have hq0 : (q == 0) = false := beq_eq_false_iff_ne.2 (by omega)
 have hq1 : (q == 1) = false := beq_eq_false_iff_ne.2 (by omega)
 have hq2 : (q == 2) = true := by simp [hq]
 have hp0' := eq_true hp0
 have hp1' := eq_true hp1
 go_enter Tryd.func67, Tryd.ntmps67
 go_wp2_with (first | (go_at_call 103; refine (spec_someGraph.calls k g s0 s1 8 a a2 w0 _ hI hB A1.out).mono ?_; rintro e w1 ⟨v1, rfl, hS1, hI1, hB1, hK1⟩; clear hI hB; obtain ⟨gb, cap, rfl, hgb, hgl, cells, hcells⟩ := Kd.S_form hS1 hpos) | (go_at_call 104; refine (spec_reader_pick.calls k g s0 a2 (a.length : Int) p p2 w0 _ hI1 hB1 A2.out).mono ?_; rintro e w2 ⟨rfl, hI2, hB2, hK2⟩; clear hI1 hB1) | (go_at_call 104; refine (spec_reader_pick.calls k g s0 p2 24 q q2 w0 _ hI2 hB2 A3.out).mono ?_; rintro e w3 ⟨rfl, hI3, hB3, hK3⟩; clear hI2 hB2) | (go_at_call 105; have hS3 : Kd.S k37 37 w3 w.heap.size (fun k => k ≠ g) (.slice (some ⟨gb, 0, none⟩) a.length cap) a := Kd.S_keep (Kd.S_keep (Kd.S_mono (Kd.S_bound hS1) (fun k hk => Nat.ne_of_gt (Nat.lt_of_lt_of_le hglt hk.2.1))) hK2 (fun k hk => hk)) hK3 (fun k hk => hk); have hK4 := (hK1.trans hK2 (.inl rfl)).trans hK3 (.inl rfl); clear hS1 hK1 hK2 hK3; have hN4 := cells_new w3 (.cells #[.int .i64 (-1), .int .i64 3] 3); have hI4 := hI3.alloc (.cells #[.int .i64 (-1), .int .i64 3] 3); have hB4 := hB3.alloc hB3.size (.cells #[.int .i64 (-1), .int .i64 3] 3); have hS4 := Kd.S_alloc hS3 (.cells #[.int .i64 (-1), .int .i64 3] 3); have hK5 := keep_alloc hK4 (.cells #[.int .i64 (-1), .int .i64 3] 3); have hsz := hI3.lt; refine (spec_reader_one.calls k g s0 q2 _ _ [-1, 3] t t2 w0 _ hI4 hB4 (C_lits (l := [-1, 3]) hN4 (by decide)) (by decide) (fun ad e _ => by cases e; show w3.heap.size ≠ g; omega) A4.out).mono ?_; rintro e w5 ⟨rfl, hI5, hB5, hK6⟩; have hS5 := Kd.S_keep hS4 hK6 (fun k hk => hk); obtain ⟨⟨u, hcu⟩, hfu, hput⟩ := S_put2 hS5 p hp0 hp1; have hK7 := hK5.trans hK6 (.inl rfl); have HPUT := Aside0.mk hput; have hI6 := Aside0.mk hI5; clear hS4 hS3 hI3 hB3 hK4 hI4 hB4 hN4 hK5 hK6 hput hI5))
 go_ret
 obtain ⟨hS6, hg6⟩ := HPUT.out t
 exact ⟨_, rfl, Kd.S_mono hS6 (fun _ _ => trivial), hI6.out.grown hg6 (fun e => by injection e with e; omega), below_put hg6 hB5 (Nat.le_refl _) (by have := hI6.out.ge; omega), hK7.trans (KeepBut.of_grown hg6 g) (.inr ⟨gb, rfl, hgb⟩)⟩
set_option maxRecDepth 100000 in
set_option maxHeartbeats 4000000 in
theorem any_case3 (k g : Nat) (s0 : List Int) (s1 : Int) (w0 w : World) (hI : IsS101 w0 w g s0 s1) (hB : Below w0.heap.size w0 w) (a : List Tk) (a2 p p2 q q2 : Int) (hpos : 0 < a.length) (hp0 : 0 ≤ p) (hp1 : p < (a.length : Int)) (h1 : spec_someGraph.f k s0 s1 8 = some (a, a2)) (h2 : spec_reader_pick.f k s0 a2 (a.length : Int) = some (p, p2)) (h3 : spec_reader_pick.f k s0 p2 24 = some (q, q2)) (hq : q = 3) (t t2 : Int) (h4 : spec_reader_one.f k s0 q2 [0, 5] = some (t, t2)) : Calls Tryd.prog 67 #[.pointer (some ⟨g, 0, none⟩)] w (anyPost w0 w g s0  (a.set p.toNat { rd_T37 a p with f3 := t }) t2) := by
 have A1 := Aside0.mk h1
 have A2 := Aside0.mk h2
 have A3 := Aside0.mk h3
 clear h1 h2 h3
 have hz : ((a.length : Int) == 0) = false := beq_eq_false_iff_ne.2 (by omega)
 have hglt : g < w.heap.size := hI.lt
 have A4 := Aside0.mk h4
 clear h4
 have hq0 : (q == 0) = false := beq_eq_false_iff_ne.2 (by omega)
 have hq1 : (q == 1) = false := beq_eq_false_iff_ne.2 (by omega)
 have hq2 : (q == 2) = false := beq_eq_false_iff_ne.2 (by omega)
 have hq3 : (q == 3) = true := by simp [hq]
 have hp0' := eq_true hp0
 have hp1' := eq_true hp1
 go_enter Tryd.func67, Tryd.ntmps67
 go_wp2_with (first | (go_at_call 103; refine (spec_someGraph.calls k g s0 s1 8 a a2 w0 _ hI hB A1.out).mono ?_; rintro e w1 ⟨v1, rfl, hS1, hI1, hB1, hK1⟩; clear hI hB; obtain ⟨gb, cap, rfl, hgb, hgl, cells, hcells⟩ := Kd.S_form hS1 hpos) | (go_at_call 104; refine (spec_reader_pick.calls k g s0 a2 (a.length : Int) p p2 w0 _ hI1 hB1 A2.out).mono ?_; rintro e w2 ⟨rfl, hI2, hB2, hK2⟩; clear hI1 hB1) | (go_at_call 104; refine (spec_reader_pick.calls k g s0 p2 24 q q2 w0 _ hI2 hB2 A3.out).mono ?_; rintro e w3 ⟨rfl, hI3, hB3, hK3⟩; clear hI2 hB2) | (go_at_call 105; have hS3 : Kd.S k37 37 w3 w.heap.size (fun k => k ≠ g) (.slice (some ⟨gb, 0, none⟩) a.length cap) a := Kd.S_keep (Kd.S_keep (Kd.S_mono (Kd.S_bound hS1) (fun k hk => Nat.ne_of_gt (Nat.lt_of_lt_of_le hglt hk.2.1))) hK2 (fun k hk => hk)) hK3 (fun k hk => hk); have hK4 := (hK1.trans hK2 (.inl rfl)).trans hK3 (.inl rfl); clear hS1 hK1 hK2 hK3; have hN4 := cells_new w3 (.cells #[.int .i64 0, .int .i64 5] 3); have hI4 := hI3.alloc (.cells #[.int .i64 0, .int .i64 5] 3); have hB4 := hB3.alloc hB3.size (.cells #[.int .i64 0, .int .i64 5] 3); have hS4 := Kd.S_alloc hS3 (.cells #[.int .i64 0, .int .i64 5] 3); have hK5 := keep_alloc hK4 (.cells #[.int .i64 0, .int .i64 5] 3); have hsz := hI3.lt; refine (spec_reader_one.calls k g s0 q2 _ _ [0, 5] t t2 w0 _ hI4 hB4 (C_lits (l := [0, 5]) hN4 (by decide)) (by decide) (fun ad e _ => by cases e; show w3.heap.size ≠ g; omega) A4.out).mono ?_; rintro e w5 ⟨rfl, hI5, hB5, hK6⟩; have hS5 := Kd.S_keep hS4 hK6 (fun k hk => hk); obtain ⟨⟨u, hcu⟩, hfu, hput⟩ := S_put3 hS5 p hp0 hp1; have hK7 := hK5.trans hK6 (.inl rfl); have HPUT := Aside0.mk hput; have hI6 := Aside0.mk hI5; clear hS4 hS3 hI3 hB3 hK4 hI4 hB4 hN4 hK5 hK6 hput hI5))
 go_ret
 obtain ⟨hS6, hg6⟩ := HPUT.out t
 exact ⟨_, rfl, Kd.S_mono hS6 (fun _ _ => trivial), hI6.out.grown hg6 (fun e => by injection e with e; omega), below_put hg6 hB5 (Nat.le_refl _) (by have := hI6.out.ge; omega), hK7.trans (KeepBut.of_grown hg6 g) (.inr ⟨gb, rfl, hgb⟩)⟩
theorem infoTask : (Tryd.prog.info? 37).map (fun i => (i.zero, i.size, i.bytes)) = some (some (.agg #[.int .i64 0, .slice none 0 0, .int .i64 0, .int .i64 0]), 4, 48) := by kernel_rfl
theorem zip_app (xs ys : List Tk) : (xs ++ ys).zipIdx = xs.zipIdx ++ ys.zipIdx xs.length := by rw [List.zipIdx_append]; simp
/-- Two rows' elements behind each other: the owners of the second one's rows are told anew. -/
theorem S_two {W : World} {b1 N : Nat} {ok : Nat → Prop} {v v2 : Value} {xs ys : List Tk} (h1 : Kd.S k37 37 W b1 (fun k => ok k ∧ k < N) v xs) (h2 : Kd.S k37 37 W N (fun _ => True) v2 ys) (hb : b1 ≤ N) :
  ∃ f A c, v2 = .slice A ys.length c ∧ (Kd.tag f k37).R 37 W b1 (fun k => ok k ∧ k < N) v xs.zipIdx ∧ ReadsRow ((Kd.tag f k37).M W b1 (fun k => N ≤ k)) 4 W A ys.length (ys.zipIdx xs.length) := by
 obtain ⟨f1, hf1⟩ := h1
 obtain ⟨f2, hf2⟩ := h2
 refine ⟨fun k => if k < N then f1 k else f2 k + xs.length, ?_⟩
 have hR2 := Kd.R_bound hf2
 obtain ⟨A, c, rfl, hl, hr⟩ := OwnRow.reads hR2.2
 rw [List.length_zipIdx] at hr
 refine ⟨A, c, by rw [List.length_zipIdx], Kd.R_tag hf1 (fun k hk _ => if_pos hk.2), by simp, hr.2.1, fun hn => ?_⟩
 obtain ⟨ad, e, hc⟩ := hr.2.2 hn
 refine ⟨ad, e, fun j p hj => ?_⟩
 rw [List.getElem?_zipIdx] at hj
 obtain ⟨x, hx, rfl⟩ := Option.map_eq_some_iff.1 hj
 obtain ⟨cs, h3, h4, h5⟩ := hc j (x, j) (by rw [List.getElem?_zipIdx, hx]; simp)
 refine ⟨cs, h3, ?_, h5⟩
 refine Kd.M_lower k37 hb (Kd.M_mono k37 (fun k hk => ?_) h4)
 have hk1 := hk.1.1.2.1
 have hk2 : f2 k = j := hk.2
 refine ⟨hk1, ?_⟩
 show (if k < N then f1 k else f2 k + xs.length) = xs.length + j
 rw [if_neg (by omega), hk2]
 omega
set_option maxRecDepth 100000 in
set_option maxHeartbeats 4000000 in
theorem any_case4 (k g : Nat) (s0 : List Int) (s1 : Int) (w0 w : World) (hI : IsS101 w0 w g s0 s1) (hB : Below w0.heap.size w0 w) (a : List Tk) (a2 p p2 q q2 : Int) (hpos : 0 < a.length) (hp0 : 0 ≤ p) (hp1 : p < (a.length : Int)) (h1 : spec_someGraph.f k s0 s1 8 = some (a, a2)) (h2 : spec_reader_pick.f k s0 a2 (a.length : Int) = some (p, p2)) (h3 : spec_reader_pick.f k s0 p2 24 = some (q, q2)) (hq : q = 4) (c : List Tk) (c2 : Int) (hlen : a.length + c.length < 1000) (h4 : spec_someGraph.f k s0 q2 8 = some (c, c2)) : Calls Tryd.prog 67 #[.pointer (some ⟨g, 0, none⟩)] w (anyPost w0 w g s0  (a ++ c) c2) := by
 have A1 := Aside0.mk h1
 have A2 := Aside0.mk h2
 have A3 := Aside0.mk h3
 clear h1 h2 h3
 have hz : ((a.length : Int) == 0) = false := beq_eq_false_iff_ne.2 (by omega)
 have hglt : g < w.heap.size := hI.lt
 have A4 := Aside0.mk h4
 clear h4
 have hq0 : (q == 0) = false := beq_eq_false_iff_ne.2 (by omega)
 have hq1 : (q == 1) = false := beq_eq_false_iff_ne.2 (by omega)
 have hq2 : (q == 2) = false := beq_eq_false_iff_ne.2 (by omega)
 have hq3 : (q == 3) = false := beq_eq_false_iff_ne.2 (by omega)
 have hq4 : (q == 4) = true := by simp [hq]
 go_enter Tryd.func67, Tryd.ntmps67
 go_wp2_with (first | (go_at_call 103; refine (spec_someGraph.calls k g s0 s1 8 a a2 w0 _ hI hB A1.out).mono ?_; rintro e w1 ⟨v1, rfl, hS1, hI1, hB1, hK1⟩; clear hI hB; obtain ⟨gb, cap, rfl, hgb, hgl, cells, hcells⟩ := Kd.S_form hS1 hpos) | (go_at_call 104; refine (spec_reader_pick.calls k g s0 a2 (a.length : Int) p p2 w0 _ hI1 hB1 A2.out).mono ?_; rintro e w2 ⟨rfl, hI2, hB2, hK2⟩; clear hI1 hB1) | (go_at_call 104; refine (spec_reader_pick.calls k g s0 p2 24 q q2 w0 _ hI2 hB2 A3.out).mono ?_; rintro e w3 ⟨rfl, hI3, hB3, hK3⟩; clear hI2 hB2) | (go_at_call 103; have hS3 : Kd.S k37 37 w3 w.heap.size (fun k => k ≠ g) (.slice (some ⟨gb, 0, none⟩) a.length cap) a := Kd.S_keep (Kd.S_keep (Kd.S_mono (Kd.S_bound hS1) (fun k hk => Nat.ne_of_gt (Nat.lt_of_lt_of_le hglt hk.2.1))) hK2 (fun k hk => hk)) hK3 (fun k hk => hk); have hK4 := (hK1.trans hK2 (.inl rfl)).trans hK3 (.inl rfl); clear hS1 hK1 hK2 hK3; have HGL3 := Aside0.mk hI3.lt; have HGB3 := Aside0.mk (Kd.S_lt hS3 gb (by simp [Value.ownBlock])); have hK4s := hK4.1; refine (spec_someGraph.calls k g s0 q2 8 c c2 w0 _ hI3 hB3 A4.out).mono ?_; rintro e w5 ⟨v2, rfl, hS5, hI5, hB5, hK5⟩; have hS4 : Kd.S k37 37 w5 w.heap.size (fun k => k ≠ g ∧ k < w3.heap.size) _ a := Kd.S_keep (Kd.S_mono (Kd.S_bound hS3) (fun k hk => ⟨hk.1, hk.2.2.1⟩)) hK5 (fun k hk => hk.1); obtain ⟨f, A, cc, rfl, hR6, hRR⟩ := S_two hS4 hS5 hK4s; have hK6 := hK4.trans hK5 (.inl rfl); have HR6 := Aside0.mk hR6; have HRR := Aside0.mk hRR; have HI5 := Aside0.mk hI5; have HB5 := Aside0.mk hB5; have HK6 := Aside0.mk hK6; have HLE := Aside0.mk hK5.1; clear hS3 hS4 hS5 hI3 hB3 hK4 hK5 hR6 hRR hI5 hB5 hK6 hK4s) | ((with_reducible refine gate_builtin (b := .append) (xs := #[.tmp 65, .tmp 67]) rfl ?_); go_loud (at_builtin; have hgb3 : gb < w3.heap.size := HGB3.out; have hle5 : w.heap.size ≤ w5.heap.size := HK6.out.1; refine Kd.R_append_rows (Kd.tag f k37) (w0 := w5) w.heap.size rfl (.tmp 65) (.tmp 67) 26 37 (.agg #[.int .i64 0, .slice none 0 0, .int .i64 0, .int .i64 0]) 48 rfl Tryd.underlying26 infoTask rfl (show 0 < 4 from by decide) (by decide) (.slice (some ⟨gb, 0, none⟩) a.length cap) a.zipIdx (c.zipIdx a.length) A c.length cc (fun k => k ≠ g) (fun k => w3.heap.size ≤ k) rfl rfl (Kd.R_mono HR6.out (fun _ hk => hk.1)) HRR.out (fun _ _ h => h) (fun k (hk : w3.heap.size ≤ k) => ⟨Nat.ne_of_gt (Nat.lt_of_lt_of_le HGL3.out hk), fun e => by have e2 : k = gb := (by simpa [Value.ownBlock] using e); omega⟩) (fun k hk => Nat.ne_of_gt (Nat.lt_of_lt_of_le HI5.out.lt hk)) (Below.refl _ _) hle5 (by simp; omega) ?_; intro v6 w6 ho hb hg hat)))
 go_ret
 have hS6 : Kd.S k37 37 w6 w.heap.size (fun k => k ≠ g) v6 (a ++ c) := ⟨f, by rw [zip_app]; exact ho⟩
 have hg' : w5.grownBy w6 (some gb) := by simpa [Value.ownBlock] using hg
 have hI6 := HI5.out.grown hg' (fun e => by injection e with e; omega)
 exact ⟨_, rfl, Kd.S_mono hS6 (fun _ _ => trivial), hI6, below_put hg' HB5.out (Nat.le_refl _) (by have := HI5.out.ge; omega), HK6.out.trans (KeepBut.of_grown hg' g) (.inr ⟨gb, rfl, hgb⟩)⟩
theorem infoInt_ : (Tryd.prog.info? 3).map (fun i => (i.zero, i.size, i.bytes)) = some (some (.int .i64 0), 1, 8) := by kernel_rfl
set_option maxRecDepth 100000 in
set_option maxHeartbeats 4000000 in
theorem any_case1 (k g : Nat) (s0 : List Int) (s1 : Int) (w0 w : World) (hI : IsS101 w0 w g s0 s1) (hB : Below w0.heap.size w0 w) (a : List Tk) (a2 p p2 q q2 : Int) (hpos : 0 < a.length) (hp0 : 0 ≤ p) (hp1 : p < (a.length : Int)) (h1 : spec_someGraph.f k s0 s1 8 = some (a, a2)) (h2 : spec_reader_pick.f k s0 a2 (a.length : Int) = some (p, p2)) (h3 : spec_reader_pick.f k s0 p2 24 = some (q, q2)) (hq : q = 1) (b b2 : Int) (r : List Int) (r2 : Int) (h4 : spec_reader_pick.f k s0 q2 (a.length : Int) = some (b, b2)) (hlen : (rd_T37 a p).f1.length < 1000) (h5 : spec_reader_spoil.f k s0 b2 ((rd_T37 a p).f1 ++ [b]) 8 = some (r, r2)) : Calls Tryd.prog 67 #[.pointer (some ⟨g, 0, none⟩)] w (anyPost w0 w g s0  (a.set p.toNat { rd_T37 a p with f1 := r }) r2) := by
 have A1 := Aside0.mk h1
 have A2 := Aside0.mk h2
 have A3 := Aside0.mk h3
 clear h1 h2 h3
 have hz : ((a.length : Int) == 0) = false := beq_eq_false_iff_ne.2 (by omega)
 have hglt : g < w.heap.size := hI.lt
 have A4 := Aside0.mk h4
 have A5 := Aside0.mk h5
 clear h4 h5
 have hq0 : (q == 0) = false := beq_eq_false_iff_ne.2 (by omega)
 have hq1 : (q == 1) = true := by simp [hq]
 go_enter Tryd.func67, Tryd.ntmps67
 go_wp2_with (first | (go_at_call 103; refine (spec_someGraph.calls k g s0 s1 8 a a2 w0 _ hI hB A1.out).mono ?_; rintro e w1 ⟨v1, rfl, hS1, hI1, hB1, hK1⟩; clear hI hB; obtain ⟨gb, cap, rfl, hgb, hgl, cells, hcells⟩ := Kd.S_form hS1 hpos) | (go_at_call 104; refine (spec_reader_pick.calls k g s0 a2 (a.length : Int) p p2 w0 _ hI1 hB1 A2.out).mono ?_; rintro e w2 ⟨rfl, hI2, hB2, hK2⟩; clear hI1 hB1) | (go_at_call 104; refine (spec_reader_pick.calls k g s0 p2 24 q q2 w0 _ hI2 hB2 A3.out).mono ?_; rintro e w3 ⟨rfl, hI3, hB3, hK3⟩; clear hI2 hB2))
 have hS3 : Kd.S k37 37 w3 w.heap.size (fun k => k ≠ g) (.slice (some ⟨gb, 0, none⟩) a.length cap) a := Kd.S_keep (Kd.S_keep (Kd.S_mono (Kd.S_bound hS1) (fun k hk => Nat.ne_of_gt (Nat.lt_of_lt_of_le hglt hk.2.1))) hK2 (fun k hk => hk)) hK3 (fun k hk => hk)
 have hK4 := (hK1.trans hK2 (.inl rfl)).trans hK3 (.inl rfl)
 clear hS1 hK1 hK2 hK3
 have hp0' := eq_true hp0
 have hp1' := eq_true hp1
 have hS3b : Kd.S k37 37 w3 w.heap.size (fun k => k ≠ g ∧ k < w3.heap.size) (.slice (some ⟨gb, 0, none⟩) a.length cap) a := Kd.S_mono (Kd.S_bound hS3) (fun k hk => ⟨hk.1, hk.2.2.1⟩)
 obtain ⟨oki, c, hcl, hM, hcc, hfr, hoki, hH⟩ := Kd.S_elem hS3b z37 p hp0 hp1
 obtain ⟨v4, rfl, g4⟩ := k37_openM hM
 clear hS3b
 have hx1 : w3.cell? ⟨gb, p.toNat * 4 + 1, none⟩ = some v4 := hcc 1 _ rfl
 have hgb3 : gb < w3.heap.size := Kd.S_lt hS3 gb (by simp [Value.ownBlock])
 clear hcc hfr hM hcl hS3
 have hI4 : IsS101 w0 w3.drew g s0 q2 := hI3.drew
 have hB4 : Below w0.heap.size w0 w3.drew := below_drew1 hB3
 have hK4' : KeepBut w w3.drew g none := keep_drew hK4
 have hH4 := Kd.H_drew hH
 have g4' := Kd.Q_drew g4
 have hsz4 : w3.drew.heap.size = w3.heap.size := rfl
 have hd4 : Below w3.heap.size w3 w3.drew := below_drew (Below.refl _ _)
 refine start_ (n := 18) (S := fun w' => w'.cell? ⟨gb, p.toNat * 4 + 1, none⟩ = some v4) (ds := [13, 14, 15, 16, 17]) #[false, false, false, false, false, false, false, false, false, false, false, false, false, false, false, false, false, false] rfl (by kernel_rfl) rfl ((hd4.cell hgb3).trans hx1) (fun hHeld => ?_)
 revert hI4 hB4 hK4' hH4 g4' hsz4 hHeld
 generalize w3.drew = w4
 intro hI4 hB4 hK4' hH4 g4' hsz4 hHeld
 clear hI3 hB3 hK4 hH g4 hx1 hd4
 refine pure_ (i := 0) (N := some 28) (v := ?_) (a' := ?_) #[true, false, false, false, false, false, false, false, false, false, false, false, false, false, false, false, false, false] rfl rfl (by kernel_rfl) (fun _ _ _ h => h) (Or.inl ⟨by rfl, ?_⟩) ?_ ?_
 rotate_left
 ·intro w'
  go_simp
  with_reducible rfl
 rotate_left
 ·simp only [Act.put, List.setIfInBounds_toArray, List.set_cons_zero, List.set_cons_succ, i64_w, i32_w]
  rfl
 refine pure_ (i := 1) (N := some 29) (v := ?_) (a' := ?_) #[true, true, false, false, false, false, false, false, false, false, false, false, false, false, false, false, false, false] rfl rfl (by kernel_rfl) (fun _ _ _ h => h) (Or.inl ⟨by rfl, ?_⟩) ?_ ?_
 rotate_left
 ·intro w'
  go_simp
  with_reducible rfl
 rotate_left
 ·simp only [Act.put, List.setIfInBounds_toArray, List.set_cons_zero, List.set_cons_succ, i64_w, i32_w]
  rfl
 refine pure_ (i := 2) (N := some 30) (v := ?_) (a' := ?_) #[true, true, true, false, false, false, false, false, false, false, false, false, false, false, false, false, false, false] rfl rfl (by kernel_rfl) (fun _ _ _ h => h) (Or.inl ⟨by rfl, ?_⟩) ?_ ?_
 rotate_left
 ·intro w'
  go_simp
  with_reducible rfl
 rotate_left
 ·simp only [Act.put, List.setIfInBounds_toArray, List.set_cons_zero, List.set_cons_succ, i64_w, i32_w]
  rfl
 refine pure_ (i := 3) (N := some 31) (v := ?_) (a' := ?_) #[true, true, true, true, false, false, false, false, false, false, false, false, false, false, false, false, false, false] rfl rfl (by kernel_rfl) (fun _ _ _ h => h) (Or.inl ⟨by rfl, ?_⟩) ?_ ?_
 rotate_left
 ·intro w'
  go_simp
  with_reducible rfl
 rotate_left
 ·simp only [Act.put, List.setIfInBounds_toArray, List.set_cons_zero, List.set_cons_succ, i64_w, i32_w]
  rfl
 refine pure_ (i := 4) (N := some 32) (v := ?_) (a' := ?_) #[true, true, true, true, true, false, false, false, false, false, false, false, false, false, false, false, false, false] rfl rfl (by kernel_rfl) (fun _ _ _ h => h) (Or.inl ⟨by rfl, ?_⟩) ?_ ?_
 rotate_left
 ·intro w'
  go_simp
  with_reducible rfl
 rotate_left
 ·simp only [Act.put, List.setIfInBounds_toArray, List.set_cons_zero, List.set_cons_succ, i64_w, i32_w]
  rfl
 refine pure_ (i := 5) (N := some 33) (v := ?_) (a' := ?_) #[true, true, true, true, true, true, false, false, false, false, false, false, false, false, false, false, false, false] rfl rfl (by kernel_rfl) (fun _ _ _ h => h) (Or.inl ⟨by rfl, ?_⟩) ?_ ?_
 rotate_left
 ·intro w'
  go_simp
  with_reducible rfl
 rotate_left
 ·simp only [Act.put, List.setIfInBounds_toArray, List.set_cons_zero, List.set_cons_succ, i64_w, i32_w]
  rfl
 refine pure_ (i := 6) (N := some 34) (v := ?_) (a' := ?_) #[true, true, true, true, true, true, true, false, false, false, false, false, false, false, false, false, false, false] rfl rfl (by kernel_rfl) (fun _ _ _ h => h) (Or.inl ⟨by rfl, ?_⟩) ?_ ?_
 rotate_left
 ·intro w'
  go_simp
  with_reducible rfl
 rotate_left
 ·simp only [Act.put, List.setIfInBounds_toArray, List.set_cons_zero, List.set_cons_succ, i64_w, i32_w]
  rfl
 refine take_ (i := 7) (N := some 35) (v := ?_) (a' := ?_) #[true, true, true, true, true, true, true, true, false, false, false, false, false, false, false, false, false, false] rfl rfl (by kernel_rfl) (fun _ _ _ h => h) (Or.inl ⟨by rfl, ?_⟩) hHeld ?_ ?_
 rotate_left
 ·rintro w' hc
  go_simp
  with_reducible rfl
 rotate_left
 ·simp only [Act.put, List.setIfInBounds_toArray, List.set_cons_zero, List.set_cons_succ, i64_w, i32_w]
  rfl
 refine pure_ (i := 8) (N := some 36) (v := ?_) (a' := ?_) #[true, true, true, true, true, true, true, true, true, false, false, false, false, false, false, false, false, false] rfl rfl (by kernel_rfl) (fun _ _ _ h => h) (Or.inl ⟨by rfl, ?_⟩) ?_ ?_
 rotate_left
 ·intro w'
  go_simp
  with_reducible rfl
 rotate_left
 ·simp only [Act.put, List.setIfInBounds_toArray, List.set_cons_zero, List.set_cons_succ, i64_w, i32_w]
  rfl
 refine pure_ (i := 9) (N := some 37) (v := ?_) (a' := ?_) #[true, true, true, true, true, true, true, true, true, true, false, false, false, false, false, false, false, false] rfl rfl (by kernel_rfl) (fun _ _ _ h => h) (Or.inl ⟨by rfl, ?_⟩) ?_ ?_
 rotate_left
 ·intro w'
  go_simp
  with_reducible rfl
 rotate_left
 ·simp only [Act.put, List.setIfInBounds_toArray, List.set_cons_zero, List.set_cons_succ, i64_w, i32_w]
  rfl
 refine pure_ (i := 10) (N := some 38) (v := ?_) (a' := ?_) #[true, true, true, true, true, true, true, true, true, true, true, false, false, false, false, false, false, false] rfl rfl (by kernel_rfl) (fun _ _ _ h => h) (Or.inl ⟨by rfl, ?_⟩) ?_ ?_
 rotate_left
 ·intro w'
  go_simp
  with_reducible rfl
 rotate_left
 ·simp only [Act.put, List.setIfInBounds_toArray, List.set_cons_zero, List.set_cons_succ, i64_w, i32_w]
  rfl
 refine one_ (i := 11) (N := some 39) #[true, true, true, true, true, true, true, true, true, true, true, true, false, false, false, false, false, false] rfl rfl (by kernel_rfl) (by decide) (fun K hK => ?_)
 refine goes_ Tryd.func104 (by kernel_rfl) rfl #[.pointer (some ⟨g, 0, none⟩), .int .i64 (a.length : Int)] (by rfl) rfl rfl (by (try simp only [List.map_toArray, List.map_cons, List.map_nil]); rfl) ?_
 refine (spec_reader_pick.calls k g s0 q2 (a.length : Int) b b2 w0 _ hI4 hB4 A4.out).mono ?_
 rintro e w5 ⟨rfl, hI5, hB5, hK5⟩
 have hgb4 : gb < w4.heap.size := by omega
 have hne : gb ≠ g := by have := Nat.lt_of_lt_of_le hglt hgb; omega
 refine ⟨_, rfl, hK.out _ _ (keep_cell hK5 hHeld hne) (fun hHeld5 => ?_)⟩
 clear hK K
 refine norm_ (a' := ?_) ?_ ?_
 rotate_left
 ·show Act.put _ (some 39) _ = _
  simp only [Act.put, List.setIfInBounds_toArray, List.set_cons_zero, List.set_cons_succ, i64_w, i32_w]
  rfl
 have hH5 := Kd.H_keep hH4 hK5 (fun k hk => hk.1)
 have g5 := Kd.Q_keep g4' hK5 (fun k hk => (hoki k hk).1.1)
 have hg5lt := hI5.lt
 have hK6 := hK4'.trans hK5 (.inl rfl)
 have hsz5 : w3.heap.size ≤ w5.heap.size := by rw [← hsz4]; exact hK5.1
 clear hH4 g4' hK5 hK4' hI4 hB4 hHeld hsz4
 refine one_ (i := 12) (N := some 40) #[true, true, true, true, true, true, true, true, true, true, true, true, true, false, false, false, false, false] rfl rfl (by kernel_rfl) (by decide) (fun K hK => ?_)
 refine value_ (w1 := w5.alloc (.cells #[.int .i64 b] 3)) (v := .slice (some ⟨w5.heap.size, 0, none⟩) 1 1) (by rfl) rfl ?_ ?_
 ·go_simp; try rfl
 refine hK.out _ _ ((((Below.refl w5.heap.size w5).alloc (Nat.le_refl _) (.cells #[.int .i64 b] 3)).cell (show gb < w5.heap.size by omega)).trans hHeld5) (fun hHeld6 => ?_)
 clear hK K
 refine norm_ (a' := ?_) ?_ ?_
 rotate_left
 ·simp only [Act.put, List.setIfInBounds_toArray, List.set_cons_zero, List.set_cons_succ, i64_w, i32_w]
  rfl
 refine last_ (i := 13) (N := some 41) #[true, true, true, true, true, true, true, true, true, true, true, true, true, true, false, false, false, false] rfl rfl (by kernel_rfl) (by decide) (fun K hK => ?_)
 refine Kd.Q_append_step (Kd.int .i64) (w0 := w5) w.heap.size (by rfl) (.tmp 35) (.tmp 40) 35 3 (.int .i64 0) 8 rfl Tryd.underlying35 infoInt_ rfl (by decide) (by decide) v4 (rd_T37 a p).f1 b [.int .i64 b] (fun k => oki k ∨ w5.heap.size ≤ k) (fun _ => False) rfl rfl rfl (fun _ h => h.elim) (fun _ hk => .inr hk) (Kd.Q_mono g5 (fun _ hk => .inl hk)) (Below.refl _ _) hK6.1 (by omega) ?_
 intro v7 w7 hQ7 hB7 hg7 hat7
 refine hK.out _ _ ?_
 clear hK K
 refine norm_ (a' := ?_) ?_ ?_
 rotate_left
 ·simp only [Act.put, List.setIfInBounds_toArray, List.set_cons_zero, List.set_cons_succ, i64_w, i32_w]
  rfl
 have hvo : ∀ k, v4.ownBlock = some k → oki k := fun k hk => g5.1 k hk
 have hH7 := Kd.H_grown hH5 hg7 hvo
 have hI7 := hI5.grown hg7 (fun e => (hoki g (hvo g e.symm)).1.1 rfl)
 have hB8 : Below w0.heap.size w0 w7 := by
  refine ⟨hg7.os.trans hB5.os, hg7.tape.trans hB5.tape, hg7.output.trans hB5.output, Nat.le_trans hB5.size hg7.size, fun k hk => (hg7.block k (Nat.lt_of_lt_of_le hk hB5.size) (fun e => ?_)).trans (hB5.block k hk)⟩
  have h1 := Kd.Q_base g5 k e.symm
  have h2 := hI5.ge
  omega
 have hK8 : KeepBut w w7 g none := ⟨Nat.le_trans hK6.1 hg7.size, fun k hk hkg hn => (hg7.block k (Nat.lt_of_lt_of_le hk hK6.1) (fun e => by have := Kd.Q_base g5 k e.symm; omega)).trans (hK6.2 k hk hkg hn)⟩
 have hsz7 := hg7.size
 obtain ⟨A7, c7, rfl, hl7, hC7⟩ := Kd.Q_reads hQ7
 have hlen7 : ((rd_T37 a p).f1 ++ [b]).length = (rd_T37 a p).f1.length + 1 := by simp
 have hQg := hQ7.1
 clear hH5 g5 hI5 hB5 hK6 hHeld5 hHeld6
 refine last_ (i := 14) (N := some 42) #[true, true, true, true, true, true, true, true, true, true, true, true, true, true, true, false, false, false] rfl rfl (by kernel_rfl) (by decide) (fun K hK => ?_)
 refine goes_ Tryd.func106 (by kernel_rfl) rfl #[.pointer (some ⟨g, 0, none⟩), .slice A7 ((rd_T37 a p).f1 ++ [b]).length c7, .int .i64 8] (by rfl) rfl rfl (by (try simp only [List.map_toArray, List.map_cons, List.map_nil]); rfl) ?_
 refine (spec_reader_spoil.calls k g s0 b2 A7 c7 ((rd_T37 a p).f1 ++ [b]) 8 r r2 w0 _ hI7 hB8 hC7 hl7 (fun ad e hpos7 => ?_) A5.out).mono ?_
 ·subst e
  rcases hQg ad.block (by simp [Value.ownBlock]) with h | h
  ·exact (hoki _ h).1.1
  ·exact Nat.ne_of_gt (Nat.lt_of_lt_of_le hg5lt h)
 rintro e w9 ⟨v9, rfl, hQ9, hI9, hB9, hK9⟩
 refine ⟨_, rfl, hK.out _ _ ?_⟩
 clear hK K
 refine norm_ (a' := ?_) ?_ ?_
 rotate_left
 ·simp only [Act.put, List.setIfInBounds_toArray, List.set_cons_zero, List.set_cons_succ, i64_w, i32_w]
  rfl
 have hH9 := Kd.H_keep hH7 hK9 (fun k hk => hk.1)
 have hH10 := Kd.H_mono (ok' := fun k => k ≠ g ∧ ¬ (w7.heap.size ≤ k)) hH9 (fun k hk => ⟨hk.1, by omega⟩)
 obtain ⟨hS11, hg11⟩ := Kd.S_seg (okg := fun k => w7.heap.size ≤ k) hH10 hp0 hp1 (seg := [v9]) (j := 1) (show 1 + 1 ≤ 4 from by decide) (x' := { rd_T37 a p with f1 := r }) (mkQ _ _ _ { rd_T37 a p with f1 := r } (Kd.Q_mono (Kd.Q_lower (Kd.Q_bound hQ9) (show w.heap.size ≤ w7.heap.size by have := hK8.1; omega)) (fun k hk => hk.2.1))) (fun k hk => .inr hk) (fun k hk => ⟨Nat.ne_of_gt (Nat.lt_of_lt_of_le hI7.lt hk), by omega⟩)
 obtain ⟨rows, _, hraw, _, _, hcc9, _⟩ := Kd.H_raw hH10 hp0 hp1
 have hcell9 : w9.cell? ⟨gb, p.toNat * 4 + 1, none⟩ = some v4 := hcc9 1 _ rfl
 obtain ⟨cs9, hcs9⟩ := Kd.R_typed hraw gb (by simp [Value.ownBlock])
 have hfz9 : w9.frozen? ⟨gb, p.toNat * 4 + 1, none⟩ = false := by simp [World.frozen?, hcs9]
 clear hraw hcc9 hcs9 hH10 hH9
 have hsl9 := Kd.Q_slice hQ9
 refine pure_ (i := 15) (N := some 43) (v := ?_) (a' := ?_) #[true, true, true, true, true, true, true, true, true, true, true, true, true, true, true, true, false, false] rfl rfl (by kernel_rfl) (fun _ _ _ h => h) (Or.inl ⟨by rfl, ?_⟩) ?_ ?_
 rotate_left
 ·intro w'
  go_simp
  with_reducible rfl
 rotate_left
 ·simp only [Act.put, List.setIfInBounds_toArray, List.set_cons_zero, List.set_cons_succ, i64_w, i32_w]
  rfl
 refine pure_ (i := 16) (N := some 44) (v := ?_) (a' := ?_) #[true, true, true, true, true, true, true, true, true, true, true, true, true, true, true, true, true, false] rfl rfl (by kernel_rfl) (fun _ _ _ h => h) (Or.inl ⟨by rfl, ?_⟩) ?_ ?_
 rotate_left
 ·intro w'
  go_simp
  with_reducible rfl
 rotate_left
 ·simp only [Act.put, List.setIfInBounds_toArray, List.set_cons_zero, List.set_cons_succ, i64_w, i32_w]
  rfl
 obtain ⟨A9, c9, hv9, _⟩ := hsl9
 refine last_ (i := 17) (N := none) #[true, true, true, true, true, true, true, true, true, true, true, true, true, true, true, true, true, true] rfl rfl (by kernel_rfl) (by decide) (fun K hK => ?_)
 refine skip_ (w1 := w9.setCell ⟨gb, p.toNat * 4 + 1, none⟩ v9) (by rfl) rfl ?_ ?_
 ·subst hv9; go_simp
 refine hK.out _ _ ?_
 clear hK K
 refine done_ (by kernel_rfl) ?_
 have hS12 : Kd.S k37 37 (w9.setCell ⟨gb, p.toNat * 4 + 1, none⟩ v9) w.heap.size (fun k => k ≠ g) _ _ := hS11
 have hg12 : w9.grownBy (w9.setCell ⟨gb, p.toNat * 4 + 1, none⟩ v9) (some gb) := hg11
 have hI12 := hI9.grown hg12 (fun e => by injection e with e; have := Nat.lt_of_lt_of_le hglt hgb; omega)
 have hB12 := below_put hg12 hB9 (Nat.le_refl _) (by have := hI9.ge; omega)
 have hK12 := (hK8.trans hK9 (.inl rfl)).trans (KeepBut.of_grown hg12 g) (.inr ⟨gb, rfl, hgb⟩)
 revert hS12 hI12 hB12 hK12
 generalize w9.setCell ⟨gb, p.toNat * 4 + 1, none⟩ v9 = w13
 intro hS12 hI12 hB12 hK12
 clear hS11 hg11 hg12
 go_wp2
 go_ret
 exact ⟨_, rfl, Kd.S_mono hS12 (fun _ _ => trivial), hI12, hB12, hK12⟩
end Go.Proofs.YtekajandipdlhaaDoor.Core
namespace Go.Proofs.YtekajandipdlhaaDoor.P
open Go Go.RowKit Go.Shelf Go.Proofs.YtekajandipdlhaaDoorW.PrintWords Go.Proofs.YtekajandipdlhaaDoorW.PrintMore Go.Proofs.YtekajandipdlhaaDoor.Core
noncomputable def spec_anyGraph.f (s0_0 : List Int) (s0_1 : Int) : Option (List S37 × Int) := lim (fun k => spec_anyGraph.fk k s0_0 s0_1)
theorem spec_anyGraph.calls (g : Nat) (s0_0 : List Int) (s0_1 : Int) (r1 : List S37) (r2 : Int) (w0 w : World) (hI : IsS101 w0 w g s0_0 s0_1) (hB : Below w0.heap.size w0 w) (h : spec_anyGraph.f s0_0 s0_1 = some (r1, r2)) :
  Calls Tryd.prog 67 #[.pointer (some ⟨g, 0, none⟩)] w fun e w' => ∃ v0_ : Value, e = .returned (v0_) ∧ Kd.S k37 37 w' w.heap.size (fun _ => True) v0_ r1 ∧ IsS101 w0 w' g s0_0 r2 ∧ Below w0.heap.size w0 w' ∧ KeepBut w w' g none := by
 obtain ⟨k, hk⟩ := lim_some h
 clear h
 unfold spec_anyGraph.fk at hk
 obtain ⟨⟨a, a2⟩, h1, hk⟩ := Option.bind_eq_some_iff.1 hk
 by_cases hl : a.length = 0
 ·rw [if_pos hl] at hk
  cases hk
  obtain rfl := List.eq_nil_of_length_eq_zero hl
  exact any_empty k g s0_0 s0_1 w0 w hI hB _ h1
 ·rw [if_neg hl] at hk
  obtain ⟨⟨p, p2⟩, h2, hk⟩ := Option.bind_eq_some_iff.1 hk
  obtain ⟨⟨q, q2⟩, h3, hk⟩ := Option.bind_eq_some_iff.1 hk
  by_cases hp : ¬ (0 ≤ p ∧ p < (a.length : Int))
  ·rw [if_pos hp] at hk; cases hk
  ·rw [if_neg hp] at hk
   obtain ⟨hp0, hp1⟩ := Decidable.not_not.1 hp
   have hpos : 0 < a.length := by omega
   by_cases e0 : q = 0
   ·rw [if_pos e0] at hk
    obtain ⟨⟨t, t2⟩, h4, hk⟩ := Option.bind_eq_some_iff.1 hk
    cases hk
    exact any_case0 k g s0_0 s0_1 w0 w hI hB a a2 p p2 q q2 hpos hp0 hp1 h1 h2 h3 e0 t _ h4
   ·rw [if_neg e0] at hk
    by_cases e1 : q = 1
    ·rw [if_pos e1] at hk
     obtain ⟨⟨b, b2⟩, h4, hk⟩ := Option.bind_eq_some_iff.1 hk
     by_cases hlen : (rd_T37 a p).f1.length < 1000
     ·simp only [hlen, if_true] at hk
      obtain ⟨⟨c, c2⟩, h5, hk⟩ := Option.bind_eq_some_iff.1 hk
      cases hk
      exact any_case1 k g s0_0 s0_1 w0 w hI hB a a2 p p2 q q2 hpos hp0 hp1 h1 h2 h3 e1 b b2 c _ h4 hlen h5
     ·simp only [hlen, if_false] at hk; cases hk
    ·rw [if_neg e1] at hk
     by_cases e2 : q = 2
     ·rw [if_pos e2] at hk
      obtain ⟨⟨t, t2⟩, h4, hk⟩ := Option.bind_eq_some_iff.1 hk
      cases hk
      exact any_case2 k g s0_0 s0_1 w0 w hI hB a a2 p p2 q q2 hpos hp0 hp1 h1 h2 h3 e2 t _ h4
     ·rw [if_neg e2] at hk
      by_cases e3 : q = 3
      ·rw [if_pos e3] at hk
       obtain ⟨⟨t, t2⟩, h4, hk⟩ := Option.bind_eq_some_iff.1 hk
       cases hk
       exact any_case3 k g s0_0 s0_1 w0 w hI hB a a2 p p2 q q2 hpos hp0 hp1 h1 h2 h3 e3 t _ h4
      ·rw [if_neg e3] at hk
       by_cases e4 : q = 4
       ·rw [if_pos e4] at hk
        obtain ⟨⟨c, c2⟩, h4, hk⟩ := Option.bind_eq_some_iff.1 hk
        by_cases hlen : a.length + c.length < 1000
        ·simp only [hlen, if_true] at hk
         cases hk
         exact any_case4 k g s0_0 s0_1 w0 w hI hB a a2 p p2 q q2 hpos hp0 hp1 h1 h2 h3 e4 c _ hlen h4
        ·simp only [hlen, if_false] at hk; cases hk
       ·rw [if_neg e4] at hk
        cases hk
        exact any_same k g s0_0 s0_1 w0 w hI hB a a2 p p2 q _ hpos hp0 hp1 h1 h2 h3 ⟨e0, e1, e2, e3, e4⟩
end Go.Proofs.YtekajandipdlhaaDoor.P
namespace Go.Proofs.YtekajandipdlhaaDoor.Core
end Go.Proofs.YtekajandipdlhaaDoor.Core
end
section
namespace Go.Proofs.YtekajandipdlhaaDoor.P
open Go.RowKit Go.Proofs.YtekajandipdlhaaDoorW.PrintWords Go.Proofs.YtekajandipdlhaaDoorW.PrintLast Go.Proofs.YtekajandipdlhaaDoorW.PrintMore
attribute [local go_sem] max2_int min2_int max_two min_two max_three min_three max_four min_four   -- for this text's walks alone
set_option linter.unusedVariables false
set_option linter.unusedSimpArgs false
def spec_newReader.f (l0 : List Int) : Option (List Int × Int) := if (l0.length : Int) > 2000 then (if 2000 ≤ (l0.length : Int) then (some (l0.take 2000, 0)) else (none)) else (some (l0, 0))
set_option maxHeartbeats 8000000 in
set_option maxRecDepth 100000 in
theorem spec_newReader.calls (A0 : Option Addr) (c0 : Nat) (l0 : List Int) (r1 : List Int) (r2 : Int) (w0 w : World) (hB : Below w0.heap.size w0 w) (hr0 : Kd.C (Kd.int .u8) w0 A0 l0.length l0) (hc0 : l0.length ≤ c0) (h : spec_newReader.f l0 = some (r1, r2)) :
  Calls Tryd.prog 68 #[.slice A0 l0.length c0] w fun e w' => ∃ g_ : Nat, e = .returned (.pointer (some ⟨g_, 0, none⟩)) ∧ IsS101 w0 w' g_ r1 r2 ∧ Below w0.heap.size w0 w' ∧ Below w.heap.size w w' := by
 have hu101 := Tryd.underlying101
 have HR0 := Aside0.mk hr0
 have HC0 := Aside0.mk hc0
 clear hr0 hc0
 have HBW := Aside0.mk (Below.refl w.heap.size w)
 have HW0 := Aside0.mk hB.size
 have HB := Aside0.mk hB
 clear hB
 have H : (if (l0.length : Int) > 2000 then (if 2000 ≤ (l0.length : Int) then (some (l0.take 2000, 0)) else (none)) else (some (l0, 0))) = some (r1, r2) := h
 clear h
 by_cases c2 : (l0.length : Int) > 2000
 ·rw [if_pos c2] at H
  have c2b0 : decide (2000 < (l0.length : Int)) = true := decide_eq_true c2
  have c2b1 : decide (2000 < l0.length) = true := decide_eq_true (by omega)
  clear c2
  by_cases c3 : 2000 ≤ (l0.length : Int)
  ·rw [if_pos c3] at H
   have c3b0 := eq_true c3
   have c3b1 : decide (2000 ≤ (l0.length : Int)) = true := decide_eq_true c3
   clear c3
   simp only [Option.some.injEq, Prod.mk.injEq] at H
   obtain ⟨rfl, rfl⟩ := H
   obtain ⟨i04, hi04, _, hsz4, _⟩ := info_parts info5
   obtain ⟨hcut4, hA4, hC4⟩ := print_take_of (P := Tryd.prog) (Value.int .u8) 0 33 5 .i64 Tryd.underlying33 hi04 hsz4 A0 c0 l0 2000 (by omega) (of_decide_eq_true (by first | (with_reducible assumption) | assumption)) HC0.out
   have HR338 := Aside0.mk (Kd.C_of_reads (h1 := fun _ => rfl) (hA4 _ (Kd.reads_of_C HR0.out)))
   have HC338 := Aside0.mk hC4
   clear hA4 hC4 hi04 hsz4
   go_enter Tryd.func68, Tryd.ntmps68
   go_wp2_with (first | ((with_reducible refine gate_dst (N := 10) rfl ?_); refine box_event ?hg (N := 10) ?hd (cs := #[.slice A0 (l0.take 2000).length c0, .int .i64 0]) (t := 101) ?hr ?_; (case hd => rfl); (case hg => rfl); (case hr => first | (go_simp; done) | (go_simp; rfl)); intro gb339 hg w5 hbox hb; have n0_ := Aside0.mk (below_step HBW.out hb); have n1_ := Aside0.mk (below_step (by repeat (first | (with_reducible first | exact HB.out | apply below_alloc | apply pw_below_drewN | apply below_drew1) | exact HB.out)) hb); have n2_ := Aside0.mk (hbox); have n3_ := Aside0.mk ((by rw [hg]; exact (below_size (by repeat (first | (with_reducible first | exact HBW.out | apply below_alloc | apply pw_below_drewN | apply below_drew1) | exact HBW.out))) : w.heap.size ≤ gb339)); have n4_ := Aside0.mk ((Nat.le_trans HW0.out (by rw [hg]; exact (below_size (by repeat (first | (with_reducible first | exact HBW.out | apply below_alloc | apply pw_below_drewN | apply below_drew1) | exact HBW.out))) : w.heap.size ≤ gb339) : w0.heap.size ≤ gb339)); clear HBW; clear HB; have HBW := n0_; have HB := n1_; have BK339 := n2_; have GW339 := n3_; have GE339 := n4_; clear n0_ n1_ n2_ n3_ n4_; clear hb hbox hg))
   go_ret
   exact ⟨_, rfl, (show IsS101 w0 _ gb339 (l0.take 2000) 0 from ⟨_, _, by (with_reducible repeat (first | refine blk_drewN ?_ _ | refine blk_drew ?_ | refine blk_alloc ?_ _)); exact BK339.out, GE339.out, HR338.out⟩), by repeat (first | (with_reducible first | exact HB.out | apply below_alloc | apply pw_below_drewN | apply below_drew1 | refine below_set ?_ GE339.out) | exact HB.out), by repeat (first | (with_reducible first | exact HBW.out | apply below_alloc | apply pw_below_drewN | apply below_drew1 | refine below_set ?_ GW339.out) | exact HBW.out)⟩
  ·rw [if_neg c3] at H
   exact absurd H (by simp)
 ·rw [if_neg c2] at H
  have c2b0 : decide (2000 < (l0.length : Int)) = false := decide_eq_false c2
  have c2b1 : decide (2000 < l0.length) = false := decide_eq_false (by omega)
  clear c2
  simp only [Option.some.injEq, Prod.mk.injEq] at H
  obtain ⟨rfl, rfl⟩ := H
  go_enter Tryd.func68, Tryd.ntmps68
  go_wp2_with (first | ((with_reducible refine gate_dst (N := 10) rfl ?_); refine box_event ?hg (N := 10) ?hd (cs := #[.slice A0 l0.length c0, .int .i64 0]) (t := 101) ?hr ?_; (case hd => rfl); (case hg => rfl); (case hr => first | (go_simp; done) | (go_simp; rfl)); intro gb340 hg w6 hbox hb; have n0_ := Aside0.mk (below_step HBW.out hb); have n1_ := Aside0.mk (below_step (by repeat (first | (with_reducible first | exact HB.out | apply below_alloc | apply pw_below_drewN | apply below_drew1) | exact HB.out)) hb); have n2_ := Aside0.mk (hbox); have n3_ := Aside0.mk ((by rw [hg]; exact (below_size (by repeat (first | (with_reducible first | exact HBW.out | apply below_alloc | apply pw_below_drewN | apply below_drew1) | exact HBW.out))) : w.heap.size ≤ gb340)); have n4_ := Aside0.mk ((Nat.le_trans HW0.out (by rw [hg]; exact (below_size (by repeat (first | (with_reducible first | exact HBW.out | apply below_alloc | apply pw_below_drewN | apply below_drew1) | exact HBW.out))) : w.heap.size ≤ gb340) : w0.heap.size ≤ gb340)); clear HBW; clear HB; have HBW := n0_; have HB := n1_; have BK340 := n2_; have GW340 := n3_; have GE340 := n4_; clear n0_ n1_ n2_ n3_ n4_; clear hb hbox hg))
  go_ret
  exact ⟨_, rfl, (show IsS101 w0 _ gb340 l0 0 from ⟨_, _, by (with_reducible repeat (first | refine blk_drewN ?_ _ | refine blk_drew ?_ | refine blk_alloc ?_ _)); exact BK340.out, GE340.out, HR0.out⟩), by repeat (first | (with_reducible first | exact HB.out | apply below_alloc | apply pw_below_drewN | apply below_drew1 | refine below_set ?_ GE340.out) | exact HB.out), by repeat (first | (with_reducible first | exact HBW.out | apply below_alloc | apply pw_below_drewN | apply below_drew1 | refine below_set ?_ GW340.out) | exact HBW.out)⟩
end Go.Proofs.YtekajandipdlhaaDoor.P
end
section
namespace Go.Proofs.YtekajandipdlhaaDoor.P
open Go.RowKit Go.Proofs.YtekajandipdlhaaDoorW.PrintWords Go.Proofs.YtekajandipdlhaaDoorW.PrintLast Go.Proofs.YtekajandipdlhaaDoorW.PrintMore
attribute [local go_sem] max2_int min2_int max_two min_two max_three min_three max_four min_four   -- for this text's walks alone
set_option linter.unusedVariables false
set_option linter.unusedSimpArgs false
noncomputable def spec_DrawWithoutUseless.f (l0 : List Int) : Option ((List (S37))) := (spec_newReader.f l0).bind fun bt382 => ((spec_anyGraph.f bt382.1 bt382.2).bind fun bt385 => (some bt385.1))
set_option maxHeartbeats 8000000 in
set_option maxRecDepth 100000 in
theorem spec_DrawWithoutUseless.calls (A0 : Option Addr) (c0 : Nat) (l0 : List Int) (r : List (S37)) (w : World) (hr0 : Kd.C (Kd.int .u8) w A0 l0.length l0) (hc0 : l0.length ≤ c0) (h : spec_DrawWithoutUseless.f l0 = some r) :
  Calls Tryd.prog 28 #[.slice A0 l0.length c0] w fun e w' => ∃ v0_ : Value, e = .returned (v0_) ∧ Kd.S k37 37 w' w.heap.size (fun _ => True) v0_ r ∧ Below w.heap.size w w' := by
 have HR0 := Aside0.mk hr0
 have HC0 := Aside0.mk hc0
 clear hr0 hc0
 have HB := Aside0.mk (Below.refl w.heap.size w)
 have H : ((spec_newReader.f l0).bind fun bt382 => ((spec_anyGraph.f bt382.1 bt382.2).bind fun bt385 => (some bt385.1))) = some r := h
 clear h
 replace H := Option.bind_eq_some_iff.mp H
 obtain ⟨⟨t382, t383⟩, A20, H⟩ := H
 replace H : ((spec_anyGraph.f t382 t383).bind fun bt385 => (some bt385.1)) = some r := H
 have A2 := Aside0.mk A20
 clear A20
 replace H := Option.bind_eq_some_iff.mp H
 obtain ⟨⟨t385, t388⟩, A30, H⟩ := H
 replace H : (some t385) = some r := H
 have A3 := Aside0.mk A30
 clear A30
 obtain rfl := Option.some.inj H
 go_enter Tryd.func28, Tryd.ntmps28
 go_wp2_with (first | ((with_reducible refine gate_callee (f := 68) rfl ?_); refine goesL_ (some 4) rfl rfl Tryd.func68 (by kernel_rfl) rfl #[.slice A0 l0.length c0] rfl (by (try simp only [List.map_toArray, List.map_cons, List.map_nil]); first | done | rfl | (simp only [List.length_drop, List.length_take]; rfl)) ?_; (with_reducible refine (spec_newReader.calls _ _ l0 t382 t383 w _ ?side1 ?side2 ?side3 A2.out).mono ?_); (case side1 => repeat (first | (with_reducible first | exact HB.out | apply below_alloc | apply pw_below_drewN | apply below_drew1) | exact HB.out)); (case side2 => exact HR0.out); (case side3 => exact HC0.out); rintro e w4 ⟨g384, rfl, hi, hb, hb2⟩; refine ⟨_, rfl, ?_⟩; have n0_ := Aside0.mk (hb); have n1_ := Aside0.mk (hi); clear HB; have HB := n0_; have HI384 := n1_; clear n0_ n1_; (try clear hb); (try clear hb2); (try clear hk); (try clear hi)) | ((with_reducible refine gate_callee (f := 67) rfl ?_); refine goesL_ (some 5) rfl rfl Tryd.func67 (by kernel_rfl) rfl #[.pointer (some ⟨g384, 0, none⟩)] rfl (by (try simp only [List.map_toArray, List.map_cons, List.map_nil]); first | done | rfl | (simp only [List.length_drop, List.length_take]; rfl)) ?_; (with_reducible refine (spec_anyGraph.calls g384 t382 t383 t385 t388 w _ ?side1 ?side2 A3.out).mono ?_); (case side1 => repeat (first | (with_reducible first | exact HI384.out | apply IsS101.alloc | apply IsS101.drewN | apply IsS101.drew | apply IsS101.set_1) | exact HI384.out)); (case side2 => repeat (first | (with_reducible first | exact HB.out | apply below_alloc | apply pw_below_drewN | apply below_drew1 | refine below_set ?_ (IsS101.ge HI384.out)) | exact HB.out)); rintro e w5 ⟨v386, rfl, ho0, hi, hb, hk⟩; refine ⟨_, rfl, ?_⟩; have n0_ := Aside0.mk (Kd.S_lower ho0 (below_size (by repeat (first | (with_reducible first | exact HB.out | apply below_alloc | apply pw_below_drewN | apply below_drew1 | refine below_set ?_ (IsS101.ge HI384.out)) | exact HB.out)))); have n1_ := Aside0.mk (hb); have n2_ := Aside0.mk (hi); clear HB; clear HI384; have HO387 := n0_; have HB := n1_; have HI384 := n2_; clear n0_ n1_ n2_; (try clear hb); (try clear hb2); (try clear hk); (try clear hi); (try clear ho0)))
 go_ret
 exact ⟨_, by first | rfl | (simp [errW_none, errW_some] <;> rfl) | (simp [*, errW_none, errW_some] <;> rfl), by (with_reducible repeat (first | apply Kd.S_alloc | apply Kd.S_drewN | apply Kd.S_drew)); exact HO387.out, by repeat (first | (with_reducible first | exact HB.out | apply below_alloc | apply pw_below_drewN | apply below_drew1 | refine below_set ?_ (IsS101.ge HI384.out)) | exact HB.out)⟩
end Go.Proofs.YtekajandipdlhaaDoor.P
end
section
set_option linter.unusedVariables false
set_option linter.unusedSimpArgs false
namespace Go.Proofs.YtekajandipdlhaaDoor.Core
open Go Go.RowKit Go.Proofs.YtekajandipdlhaaDoorW.PrintWords Go.Proofs.YtekajandipdlhaaDoorW.PrintMore Go.Proofs.YtekajandipdlhaaDoor.P
/-- A reader's state: few bytes, not far read. -/
def RS (s0 : List Int) (N p : Int) : Prop := s0.length ≤ 2000 ∧ (∀ x ∈ s0, 0 ≤ x ∧ x ≤ 255) ∧ 0 ≤ p ∧ p ≤ N ∧ N ≤ 100000
theorem RS.mono {s0 : List Int} {N M p : Int} (h : RS s0 N p) (hM : N ≤ M) (h2 : M ≤ 100000) : RS s0 M p := ⟨h.1, h.2.1, h.2.2.1, by have := h.2.2.2.1; omega, h2⟩
theorem rd_byte {s0 : List Int} {N p i : Int} (h : RS s0 N p) (h0 : 0 ≤ i) (h1 : i < (s0.length : Int)) : 0 ≤ rd s0 i ∧ rd s0 i ≤ 255 := by
 refine h.2.1 _ ?_
 unfold rd
 rw [List.getD_eq_getElem?_getD, List.getElem?_eq_getElem (by omega), Option.getD_some]
 exact List.getElem_mem _
/-- What pick answers. -/
def PickOk (n : Int) (s0 : List Int) (N : Int) (r : Int × Int) : Prop := (n < 1 → r.1 = 0) ∧ (1 ≤ n → 0 ≤ r.1 ∧ r.1 < n) ∧ RS s0 (N + 1) r.2
theorem ev_pick {s0 : List Int} {N p n : Int} (h : RS s0 N p) (hN : N < 100000) : EvP (fun k => spec_reader_pick.f k s0 p n) (PickOk n s0 N) := by
 obtain ⟨hl, hb, h0, h1, _⟩ := h
 have hp : wrap64 (p + 1) = p + 1 := w64 (by omega) (by omega)
 have hp1 : wrap64 (p + 1 - 1) = p := by rw [Int.add_sub_cancel]; exact w64 (by omega) (by omega)
 have hRS : RS s0 (N + 1) (p + 1) := ⟨hl, hb, by omega, by omega, by omega⟩
 have hz : EvP (fun k => spec_reader_pick.j0 k n true s0 (p + 1)) (fun r => r = (0, p + 1)) := by
  refine EvP.succ ?_
  simp only [spec_reader_pick.j0, if_true]
  exact EvP.ret rfl
 unfold spec_reader_pick.f
 rw [hp]
 refine EvP.ite (fun hn => hz.mono fun a e => ?_) (fun hn => ?_)
 ·subst e; exact ⟨fun _ => rfl, fun _ => by omega, hRS⟩
 by_cases he : s0.length = 0
 ·rw [show ((s0.length : Int) == 0) = true by simp [he]]
  exact hz.mono fun a e => by subst e; exact ⟨fun _ => rfl, fun _ => by omega, hRS⟩
 rw [show ((s0.length : Int) == 0) = false from beq_eq_false_iff_ne.2 (by omega)]
 refine EvP.succ ?_
 simp only [spec_reader_pick.j0, hp1, Bool.false_eq_true, if_false]
 refine EvP.ite (fun hlt => ?_) (fun hge => ?_)
 ·have hr := hb (rd s0 p) (by
   unfold rd
   rw [List.getD_eq_getElem?_getD, List.getElem?_eq_getElem (by omega), Option.getD_some]
   exact List.getElem_mem _)
  refine EvP.pos h0 (EvP.neg (by omega) (EvP.ret ?_))
  rw [w64 (n := rd s0 p) (by omega) (by omega)]
  exact ⟨fun _ => by omega, fun _ => tmod_lt hr.1 (by omega), hRS⟩
 ·have hpos : (0 : Int) < s0.length := by omega
  have hm1 := tmod_lt h0 hpos
  have h7 : wrap64 (p * 7) = p * 7 := w64 (by omega) (by omega)
  have h73 : wrap64 (p * 7 + 3) = p * 7 + 3 := w64 (by omega) (by omega)
  have hm2 := tmod_lt (a := p * 7 + 3) (by omega) hpos
  have hd := tdiv_le h0 hpos
  have hr1 := rd_byte ⟨hl, hb, h0, h1, by omega⟩ hm1.1 hm1.2
  have hr2 := rd_byte ⟨hl, hb, h0, h1, by omega⟩ hm2.1 hm2.2
  rw [h7, h73]
  refine EvP.neg (by omega) (EvP.pos hm1.1 (EvP.pos hm1.2 (EvP.pos hm2.1 (EvP.pos hm2.2 (EvP.neg (by omega) (EvP.ret ?_))))))
  generalize rd s0 (Int.tmod p s0.length) = x1 at *
  generalize rd s0 (Int.tmod (p * 7 + 3) s0.length) = x2 at *
  generalize Int.tdiv p s0.length = dd at *
  have e : wrap64 (wrap64 (wrap64 (wrap64 (wrap64 x1 * 131) + wrap64 (wrap64 x2 * 1117)) + wrap64 (p * 29)) + wrap64 (wrap64 dd * 53)) = x1 * 131 + x2 * 1117 + p * 29 + dd * 53 := by
   rw [w64 (n := x1) (by omega) (by omega), w64 (n := x2) (by omega) (by omega), w64 (n := dd) (by omega) (by omega), w64 (n := x1 * 131) (by omega) (by omega), w64 (n := x2 * 1117) (by omega) (by omega), w64 (n := x1 * 131 + x2 * 1117) (by omega) (by omega), w64 (n := p * 29) (by omega) (by omega), w64 (n := x1 * 131 + x2 * 1117 + p * 29) (by omega) (by omega), w64 (n := dd * 53) (by omega) (by omega), w64 (by omega) (by omega)]
  rw [e]
  generalize hy : x1 * 131 + x2 * 1117 + p * 29 + dd * 53 = y at *
  have hq := tdiv_le (a := y) (n := 64) (by omega) (by omega)
  rw [w64 (n := Int.tdiv y 64) (by omega) (by omega)]
  have hx := i64_xor y (Int.tdiv y 64) (by omega) (by omega) (by omega) (by omega)
  exact ⟨fun _ => by omega, fun _ => tmod_lt hx.1 (by omega), hRS⟩
theorem ev_one {s0 : List Int} {N p : Int} (h : RS s0 N p) (hN : N < 100000) (L : List Int) (hL : 0 < L.length) : EvP (fun k => spec_reader_one.f k s0 p L) (fun r => r.1 ∈ L ∧ RS s0 (N + 1) r.2) := by
 unfold spec_reader_one.f
 refine (ev_pick h hN).bind fun a ha => ?_
 have h2 := ha.2.1 (by omega)
 refine EvP.pos h2.1 (EvP.pos h2.2 (EvP.ret ⟨?_, ha.2.2⟩))
 show rd L a.1 ∈ L
 unfold rd
 rw [List.getD_eq_getElem?_getD, List.getElem?_eq_getElem (by omega), Option.getD_some]
 exact List.getElem_mem _
theorem ev_spoil {s0 : List Int} {N p : Int} (h : RS s0 N p) (hN : N + 2 < 100000) (L : List Int) (n : Int) (hL : L.length ≤ 10000) : EvP (fun k => spec_reader_spoil.f k s0 p L n) (fun r => r.1.length ≤ L.length + 1 ∧ RS s0 (N + 3) r.2) := by
 unfold spec_reader_spoil.f
 rw [show spec_copyInts.f L = some L from copyInts_eq (by unfold big; omega) (by omega)]
 refine EvP.sb ?_
 refine (ev_pick h (by omega)).bind fun a ha => ?_
 have hm := ha.2.2.mono (M := N + 3) (by omega) (by omega)
 refine EvP.ite (fun _ => EvP.pos (by omega) (EvP.ret ⟨by simp, hm⟩)) (fun _ => ?_)
 refine EvP.ite (fun _ => EvP.ite (fun h0 => EvP.pos (by omega) (EvP.ret ⟨by simp; omega, hm⟩)) (fun _ => EvP.ret ⟨by show L.length ≤ _; omega, hm⟩)) (fun _ => ?_)
 refine EvP.ite (fun _ => EvP.ite (fun h0 => ?_) (fun _ => EvP.ret ⟨by show L.length ≤ _; omega, hm⟩)) (fun _ => EvP.ret ⟨by show L.length ≤ _; omega, hm⟩)
 refine (ev_pick ha.2.2 (by omega)).bind fun b hb => ?_
 refine (ev_one hb.2.2 (by omega) _ (by simp)).bind fun c hc => ?_
 have h2 := hb.2.1 (by omega)
 exact EvP.pos h2.1 (EvP.pos h2.2 (EvP.ret ⟨by simp, hc.2.mono (by omega) (by omega)⟩))
/-- A graph of few tasks, whose lists of needs are short. -/
def GSmall (n m : Nat) (g : List Tk) : Prop := g.length ≤ n ∧ ∀ t ∈ g, t.f1.length ≤ m
theorem GSmall.fits {n m : Nat} {g : List Tk} (h : GSmall n m g) (hn : n < big) (hm : m < big) : Fits g := ⟨by have := h.1; omega, fun t ht => by have := h.2 t ht; omega⟩
theorem ev_turned_in (x0 : List Tk) (x3 : List Tk) (x4 x5 : Int) (f0 f2 f3 : Int) (L : List Int) (hL : L.length ≤ 10000) (R : List Tk → Prop) (hx3 : x3.length ≤ 100) (hk : ∀ L2 : List Int, L2.length = L.length → EvP (fun k => spec_turned.l0 k x0 (x3 ++ [⟨f0, L2, f2, f3⟩]) x4 (wrap64 (x5 - 1))) R) :
  ∀ (m : Nat) (x7 : List Int), m ≤ L.length → x7.length + m = L.length → EvP (fun k => spec_turned.l1 k x0 x3 x4 x5 x7 ((m : Int) - 1) f0 L f2 f3) R
 | 0, x7, _, h => by
  refine EvP.succ ?_
  simp only [spec_turned.l1]
  exact EvP.neg (by omega) (EvP.pos (by omega) (hk x7 (by omega)))
 | m + 1, x7, hm, h => by
  refine EvP.succ ?_
  simp only [spec_turned.l1]
  refine EvP.pos (by omega) (EvP.pos (by omega) (EvP.pos (by omega) (EvP.pos (by omega) ?_)))
  have := ev_turned_in x0 x3 x4 x5 f0 f2 f3 L hL R hx3 hk m (x7 ++ [wrap64 (x4 - rd L (((m + 1 : Nat) : Int) - 1))]) (by omega) (by simp; omega)
  rw [show wrap64 (((m + 1 : Nat) : Int) - 1 - 1) = (m : Int) - 1 by rw [w64 (by omega) (by omega)]; omega]
  exact this
theorem ev_turned {n m : Nat} {g : List Tk} (hg : GSmall n m g) (hn : n ≤ 100) (hm : m ≤ 10000) : EvP (fun k => spec_turned.f k g) (fun r => r.length = g.length ∧ GSmall n m r) := by
 have key : ∀ (j : Nat) (x3 : List Tk) (x4 : Int), j ≤ g.length → x3.length + j = g.length → (∀ t ∈ x3, t.f1.length ≤ m) → EvP (fun k => spec_turned.l0 k g x3 x4 ((j : Int) - 1)) (fun r => r.length = g.length ∧ GSmall n m r) := by
  intro j
  induction j with
  | zero =>
   intro x3 x4 hj hl ht
   refine EvP.succ ?_
   simp only [spec_turned.l0]
   exact EvP.neg (by omega) (EvP.ret ⟨by show x3.length = _; omega, by have := hg.1; show x3.length ≤ n; omega, ht⟩)
  | succ j ih =>
   intro x3 x4 hj hl ht
   have hgl := hg.1
   refine EvP.succ ?_
   simp only [spec_turned.l0]
   refine EvP.pos (by omega) (EvP.pos (by omega) (EvP.pos (by omega) ?_))
   have hmem : rd_T37 g (((j + 1 : Nat) : Int) - 1) ∈ g := by
    unfold rd_T37
    rw [List.getD_eq_getElem?_getD, List.getElem?_eq_getElem (by omega), Option.getD_some]
    exact List.getElem_mem _
   have hlen := hg.2 _ hmem
   generalize rd_T37 g (((j + 1 : Nat) : Int) - 1) = t at *
   rw [show wrap64 ((t.f1.length : Int) - 1) = (t.f1.length : Int) - 1 from w64 (by omega) (by omega)]
   refine ev_turned_in g x3 x4 (((j + 1 : Nat) : Int) - 1) t.f0 t.f2 t.f3 t.f1 (by omega) _ (by omega) (fun L2 h2 => ?_) t.f1.length [] (Nat.le_refl _) (by simp)
   rw [show wrap64 (((j + 1 : Nat) : Int) - 1 - 1) = (j : Int) - 1 by rw [w64 (by omega) (by omega)]; omega]
   refine ih _ _ (by omega) (by simp; omega) (fun u hu => ?_)
   rcases List.mem_append.1 hu with hu | hu
   ·exact ht u hu
   ·rw [List.mem_singleton.1 hu]; show L2.length ≤ m; omega
 have hgl := hg.1
 unfold spec_turned.f
 rw [show wrap64 ((g.length : Int) - 1) = (g.length : Int) - 1 from w64 (by omega) (by omega)]
 exact key g.length [] _ (Nat.le_refl _) (by simp) (by simp)
theorem ev_some_in (g : List Tk) (x6 : Int) (s0 : List Int) (f0 f2 f3 : Int) (N : Int) (hg : g.length ≤ 8) (hN : N + 8 < 100000) (R : List Tk × Int → Prop)
  (hk : ∀ (L : List Int) (p : Int), L.length ≤ 8 → RS s0 (N + 8) p → EvP (fun k => spec_someGraph.l0 k (g ++ [⟨f0, L, f2, f3⟩]) (wrap64 (x6 - 1)) s0 p) R) :
  ∀ (d i : Nat) (L : List Int) (p : Int), i + d = g.length → L.length ≤ i → RS s0 (N + i) p → EvP (fun k => spec_someGraph.l1 k g x6 (i : Int) s0 p f0 L f2 f3) R
 | 0, i, L, p, h, hL, hp => by
  refine EvP.succ ?_
  simp only [spec_someGraph.l1]
  exact EvP.neg (by omega) (EvP.pos (by omega) (hk L p (by omega) (hp.mono (by omega) (by omega))))
 | d + 1, i, L, p, h, hL, hp => by
  refine EvP.succ ?_
  simp only [spec_someGraph.l1]
  refine EvP.pos (by omega) ?_
  refine (ev_pick hp (by omega)).bind fun a ha => ?_
  have hp2 : RS s0 (N + ((i + 1 : Nat) : Int)) a.2 := ha.2.2.mono (by omega) (by omega)
  rw [show wrap64 ((i : Int) + 1) = ((i + 1 : Nat) : Int) by rw [w64 (by omega) (by omega)]; omega]
  refine EvP.ite (fun _ => EvP.pos (by omega) ?_) (fun _ => ?_)
  ·exact ev_some_in g x6 s0 f0 f2 f3 N hg hN R hk d (i + 1) _ _ (by omega) (by simp; omega) hp2
  ·exact ev_some_in g x6 s0 f0 f2 f3 N hg hN R hk d (i + 1) _ _ (by omega) (by omega) hp2
theorem ev_some_out (s0 : List Int) : ∀ (j : Nat) (g : List Tk) (N p : Int), g.length + j ≤ 8 → N + j * 11 + 1 < 100000 → (∀ t ∈ g, t.f1.length ≤ 8) → RS s0 N p →
  EvP (fun k => spec_someGraph.l0 k g (j : Int) s0 p) (fun r => GSmall 8 8 r.1 ∧ RS s0 (N + j * 11 + 1) r.2)
 | 0, g, N, p, hg, hN, ht, hp => by
  refine EvP.succ ?_
  simp only [spec_someGraph.l0]
  refine EvP.neg (by omega) ?_
  refine EvP.ite (fun h1 => ?_) (fun _ => EvP.ret ⟨⟨by show g.length ≤ 8; omega, ht⟩, hp.mono (by omega) (by omega)⟩)
  refine (ev_pick hp (by omega)).bind fun a ha => ?_
  refine EvP.ite (fun _ => ?_) (fun _ => EvP.ret ⟨⟨by show g.length ≤ 8; omega, ht⟩, ha.2.2.mono (by omega) (by omega)⟩)
  refine (ev_turned (n := 8) (m := 8) ⟨by omega, ht⟩ (by omega) (by omega)).bind fun r hr => ?_
  exact EvP.ret ⟨hr.2, ha.2.2.mono (by omega) (by omega)⟩
 | j + 1, g, N, p, hg, hN, ht, hp => by
  refine EvP.succ ?_
  simp only [spec_someGraph.l0]
  refine EvP.pos (by omega) ?_
  refine (ev_one hp (by omega) _ (by simp)).bind fun a ha => ?_
  refine (ev_pick ha.2 (by omega)).bind fun b hb => ?_
  refine (ev_pick hb.2.2 (by omega)).bind fun c hc => ?_
  refine ev_some_in g ((j + 1 : Nat) : Int) s0 a.1 b.1 (wrap64 (1 + c.1)) (N + 1 + 1 + 1) (by omega) (by omega) _ (fun L q hL hq => ?_) g.length 0 [] _ (by omega) (by simp) (hc.2.2.mono (by omega) (by omega))
  rw [show wrap64 (((j + 1 : Nat) : Int) - 1) = (j : Int) by rw [w64 (by omega) (by omega)]; omega]
  refine (ev_some_out s0 j _ (N + 11) q (by simp; omega) (by omega) (fun u hu => ?_) (hq.mono (by omega) (by omega))).mono fun r hr => ⟨hr.1, hr.2.mono (by omega) (by omega)⟩
  rcases List.mem_append.1 hu with hu | hu
  ·exact ht u hu
  ·rw [List.mem_singleton.1 hu]; exact hL
theorem ev_someGraph {s0 : List Int} {N p : Int} (h : RS s0 N p) (hN : N + 100 < 100000) (a : Int) (ha : 0 ≤ a) : EvP (fun k => spec_someGraph.f k s0 p a) (fun r => GSmall 8 8 r.1 ∧ RS s0 (N + 100) r.2) := by
 unfold spec_someGraph.f
 refine (ev_one h (by omega) _ (by simp)).bind fun b hb => ?_
 have hb8 : 0 ≤ mn a b.1 ∧ mn a b.1 ≤ 8 := by
  have := hb.1
  simp at this
  unfold mn
  split <;> omega
 generalize mn a b.1 = c at *
 obtain ⟨j, rfl⟩ := Int.eq_ofNat_of_zero_le hb8.1
 exact (ev_some_out s0 j [] (N + 1) b.2 (by simp; omega) (by omega) (by simp) hb.2).mono fun r hr => ⟨hr.1, hr.2.mono (by omega) (by omega)⟩
theorem lim_evP {α : Type} {f : Nat → Option α} {Q : α → Prop} (hm : ∀ k, LeO (f k) (f (k + 1))) (h : EvP f Q) : EvP (fun _ => lim f) Q := by
 obtain ⟨r, h, q⟩ := h
 obtain ⟨k, hk⟩ := h.one
 exact ⟨r, ⟨0, fun _ _ => lim_of hm hk⟩, q⟩
theorem rdT_small {n m : Nat} {g : List Tk} (h : GSmall n m g) {i : Int} (h0 : 0 ≤ i) (h1 : i < (g.length : Int)) : (rd_T37 g i).f1.length ≤ m := by
 refine h.2 _ ?_
 unfold rd_T37
 rw [List.getD_eq_getElem?_getD, List.getElem?_eq_getElem (by omega), Option.getD_some]
 exact List.getElem_mem _
theorem small_set {n m m2 : Nat} {g : List Tk} (h : GSmall n m g) (i : Nat) (t : Tk) (ht : t.f1.length ≤ m2) (hm : m ≤ m2) {n2 : Nat} (hn : n ≤ n2) : GSmall n2 m2 (g.set i t) := by
 refine ⟨by rw [List.length_set]; have := h.1; omega, fun u hu => ?_⟩
 rcases List.mem_or_eq_of_mem_set hu with h1 | h1
 ·have := h.2 u h1; omega
 ·rw [h1]; exact ht
theorem ev_anyGraph {s0 : List Int} {N p : Int} (h : RS s0 N p) (hN : N + 210 < 100000) : EvP (fun _ => spec_anyGraph.f s0 p) (fun r => GSmall 16 10 r.1 ∧ RS s0 (N + 210) r.2) := by
 unfold spec_anyGraph.f
 refine lim_evP (fun k => spec_anyGraph.mono s0 p k) ?_
 unfold spec_anyGraph.fk
 refine (ev_someGraph h (by omega) 8 (by omega)).bind fun a ha => ?_
 have hs : GSmall 16 10 a.1 := ⟨by have := ha.1.1; omega, fun t ht => by have := ha.1.2 t ht; omega⟩
 refine EvP.ite (fun _ => EvP.ret ⟨hs, ha.2.mono (by omega) (by omega)⟩) (fun hne => ?_)
 refine (ev_pick ha.2 (by omega)).bind fun b hb => ?_
 refine (ev_pick hb.2.2 (by omega)).bind fun c hc => ?_
 have hb2 := hb.2.1 (by omega)
 refine EvP.neg (fun hh => hh hb2) ?_
 have hl := rdT_small ha.1 hb2.1 hb2.2
 generalize rd_T37 a.1 b.1 = tk at hl
 refine EvP.ite (fun _ => (ev_one hc.2.2 (by omega) _ (by simp)).bind fun d hd => EvP.ret ⟨small_set ha.1 _ _ (by show tk.f1.length ≤ 10; omega) (by omega) (by omega), hd.2.mono (by omega) (by omega)⟩) (fun _ => ?_)
 refine EvP.ite (fun _ => ?_) (fun _ => ?_)
 ·refine (ev_pick hc.2.2 (by omega)).bind fun d hd => ?_
  refine EvP.pos (by omega) ?_
  refine (ev_spoil hd.2.2 (by omega) _ 8 (by simp; omega)).bind fun e he => ?_
  have := he.1
  simp only [List.length_append, List.length_cons, List.length_nil] at this
  exact EvP.ret ⟨small_set ha.1 _ _ (by show e.1.length ≤ 10; omega) (by omega) (by omega), he.2.mono (by omega) (by omega)⟩
 refine EvP.ite (fun _ => (ev_one hc.2.2 (by omega) _ (by simp)).bind fun d hd => EvP.ret ⟨small_set ha.1 _ _ (by show tk.f1.length ≤ 10; omega) (by omega) (by omega), hd.2.mono (by omega) (by omega)⟩) (fun _ => ?_)
 refine EvP.ite (fun _ => (ev_one hc.2.2 (by omega) _ (by simp)).bind fun d hd => EvP.ret ⟨small_set ha.1 _ _ (by show tk.f1.length ≤ 10; omega) (by omega) (by omega), hd.2.mono (by omega) (by omega)⟩) (fun _ => ?_)
 refine EvP.ite (fun _ => ?_) (fun _ => EvP.ret ⟨hs, hc.2.2.mono (by omega) (by omega)⟩)
 refine (ev_someGraph hc.2.2 (by omega) 8 (by omega)).bind fun d hd => ?_
 have h1 := ha.1.1
 have h2 := hd.1.1
 refine EvP.pos (by omega) (EvP.ret ⟨⟨by simp; omega, fun t ht => ?_⟩, hd.2.mono (by omega) (by omega)⟩)
 rcases List.mem_append.1 ht with ht | ht
 ·have := ha.1.2 t ht; omega
 ·have := hd.1.2 t ht; omega
/-- The bytes of a code. -/
def Bytes (l : List Int) : Prop := ∀ x ∈ l, (Lit.int .u8 x).wf = true
theorem byte_of_wf {x : Int} (h : (Lit.int .u8 x).wf = true) : 0 ≤ x ∧ x ≤ 255 := by
 simp only [Lit.wf, IntKind.min, IntKind.max, IntKind.signed, IntKind.bits, Bool.and_eq_true, decide_eq_true_eq] at h
 simp at h
 omega
theorem ev_newReader {l : List Int} (h : Bytes l) : EvP (fun _ => spec_newReader.f l) (fun r => RS r.1 0 r.2) := by
 have hb : ∀ x ∈ l, 0 ≤ x ∧ x ≤ 255 := fun x hx => byte_of_wf (h x hx)
 unfold spec_newReader.f
 refine EvP.ite (fun h1 => EvP.pos (by omega) (EvP.ret ⟨by simp; omega, fun x hx => hb x (List.mem_of_mem_take hx), by omega, by omega, by omega⟩)) (fun h1 => EvP.ret ⟨by show l.length ≤ 2000; omega, hb, by show (0 : Int) ≤ 0; omega, by show (0 : Int) ≤ 0; omega, by omega⟩)
end Go.Proofs.YtekajandipdlhaaDoor.Core
end
