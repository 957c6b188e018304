/- The law FnWithoutUselessTimes holds of the given program: the proof's own part, with its row and its card, part 6 of 11. -/
import Derived.Test.YtpibdjkajgfgjaaDoorZFnWithoutUselessTimes5
namespace Go.Proofs.YtpibdjkajgfgjaaDoor.P
abbrev T6q : Bool := true
abbrev F6q : Bool := false
end Go.Proofs.YtpibdjkajgfgjaaDoor.P
section
set_option linter.unusedVariables false
set_option linter.unusedSimpArgs false
namespace Go.Proofs.YtpibdjkajgfgjaaDoor.Core
open Go Go.RowKit Go.Proofs.YtpibdjkajgfgjaaDoorW.PrintWords Go.Proofs.YtpibdjkajgfgjaaDoorW.PrintMore Go.Proofs.YtpibdjkajgfgjaaDoor.P
theorem VG.need_lt {g : List Tk} {G : GD} (v : VG g G) {i m : Nat} (h : (G.needs.getD i 0).testBit m = true) : m < g.length := by
 have h1 := getD_lt v.nb i
 have h2 := Nat.ge_two_pow_of_testBit h
 have h3 : 2 ^ m < 2 ^ g.length := Nat.lt_of_le_of_lt h2 h1
 exact (Nat.pow_lt_pow_iff_right (by omega)).1 h3
/-- From the needs to the task. -/
theorem VG.ind {g : List Tk} {G : GD} (v : VG g G) {Q : Nat → Prop} (h : ∀ i, i < g.length → (∀ m, (G.needs.getD i 0).testBit m = true → Q m) → Q i) : ∀ i, i < g.length → Q i := by
 have key : ∀ (suf pre : List Nat), G.order = pre ++ suf → (∀ i ∈ pre, Q i) → ∀ i ∈ G.order, Q i := by
  intro suf
  induction suf with
  | nil => intro pre ho hp i hi; rw [ho, List.append_nil] at hi; exact hp i hi
  | cons a s ih =>
   intro pre ho hp
   refine ih (pre ++ [a]) (by rw [ho]; simp) fun i hi => ?_
   rcases List.mem_append.1 hi with hi | hi
   ·exact hp i hi
   ·rw [List.mem_singleton.1 hi]
    exact h a (v.mem.1 (by rw [ho]; simp)) fun m hm => hp m (v.ord.needs pre a s ho m hm)
 exact fun i hi => key G.order [] rfl (by simp) i (v.mem.2 hi)
theorem VG.below_before {g : List Tk} {G : GD} (v : VG g G) (hG : graphD g = some G) : ∀ i, i < g.length → ∀ k, (G.below.getD i 0).testBit k = true → ∀ pre suf, G.order = pre ++ i :: suf → k ∈ pre := by
 refine v.ind (Q := fun i => ∀ k, (G.below.getD i 0).testBit k = true → ∀ pre suf, G.order = pre ++ i :: suf → k ∈ pre) fun i hi ih k hk pre suf ho => ?_
 obtain ⟨m, hm, h⟩ := (below_bits hG hi k).1 hk
 have hmp := v.ord.needs pre i suf ho m hm
 rcases h with rfl | h
 ·exact hmp
 ·obtain ⟨a, b, rfl⟩ := List.append_of_mem hmp
  exact List.mem_append_left _ (ih m hm k h a (b ++ i :: suf) (by rw [ho]; simp))
/-- From what is above to the task. -/
theorem VG.rind {g : List Tk} {G : GD} (v : VG g G) (hG : graphD g = some G) {Q : Nat → Prop} (h : ∀ k, k < g.length → (∀ m, m < g.length → (G.below.getD m 0).testBit k = true → Q m) → Q k) : ∀ k, k < g.length → Q k := by
 have hn := v.ord.nodup
 have key : ∀ (n : Nat) (pre suf : List Nat), pre.length = n → G.order = pre ++ suf → (∀ i ∈ suf, Q i) → ∀ i ∈ G.order, Q i := by
  intro n
  induction n with
  | zero =>
   intro pre suf hl ho hs i hi
   have : pre = [] := List.length_eq_zero_iff.1 hl
   rw [ho, this, List.nil_append] at hi
   exact hs i hi
  | succ n ih =>
   intro pre suf hl ho hs
   obtain ⟨pre0, k, rfl⟩ : ∃ t z, pre = t ++ [z] := by
    have hne : pre ≠ [] := by intro h; rw [h] at hl; simp at hl
    exact ⟨pre.dropLast, pre.getLast hne, (List.dropLast_concat_getLast hne).symm⟩
   have ho' : G.order = pre0 ++ k :: suf := by rw [ho]; simp
   refine ih pre0 (k :: suf) (by simp at hl; omega) ho' fun i hi => ?_
   rcases List.mem_cons.1 hi with rfl | hi
   ·refine h i (v.mem.1 (by rw [ho']; simp)) fun m hm hb => ?_
    have hmo := v.mem.2 hm
    rw [ho'] at hmo hn
    rw [List.nodup_append] at hn
    rcases List.mem_append.1 hmo with hmo | hmo
    ·obtain ⟨a, c, hac⟩ := List.append_of_mem hmo
     have := v.below_before hG m hm i hb a (c ++ i :: suf) (by rw [ho', hac]; simp)
     exact absurd rfl (hn.2.2 i (by rw [hac]; exact List.mem_append_left _ this) i List.mem_cons_self)
    ·rcases List.mem_cons.1 hmo with hmo | hmo
     ·rw [hmo] at hb
      have := v.below_before hG i (v.mem.1 (by rw [ho']; simp)) i hb pre0 suf ho'
      exact absurd rfl (hn.2.2 i this i List.mem_cons_self)
     ·exact hs m hmo
   ·exact hs i hi
 exact fun k hk => key G.order.length G.order [] rfl (by simp) (by simp) k (v.mem.2 hk)
theorem VG.list {g : List Tk} {G : GD} (v : VG g G) {i : Nat} (hi : i < g.length) : (g.getD i z48).f1 = up (elemsN (G.needs.getD i 0)) := by
 have hg : g.getD i z48 ∈ g := by
  rw [List.getD_eq_getElem?_getD, List.getElem?_eq_getElem hi]
  exact List.getElem_mem hi
 have hf := (v.fine.1 _ hg).2
 refine asc_ext hf.2 (asc_elems _) (fun x => ?_)
 show _ ↔ x ∈ elems _
 rw [mem_elems]
 constructor
 ·intro hx
  have hb := hf.1 x hx
  have h8 := v.n8
  refine ⟨x.toNat, by omega, by omega, ?_⟩
  rw [v.bits i hi, decide_eq_true_eq, show ((x.toNat : Nat) : Int) = x by omega]
  exact hx
 ·rintro ⟨k, rfl, _, hk⟩
  rw [v.bits i hi, decide_eq_true_eq] at hk
  exact hk
end Go.Proofs.YtpibdjkajgfgjaaDoor.Core
end
section
set_option linter.unusedVariables false
set_option linter.unusedSimpArgs false
namespace Go.Proofs.YtpibdjkajgfgjaaDoor.Core
open Go Go.RowKit Go.Shelf Go.Proofs.YtpibdjkajgfgjaaDoorW.PrintWords Go.Proofs.YtpibdjkajgfgjaaDoorW.PrintMore Go.Proofs.YtpibdjkajgfgjaaDoor.P
attribute [local go_sem] Oper.semAt_some wide_fn wide_depth
theorem needsGo_taskOk {n : Nat} : ∀ {r : List Tk} {N : List Nat}, needsGo n r = some N → ∀ t ∈ r, taskOk t
 | [], _, _, t, ht => by cases ht
 | a :: r, N, h, t, ht => by
  rw [needsGo] at h
  cases he : setD n a.f1 with
  | none => rw [he] at h; cases h
  | some s =>
   rw [he] at h
   by_cases hok : taskOk a
   ·simp only [hok, if_true] at h
    cases hg : needsGo n r with
    | none => rw [hg] at h; cases h
    | some M =>
     rcases List.mem_cons.1 ht with rfl | ht
     ·exact hok
     ·exact needsGo_taskOk hg t ht
   ·simp [hok] at h
theorem graphD_taskOk {g : List Tk} {G : GD} (h : graphD g = some G) : ∀ t ∈ g, taskOk t := by
 obtain ⟨N, hN, _, _⟩ := graphD_spec h
 unfold needsD at hN
 by_cases h8 : g.length ≤ 8
 ·rw [if_pos h8] at hN; exact needsGo_taskOk hN
 ·rw [if_neg h8] at hN; cases hN
theorem graphOf_none (A0 : Option Addr) (c0 : Nat) (l0 : List Tk) (w : World) (hT : Tab w) (hr0 : k48.C w A0 l0.length l0) (hc0 : l0.length ≤ c0) (hg : graphD l0 = none) :
  Calls Tryd.prog 60 #[.slice A0 l0.length c0] w fun e w' => e = .returned (.tuple #[.pointer none, .bool false]) ∧ Below w.heap.size w w' :=
 (graphOf_calls A0 c0 l0 w hT hr0 hc0).mono fun e w' h => by unfold graphPost at h; rw [hg] at h; exact h
theorem graphOf_row (A0 : Option Addr) (c0 : Nat) (l0 : List Tk) (G : GD) (w : World) (hT : Tab w) (hr0 : k48.C w A0 l0.length l0) (hc0 : l0.length ≤ c0) (hg : graphD l0 = some G) :
  Calls Tryd.prog 60 #[.slice A0 l0.length c0] w fun e w' => ∃ (b : Nat) (v : Value), e = .returned (.tuple #[.pointer (some ⟨b, 0, none⟩), .bool true]) ∧ Below w.heap.size w w' ∧ w.heap.size ≤ b ∧ IsG w' b G ∧ w'.cell? ⟨b, 2, none⟩ = some v ∧ (Kd.int .i64).R 3 w' w.heap.size (fun _ => True) v (up G.order) :=
 (graphOf_calls A0 c0 l0 w hT hr0 hc0).mono fun e w' h => by
  unfold graphPost at h
  rw [hg] at h
  obtain ⟨b, v, h1, h2, h3, h4, h5, h6, _⟩ := h
  exact ⟨b, v, h1, h2, h3, h4, h5, h6⟩
theorem graphOf_some (A0 : Option Addr) (c0 : Nat) (l0 : List Tk) (G : GD) (w : World) (hT : Tab w) (hr0 : k48.C w A0 l0.length l0) (hc0 : l0.length ≤ c0) (hg : graphD l0 = some G) :
  Calls Tryd.prog 60 #[.slice A0 l0.length c0] w fun e w' => ∃ b : Nat, e = .returned (.tuple #[.pointer (some ⟨b, 0, none⟩), .bool true]) ∧ Below w.heap.size w w' ∧ IsG w' b G :=
 (graphOf_row A0 c0 l0 G w hT hr0 hc0 hg).mono fun e w' ⟨b, v, h1, h2, _, h3, _⟩ => ⟨b, h1, h2, h3⟩
theorem grown_trans {a b c : World} {row : Option Nat} (h1 : a.grownBy b row) (h2 : b.grownBy c row) : a.grownBy c row :=
 ⟨h2.os.trans h1.os, h2.tape.trans h1.tape, h2.output.trans h1.output, Nat.le_trans h1.size h2.size, fun k hk hn => (h2.block k (Nat.lt_of_lt_of_le hk h1.size) hn).trans (h1.block k hk hn)⟩
theorem grown_of_below {a b : World} (row : Option Nat) (h : Below a.heap.size a b) : a.grownBy b row := ⟨h.os, h.tape, h.output, h.size, fun k hk _ => h.block k hk⟩
end Go.Proofs.YtpibdjkajgfgjaaDoor.Core
end
section
set_option linter.unusedVariables false
set_option linter.unusedSimpArgs false
namespace Go.Proofs.YtpibdjkajgfgjaaDoor.Core
open Go Go.RowKit Go.Shelf Go.Proofs.YtpibdjkajgfgjaaDoorW.PrintWords Go.Proofs.YtpibdjkajgfgjaaDoorW.PrintLast Go.Proofs.YtpibdjkajgfgjaaDoorW.PrintMore Go.Proofs.YtpibdjkajgfgjaaDoor.P
attribute [local go_sem] Oper.semAt_some wide_fn wide_depth
/-- One more need's own needs. -/
def ustep (G : GD) (i : Nat) (o k : Nat) : Nat := o ||| (G.needs.getD i 0 &&& G.below.getD k 0)
/-- The needs of a task that another one of its needs needs. -/
def uselessD (G : GD) (i : Nat) : Nat := (elemsN (G.needs.getD i 0)).foldl (ustep G i) 0
theorem ustep_lt {G : GD} (ok : GOk G) (i : Nat) {o : Nat} (ho : o < 2 ^ G.tasks.length) (k : Nat) : ustep G i o k < 2 ^ G.tasks.length :=
 Nat.or_lt_two_pow ho (Nat.lt_of_le_of_lt Nat.and_le_left (getD_lt ok.nb i))
theorem ufold_lt {G : GD} (ok : GOk G) (i : Nat) : ∀ (ks : List Nat) (o : Nat), o < 2 ^ G.tasks.length → ks.foldl (ustep G i) o < 2 ^ G.tasks.length
 | [], _, h => h
 | k :: ks, o, h => ufold_lt ok i ks _ (ustep_lt ok i h k)
theorem uselessD_lt {G : GD} (ok : GOk G) (i : Nat) : uselessD G i < 2 ^ G.tasks.length := ufold_lt ok i _ 0 (Nat.two_pow_pos _)
set_option maxRecDepth 100000 in
set_option maxHeartbeats 8000000 in
theorem useless_calls (b : Nat) (G : GD) (i : Nat) (w : World) (hT : Tab w) (hg : IsG w b G) (ok : GOk G) (hi : i < G.tasks.length) :
  Calls Tryd.prog 83 #[.pointer (some ⟨b, 0, none⟩), .int .i64 (i : Int)] w fun e w' => e = .returned (.int .u16 ((uselessD G i : Nat) : Int)) ∧ Below w.heap.size w w' := by
 obtain ⟨xi, hxi⟩ : ∃ x : Int, x = (i : Int) := ⟨_, rfl⟩
 rw [← hxi]
 have HI := Aside0.mk hxi
 clear hxi
 refine calls_marks Tryd.func83 rfl ?_
 simp only [Tryd.ntmps83, List.size_toArray, List.length_cons, List.length_nil, Nat.reduceAdd, Nat.reduceSub, Array.replicate_succ, Array.replicate_zero, List.push_toArray, List.append_toArray, List.nil_append, List.cons_append]
 go_wp2
 have o1 : (w.alloc (.cells #[.pointer (some ⟨b, 0, none⟩)] 63)).heap.size = w.heap.size + 1 := by simp
 have x1 := Boxed.new w 63 (.pointer (some ⟨b, 0, none⟩))
 have B1 := (Below.refl w.heap.size w).alloc (Nat.le_refl _) (.cells #[.pointer (some ⟨b, 0, none⟩)] 63)
 revert o1 x1 B1
 generalize w.alloc (.cells #[.pointer (some ⟨b, 0, none⟩)] 63) = w1
 intro o1 x1 B1
 have i2 := Boxed.new w1 3 (.int .i64 xi)
 rw [o1] at i2
 have o2 : (w1.alloc (.cells #[.int .i64 xi] 3)).heap.size = w.heap.size + 1 + 1 := by simp [o1]
 have x2 := x1.alloc (.cells #[.int .i64 xi] 3)
 have B2 := B1.alloc (by omega) (.cells #[.int .i64 xi] 3)
 revert o2 x2 B2 i2
 generalize w1.alloc (.cells #[.int .i64 xi] 3) = w2
 intro i2 o2 x2 B2
 have u3 := Boxed.new w2 67 (.int .u16 0)
 rw [o2] at u3
 have o3 : (w2.alloc (.cells #[.int .u16 0] 67)).heap.size = w.heap.size + 1 + 1 + 1 := by simp [o2]
 have x3 := x2.alloc (.cells #[.int .u16 0] 67)
 have i3 := i2.alloc (.cells #[.int .u16 0] 67)
 have B3 := B2.alloc (by omega) (.cells #[.int .u16 0] 67)
 revert o3 x3 B3 i3 u3
 generalize w2.alloc (.cells #[.int .u16 0] 67) = w3
 intro u3 o3 x3 i3 B3
 clear o1 x1 B1 i2 o2 x2 B2
 refine wp_region_still_tail 7 rfl (by kernel_rfl) ?_
 change wpStill _ _ w3.drew (fun a' => wpList _ _ _ _ a' w3.drew) _ _
 have hdr : Below w3.heap.size w3 w3.drew := below_drew (Below.refl _ _)
 revert hdr
 generalize w3.drew = w4
 intro hdr
 have x4 : Boxed w4 w.heap.size 63 (.pointer (some ⟨b, 0, none⟩)) := (hdr.block _ x3.lt).trans x3
 have i4 : Boxed w4 (w.heap.size + 1) 3 (.int .i64 xi) := (hdr.block _ i3.lt).trans i3
 have u4 : Boxed w4 (w.heap.size + 1 + 1) 67 (.int .u16 0) := (hdr.block _ u3.lt).trans u3
 have B4 := below_step B3 hdr
 have hs4 : w.heap.size + 1 + 1 + 1 ≤ w4.heap.size := by have := hdr.size; omega
 clear u3 o3 x3 i3 B3 hdr
 have hg4 := hg.move B4
 obtain ⟨A1, c1, hcn, hcl, hC⟩ := hg4.needs
 have hnl := ok.nl
 have hxi := HI.out
 have p0 : 0 ≤ xi := by omega
 have q0 : xi < (G.needs.length : Int) := by omega
 obtain ⟨ad, e0, hxn⟩ := Kd.at_int hC xi p0 q0
 subst e0
 rw [rd_up (i := i) hxi] at hxn
 have h256 := pow8 ok.n8
 have hsi := getD_lt ok.nb i
 have hs_ : uselessD G i = (elemsN (G.needs.getD i 0)).foldl (ustep G i) 0 := rfl
 have hlt8 : ∀ {x : Int}, x ∈ elems (G.needs.getD i 0) → x < G.tasks.length := fun hx => by have := elems_lt hsi hx; omega
 generalize hsn : G.needs.getD i 0 = s at hxn hsi hs_ hlt8
 have HS := Aside0.mk hsn
 have HU := Aside0.mk hs_
 clear hsn hs_ hxi hnl hC hcl
 have hcx := x4.cell
 have hci := i4.cell
 replace p0 := eq_true p0
 replace q0 := eq_true q0
 simp only [List.take_succ_cons, List.take_zero, List.drop_succ_cons, List.drop_zero]
 repeat still_step
 refine wpStill_nil ?_
 go_wp2_with (go_at_call 79; refine (all_calls s _).mono ?_; rintro e w' ⟨rfl, rfl⟩)
 clear hcx hci hcn hxn p0 q0 hg4
 have s5 := Boxed.new w4 67 (.int .u16 (s : Int))
 have x5 := x4.alloc (.cells #[.int .u16 (s : Int)] 67)
 have i5 := i4.alloc (.cells #[.int .u16 (s : Int)] 67)
 have u5 := u4.alloc (.cells #[.int .u16 (s : Int)] 67)
 have B5 := B4.alloc B4.size (.cells #[.int .u16 (s : Int)] 67)
 have o5 : (w4.alloc (.cells #[.int .u16 (s : Int)] 67)).heap.size = w4.heap.size + 1 := by simp
 revert s5 x5 i5 u5 B5 o5
 generalize w4.alloc (.cells #[.int .u16 (s : Int)] 67) = w5
 intro s5 x5 i5 u5 B5 o5
 clear x4 i4 u4 B4
 have hle : w.heap.size ≤ w5.heap.size := B5.size
 refine wp_rangeSet Tab.tame (w := w5) (w0 := w5) (p := 15) (d := 6) rfl (enters_of Tryd.func111 (by kernel_rfl) rfl)
  (all_seq w4.heap.size s (Nat.lt_of_lt_of_le hsi h256) w5 (hT.of B5) s5.cell) (Below.refl _ _) (by simp)
  (fun ys W' => ∃ zs : List Nat, ys = up zs ∧ Boxed W' (w.heap.size + 1 + 1) 67 (.int .u16 ((zs.foldl (ustep G i) 0 : Nat) : Int)) ∧ Boxed W' w.heap.size 63 (.pointer (some ⟨b, 0, none⟩)) ∧ Boxed W' (w.heap.size + 1) 3 (.int .i64 xi) ∧ Below w.heap.size w W' ∧ w5.heap.size ≤ W'.heap.size) (fun _ _ _ => False)
  (ownFrom_tame (fun ys W' W'' ht ⟨zs, a, b, c, d, e, f⟩ => ⟨zs, a, ht.boxed b, ht.boxed c, ht.boxed d, ht.below e (Nat.le_refl _) hle, Nat.le_trans f ht.size⟩)) (fun _ => ownFrom_tame (fun _ _ _ _ h => h))
  ⟨[], rfl, u5, x5, i5, B5, Nat.le_refl _⟩ (fun ys W' ⟨_, _, _, _, _, b, _⟩ => hT.of b) ?body ?done (fun _ _ _ _ _ h _ => h.elim)
 case body =>
  rintro l pre1 x W1 hx ⟨zs, rfl, hu, hxb, hib, hB, hsz⟩ hlt1
  gi_wp2
  obtain ⟨k0, hxk, hk8, _⟩ := mem_elems.1 hx
  have hkn : k0 < G.tasks.length := by have := hlt8 hx; omega
  have hofold := ufold_lt ok i zs 0 (Nat.two_pow_pos _)
  have hstep : (zs ++ [k0]).foldl (ustep G i) 0 = zs.foldl (ustep G i) 0 ||| (s &&& G.below.getD k0 0) := by rw [List.foldl_append, ← HS.out]; rfl
  refine wpIn_still_tail 17 rfl (by kernel_rfl) (by kernel_rfl) (fun ⟨_, _, h⟩ => h) ?_
  change wpStill _ _ W1.drew (fun a' => wpList _ _ _ _ a' W1.drew) _ _
  have hdr : Below W1.heap.size W1 W1.drew := below_drew (Below.refl _ _)
  have hko := KeepsOthers.drew W1
  revert hdr hko
  generalize W1.drew = Wd
  intro hdr hko
  have hu4 : Boxed Wd (w.heap.size + 1 + 1) 67 (.int .u16 ((zs.foldl (ustep G i) 0 : Nat) : Int)) := (hdr.block _ hu.lt).trans hu
  have hxb4 : Boxed Wd w.heap.size 63 (.pointer (some ⟨b, 0, none⟩)) := (hdr.block _ hxb.lt).trans hxb
  have hib4 : Boxed Wd (w.heap.size + 1) 3 (.int .i64 xi) := (hdr.block _ hib.lt).trans hib
  have hBd := below_step hB hdr
  have hgd := hg.move hBd
  obtain ⟨An, cn, hcn, _, hCn⟩ := hgd.needs
  obtain ⟨Ab, cb, hcb, _, hCb⟩ := hgd.below
  have hnl := ok.nl
  have hbl := ok.bl
  have hxi := HI.out
  have p1 : 0 ≤ xi := by omega
  have q1 : xi < (G.needs.length : Int) := by omega
  have p2 : 0 ≤ x := by omega
  have q2 : x < (G.below.length : Int) := by omega
  obtain ⟨adn, e1, hxn⟩ := Kd.at_int hCn xi p1 q1
  obtain ⟨adb, e2, hxbl⟩ := Kd.at_int hCb x p2 q2
  subst e1
  subst e2
  rw [rd_up (i := i) hxi, HS.out] at hxn
  rw [rd_up (i := k0) hxk] at hxbl
  have hbk := getD_lt ok.bb k0
  generalize G.below.getD k0 0 = sb at hxbl hbk hstep
  have hand := and_eq (a := s) (b := sb) (Nat.lt_of_lt_of_le hsi h256) (Nat.lt_of_lt_of_le hbk h256)
  have handlt : s &&& sb < 2 ^ G.tasks.length := Nat.lt_of_le_of_lt Nat.and_le_left hsi
  generalize hr2_ : s &&& sb = r2 at hand handlt hstep
  generalize hso : zs.foldl (ustep G i) 0 = so at hu4 hofold hstep
  have hor := or_eq (a := so) (b := r2) (Nat.lt_of_lt_of_le hofold h256) (Nat.lt_of_lt_of_le handlt h256)
  generalize so ||| r2 = r3 at hor hstep
  replace p1 := eq_true p1
  replace q1 := eq_true q1
  replace p2 := eq_true p2
  replace q2 := eq_true q2
  have hcu := hu4.cell
  have hfu := hu4.frozen
  have hcx := hxb4.cell
  have hci := hib4.cell
  have HX := Aside0.mk hxk
  have HST := Aside0.mk hstep
  clear hxk hx hnl hbl hxi hr2_ hso hstep hgd hCn hCb hlt1
  simp only [List.take_succ_cons, List.take_zero, List.drop_succ_cons, List.drop_zero]
  repeat still_step
  refine wpStill_nil ?_
  go_wp2
  have hgr := grownBy_setCell' Wd (w.heap.size + 1 + 1) (.int .u16 (r3 : Int))
  refine ⟨(hko.trans (KeepsOthers.setCell _ _ _)).from _, zs ++ [k0], ?_, ?_, ?_, ?_, ?_, ?_⟩
  ·rw [HX.out]; simp [up]
  ·rw [HST.out]; exact hu4.set _
  ·exact hxb4.kept hgr (fun e => by injection e with e; omega)
  ·exact hib4.kept hgr (fun e => by injection e with e; omega)
  ·exact below_put hgr hBd (Nat.le_refl _) (by omega)
  ·have h1 := hgr.size; have h3 := hdr.size; omega
 case done =>
  rintro D W2 hD ⟨zs, hzs, hu, hxb, hib, hB, hsz⟩ hk
  obtain rfl : elemsN s = zs := up_inj hzs
  have hm := (Marks.nil w.heap.size w5.heap.size W2).cons hD (by omega) hk
  rw [← HU.out] at hu
  have hcu := hu.cell
  clear hzs hk
  go_wp2
  refine leave_ret hm (fun W => results_tmp rfl _ _ _) ?_
  intro W' ht
  exact ⟨rfl, ht.below hB (Nat.le_refl _) (Nat.le_refl _)⟩
end Go.Proofs.YtpibdjkajgfgjaaDoor.Core
end
section
set_option linter.unusedVariables false
set_option linter.unusedSimpArgs false
namespace Go.Proofs.YtpibdjkajgfgjaaDoor.Core
open Go Go.RowKit Go.Shelf Go.Proofs.YtpibdjkajgfgjaaDoorW.PrintWords Go.Proofs.YtpibdjkajgfgjaaDoorW.PrintLast Go.Proofs.YtpibdjkajgfgjaaDoorW.PrintMore Go.Proofs.YtpibdjkajgfgjaaDoor.P
attribute [local go_sem] Oper.semAt_some wide_fn wide_depth max2_int max_two
def icells (L : List Nat) : Array Value := (L.map fun (x : Nat) => Value.int .i64 (x : Int)).toArray
theorem icell {W : World} {p t : Nat} {L : List Nat} (h : W.heap[p]? = some (.cells (icells L) t (0, 0))) (i : Nat) (hi : i < L.length) : W.cell? ⟨p, i, none⟩ = some (.int .i64 ((L.getD i 0 : Nat) : Int)) := by
 simp [World.cell?, h, icells, hi]
theorem ifrozen {W : World} {p t : Nat} {L : List Nat} (h : W.heap[p]? = some (.cells (icells L) t (0, 0))) (i : Nat) : W.frozen? ⟨p, i, none⟩ = false := by
 simp [World.frozen?, h]
theorem iset {W : World} {p t : Nat} {L : List Nat} (h : W.heap[p]? = some (.cells (icells L) t (0, 0))) (i x : Nat) : (W.setCell ⟨p, i, none⟩ (.int .i64 (x : Int))).heap[p]? = some (.cells (icells (L.set i x)) t (0, 0)) := by
 rw [blk_set h i _]
 congr 2
 apply Array.ext'
 simp [icells, List.map_set]
/-- What the loops hold: the row, its variable; the rest as it was. -/
structure SI (w0 : World) (p pO n : Nat) (W : World) (L : List Nat) : Prop where
 row : W.heap[p]? = some (.cells (icells L) 3 (0, 0))
 box : Boxed W pO 23 (.slice (some ⟨p, 0, none⟩) n n)
 below : Below w0.heap.size w0 W
theorem SI.tame {w0 W W' : World} {p pO n B : Nat} {L : List Nat} (h : SI w0 p pO n W L) (hb : w0.heap.size ≤ B) (ht : Tame B W W') : SI w0 p pO n W' L := ⟨ht.cells h.row, ht.boxed h.box, ht.below h.below (Nat.le_refl _) hb⟩
theorem SI.move {w0 W W' : World} {p pO n : Nat} {L : List Nat} (h : SI w0 p pO n W L) (hb : Below W.heap.size W W') : SI w0 p pO n W' L := ⟨(hb.block _ (cells_lt h.row)).trans h.row, (hb.block _ h.box.lt).trans h.box, below_step h.below hb⟩
theorem SI.alloc {w0 W : World} {p pO n : Nat} {L : List Nat} (h : SI w0 p pO n W L) (o : Obj) : SI w0 p pO n (W.alloc o) L := h.move ((Below.refl W.heap.size W).alloc (Nat.le_refl _) o)
theorem SI.set {w0 W : World} {p pO n : Nat} {L : List Nat} (h : SI w0 p pO n W L) (hp : w0.heap.size ≤ p) (hne : pO ≠ p) (i x : Nat) : SI w0 p pO n (W.setCell ⟨p, i, none⟩ (.int .i64 (x : Int))) (L.set i x) := ⟨iset h.row i x, (sother _ hne).trans h.box, h.below.setCell (p := ⟨p, i, none⟩) hp _⟩
theorem infoI : (Tryd.prog.info? 3).map (fun i => (i.zero, i.size, i.bytes)) = some (some (.int .i64 0), 1, 8) := by kernel_rfl
theorem run_make_ints (n : Nat) (hn : n ≤ 8) (W : World) : (Instr.makeSlice 23 (.int .i64 (n : Int)) (.int .i64 (n : Int))).run Tryd.prog W = .ok (.slice (some ⟨W.heap.size, 0, none⟩) n n) (W.alloc (.cells (icells (List.replicate n 0)) 3)) := by
 obtain ⟨i0, hi, hz0, hz1, hz2⟩ := info_parts infoI
 have hr := run_make (P := Tryd.prog) W 23 3 i0 (.int .i64 0) Tryd.underlying23 hi hz0 .i64 .i64 (n : Int) (n : Int) (by omega) (by omega) (by rw [hz2]; omega) (by omega)
 rw [hz1] at hr
 simp only [Int.toNat_natCast, Nat.mul_one] at hr
 rw [hr]
 rw [show madeCells (Value.cells (.int .i64 0)) n = icells (List.replicate n 0) from (madeCells1 _ n).trans (by simp [icells])]
end Go.Proofs.YtpibdjkajgfgjaaDoor.Core
end
section
set_option linter.unusedVariables false
set_option linter.unusedSimpArgs false
namespace Go.Proofs.YtpibdjkajgfgjaaDoor.Core
open Go Go.RowKit Go.Shelf Go.Proofs.YtpibdjkajgfgjaaDoorW.PrintWords Go.Proofs.YtpibdjkajgfgjaaDoorW.PrintLast Go.Proofs.YtpibdjkajgfgjaaDoorW.PrintMore Go.Proofs.YtpibdjkajgfgjaaDoor.P
attribute [local go_sem] Oper.semAt_some wide_fn wide_depth max2_int max_two
def sframe (f : Nat → Value) (v0 v3 v13 v14 v15 : Value) : Array Value := #[v0, f 1, f 2, v3, f 4, f 5, f 6, f 7, f 8, f 9, f 10, f 11, f 12, v13, v14, v15, f 16, f 17, f 18, f 19, f 20, f 21, f 22, f 23, f 24, f 25, f 26, f 27, f 28, f 29, f 30, f 31, f 32, f 33, f 34, f 35, f 36, f 37, f 38, f 39, f 40, f 41, f 42]
theorem sframe_lit {T : Array Value} {v0 v3 v13 v14 v15 : Value} (hs : T.size = 43) (h0 : T[0]? = some v0) (h3 : T[3]? = some v3) (h13 : T[13]? = some v13) (h14 : T[14]? = some v14) (h15 : T[15]? = some v15) : ∃ f, T = sframe f v0 v3 v13 v14 v15 := by
 refine ⟨fun j => T.getD j undef, ?_⟩
 have hT0 : T = ((List.range 43).map fun j => T.getD j undef).toArray := by
  apply Array.ext
  ·simp [hs]
  ·intro i h1 h2
   simp [Array.getD_eq_getD_getElem?, h1]
 have e (j : Nat) (v : Value) (h : T[j]? = some v) : v = T.getD j undef := by rw [Array.getD_eq_getD_getElem?, h]; rfl
 obtain rfl := e _ _ h0
 obtain rfl := e _ _ h3
 obtain rfl := e _ _ h13
 obtain rfl := e _ _ h14
 obtain rfl := e _ _ h15
 exact hT0
/-- One more need. -/
def sStep (i : Nat) (L : List Nat) (k : Nat) : List Nat := L.set i (max (L.getD i 0) (L.getD k 0 + 1))
def stTo (N : List Nat) (n : Nat) (O : List Nat) : List Nat := O.foldl (fun L i => (elemsN (N.getD i 0)).foldl (sStep i) L) (List.replicate n 0)
theorem stTo_snoc (N : List Nat) (n : Nat) (O : List Nat) (i : Nat) : stTo N n (O ++ [i]) = (elemsN (N.getD i 0)).foldl (sStep i) (stTo N n O) := by unfold stTo; rw [List.foldl_append]; rfl
def stagesN (G : GD) : List Nat := stTo G.needs G.tasks.length G.order
theorem sfold_length (i : Nat) : ∀ (ks : List Nat) (L : List Nat), (ks.foldl (sStep i) L).length = L.length
 | [], _ => rfl
 | k :: ks, L => by rw [List.foldl_cons, sfold_length i ks]; simp [sStep]
theorem stTo_length (N : List Nat) (n : Nat) (O : List Nat) : (stTo N n O).length = n := by
 have : ∀ (O : List Nat) (L : List Nat), L.length = n → (O.foldl (fun L i => (elemsN (N.getD i 0)).foldl (sStep i) L) L).length = n := by
  intro O
  induction O with
  | nil => intro L h; exact h
  | cons i O ih => intro L h; exact ih _ (by rw [sfold_length]; exact h)
 exact this O _ (by simp)
def le1 (b : Nat) (L : List Nat) : Prop := ∀ i, L.getD i 0 ≤ b
theorem sStep_le {b i : Nat} {L : List Nat} (h : le1 b L) (k : Nat) : le1 (b + 1) (sStep i L k) := by
 intro j
 unfold sStep
 by_cases e : i = j
 ·subst e
  by_cases hl : i < L.length
  ·rw [List.getD_eq_getElem?_getD, List.getElem?_set_self hl, Option.getD_some]
   have := h i; have := h k
   omega
  ·rw [List.set_eq_of_length_le (by omega)]
   exact Nat.le_succ_of_le (h i)
 ·rw [List.getD_eq_getElem?_getD, List.getElem?_set_ne e, ← List.getD_eq_getElem?_getD]
  exact Nat.le_succ_of_le (h j)
theorem sfold_le {i : Nat} : ∀ (ks : List Nat) (b : Nat) (L : List Nat), le1 b L → le1 (b + ks.length) (ks.foldl (sStep i) L)
 | [], _, _, h => h
 | k :: ks, b, L, h => by
  have := sfold_le (i := i) ks (b + 1) _ (sStep_le (i := i) h k)
  rw [List.foldl_cons, List.length_cons, show b + (ks.length + 1) = b + 1 + ks.length by omega]
  exact this
theorem le1_mono {a b : Nat} {L : List Nat} (h : le1 a L) (hab : a ≤ b) : le1 b L := fun i => Nat.le_trans (h i) hab
theorem stTo_le (N : List Nat) (n : Nat) (O : List Nat) : le1 (O.length * 8) (stTo N n O) := by
 have : ∀ (O : List Nat) (b : Nat) (L : List Nat), le1 b L → le1 (b + O.length * 8) (O.foldl (fun L i => (elemsN (N.getD i 0)).foldl (sStep i) L) L) := by
  intro O
  induction O with
  | nil => intro b L h; simpa using h
  | cons i O ih =>
   intro b L h
   have h1 := le1_mono (sfold_le (i := i) (elemsN (N.getD i 0)) b L h) (show b + (elemsN (N.getD i 0)).length ≤ b + 8 by have := elemsN_length (N.getD i 0); omega)
   have := ih (b + 8) _ h1
   rw [List.length_cons, show b + (O.length + 1) * 8 = b + 8 + O.length * 8 by omega]
   exact this
 have := this O 0 (List.replicate n 0) (fun i => by rw [List.getD_eq_getElem?_getD, List.getElem?_replicate]; split <;> simp)
 simpa [stTo] using this
set_option maxRecDepth 100000 in
set_option maxHeartbeats 8000000 in
theorem stages_calls (b : Nat) (G : GD) (w : World) (hT : Tab w) (hg : IsG w b G) (ok : GOk G) :
  Calls Tryd.prog 87 #[.pointer (some ⟨b, 0, none⟩)] w fun e w' => ∃ v, e = .returned v ∧ (Kd.int .i64).R 3 w' w.heap.size (fun _ => True) v (up (stagesN G)) ∧ Below w.heap.size w w' := by
 have h8 := ok.n8
 have hsz := (size_calls b G w hg).mono (R' := fun e w' => e = .returned (.int .i64 (G.tasks.length : Int)) ∧ w' = w) (fun _ _ h => ⟨h.1, h.2.symm⟩)
 have hmk := run_make_ints G.tasks.length h8
 have HS := Aside0.mk (show SI w w.heap.size (w.heap.size + 1) G.tasks.length ((w.alloc (.cells (icells (List.replicate G.tasks.length 0)) 3)).alloc (.cells #[.slice (some ⟨w.heap.size, 0, none⟩) G.tasks.length G.tasks.length] 23)) (stTo G.needs G.tasks.length []) from
  ⟨cells_alloc (cells_new w _) _, by have h := Boxed.new (w.alloc (.cells (icells (List.replicate G.tasks.length 0)) 3)) 23 (.slice (some ⟨w.heap.size, 0, none⟩) G.tasks.length G.tasks.length); simpa using h, ((Below.refl w.heap.size w).alloc (Nat.le_refl _) _).alloc (by simp) _⟩)
 obtain ⟨Ao, co, hco0, _, hCo⟩ := hg.order
 have hco := (HS.out.below.cell (World.block_lt_of_cell? _ _ hco0)).trans hco0
 have HCo := Aside0.mk hCo
 have Hg := Aside0.mk hg
 have HT := Aside0.mk hT
 have OK := Aside0.mk ok
 clear hCo hco0 hg hT ok
 have HSZ : Aside0 (w.heap.size ≤ w.heap.size) := ⟨Nat.le_refl _⟩
 refine calls_marks Tryd.func87 rfl ?_
 simp only [Tryd.ntmps87, List.size_toArray, List.length_cons, List.length_nil, Nat.reduceAdd, Nat.reduceSub, Array.replicate_succ, Array.replicate_zero, List.push_toArray, List.append_toArray, List.nil_append, List.cons_append]
 go_wp2_with (go_at_call 62; refine hsz.mono ?_; rintro e w' ⟨rfl, hw⟩; rw [hw]; clear hw w')
 clear hco hsz hmk
 revert HS
 generalize (w.alloc (.cells (icells (List.replicate G.tasks.length 0)) 3)).alloc (.cells #[.slice (some ⟨w.heap.size, 0, none⟩) G.tasks.length G.tasks.length] 23) = w2
 intro HS
 generalize hpO : w.heap.size + 1 = pO at HS ⊢
 have HN := Aside0.mk (show w.heap.size ≠ pO from by omega)
 have HP := Aside0.mk (show w.heap.size ≤ pO from by omega)
 clear hpO
 refine wp_loop_ghost_k (fun n a W => ∃ pre suf, G.order = pre ++ suf ∧ n = suf.length ∧ a.tmps.size = 43 ∧ a.tmps[0]? = some (.pointer (some ⟨b, 0, none⟩)) ∧ a.tmps[3]? = some (.pointer (some ⟨pO, 0, none⟩)) ∧ a.tmps[13]? = some (.slice Ao G.order.length co) ∧ a.tmps[14]? = some (.int .i64 (G.order.length : Int)) ∧ a.tmps[15]? = some (.int .i64 (pre.length : Int)) ∧ (∃ hi, Marks w.heap.size hi W a.defers ∧ w.heap.size ≤ hi ∧ hi ≤ W.heap.size) ∧ SI w w.heap.size pO G.tasks.length W (stTo G.needs G.tasks.length pre)) G.order.length ⟨[], G.order, rfl, rfl, rfl, rfl, rfl, rfl, rfl, rfl, ⟨_, Marks.nil _ w2.heap.size _, HS.out.below.size, Nat.le_refl _⟩, HS.out⟩ ?_
 rintro n ⟨tmps, ds⟩ W ⟨pre, suf, hO_, rfl, hsz, h0, h3, h13, h14, h15, ⟨hi, hM, hlo, hhi⟩, hG⟩ J K hJ hK
 generalize hj : (pre.length : Int) = j at h15
 obtain ⟨f, rfl⟩ := sframe_lit hsz h0 h3 h13 h14 h15
 clear hsz h0 h3 h13 h14 h15 HS
 unfold sframe
 have hO' := Lib.hid hO_
 clear hO_
 have HM := Aside0.mk hM
 have HG := Aside0.mk hG
 clear hM hG
 cases suf with
 | nil =>
  have hlt : decide (j < (G.order.length : Int)) = false := by
   rw [← hj, hO'.out]; simp
  have hcb := HG.out.box.cell
  go_wp2
  refine leave_ret HM.out (fun W => results_tmp rfl _ _ _) ?_
  intro W' ht
  have hpre : pre = G.order := by rw [hO'.out]; simp
  have hG := HG.out.tame (Nat.le_refl _) ht
  have hl := stTo_length G.needs G.tasks.length pre
  refine ⟨_, rfl, ?_, hG.below⟩
  have hrow := hG.row
  rw [hpre] at hrow hl
  have hl' : (up (stagesN G)).length = G.tasks.length := by rw [up_length]; exact hl
  exact row_R (k := .i64) (xs := up (stagesN G)) ⟨by simp [encs], .inr ⟨w.heap.size, G.tasks.length, icells (stagesN G), by rw [hl']; rfl, Nat.le_refl _, hrow, by rw [hl']; exact Nat.le_refl _, by unfold maxLen; omega, by simp [icells]; exact hl, by rw [hl']; simp [icells, encs, up]; exact List.take_of_length_le (by rw [List.length_map]; exact Nat.le_of_eq hl)⟩⟩
 | cons i suf =>
  have hlt : decide (j < (G.order.length : Int)) = true := by
   rw [← hj, hO'.out]; simp; omega
  have q0 : j < (G.order.length : Int) := of_decide_eq_true hlt
  have p0 : 0 ≤ j := by omega
  obtain ⟨ad, e0, hx0⟩ := Kd.at_int (Kd.C_below HCo.out HG.out.below) j p0 q0
  subst e0
  rw [rd_up (i := pre.length) hj.symm] at hx0
  have hi0 : G.order.getD pre.length 0 = i := by rw [hO'.out]; simp
  rw [hi0] at hx0
  have hil : i < G.tasks.length := OK.out.ob i (by rw [hO'.out]; simp)
  generalize hxi : ((i : Nat) : Int) = xi at hx0
  replace p0 := eq_true p0
  replace q0 := eq_true q0
  go_wp2
  have hbi := Boxed.new W 3 (.int .i64 xi)
  have hG1 := HG.out.alloc (.cells #[.int .i64 xi] 3)
  have hM1 := HM.out.below ((Below.refl W.heap.size W).alloc (Nat.le_refl _) (.cells #[.int .i64 xi] 3))
  have hsz1 : (W.alloc (.cells #[.int .i64 xi] 3)).heap.size = W.heap.size + 1 := by simp
  clear hx0
  revert hbi hG1 hM1 hsz1
  generalize W.alloc (.cells #[.int .i64 xi] 3) = Wa
  intro hbi hG1 hM1 hsz1
  refine wp_region_still_tail 7 rfl (by kernel_rfl) ?_
  change wpStill _ _ Wa.drew (fun a' => wpList _ _ _ _ a' Wa.drew) _ _
  have hdr : Below Wa.heap.size Wa Wa.drew := below_drew (Below.refl _ _)
  revert hdr
  generalize Wa.drew = Wx
  intro hdr
  have hbi2 : Boxed Wx W.heap.size 3 (.int .i64 xi) := (hdr.block _ hbi.lt).trans hbi
  have hG2 := hG1.move hdr
  have hM2 := hM1.below hdr
  have hsz2 : W.heap.size + 1 ≤ Wx.heap.size := by have := hdr.size; omega
  clear hbi hG1 hM1 hsz1 hdr
  obtain ⟨An, cn, hcn, _, hCn⟩ := (Hg.out.move hG2.below).needs
  have hnl := OK.out.nl
  have p1 : 0 ≤ xi := by omega
  have q1 : xi < (G.needs.length : Int) := by omega
  obtain ⟨adn, e1, hxn⟩ := Kd.at_int hCn xi p1 q1
  subst e1
  rw [rd_up (i := i) hxi.symm] at hxn
  have hNi : G.needs.getD i 0 < 2 ^ G.tasks.length := getD_lt OK.out.nb i
  have hst := stTo_snoc G.needs G.tasks.length pre i
  generalize hs_ : G.needs.getD i 0 = s at hxn hNi hst
  have hci := hbi2.cell
  replace p1 := eq_true p1
  replace q1 := eq_true q1
  have HX := Aside0.mk hxi
  have HST := Aside0.mk hst
  have HJ := Aside0.mk hj
  clear hnl hCn hs_ hxi hst hj
  simp only [List.take_succ_cons, List.take_zero, List.drop_succ_cons, List.drop_zero]
  repeat still_step
  refine wpStill_nil ?_
  go_wp2_with (go_at_call 79; refine (all_calls s _).mono ?_; rintro e w' ⟨rfl, rfl⟩)
  clear hcn hxn hci p1 q1
  have hs3 := Boxed.new Wx 67 (.int .u16 (s : Int))
  have hbi3 := hbi2.alloc (.cells #[.int .u16 (s : Int)] 67)
  have hG3 := hG2.alloc (.cells #[.int .u16 (s : Int)] 67)
  have hM3 := hM2.below ((Below.refl Wx.heap.size Wx).alloc (Nat.le_refl _) (.cells #[.int .u16 (s : Int)] 67))
  have hsz3 : (Wx.alloc (.cells #[.int .u16 (s : Int)] 67)).heap.size = Wx.heap.size + 1 := by simp
  revert hs3 hbi3 hG3 hM3 hsz3
  generalize Wx.alloc (.cells #[.int .u16 (s : Int)] 67) = Wb
  intro hs3 hbi3 hG3 hM3 hsz3
  have h256 := pow8 h8
  have hb1 : w.heap.size ≤ Wb.heap.size := hG3.below.size
  have hb2 : hi ≤ Wb.heap.size := by omega
  refine wp_rangeSet Tab.tame (w := Wb) (w0 := Wb) (p := 27) (d := 6) rfl (enters_of Tryd.func111 (by kernel_rfl) rfl)
   (all_seq Wx.heap.size s (Nat.lt_of_lt_of_le hNi h256) Wb (HT.out.of hG3.below) hs3.cell) (Below.refl _ _) (by simp)
   (fun ys W' => ∃ zs : List Nat, (∀ z ∈ zs, z < G.tasks.length) ∧ ys = up zs ∧ SI w w.heap.size pO G.tasks.length W' (zs.foldl (sStep i) (stTo G.needs G.tasks.length pre)) ∧ Boxed W' W.heap.size 3 (.int .i64 xi) ∧ Marks w.heap.size hi W' ds ∧ Wb.heap.size ≤ W'.heap.size) (fun _ _ _ => False)
   (ownFrom_tame (fun ys W' W'' ht ⟨zs, z, a, b, c, d, e⟩ => ⟨zs, z, a, b.tame hb1 ht, ht.boxed c, d.tame ht hb2, Nat.le_trans e ht.size⟩)) (fun _ => ownFrom_tame (fun _ _ _ _ h => h))
   ⟨[], by simp, rfl, hG3, hbi3, hM3, Nat.le_refl _⟩ (fun ys W' ⟨_, _, _, b, _⟩ => HT.out.of b.below) ?body1 ?done1 (fun _ _ _ _ _ h _ => h.elim)
  case body1 =>
   rintro l pre1 x W1 hx ⟨zs, hzl, rfl, hG4, hbi4, hM4, hsz4⟩ hlt1
   gi_wp2
   obtain ⟨k0, hxk, hk0, _⟩ := mem_elems.1 hx
   have hkn : k0 < G.tasks.length := by have := elems_lt hNi hx; omega
   have hL1 : (zs.foldl (sStep i) (stTo G.needs G.tasks.length pre)).length = G.tasks.length := by rw [sfold_length, stTo_length]
   have hpl : pre.length ≤ 8 := by have h1 := OK.out.ol; rw [hO'.out] at h1; simp at h1; omega
   have hle := sfold_le (i := i) zs _ _ (stTo_le G.needs G.tasks.length pre)
   have hzl16 : zs.length < 16 := by rwa [up_length] at hlt1
   have hli := hle i
   have hlk := hle k0
   have hstep : (zs ++ [k0]).foldl (sStep i) (stTo G.needs G.tasks.length pre) = (zs.foldl (sStep i) (stTo G.needs G.tasks.length pre)).set i (max ((zs.foldl (sStep i) (stTo G.needs G.tasks.length pre)).getD i 0) ((zs.foldl (sStep i) (stTo G.needs G.tasks.length pre)).getD k0 0 + 1)) := by rw [List.foldl_append]; rfl
   refine wpIn_still_tail 13 rfl (by kernel_rfl) (by kernel_rfl) (fun ⟨_, _, h⟩ => h) ?_
   change wpStill _ _ W1.drew (fun a' => wpList _ _ _ _ a' W1.drew) _ _
   have hdr : Below W1.heap.size W1 W1.drew := below_drew (Below.refl _ _)
   have hko := KeepsOthers.drew W1
   revert hdr hko
   generalize W1.drew = Wd
   intro hdr hko
   have hG5 := hG4.move hdr
   have hbi5 : Boxed Wd W.heap.size 3 (.int .i64 xi) := (hdr.block _ hbi4.lt).trans hbi4
   have hM5 := hM4.below hdr
   obtain ⟨ad5, had5⟩ : ∃ ad5 : Addr, ad5 = ⟨w.heap.size, 0, none⟩ := ⟨_, rfl⟩
   have hc10 : Wd.cell? ⟨pO, 0, none⟩ = some (.slice (some ad5) G.tasks.length G.tasks.length) := by rw [had5]; exact hG5.box.cell
   have hci := hbi5.cell
   have hLi := icell hG5.row i (by omega)
   have hLk := icell hG5.row k0 (by omega)
   have hfi := ifrozen hG5.row i
   have hxi := HX.out
   have hit : xi.toNat = i := by omega
   have hkt : x.toNat = k0 := by omega
   generalize (zs.foldl (sStep i) (stTo G.needs G.tasks.length pre)).getD i 0 = si at hLi hli hstep
   generalize (zs.foldl (sStep i) (stTo G.needs G.tasks.length pre)).getD k0 0 = sk at hLk hlk hstep
   have hmx : (if (si : Int) < IntKind.i64.wrap ((sk : Int) + 1) then IntKind.i64.wrap ((sk : Int) + 1) else (si : Int)) = ((max si (sk + 1) : Nat) : Int) := by
    rw [i64_w, w64 (n := (sk : Int) + 1) (by omega) (by omega)]
    split <;> omega
   generalize hsI : ((si : Nat) : Int) = sI at hLi hmx
   generalize hsK : ((sk : Nat) : Int) = sK at hLk hmx
   rw [← add_own, ← had5, ← hit] at hLi hfi
   rw [← add_own, ← had5, ← hkt] at hLk
   have p2 : (0 ≤ x) = True := eq_true (by omega)
   have q2 : (x < (G.tasks.length : Int)) = True := eq_true (by omega)
   have p3 : (0 ≤ xi) = True := eq_true (by omega)
   have q3 : (xi < (G.tasks.length : Int)) = True := eq_true (by omega)
   have HH := Aside0.mk (show x = (k0 : Int) ∧ xi.toNat = i ∧ ad5 = ⟨w.heap.size, 0, none⟩ from ⟨hxk, hit, had5⟩)
   have HSTEP := Aside0.mk hstep
   have HMX := Aside0.mk hmx
   clear hxk hit hkt had5 hsI hsK hxi hx hstep hmx hle hli hlk hlt1 hpl hzl16 hlt
   simp only [List.take_succ_cons, List.take_zero, List.drop_succ_cons, List.drop_zero]
   repeat still_step
   rw [HMX.out]
   refine wpStill_nil ?_
   go_wp2
   obtain ⟨hxk, hit, had5⟩ := HH.out
   rw [show ad5.add xi.toNat = ⟨w.heap.size, i, none⟩ by rw [had5, add_own, hit]]
   refine ⟨(hko.trans (KeepsOthers.setCell _ _ _)).from _, zs ++ [k0], ?_, ?_, ?_, ?_, ?_, ?_⟩
   ·intro z hz
    rcases List.mem_append.1 hz with hz | hz
    ·exact hzl z hz
    ·rw [List.mem_singleton.1 hz]; exact hkn
   ·rw [hxk]; simp [up]
   ·rw [HSTEP.out]; exact hG5.set (Nat.le_refl _) (Ne.symm HN.out) i _
   ·exact (sother _ (by have := cells_lt HG.out.row; omega)).trans hbi5
   ·exact hM5.grow (grownBy_setCell'' _ _ _ _) (fun k hk => ⟨_, _, by cases hk; exact hG5.row⟩)
   ·exact Nat.le_trans hsz4 (Nat.le_trans hdr.size (KeepsOthers.setCell _ _ _).size)
  case done1 =>
   rintro D W2 hD ⟨zs, hzl, hzs, hG4, hbi4, hM4, hsz4⟩ hk
   obtain rfl : elemsN s = zs := up_inj hzs
   have hM5 := hM4.cons (Nat.le_trans hb2 hD) hlo hk
   clear hzs hk hs3 hbi3 hG3 hM3
   go_wp2
   have hl8 : pre.length + suf.length + 1 ≤ 8 := by
    have h1 := OK.out.ol
    rw [hO'.out] at h1
    simp at h1
    omega
   have hj1 : wrap64 (j + 1) = ((pre ++ [i]).length : Int) := by
    have := HJ.out
    rw [w64 (n := j + 1) (by omega) (by omega), List.length_append]
    simp
    omega
   refine ⟨suf.length, by simp, hJ _ _ _ ⟨pre ++ [i], suf, by rw [hO'.out]; simp, rfl, rfl, rfl, rfl, rfl, rfl, by rw [← hj1]; rfl, ⟨_, hM5, hG4.below.size, Nat.le_refl _⟩, ?_⟩⟩
   rw [HST.out]
   exact hG4
end Go.Proofs.YtpibdjkajgfgjaaDoor.Core
end
section
set_option linter.unusedVariables false
set_option linter.unusedSimpArgs false
namespace Go.Proofs.YtpibdjkajgfgjaaDoor.Core
open Go Go.RowKit Go.Proofs.YtpibdjkajgfgjaaDoorW.PrintWords Go.Proofs.YtpibdjkajgfgjaaDoorW.PrintMore Go.Proofs.YtpibdjkajgfgjaaDoor.P
theorem VG.len {g : List Tk} {G : GD} (v : VG g G) : G.order.length = g.length := by
 have := v.ord.len
 rw [v.nl, zb_full _ _ (Nat.le_refl _)] at this
 omega
end Go.Proofs.YtpibdjkajgfgjaaDoor.Core
end
section
set_option linter.unusedVariables false
set_option linter.unusedSimpArgs false
namespace Go.Proofs.YtpibdjkajgfgjaaDoor.Core
open Go Go.RowKit Go.Proofs.YtpibdjkajgfgjaaDoorW.PrintWords Go.Proofs.YtpibdjkajgfgjaaDoorW.PrintMore Go.Proofs.YtpibdjkajgfgjaaDoor.P
theorem fold_s (i : Nat) : ∀ (ks : List Nat) (B : List Nat), i < B.length → (∀ m ∈ ks, m ≠ i) →
  (∀ j, j ≠ i → (ks.foldl (sStep i) B).getD j 0 = B.getD j 0) ∧ (∀ m ∈ ks, B.getD m 0 + 1 ≤ (ks.foldl (sStep i) B).getD i 0) ∧ B.getD i 0 ≤ (ks.foldl (sStep i) B).getD i 0 ∧ ((ks.foldl (sStep i) B).getD i 0 = B.getD i 0 ∨ ∃ m ∈ ks, (ks.foldl (sStep i) B).getD i 0 = B.getD m 0 + 1)
 | [], B, hi, hk => ⟨fun _ _ => rfl, (fun _ h => by cases h), Nat.le_refl _, .inl rfl⟩
 | m :: ks, B, hi, hk => by
  have hm : m ≠ i := hk m List.mem_cons_self
  have hk' : ∀ x ∈ ks, x ≠ i := fun x hx => hk x (List.mem_cons_of_mem _ hx)
  obtain ⟨h1, h2, h3, h4⟩ := fold_s i ks (sStep i B m) (by unfold sStep; rw [List.length_set]; exact hi) hk'
  have e1 : ∀ j, j ≠ i → (sStep i B m).getD j 0 = B.getD j 0 := by
   intro j hj
   unfold sStep
   rw [List.getD_eq_getElem?_getD, List.getElem?_set_ne (Ne.symm hj), ← List.getD_eq_getElem?_getD]
  have e2 : (sStep i B m).getD i 0 = max (B.getD i 0) (B.getD m 0 + 1) := by
   unfold sStep
   rw [List.getD_eq_getElem?_getD, List.getElem?_set_self hi]
   rfl
  rw [List.foldl_cons]
  rw [e2] at h3 h4
  refine ⟨fun j hj => (h1 j hj).trans (e1 j hj), fun x hx => ?_, by omega, ?_⟩
  ·rcases List.mem_cons.1 hx with rfl | hx
   ·omega
   ·have := h2 x hx
    rwa [e1 x (hk' x hx)] at this
  ·rcases h4 with h4 | ⟨x, hx, h4⟩
   ·by_cases hc : B.getD m 0 + 1 ≤ B.getD i 0
    ·exact .inl (by omega)
    ·exact .inr ⟨m, List.mem_cons_self, by omega⟩
   ·rw [e1 x (hk' x hx)] at h4
    exact .inr ⟨x, List.mem_cons_of_mem _ hx, h4⟩
def SInv (N : List Nat) (n : Nat) (pre : List Nat) (B : List Nat) : Prop :=
 B.length = n ∧ (∀ i, i ∉ pre → B.getD i 0 = 0) ∧ ∀ i ∈ pre, (∀ m, (N.getD i 0).testBit m = true → B.getD m 0 + 1 ≤ B.getD i 0) ∧ (B.getD i 0 = 0 ∨ ∃ m, (N.getD i 0).testBit m = true ∧ B.getD i 0 = B.getD m 0 + 1)
theorem sinv_step {N L : List Nat} {n : Nat} (hn : n ≤ 8) (hnd : L.Nodup) (hlt : ∀ i ∈ L, i < n) (hnx : ∀ pre i suf, L = pre ++ i :: suf → ∀ k, (N.getD i 0).testBit k = true → k ∈ pre) :
  ∀ (pre suf : List Nat), L = pre ++ suf → SInv N n pre (stTo N n pre) := by
 have key : ∀ (c : Nat) (pre suf : List Nat), pre.length = c → L = pre ++ suf → SInv N n pre (stTo N n pre) := by
  intro c
  induction c with
  | zero =>
   intro pre suf hl hL
   have : pre = [] := List.length_eq_zero_iff.1 hl
   subst this
   refine ⟨stTo_length _ _ _, fun i _ => ?_, fun i hi => by cases hi⟩
   show (List.replicate n 0).getD i 0 = 0
   rw [List.getD_eq_getElem?_getD, List.getElem?_replicate]
   split <;> rfl
  | succ c ih =>
   intro pre suf hl hL
   obtain ⟨pre0, i, rfl⟩ : ∃ t z, pre = t ++ [z] := by
    have hne : pre ≠ [] := by intro h; rw [h] at hl; simp at hl
    exact ⟨pre.dropLast, pre.getLast hne, (List.dropLast_concat_getLast hne).symm⟩
   have hL' : L = pre0 ++ i :: suf := by rw [hL]; simp
   obtain ⟨hlen, h0, hI⟩ := ih pre0 (i :: suf) (by simp at hl; omega) hL'
   have hni : i ∉ pre0 := by
    intro hm
    rw [hL', List.nodup_append] at hnd
    exact hnd.2.2 i hm i List.mem_cons_self rfl
   have hil : i < n := hlt i (by rw [hL']; simp)
   have hneed := hnx pre0 i suf hL'
   have hel : ∀ m, m ∈ elemsN (N.getD i 0) ↔ (N.getD i 0).testBit m = true := by
    intro m
    rw [mem_elemsN]
    refine ⟨fun h => h.2, fun h => ⟨?_, h⟩⟩
    have := hlt m (by rw [hL']; exact List.mem_append_left _ (hneed m h))
    omega
   have hmi : ∀ m, (N.getD i 0).testBit m = true → m ≠ i := fun m hm e => hni (e ▸ hneed m hm)
   obtain ⟨f1, f2, f3, f4⟩ := fold_s i (elemsN (N.getD i 0)) (stTo N n pre0) (by rw [hlen]; exact hil) (fun m hm => hmi m ((hel m).1 hm))
   rw [stTo_snoc]
   refine ⟨by rw [sfold_length, hlen], fun j hj => ?_, fun j hj => ?_⟩
   ·simp only [List.mem_append, List.mem_singleton, not_or] at hj
    exact (f1 j hj.2).trans (h0 j hj.1)
   ·rcases List.mem_append.1 hj with hj | hj
    ·have hji : j ≠ i := fun e => hni (e ▸ hj)
     have hjm : ∀ m, (N.getD j 0).testBit m = true → m ≠ i := by
      intro m hm e
      obtain ⟨a, b, hab⟩ := List.append_of_mem hj
      have := hnx a j (b ++ i :: suf) (by rw [hL', hab]; simp) m hm
      exact hni (by rw [← e, hab]; exact List.mem_append_left _ this)
     obtain ⟨g1, g2⟩ := hI j hj
     rw [f1 j hji]
     refine ⟨fun m hm => by rw [f1 m (hjm m hm)]; exact g1 m hm, g2.imp_right ?_⟩
     rintro ⟨m, hm, h⟩
     exact ⟨m, hm, by rw [f1 m (hjm m hm)]; exact h⟩
    ·rw [List.mem_singleton.1 hj]
     rw [h0 i hni] at f4
     refine ⟨fun m hm => by rw [f1 m (hmi m hm)]; exact f2 m ((hel m).2 hm), f4.imp_right ?_⟩
     rintro ⟨m, hm, h⟩
     exact ⟨m, (hel m).1 hm, by rw [f1 m (hmi m ((hel m).1 hm))]; exact h⟩
 exact fun pre suf h => key pre.length pre suf rfl h
theorem VG.stage {g : List Tk} {G : GD} (v : VG g G) {i : Nat} (hi : i < g.length) : (∀ m, (G.needs.getD i 0).testBit m = true → (stagesN G).getD m 0 + 1 ≤ (stagesN G).getD i 0) ∧ ((stagesN G).getD i 0 = 0 ∨ ∃ m, (G.needs.getD i 0).testBit m = true ∧ (stagesN G).getD i 0 = (stagesN G).getD m 0 + 1) := by
 have h := sinv_step (N := G.needs) (L := G.order) v.n8 v.ord.nodup (fun i hi => v.mem.1 hi) v.ord.needs G.order [] (by simp)
 unfold stagesN
 rw [v.tasks]
 exact h.2.2 i (v.mem.2 hi)
end Go.Proofs.YtpibdjkajgfgjaaDoor.Core
end
section
set_option linter.unusedVariables false
set_option linter.unusedSimpArgs false
namespace Go.Proofs.YtpibdjkajgfgjaaDoor.Core
open Go Go.RowKit Go.Proofs.YtpibdjkajgfgjaaDoorW.PrintWords Go.Proofs.YtpibdjkajgfgjaaDoorW.PrintMore Go.Proofs.YtpibdjkajgfgjaaDoor.P
/-- The time of a task. -/
def tmN (g : List Tk) (i : Nat) : Nat := (g.getD i z48).f0.toNat
/-- One need of a task: what lies behind it. -/
def tStep (i : Nat) (L : List Nat) (k : Nat) : List Nat := L.set k (max (L.getD k 0) (L.getD i 0))
def tOne (g : List Tk) (N : List Nat) (L : List Nat) (i : Nat) : List Nat := (elemsN (N.getD i 0)).foldl (tStep i) (L.set i (L.getD i 0 + tmN g i))
/-- The tails behind some tasks, the last ones of the order first. -/
def tTo (g : List Tk) (N : List Nat) (n : Nat) (O : List Nat) : List Nat := O.foldl (tOne g N) (List.replicate n 0)
def tailsN (G : GD) : List Nat := tTo G.tasks G.needs G.tasks.length G.order.reverse
/-- One need of a task: what lies ahead. -/
def hStep (g : List Tk) (i : Nat) (L : List Nat) (k : Nat) : List Nat := L.set i (max (L.getD i 0) (L.getD k 0 + tmN g k))
def hTo (g : List Tk) (N : List Nat) (n : Nat) (O : List Nat) : List Nat := O.foldl (fun L i => (elemsN (N.getD i 0)).foldl (hStep g i) L) (List.replicate n 0)
def headsN (G : GD) : List Nat := hTo G.tasks G.needs G.tasks.length G.order
theorem getD_set_ne {L : List Nat} {i j x : Nat} (h : j ≠ i) : (L.set i x).getD j 0 = L.getD j 0 := by
 rw [List.getD_eq_getElem?_getD, List.getElem?_set_ne (Ne.symm h), ← List.getD_eq_getElem?_getD]
theorem getD_set_self {L : List Nat} {i x : Nat} (h : i < L.length) : (L.set i x).getD i 0 = x := by
 rw [List.getD_eq_getElem?_getD, List.getElem?_set_self h]; rfl
theorem getD_repl (n i : Nat) : (List.replicate n 0).getD i 0 = 0 := by
 rw [List.getD_eq_getElem?_getD, List.getElem?_replicate]; split <;> rfl
theorem tStep_length (i : Nat) (L : List Nat) (k : Nat) : (tStep i L k).length = L.length := by simp [tStep]
theorem tfold_length (i : Nat) : ∀ (ks : List Nat) (L : List Nat), (ks.foldl (tStep i) L).length = L.length
 | [], _ => rfl
 | k :: ks, L => by rw [List.foldl_cons, tfold_length i ks, tStep_length]
theorem tOne_length (g : List Tk) (N L : List Nat) (i : Nat) : (tOne g N L i).length = L.length := by unfold tOne; rw [tfold_length, List.length_set]
theorem tTo_length (g : List Tk) (N : List Nat) (n : Nat) (O : List Nat) : (tTo g N n O).length = n := by
 have : ∀ (O : List Nat) (L : List Nat), L.length = n → (O.foldl (tOne g N) L).length = n := by
  intro O
  induction O with
  | nil => intro L h; exact h
  | cons i O ih => intro L h; exact ih _ (by rw [tOne_length]; exact h)
 exact this O _ (by simp)
theorem tTo_snoc (g : List Tk) (N : List Nat) (n : Nat) (O : List Nat) (i : Nat) : tTo g N n (O ++ [i]) = tOne g N (tTo g N n O) i := by unfold tTo; rw [List.foldl_append]; rfl
theorem hStep_length (g : List Tk) (i : Nat) (L : List Nat) (k : Nat) : (hStep g i L k).length = L.length := by simp [hStep]
theorem hfold_length (g : List Tk) (i : Nat) : ∀ (ks : List Nat) (L : List Nat), (ks.foldl (hStep g i) L).length = L.length
 | [], _ => rfl
 | k :: ks, L => by rw [List.foldl_cons, hfold_length g i ks, hStep_length]
theorem hTo_snoc (g : List Tk) (N : List Nat) (n : Nat) (O : List Nat) (i : Nat) : hTo g N n (O ++ [i]) = (elemsN (N.getD i 0)).foldl (hStep g i) (hTo g N n O) := by unfold hTo; rw [List.foldl_append]; rfl
theorem hTo_length (g : List Tk) (N : List Nat) (n : Nat) (O : List Nat) : (hTo g N n O).length = n := by
 have : ∀ (O : List Nat) (L : List Nat), L.length = n → (O.foldl (fun L i => (elemsN (N.getD i 0)).foldl (hStep g i) L) L).length = n := by
  intro O
  induction O with
  | nil => intro L h; exact h
  | cons i O ih => intro L h; exact ih _ (by rw [hfold_length]; exact h)
 exact this O _ (by simp)
def leB (b : Nat) (L : List Nat) : Prop := ∀ i, L.getD i 0 ≤ b
theorem leB_mono {a b : Nat} {L : List Nat} (h : leB a L) (hab : a ≤ b) : leB b L := fun i => Nat.le_trans (h i) hab
theorem leB_set {b i x : Nat} {L : List Nat} (h : leB b L) (hx : x ≤ b) : leB b (L.set i x) := by
 intro j
 by_cases e : j = i
 ·subst e
  by_cases hl : j < L.length
  ·rw [getD_set_self hl]; exact hx
  ·rw [List.set_eq_of_length_le (by omega)]; exact h j
 ·rw [getD_set_ne e]; exact h j
theorem tStep_le {b i : Nat} {L : List Nat} (h : leB b L) (k : Nat) : leB b (tStep i L k) := leB_set h (by have := h k; have := h i; omega)
theorem tfold_le {b i : Nat} : ∀ (ks : List Nat) (L : List Nat), leB b L → leB b (ks.foldl (tStep i) L)
 | [], _, h => h
 | k :: ks, L, h => tfold_le ks _ (tStep_le h k)
def tm20 (g : List Tk) : Prop := ∀ i, tmN g i ≤ 20
theorem tOne_le {g : List Tk} {b : Nat} {N L : List Nat} (ht : tm20 g) (h : leB b L) (i : Nat) : leB (b + 20) (tOne g N L i) :=
 tfold_le _ _ (leB_set (leB_mono h (by omega)) (by have := h i; have := ht i; omega))
theorem tTo_le {g : List Tk} (ht : tm20 g) (N : List Nat) (n : Nat) (O : List Nat) : leB (O.length * 20) (tTo g N n O) := by
 have : ∀ (O : List Nat) (b : Nat) (L : List Nat), leB b L → leB (b + O.length * 20) (O.foldl (tOne g N) L) := by
  intro O
  induction O with
  | nil => intro b L h; simpa using h
  | cons i O ih =>
   intro b L h
   have := ih (b + 20) _ (tOne_le (N := N) ht h i)
   rw [List.length_cons, show b + (O.length + 1) * 20 = b + 20 + O.length * 20 by omega]
   exact this
 have := this O 0 (List.replicate n 0) (fun i => by rw [getD_repl]; exact Nat.le_refl _)
 simpa [tTo] using this
theorem hStep_le {g : List Tk} {b i : Nat} {L : List Nat} (ht : tm20 g) (h : leB b L) (k : Nat) : leB (b + 20) (hStep g i L k) := leB_set (leB_mono h (by omega)) (by have := h i; have := h k; have := ht k; omega)
theorem hfold_le {g : List Tk} {i : Nat} (ht : tm20 g) : ∀ (ks : List Nat) (b : Nat) (L : List Nat), leB b L → leB (b + ks.length * 20) (ks.foldl (hStep g i) L)
 | [], _, _, h => by simpa using h
 | k :: ks, b, L, h => by
  have := hfold_le (i := i) ht ks (b + 20) _ (hStep_le (i := i) ht h k)
  rw [List.foldl_cons, List.length_cons, show b + (ks.length + 1) * 20 = b + 20 + ks.length * 20 by omega]
  exact this
theorem hTo_le {g : List Tk} (ht : tm20 g) (N : List Nat) (n : Nat) (O : List Nat) : leB (O.length * 160) (hTo g N n O) := by
 have : ∀ (O : List Nat) (b : Nat) (L : List Nat), leB b L → leB (b + O.length * 160) (O.foldl (fun L i => (elemsN (N.getD i 0)).foldl (hStep g i) L) L) := by
  intro O
  induction O with
  | nil => intro b L h; simpa using h
  | cons i O ih =>
   intro b L h
   have h1 := leB_mono (hfold_le (i := i) ht (elemsN (N.getD i 0)) b L h) (show b + (elemsN (N.getD i 0)).length * 20 ≤ b + 160 by have := elemsN_length (N.getD i 0); omega)
   have := ih (b + 160) _ h1
   rw [List.length_cons, show b + (O.length + 1) * 160 = b + 160 + O.length * 160 by omega]
   exact this
 have := this O 0 (List.replicate n 0) (fun i => by rw [getD_repl]; exact Nat.le_refl _)
 simpa [hTo] using this
end Go.Proofs.YtpibdjkajgfgjaaDoor.Core
end
section
set_option linter.unusedVariables false
set_option linter.unusedSimpArgs false
namespace Go.Proofs.YtpibdjkajgfgjaaDoor.Core
open Go Go.RowKit Go.Proofs.YtpibdjkajgfgjaaDoorW.PrintWords Go.Proofs.YtpibdjkajgfgjaaDoorW.PrintMore Go.Proofs.YtpibdjkajgfgjaaDoor.P
theorem fold_h (g : List Tk) (i : Nat) : ∀ (ks : List Nat) (B : List Nat), i < B.length → (∀ m ∈ ks, m ≠ i) →
  (∀ j, j ≠ i → (ks.foldl (hStep g i) B).getD j 0 = B.getD j 0) ∧ (∀ m ∈ ks, B.getD m 0 + tmN g m ≤ (ks.foldl (hStep g i) B).getD i 0) ∧ B.getD i 0 ≤ (ks.foldl (hStep g i) B).getD i 0 ∧ ((ks.foldl (hStep g i) B).getD i 0 = B.getD i 0 ∨ ∃ m ∈ ks, (ks.foldl (hStep g i) B).getD i 0 = B.getD m 0 + tmN g m)
 | [], B, hi, hk => ⟨fun _ _ => rfl, (fun _ h => by cases h), Nat.le_refl _, .inl rfl⟩
 | m :: ks, B, hi, hk => by
  have hm : m ≠ i := hk m List.mem_cons_self
  have hk' : ∀ x ∈ ks, x ≠ i := fun x hx => hk x (List.mem_cons_of_mem _ hx)
  obtain ⟨h1, h2, h3, h4⟩ := fold_h g i ks (hStep g i B m) (by unfold hStep; rw [List.length_set]; exact hi) hk'
  have e1 : ∀ j, j ≠ i → (hStep g i B m).getD j 0 = B.getD j 0 := by
   intro j hj
   unfold hStep
   rw [List.getD_eq_getElem?_getD, List.getElem?_set_ne (Ne.symm hj), ← List.getD_eq_getElem?_getD]
  have e2 : (hStep g i B m).getD i 0 = max (B.getD i 0) (B.getD m 0 + tmN g m) := by
   unfold hStep
   rw [List.getD_eq_getElem?_getD, List.getElem?_set_self hi]
   rfl
  rw [List.foldl_cons]
  rw [e2] at h3 h4
  refine ⟨fun j hj => (h1 j hj).trans (e1 j hj), fun x hx => ?_, by omega, ?_⟩
  ·rcases List.mem_cons.1 hx with rfl | hx
   ·omega
   ·have := h2 x hx
    rwa [e1 x (hk' x hx)] at this
  ·rcases h4 with h4 | ⟨x, hx, h4⟩
   ·by_cases hc : B.getD m 0 + tmN g m ≤ B.getD i 0
    ·exact .inl (by omega)
    ·exact .inr ⟨m, List.mem_cons_self, by omega⟩
   ·rw [e1 x (hk' x hx)] at h4
    exact .inr ⟨x, List.mem_cons_of_mem _ hx, h4⟩
def HInv (g : List Tk) (N : List Nat) (n : Nat) (pre : List Nat) (B : List Nat) : Prop :=
 B.length = n ∧ (∀ i, i ∉ pre → B.getD i 0 = 0) ∧ ∀ i ∈ pre, (∀ m, (N.getD i 0).testBit m = true → B.getD m 0 + tmN g m ≤ B.getD i 0) ∧ (B.getD i 0 = 0 ∨ ∃ m, (N.getD i 0).testBit m = true ∧ B.getD i 0 = B.getD m 0 + tmN g m)
theorem hinv_step {g : List Tk} {N L : List Nat} {n : Nat} (hn : n ≤ 8) (hnd : L.Nodup) (hlt : ∀ i ∈ L, i < n) (hnx : ∀ pre i suf, L = pre ++ i :: suf → ∀ k, (N.getD i 0).testBit k = true → k ∈ pre) :
  ∀ (pre suf : List Nat), L = pre ++ suf → HInv g N n pre (hTo g N n pre) := by
 have key : ∀ (c : Nat) (pre suf : List Nat), pre.length = c → L = pre ++ suf → HInv g N n pre (hTo g N n pre) := by
  intro c
  induction c with
  | zero =>
   intro pre suf hl hL
   have : pre = [] := List.length_eq_zero_iff.1 hl
   subst this
   refine ⟨hTo_length _ _ _ _, fun i _ => ?_, fun i hi => by cases hi⟩
   show (List.replicate n 0).getD i 0 = 0
   rw [List.getD_eq_getElem?_getD, List.getElem?_replicate]
   split <;> rfl
  | succ c ih =>
   intro pre suf hl hL
   obtain ⟨pre0, i, rfl⟩ : ∃ t z, pre = t ++ [z] := by
    have hne : pre ≠ [] := by intro h; rw [h] at hl; simp at hl
    exact ⟨pre.dropLast, pre.getLast hne, (List.dropLast_concat_getLast hne).symm⟩
   have hL' : L = pre0 ++ i :: suf := by rw [hL]; simp
   obtain ⟨hlen, h0, hI⟩ := ih pre0 (i :: suf) (by simp at hl; omega) hL'
   have hni : i ∉ pre0 := by
    intro hm
    rw [hL', List.nodup_append] at hnd
    exact hnd.2.2 i hm i List.mem_cons_self rfl
   have hil : i < n := hlt i (by rw [hL']; simp)
   have hneed := hnx pre0 i suf hL'
   have hel : ∀ m, m ∈ elemsN (N.getD i 0) ↔ (N.getD i 0).testBit m = true := by
    intro m
    rw [mem_elemsN]
    refine ⟨fun h => h.2, fun h => ⟨?_, h⟩⟩
    have := hlt m (by rw [hL']; exact List.mem_append_left _ (hneed m h))
    omega
   have hmi : ∀ m, (N.getD i 0).testBit m = true → m ≠ i := fun m hm e => hni (e ▸ hneed m hm)
   obtain ⟨f1, f2, f3, f4⟩ := fold_h g i (elemsN (N.getD i 0)) (hTo g N n pre0) (by rw [hlen]; exact hil) (fun m hm => hmi m ((hel m).1 hm))
   rw [hTo_snoc]
   refine ⟨by rw [hfold_length, hlen], fun j hj => ?_, fun j hj => ?_⟩
   ·simp only [List.mem_append, List.mem_singleton, not_or] at hj
    exact (f1 j hj.2).trans (h0 j hj.1)
   ·rcases List.mem_append.1 hj with hj | hj
    ·have hji : j ≠ i := fun e => hni (e ▸ hj)
     have hjm : ∀ m, (N.getD j 0).testBit m = true → m ≠ i := by
      intro m hm e
      obtain ⟨a, b, hab⟩ := List.append_of_mem hj
      have := hnx a j (b ++ i :: suf) (by rw [hL', hab]; simp) m hm
      exact hni (by rw [← e, hab]; exact List.mem_append_left _ this)
     obtain ⟨g1, g2⟩ := hI j hj
     rw [f1 j hji]
     refine ⟨fun m hm => by rw [f1 m (hjm m hm)]; exact g1 m hm, g2.imp_right ?_⟩
     rintro ⟨m, hm, h⟩
     exact ⟨m, hm, by rw [f1 m (hjm m hm)]; exact h⟩
    ·rw [List.mem_singleton.1 hj]
     rw [h0 i hni] at f4
     refine ⟨fun m hm => by rw [f1 m (hmi m hm)]; exact f2 m ((hel m).2 hm), f4.imp_right ?_⟩
     rintro ⟨m, hm, h⟩
     exact ⟨m, (hel m).1 hm, by rw [f1 m (hmi m ((hel m).1 hm))]; exact h⟩
 exact fun pre suf h => key pre.length pre suf rfl h
theorem VG.head {g : List Tk} {G : GD} (v : VG g G) {i : Nat} (hi : i < g.length) : (∀ m, (G.needs.getD i 0).testBit m = true → (headsN G).getD m 0 + tmN g m ≤ (headsN G).getD i 0) ∧ ((headsN G).getD i 0 = 0 ∨ ∃ m, (G.needs.getD i 0).testBit m = true ∧ (headsN G).getD i 0 = (headsN G).getD m 0 + tmN g m) := by
 have h := hinv_step (g := g) (N := G.needs) (L := G.order) v.n8 v.ord.nodup (fun i hi => v.mem.1 hi) v.ord.needs G.order [] (by simp)
 unfold headsN
 rw [v.tasks]
 exact h.2.2 i (v.mem.2 hi)
end Go.Proofs.YtpibdjkajgfgjaaDoor.Core
end
section
set_option linter.unusedVariables false
set_option linter.unusedSimpArgs false
namespace Go.Proofs.YtpibdjkajgfgjaaDoor.Core
open Go Go.RowKit Go.Proofs.YtpibdjkajgfgjaaDoorW.PrintWords Go.Proofs.YtpibdjkajgfgjaaDoorW.PrintMore Go.Proofs.YtpibdjkajgfgjaaDoor.P
theorem i64_w' (n : Int) : IntKind.i64.wrap n = Go.RowKit.wrap64 n := by unfold Go.RowKit.wrap64; exact IntKind.wrap_i64 n
theorem tm20_of {g : List Tk} (h : ∀ t ∈ g, taskOk t) : tm20 g := by
 intro i
 unfold tmN
 rw [List.getD_eq_getElem?_getD]
 cases e : g[i]? with
 | none => simp [z48]
 | some t =>
  have := (h t (List.mem_of_getElem? e)).1
  simp only [Option.getD_some]
  omega
theorem tm_int {g : List Tk} (h : ∀ t ∈ g, taskOk t) {i : Nat} (hi : i < g.length) : (g.getD i z48).f0 = (tmN g i : Int) ∧ 1 ≤ tmN g i ∧ tmN g i ≤ 20 := by
 have hm : g.getD i z48 ∈ g := by
  rw [List.getD_eq_getElem?_getD, List.getElem?_eq_getElem hi]
  exact List.getElem_mem hi
 have := (h _ hm).1
 unfold tmN
 omega
/-- Sums and greatest ones of small numbers, as the program reckons them. -/
theorem wadd {a b : Nat} (ha : a ≤ 100000) (hb : b ≤ 100000) : wrap64 ((a : Int) + (b : Int)) = ((a + b : Nat) : Int) ∧ IntKind.i64.wrap ((a : Int) + (b : Int)) = ((a + b : Nat) : Int) := by
 have h : wrap64 ((a : Int) + (b : Int)) = ((a + b : Nat) : Int) := by rw [w64 (by omega) (by omega)]; omega
 exact ⟨h, by rw [i64_w']; exact h⟩
theorem wmax (a b : Nat) : (if (a : Int) < (b : Int) then (b : Int) else (a : Int)) = ((max a b : Nat) : Int) := by split <;> omega
end Go.Proofs.YtpibdjkajgfgjaaDoor.Core
end
section
set_option linter.unusedVariables false
set_option linter.unusedSimpArgs false
namespace Go.Proofs.YtpibdjkajgfgjaaDoor.Core
open Go Go.RowKit Go.Proofs.YtpibdjkajgfgjaaDoorW.PrintWords Go.Proofs.YtpibdjkajgfgjaaDoorW.PrintMore Go.Proofs.YtpibdjkajgfgjaaDoor.P
theorem VG.uind {g : List Tk} {G : GD} (v : VG g G) (hG : graphD g = some G) {Q : Nat → Prop} (h : ∀ k, k < g.length → (∀ m, m < g.length → (G.needs.getD m 0).testBit k = true → Q m) → Q k) : ∀ k, k < g.length → Q k :=
 v.rind hG fun k hk ih => h k hk fun m hm hb => ih m hm ((below_bits hG hm k).2 ⟨k, hb, .inl rfl⟩)
/-- What tails are. -/
def TailOk (g : List Tk) (N B : List Nat) : Prop := B.length = g.length ∧ ∀ i, i < g.length → (∀ k, k < g.length → (N.getD k 0).testBit i = true → B.getD k 0 + tmN g i ≤ B.getD i 0) ∧ (B.getD i 0 = tmN g i ∨ ∃ k, k < g.length ∧ (N.getD k 0).testBit i = true ∧ B.getD i 0 = B.getD k 0 + tmN g i)
theorem TailOk.self {g : List Tk} {N B : List Nat} (h : TailOk g N B) {i : Nat} (hi : i < g.length) : tmN g i ≤ B.getD i 0 := by
 rcases (h.2 i hi).2 with h1 | ⟨k, _, _, h1⟩ <;> omega
theorem tail_uniq {g : List Tk} {G : GD} (v : VG g G) (hG : graphD g = some G) {B C : List Nat} (hB : TailOk g G.needs B) (hC : TailOk g G.needs C) : B = C := by
 have key : ∀ i, i < g.length → B.getD i 0 = C.getD i 0 := v.uind hG (Q := fun i => B.getD i 0 = C.getD i 0) fun i hi ih => by
  obtain ⟨b1, b2⟩ := hB.2 i hi
  obtain ⟨c1, c2⟩ := hC.2 i hi
  have sb := hB.self hi
  have sc := hC.self hi
  have h1 : B.getD i 0 ≤ C.getD i 0 := by
   rcases b2 with h | ⟨k, hk, hb, h⟩
   ·omega
   ·have := c1 k hk hb; have := ih k hk hb; omega
  have h2 : C.getD i 0 ≤ B.getD i 0 := by
   rcases c2 with h | ⟨k, hk, hb, h⟩
   ·omega
   ·have := b1 k hk hb; have := ih k hk hb; omega
  omega
 refine List.ext_getElem (by rw [hB.1, hC.1]) fun i h1 h2 => ?_
 have := key i (by rw [← hB.1]; exact h1)
 rw [List.getD_eq_getElem?_getD, List.getD_eq_getElem?_getD, List.getElem?_eq_getElem h1, List.getElem?_eq_getElem h2] at this
 exact this
theorem fold_t (i : Nat) : ∀ (ks B : List Nat), i ∉ ks → (∀ k ∈ ks, k < B.length) → (∀ j, j ∉ ks → (ks.foldl (tStep i) B).getD j 0 = B.getD j 0) ∧ ∀ k ∈ ks, (ks.foldl (tStep i) B).getD k 0 = max (B.getD k 0) (B.getD i 0)
 | [], B, _, _ => ⟨fun _ _ => rfl, fun _ h => by cases h⟩
 | m :: ks, B, hi, hl => by
  have hmi : i ≠ m := fun e => hi (by rw [e]; exact List.mem_cons_self)
  have hml := hl m List.mem_cons_self
  obtain ⟨h1, h2⟩ := fold_t i ks (tStep i B m) (fun h => hi (List.mem_cons_of_mem _ h)) (fun k hk => by rw [tStep_length]; exact hl k (List.mem_cons_of_mem _ hk))
  have e1 : ∀ j, j ≠ m → (tStep i B m).getD j 0 = B.getD j 0 := fun j hj => getD_set_ne hj
  have e2 : (tStep i B m).getD m 0 = max (B.getD m 0) (B.getD i 0) := getD_set_self hml
  rw [List.foldl_cons]
  refine ⟨fun j hj => ?_, fun k hk => ?_⟩
  ·simp only [List.mem_cons, not_or] at hj
   rw [h1 j hj.2, e1 j hj.1]
  ·by_cases hks : k ∈ ks
   ·rw [h2 k hks, e1 i hmi]
    by_cases e : k = m
    ·rw [e, e2]; omega
    ·rw [e1 k e]
   ·have e : k = m := (List.mem_cons.1 hk).resolve_right hks
    rw [h1 k hks, e, e2]
/-- What the table holds behind the first ones of the turned order. -/
def TInv (g : List Tk) (N : List Nat) (pre B : List Nat) : Prop := B.length = g.length ∧
 (∀ i ∈ pre, (∀ k ∈ pre, (N.getD k 0).testBit i = true → B.getD k 0 + tmN g i ≤ B.getD i 0) ∧ (B.getD i 0 = tmN g i ∨ ∃ k ∈ pre, (N.getD k 0).testBit i = true ∧ B.getD i 0 = B.getD k 0 + tmN g i)) ∧
 (∀ i, i ∉ pre → (∀ k ∈ pre, (N.getD k 0).testBit i = true → B.getD k 0 ≤ B.getD i 0) ∧ (B.getD i 0 = 0 ∨ ∃ k ∈ pre, (N.getD k 0).testBit i = true ∧ B.getD i 0 = B.getD k 0))
theorem tinv_step {g : List Tk} {N pre B : List Nat} {i : Nat} (h : TInv g N pre B) (hi : i < g.length) (hip : i ∉ pre) (hel : ∀ m, m ∈ elemsN (N.getD i 0) ↔ (N.getD i 0).testBit m = true) (hl : ∀ k, (N.getD i 0).testBit k = true → k < g.length ∧ k ≠ i ∧ k ∉ pre) : TInv g N (pre ++ [i]) (tOne g N B i) := by
 obtain ⟨hlen, hb, hc⟩ := h
 have hnk : i ∉ elemsN (N.getD i 0) := fun hm => (hl i ((hel i).1 hm)).2.1 rfl
 obtain ⟨f1, f2⟩ := fold_t i (elemsN (N.getD i 0)) (B.set i (B.getD i 0 + tmN g i)) hnk (fun k hk => by rw [List.length_set, hlen]; exact (hl k ((hel k).1 hk)).1)
 have s1 : (B.set i (B.getD i 0 + tmN g i)).getD i 0 = B.getD i 0 + tmN g i := getD_set_self (by omega)
 have s2 : ∀ j, j ≠ i → (B.set i (B.getD i 0 + tmN g i)).getD j 0 = B.getD j 0 := fun j hj => getD_set_ne hj
 have ti : (tOne g N B i).getD i 0 = B.getD i 0 + tmN g i := (f1 i hnk).trans s1
 have tp : ∀ j ∈ pre, (tOne g N B i).getD j 0 = B.getD j 0 := fun j hj => by
  have hji : j ≠ i := fun e => hip (e ▸ hj)
  exact (f1 j (fun hm => (hl j ((hel j).1 hm)).2.2 hj)).trans (s2 j hji)
 refine ⟨by rw [tOne_length, hlen], fun j hj => ?_, fun j hj => ?_⟩
 ·rcases List.mem_append.1 hj with hj | hj
  ·rw [tp j hj]
   refine ⟨fun k hk hkb => ?_, (hb j hj).2.imp_right ?_⟩
   ·rcases List.mem_append.1 hk with hk | hk
    ·rw [tp k hk]; exact (hb j hj).1 k hk hkb
    ·rw [List.mem_singleton.1 hk] at hkb
     exact absurd hj (hl j hkb).2.2
   ·rintro ⟨k, hk, h1, h2⟩
    exact ⟨k, List.mem_append_left _ hk, h1, by rw [tp k hk]; exact h2⟩
  ·rw [List.mem_singleton.1 hj, ti]
   obtain ⟨c1, c2⟩ := hc i hip
   refine ⟨fun k hk hkb => ?_, ?_⟩
   ·rcases List.mem_append.1 hk with hk | hk
    ·rw [tp k hk]; have := c1 k hk hkb; omega
    ·rw [List.mem_singleton.1 hk] at hkb
     exact absurd rfl (hl i hkb).2.1
   ·rcases c2 with h0 | ⟨k, hk, h1, h2⟩
    ·left; omega
    ·exact .inr ⟨k, List.mem_append_left _ hk, h1, by rw [tp k hk]; omega⟩
 ·simp only [List.mem_append, List.mem_singleton, not_or] at hj
  obtain ⟨c1, c2⟩ := hc j hj.1
  by_cases hm : j ∈ elemsN (N.getD i 0)
  ·have e : (tOne g N B i).getD j 0 = max (B.getD j 0) (B.getD i 0 + tmN g i) := by
    have := f2 j hm
    rw [s1, s2 j hj.2] at this
    exact this
   rw [e]
   refine ⟨fun k hk hkb => ?_, ?_⟩
   ·rcases List.mem_append.1 hk with hk | hk
    ·rw [tp k hk]; have := c1 k hk hkb; omega
    ·rw [List.mem_singleton.1 hk, ti]; omega
   ·by_cases hle : B.getD i 0 + tmN g i ≤ B.getD j 0
    ·rcases c2 with h0 | ⟨k, hk, h1, h2⟩
     ·left; omega
     ·exact .inr ⟨k, List.mem_append_left _ hk, h1, by rw [tp k hk]; omega⟩
    ·exact .inr ⟨i, by simp, (hel j).1 hm, by rw [ti]; omega⟩
  ·have e : (tOne g N B i).getD j 0 = B.getD j 0 := (f1 j hm).trans (s2 j hj.2)
   rw [e]
   refine ⟨fun k hk hkb => ?_, c2.imp_right ?_⟩
   ·rcases List.mem_append.1 hk with hk | hk
    ·rw [tp k hk]; exact c1 k hk hkb
    ·rw [List.mem_singleton.1 hk] at hkb
     exact absurd ((hel j).2 hkb) hm
   ·rintro ⟨k, hk, h1, h2⟩
    exact ⟨k, List.mem_append_left _ hk, h1, by rw [tp k hk]; exact h2⟩
/-- The needs of a task come ahead of it: in the turned order behind it. -/
theorem VG.turned {g : List Tk} {G : GD} (v : VG g G) {pre suf : List Nat} {i : Nat} (ho : G.order.reverse = pre ++ i :: suf) : i < g.length ∧ i ∉ pre ∧ (∀ m, m ∈ elemsN (G.needs.getD i 0) ↔ (G.needs.getD i 0).testBit m = true) ∧ ∀ k, (G.needs.getD i 0).testBit k = true → k < g.length ∧ k ≠ i ∧ k ∉ pre := by
 have ho2 : G.order = suf.reverse ++ i :: pre.reverse := by
  have := congrArg List.reverse ho
  simpa using this
 have hnd := v.ord.nodup
 have hil := v.mem.1 (show i ∈ G.order by rw [ho2]; simp)
 rw [ho2, List.nodup_append] at hnd
 have hnd2 := List.nodup_cons.1 hnd.2.1
 refine ⟨hil, fun h => hnd2.1 (List.mem_reverse.2 h), fun m => ?_, fun k hk => ?_⟩
 ·rw [mem_elemsN]
  exact ⟨fun h => h.2, fun h => ⟨by have := v.need_lt h; have := v.n8; omega, h⟩⟩
 ·have hks := v.ord.needs _ i _ ho2 k hk
  refine ⟨v.need_lt hk, fun e => ?_, fun hp => ?_⟩
  ·exact hnd.2.2 k hks i List.mem_cons_self e
  ·exact hnd.2.2 k hks k (List.mem_cons_of_mem _ (List.mem_reverse.2 hp)) rfl
theorem tails_ok {g : List Tk} {G : GD} (v : VG g G) : TailOk g G.needs (tailsN G) := by
 have key : ∀ (suf pre : List Nat), G.order.reverse = pre ++ suf → TInv g G.needs pre (tTo g G.needs g.length pre) → TInv g G.needs G.order.reverse (tTo g G.needs g.length G.order.reverse) := by
  intro suf
  induction suf with
  | nil => intro pre ho h; rw [List.append_nil] at ho; rw [ho]; exact h
  | cons i suf ih =>
   intro pre ho h
   obtain ⟨h1, h2, h3, h4⟩ := v.turned ho
   refine ih (pre ++ [i]) (by rw [ho]; simp) ?_
   rw [tTo_snoc]
   exact tinv_step h h1 h2 h3 h4
 have h := key G.order.reverse [] rfl ⟨tTo_length _ _ _ _, (fun i h => absurd h List.not_mem_nil), fun i _ => ⟨(fun k h => absurd h List.not_mem_nil), .inl (getD_repl _ _)⟩⟩
 have hin : ∀ i, i < g.length → i ∈ G.order.reverse := fun i hi => List.mem_reverse.2 (v.mem.2 hi)
 have e : tailsN G = tTo g G.needs g.length G.order.reverse := by unfold tailsN; rw [v.tasks]
 rw [e]
 refine ⟨h.1, fun i hi => ⟨fun k hk hb => (h.2.1 i (hin i hi)).1 k (hin k hk) hb, (h.2.1 i (hin i hi)).2.imp_right ?_⟩⟩
 rintro ⟨k, hk, h1, h2⟩
 exact ⟨k, v.mem.1 (List.mem_reverse.1 hk), h1, h2⟩
end Go.Proofs.YtpibdjkajgfgjaaDoor.Core
end
section
set_option linter.unusedVariables false
set_option linter.unusedSimpArgs false
namespace Go.Proofs.YtpibdjkajgfgjaaDoor.Core
open Go Go.RowKit Go.Shelf Go.Proofs.YtpibdjkajgfgjaaDoorW.PrintWords Go.Proofs.YtpibdjkajgfgjaaDoorW.PrintLast Go.Proofs.YtpibdjkajgfgjaaDoorW.PrintMore Go.Proofs.YtpibdjkajgfgjaaDoor.P
attribute [local go_sem] Oper.semAt_some wide_fn wide_depth
/-- All needs of the set's tasks are in it. -/
def closedD (N : List Nat) (s : Nat) : Bool := (elemsN s).all fun i => decide (sub (N.getD i 0) s = 0)
/-- The world behind the three results' boxes. -/
structure DW (w w0 : World) : Prop where
 eq : w0 = ((w.alloc (.cells #[.pointer none] 63)).alloc (.cells #[.int .u16 0] 67)).alloc (.cells #[.bool false] 4)
 r0 : Boxed w0 w.heap.size 63 (.pointer none)
 r1 : Boxed w0 (w.heap.size + 1) 67 (.int .u16 0)
 r2 : Boxed w0 (w.heap.size + 1 + 1) 4 (.bool false)
 below : Below w.heap.size w w0
 size : w0.heap.size = w.heap.size + 1 + 1 + 1
/-- Behind a call that leaves the elder blocks alone, and a further box. -/
theorem DW.on {w w0 w1 : World} (h : DW w w0) (hB : Below w0.heap.size w0 w1) : Boxed w1 w.heap.size 63 (.pointer none) ∧ Boxed w1 (w.heap.size + 1) 67 (.int .u16 0) ∧ Boxed w1 (w.heap.size + 1 + 1) 4 (.bool false) ∧ Below w.heap.size w w1 :=
 ⟨(hB.block _ h.r0.lt).trans h.r0, (hB.block _ h.r1.lt).trans h.r1, (hB.block _ h.r2.lt).trans h.r2, below_step h.below hB⟩
/-- The three results' boxes, and those of the graph and the set; what graphOf made stays. -/
structure DI (w w1 : World) (bx bs b s : Nat) (W : World) : Prop where
 r0 : Boxed W w.heap.size 63 (.pointer none)
 r1 : Boxed W (w.heap.size + 1) 67 (.int .u16 0)
 r2 : Boxed W (w.heap.size + 1 + 1) 4 (.bool false)
 x : Boxed W bx 63 (.pointer (some ⟨b, 0, none⟩))
 s : Boxed W bs 67 (.int .u16 (s : Int))
 below : Below w.heap.size w W
 keep : ∀ k, w.heap.size + 1 + 1 + 1 ≤ k → k < w1.heap.size → W.heap[k]? = w1.heap[k]?
 size : w1.heap.size ≤ W.heap.size
theorem DI.move {w w1 : World} {bx bs b s : Nat} {W W' : World} (h : DI w w1 bx bs b s W) (hb : Below W.heap.size W W') : DI w w1 bx bs b s W' :=
 ⟨(hb.block _ h.r0.lt).trans h.r0, (hb.block _ h.r1.lt).trans h.r1, (hb.block _ h.r2.lt).trans h.r2, (hb.block _ h.x.lt).trans h.x, (hb.block _ h.s.lt).trans h.s, below_step h.below hb,
  fun k h1 h2 => (hb.block k (Nat.lt_of_lt_of_le h2 h.size)).trans (h.keep k h1 h2), Nat.le_trans h.size hb.size⟩
theorem DI.tame {w w1 : World} {bx bs b s B : Nat} {W W' : World} (h : DI w w1 bx bs b s W) (hw : w.heap.size ≤ B) (hB : w1.heap.size ≤ B) (ht : Tame B W W') : DI w w1 bx bs b s W' :=
 ⟨ht.boxed h.r0, ht.boxed h.r1, ht.boxed h.r2, ht.boxed h.x, ht.boxed h.s, ht.below h.below (Nat.le_refl _) hw,
  fun k h1 h2 => (ht.block k (Nat.lt_of_lt_of_le h2 h.size) (.inl (Nat.lt_of_lt_of_le h2 hB))).trans (h.keep k h1 h2), Nat.le_trans h.size ht.size⟩
end Go.Proofs.YtpibdjkajgfgjaaDoor.Core
end
section
set_option linter.unusedVariables false
set_option linter.unusedSimpArgs false
namespace Go.Proofs.YtpibdjkajgfgjaaDoor.Core
open Go Go.RowKit Go.Proofs.YtpibdjkajgfgjaaDoorW.PrintWords Go.Proofs.YtpibdjkajgfgjaaDoorW.PrintMore Go.Proofs.YtpibdjkajgfgjaaDoor.P
theorem VG.list_bit {g : List Tk} {G : GD} (v : VG g G) {s : Nat} (hs : s < 2 ^ g.length) (i : Nat) : s.testBit i = true ↔ i ∈ elemsN s := by
 rw [mem_elemsN]
 refine ⟨fun h => ⟨?_, h⟩, fun h => h.2⟩
 have h1 := Nat.ge_two_pow_of_testBit h
 have h2 : 2 ^ i < 2 ^ g.length := Nat.lt_of_le_of_lt h1 hs
 have h3 := (Nat.pow_lt_pow_iff_right (by omega : 1 < 2)).1 h2
 have := v.n8
 omega
end Go.Proofs.YtpibdjkajgfgjaaDoor.Core
end
section
set_option linter.unusedVariables false
set_option linter.unusedSimpArgs false
namespace Go.Proofs.YtpibdjkajgfgjaaDoor.Core
open Go Go.RowKit Go.Shelf Go.Proofs.YtpibdjkajgfgjaaDoorW.PrintWords Go.Proofs.YtpibdjkajgfgjaaDoorW.PrintLast Go.Proofs.YtpibdjkajgfgjaaDoorW.PrintMore Go.Proofs.YtpibdjkajgfgjaaDoor.P
attribute [local go_sem] Oper.semAt_some wide_fn wide_depth
/-- The answer that some number of rounds gives. -/
noncomputable def lim {α : Type} (f : Nat → Option α) : Option α := open Classical in if h : ∃ k r, f k = some r then some h.choose_spec.choose else none
theorem lim_some {α : Type} {f : Nat → Option α} {r : α} (h : lim f = some r) : ∃ k, f k = some r := by
 unfold lim at h
 by_cases hh : ∃ k r, f k = some r
 ·rw [dif_pos hh] at h
  cases h
  exact ⟨_, hh.choose_spec.choose_spec⟩
 ·rw [dif_neg hh] at h; cases h
theorem lim_of {α : Type} {f : Nat → Option α} (hm : ∀ k, LeO (f k) (f (k + 1))) {k : Nat} {r : α} (h : f k = some r) : lim f = some r := by
 have hh : ∃ k r, f k = some r := ⟨k, r, h⟩
 have h2 := hh.choose_spec.choose_spec
 unfold lim
 rw [dif_pos hh]
 rcases Nat.le_total k hh.choose with hle | hle
 ·have := at_rounds hm hle h
  rw [h2] at this; exact this
 ·have := at_rounds hm hle h2
  rw [h] at this; exact this.symm
theorem mkQ (w : World) (base : Nat) (ok : Nat → Prop) (x : Tk) {v1 : Value} (g1 : (Kd.int .i64).Q 3 w base ok v1 x.f1) : k48.M w base ok x [.int .i64 x.f0, v1, .int .i64 x.f2, .int .i64 x.f3] :=
 ⟨[.int .i64 x.f0], [v1, .int .i64 x.f2, .int .i64 x.f3], rfl, rfl, ⟨[v1], [.int .i64 x.f2, .int .i64 x.f3], rfl, ⟨v1, rfl, g1⟩, ⟨[.int .i64 x.f2], [.int .i64 x.f3], rfl, rfl, rfl⟩⟩⟩
theorem S_put0 {W : World} {base gb n cap : Nat} {ok : Nat → Prop} {xs : List Tk} (h : Kd.S k48 48 W base ok (.slice (some ⟨gb, 0, none⟩) n cap) xs) (i : Int) (h0 : 0 ≤ i) (h1 : i < n) :
  (∃ u, W.cell? ⟨gb, i.toNat * 4, none⟩ = some (.int .i64 u)) ∧ W.frozen? ⟨gb, i.toNat * 4, none⟩ = false ∧ ∀ t : Int,
   Kd.S k48 48 (W.setCell ⟨gb, i.toNat * 4, none⟩ (.int .i64 t)) base ok (.slice (some ⟨gb, 0, none⟩) n cap) (xs.set i.toNat { rd_T48 xs i with f0 := t }) ∧ W.grownBy (W.setCell ⟨gb, i.toNat * 4, none⟩ (.int .i64 t)) (some gb) := by
 obtain ⟨oki, c, hcl, hM, hcc, hfr, hoki, hH⟩ := Kd.S_elem (Kd.S_mono (ok' := fun k => ok k ∧ ¬ False) h (fun k hk => ⟨hk, id⟩)) z48 i h0 h1
 obtain ⟨v1, rfl, g1⟩ := k48_openM hM
 refine ⟨⟨_, hcc 0 _ rfl⟩, hfr 0, fun t => ?_⟩
 exact Kd.S_seg (okg := fun _ => False) hH h0 h1 (seg := [.int .i64 t]) (j := 0) (show 0 + 1 ≤ 4 from by decide) (x' := { rd_T48 xs i with f0 := t }) (mkQ _ _ _ { rd_T48 xs i with f0 := t } g1) (fun k hk => .inl hk) (fun k hk => hk.elim)
theorem S_put2 {W : World} {base gb n cap : Nat} {ok : Nat → Prop} {xs : List Tk} (h : Kd.S k48 48 W base ok (.slice (some ⟨gb, 0, none⟩) n cap) xs) (i : Int) (h0 : 0 ≤ i) (h1 : i < n) :
  (∃ u, W.cell? ⟨gb, i.toNat * 4 + 2, none⟩ = some (.int .i64 u)) ∧ W.frozen? ⟨gb, i.toNat * 4 + 2, none⟩ = false ∧ ∀ t : Int,
   Kd.S k48 48 (W.setCell ⟨gb, i.toNat * 4 + 2, none⟩ (.int .i64 t)) base ok (.slice (some ⟨gb, 0, none⟩) n cap) (xs.set i.toNat { rd_T48 xs i with f2 := t }) ∧ W.grownBy (W.setCell ⟨gb, i.toNat * 4 + 2, none⟩ (.int .i64 t)) (some gb) := by
 obtain ⟨oki, c, hcl, hM, hcc, hfr, hoki, hH⟩ := Kd.S_elem (Kd.S_mono (ok' := fun k => ok k ∧ ¬ False) h (fun k hk => ⟨hk, id⟩)) z48 i h0 h1
 obtain ⟨v1, rfl, g1⟩ := k48_openM hM
 refine ⟨⟨_, hcc 2 _ rfl⟩, hfr 2, fun t => ?_⟩
 exact Kd.S_seg (okg := fun _ => False) hH h0 h1 (seg := [.int .i64 t]) (j := 2) (show 2 + 1 ≤ 4 from by decide) (x' := { rd_T48 xs i with f2 := t }) (mkQ _ _ _ { rd_T48 xs i with f2 := t } g1) (fun k hk => .inl hk) (fun k hk => hk.elim)
theorem S_put3 {W : World} {base gb n cap : Nat} {ok : Nat → Prop} {xs : List Tk} (h : Kd.S k48 48 W base ok (.slice (some ⟨gb, 0, none⟩) n cap) xs) (i : Int) (h0 : 0 ≤ i) (h1 : i < n) :
  (∃ u, W.cell? ⟨gb, i.toNat * 4 + 3, none⟩ = some (.int .i64 u)) ∧ W.frozen? ⟨gb, i.toNat * 4 + 3, none⟩ = false ∧ ∀ t : Int,
   Kd.S k48 48 (W.setCell ⟨gb, i.toNat * 4 + 3, none⟩ (.int .i64 t)) base ok (.slice (some ⟨gb, 0, none⟩) n cap) (xs.set i.toNat { rd_T48 xs i with f3 := t }) ∧ W.grownBy (W.setCell ⟨gb, i.toNat * 4 + 3, none⟩ (.int .i64 t)) (some gb) := by
 obtain ⟨oki, c, hcl, hM, hcc, hfr, hoki, hH⟩ := Kd.S_elem (Kd.S_mono (ok' := fun k => ok k ∧ ¬ False) h (fun k hk => ⟨hk, id⟩)) z48 i h0 h1
 obtain ⟨v1, rfl, g1⟩ := k48_openM hM
 refine ⟨⟨_, hcc 3 _ rfl⟩, hfr 3, fun t => ?_⟩
 exact Kd.S_seg (okg := fun _ => False) hH h0 h1 (seg := [.int .i64 t]) (j := 3) (show 3 + 1 ≤ 4 from by decide) (x' := { rd_T48 xs i with f3 := t }) (mkQ _ _ _ { rd_T48 xs i with f3 := t } g1) (fun k hk => .inl hk) (fun k hk => hk.elim)
def spec_anyGraph.fk (k : Nat) (s0 : List Int) (s1 : Int) : Option (List Tk × Int) :=
 (spec_someGraph.f k s0 s1 8).bind fun a =>
 if a.1.length = 0 then some (a.1, a.2) else
 (spec_reader_pick.f k s0 a.2 (a.1.length : Int)).bind fun p =>
 (spec_reader_pick.f k s0 p.2 24).bind fun q =>
 if ¬ (0 ≤ p.1 ∧ p.1 < (a.1.length : Int)) then none else
 if q.1 = 0 then (spec_reader_one.f k s0 q.2 [0, 21, 20]).bind fun t => some (a.1.set p.1.toNat { rd_T48 a.1 p.1 with f0 := t.1 }, t.2)
 else if q.1 = 1 then (spec_reader_pick.f k s0 q.2 (a.1.length : Int)).bind fun b =>
  if (rd_T48 a.1 p.1).f1.length < 1000 then (spec_reader_spoil.f k s0 b.2 ((rd_T48 a.1 p.1).f1 ++ [b.1]) 8).bind fun c => some (a.1.set p.1.toNat { rd_T48 a.1 p.1 with f1 := c.1 }, c.2) else none
 else if q.1 = 2 then (spec_reader_one.f k s0 q.2 [-1, 3]).bind fun t => some (a.1.set p.1.toNat { rd_T48 a.1 p.1 with f2 := t.1 }, t.2)
 else if q.1 = 3 then (spec_reader_one.f k s0 q.2 [0, 5]).bind fun t => some (a.1.set p.1.toNat { rd_T48 a.1 p.1 with f3 := t.1 }, t.2)
 else if q.1 = 4 then (spec_someGraph.f k s0 q.2 8).bind fun b => if a.1.length + b.1.length < 1000 then some (a.1 ++ b.1, b.2) else none
 else some (a.1, q.2)
theorem spec_anyGraph.mono : ∀ a0 a1 k, LeO (spec_anyGraph.fk k a0 a1) (spec_anyGraph.fk (k + 1) a0 a1) := by
 intro a0 a1 k
 unfold spec_anyGraph.fk
 repeat' first
   | (with_reducible exact spec_someGraph.mono _ _ _ _)
   | (with_reducible exact spec_reader_pick.mono _ _ _ _)
   | (with_reducible exact spec_reader_one.mono _ _ _ _)
   | (with_reducible exact spec_reader_spoil.mono _ _ _ _ _)
   | (with_reducible exact LeO.refl _)
   | (with_reducible exact LeO.none _)
   | (with_reducible refine LeO.ite ?_ ?_)
   | (with_reducible refine LeO.bind ?_ (fun _ => ?_))
   | exact LeO.none _
   | refine LeO.ite ?_ ?_
   | refine LeO.bind ?_ (fun _ => ?_)
/-- What anyGraph leaves. -/
def anyPost (w0 w : World) (g : Nat) (s0 : List Int) (r1 : List Tk) (r2 : Int) (e : Ending) (w' : World) : Prop :=
 ∃ v0_ : Value, e = .returned (v0_) ∧ Kd.S k48 48 w' w.heap.size (fun _ => True) v0_ r1 ∧ IsS116 w0 w' g s0 r2 ∧ Below w0.heap.size w0 w' ∧ KeepBut w w' g none
theorem R_lits {w : World} {b base t : Nat} {l : List Int} (h : w.heap[b]? = some (.cells (l.map (Value.int .i64)).toArray t (0, 0))) (hb : base ≤ b) (hl : l.length ≤ maxLen) : (Kd.int .i64).R t w base (fun _ => True) (.slice (some ⟨b, 0, none⟩) l.length l.length) l :=
 row_R (k := .i64) ⟨by simp, .inr ⟨b, l.length, _, rfl, hb, h, Nat.le_refl _, hl, by simp, by simp [List.take_of_length_le]⟩⟩
theorem C_lits {w : World} {b t : Nat} {l : List Int} (h : w.heap[b]? = some (.cells (l.map (Value.int .i64)).toArray t (0, 0))) (hl : l.length ≤ maxLen) : (Kd.int .i64).C w (some ⟨b, 0, none⟩) l.length l :=
 (Kd.R_reads' (R_lits (base := 0) h (Nat.zero_le _) hl)).2.2
set_option maxRecDepth 100000 in
set_option maxHeartbeats 4000000 in
theorem any_empty (k g : Nat) (s0 : List Int) (s1 : Int) (w0 w : World) (hI : IsS116 w0 w g s0 s1) (hB : Below w0.heap.size w0 w) (a2 : Int) (h1 : spec_someGraph.f k s0 s1 8 = some ([], a2)) : Calls Tryd.prog 81 #[.pointer (some ⟨g, 0, none⟩)] w (anyPost w0 w g s0  [] a2) := by
 have A1 := Aside0.mk h1
 clear h1
 obtain ⟨a, ha⟩ : ∃ a : List Tk, a = [] := ⟨_, rfl⟩
 rw [← ha] at A1
 have hlen : (a.length : Int) = 0 := by rw [ha]; rfl
 have HA := Aside0.mk ha
 clear ha
 have hz : ((a.length : Int) == 0) = true := by simp [hlen]
 have HL := Aside0.mk hlen
 clear hlen
 go_enter Tryd.func81, Tryd.ntmps81
 go_wp2_with (go_at_call 114; refine (spec_someGraph.calls k g s0 s1 8 a a2 w0 _ hI hB A1.out).mono ?_; rintro e w1 ⟨v1, rfl, hS1, hI1, hB1, hK1⟩; clear hI hB; obtain ⟨A, c, rfl⟩ := Kd.S_slice hS1)
 go_ret
 exact ⟨_, rfl, by rw [← HA.out]; exact hS1, hI1, hB1, hK1⟩
set_option maxRecDepth 100000 in
set_option maxHeartbeats 4000000 in
theorem any_same (k g : Nat) (s0 : List Int) (s1 : Int) (w0 w : World) (hI : IsS116 w0 w g s0 s1) (hB : Below w0.heap.size w0 w) (a : List Tk) (a2 p p2 q q2 : Int) (hpos : 0 < a.length) (hp0 : 0 ≤ p) (hp1 : p < (a.length : Int)) (h1 : spec_someGraph.f k s0 s1 8 = some (a, a2)) (h2 : spec_reader_pick.f k s0 a2 (a.length : Int) = some (p, p2)) (h3 : spec_reader_pick.f k s0 p2 24 = some (q, q2)) (hq : q ≠ 0 ∧ q ≠ 1 ∧ q ≠ 2 ∧ q ≠ 3 ∧ q ≠ 4) : Calls Tryd.prog 81 #[.pointer (some ⟨g, 0, none⟩)] w (anyPost w0 w g s0  a q2) := by
 have A1 := Aside0.mk h1
 have A2 := Aside0.mk h2
 have A3 := Aside0.mk h3
 clear h1 h2 h3
 have hz : ((a.length : Int) == 0) = false := beq_eq_false_iff_ne.2 (by omega)
 have hglt : g < w.heap.size := hI.lt
 have hq0 : (q == 0) = false := beq_eq_false_iff_ne.2 (by omega)
 have hq1 : (q == 1) = false := beq_eq_false_iff_ne.2 (by omega)
 have hq2 : (q == 2) = false := beq_eq_false_iff_ne.2 (by omega)
 have hq3 : (q == 3) = false := beq_eq_false_iff_ne.2 (by omega)
 have hq4 : (q == 4) = false := beq_eq_false_iff_ne.2 (by omega)
 go_enter Tryd.func81, Tryd.ntmps81
 go_wp2_with (first | (go_at_call 114; refine (spec_someGraph.calls k g s0 s1 8 a a2 w0 _ hI hB A1.out).mono ?_; rintro e w1 ⟨v1, rfl, hS1, hI1, hB1, hK1⟩; clear hI hB; obtain ⟨gb, cap, rfl, hgb, hgl, cells, hcells⟩ := Kd.S_form hS1 hpos) | (go_at_call 89; refine (spec_reader_pick.calls k g s0 a2 (a.length : Int) p p2 w0 _ hI1 hB1 A2.out).mono ?_; rintro e w2 ⟨rfl, hI2, hB2, hK2⟩; clear hI1 hB1) | (go_at_call 89; refine (spec_reader_pick.calls k g s0 p2 24 q q2 w0 _ hI2 hB2 A3.out).mono ?_; rintro e w3 ⟨rfl, hI3, hB3, hK3⟩; clear hI2 hB2))
 have hS3 : Kd.S k48 48 w3 w.heap.size (fun k => k ≠ g) (.slice (some ⟨gb, 0, none⟩) a.length cap) a := Kd.S_keep (Kd.S_keep (Kd.S_mono (Kd.S_bound hS1) (fun k hk => Nat.ne_of_gt (Nat.lt_of_lt_of_le hglt hk.2.1))) hK2 (fun k hk => hk)) hK3 (fun k hk => hk)
 have hK4 := (hK1.trans hK2 (.inl rfl)).trans hK3 (.inl rfl)
 clear hS1 hK1 hK2 hK3
 go_ret
 exact ⟨_, rfl, Kd.S_mono hS3 (fun _ _ => trivial), hI3, hB3, hK4⟩
set_option maxRecDepth 100000 in
set_option maxHeartbeats 4000000 in
theorem any_case0 (k g : Nat) (s0 : List Int) (s1 : Int) (w0 w : World) (hI : IsS116 w0 w g s0 s1) (hB : Below w0.heap.size w0 w) (a : List Tk) (a2 p p2 q q2 : Int) (hpos : 0 < a.length) (hp0 : 0 ≤ p) (hp1 : p < (a.length : Int)) (h1 : spec_someGraph.f k s0 s1 8 = some (a, a2)) (h2 : spec_reader_pick.f k s0 a2 (a.length : Int) = some (p, p2)) (h3 : spec_reader_pick.f k s0 p2 24 = some (q, q2)) (hq : q = 0) (t t2 : Int) (h4 : spec_reader_one.f k s0 q2 [0, 21, 20] = some (t, t2)) : Calls Tryd.prog 81 #[.pointer (some ⟨g, 0, none⟩)] w (anyPost w0 w g s0  (a.set p.toNat { rd_T48 a p with f0 := t }) t2) := by
 have A1 := Aside0.mk h1
 have A2 := Aside0.mk h2
 have A3 := Aside0.mk h3
 clear h1 h2 h3
 have hz : ((a.length : Int) == 0) = false := beq_eq_false_iff_ne.2 (by omega)
 have hglt : g < w.heap.size := hI.lt
 have A4 := Aside0.mk h4
 clear h4
 have hq0 : (q == 0) = true := by simp [hq]
 have hp0' := eq_true hp0
 have hp1' := eq_true hp1
 go_enter Tryd.func81, Tryd.ntmps81
 go_wp2_with (first | (go_at_call 114; refine (spec_someGraph.calls k g s0 s1 8 a a2 w0 _ hI hB A1.out).mono ?_; rintro e w1 ⟨v1, rfl, hS1, hI1, hB1, hK1⟩; clear hI hB; obtain ⟨gb, cap, rfl, hgb, hgl, cells, hcells⟩ := Kd.S_form hS1 hpos) | (go_at_call 89; refine (spec_reader_pick.calls k g s0 a2 (a.length : Int) p p2 w0 _ hI1 hB1 A2.out).mono ?_; rintro e w2 ⟨rfl, hI2, hB2, hK2⟩; clear hI1 hB1) | (go_at_call 89; refine (spec_reader_pick.calls k g s0 p2 24 q q2 w0 _ hI2 hB2 A3.out).mono ?_; rintro e w3 ⟨rfl, hI3, hB3, hK3⟩; clear hI2 hB2) | (go_at_call 92; have hS3 : Kd.S k48 48 w3 w.heap.size (fun k => k ≠ g) (.slice (some ⟨gb, 0, none⟩) a.length cap) a := Kd.S_keep (Kd.S_keep (Kd.S_mono (Kd.S_bound hS1) (fun k hk => Nat.ne_of_gt (Nat.lt_of_lt_of_le hglt hk.2.1))) hK2 (fun k hk => hk)) hK3 (fun k hk => hk); have hK4 := (hK1.trans hK2 (.inl rfl)).trans hK3 (.inl rfl); clear hS1 hK1 hK2 hK3; have hN4 := cells_new w3 (.cells #[.int .i64 0, .int .i64 21, .int .i64 20] 3); have hI4 := hI3.alloc (.cells #[.int .i64 0, .int .i64 21, .int .i64 20] 3); have hB4 := hB3.alloc hB3.size (.cells #[.int .i64 0, .int .i64 21, .int .i64 20] 3); have hS4 := Kd.S_alloc hS3 (.cells #[.int .i64 0, .int .i64 21, .int .i64 20] 3); have hK5 := keep_alloc hK4 (.cells #[.int .i64 0, .int .i64 21, .int .i64 20] 3); have hsz := hI3.lt; refine (spec_reader_one.calls k g s0 q2 _ _ [0, 21, 20] t t2 w0 _ hI4 hB4 (C_lits (l := [0, 21, 20]) hN4 (by decide)) (by decide) (fun ad e _ => by cases e; show w3.heap.size ≠ g; omega) A4.out).mono ?_; rintro e w5 ⟨rfl, hI5, hB5, hK6⟩; have hS5 := Kd.S_keep hS4 hK6 (fun k hk => hk); obtain ⟨⟨u, hcu⟩, hfu, hput⟩ := S_put0 hS5 p hp0 hp1; have hK7 := hK5.trans hK6 (.inl rfl); have HPUT := Aside0.mk hput; have hI6 := Aside0.mk hI5; clear hS4 hS3 hI3 hB3 hK4 hI4 hB4 hN4 hK5 hK6 hput hI5))
 go_ret
 obtain ⟨hS6, hg6⟩ := HPUT.out t
 exact ⟨_, rfl, Kd.S_mono hS6 (fun _ _ => trivial), hI6.out.grown hg6 (fun e => by injection e with e; omega), below_put hg6 hB5 (Nat.le_refl _) (by have := hI6.out.ge; omega), hK7.trans (KeepBut.of_grown hg6 g) (.inr ⟨gb, rfl, hgb⟩)⟩
set_option maxRecDepth 100000 in
set_option maxHeartbeats 4000000 in
theorem any_case2 (k g : Nat) (s0 : List Int) (s1 : Int) (w0 w : World) (hI : IsS116 w0 w g s0 s1) (hB : Below w0.heap.size w0 w) (a : List Tk) (a2 p p2 q q2 : Int) (hpos : 0 < a.length) (hp0 : 0 ≤ p) (hp1 : p < (a.length : Int)) (h1 : spec_someGraph.f k s0 s1 8 = some (a, a2)) (h2 : spec_reader_pick.f k s0 a2 (a.length : Int) = some (p, p2)) (h3 : spec_reader_pick.f k s0 p2 24 = some (q, q2)) (hq : q = 2) (t t2 : Int) (h4 : spec_reader_one.f k s0 q2 [-1, 3] = some (t, t2)) : Calls Tryd.prog 81 #[.pointer (some ⟨g, 0, none⟩)] w (anyPost w0 w g s0  (a.set p.toNat { rd_T48 a p with f2 := t }) t2) := by
 have A1 := Aside0.mk h1
 have A2 := Aside0.mk h2
 have A3 := Aside0.mk h3
 clear h1 h2 h3
 have hz : ((a.length : Int) == 0) = false := beq_eq_false_iff_ne.2 (by omega)
 have hglt : g < w.heap.size := hI.lt
 have A4 := Aside0.mk h4
 clear h4
 have hq0 : (q == 0) = false := beq_eq_false_iff_ne.2 (by omega)
 have hq1 : (q == 1) = false := beq_eq_false_iff_ne.2 (by omega)
 have hq2 : (q == 2) = true := by simp [hq]
 have hp0' := eq_true hp0
 have hp1' := eq_true hp1
 go_enter Tryd.func81, Tryd.ntmps81
 go_wp2_with (first | (go_at_call 114; refine (spec_someGraph.calls k g s0 s1 8 a a2 w0 _ hI hB A1.out).mono ?_; rintro e w1 ⟨v1, rfl, hS1, hI1, hB1, hK1⟩; clear hI hB; obtain ⟨gb, cap, rfl, hgb, hgl, cells, hcells⟩ := Kd.S_form hS1 hpos) | (go_at_call 89; refine (spec_reader_pick.calls k g s0 a2 (a.length : Int) p p2 w0 _ hI1 hB1 A2.out).mono ?_; rintro e w2 ⟨rfl, hI2, hB2, hK2⟩; clear hI1 hB1) | (go_at_call 89; refine (spec_reader_pick.calls k g s0 p2 24 q q2 w0 _ hI2 hB2 A3.out).mono ?_; rintro e w3 ⟨rfl, hI3, hB3, hK3⟩; clear hI2 hB2) | (go_at_call 92; have hS3 : Kd.S k48 48 w3 w.heap.size (fun k => k ≠ g) (.slice (some ⟨gb, 0, none⟩) a.length cap) a := Kd.S_keep (Kd.S_keep (Kd.S_mono (Kd.S_bound hS1) (fun k hk => Nat.ne_of_gt (Nat.lt_of_lt_of_le hglt hk.2.1))) hK2 (fun k hk => hk)) hK3 (fun k hk => hk); have hK4 := (hK1.trans hK2 (.inl rfl)).trans hK3 (.inl rfl); clear hS1 hK1 hK2 hK3; have hN4 := cells_new w3 (.cells #[.int .i64 (-1), .int .i64 3] 3); have hI4 := hI3.alloc (.cells #[.int .i64 (-1), .int .i64 3] 3); have hB4 := hB3.alloc hB3.size (.cells #[.int .i64 (-1), .int .i64 3] 3); have hS4 := Kd.S_alloc hS3 (.cells #[.int .i64 (-1), .int .i64 3] 3); have hK5 := keep_alloc hK4 (.cells #[.int .i64 (-1), .int .i64 3] 3); have hsz := hI3.lt; refine (spec_reader_one.calls k g s0 q2 _ _ [-1, 3] t t2 w0 _ hI4 hB4 (C_lits (l := [-1, 3]) hN4 (by decide)) (by decide) (fun ad e _ => by cases e; show w3.heap.size ≠ g; omega) A4.out).mono ?_; rintro e w5 ⟨rfl, hI5, hB5, hK6⟩; have hS5 := Kd.S_keep hS4 hK6 (fun k hk => hk); obtain ⟨⟨u, hcu⟩, hfu, hput⟩ := S_put2 hS5 p hp0 hp1; have hK7 := hK5.trans hK6 (.inl rfl); have HPUT := Aside0.mk hput; have hI6 := Aside0.mk hI5; clear hS4 hS3 hI3 hB3 hK4 hI4 hB4 hN4 hK5 hK6 hput hI5))
 go_ret
 obtain ⟨hS6, hg6⟩ := HPUT.out t
 exact ⟨_, rfl, Kd.S_mono hS6 (fun _ _ => trivial), hI6.out.grown hg6 (fun e => by injection e with e; omega), below_put hg6 hB5 (Nat.le_refl _) (by have := hI6.out.ge; omega), hK7.trans (KeepBut.of_grown hg6 g) (.inr ⟨gb, rfl, hgb⟩)⟩
set_option maxRecDepth 100000 in
set_option maxHeartbeats 4000000 in
theorem any_case3 (k g : Nat) (s0 : List Int) (s1 : Int) (w0 w : World) (hI : IsS116 w0 w g s0 s1) (hB : Below w0.heap.size w0 w) (a : List Tk) (a2 p p2 q q2 : Int) (hpos : 0 < a.length) (hp0 : 0 ≤ p) (hp1 : p < (a.length : Int)) (h1 : spec_someGraph.f k s0 s1 8 = some (a, a2)) (h2 : spec_reader_pick.f k s0 a2 (a.length : Int) = some (p, p2)) (h3 : spec_reader_pick.f k s0 p2 24 = some (q, q2)) (hq : q = 3) (t t2 : Int) (h4 : spec_reader_one.f k s0 q2 [0, 5] = some (t, t2)) : Calls Tryd.prog 81 #[.pointer (some ⟨g, 0, none⟩)] w (anyPost w0 w g s0  (a.set p.toNat { rd_T48 a p with f3 := t }) t2) := by
 have A1 := Aside0.mk h1
 have A2 := Aside0.mk h2
 have A3 := Aside0.mk h3
 clear h1 h2 h3
 have hz : ((a.length : Int) == 0) = false := beq_eq_false_iff_ne.2 (by omega)
 have hglt : g < w.heap.size := hI.lt
 have A4 := Aside0.mk h4
 clear h4
 have hq0 : (q == 0) = false := beq_eq_false_iff_ne.2 (by omega)
 have hq1 : (q == 1) = false := beq_eq_false_iff_ne.2 (by omega)
 have hq2 : (q == 2) = false := beq_eq_false_iff_ne.2 (by omega)
 have hq3 : (q == 3) = true := by simp [hq]
 have hp0' := eq_true hp0
 have hp1' := eq_true hp1
 go_enter Tryd.func81, Tryd.ntmps81
 go_wp2_with (first | (go_at_call 114; refine (spec_someGraph.calls k g s0 s1 8 a a2 w0 _ hI hB A1.out).mono ?_; rintro e w1 ⟨v1, rfl, hS1, hI1, hB1, hK1⟩; clear hI hB; obtain ⟨gb, cap, rfl, hgb, hgl, cells, hcells⟩ := Kd.S_form hS1 hpos) | (go_at_call 89; refine (spec_reader_pick.calls k g s0 a2 (a.length : Int) p p2 w0 _ hI1 hB1 A2.out).mono ?_; rintro e w2 ⟨rfl, hI2, hB2, hK2⟩; clear hI1 hB1) | (go_at_call 89; refine (spec_reader_pick.calls k g s0 p2 24 q q2 w0 _ hI2 hB2 A3.out).mono ?_; rintro e w3 ⟨rfl, hI3, hB3, hK3⟩; clear hI2 hB2) | (go_at_call 92; have hS3 : Kd.S k48 48 w3 w.heap.size (fun k => k ≠ g) (.slice (some ⟨gb, 0, none⟩) a.length cap) a := Kd.S_keep (Kd.S_keep (Kd.S_mono (Kd.S_bound hS1) (fun k hk => Nat.ne_of_gt (Nat.lt_of_lt_of_le hglt hk.2.1))) hK2 (fun k hk => hk)) hK3 (fun k hk => hk); have hK4 := (hK1.trans hK2 (.inl rfl)).trans hK3 (.inl rfl); clear hS1 hK1 hK2 hK3; have hN4 := cells_new w3 (.cells #[.int .i64 0, .int .i64 5] 3); have hI4 := hI3.alloc (.cells #[.int .i64 0, .int .i64 5] 3); have hB4 := hB3.alloc hB3.size (.cells #[.int .i64 0, .int .i64 5] 3); have hS4 := Kd.S_alloc hS3 (.cells #[.int .i64 0, .int .i64 5] 3); have hK5 := keep_alloc hK4 (.cells #[.int .i64 0, .int .i64 5] 3); have hsz := hI3.lt; refine (spec_reader_one.calls k g s0 q2 _ _ [0, 5] t t2 w0 _ hI4 hB4 (C_lits (l := [0, 5]) hN4 (by decide)) (by decide) (fun ad e _ => by cases e; show w3.heap.size ≠ g; omega) A4.out).mono ?_; rintro e w5 ⟨rfl, hI5, hB5, hK6⟩; have hS5 := Kd.S_keep hS4 hK6 (fun k hk => hk); obtain ⟨⟨u, hcu⟩, hfu, hput⟩ := S_put3 hS5 p hp0 hp1; have hK7 := hK5.trans hK6 (.inl rfl); have HPUT := Aside0.mk hput; have hI6 := Aside0.mk hI5; clear hS4 hS3 hI3 hB3 hK4 hI4 hB4 hN4 hK5 hK6 hput hI5))
 go_ret
 obtain ⟨hS6, hg6⟩ := HPUT.out t
 exact ⟨_, rfl, Kd.S_mono hS6 (fun _ _ => trivial), hI6.out.grown hg6 (fun e => by injection e with e; omega), below_put hg6 hB5 (Nat.le_refl _) (by have := hI6.out.ge; omega), hK7.trans (KeepBut.of_grown hg6 g) (.inr ⟨gb, rfl, hgb⟩)⟩
theorem infoTask : (Tryd.prog.info? 48).map (fun i => (i.zero, i.size, i.bytes)) = some (some (.agg #[.int .i64 0, .slice none 0 0, .int .i64 0, .int .i64 0]), 4, 48) := by kernel_rfl
theorem zip_app (xs ys : List Tk) : (xs ++ ys).zipIdx = xs.zipIdx ++ ys.zipIdx xs.length := by rw [List.zipIdx_append]; simp
/-- Two rows' elements behind each other: the owners of the second one's rows are told anew. -/
theorem S_two {W : World} {b1 N : Nat} {ok : Nat → Prop} {v v2 : Value} {xs ys : List Tk} (h1 : Kd.S k48 48 W b1 (fun k => ok k ∧ k < N) v xs) (h2 : Kd.S k48 48 W N (fun _ => True) v2 ys) (hb : b1 ≤ N) :
  ∃ f A c, v2 = .slice A ys.length c ∧ (Kd.tag f k48).R 48 W b1 (fun k => ok k ∧ k < N) v xs.zipIdx ∧ ReadsRow ((Kd.tag f k48).M W b1 (fun k => N ≤ k)) 4 W A ys.length (ys.zipIdx xs.length) := by
 obtain ⟨f1, hf1⟩ := h1
 obtain ⟨f2, hf2⟩ := h2
 refine ⟨fun k => if k < N then f1 k else f2 k + xs.length, ?_⟩
 have hR2 := Kd.R_bound hf2
 obtain ⟨A, c, rfl, hl, hr⟩ := OwnRow.reads hR2.2
 rw [List.length_zipIdx] at hr
 refine ⟨A, c, by rw [List.length_zipIdx], Kd.R_tag hf1 (fun k hk _ => if_pos hk.2), by simp, hr.2.1, fun hn => ?_⟩
 obtain ⟨ad, e, hc⟩ := hr.2.2 hn
 refine ⟨ad, e, fun j p hj => ?_⟩
 rw [List.getElem?_zipIdx] at hj
 obtain ⟨x, hx, rfl⟩ := Option.map_eq_some_iff.1 hj
 obtain ⟨cs, h3, h4, h5⟩ := hc j (x, j) (by rw [List.getElem?_zipIdx, hx]; simp)
 refine ⟨cs, h3, ?_, h5⟩
 refine Kd.M_lower k48 hb (Kd.M_mono k48 (fun k hk => ?_) h4)
 have hk1 := hk.1.1.2.1
 have hk2 : f2 k = j := hk.2
 refine ⟨hk1, ?_⟩
 show (if k < N then f1 k else f2 k + xs.length) = xs.length + j
 rw [if_neg (by omega), hk2]
 omega
set_option maxRecDepth 100000 in
set_option maxHeartbeats 4000000 in
theorem any_case4 (k g : Nat) (s0 : List Int) (s1 : Int) (w0 w : World) (hI : IsS116 w0 w g s0 s1) (hB : Below w0.heap.size w0 w) (a : List Tk) (a2 p p2 q q2 : Int) (hpos : 0 < a.length) (hp0 : 0 ≤ p) (hp1 : p < (a.length : Int)) (h1 : spec_someGraph.f k s0 s1 8 = some (a, a2)) (h2 : spec_reader_pick.f k s0 a2 (a.length : Int) = some (p, p2)) (h3 : spec_reader_pick.f k s0 p2 24 = some (q, q2)) (hq : q = 4) (c : List Tk) (c2 : Int) (hlen : a.length + c.length < 1000) (h4 : spec_someGraph.f k s0 q2 8 = some (c, c2)) : Calls Tryd.prog 81 #[.pointer (some ⟨g, 0, none⟩)] w (anyPost w0 w g s0  (a ++ c) c2) := by
 have A1 := Aside0.mk h1
 have A2 := Aside0.mk h2
 have A3 := Aside0.mk h3
 clear h1 h2 h3
 have hz : ((a.length : Int) == 0) = false := beq_eq_false_iff_ne.2 (by omega)
 have hglt : g < w.heap.size := hI.lt
 have A4 := Aside0.mk h4
 clear h4
 have hq0 : (q == 0) = false := beq_eq_false_iff_ne.2 (by omega)
 have hq1 : (q == 1) = false := beq_eq_false_iff_ne.2 (by omega)
 have hq2 : (q == 2) = false := beq_eq_false_iff_ne.2 (by omega)
 have hq3 : (q == 3) = false := beq_eq_false_iff_ne.2 (by omega)
 have hq4 : (q == 4) = true := by simp [hq]
 go_enter Tryd.func81, Tryd.ntmps81
 go_wp2_with (first | (go_at_call 114; refine (spec_someGraph.calls k g s0 s1 8 a a2 w0 _ hI hB A1.out).mono ?_; rintro e w1 ⟨v1, rfl, hS1, hI1, hB1, hK1⟩; clear hI hB; obtain ⟨gb, cap, rfl, hgb, hgl, cells, hcells⟩ := Kd.S_form hS1 hpos) | (go_at_call 89; refine (spec_reader_pick.calls k g s0 a2 (a.length : Int) p p2 w0 _ hI1 hB1 A2.out).mono ?_; rintro e w2 ⟨rfl, hI2, hB2, hK2⟩; clear hI1 hB1) | (go_at_call 89; refine (spec_reader_pick.calls k g s0 p2 24 q q2 w0 _ hI2 hB2 A3.out).mono ?_; rintro e w3 ⟨rfl, hI3, hB3, hK3⟩; clear hI2 hB2) | (go_at_call 114; have hS3 : Kd.S k48 48 w3 w.heap.size (fun k => k ≠ g) (.slice (some ⟨gb, 0, none⟩) a.length cap) a := Kd.S_keep (Kd.S_keep (Kd.S_mono (Kd.S_bound hS1) (fun k hk => Nat.ne_of_gt (Nat.lt_of_lt_of_le hglt hk.2.1))) hK2 (fun k hk => hk)) hK3 (fun k hk => hk); have hK4 := (hK1.trans hK2 (.inl rfl)).trans hK3 (.inl rfl); clear hS1 hK1 hK2 hK3; have HGL3 := Aside0.mk hI3.lt; have HGB3 := Aside0.mk (Kd.S_lt hS3 gb (by simp [Value.ownBlock])); have hK4s := hK4.1; refine (spec_someGraph.calls k g s0 q2 8 c c2 w0 _ hI3 hB3 A4.out).mono ?_; rintro e w5 ⟨v2, rfl, hS5, hI5, hB5, hK5⟩; have hS4 : Kd.S k48 48 w5 w.heap.size (fun k => k ≠ g ∧ k < w3.heap.size) _ a := Kd.S_keep (Kd.S_mono (Kd.S_bound hS3) (fun k hk => ⟨hk.1, hk.2.2.1⟩)) hK5 (fun k hk => hk.1); obtain ⟨f, A, cc, rfl, hR6, hRR⟩ := S_two hS4 hS5 hK4s; have hK6 := hK4.trans hK5 (.inl rfl); have HR6 := Aside0.mk hR6; have HRR := Aside0.mk hRR; have HI5 := Aside0.mk hI5; have HB5 := Aside0.mk hB5; have HK6 := Aside0.mk hK6; have HLE := Aside0.mk hK5.1; clear hS3 hS4 hS5 hI3 hB3 hK4 hK5 hR6 hRR hI5 hB5 hK6 hK4s) | ((with_reducible refine gate_builtin (b := .append) (xs := #[.tmp 65, .tmp 67]) rfl ?_); go_loud (at_builtin; have hgb3 : gb < w3.heap.size := HGB3.out; have hle5 : w.heap.size ≤ w5.heap.size := HK6.out.1; refine Kd.R_append_rows (Kd.tag f k48) (w0 := w5) w.heap.size rfl (.tmp 65) (.tmp 67) 26 48 (.agg #[.int .i64 0, .slice none 0 0, .int .i64 0, .int .i64 0]) 48 rfl Tryd.underlying26 infoTask rfl (show 0 < 4 from by decide) (by decide) (.slice (some ⟨gb, 0, none⟩) a.length cap) a.zipIdx (c.zipIdx a.length) A c.length cc (fun k => k ≠ g) (fun k => w3.heap.size ≤ k) rfl rfl (Kd.R_mono HR6.out (fun _ hk => hk.1)) HRR.out (fun _ _ h => h) (fun k (hk : w3.heap.size ≤ k) => ⟨Nat.ne_of_gt (Nat.lt_of_lt_of_le HGL3.out hk), fun e => by have e2 : k = gb := (by simpa [Value.ownBlock] using e); omega⟩) (fun k hk => Nat.ne_of_gt (Nat.lt_of_lt_of_le HI5.out.lt hk)) (Below.refl _ _) hle5 (by simp; omega) ?_; intro v6 w6 ho hb hg hat)))
 go_ret
 have hS6 : Kd.S k48 48 w6 w.heap.size (fun k => k ≠ g) v6 (a ++ c) := ⟨f, by rw [zip_app]; exact ho⟩
 have hg' : w5.grownBy w6 (some gb) := by simpa [Value.ownBlock] using hg
 have hI6 := HI5.out.grown hg' (fun e => by injection e with e; omega)
 exact ⟨_, rfl, Kd.S_mono hS6 (fun _ _ => trivial), hI6, below_put hg' HB5.out (Nat.le_refl _) (by have := HI5.out.ge; omega), HK6.out.trans (KeepBut.of_grown hg' g) (.inr ⟨gb, rfl, hgb⟩)⟩
theorem infoInt_ : (Tryd.prog.info? 3).map (fun i => (i.zero, i.size, i.bytes)) = some (some (.int .i64 0), 1, 8) := by kernel_rfl
set_option maxRecDepth 100000 in
set_option maxHeartbeats 4000000 in
theorem any_case1 (k g : Nat) (s0 : List Int) (s1 : Int) (w0 w : World) (hI : IsS116 w0 w g s0 s1) (hB : Below w0.heap.size w0 w) (a : List Tk) (a2 p p2 q q2 : Int) (hpos : 0 < a.length) (hp0 : 0 ≤ p) (hp1 : p < (a.length : Int)) (h1 : spec_someGraph.f k s0 s1 8 = some (a, a2)) (h2 : spec_reader_pick.f k s0 a2 (a.length : Int) = some (p, p2)) (h3 : spec_reader_pick.f k s0 p2 24 = some (q, q2)) (hq : q = 1) (b b2 : Int) (r : List Int) (r2 : Int) (h4 : spec_reader_pick.f k s0 q2 (a.length : Int) = some (b, b2)) (hlen : (rd_T48 a p).f1.length < 1000) (h5 : spec_reader_spoil.f k s0 b2 ((rd_T48 a p).f1 ++ [b]) 8 = some (r, r2)) : Calls Tryd.prog 81 #[.pointer (some ⟨g, 0, none⟩)] w (anyPost w0 w g s0  (a.set p.toNat { rd_T48 a p with f1 := r }) r2) := by
 have A1 := Aside0.mk h1
 have A2 := Aside0.mk h2
 have A3 := Aside0.mk h3
 clear h1 h2 h3
 have hz : ((a.length : Int) == 0) = false := beq_eq_false_iff_ne.2 (by omega)
 have hglt : g < w.heap.size := hI.lt
 have A4 := Aside0.mk h4
 have A5 := Aside0.mk h5
 clear h4 h5
 have hq0 : (q == 0) = false := beq_eq_false_iff_ne.2 (by omega)
 have hq1 : (q == 1) = true := by simp [hq]
 go_enter Tryd.func81, Tryd.ntmps81
 go_wp2_with (first | (go_at_call 114; refine (spec_someGraph.calls k g s0 s1 8 a a2 w0 _ hI hB A1.out).mono ?_; rintro e w1 ⟨v1, rfl, hS1, hI1, hB1, hK1⟩; clear hI hB; obtain ⟨gb, cap, rfl, hgb, hgl, cells, hcells⟩ := Kd.S_form hS1 hpos) | (go_at_call 89; refine (spec_reader_pick.calls k g s0 a2 (a.length : Int) p p2 w0 _ hI1 hB1 A2.out).mono ?_; rintro e w2 ⟨rfl, hI2, hB2, hK2⟩; clear hI1 hB1) | (go_at_call 89; refine (spec_reader_pick.calls k g s0 p2 24 q q2 w0 _ hI2 hB2 A3.out).mono ?_; rintro e w3 ⟨rfl, hI3, hB3, hK3⟩; clear hI2 hB2))
 have hS3 : Kd.S k48 48 w3 w.heap.size (fun k => k ≠ g) (.slice (some ⟨gb, 0, none⟩) a.length cap) a := Kd.S_keep (Kd.S_keep (Kd.S_mono (Kd.S_bound hS1) (fun k hk => Nat.ne_of_gt (Nat.lt_of_lt_of_le hglt hk.2.1))) hK2 (fun k hk => hk)) hK3 (fun k hk => hk)
 have hK4 := (hK1.trans hK2 (.inl rfl)).trans hK3 (.inl rfl)
 clear hS1 hK1 hK2 hK3
 have hp0' := eq_true hp0
 have hp1' := eq_true hp1
 have hS3b : Kd.S k48 48 w3 w.heap.size (fun k => k ≠ g ∧ k < w3.heap.size) (.slice (some ⟨gb, 0, none⟩) a.length cap) a := Kd.S_mono (Kd.S_bound hS3) (fun k hk => ⟨hk.1, hk.2.2.1⟩)
 obtain ⟨oki, c, hcl, hM, hcc, hfr, hoki, hH⟩ := Kd.S_elem hS3b z48 p hp0 hp1
 obtain ⟨v4, rfl, g4⟩ := k48_openM hM
 clear hS3b
 have hx1 : w3.cell? ⟨gb, p.toNat * 4 + 1, none⟩ = some v4 := hcc 1 _ rfl
 have hgb3 : gb < w3.heap.size := Kd.S_lt hS3 gb (by simp [Value.ownBlock])
 clear hcc hfr hM hcl hS3
 have hI4 : IsS116 w0 w3.drew g s0 q2 := hI3.drew
 have hB4 : Below w0.heap.size w0 w3.drew := below_drew1 hB3
 have hK4' : KeepBut w w3.drew g none := keep_drew hK4
 have hH4 := Kd.H_drew hH
 have g4' := Kd.Q_drew g4
 have hsz4 : w3.drew.heap.size = w3.heap.size := rfl
 have hd4 : Below w3.heap.size w3 w3.drew := below_drew (Below.refl _ _)
 refine start_ (n := 18) (S := fun w' => w'.cell? ⟨gb, p.toNat * 4 + 1, none⟩ = some v4) (ds := [13, 14, 15, 16, 17]) #[F6q,F6q,F6q,F6q,F6q,F6q,F6q,F6q,F6q,F6q,F6q,F6q,F6q,F6q,F6q,F6q,F6q,F6q] rfl (by kernel_rfl) rfl ((hd4.cell hgb3).trans hx1) (fun hHeld => ?_)
 revert hI4 hB4 hK4' hH4 g4' hsz4 hHeld
 generalize w3.drew = w4
 intro hI4 hB4 hK4' hH4 g4' hsz4 hHeld
 clear hI3 hB3 hK4 hH g4 hx1 hd4
 refine pure_ (i := 0) (N := some 28) (v := ?_) (a' := ?_) #[T6q,F6q,F6q,F6q,F6q,F6q,F6q,F6q,F6q,F6q,F6q,F6q,F6q,F6q,F6q,F6q,F6q,F6q] rfl rfl (by kernel_rfl) (fun _ _ _ h => h) (Or.inl ⟨by rfl, ?_⟩) ?_ ?_
 rotate_left
 ·intro w'
  go_simp
  with_reducible rfl
 rotate_left
 ·simp only [Act.put, List.setIfInBounds_toArray, List.set_cons_zero, List.set_cons_succ, i64_w, i32_w]
  rfl
 refine pure_ (i := 1) (N := some 29) (v := ?_) (a' := ?_) #[T6q,T6q,F6q,F6q,F6q,F6q,F6q,F6q,F6q,F6q,F6q,F6q,F6q,F6q,F6q,F6q,F6q,F6q] rfl rfl (by kernel_rfl) (fun _ _ _ h => h) (Or.inl ⟨by rfl, ?_⟩) ?_ ?_
 rotate_left
 ·intro w'
  go_simp
  with_reducible rfl
 rotate_left
 ·simp only [Act.put, List.setIfInBounds_toArray, List.set_cons_zero, List.set_cons_succ, i64_w, i32_w]
  rfl
 refine pure_ (i := 2) (N := some 30) (v := ?_) (a' := ?_) #[T6q,T6q,T6q,F6q,F6q,F6q,F6q,F6q,F6q,F6q,F6q,F6q,F6q,F6q,F6q,F6q,F6q,F6q] rfl rfl (by kernel_rfl) (fun _ _ _ h => h) (Or.inl ⟨by rfl, ?_⟩) ?_ ?_
 rotate_left
 ·intro w'
  go_simp
  with_reducible rfl
 rotate_left
 ·simp only [Act.put, List.setIfInBounds_toArray, List.set_cons_zero, List.set_cons_succ, i64_w, i32_w]
  rfl
 refine pure_ (i := 3) (N := some 31) (v := ?_) (a' := ?_) #[T6q,T6q,T6q,T6q,F6q,F6q,F6q,F6q,F6q,F6q,F6q,F6q,F6q,F6q,F6q,F6q,F6q,F6q] rfl rfl (by kernel_rfl) (fun _ _ _ h => h) (Or.inl ⟨by rfl, ?_⟩) ?_ ?_
 rotate_left
 ·intro w'
  go_simp
  with_reducible rfl
 rotate_left
 ·simp only [Act.put, List.setIfInBounds_toArray, List.set_cons_zero, List.set_cons_succ, i64_w, i32_w]
  rfl
 refine pure_ (i := 4) (N := some 32) (v := ?_) (a' := ?_) #[T6q,T6q,T6q,T6q,T6q,F6q,F6q,F6q,F6q,F6q,F6q,F6q,F6q,F6q,F6q,F6q,F6q,F6q] rfl rfl (by kernel_rfl) (fun _ _ _ h => h) (Or.inl ⟨by rfl, ?_⟩) ?_ ?_
 rotate_left
 ·intro w'
  go_simp
  with_reducible rfl
 rotate_left
 ·simp only [Act.put, List.setIfInBounds_toArray, List.set_cons_zero, List.set_cons_succ, i64_w, i32_w]
  rfl
 refine pure_ (i := 5) (N := some 33) (v := ?_) (a' := ?_) #[T6q,T6q,T6q,T6q,T6q,T6q,F6q,F6q,F6q,F6q,F6q,F6q,F6q,F6q,F6q,F6q,F6q,F6q] rfl rfl (by kernel_rfl) (fun _ _ _ h => h) (Or.inl ⟨by rfl, ?_⟩) ?_ ?_
 rotate_left
 ·intro w'
  go_simp
  with_reducible rfl
 rotate_left
 ·simp only [Act.put, List.setIfInBounds_toArray, List.set_cons_zero, List.set_cons_succ, i64_w, i32_w]
  rfl
 refine pure_ (i := 6) (N := some 34) (v := ?_) (a' := ?_) #[T6q,T6q,T6q,T6q,T6q,T6q,T6q,F6q,F6q,F6q,F6q,F6q,F6q,F6q,F6q,F6q,F6q,F6q] rfl rfl (by kernel_rfl) (fun _ _ _ h => h) (Or.inl ⟨by rfl, ?_⟩) ?_ ?_
 rotate_left
 ·intro w'
  go_simp
  with_reducible rfl
 rotate_left
 ·simp only [Act.put, List.setIfInBounds_toArray, List.set_cons_zero, List.set_cons_succ, i64_w, i32_w]
  rfl
 refine take_ (i := 7) (N := some 35) (v := ?_) (a' := ?_) #[T6q,T6q,T6q,T6q,T6q,T6q,T6q,T6q,F6q,F6q,F6q,F6q,F6q,F6q,F6q,F6q,F6q,F6q] rfl rfl (by kernel_rfl) (fun _ _ _ h => h) (Or.inl ⟨by rfl, ?_⟩) hHeld ?_ ?_
 rotate_left
 ·rintro w' hc
  go_simp
  with_reducible rfl
 rotate_left
 ·simp only [Act.put, List.setIfInBounds_toArray, List.set_cons_zero, List.set_cons_succ, i64_w, i32_w]
  rfl
 refine pure_ (i := 8) (N := some 36) (v := ?_) (a' := ?_) #[T6q,T6q,T6q,T6q,T6q,T6q,T6q,T6q,T6q,F6q,F6q,F6q,F6q,F6q,F6q,F6q,F6q,F6q] rfl rfl (by kernel_rfl) (fun _ _ _ h => h) (Or.inl ⟨by rfl, ?_⟩) ?_ ?_
 rotate_left
 ·intro w'
  go_simp
  with_reducible rfl
 rotate_left
 ·simp only [Act.put, List.setIfInBounds_toArray, List.set_cons_zero, List.set_cons_succ, i64_w, i32_w]
  rfl
 refine pure_ (i := 9) (N := some 37) (v := ?_) (a' := ?_) #[T6q,T6q,T6q,T6q,T6q,T6q,T6q,T6q,T6q,T6q,F6q,F6q,F6q,F6q,F6q,F6q,F6q,F6q] rfl rfl (by kernel_rfl) (fun _ _ _ h => h) (Or.inl ⟨by rfl, ?_⟩) ?_ ?_
 rotate_left
 ·intro w'
  go_simp
  with_reducible rfl
 rotate_left
 ·simp only [Act.put, List.setIfInBounds_toArray, List.set_cons_zero, List.set_cons_succ, i64_w, i32_w]
  rfl
 refine pure_ (i := 10) (N := some 38) (v := ?_) (a' := ?_) #[T6q,T6q,T6q,T6q,T6q,T6q,T6q,T6q,T6q,T6q,T6q,F6q,F6q,F6q,F6q,F6q,F6q,F6q] rfl rfl (by kernel_rfl) (fun _ _ _ h => h) (Or.inl ⟨by rfl, ?_⟩) ?_ ?_
 rotate_left
 ·intro w'
  go_simp
  with_reducible rfl
 rotate_left
 ·simp only [Act.put, List.setIfInBounds_toArray, List.set_cons_zero, List.set_cons_succ, i64_w, i32_w]
  rfl
 refine one_ (i := 11) (N := some 39) #[T6q,T6q,T6q,T6q,T6q,T6q,T6q,T6q,T6q,T6q,T6q,T6q,F6q,F6q,F6q,F6q,F6q,F6q] rfl rfl (by kernel_rfl) (by decide) (fun K hK => ?_)
 refine goes_ Tryd.func89 (by kernel_rfl) rfl #[.pointer (some ⟨g, 0, none⟩), .int .i64 (a.length : Int)] (by rfl) rfl rfl (by (try simp only [List.map_toArray, List.map_cons, List.map_nil]); rfl) ?_
 refine (spec_reader_pick.calls k g s0 q2 (a.length : Int) b b2 w0 _ hI4 hB4 A4.out).mono ?_
 rintro e w5 ⟨rfl, hI5, hB5, hK5⟩
 have hgb4 : gb < w4.heap.size := by omega
 have hne : gb ≠ g := by have := Nat.lt_of_lt_of_le hglt hgb; omega
 refine ⟨_, rfl, hK.out _ _ (keep_cell hK5 hHeld hne) (fun hHeld5 => ?_)⟩
 clear hK K
 refine norm_ (a' := ?_) ?_ ?_
 rotate_left
 ·show Act.put _ (some 39) _ = _
  simp only [Act.put, List.setIfInBounds_toArray, List.set_cons_zero, List.set_cons_succ, i64_w, i32_w]
  rfl
 have hH5 := Kd.H_keep hH4 hK5 (fun k hk => hk.1)
 have g5 := Kd.Q_keep g4' hK5 (fun k hk => (hoki k hk).1.1)
 have hg5lt := hI5.lt
 have hK6 := hK4'.trans hK5 (.inl rfl)
 have hsz5 : w3.heap.size ≤ w5.heap.size := by rw [← hsz4]; exact hK5.1
 clear hH4 g4' hK5 hK4' hI4 hB4 hHeld hsz4
 refine one_ (i := 12) (N := some 40) #[T6q,T6q,T6q,T6q,T6q,T6q,T6q,T6q,T6q,T6q,T6q,T6q,T6q,F6q,F6q,F6q,F6q,F6q] rfl rfl (by kernel_rfl) (by decide) (fun K hK => ?_)
 refine value_ (w1 := w5.alloc (.cells #[.int .i64 b] 3)) (v := .slice (some ⟨w5.heap.size, 0, none⟩) 1 1) (by rfl) rfl ?_ ?_
 ·go_simp; try rfl
 refine hK.out _ _ ((((Below.refl w5.heap.size w5).alloc (Nat.le_refl _) (.cells #[.int .i64 b] 3)).cell (show gb < w5.heap.size by omega)).trans hHeld5) (fun hHeld6 => ?_)
 clear hK K
 refine norm_ (a' := ?_) ?_ ?_
 rotate_left
 ·simp only [Act.put, List.setIfInBounds_toArray, List.set_cons_zero, List.set_cons_succ, i64_w, i32_w]
  rfl
 refine last_ (i := 13) (N := some 41) #[T6q,T6q,T6q,T6q,T6q,T6q,T6q,T6q,T6q,T6q,T6q,T6q,T6q,T6q,F6q,F6q,F6q,F6q] rfl rfl (by kernel_rfl) (by decide) (fun K hK => ?_)
 refine Kd.Q_append_step (Kd.int .i64) (w0 := w5) w.heap.size (by rfl) (.tmp 35) (.tmp 40) 23 3 (.int .i64 0) 8 rfl Tryd.underlying23 infoInt_ rfl (by decide) (by decide) v4 (rd_T48 a p).f1 b [.int .i64 b] (fun k => oki k ∨ w5.heap.size ≤ k) (fun _ => False) rfl rfl rfl (fun _ h => h.elim) (fun _ hk => .inr hk) (Kd.Q_mono g5 (fun _ hk => .inl hk)) (Below.refl _ _) hK6.1 (by omega) ?_
 intro v7 w7 hQ7 hB7 hg7 hat7
 refine hK.out _ _ ?_
 clear hK K
 refine norm_ (a' := ?_) ?_ ?_
 rotate_left
 ·simp only [Act.put, List.setIfInBounds_toArray, List.set_cons_zero, List.set_cons_succ, i64_w, i32_w]
  rfl
 have hvo : ∀ k, v4.ownBlock = some k → oki k := fun k hk => g5.1 k hk
 have hH7 := Kd.H_grown hH5 hg7 hvo
 have hI7 := hI5.grown hg7 (fun e => (hoki g (hvo g e.symm)).1.1 rfl)
 have hB8 : Below w0.heap.size w0 w7 := by
  refine ⟨hg7.os.trans hB5.os, hg7.tape.trans hB5.tape, hg7.output.trans hB5.output, Nat.le_trans hB5.size hg7.size, fun k hk => (hg7.block k (Nat.lt_of_lt_of_le hk hB5.size) (fun e => ?_)).trans (hB5.block k hk)⟩
  have h1 := Kd.Q_base g5 k e.symm
  have h2 := hI5.ge
  omega
 have hK8 : KeepBut w w7 g none := ⟨Nat.le_trans hK6.1 hg7.size, fun k hk hkg hn => (hg7.block k (Nat.lt_of_lt_of_le hk hK6.1) (fun e => by have := Kd.Q_base g5 k e.symm; omega)).trans (hK6.2 k hk hkg hn)⟩
 have hsz7 := hg7.size
 obtain ⟨A7, c7, rfl, hl7, hC7⟩ := Kd.Q_reads hQ7
 have hlen7 : ((rd_T48 a p).f1 ++ [b]).length = (rd_T48 a p).f1.length + 1 := by simp
 have hQg := hQ7.1
 clear hH5 g5 hI5 hB5 hK6 hHeld5 hHeld6
 refine last_ (i := 14) (N := some 42) #[T6q,T6q,T6q,T6q,T6q,T6q,T6q,T6q,T6q,T6q,T6q,T6q,T6q,T6q,T6q,F6q,F6q,F6q] rfl rfl (by kernel_rfl) (by decide) (fun K hK => ?_)
 refine goes_ Tryd.func91 (by kernel_rfl) rfl #[.pointer (some ⟨g, 0, none⟩), .slice A7 ((rd_T48 a p).f1 ++ [b]).length c7, .int .i64 8] (by rfl) rfl rfl (by (try simp only [List.map_toArray, List.map_cons, List.map_nil]); rfl) ?_
 refine (spec_reader_spoil.calls k g s0 b2 A7 c7 ((rd_T48 a p).f1 ++ [b]) 8 r r2 w0 _ hI7 hB8 hC7 hl7 (fun ad e hpos7 => ?_) A5.out).mono ?_
 ·subst e
  rcases hQg ad.block (by simp [Value.ownBlock]) with h | h
  ·exact (hoki _ h).1.1
  ·exact Nat.ne_of_gt (Nat.lt_of_lt_of_le hg5lt h)
 rintro e w9 ⟨v9, rfl, hQ9, hI9, hB9, hK9⟩
 refine ⟨_, rfl, hK.out _ _ ?_⟩
 clear hK K
 refine norm_ (a' := ?_) ?_ ?_
 rotate_left
 ·simp only [Act.put, List.setIfInBounds_toArray, List.set_cons_zero, List.set_cons_succ, i64_w, i32_w]
  rfl
 have hH9 := Kd.H_keep hH7 hK9 (fun k hk => hk.1)
 have hH10 := Kd.H_mono (ok' := fun k => k ≠ g ∧ ¬ (w7.heap.size ≤ k)) hH9 (fun k hk => ⟨hk.1, by omega⟩)
 obtain ⟨hS11, hg11⟩ := Kd.S_seg (okg := fun k => w7.heap.size ≤ k) hH10 hp0 hp1 (seg := [v9]) (j := 1) (show 1 + 1 ≤ 4 from by decide) (x' := { rd_T48 a p with f1 := r }) (mkQ _ _ _ { rd_T48 a p with f1 := r } (Kd.Q_mono (Kd.Q_lower (Kd.Q_bound hQ9) (show w.heap.size ≤ w7.heap.size by have := hK8.1; omega)) (fun k hk => hk.2.1))) (fun k hk => .inr hk) (fun k hk => ⟨Nat.ne_of_gt (Nat.lt_of_lt_of_le hI7.lt hk), by omega⟩)
 obtain ⟨rows, _, hraw, _, _, hcc9, _⟩ := Kd.H_raw hH10 hp0 hp1
 have hcell9 : w9.cell? ⟨gb, p.toNat * 4 + 1, none⟩ = some v4 := hcc9 1 _ rfl
 obtain ⟨cs9, hcs9⟩ := Kd.R_typed hraw gb (by simp [Value.ownBlock])
 have hfz9 : w9.frozen? ⟨gb, p.toNat * 4 + 1, none⟩ = false := by simp [World.frozen?, hcs9]
 clear hraw hcc9 hcs9 hH10 hH9
 have hsl9 := Kd.Q_slice hQ9
 refine pure_ (i := 15) (N := some 43) (v := ?_) (a' := ?_) #[T6q,T6q,T6q,T6q,T6q,T6q,T6q,T6q,T6q,T6q,T6q,T6q,T6q,T6q,T6q,T6q,F6q,F6q] rfl rfl (by kernel_rfl) (fun _ _ _ h => h) (Or.inl ⟨by rfl, ?_⟩) ?_ ?_
 rotate_left
 ·intro w'
  go_simp
  with_reducible rfl
 rotate_left
 ·simp only [Act.put, List.setIfInBounds_toArray, List.set_cons_zero, List.set_cons_succ, i64_w, i32_w]
  rfl
 refine pure_ (i := 16) (N := some 44) (v := ?_) (a' := ?_) #[T6q,T6q,T6q,T6q,T6q,T6q,T6q,T6q,T6q,T6q,T6q,T6q,T6q,T6q,T6q,T6q,T6q,F6q] rfl rfl (by kernel_rfl) (fun _ _ _ h => h) (Or.inl ⟨by rfl, ?_⟩) ?_ ?_
 rotate_left
 ·intro w'
  go_simp
  with_reducible rfl
 rotate_left
 ·simp only [Act.put, List.setIfInBounds_toArray, List.set_cons_zero, List.set_cons_succ, i64_w, i32_w]
  rfl
 obtain ⟨A9, c9, hv9, _⟩ := hsl9
 refine last_ (i := 17) (N := none) #[T6q,T6q,T6q,T6q,T6q,T6q,T6q,T6q,T6q,T6q,T6q,T6q,T6q,T6q,T6q,T6q,T6q,T6q] rfl rfl (by kernel_rfl) (by decide) (fun K hK => ?_)
 refine skip_ (w1 := w9.setCell ⟨gb, p.toNat * 4 + 1, none⟩ v9) (by rfl) rfl ?_ ?_
 ·subst hv9; go_simp
 refine hK.out _ _ ?_
 clear hK K
 refine done_ (by kernel_rfl) ?_
 have hS12 : Kd.S k48 48 (w9.setCell ⟨gb, p.toNat * 4 + 1, none⟩ v9) w.heap.size (fun k => k ≠ g) _ _ := hS11
 have hg12 : w9.grownBy (w9.setCell ⟨gb, p.toNat * 4 + 1, none⟩ v9) (some gb) := hg11
 have hI12 := hI9.grown hg12 (fun e => by injection e with e; have := Nat.lt_of_lt_of_le hglt hgb; omega)
 have hB12 := below_put hg12 hB9 (Nat.le_refl _) (by have := hI9.ge; omega)
 have hK12 := (hK8.trans hK9 (.inl rfl)).trans (KeepBut.of_grown hg12 g) (.inr ⟨gb, rfl, hgb⟩)
 revert hS12 hI12 hB12 hK12
 generalize w9.setCell ⟨gb, p.toNat * 4 + 1, none⟩ v9 = w13
 intro hS12 hI12 hB12 hK12
 clear hS11 hg11 hg12
 go_wp2
 go_ret
 exact ⟨_, rfl, Kd.S_mono hS12 (fun _ _ => trivial), hI12, hB12, hK12⟩
end Go.Proofs.YtpibdjkajgfgjaaDoor.Core
namespace Go.Proofs.YtpibdjkajgfgjaaDoor.P
open Go Go.RowKit Go.Shelf Go.Proofs.YtpibdjkajgfgjaaDoorW.PrintWords Go.Proofs.YtpibdjkajgfgjaaDoorW.PrintMore Go.Proofs.YtpibdjkajgfgjaaDoor.Core
noncomputable def spec_anyGraph.f (s0_0 : List Int) (s0_1 : Int) : Option (List S48 × Int) := lim (fun k => spec_anyGraph.fk k s0_0 s0_1)
theorem spec_anyGraph.calls (g : Nat) (s0_0 : List Int) (s0_1 : Int) (r1 : List S48) (r2 : Int) (w0 w : World) (hI : IsS116 w0 w g s0_0 s0_1) (hB : Below w0.heap.size w0 w) (h : spec_anyGraph.f s0_0 s0_1 = some (r1, r2)) :
  Calls Tryd.prog 81 #[.pointer (some ⟨g, 0, none⟩)] w fun e w' => ∃ v0_ : Value, e = .returned (v0_) ∧ Kd.S k48 48 w' w.heap.size (fun _ => True) v0_ r1 ∧ IsS116 w0 w' g s0_0 r2 ∧ Below w0.heap.size w0 w' ∧ KeepBut w w' g none := by
 obtain ⟨k, hk⟩ := lim_some h
 clear h
 unfold spec_anyGraph.fk at hk
 obtain ⟨⟨a, a2⟩, h1, hk⟩ := Option.bind_eq_some_iff.1 hk
 by_cases hl : a.length = 0
 ·rw [if_pos hl] at hk
  cases hk
  obtain rfl := List.eq_nil_of_length_eq_zero hl
  exact any_empty k g s0_0 s0_1 w0 w hI hB _ h1
 ·rw [if_neg hl] at hk
  obtain ⟨⟨p, p2⟩, h2, hk⟩ := Option.bind_eq_some_iff.1 hk
  obtain ⟨⟨q, q2⟩, h3, hk⟩ := Option.bind_eq_some_iff.1 hk
  by_cases hp : ¬ (0 ≤ p ∧ p < (a.length : Int))
  ·rw [if_pos hp] at hk; cases hk
  ·rw [if_neg hp] at hk
   obtain ⟨hp0, hp1⟩ := Decidable.not_not.1 hp
   have hpos : 0 < a.length := by omega
   by_cases e0 : q = 0
   ·rw [if_pos e0] at hk
    obtain ⟨⟨t, t2⟩, h4, hk⟩ := Option.bind_eq_some_iff.1 hk
    cases hk
    exact any_case0 k g s0_0 s0_1 w0 w hI hB a a2 p p2 q q2 hpos hp0 hp1 h1 h2 h3 e0 t _ h4
   ·rw [if_neg e0] at hk
    by_cases e1 : q = 1
    ·rw [if_pos e1] at hk
     obtain ⟨⟨b, b2⟩, h4, hk⟩ := Option.bind_eq_some_iff.1 hk
     by_cases hlen : (rd_T48 a p).f1.length < 1000
     ·simp only [hlen, if_true] at hk
      obtain ⟨⟨c, c2⟩, h5, hk⟩ := Option.bind_eq_some_iff.1 hk
      cases hk
      exact any_case1 k g s0_0 s0_1 w0 w hI hB a a2 p p2 q q2 hpos hp0 hp1 h1 h2 h3 e1 b b2 c _ h4 hlen h5
     ·simp only [hlen, if_false] at hk; cases hk
    ·rw [if_neg e1] at hk
     by_cases e2 : q = 2
     ·rw [if_pos e2] at hk
      obtain ⟨⟨t, t2⟩, h4, hk⟩ := Option.bind_eq_some_iff.1 hk
      cases hk
      exact any_case2 k g s0_0 s0_1 w0 w hI hB a a2 p p2 q q2 hpos hp0 hp1 h1 h2 h3 e2 t _ h4
     ·rw [if_neg e2] at hk
      by_cases e3 : q = 3
      ·rw [if_pos e3] at hk
       obtain ⟨⟨t, t2⟩, h4, hk⟩ := Option.bind_eq_some_iff.1 hk
       cases hk
       exact any_case3 k g s0_0 s0_1 w0 w hI hB a a2 p p2 q q2 hpos hp0 hp1 h1 h2 h3 e3 t _ h4
      ·rw [if_neg e3] at hk
       by_cases e4 : q = 4
       ·rw [if_pos e4] at hk
        obtain ⟨⟨c, c2⟩, h4, hk⟩ := Option.bind_eq_some_iff.1 hk
        by_cases hlen : a.length + c.length < 1000
        ·simp only [hlen, if_true] at hk
         cases hk
         exact any_case4 k g s0_0 s0_1 w0 w hI hB a a2 p p2 q q2 hpos hp0 hp1 h1 h2 h3 e4 c _ hlen h4
        ·simp only [hlen, if_false] at hk; cases hk
       ·rw [if_neg e4] at hk
        cases hk
        exact any_same k g s0_0 s0_1 w0 w hI hB a a2 p p2 q _ hpos hp0 hp1 h1 h2 h3 ⟨e0, e1, e2, e3, e4⟩
end Go.Proofs.YtpibdjkajgfgjaaDoor.P
namespace Go.Proofs.YtpibdjkajgfgjaaDoor.Core
end Go.Proofs.YtpibdjkajgfgjaaDoor.Core
end
section
namespace Go.Proofs.YtpibdjkajgfgjaaDoor.P
open Go.RowKit Go.Proofs.YtpibdjkajgfgjaaDoorW.PrintWords Go.Proofs.YtpibdjkajgfgjaaDoorW.PrintLast Go.Proofs.YtpibdjkajgfgjaaDoorW.PrintMore
attribute [local go_sem] max2_int min2_int max_two min_two max_three min_three max_four min_four   -- for this text's walks alone
set_option linter.unusedVariables false
set_option linter.unusedSimpArgs false
noncomputable def spec_DrawWithoutUseless.f (l0 : List Int) : Option ((List (S48))) := (spec_newReader.f l0).bind fun bt600 => ((spec_anyGraph.f bt600.1 bt600.2).bind fun bt603 => (some bt603.1))
set_option maxHeartbeats 8000000 in
set_option maxRecDepth 100000 in
theorem spec_DrawWithoutUseless.calls (A0 : Option Addr) (c0 : Nat) (l0 : List Int) (r : List (S48)) (w : World) (hr0 : Kd.C (Kd.int .u8) w A0 l0.length l0) (hc0 : l0.length ≤ c0) (h : spec_DrawWithoutUseless.f l0 = some r) :
  Calls Tryd.prog 39 #[.slice A0 l0.length c0] w fun e w' => ∃ v0_ : Value, e = .returned (v0_) ∧ Kd.S k48 48 w' w.heap.size (fun _ => True) v0_ r ∧ Below w.heap.size w w' := by
 have HR0 := Aside0.mk hr0
 have HC0 := Aside0.mk hc0
 clear hr0 hc0
 have HB := Aside0.mk (Below.refl w.heap.size w)
 have H : ((spec_newReader.f l0).bind fun bt600 => ((spec_anyGraph.f bt600.1 bt600.2).bind fun bt603 => (some bt603.1))) = some r := h
 clear h
 replace H := Option.bind_eq_some_iff.mp H
 obtain ⟨⟨t600, t601⟩, A20, H⟩ := H
 replace H : ((spec_anyGraph.f t600 t601).bind fun bt603 => (some bt603.1)) = some r := H
 have A2 := Aside0.mk A20
 clear A20
 replace H := Option.bind_eq_some_iff.mp H
 obtain ⟨⟨t603, t606⟩, A30, H⟩ := H
 replace H : (some t603) = some r := H
 have A3 := Aside0.mk A30
 clear A30
 obtain rfl := Option.some.inj H
 go_enter Tryd.func39, Tryd.ntmps39
 go_wp2_with (first | ((with_reducible refine gate_callee (f := 82) rfl ?_); refine goesL_ (some 4) rfl rfl Tryd.func82 (by kernel_rfl) rfl #[.slice A0 l0.length c0] rfl (by (try simp only [List.map_toArray, List.map_cons, List.map_nil]); first | done | rfl | (simp only [List.length_drop, List.length_take]; rfl)) ?_; (with_reducible refine (spec_newReader.calls _ _ l0 t600 t601 w _ ?side1 ?side2 ?side3 A2.out).mono ?_); (case side1 => repeat (first | (with_reducible first | exact HB.out | apply below_alloc | apply pw_below_drewN | apply below_drew1) | exact HB.out)); (case side2 => exact HR0.out); (case side3 => exact HC0.out); rintro e w4 ⟨g602, rfl, hi, hb, hb2⟩; refine ⟨_, rfl, ?_⟩; have n0_ := Aside0.mk (hb); have n1_ := Aside0.mk (hi); clear HB; have HB := n0_; have HI602 := n1_; clear n0_ n1_; (try clear hb); (try clear hb2); (try clear hk); (try clear hi)) | ((with_reducible refine gate_callee (f := 81) rfl ?_); refine goesL_ (some 5) rfl rfl Tryd.func81 (by kernel_rfl) rfl #[.pointer (some ⟨g602, 0, none⟩)] rfl (by (try simp only [List.map_toArray, List.map_cons, List.map_nil]); first | done | rfl | (simp only [List.length_drop, List.length_take]; rfl)) ?_; (with_reducible refine (spec_anyGraph.calls g602 t600 t601 t603 t606 w _ ?side1 ?side2 A3.out).mono ?_); (case side1 => repeat (first | (with_reducible first | exact HI602.out | apply IsS116.alloc | apply IsS116.drewN | apply IsS116.drew | apply IsS116.set_1) | exact HI602.out)); (case side2 => repeat (first | (with_reducible first | exact HB.out | apply below_alloc | apply pw_below_drewN | apply below_drew1 | refine below_set ?_ (IsS116.ge HI602.out)) | exact HB.out)); rintro e w5 ⟨v604, rfl, ho0, hi, hb, hk⟩; refine ⟨_, rfl, ?_⟩; have n0_ := Aside0.mk (Kd.S_lower ho0 (below_size (by repeat (first | (with_reducible first | exact HB.out | apply below_alloc | apply pw_below_drewN | apply below_drew1 | refine below_set ?_ (IsS116.ge HI602.out)) | exact HB.out)))); have n1_ := Aside0.mk (hb); have n2_ := Aside0.mk (hi); clear HB; clear HI602; have HO605 := n0_; have HB := n1_; have HI602 := n2_; clear n0_ n1_ n2_; (try clear hb); (try clear hb2); (try clear hk); (try clear hi); (try clear ho0)))
 go_ret
 exact ⟨_, by first | rfl | (simp [errW_none, errW_some] <;> rfl) | (simp [*, errW_none, errW_some] <;> rfl), by (with_reducible repeat (first | apply Kd.S_alloc | apply Kd.S_drewN | apply Kd.S_drew)); exact HO605.out, by repeat (first | (with_reducible first | exact HB.out | apply below_alloc | apply pw_below_drewN | apply below_drew1 | refine below_set ?_ (IsS116.ge HI602.out)) | exact HB.out)⟩
end Go.Proofs.YtpibdjkajgfgjaaDoor.P
end
section
set_option linter.unusedVariables false
set_option linter.unusedSimpArgs false
namespace Go.Proofs.YtpibdjkajgfgjaaDoor.Core
open Go Go.RowKit Go.Proofs.YtpibdjkajgfgjaaDoorW.PrintWords Go.Proofs.YtpibdjkajgfgjaaDoorW.PrintMore Go.Proofs.YtpibdjkajgfgjaaDoor.P
/-- A reader's state: few bytes, not far read. -/
def RS (s0 : List Int) (N p : Int) : Prop := s0.length ≤ 2000 ∧ (∀ x ∈ s0, 0 ≤ x ∧ x ≤ 255) ∧ 0 ≤ p ∧ p ≤ N ∧ N ≤ 100000
theorem RS.mono {s0 : List Int} {N M p : Int} (h : RS s0 N p) (hM : N ≤ M) (h2 : M ≤ 100000) : RS s0 M p := ⟨h.1, h.2.1, h.2.2.1, by have := h.2.2.2.1; omega, h2⟩
theorem rd_byte {s0 : List Int} {N p i : Int} (h : RS s0 N p) (h0 : 0 ≤ i) (h1 : i < (s0.length : Int)) : 0 ≤ rd s0 i ∧ rd s0 i ≤ 255 := by
 refine h.2.1 _ ?_
 unfold rd
 rw [List.getD_eq_getElem?_getD, List.getElem?_eq_getElem (by omega), Option.getD_some]
 exact List.getElem_mem _
/-- What pick answers. -/
def PickOk (n : Int) (s0 : List Int) (N : Int) (r : Int × Int) : Prop := (n < 1 → r.1 = 0) ∧ (1 ≤ n → 0 ≤ r.1 ∧ r.1 < n) ∧ RS s0 (N + 1) r.2
theorem ev_pick {s0 : List Int} {N p n : Int} (h : RS s0 N p) (hN : N < 100000) : EvP (fun k => spec_reader_pick.f k s0 p n) (PickOk n s0 N) := by
 obtain ⟨hl, hb, h0, h1, _⟩ := h
 have hp : wrap64 (p + 1) = p + 1 := w64 (by omega) (by omega)
 have hp1 : wrap64 (p + 1 - 1) = p := by rw [Int.add_sub_cancel]; exact w64 (by omega) (by omega)
 have hRS : RS s0 (N + 1) (p + 1) := ⟨hl, hb, by omega, by omega, by omega⟩
 have hz : EvP (fun k => spec_reader_pick.j0 k n true s0 (p + 1)) (fun r => r = (0, p + 1)) := by
  refine EvP.succ ?_
  simp only [spec_reader_pick.j0, if_true]
  exact EvP.ret rfl
 unfold spec_reader_pick.f
 rw [hp]
 refine EvP.ite (fun hn => hz.mono fun a e => ?_) (fun hn => ?_)
 ·subst e; exact ⟨fun _ => rfl, fun _ => by omega, hRS⟩
 by_cases he : s0.length = 0
 ·rw [show ((s0.length : Int) == 0) = true by simp [he]]
  exact hz.mono fun a e => by subst e; exact ⟨fun _ => rfl, fun _ => by omega, hRS⟩
 rw [show ((s0.length : Int) == 0) = false from beq_eq_false_iff_ne.2 (by omega)]
 refine EvP.succ ?_
 simp only [spec_reader_pick.j0, hp1, Bool.false_eq_true, if_false]
 refine EvP.ite (fun hlt => ?_) (fun hge => ?_)
 ·have hr := hb (rd s0 p) (by
   unfold rd
   rw [List.getD_eq_getElem?_getD, List.getElem?_eq_getElem (by omega), Option.getD_some]
   exact List.getElem_mem _)
  refine EvP.pos h0 (EvP.neg (by omega) (EvP.ret ?_))
  rw [w64 (n := rd s0 p) (by omega) (by omega)]
  exact ⟨fun _ => by omega, fun _ => tmod_lt hr.1 (by omega), hRS⟩
 ·have hpos : (0 : Int) < s0.length := by omega
  have hm1 := tmod_lt h0 hpos
  have h7 : wrap64 (p * 7) = p * 7 := w64 (by omega) (by omega)
  have h73 : wrap64 (p * 7 + 3) = p * 7 + 3 := w64 (by omega) (by omega)
  have hm2 := tmod_lt (a := p * 7 + 3) (by omega) hpos
  have hd := tdiv_le h0 hpos
  have hr1 := rd_byte ⟨hl, hb, h0, h1, by omega⟩ hm1.1 hm1.2
  have hr2 := rd_byte ⟨hl, hb, h0, h1, by omega⟩ hm2.1 hm2.2
  rw [h7, h73]
  refine EvP.neg (by omega) (EvP.pos hm1.1 (EvP.pos hm1.2 (EvP.pos hm2.1 (EvP.pos hm2.2 (EvP.neg (by omega) (EvP.ret ?_))))))
  generalize rd s0 (Int.tmod p s0.length) = x1 at *
  generalize rd s0 (Int.tmod (p * 7 + 3) s0.length) = x2 at *
  generalize Int.tdiv p s0.length = dd at *
  have e : wrap64 (wrap64 (wrap64 (wrap64 (wrap64 x1 * 131) + wrap64 (wrap64 x2 * 1117)) + wrap64 (p * 29)) + wrap64 (wrap64 dd * 53)) = x1 * 131 + x2 * 1117 + p * 29 + dd * 53 := by
   rw [w64 (n := x1) (by omega) (by omega), w64 (n := x2) (by omega) (by omega), w64 (n := dd) (by omega) (by omega), w64 (n := x1 * 131) (by omega) (by omega), w64 (n := x2 * 1117) (by omega) (by omega), w64 (n := x1 * 131 + x2 * 1117) (by omega) (by omega), w64 (n := p * 29) (by omega) (by omega), w64 (n := x1 * 131 + x2 * 1117 + p * 29) (by omega) (by omega), w64 (n := dd * 53) (by omega) (by omega), w64 (by omega) (by omega)]
  rw [e]
  generalize hy : x1 * 131 + x2 * 1117 + p * 29 + dd * 53 = y at *
  have hq := tdiv_le (a := y) (n := 64) (by omega) (by omega)
  rw [w64 (n := Int.tdiv y 64) (by omega) (by omega)]
  have hx := i64_xor y (Int.tdiv y 64) (by omega) (by omega) (by omega) (by omega)
  exact ⟨fun _ => by omega, fun _ => tmod_lt hx.1 (by omega), hRS⟩
theorem ev_one {s0 : List Int} {N p : Int} (h : RS s0 N p) (hN : N < 100000) (L : List Int) (hL : 0 < L.length) : EvP (fun k => spec_reader_one.f k s0 p L) (fun r => r.1 ∈ L ∧ RS s0 (N + 1) r.2) := by
 unfold spec_reader_one.f
 refine (ev_pick h hN).bind fun a ha => ?_
 have h2 := ha.2.1 (by omega)
 refine EvP.pos h2.1 (EvP.pos h2.2 (EvP.ret ⟨?_, ha.2.2⟩))
 show rd L a.1 ∈ L
 unfold rd
 rw [List.getD_eq_getElem?_getD, List.getElem?_eq_getElem (by omega), Option.getD_some]
 exact List.getElem_mem _
theorem ev_spoil {s0 : List Int} {N p : Int} (h : RS s0 N p) (hN : N + 2 < 100000) (L : List Int) (n : Int) (hL : L.length ≤ 10000) : EvP (fun k => spec_reader_spoil.f k s0 p L n) (fun r => r.1.length ≤ L.length + 1 ∧ RS s0 (N + 3) r.2) := by
 unfold spec_reader_spoil.f
 rw [show spec_copyInts.f L = some L from copyInts_eq (by unfold big; omega) (by omega)]
 refine EvP.sb ?_
 refine (ev_pick h (by omega)).bind fun a ha => ?_
 have hm := ha.2.2.mono (M := N + 3) (by omega) (by omega)
 refine EvP.ite (fun _ => EvP.pos (by omega) (EvP.ret ⟨by simp, hm⟩)) (fun _ => ?_)
 refine EvP.ite (fun _ => EvP.ite (fun h0 => EvP.pos (by omega) (EvP.ret ⟨by simp; omega, hm⟩)) (fun _ => EvP.ret ⟨by show L.length ≤ _; omega, hm⟩)) (fun _ => ?_)
 refine EvP.ite (fun _ => EvP.ite (fun h0 => ?_) (fun _ => EvP.ret ⟨by show L.length ≤ _; omega, hm⟩)) (fun _ => EvP.ret ⟨by show L.length ≤ _; omega, hm⟩)
 refine (ev_pick ha.2.2 (by omega)).bind fun b hb => ?_
 refine (ev_one hb.2.2 (by omega) _ (by simp)).bind fun c hc => ?_
 have h2 := hb.2.1 (by omega)
 exact EvP.pos h2.1 (EvP.pos h2.2 (EvP.ret ⟨by simp, hc.2.mono (by omega) (by omega)⟩))
/-- A graph of few tasks, whose lists of needs are short. -/
def GSmall (n m : Nat) (g : List Tk) : Prop := g.length ≤ n ∧ ∀ t ∈ g, t.f1.length ≤ m
theorem GSmall.fits {n m : Nat} {g : List Tk} (h : GSmall n m g) (hn : n < big) (hm : m < big) : Fits g := ⟨by have := h.1; omega, fun t ht => by have := h.2 t ht; omega⟩
theorem ev_turned_in (x0 : List Tk) (x3 : List Tk) (x4 x5 : Int) (f0 f2 f3 : Int) (L : List Int) (hL : L.length ≤ 10000) (R : List Tk → Prop) (hx3 : x3.length ≤ 100) (hk : ∀ L2 : List Int, L2.length = L.length → EvP (fun k => spec_turned.l0 k x0 (x3 ++ [⟨f0, L2, f2, f3⟩]) x4 (wrap64 (x5 - 1))) R) :
  ∀ (m : Nat) (x7 : List Int), m ≤ L.length → x7.length + m = L.length → EvP (fun k => spec_turned.l1 k x0 x3 x4 x5 x7 ((m : Int) - 1) f0 L f2 f3) R
 | 0, x7, _, h => by
  refine EvP.succ ?_
  simp only [spec_turned.l1]
  exact EvP.neg (by omega) (EvP.pos (by omega) (hk x7 (by omega)))
 | m + 1, x7, hm, h => by
  refine EvP.succ ?_
  simp only [spec_turned.l1]
  refine EvP.pos (by omega) (EvP.pos (by omega) (EvP.pos (by omega) (EvP.pos (by omega) ?_)))
  have := ev_turned_in x0 x3 x4 x5 f0 f2 f3 L hL R hx3 hk m (x7 ++ [wrap64 (x4 - rd L (((m + 1 : Nat) : Int) - 1))]) (by omega) (by simp; omega)
  rw [show wrap64 (((m + 1 : Nat) : Int) - 1 - 1) = (m : Int) - 1 by rw [w64 (by omega) (by omega)]; omega]
  exact this
theorem ev_turned {n m : Nat} {g : List Tk} (hg : GSmall n m g) (hn : n ≤ 100) (hm : m ≤ 10000) : EvP (fun k => spec_turned.f k g) (fun r => r.length = g.length ∧ GSmall n m r) := by
 have key : ∀ (j : Nat) (x3 : List Tk) (x4 : Int), j ≤ g.length → x3.length + j = g.length → (∀ t ∈ x3, t.f1.length ≤ m) → EvP (fun k => spec_turned.l0 k g x3 x4 ((j : Int) - 1)) (fun r => r.length = g.length ∧ GSmall n m r) := by
  intro j
  induction j with
  | zero =>
   intro x3 x4 hj hl ht
   refine EvP.succ ?_
   simp only [spec_turned.l0]
   exact EvP.neg (by omega) (EvP.ret ⟨by show x3.length = _; omega, by have := hg.1; show x3.length ≤ n; omega, ht⟩)
  | succ j ih =>
   intro x3 x4 hj hl ht
   have hgl := hg.1
   refine EvP.succ ?_
   simp only [spec_turned.l0]
   refine EvP.pos (by omega) (EvP.pos (by omega) (EvP.pos (by omega) ?_))
   have hmem : rd_T48 g (((j + 1 : Nat) : Int) - 1) ∈ g := by
    unfold rd_T48
    rw [List.getD_eq_getElem?_getD, List.getElem?_eq_getElem (by omega), Option.getD_some]
    exact List.getElem_mem _
   have hlen := hg.2 _ hmem
   generalize rd_T48 g (((j + 1 : Nat) : Int) - 1) = t at *
   rw [show wrap64 ((t.f1.length : Int) - 1) = (t.f1.length : Int) - 1 from w64 (by omega) (by omega)]
   refine ev_turned_in g x3 x4 (((j + 1 : Nat) : Int) - 1) t.f0 t.f2 t.f3 t.f1 (by omega) _ (by omega) (fun L2 h2 => ?_) t.f1.length [] (Nat.le_refl _) (by simp)
   rw [show wrap64 (((j + 1 : Nat) : Int) - 1 - 1) = (j : Int) - 1 by rw [w64 (by omega) (by omega)]; omega]
   refine ih _ _ (by omega) (by simp; omega) (fun u hu => ?_)
   rcases List.mem_append.1 hu with hu | hu
   ·exact ht u hu
   ·rw [List.mem_singleton.1 hu]; show L2.length ≤ m; omega
 have hgl := hg.1
 unfold spec_turned.f
 rw [show wrap64 ((g.length : Int) - 1) = (g.length : Int) - 1 from w64 (by omega) (by omega)]
 exact key g.length [] _ (Nat.le_refl _) (by simp) (by simp)
theorem ev_some_in (g : List Tk) (x6 : Int) (s0 : List Int) (f0 f2 f3 : Int) (N : Int) (hg : g.length ≤ 8) (hN : N + 8 < 100000) (R : List Tk × Int → Prop)
  (hk : ∀ (L : List Int) (p : Int), L.length ≤ 8 → RS s0 (N + 8) p → EvP (fun k => spec_someGraph.l0 k (g ++ [⟨f0, L, f2, f3⟩]) (wrap64 (x6 - 1)) s0 p) R) :
  ∀ (d i : Nat) (L : List Int) (p : Int), i + d = g.length → L.length ≤ i → RS s0 (N + i) p → EvP (fun k => spec_someGraph.l1 k g x6 (i : Int) s0 p f0 L f2 f3) R
 | 0, i, L, p, h, hL, hp => by
  refine EvP.succ ?_
  simp only [spec_someGraph.l1]
  exact EvP.neg (by omega) (EvP.pos (by omega) (hk L p (by omega) (hp.mono (by omega) (by omega))))
 | d + 1, i, L, p, h, hL, hp => by
  refine EvP.succ ?_
  simp only [spec_someGraph.l1]
  refine EvP.pos (by omega) ?_
  refine (ev_pick hp (by omega)).bind fun a ha => ?_
  have hp2 : RS s0 (N + ((i + 1 : Nat) : Int)) a.2 := ha.2.2.mono (by omega) (by omega)
  rw [show wrap64 ((i : Int) + 1) = ((i + 1 : Nat) : Int) by rw [w64 (by omega) (by omega)]; omega]
  refine EvP.ite (fun _ => EvP.pos (by omega) ?_) (fun _ => ?_)
  ·exact ev_some_in g x6 s0 f0 f2 f3 N hg hN R hk d (i + 1) _ _ (by omega) (by simp; omega) hp2
  ·exact ev_some_in g x6 s0 f0 f2 f3 N hg hN R hk d (i + 1) _ _ (by omega) (by omega) hp2
theorem ev_some_out (s0 : List Int) : ∀ (j : Nat) (g : List Tk) (N p : Int), g.length + j ≤ 8 → N + j * 11 + 1 < 100000 → (∀ t ∈ g, t.f1.length ≤ 8) → RS s0 N p →
  EvP (fun k => spec_someGraph.l0 k g (j : Int) s0 p) (fun r => GSmall 8 8 r.1 ∧ RS s0 (N + j * 11 + 1) r.2)
 | 0, g, N, p, hg, hN, ht, hp => by
  refine EvP.succ ?_
  simp only [spec_someGraph.l0]
  refine EvP.neg (by omega) ?_
  refine EvP.ite (fun h1 => ?_) (fun _ => EvP.ret ⟨⟨by show g.length ≤ 8; omega, ht⟩, hp.mono (by omega) (by omega)⟩)
  refine (ev_pick hp (by omega)).bind fun a ha => ?_
  refine EvP.ite (fun _ => ?_) (fun _ => EvP.ret ⟨⟨by show g.length ≤ 8; omega, ht⟩, ha.2.2.mono (by omega) (by omega)⟩)
  refine (ev_turned (n := 8) (m := 8) ⟨by omega, ht⟩ (by omega) (by omega)).bind fun r hr => ?_
  exact EvP.ret ⟨hr.2, ha.2.2.mono (by omega) (by omega)⟩
 | j + 1, g, N, p, hg, hN, ht, hp => by
  refine EvP.succ ?_
  simp only [spec_someGraph.l0]
  refine EvP.pos (by omega) ?_
  refine (ev_one hp (by omega) _ (by simp)).bind fun a ha => ?_
  refine (ev_pick ha.2 (by omega)).bind fun b hb => ?_
  refine (ev_pick hb.2.2 (by omega)).bind fun c hc => ?_
  refine ev_some_in g ((j + 1 : Nat) : Int) s0 a.1 b.1 (wrap64 (1 + c.1)) (N + 1 + 1 + 1) (by omega) (by omega) _ (fun L q hL hq => ?_) g.length 0 [] _ (by omega) (by simp) (hc.2.2.mono (by omega) (by omega))
  rw [show wrap64 (((j + 1 : Nat) : Int) - 1) = (j : Int) by rw [w64 (by omega) (by omega)]; omega]
  refine (ev_some_out s0 j _ (N + 11) q (by simp; omega) (by omega) (fun u hu => ?_) (hq.mono (by omega) (by omega))).mono fun r hr => ⟨hr.1, hr.2.mono (by omega) (by omega)⟩
  rcases List.mem_append.1 hu with hu | hu
  ·exact ht u hu
  ·rw [List.mem_singleton.1 hu]; exact hL
theorem ev_someGraph {s0 : List Int} {N p : Int} (h : RS s0 N p) (hN : N + 100 < 100000) (a : Int) (ha : 0 ≤ a) : EvP (fun k => spec_someGraph.f k s0 p a) (fun r => GSmall 8 8 r.1 ∧ RS s0 (N + 100) r.2) := by
 unfold spec_someGraph.f
 refine (ev_one h (by omega) _ (by simp)).bind fun b hb => ?_
 have hb8 : 0 ≤ mn a b.1 ∧ mn a b.1 ≤ 8 := by
  have := hb.1
  simp at this
  unfold mn
  split <;> omega
 generalize mn a b.1 = c at *
 obtain ⟨j, rfl⟩ := Int.eq_ofNat_of_zero_le hb8.1
 exact (ev_some_out s0 j [] (N + 1) b.2 (by simp; omega) (by omega) (by simp) hb.2).mono fun r hr => ⟨hr.1, hr.2.mono (by omega) (by omega)⟩
theorem lim_evP {α : Type} {f : Nat → Option α} {Q : α → Prop} (hm : ∀ k, LeO (f k) (f (k + 1))) (h : EvP f Q) : EvP (fun _ => lim f) Q := by
 obtain ⟨r, h, q⟩ := h
 obtain ⟨k, hk⟩ := h.one
 exact ⟨r, ⟨0, fun _ _ => lim_of hm hk⟩, q⟩
theorem rdT_small {n m : Nat} {g : List Tk} (h : GSmall n m g) {i : Int} (h0 : 0 ≤ i) (h1 : i < (g.length : Int)) : (rd_T48 g i).f1.length ≤ m := by
 refine h.2 _ ?_
 unfold rd_T48
 rw [List.getD_eq_getElem?_getD, List.getElem?_eq_getElem (by omega), Option.getD_some]
 exact List.getElem_mem _
theorem small_set {n m m2 : Nat} {g : List Tk} (h : GSmall n m g) (i : Nat) (t : Tk) (ht : t.f1.length ≤ m2) (hm : m ≤ m2) {n2 : Nat} (hn : n ≤ n2) : GSmall n2 m2 (g.set i t) := by
 refine ⟨by rw [List.length_set]; have := h.1; omega, fun u hu => ?_⟩
 rcases List.mem_or_eq_of_mem_set hu with h1 | h1
 ·have := h.2 u h1; omega
 ·rw [h1]; exact ht
theorem ev_anyGraph {s0 : List Int} {N p : Int} (h : RS s0 N p) (hN : N + 210 < 100000) : EvP (fun _ => spec_anyGraph.f s0 p) (fun r => GSmall 16 10 r.1 ∧ RS s0 (N + 210) r.2) := by
 unfold spec_anyGraph.f
 refine lim_evP (fun k => spec_anyGraph.mono s0 p k) ?_
 unfold spec_anyGraph.fk
 refine (ev_someGraph h (by omega) 8 (by omega)).bind fun a ha => ?_
 have hs : GSmall 16 10 a.1 := ⟨by have := ha.1.1; omega, fun t ht => by have := ha.1.2 t ht; omega⟩
 refine EvP.ite (fun _ => EvP.ret ⟨hs, ha.2.mono (by omega) (by omega)⟩) (fun hne => ?_)
 refine (ev_pick ha.2 (by omega)).bind fun b hb => ?_
 refine (ev_pick hb.2.2 (by omega)).bind fun c hc => ?_
 have hb2 := hb.2.1 (by omega)
 refine EvP.neg (fun hh => hh hb2) ?_
 have hl := rdT_small ha.1 hb2.1 hb2.2
 generalize rd_T48 a.1 b.1 = tk at hl
 refine EvP.ite (fun _ => (ev_one hc.2.2 (by omega) _ (by simp)).bind fun d hd => EvP.ret ⟨small_set ha.1 _ _ (by show tk.f1.length ≤ 10; omega) (by omega) (by omega), hd.2.mono (by omega) (by omega)⟩) (fun _ => ?_)
 refine EvP.ite (fun _ => ?_) (fun _ => ?_)
 ·refine (ev_pick hc.2.2 (by omega)).bind fun d hd => ?_
  refine EvP.pos (by omega) ?_
  refine (ev_spoil hd.2.2 (by omega) _ 8 (by simp; omega)).bind fun e he => ?_
  have := he.1
  simp only [List.length_append, List.length_cons, List.length_nil] at this
  exact EvP.ret ⟨small_set ha.1 _ _ (by show e.1.length ≤ 10; omega) (by omega) (by omega), he.2.mono (by omega) (by omega)⟩
 refine EvP.ite (fun _ => (ev_one hc.2.2 (by omega) _ (by simp)).bind fun d hd => EvP.ret ⟨small_set ha.1 _ _ (by show tk.f1.length ≤ 10; omega) (by omega) (by omega), hd.2.mono (by omega) (by omega)⟩) (fun _ => ?_)
 refine EvP.ite (fun _ => (ev_one hc.2.2 (by omega) _ (by simp)).bind fun d hd => EvP.ret ⟨small_set ha.1 _ _ (by show tk.f1.length ≤ 10; omega) (by omega) (by omega), hd.2.mono (by omega) (by omega)⟩) (fun _ => ?_)
 refine EvP.ite (fun _ => ?_) (fun _ => EvP.ret ⟨hs, hc.2.2.mono (by omega) (by omega)⟩)
 refine (ev_someGraph hc.2.2 (by omega) 8 (by omega)).bind fun d hd => ?_
 have h1 := ha.1.1
 have h2 := hd.1.1
 refine EvP.pos (by omega) (EvP.ret ⟨⟨by simp; omega, fun t ht => ?_⟩, hd.2.mono (by omega) (by omega)⟩)
 rcases List.mem_append.1 ht with ht | ht
 ·have := ha.1.2 t ht; omega
 ·have := hd.1.2 t ht; omega
/-- The bytes of a code. -/
def Bytes (l : List Int) : Prop := ∀ x ∈ l, (Lit.int .u8 x).wf = true
theorem byte_of_wf {x : Int} (h : (Lit.int .u8 x).wf = true) : 0 ≤ x ∧ x ≤ 255 := by
 simp only [Lit.wf, IntKind.min, IntKind.max, IntKind.signed, IntKind.bits, Bool.and_eq_true, decide_eq_true_eq] at h
 simp at h
 omega
theorem ev_newReader {l : List Int} (h : Bytes l) : EvP (fun _ => spec_newReader.f l) (fun r => RS r.1 0 r.2) := by
 have hb : ∀ x ∈ l, 0 ≤ x ∧ x ≤ 255 := fun x hx => byte_of_wf (h x hx)
 unfold spec_newReader.f
 refine EvP.ite (fun h1 => EvP.pos (by omega) (EvP.ret ⟨by simp; omega, fun x hx => hb x (List.mem_of_mem_take hx), by omega, by omega, by omega⟩)) (fun h1 => EvP.ret ⟨by show l.length ≤ 2000; omega, hb, by show (0 : Int) ≤ 0; omega, by show (0 : Int) ≤ 0; omega, by omega⟩)
end Go.Proofs.YtpibdjkajgfgjaaDoor.Core
end
section
set_option linter.unusedVariables false
set_option linter.unusedSimpArgs false
namespace Go.Proofs.YtpibdjkajgfgjaaDoor.Core
open Go Go.RowKit Go.Shelf Go.Proofs.YtpibdjkajgfgjaaDoorW.PrintWords Go.Proofs.YtpibdjkajgfgjaaDoorW.PrintLast Go.Proofs.YtpibdjkajgfgjaaDoorW.PrintMore Go.Proofs.YtpibdjkajgfgjaaDoor.P
attribute [local go_sem] Oper.semAt_some wide_fn wide_depth max2_int max_two
def hframe (f : Nat → Value) (v1 v3 v13 v14 v15 : Value) : Array Value := #[f 0, v1, f 2, v3, f 4, f 5, f 6, f 7, f 8, f 9, f 10, f 11, f 12, v13, v14, v15, f 16, f 17, f 18, f 19, f 20, f 21, f 22, f 23, f 24, f 25, f 26, f 27, f 28, f 29, f 30, f 31, f 32, f 33, f 34, f 35, f 36, f 37, f 38, f 39, f 40, f 41, f 42, f 43, f 44, f 45, f 46, f 47, f 48, f 49, f 50]
theorem hframe_lit {T : Array Value} {v1 v3 v13 v14 v15 : Value} (hs : T.size = 51) (h1 : T[1]? = some v1) (h3 : T[3]? = some v3) (h13 : T[13]? = some v13) (h14 : T[14]? = some v14) (h15 : T[15]? = some v15) : ∃ f, T = hframe f v1 v3 v13 v14 v15 := by
 refine ⟨fun j => T.getD j undef, ?_⟩
 have hT0 : T = ((List.range 51).map fun j => T.getD j undef).toArray := by
  apply Array.ext
  ·simp [hs]
  ·intro i h1 h2
   simp [Array.getD_eq_getD_getElem?, h1]
 have e (j : Nat) (v : Value) (h : T[j]? = some v) : v = T.getD j undef := by rw [Array.getD_eq_getD_getElem?, h]; rfl
 obtain rfl := e _ _ h1
 obtain rfl := e _ _ h3
 obtain rfl := e _ _ h13
 obtain rfl := e _ _ h14
 obtain rfl := e _ _ h15
 exact hT0
theorem headsN_length (G : GD) : (headsN G).length = G.tasks.length := hTo_length _ _ _ _
set_option maxRecDepth 100000 in
set_option maxHeartbeats 2000000 in
theorem heads_calls (b : Nat) (G : GD) (w : World) (hT : Tab w) (hg : IsG w b G) (ok : GOk G) (htk : ∀ t ∈ G.tasks, taskOk t) :
  Calls Tryd.prog 86 #[.pointer (some ⟨b, 0, none⟩)] w fun e w' => ∃ v, e = .returned v ∧ (Kd.int .i64).R 3 w' w.heap.size (fun _ => True) v (up (headsN G)) ∧ Below w.heap.size w w' := by
 have h8 := ok.n8
 have hmk := run_make_ints G.tasks.length h8
 have x1 := Boxed.new w 63 (.pointer (some ⟨b, 0, none⟩))
 have B1 := (Below.refl w.heap.size w).alloc (Nat.le_refl _) (.cells #[.pointer (some ⟨b, 0, none⟩)] 63)
 have o1 : (w.alloc (.cells #[.pointer (some ⟨b, 0, none⟩)] 63)).heap.size = w.heap.size + 1 := by simp
 obtain ⟨w1, hw1⟩ : ∃ w1, w1 = w.alloc (.cells #[.pointer (some ⟨b, 0, none⟩)] 63) := ⟨_, rfl⟩
 rw [← hw1] at x1 B1 o1
 have hg1 := hg.move B1
 have hsz := (size_calls b G w1 hg1).mono (R' := fun e w' => e = .returned (.int .i64 (G.tasks.length : Int)) ∧ w' = w1) (fun _ _ h => ⟨h.1, h.2.symm⟩)
 have hcx1 := x1.cell
 obtain ⟨w3, hw3⟩ : ∃ w3, w3 = ((w1.alloc (.cells (icells (List.replicate G.tasks.length 0)) 3)).alloc (.cells #[.slice (some ⟨w.heap.size + 1, 0, none⟩) G.tasks.length G.tasks.length] 23)) := ⟨_, rfl⟩
 have HS : SI w (w.heap.size + 1) (w.heap.size + 1 + 1) G.tasks.length w3 (hTo G.tasks G.needs G.tasks.length []) := by
  rw [hw3]
  refine ⟨cells_alloc (by rw [← o1]; exact cells_new w1 _) _, ?_, (B1.alloc (by omega) _).alloc (by simp; omega) _⟩
  have h := Boxed.new (w1.alloc (.cells (icells (List.replicate G.tasks.length 0)) 3)) 23 (.slice (some ⟨w.heap.size + 1, 0, none⟩) G.tasks.length G.tasks.length)
  rw [show (w1.alloc (.cells (icells (List.replicate G.tasks.length 0)) 3)).heap.size = w.heap.size + 1 + 1 by simp [o1]] at h
  exact h
 have x3 : Boxed w3 w.heap.size 63 (.pointer (some ⟨b, 0, none⟩)) := by rw [hw3]; exact (x1.alloc _).alloc _
 obtain ⟨Ao, co, hco0, -, hCo⟩ := hg.order
 have hco := (HS.below.cell (World.block_lt_of_cell? _ _ hco0)).trans hco0
 clear hco0
 have hcx3 := x3.cell
 have HW3 := Aside0.mk hw3
 rw [hw3] at hco hcx3
 have HCo := Aside0.mk hCo
 have Hg := Aside0.mk hg
 have HT := Aside0.mk hT
 have OK := Aside0.mk ok
 have HTK := Aside0.mk htk
 have HS := Aside0.mk HS
 have HX3 := Aside0.mk x3
 have HW1 := Aside0.mk hw1
 clear hw1 hw3 hg hT ok htk hCo x3 hg1 B1 x1
 have HSZ : Aside0 (w.heap.size ≤ w.heap.size) := ⟨Nat.le_refl _⟩
 refine calls_marks Tryd.func86 rfl ?_
 simp only [Tryd.ntmps86, List.size_toArray, List.length_cons, List.length_nil, Nat.reduceAdd, Nat.reduceSub, Array.replicate_succ, Array.replicate_zero, List.push_toArray, List.append_toArray, List.nil_append, List.cons_append]
 go_wp2_with (go_at_call 62; rw [← HW1.out]; refine hsz.mono ?_; rintro e w' ⟨rfl, hw⟩; rw [hw]; clear hw w')
 clear hco hsz hmk hcx1 hcx3
 rw [← HW3.out]
 clear HW3 HW1
 have HRO : Aside0 (w.heap.size ≤ w.heap.size + 1 ∧ w.heap.size ≠ w.heap.size + 1) := ⟨by omega, by omega⟩
 clear o1
 generalize hpB : w.heap.size + 1 = pB at HS HRO ⊢
 generalize hpO : pB + 1 = pO at HS ⊢
 have HN := Aside0.mk (show pB ≠ pO ∧ w.heap.size ≠ pO from by have := HRO.out; omega)
 clear hpO hpB
 refine wp_loop_ghost_k (fun n a W => ∃ pre suf, G.order = pre ++ suf ∧ n = suf.length ∧ a.tmps.size = 51 ∧ a.tmps[1]? = some (.pointer (some ⟨w.heap.size, 0, none⟩)) ∧ a.tmps[3]? = some (.pointer (some ⟨pO, 0, none⟩)) ∧ a.tmps[13]? = some (.slice Ao G.order.length co) ∧ a.tmps[14]? = some (.int .i64 (G.order.length : Int)) ∧ a.tmps[15]? = some (.int .i64 (pre.length : Int)) ∧ (∃ hi, Marks w.heap.size hi W a.defers ∧ w.heap.size ≤ hi ∧ hi ≤ W.heap.size) ∧ SI w pB pO G.tasks.length W (hTo G.tasks G.needs G.tasks.length pre) ∧ Boxed W w.heap.size 63 (.pointer (some ⟨b, 0, none⟩))) G.order.length ⟨[], G.order, rfl, rfl, rfl, rfl, rfl, rfl, rfl, rfl, ⟨_, Marks.nil _ w3.heap.size _, HS.out.below.size, Nat.le_refl _⟩, HS.out, HX3.out⟩ ?_
 rintro n ⟨tmps, ds⟩ W ⟨pre, suf, hO_, rfl, hsz, h1, h3, h13, h14, h15, ⟨hi, hM, hlo, hhi⟩, hG, hxb⟩ J K hJ hK
 generalize hj : (pre.length : Int) = j at h15
 obtain ⟨f, rfl⟩ := hframe_lit hsz h1 h3 h13 h14 h15
 clear hsz h1 h3 h13 h14 h15 HS HX3
 unfold hframe
 have hO' := Lib.hid hO_
 clear hO_
 have HM := Aside0.mk hM
 have HG := Aside0.mk hG
 have HXB := Aside0.mk hxb
 clear hM hG hxb
 cases suf with
 | nil =>
  have hlt : decide (j < (G.order.length : Int)) = false := by
   rw [← hj, hO'.out]; simp
  have hcb := HG.out.box.cell
  go_wp2
  refine leave_ret HM.out (fun W => results_tmp rfl _ _ _) ?_
  intro W' ht
  have hpre : pre = G.order := by rw [hO'.out]; simp
  have hG := HG.out.tame (Nat.le_refl _) ht
  have hl := hTo_length G.tasks G.needs G.tasks.length pre
  refine ⟨_, rfl, ?_, hG.below⟩
  have hrow := hG.row
  rw [hpre] at hrow hl
  have hl' : (up (headsN G)).length = G.tasks.length := by rw [up_length]; exact hl
  exact row_R (k := .i64) (xs := up (headsN G)) ⟨by simp [encs], .inr ⟨pB, G.tasks.length, icells (headsN G), by rw [hl']; rfl, HRO.out.1, hrow, by rw [hl']; exact Nat.le_refl _, by unfold maxLen; omega, by simp [icells]; exact hl, by rw [hl']; simp [icells, encs, up]; exact List.take_of_length_le (by rw [List.length_map]; exact Nat.le_of_eq hl)⟩⟩
 | cons i suf =>
  have hlt : decide (j < (G.order.length : Int)) = true := by
   rw [← hj, hO'.out]; simp; omega
  have q0 : j < (G.order.length : Int) := of_decide_eq_true hlt
  have p0 : 0 ≤ j := by omega
  obtain ⟨ad, e0, hx0⟩ := Kd.at_int (Kd.C_below HCo.out HG.out.below) j p0 q0
  subst e0
  rw [rd_up (i := pre.length) hj.symm] at hx0
  have hi0 : G.order.getD pre.length 0 = i := by rw [hO'.out]; simp
  rw [hi0] at hx0
  have hil : i < G.tasks.length := OK.out.ob i (by rw [hO'.out]; simp)
  generalize hxi : ((i : Nat) : Int) = xi at hx0
  replace p0 := eq_true p0
  replace q0 := eq_true q0
  go_wp2
  have hbi := Boxed.new W 3 (.int .i64 xi)
  have hG1 := HG.out.alloc (.cells #[.int .i64 xi] 3)
  have hxb1 := HXB.out.alloc (.cells #[.int .i64 xi] 3)
  have hM1 := HM.out.below ((Below.refl W.heap.size W).alloc (Nat.le_refl _) (.cells #[.int .i64 xi] 3))
  have hsz1 : (W.alloc (.cells #[.int .i64 xi] 3)).heap.size = W.heap.size + 1 := by simp
  clear hx0
  revert hbi hG1 hxb1 hM1 hsz1
  generalize W.alloc (.cells #[.int .i64 xi] 3) = Wa
  intro hbi hG1 hxb1 hM1 hsz1
  refine wp_region_still_tail 7 rfl (by kernel_rfl) ?_
  change wpStill _ _ Wa.drew (fun a' => wpList _ _ _ _ a' Wa.drew) _ _
  have hdr : Below Wa.heap.size Wa Wa.drew := below_drew (Below.refl _ _)
  revert hdr
  generalize Wa.drew = Wx
  intro hdr
  have hbi2 : Boxed Wx W.heap.size 3 (.int .i64 xi) := (hdr.block _ hbi.lt).trans hbi
  have hG2 := hG1.move hdr
  have hxb2 : Boxed Wx w.heap.size 63 (.pointer (some ⟨b, 0, none⟩)) := (hdr.block _ hxb1.lt).trans hxb1
  have hcx2 := hxb2.cell
  have hM2 := hM1.below hdr
  have hsz2 : W.heap.size + 1 ≤ Wx.heap.size := by have := hdr.size; omega
  clear hbi hG1 hxb1 hM1 hsz1 hdr
  obtain ⟨An, cn, hcn, _, hCn⟩ := (Hg.out.move hG2.below).needs
  have hnl := OK.out.nl
  have p1 : 0 ≤ xi := by omega
  have q1 : xi < (G.needs.length : Int) := by omega
  obtain ⟨adn, e1, hxn⟩ := Kd.at_int hCn xi p1 q1
  subst e1
  rw [rd_up (i := i) hxi.symm] at hxn
  have hNi : G.needs.getD i 0 < 2 ^ G.tasks.length := getD_lt OK.out.nb i
  have hst := hTo_snoc G.tasks G.needs G.tasks.length pre i
  generalize hs_ : G.needs.getD i 0 = s at hxn hNi hst
  have hci := hbi2.cell
  replace p1 := eq_true p1
  replace q1 := eq_true q1
  have HX := Aside0.mk hxi
  have HST := Aside0.mk hst
  have HJ := Aside0.mk hj
  clear hnl hCn hs_ hxi hst hj
  simp only [List.take_succ_cons, List.take_zero, List.drop_succ_cons, List.drop_zero]
  repeat still_step
  refine wpStill_nil ?_
  go_wp2_with (go_at_call 79; refine (all_calls s _).mono ?_; rintro e w' ⟨rfl, rfl⟩)
  clear hcn hxn hci hcx2 p1 q1
  have hs3 := Boxed.new Wx 67 (.int .u16 (s : Int))
  have hbi3 := hbi2.alloc (.cells #[.int .u16 (s : Int)] 67)
  have hG3 := hG2.alloc (.cells #[.int .u16 (s : Int)] 67)
  have hxb3 := hxb2.alloc (.cells #[.int .u16 (s : Int)] 67)
  have hM3 := hM2.below ((Below.refl Wx.heap.size Wx).alloc (Nat.le_refl _) (.cells #[.int .u16 (s : Int)] 67))
  have hsz3 : (Wx.alloc (.cells #[.int .u16 (s : Int)] 67)).heap.size = Wx.heap.size + 1 := by simp
  revert hs3 hbi3 hG3 hxb3 hM3 hsz3
  generalize Wx.alloc (.cells #[.int .u16 (s : Int)] 67) = Wb
  intro hs3 hbi3 hG3 hxb3 hM3 hsz3
  have h256 := pow8 h8
  have hb1 : w.heap.size ≤ Wb.heap.size := hG3.below.size
  have hb2 : hi ≤ Wb.heap.size := by omega
  refine wp_rangeSet Tab.tame (w := Wb) (w0 := Wb) (p := 27) (d := 6) rfl (enters_of Tryd.func111 (by kernel_rfl) rfl)
   (all_seq Wx.heap.size s (Nat.lt_of_lt_of_le hNi h256) Wb (HT.out.of hG3.below) hs3.cell) (Below.refl _ _) (by simp)
   (fun ys W' => ∃ zs : List Nat, (∀ z ∈ zs, z < G.tasks.length) ∧ ys = up zs ∧ SI w pB pO G.tasks.length W' (zs.foldl (hStep G.tasks i) (hTo G.tasks G.needs G.tasks.length pre)) ∧ Boxed W' W.heap.size 3 (.int .i64 xi) ∧ Marks w.heap.size hi W' ds ∧ Wb.heap.size ≤ W'.heap.size ∧ Boxed W' w.heap.size 63 (.pointer (some ⟨b, 0, none⟩))) (fun _ _ _ => False)
   (ownFrom_tame (fun ys W' W'' ht ⟨zs, z, a, b, c, d, e, x⟩ => ⟨zs, z, a, b.tame hb1 ht, ht.boxed c, d.tame ht hb2, Nat.le_trans e ht.size, ht.boxed x⟩)) (fun _ => ownFrom_tame (fun _ _ _ _ h => h))
   ⟨[], by simp, rfl, hG3, hbi3, hM3, Nat.le_refl _, hxb3⟩ (fun ys W' ⟨_, _, _, b, _⟩ => HT.out.of b.below) ?body1 ?done1 (fun _ _ _ _ _ h _ => h.elim)
  case body1 =>
   rintro l pre1 x W1 hx ⟨zs, hzl, rfl, hG4, hbi4, hM4, hsz4, hxb4⟩ hlt1
   gi_wp2
   obtain ⟨k0, hxk, hk0, _⟩ := mem_elems.1 hx
   have hkn : k0 < G.tasks.length := by have := elems_lt hNi hx; omega
   have hL1 : (zs.foldl (hStep G.tasks i) (hTo G.tasks G.needs G.tasks.length pre)).length = G.tasks.length := by rw [hfold_length G.tasks, hTo_length]
   have hpl : pre.length ≤ 8 := by have h1 := OK.out.ol; rw [hO'.out] at h1; simp at h1; omega
   have hle := hfold_le (i := i) (tm20_of HTK.out) zs _ _ (hTo_le (tm20_of HTK.out) G.needs G.tasks.length pre)
   have hzl16 : zs.length < 16 := by rwa [up_length] at hlt1
   have hli := hle i
   have hlk := hle k0
   have hstep : (zs ++ [k0]).foldl (hStep G.tasks i) (hTo G.tasks G.needs G.tasks.length pre) = (zs.foldl (hStep G.tasks i) (hTo G.tasks G.needs G.tasks.length pre)).set i (max ((zs.foldl (hStep G.tasks i) (hTo G.tasks G.needs G.tasks.length pre)).getD i 0) ((zs.foldl (hStep G.tasks i) (hTo G.tasks G.needs G.tasks.length pre)).getD k0 0 + tmN G.tasks k0)) := by rw [List.foldl_append]; rfl
   refine wpIn_still_tail 21 rfl (by kernel_rfl) (by kernel_rfl) (fun ⟨_, _, h⟩ => h) ?_
   change wpStill _ _ W1.drew (fun a' => wpList _ _ _ _ a' W1.drew) _ _
   have hdr : Below W1.heap.size W1 W1.drew := below_drew (Below.refl _ _)
   have hko := KeepsOthers.drew W1
   revert hdr hko
   generalize W1.drew = Wd
   intro hdr hko
   have hG5 := hG4.move hdr
   have hbi5 : Boxed Wd W.heap.size 3 (.int .i64 xi) := (hdr.block _ hbi4.lt).trans hbi4
   have hM5 := hM4.below hdr
   have hxb5 : Boxed Wd w.heap.size 63 (.pointer (some ⟨b, 0, none⟩)) := (hdr.block _ hxb4.lt).trans hxb4
   have hcx := hxb5.cell
   obtain ⟨At, ct, hct, hctl, hCt⟩ := (Hg.out.move hG5.below).tasks
   have pk : 0 ≤ x := by omega
   have qk : x < (G.tasks.length : Int) := by omega
   obtain ⟨adt, A1t, c1t, et, ht0, ht1, ht2, ht3, ht4, ht5⟩ := at_T48 hCt x pk qk
   subst et
   have hrdt : rd_T48 G.tasks x = G.tasks.getD k0 z48 := by rw [hxk]; simp [rd_T48]
   have htm := tm_int HTK.out hkn
   rw [hrdt, htm.1] at ht0
   have htm20 := htm.2.2
   clear hrdt htm ht1 ht2 ht3 ht4 ht5 hCt hctl pk qk
   obtain ⟨ad5, had5⟩ : ∃ ad5 : Addr, ad5 = ⟨pB, 0, none⟩ := ⟨_, rfl⟩
   have hc10 : Wd.cell? ⟨pO, 0, none⟩ = some (.slice (some ad5) G.tasks.length G.tasks.length) := by rw [had5]; exact hG5.box.cell
   have hci := hbi5.cell
   have hLi := icell hG5.row i (by omega)
   have hLk := icell hG5.row k0 (by omega)
   have hfi := ifrozen hG5.row i
   have hxi := HX.out
   have hit : xi.toNat = i := by omega
   have hkt : x.toNat = k0 := by omega
   generalize (zs.foldl (hStep G.tasks i) (hTo G.tasks G.needs G.tasks.length pre)).getD i 0 = si at hLi hli hstep
   generalize (zs.foldl (hStep G.tasks i) (hTo G.tasks G.needs G.tasks.length pre)).getD k0 0 = sk at hLk hlk hstep
   generalize tmN G.tasks k0 = tk at ht0 htm20 hstep
   have hmx : (if (si : Int) < IntKind.i64.wrap ((sk : Int) + (tk : Int)) then IntKind.i64.wrap ((sk : Int) + (tk : Int)) else (si : Int)) = ((max si (sk + tk) : Nat) : Int) := by
    rw [i64_w, w64 (n := (sk : Int) + (tk : Int)) (by omega) (by omega)]
    split <;> omega
   generalize ((tk : Nat) : Int) = tI at ht0 hmx
   generalize hsI : ((si : Nat) : Int) = sI at hLi hmx
   generalize hsK : ((sk : Nat) : Int) = sK at hLk hmx
   rw [← add_own, ← had5, ← hit] at hLi hfi
   rw [← add_own, ← had5, ← hkt] at hLk
   have p2 : (0 ≤ x) = True := eq_true (by omega)
   have q2 : (x < (G.tasks.length : Int)) = True := eq_true (by omega)
   have p3 : (0 ≤ xi) = True := eq_true (by omega)
   have q3 : (xi < (G.tasks.length : Int)) = True := eq_true (by omega)
   have HH := Aside0.mk (show x = (k0 : Int) ∧ xi.toNat = i ∧ ad5 = ⟨pB, 0, none⟩ from ⟨hxk, hit, had5⟩)
   have HSTEP := Aside0.mk hstep
   have HMX := Aside0.mk hmx
   clear hxk hit hkt had5 hsI hsK hxi hx hstep hmx hle hli hlk hlt1 hpl hzl16 hlt
   simp only [List.take_succ_cons, List.take_zero, List.drop_succ_cons, List.drop_zero]
   repeat still_step
   rw [HMX.out]
   refine wpStill_nil ?_
   go_wp2
   obtain ⟨hxk, hit, had5⟩ := HH.out
   rw [show ad5.add xi.toNat = ⟨pB, i, none⟩ by rw [had5, add_own, hit]]
   refine ⟨(hko.trans (KeepsOthers.setCell _ _ _)).from _, zs ++ [k0], ?_, ?_, ?_, ?_, ?_, ?_, ?_⟩
   ·intro z hz
    rcases List.mem_append.1 hz with hz | hz
    ·exact hzl z hz
    ·rw [List.mem_singleton.1 hz]; exact hkn
   ·rw [hxk]; simp [up]
   ·rw [HSTEP.out]; exact hG5.set (HRO.out.1) (Ne.symm HN.out.1) i _
   ·exact (sother _ (by have := cells_lt HG.out.row; omega)).trans hbi5
   ·exact hM5.grow (grownBy_setCell'' _ _ _ _) (fun k hk => ⟨_, _, by cases hk; exact hG5.row⟩)
   ·exact Nat.le_trans hsz4 (Nat.le_trans hdr.size (KeepsOthers.setCell _ _ _).size)
   ·exact (sother _ HRO.out.2).trans hxb5
  case done1 =>
   rintro D W2 hD ⟨zs, hzl, hzs, hG4, hbi4, hM4, hsz4, hxb4⟩ hk
   obtain rfl : elemsN s = zs := up_inj hzs
   have hM5 := hM4.cons (Nat.le_trans hb2 hD) hlo hk
   clear hzs hk hs3 hbi3 hG3 hM3
   go_wp2
   have hl8 : pre.length + suf.length + 1 ≤ 8 := by
    have h1 := OK.out.ol
    rw [hO'.out] at h1
    simp at h1
    omega
   have hj1 : wrap64 (j + 1) = ((pre ++ [i]).length : Int) := by
    have := HJ.out
    rw [w64 (n := j + 1) (by omega) (by omega), List.length_append]
    simp
    omega
   refine ⟨suf.length, by simp, hJ _ _ _ ⟨pre ++ [i], suf, by rw [hO'.out]; simp, rfl, rfl, rfl, rfl, rfl, rfl, by rw [← hj1]; rfl, ⟨_, hM5, hG4.below.size, Nat.le_refl _⟩, by rw [HST.out]; exact hG4, hxb4⟩⟩
end Go.Proofs.YtpibdjkajgfgjaaDoor.Core
end
section
set_option linter.unusedVariables false
set_option linter.unusedSimpArgs false
namespace Go.Proofs.YtpibdjkajgfgjaaDoor.Core
open Go Go.RowKit Go.Proofs.YtpibdjkajgfgjaaDoor.P
def headTD (g : List Tk) : List Int := match graphD g with
 | none => []
 | some G => up (headsN G)
end Go.Proofs.YtpibdjkajgfgjaaDoor.Core
namespace Go.Proofs.YtpibdjkajgfgjaaDoor.P
open Go Go.RowKit Go.Shelf Go.Proofs.YtpibdjkajgfgjaaDoorW.PrintWords Go.Proofs.YtpibdjkajgfgjaaDoorW.PrintMore Go.Proofs.YtpibdjkajgfgjaaDoor.Core
attribute [local go_sem] Oper.semAt_some wide_fn wide_depth
def impl_HeadTimes.f (l0 : List S48) : Option (List Int) := some (headTD l0)
set_option maxRecDepth 100000 in
set_option maxHeartbeats 1000000 in
theorem impl_HeadTimes.calls (A0 : Option Addr) (c0 : Nat) (l0 : List S48) (r : List Int) (w : World) (hr0 : Kd.C k48 w A0 l0.length l0) (hc0 : l0.length ≤ c0) (hT : Tab w) (h : impl_HeadTimes.f l0 = some r) :
  Calls Tryd.prog 43 #[.slice A0 l0.length c0] w fun e w' => ∃ v0_ : Value, e = .returned (v0_) ∧ Kd.R (Kd.int .i64) 3 w' w.heap.size (fun _ => True) v0_ r ∧ Below w.heap.size w w' := by
 have hr : r = headTD l0 := (Option.some.inj h).symm
 subst hr
 clear h
 cases hg : graphD l0 with
 | none =>
  have hcd : headTD l0 = [] := by unfold headTD; rw [hg]
  rw [hcd]
  have HG := Aside0.mk (graphOf_none A0 c0 l0 w hT hr0 hc0 hg)
  clear hr0 hT hg hcd
  go_enter Tryd.func43, Tryd.ntmps43
  go_wp2_with (go_at_call 60; refine HG.out.mono ?_; rintro e w' ⟨rfl, hB⟩)
  go_ret
  exact ⟨_, rfl, Kd.R_nil _ _ _ _ _, hB⟩
 | some G =>
  have hcd : headTD l0 = up (headsN G) := by unfold headTD; rw [hg]
  rw [hcd]
  have HG := Aside0.mk (graphOf_some A0 c0 l0 G w hT hr0 hc0 hg)
  have HM := Aside0.mk (fun b W hT hgr => heads_calls b G W hT hgr (graphD_ok hg) (by rw [graphD_tasks hg]; exact graphD_taskOk hg))
  have HT := Aside0.mk hT
  clear hr0 hT hg hcd
  go_enter Tryd.func43, Tryd.ntmps43
  go_wp2_with (first | (go_at_call 60; refine HG.out.mono ?_; rintro e w1 ⟨b, rfl, hB, hgr⟩) | (go_at_call 86; refine (HM.out b _ (HT.out.of hB) hgr).mono ?_; rintro e w2 ⟨v, rfl, hR, hB2⟩))
  go_ret
  exact ⟨_, rfl, Kd.R_mono (Kd.R_lower hR hB.size) (fun _ _ => trivial), below_step hB hB2⟩
end Go.Proofs.YtpibdjkajgfgjaaDoor.P
end
section
set_option linter.unusedVariables false
set_option linter.unusedSimpArgs false
namespace Go.Proofs.YtpibdjkajgfgjaaDoor.Core
open Go Go.RowKit Go.Shelf Go.Proofs.YtpibdjkajgfgjaaDoorW.PrintWords Go.Proofs.YtpibdjkajgfgjaaDoorW.PrintLast Go.Proofs.YtpibdjkajgfgjaaDoorW.PrintMore Go.Proofs.YtpibdjkajgfgjaaDoor.P
attribute [local go_sem] Oper.semAt_some wide_fn wide_depth
/-- What slices.Backward hands to a round: a place and what stands there. -/
abbrev Pl (xs : List Int) := { j : Nat // j < xs.length }
def bwEnc (xs : List Int) (j : Pl xs) : Array Value := #[.int .i64 (j.1 : Int), .int .i64 (rd xs (j.1 : Int))]
/-- The slice lies in its box, and its row in the world. -/
def BwT (Bn : Nat) (A : Option Addr) (c : Nat) (xs : List Int) (W : World) : Prop := Boxed W Bn 23 (.slice A xs.length c) ∧ (Kd.int .i64).C W A xs.length xs
theorem range_rev (m : Nat) : (List.range (m + 1)).reverse = m :: (List.range m).reverse := by rw [List.range_succ, List.reverse_append]; rfl
set_option maxRecDepth 100000 in
set_option maxHeartbeats 1000000 in
theorem bw1 (l Bn : Nat) (A : Option Addr) (c : Nat) (xs : List Int) (hn : xs.length ≤ 8) (J Jx : List (Pl xs) → World → Prop)
  (hY : ∀ pre j W, J pre W → pre.length < 16 → YieldAt Fence.wide 1 Tryd.prog l (bwEnc xs j) W fun e W' =>
   (e = .returned (.bool true) ∧ J (pre ++ [j]) W' ∧ (BwT Bn A c xs W → BwT Bn A c xs W')) ∨ (e = .returned (.bool false) ∧ Jx (pre ++ [j]) W'))
  (W : World) (hT : BwT Bn A c xs W) (h0 : J [] W) :
  CallsIn Fence.wide 2 Tryd.prog 124 #[.func (.yield l) #[] #[], .pointer (some ⟨Bn, 0, none⟩)] W fun e W' => (∃ v, e = .returned v) ∧
   ((∃ ys : List (Pl xs), ys.map (·.1) = (List.range xs.length).reverse ∧ J ys W') ∨ (∃ pre, True ∧ Jx pre W')) := by
 have hc0 := hT.1.cell
 refine callsIn_of_wp Tryd.func124 rfl trivial ?_ rfl
 simp only [Tryd.ntmps124, List.size_toArray, List.length_cons, List.length_nil, Nat.reduceAdd, Nat.reduceSub, Array.replicate_succ, Array.replicate_zero, List.push_toArray, List.append_toArray, List.nil_append, List.cons_append]
 gi_wp2
 clear hc0
 gi_loopw [3] (fun p wr => ∃ (pre : List (Pl xs)) (m : Nat) (i : Int), p = .int .i64 i ∧ Aside0 (i = (m : Int) - 1 ∧ m ≤ xs.length ∧ pre.map (·.1) ++ (List.range m).reverse = (List.range xs.length).reverse) ∧ BwT Bn A c xs wr ∧ J pre wr)
  (fun p wr => (intOf p + 1).toNat)
 case atStart =>
  refine ⟨[], xs.length, _, rfl, ⟨?_, Nat.le_refl _, rfl⟩, hT, h0⟩
  first | rfl | (rw [w64 (by omega) (by omega)])
 case round =>
  obtain ⟨pre, m, i, rfl, hm, hT1, hj⟩ := hrel
  cases m with
  | zero =>
   have hlt : decide (0 ≤ i) = false := decide_eq_false (by have := hm.out.1; omega)
   clear hY
   gi_wp2
   go_end0
   exact ⟨⟨_, rfl⟩, .inl ⟨pre, by simpa using hm.out.2.2, hj⟩⟩
  | succ m =>
   have hi := hm.out.1
   have hml := hm.out.2.1
   have hlt : decide (0 ≤ i) = true := decide_eq_true (by omega)
   have p0 : 0 ≤ i := by omega
   have q0 : i < (xs.length : Int) := by omega
   obtain ⟨ad, e0, hx0⟩ := Kd.at_int hT1.2 i p0 q0
   have hpl : pre.length < 16 := by
    have h1 := congrArg List.length hm.out.2.2
    simp at h1
    omega
   obtain ⟨fn, tmps, assign, body, hy, hR⟩ := hY pre ⟨m, hml⟩ wr hj hpl
   dsimp only [bwEnc] at hy
   rw [show ((m : Nat) : Int) = i by omega] at hy
   have hc1 := hT1.1.cell
   replace p0 := eq_true p0
   replace q0 := eq_true q0
   subst e0
   generalize rd xs i = x at hx0 hy
   have HT1 := Aside0.mk hT1
   clear hY hi hpl hj hT1
   gi_wp2
   refine hR.mono ?_
   rintro e W3 (⟨rfl, hJ3, hk3⟩ | ⟨rfl, hJx3⟩)
   ·have hT3 := hk3 HT1.out
    gi_wp2
    go_roundw
    case rel =>
     have h1 := hm.out
     refine ⟨pre ++ [⟨m, hml⟩], m, _, rfl, ⟨?_, by omega, ?_⟩, hT3, hJ3⟩
     ·first | omega | (rw [w64 (by omega) (by omega)]; omega) | (rw [i64_w, w64 (by omega) (by omega)]; omega)
     ·rw [← h1.2.2, range_rev]; simp
    case measure =>
     have h1 := hm.out
     have hw : wrap64 (i - 1) = i - 1 := w64 (by omega) (by omega)
     simp only [intOf]
     first | omega | (rw [hw]; omega) | (rw [i64_w, hw]; omega)
   ·gi_wp2
    refine bodyPost_ret (results_none rfl _ _ _) rfl ?_
    exact ⟨⟨_, rfl⟩, .inr ⟨_, trivial, hJx3⟩⟩
set_option maxHeartbeats 1000000 in
/-- slices.Backward: the slice is boxed; the function value captures the box. -/
theorem backward_calls (v : Value) (hv : ∃ A n c, v = .slice A n c) (w : World) :
  Calls Tryd.prog 110 #[v] w fun e w' => e = .returned (.func (.func 124) #[] #[.pointer (some ⟨w.heap.size, 0, none⟩)]) ∧ w.alloc (.cells #[v] 23) = w' := by
 obtain ⟨A, n, c, rfl⟩ := hv
 go_enter Tryd.func110, Tryd.ntmps110
 go_wp2
 go_ret
 exact ⟨rfl, rfl⟩
theorem bw_seq (Bn : Nat) (A : Option Addr) (c : Nat) (xs : List Int) (hn : xs.length ≤ 8) (w : World) (hT : ∀ W, Below w.heap.size w W → BwT Bn A c xs W) :
  SeqStopsK Fence.wide 2 Tryd.prog 124 #[.pointer (some ⟨Bn, 0, none⟩)] (bwEnc xs) (fun W W' => BwT Bn A c xs W → BwT Bn A c xs W') (fun ys : List (Pl xs) => ys.map (·.1) = (List.range xs.length).reverse) (fun _ => True) 16 w :=
 fun l J Jx W hW _ _ hY h0 => bw1 l Bn A c xs hn J Jx hY W (hT W hW) h0
theorem BwT.tame {Bn : Nat} {A : Option Addr} {c : Nat} {xs : List Int} {B : Nat} {W W' : World} (hB : ∀ W W', Tame B W W' → (Kd.int .i64).C W A xs.length xs → (Kd.int .i64).C W' A xs.length xs) (h : BwT Bn A c xs W) (ht : Tame B W W') : BwT Bn A c xs W' :=
 ⟨ht.boxed h.1, hB W W' ht h.2⟩
theorem Tame.cell {B : Nat} {W W' : World} {a : Addr} {v : Value} (h : Tame B W W') (hc : W.cell? a = some v) : W'.cell? a = some v := by
 obtain ⟨o, ho, hoc⟩ := cells_of_cell hc
 cases o with
 | cells cs t fr => exact (World.cell?_of_block (w := W) (w' := W') (a := a) (h.block _ (World.block_lt_of_cell? W _ hc) (.inr ⟨_, _, _, ho⟩))).trans hc
 | _ => cases hoc
/-- A row of cells stays, whatever else a loop's book-keeping turns. -/
theorem C_tame {A : Option Addr} {xs : List Int} {B : Nat} {W W' : World} (h : Tame B W W') (hC : (Kd.int .i64).C W A xs.length xs) : (Kd.int .i64).C W' A xs.length xs := by
 obtain ⟨h1, h2, h3⟩ := hC
 refine ⟨h1, h2, fun h0 => ?_⟩
 obtain ⟨ad, hA, hx⟩ := h3 h0
 refine ⟨ad, hA, fun j x hj => ?_⟩
 obtain ⟨cs, hl, hk, hc⟩ := hx j x hj
 exact ⟨cs, hl, hk, fun i u hu => h.cell (hc i u hu)⟩
theorem Tame.alloc (B : Nat) (W : World) (o : Obj) : Tame B W (W.alloc o) := ⟨rfl, rfl, rfl, (KeepsOthers.alloc W o).size, fun k hk _ => (World.grownBy_alloc W o none).block k hk (by simp)⟩
/-- How a round's body may be left: as rsPost, for places. -/
def bwPost (B : Nat) (I : List Nat → World → Prop) (ys : List Nat) (W : World) : Exit → Act → World → Prop
 | .normal, _, W' => KeepsFrom B W W' ∧ I ys W'
 | _, _, _ => False
/-- A range over slices.Backward whose loop variable is boxed. -/
theorem wp_rangeBack {g : Operand} {p q d rid : Nat} {t : TypeId} {pos1 pos2 : String} {af : Array Edge} {body : Code} {Q : Exit → Act → World → Prop} {a : Act} {w : World} {Bn c : Nat} {A : Option Addr} {xs : List Int}
  (hg : a.eval g = .func (.func 124) #[] #[.pointer (some ⟨Bn, 0, none⟩)]) (hn : xs.length ≤ 8) (hT0 : ∀ W, Below w.heap.size w W → BwT Bn A c xs W) (hp : q < a.tmps.size) (hd : d < a.tmps.size)
  (I : List Nat → World → Prop) (hI : OwnFrom w.heap.size I) (h0 : I [] w) (hT : ∀ ys W, I ys W → BwT Bn A c xs W) (hIa : ∀ ys W o, I ys W → I ys (W.alloc o)) (hIs : ∀ ys W, I ys W → w.heap.size ≤ W.heap.size)
  (hassign : ∀ (l j : Nat) (W : World) (K : Act → World → Prop), K { tmps := (((a.tmps.setIfInBounds p (.int .i64 (j : Int))).setIfInBounds q (.int .i64 (rd xs (j : Int)))).setIfInBounds d (.pointer (some ⟨W.heap.size, 0, none⟩))), defers := [] } (W.alloc (.cells #[.int .i64 (rd xs (j : Int))] 3)) →
   (Code.region rid #[{ dst := some d, op := .alloc 3, type := 0, pos := pos1, after := #[], guard := none }, { dst := none, op := .store 3 (.tmp d) (.tmp q), type := t, pos := pos2, after := af, guard := none }] false).wpIn (Fence.wide.inRound l) 1 Tryd.prog (Exit.then K (fun _ _ _ => False)) { tmps := (a.tmps.setIfInBounds p (.int .i64 (j : Int))).setIfInBounds q (.int .i64 (rd xs (j : Int))), defers := [] } W)
  (hbody : ∀ (l : Nat) (pre : List Nat) (j Bx : Nat) (W : World), j < xs.length → w.heap.size ≤ l → (∃ r, W.heap[l]? = some (.loop r)) → I pre W → pre.length < 16 → w.heap.size ≤ Bx → Boxed W Bx 3 (.int .i64 (rd xs (j : Int))) →
   body.wpIn (Fence.wide.inRound l) 1 Tryd.prog (bwPost w.heap.size I (pre ++ [j]) W) { tmps := (((a.tmps.setIfInBounds p (.int .i64 (j : Int))).setIfInBounds q (.int .i64 (rd xs (j : Int)))).setIfInBounds d (.pointer (some ⟨Bx, 0, none⟩))), defers := [] } W)
  (hdone : ∀ (D : Nat) (W : World), w.heap.size ≤ D → I (List.range xs.length).reverse W → W.heap[D]? = some (.deferred (some [])) → Q .normal { a with defers := { target := .collected D, args := #[] } :: a.defers } W) :
  (Code.rangeFunc g #[p, q] (.region rid #[{ dst := some d, op := .alloc 3, type := 0, pos := pos1, after := #[], guard := none }, { dst := none, op := .store 3 (.tmp d) (.tmp q), type := t, pos := pos2, after := af, guard := none }] false) body).wp Tryd.prog Q a w := by
 refine wpIn_wide.1 (wpIn_rangeFunc_ownH (n := 3) rfl (by decide) hg trivial (enters_of Tryd.func124 (by kernel_rfl) rfl) (bw_seq Bn A c xs hn w hT0) (fun h k x => k (h x)) (fun W l o o' hl ho hc _ hT => hT.tame (fun _ _ => C_tame) (Tame.of_own (B := w.heap.size) (grownBy_putObj' W l o') (fun r e => by cases e; exact ⟨hl, o, ho, hc⟩))) (Below.refl _ _) (fun _ => rfl)
  (fun ys => I (ys.map (·.1))) (fun _ _ _ => False) (fun s W W' row hs hg hr => hI _ W W' row hs hg hr) (fun _ => ownFrom_tame (fun _ _ _ _ h => h)) h0 (fun j a' W => ∃ Bx, w.heap.size ≤ Bx ∧ Boxed W Bx 3 (.int .i64 (rd xs (j.1 : Int))) ∧ a' = { tmps := (((a.tmps.setIfInBounds p (.int .i64 (j.1 : Int))).setIfInBounds q (.int .i64 (rd xs (j.1 : Int)))).setIfInBounds d (.pointer (some ⟨Bx, 0, none⟩))), defers := [] }) ?_ ?_ ?_ ?_ ?_)
 ·exact fun j a' => ownFrom_tame (fun _ W W' ht ⟨Bx, h1, h2, h3⟩ => ⟨Bx, h1, ht.boxed h2, h3⟩)
 ·intro l pre j W K hi hK
  have h := hassign l j.1 W K (hK _ _ ((KeepsOthers.alloc _ _).from _) (fun hT => hT.tame (fun _ _ => C_tame) (Tame.alloc w.heap.size W _)) (hIa _ _ _ hi) ⟨W.heap.size, hIs _ _ hi, Boxed.new W _ _, rfl⟩)
  simpa [bwEnc] using h
 ·rintro l pre j a' W hl hr hi ⟨Bx, hBx, hb, rfl⟩ hlt
  refine wpIn_mono (hbody l _ j.1 Bx W j.2 hl hr hi (by simpa using hlt) hBx hb) ?_
  intro e a'' W' h
  rw [show pre.map (·.1) ++ [j.1] = (pre ++ [j]).map (·.1) by simp] at h
  cases e with
  | normal => exact ⟨h.1, fun _ => hT _ _ h.2, h.2⟩
  | _ => exact h.elim
 ·intro D ys W hD hS hI' hk
  exact hdone D W hD (by rw [← hS]; exact hI') hk
 ·intro D c pre W hD _ hI' hk
  exact hI'.elim
/-- A range over a set's numbers within a round. -/
theorem wpIn_rangeSetN {T : World → Prop} (hTt : ∀ B W W', Tame B W W' → T W → T W') {P : Program} {g : Operand} {p d rid l0 : Nat} {r0 : Loop} {t : TypeId} {pos : String} {body : Code} {Q : Exit → Act → World → Prop} {a : Act} {w w0 : World} {gf : Nat} {lb : Array Value} {xs : List Int}
  (hl0 : w.heap[l0]? = some (.loop r0)) (hg : a.eval g = .func (.func gf) #[] lb) (eg : ∀ args w, (callFunc gf args).run P w = .ok (.enter gf args) w)
  (hseq : SetSeq T P gf lb xs w0) (hb0 : Below w0.heap.size w0 w) (hp : p < a.tmps.size)
  (I : List Int → World → Prop) (hI : OwnFrom w.heap.size I) (h0 : I [] w) (hT : ∀ ys W, I ys W → T W)
  (hbody : ∀ (l : Nat) (pre : List Int) (x : Int) (W : World), x ∈ xs → I pre W → pre.length < 16 →
   body.wpIn (Fence.wide.inRound l) 0 P (rsPost w.heap.size I (fun _ _ _ => False) (pre ++ [x]) W) { tmps := (a.tmps.setIfInBounds p (.int .i64 x)).setIfInBounds d (.int .i64 x), defers := [] } W)
  (hdone : ∀ (W : World), I xs W → Q .normal a W) :
  (Code.rangeFunc g #[p] (.region rid #[{ dst := some d, op := .assign (.tmp p), type := t, pos := pos, after := #[], guard := none }] false) body).wpIn (Fence.wide.inRound l0) 1 P Q a w := by
 refine wpIn_rangeFunc_ownN (n := 1) (l₀ := l0) (r₀ := r0) rfl hl0 (Nat.le_refl _) hg trivial eg (SeqStopsK.inRound l0 hseq) (fun h k x => k (h x)) (fun W l o o' hl ho hc _ => hTt w.heap.size _ _ (Tame.of_own (grownBy_putObj' W l o') (fun r e => by cases e; exact ⟨hl, o, ho, hc⟩))) hb0 (fun _ => rfl)
  (fun ys => I (ys.map (·.1))) (fun c ys W => False) (fun s W W' row hs hg hr => hI _ W W' row hs hg hr) (fun c s W W' row hs hg hr => hs) h0
  (fun x a' _ => a' = { tmps := (a.tmps.setIfInBounds p (.int .i64 x.1)).setIfInBounds d (.int .i64 x.1), defers := [] }) (fun _ _ => ownFrom_tame (fun _ _ _ _ h => h)) ?_ ?_ ?_ ?_
 ·intro l pre x W K hi hK
  refine wpIn_region_list ?_
  gi_wp2
  have := hK _ _ (KeepsFrom.refl _ _) (fun h => h) hi rfl
  simpa [eltEnc, Act.eval, hp] using this
 ·rintro l pre x a' W _ _ hi rfl hlt
  refine wpIn_mono (hbody l _ x.1 W x.2 hi (by simpa using hlt)) ?_
  intro e a' W' h
  rw [show pre.map (·.1) ++ [x.1] = (pre ++ [x]).map (·.1) by simp] at h
  cases e with
  | normal => exact ⟨h.1, fun _ => hT _ _ h.2, h.2⟩
  | ret => exact h
  | exit id => exact h
  | goto t => exact h
  | panic c => exact h
  | outgrown => exact h
 ·intro ys W hS hI'
  exact hdone W (by rw [← hS]; exact hI')
 ·intro c pre W _ hI'
  exact hI'.elim
end Go.Proofs.YtpibdjkajgfgjaaDoor.Core
end
section
set_option linter.unusedVariables false
set_option linter.unusedSimpArgs false
namespace Go.Proofs.YtpibdjkajgfgjaaDoor.Core
open Go Go.RowKit Go.Shelf Go.Proofs.YtpibdjkajgfgjaaDoorW.PrintWords Go.Proofs.YtpibdjkajgfgjaaDoorW.PrintLast Go.Proofs.YtpibdjkajgfgjaaDoorW.PrintMore Go.Proofs.YtpibdjkajgfgjaaDoor.P
attribute [local go_sem] Oper.semAt_some wide_fn wide_depth max2_int max_two
set_option maxRecDepth 100000 in
set_option maxHeartbeats 2000000 in
theorem tails_row (b : Nat) (G : GD) (w : World) (hT : Tab w) (hg : IsG w b G) (ok : GOk G) (htk : ∀ t ∈ G.tasks, taskOk t) :
  Calls Tryd.prog 78 #[.pointer (some ⟨b, 0, none⟩)] w fun e w' => ∃ p, e = .returned (.slice (some ⟨p, 0, none⟩) G.tasks.length G.tasks.length) ∧ w.heap.size ≤ p ∧ w'.heap[p]? = some (.cells (icells (tailsN G)) 3 (0, 0)) ∧ Below w.heap.size w w' := by
 have h8 := ok.n8
 have hmk := run_make_ints G.tasks.length h8
 have x1 := Boxed.new w 63 (.pointer (some ⟨b, 0, none⟩))
 have B1 := (Below.refl w.heap.size w).alloc (Nat.le_refl _) (.cells #[.pointer (some ⟨b, 0, none⟩)] 63)
 have o1 : (w.alloc (.cells #[.pointer (some ⟨b, 0, none⟩)] 63)).heap.size = w.heap.size + 1 := by simp
 obtain ⟨w1, hw1⟩ : ∃ w1, w1 = w.alloc (.cells #[.pointer (some ⟨b, 0, none⟩)] 63) := ⟨_, rfl⟩
 rw [← hw1] at x1 B1 o1
 have hg1 := hg.move B1
 have hsz := (size_calls b G w1 hg1).mono (R' := fun e w' => e = .returned (.int .i64 (G.tasks.length : Int)) ∧ w' = w1) (fun _ _ h => ⟨h.1, h.2.symm⟩)
 have hcx1 := x1.cell
 obtain ⟨w3, hw3⟩ : ∃ w3, w3 = ((w1.alloc (.cells (icells (List.replicate G.tasks.length 0)) 3)).alloc (.cells #[.slice (some ⟨w.heap.size + 1, 0, none⟩) G.tasks.length G.tasks.length] 23)) := ⟨_, rfl⟩
 have HS : SI w (w.heap.size + 1) (w.heap.size + 1 + 1) G.tasks.length w3 (List.replicate G.tasks.length 0) := by
  rw [hw3]
  refine ⟨cells_alloc (by rw [← o1]; exact cells_new w1 _) _, ?_, (B1.alloc (by omega) _).alloc (by simp; omega) _⟩
  have h := Boxed.new (w1.alloc (.cells (icells (List.replicate G.tasks.length 0)) 3)) 23 (.slice (some ⟨w.heap.size + 1, 0, none⟩) G.tasks.length G.tasks.length)
  rw [show (w1.alloc (.cells (icells (List.replicate G.tasks.length 0)) 3)).heap.size = w.heap.size + 1 + 1 by simp [o1]] at h
  exact h
 have x3 : Boxed w3 w.heap.size 63 (.pointer (some ⟨b, 0, none⟩)) := by rw [hw3]; exact (x1.alloc _).alloc _
 have o3 : w3.heap.size = w.heap.size + 1 + 1 + 1 := by rw [hw3]; simp [o1]
 obtain ⟨Ao, co, hco0, -, hCo⟩ := hg.order
 have hco := (HS.below.cell (World.block_lt_of_cell? _ _ hco0)).trans hco0
 rw [← up_length G.order] at hCo
 clear hco0
 have hcx3 := x3.cell
 have HW3 := Aside0.mk hw3
 rw [hw3] at hco hcx3
 have HCo := Aside0.mk hCo
 have Hg := Aside0.mk hg
 have HT := Aside0.mk hT
 have OK := Aside0.mk ok
 have HTK := Aside0.mk htk
 have HSS := Aside0.mk HS
 have HX3 := Aside0.mk x3
 have HO3 := Aside0.mk o3
 have HW1 := Aside0.mk hw1
 clear hw1 hw3 hg hT ok htk hCo HS x3 o3 hg1 B1 x1
 refine calls_marks Tryd.func78 rfl ?_
 simp only [Tryd.ntmps78, List.size_toArray, List.length_cons, List.length_nil, Nat.reduceAdd, Nat.reduceSub, Array.replicate_succ, Array.replicate_zero, List.push_toArray, List.append_toArray, List.nil_append, List.cons_append]
 go_wp2_with (first | (go_at_call 62; rw [← HW1.out]; refine hsz.mono ?_; rintro e w' ⟨rfl, hw⟩; rw [hw]; clear hw w') | (go_at_call 110; rw [← HW3.out]; refine (backward_calls _ ⟨_, _, _, rfl⟩ w3).mono ?_; rintro e w' ⟨rfl, rfl⟩))
 clear hmk hsz hcx1 hcx3 hco
 have hol : (up G.order).length = G.order.length := up_length _
 have hol8 : (up G.order).length ≤ 8 := by have := OK.out.ol; omega
 have ev : Value.slice Ao G.order.length co = .slice Ao (up G.order).length co := by rw [hol]
 rw [ev]
 have hbx := Boxed.new w3 23 (.slice Ao (up G.order).length co)
 rw [HO3.out] at hbx
 have o4 : (w3.alloc (.cells #[.slice Ao (up G.order).length co] 23)).heap.size = w.heap.size + 1 + 1 + 1 + 1 := by simp [HO3.out]
 have hS4 := HSS.out.alloc (.cells #[.slice Ao (up G.order).length co] 23)
 have x4 := HX3.out.alloc (.cells #[.slice Ao (up G.order).length co] 23)
 rw [HO3.out]
 have HO1 := Aside0.mk o1
 clear o1 ev
 revert hbx o4 hS4 x4
 generalize w3.alloc (.cells #[.slice Ao (up G.order).length co] 23) = w4
 intro hbx o4 hS4 x4
 have HT0 : ∀ W, Below w4.heap.size w4 W → BwT (w.heap.size + 1 + 1 + 1) Ao co (up G.order) W := fun W hB => ⟨(hB.block _ hbx.lt).trans hbx, Kd.C_below HCo.out (below_step hS4.below hB)⟩
 have hle4 : w.heap.size ≤ w4.heap.size := by omega
 have htm20 := tm20_of HTK.out
 have H256 := Aside0.mk (pow8 h8)
 have HOL := Aside0.mk hol
 clear hol
 refine wp_rangeBack (w := w4) (Bn := w.heap.size + 1 + 1 + 1) (c := co) (A := Ao) (xs := up G.order) (p := 15) (q := 16) (d := 5) rfl hol8 HT0 (by simp) (by simp)
  (fun ys W => SI w (w.heap.size + 1) (w.heap.size + 1 + 1) G.tasks.length W (tTo G.tasks G.needs G.tasks.length (ys.map fun j => G.order.getD j 0)) ∧ Boxed W w.heap.size 63 (.pointer (some ⟨b, 0, none⟩)) ∧ BwT (w.heap.size + 1 + 1 + 1) Ao co (up G.order) W ∧ w4.heap.size ≤ W.heap.size)
  (ownFrom_tame (fun ys W W' ht ⟨a1, a2, a3, a4⟩ => ⟨a1.tame hle4 ht, ht.boxed a2, a3.tame (fun _ _ => C_tame) ht, Nat.le_trans a4 ht.size⟩))
  ⟨hS4, x4, HT0 w4 (Below.refl _ _), Nat.le_refl _⟩ (fun ys W h => h.2.2.1) (fun ys W o ⟨a1, a2, a3, a4⟩ => ⟨a1.alloc o, a2.alloc o, a3.tame (fun _ _ => C_tame) (Tame.alloc w4.heap.size W o), Nat.le_trans a4 (Tame.alloc w4.heap.size W o).size⟩) (fun ys W h => h.2.2.2) ?assign ?body ?done
 case assign =>
  intro l j W K hK
  generalize rd (up G.order) ((j : Nat) : Int) = xj at hK ⊢
  generalize ((j : Nat) : Int) = ji at hK ⊢
  gi_wp2
  exact hK
 case body =>
  rintro l pre j Bx W1 hj hl ⟨r, hr⟩ ⟨hSI, hxb, hbw, hsz⟩ hlt hBx hbi
  have hro : rd (up G.order) ((j : Nat) : Int) = ((G.order.getD j 0 : Nat) : Int) := rd_up rfl
  rw [hro] at hbi ⊢
  have hjo : j < G.order.length := by rw [HOL.out] at hj; exact hj
  have hil : G.order.getD j 0 < G.tasks.length := OK.out.ob _ (by rw [List.getD_eq_getElem?_getD, List.getElem?_eq_getElem hjo]; exact List.getElem_mem hjo)
  have hsnoc := tTo_snoc G.tasks G.needs G.tasks.length (pre.map fun j => G.order.getD j 0) (G.order.getD j 0)
  have hlen := tTo_length G.tasks G.needs G.tasks.length (pre.map fun j => G.order.getD j 0)
  have hbd := tTo_le htm20 G.needs G.tasks.length (pre.map fun j => G.order.getD j 0)
  rw [List.length_map] at hbd
  have hpm : ∀ R : List Nat, R = tOne G.tasks G.needs (tTo G.tasks G.needs G.tasks.length (pre.map fun j => G.order.getD j 0)) (G.order.getD j 0) → tTo G.tasks G.needs G.tasks.length ((pre ++ [j]).map fun j => G.order.getD j 0) = R := fun R h => by rw [h, ← hsnoc, List.map_append]; rfl
  generalize tTo G.tasks G.needs G.tasks.length (pre.map fun j => G.order.getD j 0) = L at hSI hlen hbd hpm
  generalize G.order.getD j 0 = i at hbi hil hpm ⊢
  clear hsnoc hro hjo hj
  generalize hxi : ((i : Nat) : Int) = xi at hbi ⊢
  generalize ((j : Nat) : Int) = ji
  gi_wp2
  refine wpIn_still_tail 14 rfl (by kernel_rfl) (by kernel_rfl) (fun ⟨_, _, h⟩ => h) ?_
  change wpStill _ _ W1.drew (fun a' => wpList _ _ _ _ a' W1.drew) _ _
  have hdr : Below W1.heap.size W1 W1.drew := below_drew (Below.refl _ _)
  have hko := KeepsOthers.drew W1
  revert hdr hko
  generalize W1.drew = Wd
  intro hdr hko
  have hSI2 := hSI.move hdr
  have hxb2 : Boxed Wd w.heap.size 63 (.pointer (some ⟨b, 0, none⟩)) := (hdr.block _ hxb.lt).trans hxb
  have hbi2 : Boxed Wd Bx 3 (.int .i64 xi) := (hdr.block _ hbi.lt).trans hbi
  have hbw2 : BwT (w.heap.size + 1 + 1 + 1) Ao co (up G.order) Wd := ⟨(hdr.block _ hbw.1.lt).trans hbw.1, Kd.C_below hbw.2 hdr⟩
  have hsz2 : w4.heap.size ≤ Wd.heap.size := Nat.le_trans hsz hdr.size
  have hgd := Hg.out.move hSI2.below
  obtain ⟨A, c, hc0, hcl, hC⟩ := hgd.tasks
  have p0 : 0 ≤ xi := by omega
  have q0 : xi < (G.tasks.length : Int) := by omega
  obtain ⟨ad, A1, c1, e0, h0, h1, h2, h3, h4, h5⟩ := at_T48 hC xi p0 q0
  subst e0
  have hrd : rd_T48 G.tasks xi = G.tasks.getD i z48 := by rw [← hxi]; simp [rd_T48]
  have htm := tm_int HTK.out hil
  rw [hrd, htm.1] at h0
  obtain ⟨ad5, had5⟩ : ∃ ad5 : Addr, ad5 = ⟨w.heap.size + 1, 0, none⟩ := ⟨_, rfl⟩
  have hc10 : Wd.cell? ⟨w.heap.size + 1 + 1, 0, none⟩ = some (.slice (some ad5) G.tasks.length G.tasks.length) := by rw [had5]; exact hSI2.box.cell
  have hci := hbi2.cell
  have hcx := hxb2.cell
  have hLi := icell hSI2.row i (by omega)
  have hfi := ifrozen hSI2.row i
  have hit : xi.toNat = i := by omega
  have hli := hbd i
  have hone : tOne G.tasks G.needs L i = (elemsN (G.needs.getD i 0)).foldl (tStep i) (L.set i (L.getD i 0 + tmN G.tasks i)) := rfl
  have hl320 : L.getD i 0 ≤ 320 := Nat.le_trans hli (by omega)
  have ht20 := htm.2.2
  obtain ⟨hadd, hadd2⟩ := wadd (a := L.getD i 0) (b := tmN G.tasks i) (Nat.le_trans hl320 (by decide)) (Nat.le_trans ht20 (by decide))
  have hbd2 : leB 1000 (L.set i (L.getD i 0 + tmN G.tasks i)) := leB_set (leB_mono hbd (show pre.length * 20 ≤ 1000 by omega)) (Nat.le_trans (Nat.add_le_add hl320 ht20) (by decide))
  rw [hone] at hpm
  generalize hsum : L.getD i 0 + tmN G.tasks i = sm at hadd hadd2 hpm hbd2
  generalize hsmi : ((sm : Nat) : Int) = smI at hadd hadd2
  generalize ((L.getD i 0 : Nat) : Int) = li at hLi hadd hadd2
  generalize (tmN G.tasks i : Int) = tmi at h0 hadd hadd2
  rw [← add_own, ← had5, ← hit] at hLi hfi
  have HH := Aside0.mk (show xi.toNat = i ∧ ad5 = ⟨w.heap.size + 1, 0, none⟩ ∧ smI = ((sm : Nat) : Int) ∧ ((i : Nat) : Int) = xi from ⟨hit, had5, hsmi.symm, hxi⟩)
  have HPM := Aside0.mk hpm
  have HBD := Aside0.mk hbd2
  have HLEN := Aside0.mk hlen
  have HIL := Aside0.mk hil
  have HSI2 := Aside0.mk hSI2
  have HLT := Aside0.mk hlt
  have hro2 := hko.same l _ hr rfl
  replace p0 := eq_true p0
  replace q0 := eq_true q0
  clear hl320 ht20 hit had5 hsmi hxi hpm hbd2 hlen hil hSI2 hlt hone hsum htm hrd h1 h2 h3 h4 h5 hC hcl hgd hbd hli hSI hxb hbi hbw
  have hr0 := hr
  clear hr
  simp only [List.take_succ_cons, List.take_zero, List.drop_succ_cons, List.drop_zero]
  repeat still_step
  refine wpStill_nil ?_
  go_wp2
  obtain ⟨hit, had5, hsmi, hxi⟩ := HH.out
  have hadr : ad5.add xi.toNat = ⟨w.heap.size + 1, i, none⟩ := by rw [had5, add_own, hit]
  rw [hadr, hsmi]
  have hko3 := hko.trans (KeepsOthers.setCell Wd ⟨w.heap.size + 1, i, none⟩ (.int .i64 ((sm : Nat) : Int)))
  have hs3 := HSI2.out.set (by omega) (by omega) i sm
  have hgr := grownBy_setCell'' Wd (w.heap.size + 1) i (.int .i64 ((sm : Nat) : Int))
  have hxb3 : Boxed (Wd.setCell ⟨w.heap.size + 1, i, none⟩ (.int .i64 ((sm : Nat) : Int))) w.heap.size 63 (.pointer (some ⟨b, 0, none⟩)) := (sother _ (by omega)).trans hxb2
  have hbi3 : Boxed (Wd.setCell ⟨w.heap.size + 1, i, none⟩ (.int .i64 ((sm : Nat) : Int))) Bx 3 (.int .i64 xi) := (sother _ (by omega)).trans hbi2
  have hbw3 : BwT (w.heap.size + 1 + 1 + 1) Ao co (up G.order) (Wd.setCell ⟨w.heap.size + 1, i, none⟩ (.int .i64 ((sm : Nat) : Int))) := ⟨(sother _ (by omega)).trans hbw2.1, Kd.C_below HCo.out hs3.below⟩
  have hro3 := hko3.same l _ hr0 rfl
  have hsz3 : w4.heap.size ≤ (Wd.setCell ⟨w.heap.size + 1, i, none⟩ (.int .i64 ((sm : Nat) : Int))).heap.size := Nat.le_trans hsz2 hgr.size
  revert hko3 hs3 hxb3 hbi3 hbw3 hro3 hsz3
  clear hgr hro2 hadr hfi hLi h0 hc10 hci hcx hc0 hdr hko hxb2 hbi2 hbw2 hsz2
  generalize Wd.setCell ⟨w.heap.size + 1, i, none⟩ (.int .i64 ((sm : Nat) : Int)) = W3
  intro hko3 hs3 hxb3 hbi3 hbw3 hro3 hsz3
  refine wpIn_seq ?_
  refine wpIn_still_tail 7 rfl (by kernel_rfl) (by kernel_rfl) (fun ⟨_, _, h⟩ => h) ?_
  change wpStill _ _ W3.drew (fun a' => wpList _ _ _ _ a' W3.drew) _ _
  have hdr : Below W3.heap.size W3 W3.drew := below_drew (Below.refl _ _)
  have hko := KeepsOthers.drew W3
  revert hdr hko
  generalize W3.drew = W4
  intro hdr hko
  have hs4 := hs3.move hdr
  have hxb4 : Boxed W4 w.heap.size 63 (.pointer (some ⟨b, 0, none⟩)) := (hdr.block _ hxb3.lt).trans hxb3
  have hbi4 : Boxed W4 Bx 3 (.int .i64 xi) := (hdr.block _ hbi3.lt).trans hbi3
  have hbw4 : BwT (w.heap.size + 1 + 1 + 1) Ao co (up G.order) W4 := ⟨(hdr.block _ hbw3.1.lt).trans hbw3.1, Kd.C_below HCo.out hs4.below⟩
  have hko4 := hko3.trans hko
  have hsz4 : w4.heap.size ≤ W4.heap.size := Nat.le_trans hsz3 hdr.size
  clear hro3 hdr hko hko3 hxb3 hbi3 hbw3 hsz3 hs3
  have hgd := Hg.out.move hs4.below
  obtain ⟨An, cn, hcn, _, hCn⟩ := hgd.needs
  have hnl := OK.out.nl
  have hil := HIL.out
  have p1 : 0 ≤ xi := by omega
  have q1 : xi < (G.needs.length : Int) := by omega
  obtain ⟨adn, e1, hxn⟩ := Kd.at_int hCn xi p1 q1
  subst e1
  rw [rd_up (i := i) hxi.symm] at hxn
  have hNi : G.needs.getD i 0 < 2 ^ G.tasks.length := getD_lt OK.out.nb i
  have HPM2 := Aside0.mk HPM.out
  clear HPM
  generalize hs_ : G.needs.getD i 0 = s at hxn hNi HPM2
  have hs8 : s < 256 := Nat.lt_of_lt_of_le hNi H256.out
  have hcx := hxb4.cell
  have hci := hbi4.cell
  replace p1 := eq_true p1
  replace q1 := eq_true q1
  clear hnl hCn hs_ hit had5 hsmi hxi hgd hil
  simp only [List.take_succ_cons, List.take_zero, List.drop_succ_cons, List.drop_zero]
  repeat still_step
  refine wpStill_nil ?_
  go_wp2_with (go_at_call 79; refine (all_calls s _).mono ?_; rintro e w' ⟨rfl, rfl⟩)
  clear hcn hxn hcx hci p1 q1
  have hs5 := Boxed.new W4 67 (.int .u16 (s : Int))
  have hS5 := hs4.alloc (.cells #[.int .u16 (s : Int)] 67)
  have hxb5 := hxb4.alloc (.cells #[.int .u16 (s : Int)] 67)
  have hbi5 := hbi4.alloc (.cells #[.int .u16 (s : Int)] 67)
  have hbw5 : BwT (w.heap.size + 1 + 1 + 1) Ao co (up G.order) (W4.alloc (.cells #[.int .u16 (s : Int)] 67)) := ⟨hbw4.1.alloc _, Kd.C_below HCo.out hS5.below⟩
  have hko5 := hko4.trans (KeepsOthers.alloc W4 (.cells #[.int .u16 (s : Int)] 67))
  have hsz5 : (W4.alloc (.cells #[.int .u16 (s : Int)] 67)).heap.size = W4.heap.size + 1 := by simp
  revert hs5 hS5 hxb5 hbi5 hbw5 hko5 hsz5
  generalize W4.alloc (.cells #[.int .u16 (s : Int)] 67) = W5
  intro hs5 hS5 hxb5 hbi5 hbw5 hko5 hsz5
  have hro5 := hko5.same l _ hr0 rfl
  have hle5 : w.heap.size ≤ W5.heap.size := hS5.below.size
  gi_wp2
  refine wpIn_rangeSetN Tab.tame (w := W5) (w0 := W5) (p := 39) (d := 6) hro5 rfl (enters_of Tryd.func111 (by kernel_rfl) rfl)
   (all_seq W4.heap.size s hs8 W5 (HT.out.of hS5.below) hs5.cell) (Below.refl _ _) (by simp)
   (fun ys W' => (∃ zs : List Nat, (∀ z ∈ zs, z < G.tasks.length) ∧ ys = up zs ∧ SI w (w.heap.size + 1) (w.heap.size + 1 + 1) G.tasks.length W' (zs.foldl (tStep i) (L.set i sm)) ∧ Boxed W' Bx 3 (.int .i64 xi) ∧ Boxed W' w.heap.size 63 (.pointer (some ⟨b, 0, none⟩)) ∧ BwT (w.heap.size + 1 + 1 + 1) Ao co (up G.order) W' ∧ W5.heap.size ≤ W'.heap.size) ∧ KeepsFrom w4.heap.size W1 W')
   (OwnFrom.and (ownFrom_tame (fun ys W' W'' ht ⟨zs, z, a1, a2, a3, a4, a5, a6⟩ => ⟨zs, z, a1, a2.tame hle5 ht, ht.boxed a3, ht.boxed a4, a5.tame (fun _ _ => C_tame) ht, Nat.le_trans a6 ht.size⟩)) (ownFrom_keepsFrom hko5.size))
   ⟨⟨[], by simp, rfl, hS5, hbi5, hxb5, hbw5, Nat.le_refl _⟩, hko5.from _⟩ (fun ys W' ⟨⟨_, _, _, h, _⟩, _⟩ => HT.out.of h.below) ?body2 ?done2
  case body2 =>
   rintro l2 pre2 x W6 hx ⟨⟨zs, hzl, rfl, hS6, hbi6, hxb6, hbw6, hsz6⟩, hkf6⟩ hlt2
   gi_wp2
   obtain ⟨k0, hxk, hk0, _⟩ := mem_elems.1 hx
   have hkn : k0 < G.tasks.length := by have := elems_lt hNi hx; omega
   have hL1 : (zs.foldl (tStep i) (L.set i sm)).length = G.tasks.length := by rw [tfold_length, List.length_set, HLEN.out]
   have hil := HIL.out
   have hstep : (zs ++ [k0]).foldl (tStep i) (L.set i sm) = (zs.foldl (tStep i) (L.set i sm)).set k0 (max ((zs.foldl (tStep i) (L.set i sm)).getD k0 0) ((zs.foldl (tStep i) (L.set i sm)).getD i 0)) := by rw [List.foldl_append]; rfl
   refine wpIn_still_tail 12 rfl (by kernel_rfl) (by kernel_rfl) (fun ⟨_, _, h⟩ => h) ?_
   change wpStill _ _ W6.drew (fun a' => wpList _ _ _ _ a' W6.drew) _ _
   have hdr : Below W6.heap.size W6 W6.drew := below_drew (Below.refl _ _)
   have hko := KeepsOthers.drew W6
   revert hdr hko
   generalize W6.drew = Wd
   intro hdr hko
   have hS7 := hS6.move hdr
   have hbi7 : Boxed Wd Bx 3 (.int .i64 xi) := (hdr.block _ hbi6.lt).trans hbi6
   have hxb7 : Boxed Wd w.heap.size 63 (.pointer (some ⟨b, 0, none⟩)) := (hdr.block _ hxb6.lt).trans hxb6
   have hbw7 : BwT (w.heap.size + 1 + 1 + 1) Ao co (up G.order) Wd := ⟨(hdr.block _ hbw6.1.lt).trans hbw6.1, Kd.C_below HCo.out hS7.below⟩
   obtain ⟨ad7, had7⟩ : ∃ ad7 : Addr, ad7 = ⟨w.heap.size + 1, 0, none⟩ := ⟨_, rfl⟩
   have hc10 : Wd.cell? ⟨w.heap.size + 1 + 1, 0, none⟩ = some (.slice (some ad7) G.tasks.length G.tasks.length) := by rw [had7]; exact hS7.box.cell
   have hci := hbi7.cell
   have hLi := icell hS7.row i (by omega)
   have hLk := icell hS7.row k0 (by omega)
   have hfk := ifrozen hS7.row k0
   obtain ⟨hit, -, -, hxi⟩ := HH.out
   have hkt : x.toNat = k0 := by omega
   have hmx := wmax ((zs.foldl (tStep i) (L.set i sm)).getD k0 0) ((zs.foldl (tStep i) (L.set i sm)).getD i 0)
   generalize (zs.foldl (tStep i) (L.set i sm)).getD i 0 = si at hLi hstep hmx
   generalize (zs.foldl (tStep i) (L.set i sm)).getD k0 0 = sk at hLk hstep hmx
   generalize hsI : ((si : Nat) : Int) = sI at hLi hmx
   generalize hsK : ((sk : Nat) : Int) = sK at hLk hmx
   rw [← add_own, ← had7, ← hit] at hLi
   rw [← add_own, ← had7, ← hkt] at hLk hfk
   have p2 : (0 ≤ x) = True := eq_true (by omega)
   have q2 : (x < (G.tasks.length : Int)) = True := eq_true (by omega)
   have p3 : (0 ≤ xi) = True := eq_true (by omega)
   have q3 : (xi < (G.tasks.length : Int)) = True := eq_true (by omega)
   have HH2 := Aside0.mk (show x = (k0 : Int) ∧ x.toNat = k0 ∧ ad7 = ⟨w.heap.size + 1, 0, none⟩ from ⟨hxk, hkt, had7⟩)
   have HSTEP := Aside0.mk hstep
   have HMX := Aside0.mk hmx
   have HKN := Aside0.mk hkn
   clear hxk hkt had7 hsI hsK hx hstep hmx hlt2 hit hxi hL1 hil hkn
   simp only [List.take_succ_cons, List.take_zero, List.drop_succ_cons, List.drop_zero]
   repeat still_step
   rw [HMX.out]
   refine wpStill_nil ?_
   go_wp2
   gi_wp2
   obtain ⟨hxk, hkt, had7⟩ := HH2.out
   rw [show ad7.add x.toNat = ⟨w.heap.size + 1, k0, none⟩ by rw [had7, add_own, hkt]]
   have hkoS := hko.trans (KeepsOthers.setCell Wd ⟨w.heap.size + 1, k0, none⟩ (.int .i64 ((max sk si : Nat) : Int)))
   have hS8 := hS7.set (by omega) (by omega) k0 (max sk si)
   refine ⟨hkoS.from _, ⟨zs ++ [k0], ?_, ?_, ?_, ?_, ?_, ?_, ?_⟩, hkf6.trans (hkoS.from _)⟩
   ·intro z hz
    rcases List.mem_append.1 hz with hz | hz
    ·exact hzl z hz
    ·rw [List.mem_singleton.1 hz]; exact HKN.out
   ·rw [hxk]; simp [up]
   ·rw [HSTEP.out]; exact hS8
   ·exact (sother _ (by omega)).trans hbi7
   ·exact (sother _ (by omega)).trans hxb7
   ·exact ⟨(sother _ (by omega)).trans hbw7.1, Kd.C_below HCo.out hS8.below⟩
   ·exact Nat.le_trans hsz6 (Nat.le_trans hdr.size (KeepsOthers.setCell _ _ _).size)
  case done2 =>
   rintro W6 ⟨⟨zs, hzl, hzs, hS6, hbi6, hxb6, hbw6, hsz6⟩, hkf6⟩
   obtain rfl : elemsN s = zs := up_inj hzs
   clear hzs
   gi_wp2
   exact ⟨hkf6, by rw [HPM2.out _ rfl]; exact hS6, hxb6, hbw6, by have := hS5.below.size; have := hko5.size; omega⟩
 case done =>
  rintro D W2 hD ⟨hSI, hxb, hbw, hsz⟩ hk
  have hm := (Marks.nil w.heap.size w4.heap.size W2).cons hD hle4 hk
  have hcb := hSI.box.cell
  clear hk
  go_wp2
  refine leave_ret hm (fun W => results_tmp rfl _ _ _) ?_
  intro W' ht
  have hG := hSI.tame (Nat.le_refl _) ht
  refine ⟨_, rfl, by omega, ?_, hG.below⟩
  have hrow := hG.row
  have hrev : ((List.range (up G.order).length).reverse.map fun j => G.order.getD j 0) = G.order.reverse := by
   rw [List.map_reverse]
   congr 1
   rw [HOL.out]
   refine List.ext_getElem (by simp) fun k h1 h2 => ?_
   simp only [List.getElem_map, List.getElem_range]
   rw [List.getD_eq_getElem?_getD, List.getElem?_eq_getElem h2]
   rfl
  rw [hrev] at hrow
  exact hrow
/-- A block of numbers, told as a row. -/
theorem icells_R {w : World} {base p n : Nat} {L : List Nat} (hp : base ≤ p) (hrow : w.heap[p]? = some (.cells (icells L) 3 (0, 0))) (hl : L.length = n) (hn : n ≤ 8) : (Kd.int .i64).R 3 w base (fun _ => True) (.slice (some ⟨p, 0, none⟩) n n) (up L) := by
 have hl' : (up L).length = n := by rw [up_length]; exact hl
 exact row_R (k := .i64) (xs := up L) ⟨by simp [encs], .inr ⟨p, n, icells L, by rw [hl'], hp, hrow, by rw [hl']; exact Nat.le_refl _, by unfold maxLen; omega, by simp [icells]; exact hl, by rw [hl']; simp [icells, encs, up]; exact List.take_of_length_le (by rw [List.length_map]; exact Nat.le_of_eq hl)⟩⟩
theorem tailsN_length (G : GD) : (tailsN G).length = G.tasks.length := tTo_length _ _ _ _
theorem tails_calls (b : Nat) (G : GD) (w : World) (hT : Tab w) (hg : IsG w b G) (ok : GOk G) (htk : ∀ t ∈ G.tasks, taskOk t) :
  Calls Tryd.prog 78 #[.pointer (some ⟨b, 0, none⟩)] w fun e w' => ∃ v, e = .returned v ∧ (Kd.int .i64).R 3 w' w.heap.size (fun _ => True) v (up (tailsN G)) ∧ Below w.heap.size w w' :=
 (tails_row b G w hT hg ok htk).mono fun e w' ⟨p, h1, h2, h3, h4⟩ => ⟨_, h1, icells_R h2 h3 (tailsN_length G) ok.n8, h4⟩
end Go.Proofs.YtpibdjkajgfgjaaDoor.Core
end
section
set_option linter.unusedVariables false
set_option linter.unusedSimpArgs false
namespace Go.Proofs.YtpibdjkajgfgjaaDoor.Core
open Go Go.RowKit Go.Proofs.YtpibdjkajgfgjaaDoor.P
def tailTD (g : List Tk) : List Int := match graphD g with
 | none => []
 | some G => up (tailsN G)
end Go.Proofs.YtpibdjkajgfgjaaDoor.Core
namespace Go.Proofs.YtpibdjkajgfgjaaDoor.P
open Go Go.RowKit Go.Shelf Go.Proofs.YtpibdjkajgfgjaaDoorW.PrintWords Go.Proofs.YtpibdjkajgfgjaaDoorW.PrintMore Go.Proofs.YtpibdjkajgfgjaaDoor.Core
attribute [local go_sem] Oper.semAt_some wide_fn wide_depth
def impl_TailTimes.f (l0 : List S48) : Option (List Int) := some (tailTD l0)
set_option maxRecDepth 100000 in
set_option maxHeartbeats 1000000 in
theorem impl_TailTimes.calls (A0 : Option Addr) (c0 : Nat) (l0 : List S48) (r : List Int) (w : World) (hr0 : Kd.C k48 w A0 l0.length l0) (hc0 : l0.length ≤ c0) (hT : Tab w) (h : impl_TailTimes.f l0 = some r) :
  Calls Tryd.prog 44 #[.slice A0 l0.length c0] w fun e w' => ∃ v0_ : Value, e = .returned (v0_) ∧ Kd.R (Kd.int .i64) 3 w' w.heap.size (fun _ => True) v0_ r ∧ Below w.heap.size w w' := by
 have hr : r = tailTD l0 := (Option.some.inj h).symm
 subst hr
 clear h
 cases hg : graphD l0 with
 | none =>
  have hcd : tailTD l0 = [] := by unfold tailTD; rw [hg]
  rw [hcd]
  have HG := Aside0.mk (graphOf_none A0 c0 l0 w hT hr0 hc0 hg)
  clear hr0 hT hg hcd
  go_enter Tryd.func44, Tryd.ntmps44
  go_wp2_with (go_at_call 60; refine HG.out.mono ?_; rintro e w' ⟨rfl, hB⟩)
  go_ret
  exact ⟨_, rfl, Kd.R_nil _ _ _ _ _, hB⟩
 | some G =>
  have hcd : tailTD l0 = up (tailsN G) := by unfold tailTD; rw [hg]
  rw [hcd]
  have HG := Aside0.mk (graphOf_some A0 c0 l0 G w hT hr0 hc0 hg)
  have HM := Aside0.mk (fun b W hT hgr => tails_calls b G W hT hgr (graphD_ok hg) (by rw [graphD_tasks hg]; exact graphD_taskOk hg))
  have HT := Aside0.mk hT
  clear hr0 hT hg hcd
  go_enter Tryd.func44, Tryd.ntmps44
  go_wp2_with (first | (go_at_call 60; refine HG.out.mono ?_; rintro e w1 ⟨b, rfl, hB, hgr⟩) | (go_at_call 78; refine (HM.out b _ (HT.out.of hB) hgr).mono ?_; rintro e w2 ⟨v, rfl, hR, hB2⟩))
  go_ret
  exact ⟨_, rfl, Kd.R_mono (Kd.R_lower hR hB.size) (fun _ _ => trivial), below_step hB hB2⟩
end Go.Proofs.YtpibdjkajgfgjaaDoor.P
end
section
set_option linter.unusedVariables false
set_option linter.unusedSimpArgs false
namespace Go.Proofs.YtpibdjkajgfgjaaDoor.Core
open Go Go.RowKit Go.Proofs.YtpibdjkajgfgjaaDoor.P
def stageOfD (g : List Tk) : List Int := match graphD g with
 | none => []
 | some G => up (stagesN G)
end Go.Proofs.YtpibdjkajgfgjaaDoor.Core
namespace Go.Proofs.YtpibdjkajgfgjaaDoor.P
open Go Go.RowKit Go.Shelf Go.Proofs.YtpibdjkajgfgjaaDoorW.PrintWords Go.Proofs.YtpibdjkajgfgjaaDoorW.PrintMore Go.Proofs.YtpibdjkajgfgjaaDoor.Core
attribute [local go_sem] Oper.semAt_some wide_fn wide_depth
def impl_StageOf.f (l0 : List S48) : Option (List Int) := some (stageOfD l0)
set_option maxRecDepth 100000 in
set_option maxHeartbeats 1000000 in
theorem impl_StageOf.calls (A0 : Option Addr) (c0 : Nat) (l0 : List S48) (r : List Int) (w : World) (hr0 : Kd.C k48 w A0 l0.length l0) (hc0 : l0.length ≤ c0) (hT : Tab w) (h : impl_StageOf.f l0 = some r) :
  Calls Tryd.prog 45 #[.slice A0 l0.length c0] w fun e w' => ∃ v0_ : Value, e = .returned (v0_) ∧ Kd.R (Kd.int .i64) 3 w' w.heap.size (fun _ => True) v0_ r ∧ Below w.heap.size w w' := by
 have hr : r = stageOfD l0 := (Option.some.inj h).symm
 subst hr
 clear h
 cases hg : graphD l0 with
 | none =>
  have hcd : stageOfD l0 = [] := by unfold stageOfD; rw [hg]
  rw [hcd]
  have HG := Aside0.mk (graphOf_none A0 c0 l0 w hT hr0 hc0 hg)
  clear hr0 hT hg hcd
  go_enter Tryd.func45, Tryd.ntmps45
  go_wp2_with (go_at_call 60; refine HG.out.mono ?_; rintro e w' ⟨rfl, hB⟩)
  go_ret
  exact ⟨_, rfl, Kd.R_nil _ _ _ _ _, hB⟩
 | some G =>
  have hcd : stageOfD l0 = up (stagesN G) := by unfold stageOfD; rw [hg]
  rw [hcd]
  have HG := Aside0.mk (graphOf_some A0 c0 l0 G w hT hr0 hc0 hg)
  have HM := Aside0.mk (fun b W hT hgr => stages_calls b G W hT hgr (graphD_ok hg))
  have HT := Aside0.mk hT
  clear hr0 hT hg hcd
  go_enter Tryd.func45, Tryd.ntmps45
  go_wp2_with (first | (go_at_call 60; refine HG.out.mono ?_; rintro e w1 ⟨b, rfl, hB, hgr⟩) | (go_at_call 87; refine (HM.out b _ (HT.out.of hB) hgr).mono ?_; rintro e w2 ⟨v, rfl, hR, hB2⟩))
  go_ret
  exact ⟨_, rfl, Kd.R_mono (Kd.R_lower hR hB.size) (fun _ _ => trivial), below_step hB hB2⟩
end Go.Proofs.YtpibdjkajgfgjaaDoor.P
end
