/- The law FnExactAdmitTasks holds of the given program: the proof's own part, with its row and its card, part 5 of 8. -/
import Derived.Test.YtpibdjkajgfgjaaDoorZFnExactAdmitTasks4
import Derived.Laws.Bits64
namespace Go.Proofs.YtpibdjkajgfgjaaDoor.P
abbrev T5q : Bool := true
abbrev F5q : Bool := false
end Go.Proofs.YtpibdjkajgfgjaaDoor.P
section
set_option linter.unusedVariables false
set_option linter.unusedSimpArgs false
namespace Go.Proofs.YtpibdjkajgfgjaaDoor.Core
open Go Go.RowKit Go.Shelf Go.Proofs.YtpibdjkajgfgjaaDoorW.PrintWords Go.Proofs.YtpibdjkajgfgjaaDoorW.PrintLast Go.Proofs.YtpibdjkajgfgjaaDoorW.PrintMore Go.Proofs.YtpibdjkajgfgjaaDoor.P
attribute [local go_sem] Oper.semAt_some wide_fn wide_depth
/-- A pool's units. -/
def Cn.u (c : Cn) (p : Int) : Int := if p = 0 then c.u0 else if p = 1 then c.u1 else c.u2
/-- Whether one task more can run. -/
def takesB (c : Cn) (f2 f3 : Int) (room : List Int) (wk : Int) : Bool := decide (c.t < wk) && decide (wrap64 (c.u f2 + f3) ≤ rd room f2)
/-- A counter behind a task that is let in, or not. -/
def afterTake (c : Cn) (f2 f3 : Int) : Bool → Cn
 | true => c.add f2 f3 1
 | false => c
set_option maxRecDepth 100000 in
set_option maxHeartbeats 2000000 in
theorem takes_calls (pc : Nat) (c : Cn) (f0 f2 f3 : Int) (A : Option Addr) (n cp : Nat) (A2 : Option Addr) (c2 : Nat) (room : List Int) (wk : Int) (w : World) (hc : IsCn w pc c) (hp : f2 = 0 ∨ f2 = 1 ∨ f2 = 2) (hl : room.length = 3) (hC : (Kd.int .i64).C w A2 room.length room) (hcp : room.length ≤ c2) :
  Calls Tryd.prog 106 #[.pointer (some ⟨pc, 0, none⟩), .agg #[.int .i64 f0, .slice A n cp, .int .i64 f2, .int .i64 f3], .slice A2 room.length c2, .int .i64 wk] w fun e w' => e = .returned (.bool (takesB c f2 f3 room wk)) ∧ w.grownBy w' (some pc) ∧ IsCn w' pc (afterTake c f2 f3 (takesB c f2 f3 room wk)) := by
 have hB0 := (Below.refl w.heap.size w).alloc (Nat.le_refl _) (.cells #[.int .i64 f0, .slice A n cp, .int .i64 f2, .int .i64 f3] 48)
 have hcA := hc.move hB0
 have hCA := Kd.C_below hC hB0
 have hpar : (w.alloc (.cells #[.int .i64 f0, .slice A n cp, .int .i64 f2, .int .i64 f3] 48)).heap[w.heap.size]? = some (.cells #[.int .i64 f0, .slice A n cp, .int .i64 f2, .int .i64 f3] 48 (0, 0)) := cells_new w _
 have hlt := cells_lt hc
 have hadd := fun W (h : IsCn W pc c) => add_calls pc c f0 f2 f3 1 A n cp W h hp
 have HADD := Aside0.mk hadd
 have hdef : takesB c f2 f3 room wk = (decide (c.t < wk) && decide (wrap64 (c.u f2 + f3) ≤ rd room f2)) := rfl
 generalize takesB c f2 f3 room wk = tb at hdef ⊢
 have hrd : f2.toNat < 3 ∧ 0 ≤ f2 := by omega
 obtain ⟨ad, e0, hxr⟩ := Kd.at_int hCA f2 (by omega) (by omega)
 subst e0
 clear hadd
 go_enter Tryd.func106, Tryd.ntmps106
 rw [hl] at hC hcp ⊢
 go_wp2
 revert hB0 hcA hCA hpar hxr
 generalize w.alloc (.cells #[.int .i64 f0, .slice A n cp, .int .i64 f2, .int .i64 f3] 48) = w1
 intro hB0 hcA hpar hxr hCA
 clear hCA hC hcp
 have hgA : w.grownBy w1 (some pc) := grown_of_below (some pc) hB0
 have ht0 : w1.cell? ⟨w.heap.size, 0, none⟩ = some (.int .i64 f0) := by simp [World.cell?, hpar]
 have ht1 : w1.cell? ⟨w.heap.size, 1, none⟩ = some (.slice A n cp) := by simp [World.cell?, hpar]
 have ht2 : w1.cell? ⟨w.heap.size, 2, none⟩ = some (.int .i64 f2) := by simp [World.cell?, hpar]
 have ht3 : w1.cell? ⟨w.heap.size, 3, none⟩ = some (.int .i64 f3) := by simp [World.cell?, hpar]
 have hc0 := hcA.cell0
 have hcu : w1.cell? ⟨pc, 1 + f2.toNat, none⟩ = some (.int .i64 (c.u f2)) := by
  rcases hp with rfl | rfl | rfl
  ·exact hcA.cell1
  ·exact hcA.cell2
  ·exact hcA.cell3
 generalize c.u f2 = cu at hcu hdef
 generalize rd room f2 = rr at hxr hdef
 by_cases hw : c.t < wk
 ·have hge : decide (c.t ≥ wk) = false := decide_eq_false (by omega)
  have hge2 : decide (wk ≤ c.t) = false := decide_eq_false (by omega)
  rw [decide_eq_true hw, Bool.true_and] at hdef
  have HPAR := Aside0.mk hpar
  have HCN := Aside0.mk hcA
  have HGA := Aside0.mk hgA
  have HDEF := Aside0.mk hdef
  have htk : tb = decide (wrap64 (cu + f3) ≤ rr) := hdef
  clear hpar hcA hgA hdef hw hlt hB0 hc HDEF
  have HTK := Aside0.mk htk
  clear htk
  rcases hp with rfl | rfl | rfl
  ·refine start_ (n := 24) (S := fun w' => w'.cell? ⟨pc, 0, none⟩ = some (.int .i64 c.t) ∧ w'.cell? ⟨w.heap.size, 2, none⟩ = some (.int .i64 0) ∧ w'.cell? ⟨pc, 1, none⟩ = some (.int .i64 cu) ∧ w'.cell? ⟨w.heap.size, 3, none⟩ = some (.int .i64 f3) ∧ w'.cell? ad = some (.int .i64 rr)) (ds := []) #[F5q,F5q,F5q,F5q,F5q,F5q,F5q,F5q,F5q,F5q,F5q,F5q,F5q,F5q,F5q,F5q,F5q,F5q,F5q,F5q,F5q,F5q,F5q,F5q] rfl (by kernel_rfl) rfl ⟨hc0, ht2, hcu, ht3, hxr⟩ (fun hHeld => ?_)
   refine pure_ (i := 0) (N := some 9) (v := ?_) (a' := ?_) #[T5q,F5q,F5q,F5q,F5q,F5q,F5q,F5q,F5q,F5q,F5q,F5q,F5q,F5q,F5q,F5q,F5q,F5q,F5q,F5q,F5q,F5q,F5q,F5q] rfl rfl (by kernel_rfl) (fun _ _ _ h => h) (Or.inl ⟨by rfl, ?_⟩) ?_ ?_
   rotate_left
   ·intro w'
    go_simp
    with_reducible rfl
   rotate_left
   ·simp only [Act.put, List.setIfInBounds_toArray, List.set_cons_zero, List.set_cons_succ, i64_w, i32_w]
    rfl
   refine pure_ (i := 1) (N := some 10) (v := ?_) (a' := ?_) #[T5q,T5q,F5q,F5q,F5q,F5q,F5q,F5q,F5q,F5q,F5q,F5q,F5q,F5q,F5q,F5q,F5q,F5q,F5q,F5q,F5q,F5q,F5q,F5q] rfl rfl (by kernel_rfl) (fun _ _ _ h => h) (Or.inl ⟨by rfl, ?_⟩) ?_ ?_
   rotate_left
   ·intro w'
    go_simp
    with_reducible rfl
   rotate_left
   ·simp only [Act.put, List.setIfInBounds_toArray, List.set_cons_zero, List.set_cons_succ, i64_w, i32_w]
    rfl
   refine pure_ (i := 2) (N := some 11) (v := ?_) (a' := ?_) #[T5q,T5q,T5q,F5q,F5q,F5q,F5q,F5q,F5q,F5q,F5q,F5q,F5q,F5q,F5q,F5q,F5q,F5q,F5q,F5q,F5q,F5q,F5q,F5q] rfl rfl (by kernel_rfl) (fun _ _ _ h => h) (Or.inl ⟨by rfl, ?_⟩) ?_ ?_
   rotate_left
   ·intro w'
    go_simp
    with_reducible rfl
   rotate_left
   ·simp only [Act.put, List.setIfInBounds_toArray, List.set_cons_zero, List.set_cons_succ, i64_w, i32_w]
    rfl
   refine take_ (i := 3) (N := some 12) (v := ?_) (a' := ?_) #[T5q,T5q,T5q,T5q,F5q,F5q,F5q,F5q,F5q,F5q,F5q,F5q,F5q,F5q,F5q,F5q,F5q,F5q,F5q,F5q,F5q,F5q,F5q,F5q] rfl rfl (by kernel_rfl) (fun _ _ _ h => h) (Or.inl ⟨by rfl, ?_⟩) hHeld ?_ ?_
   rotate_left
   ·rintro w' ⟨s0, s1, s2, s3, s4⟩
    go_simp
    with_reducible rfl
   rotate_left
   ·simp only [Act.put, List.setIfInBounds_toArray, List.set_cons_zero, List.set_cons_succ, i64_w, i32_w]
    rfl
   refine pure_ (i := 4) (N := some 13) (v := ?_) (a' := ?_) #[T5q,T5q,T5q,T5q,T5q,F5q,F5q,F5q,F5q,F5q,F5q,F5q,F5q,F5q,F5q,F5q,F5q,F5q,F5q,F5q,F5q,F5q,F5q,F5q] rfl rfl (by kernel_rfl) (fun _ _ _ h => h) (Or.inl ⟨by rfl, ?_⟩) ?_ ?_
   rotate_left
   ·intro w'
    go_simp
    with_reducible rfl
   rotate_left
   ·simp only [Act.put, List.setIfInBounds_toArray, List.set_cons_zero, List.set_cons_succ, i64_w, i32_w]
    rfl
   refine pure_ (i := 5) (N := some 14) (v := ?_) (a' := ?_) #[T5q,T5q,T5q,T5q,T5q,T5q,F5q,F5q,F5q,F5q,F5q,F5q,F5q,F5q,F5q,F5q,F5q,F5q,F5q,F5q,F5q,F5q,F5q,F5q] rfl rfl (by kernel_rfl) (fun _ _ _ h => h) (Or.inl ⟨by rfl, ?_⟩) ?_ ?_
   rotate_left
   ·intro w'
    go_simp
    with_reducible rfl
   rotate_left
   ·simp only [Act.put, List.setIfInBounds_toArray, List.set_cons_zero, List.set_cons_succ, i64_w, i32_w]
    rfl
   refine pure_ (i := 6) (N := some 15) (v := ?_) (a' := ?_) #[T5q,T5q,T5q,T5q,T5q,T5q,T5q,F5q,F5q,F5q,F5q,F5q,F5q,F5q,F5q,F5q,F5q,F5q,F5q,F5q,F5q,F5q,F5q,F5q] rfl rfl (by kernel_rfl) (fun _ _ _ h => h) (Or.inl ⟨by rfl, ?_⟩) ?_ ?_
   rotate_left
   ·intro w'
    go_simp
    with_reducible rfl
   rotate_left
   ·simp only [Act.put, List.setIfInBounds_toArray, List.set_cons_zero, List.set_cons_succ, i64_w, i32_w]
    rfl
   refine pure_ (i := 7) (N := some 16) (v := ?_) (a' := ?_) #[T5q,T5q,T5q,T5q,T5q,T5q,T5q,T5q,F5q,F5q,F5q,F5q,F5q,F5q,F5q,F5q,F5q,F5q,F5q,F5q,F5q,F5q,F5q,F5q] rfl rfl (by kernel_rfl) (fun _ _ _ h => h) (Or.inl ⟨by rfl, ?_⟩) ?_ ?_
   rotate_left
   ·intro w'
    go_simp
    with_reducible rfl
   rotate_left
   ·simp only [Act.put, List.setIfInBounds_toArray, List.set_cons_zero, List.set_cons_succ, i64_w, i32_w]
    rfl
   refine pure_ (i := 8) (N := some 17) (v := ?_) (a' := ?_) #[T5q,T5q,T5q,T5q,T5q,T5q,T5q,T5q,T5q,F5q,F5q,F5q,F5q,F5q,F5q,F5q,F5q,F5q,F5q,F5q,F5q,F5q,F5q,F5q] rfl rfl (by kernel_rfl) (fun _ _ _ h => h) (Or.inl ⟨by rfl, ?_⟩) ?_ ?_
   rotate_left
   ·intro w'
    go_simp
    with_reducible rfl
   rotate_left
   ·simp only [Act.put, List.setIfInBounds_toArray, List.set_cons_zero, List.set_cons_succ, i64_w, i32_w]
    rfl
   refine take_ (i := 9) (N := some 18) (v := ?_) (a' := ?_) #[T5q,T5q,T5q,T5q,T5q,T5q,T5q,T5q,T5q,T5q,F5q,F5q,F5q,F5q,F5q,F5q,F5q,F5q,F5q,F5q,F5q,F5q,F5q,F5q] rfl rfl (by kernel_rfl) (fun _ _ _ h => h) (Or.inl ⟨by rfl, ?_⟩) hHeld ?_ ?_
   rotate_left
   ·rintro w' ⟨s0, s1, s2, s3, s4⟩
    go_simp
    with_reducible rfl
   rotate_left
   ·simp only [Act.put, List.setIfInBounds_toArray, List.set_cons_zero, List.set_cons_succ, i64_w, i32_w]
    rfl
   refine pure_ (i := 10) (N := some 19) (v := ?_) (a' := ?_) #[T5q,T5q,T5q,T5q,T5q,T5q,T5q,T5q,T5q,T5q,T5q,F5q,F5q,F5q,F5q,F5q,F5q,F5q,F5q,F5q,F5q,F5q,F5q,F5q] rfl rfl (by kernel_rfl) (fun _ _ _ h => h) (Or.inl ⟨by rfl, ?_⟩) ?_ ?_
   rotate_left
   ·intro w'
    go_simp
    with_reducible rfl
   rotate_left
   ·simp only [Act.put, List.setIfInBounds_toArray, List.set_cons_zero, List.set_cons_succ, i64_w, i32_w]
    rfl
   refine pure_ (i := 11) (N := some 20) (v := ?_) (a' := ?_) #[T5q,T5q,T5q,T5q,T5q,T5q,T5q,T5q,T5q,T5q,T5q,T5q,F5q,F5q,F5q,F5q,F5q,F5q,F5q,F5q,F5q,F5q,F5q,F5q] rfl rfl (by kernel_rfl) (fun _ _ _ h => h) (Or.inl ⟨by rfl, ?_⟩) ?_ ?_
   rotate_left
   ·intro w'
    go_simp
    with_reducible rfl
   rotate_left
   ·simp only [Act.put, List.setIfInBounds_toArray, List.set_cons_zero, List.set_cons_succ, i64_w, i32_w]
    rfl
   refine pure_ (i := 12) (N := some 21) (v := ?_) (a' := ?_) #[T5q,T5q,T5q,T5q,T5q,T5q,T5q,T5q,T5q,T5q,T5q,T5q,T5q,F5q,F5q,F5q,F5q,F5q,F5q,F5q,F5q,F5q,F5q,F5q] rfl rfl (by kernel_rfl) (fun _ _ _ h => h) (Or.inl ⟨by rfl, ?_⟩) ?_ ?_
   rotate_left
   ·intro w'
    go_simp
    with_reducible rfl
   rotate_left
   ·simp only [Act.put, List.setIfInBounds_toArray, List.set_cons_zero, List.set_cons_succ, i64_w, i32_w]
    rfl
   refine take_ (i := 13) (N := some 22) (v := ?_) (a' := ?_) #[T5q,T5q,T5q,T5q,T5q,T5q,T5q,T5q,T5q,T5q,T5q,T5q,T5q,T5q,F5q,F5q,F5q,F5q,F5q,F5q,F5q,F5q,F5q,F5q] rfl rfl (by kernel_rfl) (fun _ _ _ h => h) (Or.inl ⟨by rfl, ?_⟩) hHeld ?_ ?_
   rotate_left
   ·rintro w' ⟨s0, s1, s2, s3, s4⟩
    go_simp
    with_reducible rfl
   rotate_left
   ·simp only [Act.put, List.setIfInBounds_toArray, List.set_cons_zero, List.set_cons_succ, i64_w, i32_w]
    rfl
   refine pure_ (i := 14) (N := some 23) (v := ?_) (a' := ?_) #[T5q,T5q,T5q,T5q,T5q,T5q,T5q,T5q,T5q,T5q,T5q,T5q,T5q,T5q,T5q,F5q,F5q,F5q,F5q,F5q,F5q,F5q,F5q,F5q] rfl rfl (by kernel_rfl) (fun _ _ _ h => h) (Or.inl ⟨by rfl, ?_⟩) ?_ ?_
   rotate_left
   ·intro w'
    go_simp
    with_reducible rfl
   rotate_left
   ·simp only [Act.put, List.setIfInBounds_toArray, List.set_cons_zero, List.set_cons_succ, i64_w, i32_w]
    rfl
   refine take_ (i := 15) (N := some 24) (v := ?_) (a' := ?_) #[T5q,T5q,T5q,T5q,T5q,T5q,T5q,T5q,T5q,T5q,T5q,T5q,T5q,T5q,T5q,T5q,F5q,F5q,F5q,F5q,F5q,F5q,F5q,F5q] rfl rfl (by kernel_rfl) (fun _ _ _ h => h) (Or.inl ⟨by rfl, ?_⟩) hHeld ?_ ?_
   rotate_left
   ·rintro w' ⟨s0, s1, s2, s3, s4⟩
    go_simp
    with_reducible rfl
   rotate_left
   ·simp only [Act.put, List.setIfInBounds_toArray, List.set_cons_zero, List.set_cons_succ, i64_w, i32_w]
    rfl
   refine pure_ (i := 16) (N := some 25) (v := ?_) (a' := ?_) #[T5q,T5q,T5q,T5q,T5q,T5q,T5q,T5q,T5q,T5q,T5q,T5q,T5q,T5q,T5q,T5q,T5q,F5q,F5q,F5q,F5q,F5q,F5q,F5q] rfl rfl (by kernel_rfl) (fun _ _ _ h => h) (Or.inl ⟨by rfl, ?_⟩) ?_ ?_
   rotate_left
   ·intro w'
    go_simp
    with_reducible rfl
   rotate_left
   ·simp only [Act.put, List.setIfInBounds_toArray, List.set_cons_zero, List.set_cons_succ, i64_w, i32_w]
    rfl
   refine pure_ (i := 17) (N := some 26) (v := ?_) (a' := ?_) #[T5q,T5q,T5q,T5q,T5q,T5q,T5q,T5q,T5q,T5q,T5q,T5q,T5q,T5q,T5q,T5q,T5q,T5q,F5q,F5q,F5q,F5q,F5q,F5q] rfl rfl (by kernel_rfl) (fun _ _ _ h => h) (Or.inl ⟨by rfl, ?_⟩) ?_ ?_
   rotate_left
   ·intro w'
    go_simp
    with_reducible rfl
   rotate_left
   ·simp only [Act.put, List.setIfInBounds_toArray, List.set_cons_zero, List.set_cons_succ, i64_w, i32_w]
    rfl
   refine pure_ (i := 18) (N := some 27) (v := ?_) (a' := ?_) #[T5q,T5q,T5q,T5q,T5q,T5q,T5q,T5q,T5q,T5q,T5q,T5q,T5q,T5q,T5q,T5q,T5q,T5q,T5q,F5q,F5q,F5q,F5q,F5q] rfl rfl (by kernel_rfl) (fun _ _ _ h => h) (Or.inl ⟨by rfl, ?_⟩) ?_ ?_
   rotate_left
   ·intro w'
    go_simp
    with_reducible rfl
   rotate_left
   ·simp only [Act.put, List.setIfInBounds_toArray, List.set_cons_zero, List.set_cons_succ, i64_w, i32_w]
    rfl
   refine take_ (i := 19) (N := some 28) (v := ?_) (a' := ?_) #[T5q,T5q,T5q,T5q,T5q,T5q,T5q,T5q,T5q,T5q,T5q,T5q,T5q,T5q,T5q,T5q,T5q,T5q,T5q,T5q,F5q,F5q,F5q,F5q] rfl rfl (by kernel_rfl) (fun _ _ _ h => h) (Or.inl ⟨by rfl, ?_⟩) hHeld ?_ ?_
   rotate_left
   ·rintro w' ⟨s0, s1, s2, s3, s4⟩
    go_simp
    with_reducible rfl
   rotate_left
   ·simp only [Act.put, List.setIfInBounds_toArray, List.set_cons_zero, List.set_cons_succ, i64_w, i32_w]
    rfl
   refine pure_ (i := 20) (N := some 29) (v := ?_) (a' := ?_) #[T5q,T5q,T5q,T5q,T5q,T5q,T5q,T5q,T5q,T5q,T5q,T5q,T5q,T5q,T5q,T5q,T5q,T5q,T5q,T5q,T5q,F5q,F5q,F5q] rfl rfl (by kernel_rfl) (fun _ _ _ h => h) (Or.inl ⟨by rfl, ?_⟩) ?_ ?_
   rotate_left
   ·intro w'
    go_simp
    with_reducible rfl
   rotate_left
   ·simp only [Act.put, List.setIfInBounds_toArray, List.set_cons_zero, List.set_cons_succ, i64_w, i32_w]
    rfl
   refine take_ (i := 21) (N := some 30) (v := ?_) (a' := ?_) #[T5q,T5q,T5q,T5q,T5q,T5q,T5q,T5q,T5q,T5q,T5q,T5q,T5q,T5q,T5q,T5q,T5q,T5q,T5q,T5q,T5q,T5q,F5q,F5q] rfl rfl (by kernel_rfl) (fun _ _ _ h => h) (Or.inl ⟨by rfl, ?_⟩) hHeld ?_ ?_
   rotate_left
   ·rintro w' ⟨s0, s1, s2, s3, s4⟩
    go_simp
    with_reducible rfl
   rotate_left
   ·simp only [Act.put, List.setIfInBounds_toArray, List.set_cons_zero, List.set_cons_succ, i64_w, i32_w]
    rfl
   refine pure_ (i := 22) (N := some 31) (v := ?_) (a' := ?_) #[T5q,T5q,T5q,T5q,T5q,T5q,T5q,T5q,T5q,T5q,T5q,T5q,T5q,T5q,T5q,T5q,T5q,T5q,T5q,T5q,T5q,T5q,T5q,F5q] rfl rfl (by kernel_rfl) (fun _ _ _ h => h) (Or.inl ⟨by rfl, ?_⟩) ?_ ?_
   rotate_left
   ·intro w'
    go_simp
    with_reducible rfl
   rotate_left
   ·simp only [Act.put, List.setIfInBounds_toArray, List.set_cons_zero, List.set_cons_succ, i64_w, i32_w]
    rfl
   refine pure_ (i := 23) (N := some 32) (v := ?_) (a' := ?_) #[T5q,T5q,T5q,T5q,T5q,T5q,T5q,T5q,T5q,T5q,T5q,T5q,T5q,T5q,T5q,T5q,T5q,T5q,T5q,T5q,T5q,T5q,T5q,T5q] rfl rfl (by kernel_rfl) (fun _ _ _ h => h) (Or.inl ⟨by rfl, ?_⟩) ?_ ?_
   rotate_left
   ·intro w'
    go_simp
    with_reducible rfl
   rotate_left
   ·simp only [Act.put, List.setIfInBounds_toArray, List.set_cons_zero, List.set_cons_succ, i64_w, i32_w]
    rfl
   refine done_ (by kernel_rfl) ?_
   have hdr : Below w1.heap.size w1 w1.drew := below_drew (Below.refl _ _)
   have HCN2 := Aside0.mk (HCN.out.move hdr)
   have HGA2 := Aside0.mk (grown_trans HGA.out (grown_of_below (some pc) hdr))
   have u0 : w1.drew.cell? ⟨w.heap.size, 0, none⟩ = some (.int .i64 f0) := ht0
   have u1 : w1.drew.cell? ⟨w.heap.size, 1, none⟩ = some (.slice A n cp) := ht1
   have u2 : w1.drew.cell? ⟨w.heap.size, 2, none⟩ = some (.int .i64 0) := ht2
   have u3 : w1.drew.cell? ⟨w.heap.size, 3, none⟩ = some (.int .i64 f3) := ht3
   clear ht0 ht1 ht2 ht3 hc0 hcu hxr hHeld hdr
   revert HCN2 HGA2 u0 u1 u2 u3
   generalize w1.drew = w3
   intro HCN2 HGA2 u0 u1 u2 u3
   by_cases hgt : wrap64 (cu + f3) ≤ rr
   ·have hg1 : decide (wrap64 (cu + f3) > rr) = false := decide_eq_false (by omega)
    have hg2 : decide (rr < wrap64 (cu + f3)) = false := decide_eq_false (by omega)
    have htb : tb = true := by rw [HTK.out]; exact decide_eq_true hgt
    subst htb
    go_wp2_with (go_at_call 105; refine (HADD.out _ HCN2.out).mono ?_; rintro e w' ⟨rfl, hgr, hcn'⟩)
    go_ret
    exact ⟨rfl, grown_trans HGA2.out hgr, hcn'⟩
   ·have hg1 : decide (wrap64 (cu + f3) > rr) = true := decide_eq_true (by omega)
    have hg2 : decide (rr < wrap64 (cu + f3)) = true := decide_eq_true (by omega)
    have htb : tb = false := by rw [HTK.out]; exact decide_eq_false hgt
    subst htb
    go_wp2
    go_ret
    exact ⟨rfl, HGA2.out, HCN2.out⟩
  ·refine start_ (n := 24) (S := fun w' => w'.cell? ⟨pc, 0, none⟩ = some (.int .i64 c.t) ∧ w'.cell? ⟨w.heap.size, 2, none⟩ = some (.int .i64 1) ∧ w'.cell? ⟨pc, 2, none⟩ = some (.int .i64 cu) ∧ w'.cell? ⟨w.heap.size, 3, none⟩ = some (.int .i64 f3) ∧ w'.cell? ⟨ad.block, ad.off + 1, none⟩ = some (.int .i64 rr)) (ds := []) #[F5q,F5q,F5q,F5q,F5q,F5q,F5q,F5q,F5q,F5q,F5q,F5q,F5q,F5q,F5q,F5q,F5q,F5q,F5q,F5q,F5q,F5q,F5q,F5q] rfl (by kernel_rfl) rfl ⟨hc0, ht2, hcu, ht3, hxr⟩ (fun hHeld => ?_)
   refine pure_ (i := 0) (N := some 9) (v := ?_) (a' := ?_) #[T5q,F5q,F5q,F5q,F5q,F5q,F5q,F5q,F5q,F5q,F5q,F5q,F5q,F5q,F5q,F5q,F5q,F5q,F5q,F5q,F5q,F5q,F5q,F5q] rfl rfl (by kernel_rfl) (fun _ _ _ h => h) (Or.inl ⟨by rfl, ?_⟩) ?_ ?_
   rotate_left
   ·intro w'
    go_simp
    with_reducible rfl
   rotate_left
   ·simp only [Act.put, List.setIfInBounds_toArray, List.set_cons_zero, List.set_cons_succ, i64_w, i32_w]
    rfl
   refine pure_ (i := 1) (N := some 10) (v := ?_) (a' := ?_) #[T5q,T5q,F5q,F5q,F5q,F5q,F5q,F5q,F5q,F5q,F5q,F5q,F5q,F5q,F5q,F5q,F5q,F5q,F5q,F5q,F5q,F5q,F5q,F5q] rfl rfl (by kernel_rfl) (fun _ _ _ h => h) (Or.inl ⟨by rfl, ?_⟩) ?_ ?_
   rotate_left
   ·intro w'
    go_simp
    with_reducible rfl
   rotate_left
   ·simp only [Act.put, List.setIfInBounds_toArray, List.set_cons_zero, List.set_cons_succ, i64_w, i32_w]
    rfl
   refine pure_ (i := 2) (N := some 11) (v := ?_) (a' := ?_) #[T5q,T5q,T5q,F5q,F5q,F5q,F5q,F5q,F5q,F5q,F5q,F5q,F5q,F5q,F5q,F5q,F5q,F5q,F5q,F5q,F5q,F5q,F5q,F5q] rfl rfl (by kernel_rfl) (fun _ _ _ h => h) (Or.inl ⟨by rfl, ?_⟩) ?_ ?_
   rotate_left
   ·intro w'
    go_simp
    with_reducible rfl
   rotate_left
   ·simp only [Act.put, List.setIfInBounds_toArray, List.set_cons_zero, List.set_cons_succ, i64_w, i32_w]
    rfl
   refine take_ (i := 3) (N := some 12) (v := ?_) (a' := ?_) #[T5q,T5q,T5q,T5q,F5q,F5q,F5q,F5q,F5q,F5q,F5q,F5q,F5q,F5q,F5q,F5q,F5q,F5q,F5q,F5q,F5q,F5q,F5q,F5q] rfl rfl (by kernel_rfl) (fun _ _ _ h => h) (Or.inl ⟨by rfl, ?_⟩) hHeld ?_ ?_
   rotate_left
   ·rintro w' ⟨s0, s1, s2, s3, s4⟩
    go_simp
    with_reducible rfl
   rotate_left
   ·simp only [Act.put, List.setIfInBounds_toArray, List.set_cons_zero, List.set_cons_succ, i64_w, i32_w]
    rfl
   refine pure_ (i := 4) (N := some 13) (v := ?_) (a' := ?_) #[T5q,T5q,T5q,T5q,T5q,F5q,F5q,F5q,F5q,F5q,F5q,F5q,F5q,F5q,F5q,F5q,F5q,F5q,F5q,F5q,F5q,F5q,F5q,F5q] rfl rfl (by kernel_rfl) (fun _ _ _ h => h) (Or.inl ⟨by rfl, ?_⟩) ?_ ?_
   rotate_left
   ·intro w'
    go_simp
    with_reducible rfl
   rotate_left
   ·simp only [Act.put, List.setIfInBounds_toArray, List.set_cons_zero, List.set_cons_succ, i64_w, i32_w]
    rfl
   refine pure_ (i := 5) (N := some 14) (v := ?_) (a' := ?_) #[T5q,T5q,T5q,T5q,T5q,T5q,F5q,F5q,F5q,F5q,F5q,F5q,F5q,F5q,F5q,F5q,F5q,F5q,F5q,F5q,F5q,F5q,F5q,F5q] rfl rfl (by kernel_rfl) (fun _ _ _ h => h) (Or.inl ⟨by rfl, ?_⟩) ?_ ?_
   rotate_left
   ·intro w'
    go_simp
    with_reducible rfl
   rotate_left
   ·simp only [Act.put, List.setIfInBounds_toArray, List.set_cons_zero, List.set_cons_succ, i64_w, i32_w]
    rfl
   refine pure_ (i := 6) (N := some 15) (v := ?_) (a' := ?_) #[T5q,T5q,T5q,T5q,T5q,T5q,T5q,F5q,F5q,F5q,F5q,F5q,F5q,F5q,F5q,F5q,F5q,F5q,F5q,F5q,F5q,F5q,F5q,F5q] rfl rfl (by kernel_rfl) (fun _ _ _ h => h) (Or.inl ⟨by rfl, ?_⟩) ?_ ?_
   rotate_left
   ·intro w'
    go_simp
    with_reducible rfl
   rotate_left
   ·simp only [Act.put, List.setIfInBounds_toArray, List.set_cons_zero, List.set_cons_succ, i64_w, i32_w]
    rfl
   refine pure_ (i := 7) (N := some 16) (v := ?_) (a' := ?_) #[T5q,T5q,T5q,T5q,T5q,T5q,T5q,T5q,F5q,F5q,F5q,F5q,F5q,F5q,F5q,F5q,F5q,F5q,F5q,F5q,F5q,F5q,F5q,F5q] rfl rfl (by kernel_rfl) (fun _ _ _ h => h) (Or.inl ⟨by rfl, ?_⟩) ?_ ?_
   rotate_left
   ·intro w'
    go_simp
    with_reducible rfl
   rotate_left
   ·simp only [Act.put, List.setIfInBounds_toArray, List.set_cons_zero, List.set_cons_succ, i64_w, i32_w]
    rfl
   refine pure_ (i := 8) (N := some 17) (v := ?_) (a' := ?_) #[T5q,T5q,T5q,T5q,T5q,T5q,T5q,T5q,T5q,F5q,F5q,F5q,F5q,F5q,F5q,F5q,F5q,F5q,F5q,F5q,F5q,F5q,F5q,F5q] rfl rfl (by kernel_rfl) (fun _ _ _ h => h) (Or.inl ⟨by rfl, ?_⟩) ?_ ?_
   rotate_left
   ·intro w'
    go_simp
    with_reducible rfl
   rotate_left
   ·simp only [Act.put, List.setIfInBounds_toArray, List.set_cons_zero, List.set_cons_succ, i64_w, i32_w]
    rfl
   refine take_ (i := 9) (N := some 18) (v := ?_) (a' := ?_) #[T5q,T5q,T5q,T5q,T5q,T5q,T5q,T5q,T5q,T5q,F5q,F5q,F5q,F5q,F5q,F5q,F5q,F5q,F5q,F5q,F5q,F5q,F5q,F5q] rfl rfl (by kernel_rfl) (fun _ _ _ h => h) (Or.inl ⟨by rfl, ?_⟩) hHeld ?_ ?_
   rotate_left
   ·rintro w' ⟨s0, s1, s2, s3, s4⟩
    go_simp
    with_reducible rfl
   rotate_left
   ·simp only [Act.put, List.setIfInBounds_toArray, List.set_cons_zero, List.set_cons_succ, i64_w, i32_w]
    rfl
   refine pure_ (i := 10) (N := some 19) (v := ?_) (a' := ?_) #[T5q,T5q,T5q,T5q,T5q,T5q,T5q,T5q,T5q,T5q,T5q,F5q,F5q,F5q,F5q,F5q,F5q,F5q,F5q,F5q,F5q,F5q,F5q,F5q] rfl rfl (by kernel_rfl) (fun _ _ _ h => h) (Or.inl ⟨by rfl, ?_⟩) ?_ ?_
   rotate_left
   ·intro w'
    go_simp
    with_reducible rfl
   rotate_left
   ·simp only [Act.put, List.setIfInBounds_toArray, List.set_cons_zero, List.set_cons_succ, i64_w, i32_w]
    rfl
   refine pure_ (i := 11) (N := some 20) (v := ?_) (a' := ?_) #[T5q,T5q,T5q,T5q,T5q,T5q,T5q,T5q,T5q,T5q,T5q,T5q,F5q,F5q,F5q,F5q,F5q,F5q,F5q,F5q,F5q,F5q,F5q,F5q] rfl rfl (by kernel_rfl) (fun _ _ _ h => h) (Or.inl ⟨by rfl, ?_⟩) ?_ ?_
   rotate_left
   ·intro w'
    go_simp
    with_reducible rfl
   rotate_left
   ·simp only [Act.put, List.setIfInBounds_toArray, List.set_cons_zero, List.set_cons_succ, i64_w, i32_w]
    rfl
   refine pure_ (i := 12) (N := some 21) (v := ?_) (a' := ?_) #[T5q,T5q,T5q,T5q,T5q,T5q,T5q,T5q,T5q,T5q,T5q,T5q,T5q,F5q,F5q,F5q,F5q,F5q,F5q,F5q,F5q,F5q,F5q,F5q] rfl rfl (by kernel_rfl) (fun _ _ _ h => h) (Or.inl ⟨by rfl, ?_⟩) ?_ ?_
   rotate_left
   ·intro w'
    go_simp
    with_reducible rfl
   rotate_left
   ·simp only [Act.put, List.setIfInBounds_toArray, List.set_cons_zero, List.set_cons_succ, i64_w, i32_w]
    rfl
   refine take_ (i := 13) (N := some 22) (v := ?_) (a' := ?_) #[T5q,T5q,T5q,T5q,T5q,T5q,T5q,T5q,T5q,T5q,T5q,T5q,T5q,T5q,F5q,F5q,F5q,F5q,F5q,F5q,F5q,F5q,F5q,F5q] rfl rfl (by kernel_rfl) (fun _ _ _ h => h) (Or.inl ⟨by rfl, ?_⟩) hHeld ?_ ?_
   rotate_left
   ·rintro w' ⟨s0, s1, s2, s3, s4⟩
    go_simp
    with_reducible rfl
   rotate_left
   ·simp only [Act.put, List.setIfInBounds_toArray, List.set_cons_zero, List.set_cons_succ, i64_w, i32_w]
    rfl
   refine pure_ (i := 14) (N := some 23) (v := ?_) (a' := ?_) #[T5q,T5q,T5q,T5q,T5q,T5q,T5q,T5q,T5q,T5q,T5q,T5q,T5q,T5q,T5q,F5q,F5q,F5q,F5q,F5q,F5q,F5q,F5q,F5q] rfl rfl (by kernel_rfl) (fun _ _ _ h => h) (Or.inl ⟨by rfl, ?_⟩) ?_ ?_
   rotate_left
   ·intro w'
    go_simp
    with_reducible rfl
   rotate_left
   ·simp only [Act.put, List.setIfInBounds_toArray, List.set_cons_zero, List.set_cons_succ, i64_w, i32_w]
    rfl
   refine take_ (i := 15) (N := some 24) (v := ?_) (a' := ?_) #[T5q,T5q,T5q,T5q,T5q,T5q,T5q,T5q,T5q,T5q,T5q,T5q,T5q,T5q,T5q,T5q,F5q,F5q,F5q,F5q,F5q,F5q,F5q,F5q] rfl rfl (by kernel_rfl) (fun _ _ _ h => h) (Or.inl ⟨by rfl, ?_⟩) hHeld ?_ ?_
   rotate_left
   ·rintro w' ⟨s0, s1, s2, s3, s4⟩
    go_simp
    with_reducible rfl
   rotate_left
   ·simp only [Act.put, List.setIfInBounds_toArray, List.set_cons_zero, List.set_cons_succ, i64_w, i32_w]
    rfl
   refine pure_ (i := 16) (N := some 25) (v := ?_) (a' := ?_) #[T5q,T5q,T5q,T5q,T5q,T5q,T5q,T5q,T5q,T5q,T5q,T5q,T5q,T5q,T5q,T5q,T5q,F5q,F5q,F5q,F5q,F5q,F5q,F5q] rfl rfl (by kernel_rfl) (fun _ _ _ h => h) (Or.inl ⟨by rfl, ?_⟩) ?_ ?_
   rotate_left
   ·intro w'
    go_simp
    with_reducible rfl
   rotate_left
   ·simp only [Act.put, List.setIfInBounds_toArray, List.set_cons_zero, List.set_cons_succ, i64_w, i32_w]
    rfl
   refine pure_ (i := 17) (N := some 26) (v := ?_) (a' := ?_) #[T5q,T5q,T5q,T5q,T5q,T5q,T5q,T5q,T5q,T5q,T5q,T5q,T5q,T5q,T5q,T5q,T5q,T5q,F5q,F5q,F5q,F5q,F5q,F5q] rfl rfl (by kernel_rfl) (fun _ _ _ h => h) (Or.inl ⟨by rfl, ?_⟩) ?_ ?_
   rotate_left
   ·intro w'
    go_simp
    with_reducible rfl
   rotate_left
   ·simp only [Act.put, List.setIfInBounds_toArray, List.set_cons_zero, List.set_cons_succ, i64_w, i32_w]
    rfl
   refine pure_ (i := 18) (N := some 27) (v := ?_) (a' := ?_) #[T5q,T5q,T5q,T5q,T5q,T5q,T5q,T5q,T5q,T5q,T5q,T5q,T5q,T5q,T5q,T5q,T5q,T5q,T5q,F5q,F5q,F5q,F5q,F5q] rfl rfl (by kernel_rfl) (fun _ _ _ h => h) (Or.inl ⟨by rfl, ?_⟩) ?_ ?_
   rotate_left
   ·intro w'
    go_simp
    with_reducible rfl
   rotate_left
   ·simp only [Act.put, List.setIfInBounds_toArray, List.set_cons_zero, List.set_cons_succ, i64_w, i32_w]
    rfl
   refine take_ (i := 19) (N := some 28) (v := ?_) (a' := ?_) #[T5q,T5q,T5q,T5q,T5q,T5q,T5q,T5q,T5q,T5q,T5q,T5q,T5q,T5q,T5q,T5q,T5q,T5q,T5q,T5q,F5q,F5q,F5q,F5q] rfl rfl (by kernel_rfl) (fun _ _ _ h => h) (Or.inl ⟨by rfl, ?_⟩) hHeld ?_ ?_
   rotate_left
   ·rintro w' ⟨s0, s1, s2, s3, s4⟩
    go_simp
    with_reducible rfl
   rotate_left
   ·simp only [Act.put, List.setIfInBounds_toArray, List.set_cons_zero, List.set_cons_succ, i64_w, i32_w]
    rfl
   refine pure_ (i := 20) (N := some 29) (v := ?_) (a' := ?_) #[T5q,T5q,T5q,T5q,T5q,T5q,T5q,T5q,T5q,T5q,T5q,T5q,T5q,T5q,T5q,T5q,T5q,T5q,T5q,T5q,T5q,F5q,F5q,F5q] rfl rfl (by kernel_rfl) (fun _ _ _ h => h) (Or.inl ⟨by rfl, ?_⟩) ?_ ?_
   rotate_left
   ·intro w'
    go_simp
    with_reducible rfl
   rotate_left
   ·simp only [Act.put, List.setIfInBounds_toArray, List.set_cons_zero, List.set_cons_succ, i64_w, i32_w]
    rfl
   refine take_ (i := 21) (N := some 30) (v := ?_) (a' := ?_) #[T5q,T5q,T5q,T5q,T5q,T5q,T5q,T5q,T5q,T5q,T5q,T5q,T5q,T5q,T5q,T5q,T5q,T5q,T5q,T5q,T5q,T5q,F5q,F5q] rfl rfl (by kernel_rfl) (fun _ _ _ h => h) (Or.inl ⟨by rfl, ?_⟩) hHeld ?_ ?_
   rotate_left
   ·rintro w' ⟨s0, s1, s2, s3, s4⟩
    go_simp
    with_reducible rfl
   rotate_left
   ·simp only [Act.put, List.setIfInBounds_toArray, List.set_cons_zero, List.set_cons_succ, i64_w, i32_w]
    rfl
   refine pure_ (i := 22) (N := some 31) (v := ?_) (a' := ?_) #[T5q,T5q,T5q,T5q,T5q,T5q,T5q,T5q,T5q,T5q,T5q,T5q,T5q,T5q,T5q,T5q,T5q,T5q,T5q,T5q,T5q,T5q,T5q,F5q] rfl rfl (by kernel_rfl) (fun _ _ _ h => h) (Or.inl ⟨by rfl, ?_⟩) ?_ ?_
   rotate_left
   ·intro w'
    go_simp
    with_reducible rfl
   rotate_left
   ·simp only [Act.put, List.setIfInBounds_toArray, List.set_cons_zero, List.set_cons_succ, i64_w, i32_w]
    rfl
   refine pure_ (i := 23) (N := some 32) (v := ?_) (a' := ?_) #[T5q,T5q,T5q,T5q,T5q,T5q,T5q,T5q,T5q,T5q,T5q,T5q,T5q,T5q,T5q,T5q,T5q,T5q,T5q,T5q,T5q,T5q,T5q,T5q] rfl rfl (by kernel_rfl) (fun _ _ _ h => h) (Or.inl ⟨by rfl, ?_⟩) ?_ ?_
   rotate_left
   ·intro w'
    go_simp
    with_reducible rfl
   rotate_left
   ·simp only [Act.put, List.setIfInBounds_toArray, List.set_cons_zero, List.set_cons_succ, i64_w, i32_w]
    rfl
   refine done_ (by kernel_rfl) ?_
   have hdr : Below w1.heap.size w1 w1.drew := below_drew (Below.refl _ _)
   have HCN2 := Aside0.mk (HCN.out.move hdr)
   have HGA2 := Aside0.mk (grown_trans HGA.out (grown_of_below (some pc) hdr))
   have u0 : w1.drew.cell? ⟨w.heap.size, 0, none⟩ = some (.int .i64 f0) := ht0
   have u1 : w1.drew.cell? ⟨w.heap.size, 1, none⟩ = some (.slice A n cp) := ht1
   have u2 : w1.drew.cell? ⟨w.heap.size, 2, none⟩ = some (.int .i64 1) := ht2
   have u3 : w1.drew.cell? ⟨w.heap.size, 3, none⟩ = some (.int .i64 f3) := ht3
   clear ht0 ht1 ht2 ht3 hc0 hcu hxr hHeld hdr
   revert HCN2 HGA2 u0 u1 u2 u3
   generalize w1.drew = w3
   intro HCN2 HGA2 u0 u1 u2 u3
   by_cases hgt : wrap64 (cu + f3) ≤ rr
   ·have hg1 : decide (wrap64 (cu + f3) > rr) = false := decide_eq_false (by omega)
    have hg2 : decide (rr < wrap64 (cu + f3)) = false := decide_eq_false (by omega)
    have htb : tb = true := by rw [HTK.out]; exact decide_eq_true hgt
    subst htb
    go_wp2_with (go_at_call 105; refine (HADD.out _ HCN2.out).mono ?_; rintro e w' ⟨rfl, hgr, hcn'⟩)
    go_ret
    exact ⟨rfl, grown_trans HGA2.out hgr, hcn'⟩
   ·have hg1 : decide (wrap64 (cu + f3) > rr) = true := decide_eq_true (by omega)
    have hg2 : decide (rr < wrap64 (cu + f3)) = true := decide_eq_true (by omega)
    have htb : tb = false := by rw [HTK.out]; exact decide_eq_false hgt
    subst htb
    go_wp2
    go_ret
    exact ⟨rfl, HGA2.out, HCN2.out⟩
  ·refine start_ (n := 24) (S := fun w' => w'.cell? ⟨pc, 0, none⟩ = some (.int .i64 c.t) ∧ w'.cell? ⟨w.heap.size, 2, none⟩ = some (.int .i64 2) ∧ w'.cell? ⟨pc, 3, none⟩ = some (.int .i64 cu) ∧ w'.cell? ⟨w.heap.size, 3, none⟩ = some (.int .i64 f3) ∧ w'.cell? ⟨ad.block, ad.off + 2, none⟩ = some (.int .i64 rr)) (ds := []) #[F5q,F5q,F5q,F5q,F5q,F5q,F5q,F5q,F5q,F5q,F5q,F5q,F5q,F5q,F5q,F5q,F5q,F5q,F5q,F5q,F5q,F5q,F5q,F5q] rfl (by kernel_rfl) rfl ⟨hc0, ht2, hcu, ht3, hxr⟩ (fun hHeld => ?_)
   refine pure_ (i := 0) (N := some 9) (v := ?_) (a' := ?_) #[T5q,F5q,F5q,F5q,F5q,F5q,F5q,F5q,F5q,F5q,F5q,F5q,F5q,F5q,F5q,F5q,F5q,F5q,F5q,F5q,F5q,F5q,F5q,F5q] rfl rfl (by kernel_rfl) (fun _ _ _ h => h) (Or.inl ⟨by rfl, ?_⟩) ?_ ?_
   rotate_left
   ·intro w'
    go_simp
    with_reducible rfl
   rotate_left
   ·simp only [Act.put, List.setIfInBounds_toArray, List.set_cons_zero, List.set_cons_succ, i64_w, i32_w]
    rfl
   refine pure_ (i := 1) (N := some 10) (v := ?_) (a' := ?_) #[T5q,T5q,F5q,F5q,F5q,F5q,F5q,F5q,F5q,F5q,F5q,F5q,F5q,F5q,F5q,F5q,F5q,F5q,F5q,F5q,F5q,F5q,F5q,F5q] rfl rfl (by kernel_rfl) (fun _ _ _ h => h) (Or.inl ⟨by rfl, ?_⟩) ?_ ?_
   rotate_left
   ·intro w'
    go_simp
    with_reducible rfl
   rotate_left
   ·simp only [Act.put, List.setIfInBounds_toArray, List.set_cons_zero, List.set_cons_succ, i64_w, i32_w]
    rfl
   refine pure_ (i := 2) (N := some 11) (v := ?_) (a' := ?_) #[T5q,T5q,T5q,F5q,F5q,F5q,F5q,F5q,F5q,F5q,F5q,F5q,F5q,F5q,F5q,F5q,F5q,F5q,F5q,F5q,F5q,F5q,F5q,F5q] rfl rfl (by kernel_rfl) (fun _ _ _ h => h) (Or.inl ⟨by rfl, ?_⟩) ?_ ?_
   rotate_left
   ·intro w'
    go_simp
    with_reducible rfl
   rotate_left
   ·simp only [Act.put, List.setIfInBounds_toArray, List.set_cons_zero, List.set_cons_succ, i64_w, i32_w]
    rfl
   refine take_ (i := 3) (N := some 12) (v := ?_) (a' := ?_) #[T5q,T5q,T5q,T5q,F5q,F5q,F5q,F5q,F5q,F5q,F5q,F5q,F5q,F5q,F5q,F5q,F5q,F5q,F5q,F5q,F5q,F5q,F5q,F5q] rfl rfl (by kernel_rfl) (fun _ _ _ h => h) (Or.inl ⟨by rfl, ?_⟩) hHeld ?_ ?_
   rotate_left
   ·rintro w' ⟨s0, s1, s2, s3, s4⟩
    go_simp
    with_reducible rfl
   rotate_left
   ·simp only [Act.put, List.setIfInBounds_toArray, List.set_cons_zero, List.set_cons_succ, i64_w, i32_w]
    rfl
   refine pure_ (i := 4) (N := some 13) (v := ?_) (a' := ?_) #[T5q,T5q,T5q,T5q,T5q,F5q,F5q,F5q,F5q,F5q,F5q,F5q,F5q,F5q,F5q,F5q,F5q,F5q,F5q,F5q,F5q,F5q,F5q,F5q] rfl rfl (by kernel_rfl) (fun _ _ _ h => h) (Or.inl ⟨by rfl, ?_⟩) ?_ ?_
   rotate_left
   ·intro w'
    go_simp
    with_reducible rfl
   rotate_left
   ·simp only [Act.put, List.setIfInBounds_toArray, List.set_cons_zero, List.set_cons_succ, i64_w, i32_w]
    rfl
   refine pure_ (i := 5) (N := some 14) (v := ?_) (a' := ?_) #[T5q,T5q,T5q,T5q,T5q,T5q,F5q,F5q,F5q,F5q,F5q,F5q,F5q,F5q,F5q,F5q,F5q,F5q,F5q,F5q,F5q,F5q,F5q,F5q] rfl rfl (by kernel_rfl) (fun _ _ _ h => h) (Or.inl ⟨by rfl, ?_⟩) ?_ ?_
   rotate_left
   ·intro w'
    go_simp
    with_reducible rfl
   rotate_left
   ·simp only [Act.put, List.setIfInBounds_toArray, List.set_cons_zero, List.set_cons_succ, i64_w, i32_w]
    rfl
   refine pure_ (i := 6) (N := some 15) (v := ?_) (a' := ?_) #[T5q,T5q,T5q,T5q,T5q,T5q,T5q,F5q,F5q,F5q,F5q,F5q,F5q,F5q,F5q,F5q,F5q,F5q,F5q,F5q,F5q,F5q,F5q,F5q] rfl rfl (by kernel_rfl) (fun _ _ _ h => h) (Or.inl ⟨by rfl, ?_⟩) ?_ ?_
   rotate_left
   ·intro w'
    go_simp
    with_reducible rfl
   rotate_left
   ·simp only [Act.put, List.setIfInBounds_toArray, List.set_cons_zero, List.set_cons_succ, i64_w, i32_w]
    rfl
   refine pure_ (i := 7) (N := some 16) (v := ?_) (a' := ?_) #[T5q,T5q,T5q,T5q,T5q,T5q,T5q,T5q,F5q,F5q,F5q,F5q,F5q,F5q,F5q,F5q,F5q,F5q,F5q,F5q,F5q,F5q,F5q,F5q] rfl rfl (by kernel_rfl) (fun _ _ _ h => h) (Or.inl ⟨by rfl, ?_⟩) ?_ ?_
   rotate_left
   ·intro w'
    go_simp
    with_reducible rfl
   rotate_left
   ·simp only [Act.put, List.setIfInBounds_toArray, List.set_cons_zero, List.set_cons_succ, i64_w, i32_w]
    rfl
   refine pure_ (i := 8) (N := some 17) (v := ?_) (a' := ?_) #[T5q,T5q,T5q,T5q,T5q,T5q,T5q,T5q,T5q,F5q,F5q,F5q,F5q,F5q,F5q,F5q,F5q,F5q,F5q,F5q,F5q,F5q,F5q,F5q] rfl rfl (by kernel_rfl) (fun _ _ _ h => h) (Or.inl ⟨by rfl, ?_⟩) ?_ ?_
   rotate_left
   ·intro w'
    go_simp
    with_reducible rfl
   rotate_left
   ·simp only [Act.put, List.setIfInBounds_toArray, List.set_cons_zero, List.set_cons_succ, i64_w, i32_w]
    rfl
   refine take_ (i := 9) (N := some 18) (v := ?_) (a' := ?_) #[T5q,T5q,T5q,T5q,T5q,T5q,T5q,T5q,T5q,T5q,F5q,F5q,F5q,F5q,F5q,F5q,F5q,F5q,F5q,F5q,F5q,F5q,F5q,F5q] rfl rfl (by kernel_rfl) (fun _ _ _ h => h) (Or.inl ⟨by rfl, ?_⟩) hHeld ?_ ?_
   rotate_left
   ·rintro w' ⟨s0, s1, s2, s3, s4⟩
    go_simp
    with_reducible rfl
   rotate_left
   ·simp only [Act.put, List.setIfInBounds_toArray, List.set_cons_zero, List.set_cons_succ, i64_w, i32_w]
    rfl
   refine pure_ (i := 10) (N := some 19) (v := ?_) (a' := ?_) #[T5q,T5q,T5q,T5q,T5q,T5q,T5q,T5q,T5q,T5q,T5q,F5q,F5q,F5q,F5q,F5q,F5q,F5q,F5q,F5q,F5q,F5q,F5q,F5q] rfl rfl (by kernel_rfl) (fun _ _ _ h => h) (Or.inl ⟨by rfl, ?_⟩) ?_ ?_
   rotate_left
   ·intro w'
    go_simp
    with_reducible rfl
   rotate_left
   ·simp only [Act.put, List.setIfInBounds_toArray, List.set_cons_zero, List.set_cons_succ, i64_w, i32_w]
    rfl
   refine pure_ (i := 11) (N := some 20) (v := ?_) (a' := ?_) #[T5q,T5q,T5q,T5q,T5q,T5q,T5q,T5q,T5q,T5q,T5q,T5q,F5q,F5q,F5q,F5q,F5q,F5q,F5q,F5q,F5q,F5q,F5q,F5q] rfl rfl (by kernel_rfl) (fun _ _ _ h => h) (Or.inl ⟨by rfl, ?_⟩) ?_ ?_
   rotate_left
   ·intro w'
    go_simp
    with_reducible rfl
   rotate_left
   ·simp only [Act.put, List.setIfInBounds_toArray, List.set_cons_zero, List.set_cons_succ, i64_w, i32_w]
    rfl
   refine pure_ (i := 12) (N := some 21) (v := ?_) (a' := ?_) #[T5q,T5q,T5q,T5q,T5q,T5q,T5q,T5q,T5q,T5q,T5q,T5q,T5q,F5q,F5q,F5q,F5q,F5q,F5q,F5q,F5q,F5q,F5q,F5q] rfl rfl (by kernel_rfl) (fun _ _ _ h => h) (Or.inl ⟨by rfl, ?_⟩) ?_ ?_
   rotate_left
   ·intro w'
    go_simp
    with_reducible rfl
   rotate_left
   ·simp only [Act.put, List.setIfInBounds_toArray, List.set_cons_zero, List.set_cons_succ, i64_w, i32_w]
    rfl
   refine take_ (i := 13) (N := some 22) (v := ?_) (a' := ?_) #[T5q,T5q,T5q,T5q,T5q,T5q,T5q,T5q,T5q,T5q,T5q,T5q,T5q,T5q,F5q,F5q,F5q,F5q,F5q,F5q,F5q,F5q,F5q,F5q] rfl rfl (by kernel_rfl) (fun _ _ _ h => h) (Or.inl ⟨by rfl, ?_⟩) hHeld ?_ ?_
   rotate_left
   ·rintro w' ⟨s0, s1, s2, s3, s4⟩
    go_simp
    with_reducible rfl
   rotate_left
   ·simp only [Act.put, List.setIfInBounds_toArray, List.set_cons_zero, List.set_cons_succ, i64_w, i32_w]
    rfl
   refine pure_ (i := 14) (N := some 23) (v := ?_) (a' := ?_) #[T5q,T5q,T5q,T5q,T5q,T5q,T5q,T5q,T5q,T5q,T5q,T5q,T5q,T5q,T5q,F5q,F5q,F5q,F5q,F5q,F5q,F5q,F5q,F5q] rfl rfl (by kernel_rfl) (fun _ _ _ h => h) (Or.inl ⟨by rfl, ?_⟩) ?_ ?_
   rotate_left
   ·intro w'
    go_simp
    with_reducible rfl
   rotate_left
   ·simp only [Act.put, List.setIfInBounds_toArray, List.set_cons_zero, List.set_cons_succ, i64_w, i32_w]
    rfl
   refine take_ (i := 15) (N := some 24) (v := ?_) (a' := ?_) #[T5q,T5q,T5q,T5q,T5q,T5q,T5q,T5q,T5q,T5q,T5q,T5q,T5q,T5q,T5q,T5q,F5q,F5q,F5q,F5q,F5q,F5q,F5q,F5q] rfl rfl (by kernel_rfl) (fun _ _ _ h => h) (Or.inl ⟨by rfl, ?_⟩) hHeld ?_ ?_
   rotate_left
   ·rintro w' ⟨s0, s1, s2, s3, s4⟩
    go_simp
    with_reducible rfl
   rotate_left
   ·simp only [Act.put, List.setIfInBounds_toArray, List.set_cons_zero, List.set_cons_succ, i64_w, i32_w]
    rfl
   refine pure_ (i := 16) (N := some 25) (v := ?_) (a' := ?_) #[T5q,T5q,T5q,T5q,T5q,T5q,T5q,T5q,T5q,T5q,T5q,T5q,T5q,T5q,T5q,T5q,T5q,F5q,F5q,F5q,F5q,F5q,F5q,F5q] rfl rfl (by kernel_rfl) (fun _ _ _ h => h) (Or.inl ⟨by rfl, ?_⟩) ?_ ?_
   rotate_left
   ·intro w'
    go_simp
    with_reducible rfl
   rotate_left
   ·simp only [Act.put, List.setIfInBounds_toArray, List.set_cons_zero, List.set_cons_succ, i64_w, i32_w]
    rfl
   refine pure_ (i := 17) (N := some 26) (v := ?_) (a' := ?_) #[T5q,T5q,T5q,T5q,T5q,T5q,T5q,T5q,T5q,T5q,T5q,T5q,T5q,T5q,T5q,T5q,T5q,T5q,F5q,F5q,F5q,F5q,F5q,F5q] rfl rfl (by kernel_rfl) (fun _ _ _ h => h) (Or.inl ⟨by rfl, ?_⟩) ?_ ?_
   rotate_left
   ·intro w'
    go_simp
    with_reducible rfl
   rotate_left
   ·simp only [Act.put, List.setIfInBounds_toArray, List.set_cons_zero, List.set_cons_succ, i64_w, i32_w]
    rfl
   refine pure_ (i := 18) (N := some 27) (v := ?_) (a' := ?_) #[T5q,T5q,T5q,T5q,T5q,T5q,T5q,T5q,T5q,T5q,T5q,T5q,T5q,T5q,T5q,T5q,T5q,T5q,T5q,F5q,F5q,F5q,F5q,F5q] rfl rfl (by kernel_rfl) (fun _ _ _ h => h) (Or.inl ⟨by rfl, ?_⟩) ?_ ?_
   rotate_left
   ·intro w'
    go_simp
    with_reducible rfl
   rotate_left
   ·simp only [Act.put, List.setIfInBounds_toArray, List.set_cons_zero, List.set_cons_succ, i64_w, i32_w]
    rfl
   refine take_ (i := 19) (N := some 28) (v := ?_) (a' := ?_) #[T5q,T5q,T5q,T5q,T5q,T5q,T5q,T5q,T5q,T5q,T5q,T5q,T5q,T5q,T5q,T5q,T5q,T5q,T5q,T5q,F5q,F5q,F5q,F5q] rfl rfl (by kernel_rfl) (fun _ _ _ h => h) (Or.inl ⟨by rfl, ?_⟩) hHeld ?_ ?_
   rotate_left
   ·rintro w' ⟨s0, s1, s2, s3, s4⟩
    go_simp
    with_reducible rfl
   rotate_left
   ·simp only [Act.put, List.setIfInBounds_toArray, List.set_cons_zero, List.set_cons_succ, i64_w, i32_w]
    rfl
   refine pure_ (i := 20) (N := some 29) (v := ?_) (a' := ?_) #[T5q,T5q,T5q,T5q,T5q,T5q,T5q,T5q,T5q,T5q,T5q,T5q,T5q,T5q,T5q,T5q,T5q,T5q,T5q,T5q,T5q,F5q,F5q,F5q] rfl rfl (by kernel_rfl) (fun _ _ _ h => h) (Or.inl ⟨by rfl, ?_⟩) ?_ ?_
   rotate_left
   ·intro w'
    go_simp
    with_reducible rfl
   rotate_left
   ·simp only [Act.put, List.setIfInBounds_toArray, List.set_cons_zero, List.set_cons_succ, i64_w, i32_w]
    rfl
   refine take_ (i := 21) (N := some 30) (v := ?_) (a' := ?_) #[T5q,T5q,T5q,T5q,T5q,T5q,T5q,T5q,T5q,T5q,T5q,T5q,T5q,T5q,T5q,T5q,T5q,T5q,T5q,T5q,T5q,T5q,F5q,F5q] rfl rfl (by kernel_rfl) (fun _ _ _ h => h) (Or.inl ⟨by rfl, ?_⟩) hHeld ?_ ?_
   rotate_left
   ·rintro w' ⟨s0, s1, s2, s3, s4⟩
    go_simp
    with_reducible rfl
   rotate_left
   ·simp only [Act.put, List.setIfInBounds_toArray, List.set_cons_zero, List.set_cons_succ, i64_w, i32_w]
    rfl
   refine pure_ (i := 22) (N := some 31) (v := ?_) (a' := ?_) #[T5q,T5q,T5q,T5q,T5q,T5q,T5q,T5q,T5q,T5q,T5q,T5q,T5q,T5q,T5q,T5q,T5q,T5q,T5q,T5q,T5q,T5q,T5q,F5q] rfl rfl (by kernel_rfl) (fun _ _ _ h => h) (Or.inl ⟨by rfl, ?_⟩) ?_ ?_
   rotate_left
   ·intro w'
    go_simp
    with_reducible rfl
   rotate_left
   ·simp only [Act.put, List.setIfInBounds_toArray, List.set_cons_zero, List.set_cons_succ, i64_w, i32_w]
    rfl
   refine pure_ (i := 23) (N := some 32) (v := ?_) (a' := ?_) #[T5q,T5q,T5q,T5q,T5q,T5q,T5q,T5q,T5q,T5q,T5q,T5q,T5q,T5q,T5q,T5q,T5q,T5q,T5q,T5q,T5q,T5q,T5q,T5q] rfl rfl (by kernel_rfl) (fun _ _ _ h => h) (Or.inl ⟨by rfl, ?_⟩) ?_ ?_
   rotate_left
   ·intro w'
    go_simp
    with_reducible rfl
   rotate_left
   ·simp only [Act.put, List.setIfInBounds_toArray, List.set_cons_zero, List.set_cons_succ, i64_w, i32_w]
    rfl
   refine done_ (by kernel_rfl) ?_
   have hdr : Below w1.heap.size w1 w1.drew := below_drew (Below.refl _ _)
   have HCN2 := Aside0.mk (HCN.out.move hdr)
   have HGA2 := Aside0.mk (grown_trans HGA.out (grown_of_below (some pc) hdr))
   have u0 : w1.drew.cell? ⟨w.heap.size, 0, none⟩ = some (.int .i64 f0) := ht0
   have u1 : w1.drew.cell? ⟨w.heap.size, 1, none⟩ = some (.slice A n cp) := ht1
   have u2 : w1.drew.cell? ⟨w.heap.size, 2, none⟩ = some (.int .i64 2) := ht2
   have u3 : w1.drew.cell? ⟨w.heap.size, 3, none⟩ = some (.int .i64 f3) := ht3
   clear ht0 ht1 ht2 ht3 hc0 hcu hxr hHeld hdr
   revert HCN2 HGA2 u0 u1 u2 u3
   generalize w1.drew = w3
   intro HCN2 HGA2 u0 u1 u2 u3
   by_cases hgt : wrap64 (cu + f3) ≤ rr
   ·have hg1 : decide (wrap64 (cu + f3) > rr) = false := decide_eq_false (by omega)
    have hg2 : decide (rr < wrap64 (cu + f3)) = false := decide_eq_false (by omega)
    have htb : tb = true := by rw [HTK.out]; exact decide_eq_true hgt
    subst htb
    go_wp2_with (go_at_call 105; refine (HADD.out _ HCN2.out).mono ?_; rintro e w' ⟨rfl, hgr, hcn'⟩)
    go_ret
    exact ⟨rfl, grown_trans HGA2.out hgr, hcn'⟩
   ·have hg1 : decide (wrap64 (cu + f3) > rr) = true := decide_eq_true (by omega)
    have hg2 : decide (rr < wrap64 (cu + f3)) = true := decide_eq_true (by omega)
    have htb : tb = false := by rw [HTK.out]; exact decide_eq_false hgt
    subst htb
    go_wp2
    go_ret
    exact ⟨rfl, HGA2.out, HCN2.out⟩
 ·have hge : decide (c.t ≥ wk) = true := decide_eq_true (by omega)
  have hge2 : decide (wk ≤ c.t) = true := decide_eq_true (by omega)
  rw [decide_eq_false hw, Bool.false_and] at hdef
  subst hdef
  have HPAR := Aside0.mk hpar
  have HCN := Aside0.mk hcA
  have HGA := Aside0.mk hgA
  clear hpar hcA hgA hw hlt hB0 hc
  refine start_ (n := 24) (S := fun w' => w'.cell? ⟨pc, 0, none⟩ = some (.int .i64 c.t) ∧ w'.cell? ⟨w.heap.size, 2, none⟩ = some (.int .i64 f2) ∧ w'.cell? ⟨pc, 1 + f2.toNat, none⟩ = some (.int .i64 cu) ∧ w'.cell? ⟨w.heap.size, 3, none⟩ = some (.int .i64 f3) ∧ w'.cell? (ad.add f2.toNat) = some (.int .i64 rr)) (ds := []) #[F5q,F5q,F5q,F5q,F5q,F5q,F5q,F5q,F5q,F5q,F5q,F5q,F5q,F5q,F5q,F5q,F5q,F5q,F5q,F5q,F5q,F5q,F5q,F5q] rfl (by kernel_rfl) rfl ⟨hc0, ht2, hcu, ht3, hxr⟩ (fun hHeld => ?_)
  refine pure_ (i := 0) (N := some 9) (v := ?_) (a' := ?_) #[T5q,F5q,F5q,F5q,F5q,F5q,F5q,F5q,F5q,F5q,F5q,F5q,F5q,F5q,F5q,F5q,F5q,F5q,F5q,F5q,F5q,F5q,F5q,F5q] rfl rfl (by kernel_rfl) (fun _ _ _ h => h) (Or.inl ⟨by rfl, ?_⟩) ?_ ?_
  rotate_left
  ·intro w'
   go_simp
   with_reducible rfl
  rotate_left
  ·simp only [Act.put, List.setIfInBounds_toArray, List.set_cons_zero, List.set_cons_succ, i64_w, i32_w]
   rfl
  refine pure_ (i := 1) (N := some 10) (v := ?_) (a' := ?_) #[T5q,T5q,F5q,F5q,F5q,F5q,F5q,F5q,F5q,F5q,F5q,F5q,F5q,F5q,F5q,F5q,F5q,F5q,F5q,F5q,F5q,F5q,F5q,F5q] rfl rfl (by kernel_rfl) (fun _ _ _ h => h) (Or.inl ⟨by rfl, ?_⟩) ?_ ?_
  rotate_left
  ·intro w'
   go_simp
   with_reducible rfl
  rotate_left
  ·simp only [Act.put, List.setIfInBounds_toArray, List.set_cons_zero, List.set_cons_succ, i64_w, i32_w]
   rfl
  refine pure_ (i := 2) (N := some 11) (v := ?_) (a' := ?_) #[T5q,T5q,T5q,F5q,F5q,F5q,F5q,F5q,F5q,F5q,F5q,F5q,F5q,F5q,F5q,F5q,F5q,F5q,F5q,F5q,F5q,F5q,F5q,F5q] rfl rfl (by kernel_rfl) (fun _ _ _ h => h) (Or.inl ⟨by rfl, ?_⟩) ?_ ?_
  rotate_left
  ·intro w'
   go_simp
   with_reducible rfl
  rotate_left
  ·simp only [Act.put, List.setIfInBounds_toArray, List.set_cons_zero, List.set_cons_succ, i64_w, i32_w]
   rfl
  refine take_ (i := 3) (N := some 12) (v := ?_) (a' := ?_) #[T5q,T5q,T5q,T5q,F5q,F5q,F5q,F5q,F5q,F5q,F5q,F5q,F5q,F5q,F5q,F5q,F5q,F5q,F5q,F5q,F5q,F5q,F5q,F5q] rfl rfl (by kernel_rfl) (fun _ _ _ h => h) (Or.inl ⟨by rfl, ?_⟩) hHeld ?_ ?_
  rotate_left
  ·rintro w' ⟨s0, s1, s2, s3, s4⟩
   go_simp
   with_reducible rfl
  rotate_left
  ·simp only [Act.put, List.setIfInBounds_toArray, List.set_cons_zero, List.set_cons_succ, i64_w, i32_w]
   rfl
  refine pure_ (i := 4) (N := some 13) (v := ?_) (a' := ?_) #[T5q,T5q,T5q,T5q,T5q,F5q,F5q,F5q,F5q,F5q,F5q,F5q,F5q,F5q,F5q,F5q,F5q,F5q,F5q,F5q,F5q,F5q,F5q,F5q] rfl rfl (by kernel_rfl) (fun _ _ _ h => h) (Or.inl ⟨by rfl, ?_⟩) ?_ ?_
  rotate_left
  ·intro w'
   go_simp
   with_reducible rfl
  rotate_left
  ·simp only [Act.put, List.setIfInBounds_toArray, List.set_cons_zero, List.set_cons_succ, i64_w, i32_w]
   rfl
  refine pure_ (i := 5) (N := some 14) (v := ?_) (a' := ?_) #[T5q,T5q,T5q,T5q,T5q,T5q,F5q,F5q,F5q,F5q,F5q,F5q,F5q,F5q,F5q,F5q,F5q,F5q,F5q,F5q,F5q,F5q,F5q,F5q] rfl rfl (by kernel_rfl) (fun _ _ _ h => h) (Or.inl ⟨by rfl, ?_⟩) ?_ ?_
  rotate_left
  ·intro w'
   go_simp
   with_reducible rfl
  rotate_left
  ·simp only [Act.put, List.setIfInBounds_toArray, List.set_cons_zero, List.set_cons_succ, i64_w, i32_w]
   rfl
  refine pure_ (i := 6) (N := some 15) (v := ?_) (a' := ?_) #[T5q,T5q,T5q,T5q,T5q,T5q,T5q,F5q,F5q,F5q,F5q,F5q,F5q,F5q,F5q,F5q,F5q,F5q,F5q,F5q,F5q,F5q,F5q,F5q] rfl rfl (by kernel_rfl) (fun _ _ _ h => h) (Or.inl ⟨by rfl, ?_⟩) ?_ ?_
  rotate_left
  ·intro w'
   go_simp
   with_reducible rfl
  rotate_left
  ·simp only [Act.put, List.setIfInBounds_toArray, List.set_cons_zero, List.set_cons_succ, i64_w, i32_w]
   rfl
  refine pure_ (i := 7) (N := some 16) (v := undef) (a' := ?_) #[T5q,T5q,T5q,T5q,T5q,T5q,T5q,T5q,F5q,F5q,F5q,F5q,F5q,F5q,F5q,F5q,F5q,F5q,F5q,F5q,F5q,F5q,F5q,F5q] rfl rfl (by kernel_rfl) (fun _ _ _ h => h) (Or.inr ⟨by rfl, rfl⟩) ?_ ?_
  rotate_left
  ·simp only [Act.put, List.setIfInBounds_toArray, List.set_cons_zero, List.set_cons_succ, i64_w, i32_w]
   rfl
  refine pure_ (i := 8) (N := some 17) (v := undef) (a' := ?_) #[T5q,T5q,T5q,T5q,T5q,T5q,T5q,T5q,T5q,F5q,F5q,F5q,F5q,F5q,F5q,F5q,F5q,F5q,F5q,F5q,F5q,F5q,F5q,F5q] rfl rfl (by kernel_rfl) (fun _ _ _ h => h) (Or.inr ⟨by rfl, rfl⟩) ?_ ?_
  rotate_left
  ·simp only [Act.put, List.setIfInBounds_toArray, List.set_cons_zero, List.set_cons_succ, i64_w, i32_w]
   rfl
  refine pure_ (i := 9) (N := some 18) (v := undef) (a' := ?_) #[T5q,T5q,T5q,T5q,T5q,T5q,T5q,T5q,T5q,T5q,F5q,F5q,F5q,F5q,F5q,F5q,F5q,F5q,F5q,F5q,F5q,F5q,F5q,F5q] rfl rfl (by kernel_rfl) (fun _ _ _ h => h) (Or.inr ⟨by rfl, rfl⟩) ?_ ?_
  rotate_left
  ·simp only [Act.put, List.setIfInBounds_toArray, List.set_cons_zero, List.set_cons_succ, i64_w, i32_w]
   rfl
  refine pure_ (i := 10) (N := some 19) (v := undef) (a' := ?_) #[T5q,T5q,T5q,T5q,T5q,T5q,T5q,T5q,T5q,T5q,T5q,F5q,F5q,F5q,F5q,F5q,F5q,F5q,F5q,F5q,F5q,F5q,F5q,F5q] rfl rfl (by kernel_rfl) (fun _ _ _ h => h) (Or.inr ⟨by rfl, rfl⟩) ?_ ?_
  rotate_left
  ·simp only [Act.put, List.setIfInBounds_toArray, List.set_cons_zero, List.set_cons_succ, i64_w, i32_w]
   rfl
  refine pure_ (i := 11) (N := some 20) (v := undef) (a' := ?_) #[T5q,T5q,T5q,T5q,T5q,T5q,T5q,T5q,T5q,T5q,T5q,T5q,F5q,F5q,F5q,F5q,F5q,F5q,F5q,F5q,F5q,F5q,F5q,F5q] rfl rfl (by kernel_rfl) (fun _ _ _ h => h) (Or.inr ⟨by rfl, rfl⟩) ?_ ?_
  rotate_left
  ·simp only [Act.put, List.setIfInBounds_toArray, List.set_cons_zero, List.set_cons_succ, i64_w, i32_w]
   rfl
  refine pure_ (i := 12) (N := some 21) (v := undef) (a' := ?_) #[T5q,T5q,T5q,T5q,T5q,T5q,T5q,T5q,T5q,T5q,T5q,T5q,T5q,F5q,F5q,F5q,F5q,F5q,F5q,F5q,F5q,F5q,F5q,F5q] rfl rfl (by kernel_rfl) (fun _ _ _ h => h) (Or.inr ⟨by rfl, rfl⟩) ?_ ?_
  rotate_left
  ·simp only [Act.put, List.setIfInBounds_toArray, List.set_cons_zero, List.set_cons_succ, i64_w, i32_w]
   rfl
  refine pure_ (i := 13) (N := some 22) (v := undef) (a' := ?_) #[T5q,T5q,T5q,T5q,T5q,T5q,T5q,T5q,T5q,T5q,T5q,T5q,T5q,T5q,F5q,F5q,F5q,F5q,F5q,F5q,F5q,F5q,F5q,F5q] rfl rfl (by kernel_rfl) (fun _ _ _ h => h) (Or.inr ⟨by rfl, rfl⟩) ?_ ?_
  rotate_left
  ·simp only [Act.put, List.setIfInBounds_toArray, List.set_cons_zero, List.set_cons_succ, i64_w, i32_w]
   rfl
  refine pure_ (i := 14) (N := some 23) (v := undef) (a' := ?_) #[T5q,T5q,T5q,T5q,T5q,T5q,T5q,T5q,T5q,T5q,T5q,T5q,T5q,T5q,T5q,F5q,F5q,F5q,F5q,F5q,F5q,F5q,F5q,F5q] rfl rfl (by kernel_rfl) (fun _ _ _ h => h) (Or.inr ⟨by rfl, rfl⟩) ?_ ?_
  rotate_left
  ·simp only [Act.put, List.setIfInBounds_toArray, List.set_cons_zero, List.set_cons_succ, i64_w, i32_w]
   rfl
  refine pure_ (i := 15) (N := some 24) (v := undef) (a' := ?_) #[T5q,T5q,T5q,T5q,T5q,T5q,T5q,T5q,T5q,T5q,T5q,T5q,T5q,T5q,T5q,T5q,F5q,F5q,F5q,F5q,F5q,F5q,F5q,F5q] rfl rfl (by kernel_rfl) (fun _ _ _ h => h) (Or.inr ⟨by rfl, rfl⟩) ?_ ?_
  rotate_left
  ·simp only [Act.put, List.setIfInBounds_toArray, List.set_cons_zero, List.set_cons_succ, i64_w, i32_w]
   rfl
  refine pure_ (i := 16) (N := some 25) (v := undef) (a' := ?_) #[T5q,T5q,T5q,T5q,T5q,T5q,T5q,T5q,T5q,T5q,T5q,T5q,T5q,T5q,T5q,T5q,T5q,F5q,F5q,F5q,F5q,F5q,F5q,F5q] rfl rfl (by kernel_rfl) (fun _ _ _ h => h) (Or.inr ⟨by rfl, rfl⟩) ?_ ?_
  rotate_left
  ·simp only [Act.put, List.setIfInBounds_toArray, List.set_cons_zero, List.set_cons_succ, i64_w, i32_w]
   rfl
  refine pure_ (i := 17) (N := some 26) (v := undef) (a' := ?_) #[T5q,T5q,T5q,T5q,T5q,T5q,T5q,T5q,T5q,T5q,T5q,T5q,T5q,T5q,T5q,T5q,T5q,T5q,F5q,F5q,F5q,F5q,F5q,F5q] rfl rfl (by kernel_rfl) (fun _ _ _ h => h) (Or.inr ⟨by rfl, rfl⟩) ?_ ?_
  rotate_left
  ·simp only [Act.put, List.setIfInBounds_toArray, List.set_cons_zero, List.set_cons_succ, i64_w, i32_w]
   rfl
  refine pure_ (i := 18) (N := some 27) (v := undef) (a' := ?_) #[T5q,T5q,T5q,T5q,T5q,T5q,T5q,T5q,T5q,T5q,T5q,T5q,T5q,T5q,T5q,T5q,T5q,T5q,T5q,F5q,F5q,F5q,F5q,F5q] rfl rfl (by kernel_rfl) (fun _ _ _ h => h) (Or.inr ⟨by rfl, rfl⟩) ?_ ?_
  rotate_left
  ·simp only [Act.put, List.setIfInBounds_toArray, List.set_cons_zero, List.set_cons_succ, i64_w, i32_w]
   rfl
  refine pure_ (i := 19) (N := some 28) (v := undef) (a' := ?_) #[T5q,T5q,T5q,T5q,T5q,T5q,T5q,T5q,T5q,T5q,T5q,T5q,T5q,T5q,T5q,T5q,T5q,T5q,T5q,T5q,F5q,F5q,F5q,F5q] rfl rfl (by kernel_rfl) (fun _ _ _ h => h) (Or.inr ⟨by rfl, rfl⟩) ?_ ?_
  rotate_left
  ·simp only [Act.put, List.setIfInBounds_toArray, List.set_cons_zero, List.set_cons_succ, i64_w, i32_w]
   rfl
  refine pure_ (i := 20) (N := some 29) (v := undef) (a' := ?_) #[T5q,T5q,T5q,T5q,T5q,T5q,T5q,T5q,T5q,T5q,T5q,T5q,T5q,T5q,T5q,T5q,T5q,T5q,T5q,T5q,T5q,F5q,F5q,F5q] rfl rfl (by kernel_rfl) (fun _ _ _ h => h) (Or.inr ⟨by rfl, rfl⟩) ?_ ?_
  rotate_left
  ·simp only [Act.put, List.setIfInBounds_toArray, List.set_cons_zero, List.set_cons_succ, i64_w, i32_w]
   rfl
  refine pure_ (i := 21) (N := some 30) (v := undef) (a' := ?_) #[T5q,T5q,T5q,T5q,T5q,T5q,T5q,T5q,T5q,T5q,T5q,T5q,T5q,T5q,T5q,T5q,T5q,T5q,T5q,T5q,T5q,T5q,F5q,F5q] rfl rfl (by kernel_rfl) (fun _ _ _ h => h) (Or.inr ⟨by rfl, rfl⟩) ?_ ?_
  rotate_left
  ·simp only [Act.put, List.setIfInBounds_toArray, List.set_cons_zero, List.set_cons_succ, i64_w, i32_w]
   rfl
  refine pure_ (i := 22) (N := some 31) (v := undef) (a' := ?_) #[T5q,T5q,T5q,T5q,T5q,T5q,T5q,T5q,T5q,T5q,T5q,T5q,T5q,T5q,T5q,T5q,T5q,T5q,T5q,T5q,T5q,T5q,T5q,F5q] rfl rfl (by kernel_rfl) (fun _ _ _ h => h) (Or.inr ⟨by rfl, rfl⟩) ?_ ?_
  rotate_left
  ·simp only [Act.put, List.setIfInBounds_toArray, List.set_cons_zero, List.set_cons_succ, i64_w, i32_w]
   rfl
  refine pure_ (i := 23) (N := some 32) (v := ?_) (a' := ?_) #[T5q,T5q,T5q,T5q,T5q,T5q,T5q,T5q,T5q,T5q,T5q,T5q,T5q,T5q,T5q,T5q,T5q,T5q,T5q,T5q,T5q,T5q,T5q,T5q] rfl rfl (by kernel_rfl) (fun _ _ _ h => h) (Or.inl ⟨by rfl, ?_⟩) ?_ ?_
  rotate_left
  ·intro w'
   go_simp
   with_reducible rfl
  rotate_left
  ·simp only [Act.put, List.setIfInBounds_toArray, List.set_cons_zero, List.set_cons_succ, i64_w, i32_w]
   rfl
  refine done_ (by kernel_rfl) ?_
  have HCN2 := Aside0.mk (HCN.out.move (below_drew (Below.refl _ _)))
  have HGA2 := Aside0.mk (grown_trans HGA.out (grown_of_below (some pc) (below_drew (Below.refl _ w1))))
  go_wp2
  go_ret
  exact ⟨rfl, HGA2.out, HCN2.out⟩
end Go.Proofs.YtpibdjkajgfgjaaDoor.Core
end
section
set_option linter.unusedVariables false
set_option linter.unusedSimpArgs false
namespace Go.Proofs.YtpibdjkajgfgjaaDoor.Core
open Go Go.RowKit Go.Shelf Go.Proofs.YtpibdjkajgfgjaaDoorW.PrintWords Go.Proofs.YtpibdjkajgfgjaaDoorW.PrintLast Go.Proofs.YtpibdjkajgfgjaaDoorW.PrintMore Go.Proofs.YtpibdjkajgfgjaaDoor.P
attribute [local go_sem] Oper.semAt_some wide_fn wide_depth
/-- Whether a task of a graph can run besides those that are counted. -/
def takesI (g : List Tk) (c : Cn) (x : Int) (room : List Int) (wk : Int) : Bool := takesB c (g.getD x.toNat z48).f2 (g.getD x.toNat z48).f3 room wk
def afterI (g : List Tk) (c : Cn) (x : Int) (b : Bool) : Cn := afterTake c (g.getD x.toNat z48).f2 (g.getD x.toNat z48).f3 b
def putIf (out : List Int) (x : Int) (b : Bool) : List Int := match b with | true => out ++ [x] | false => out
def admGo (g : List Tk) (room : List Int) (wk : Int) : List Int → Cn → List Int → List Int
 | [], _, out => out
 | x :: r, c, out => admGo g room wk r (afterI g c x (takesI g c x room wk)) (putIf out x (takesI g c x room wk))
set_option maxRecDepth 100000 in
set_option maxHeartbeats 2000000 in
theorem admitted_calls (b : Nat) (G : GD) (c : Cn) (A2 : Option Addr) (c2 : Nat) (room : List Int) (A3 : Option Addr) (c3 : Nat) (l : List Int) (wk : Int) (w : World) (hg : IsG w b G) (hpool : ∀ t ∈ G.tasks, 0 ≤ t.f2 ∧ t.f2 ≤ 2) (h3 : room.length = 3) (hC2 : (Kd.int .i64).C w A2 room.length room) (hc2 : room.length ≤ c2) (hC3 : (Kd.int .i64).C w A3 l.length l) (hc3 : l.length ≤ c3) (hl : ∀ x ∈ l, 0 ≤ x ∧ x < (G.tasks.length : Int)) (hl8 : l.length ≤ 1000000) :
  Calls Tryd.prog 67 #[.pointer (some ⟨b, 0, none⟩), .agg #[.int .i64 c.t, .int .i64 c.u0, .int .i64 c.u1, .int .i64 c.u2], .slice A2 room.length c2, .slice A3 l.length c3, .int .i64 wk] w fun e w' => ∃ v, e = .returned v ∧ (Kd.int .i64).R 3 w' w.heap.size (fun _ => True) v (admGo G.tasks room wk l c []) ∧ Below w.heap.size w w' := by
 have hB1 := (Below.refl w.heap.size w).alloc (Nat.le_refl _) (.cells #[.int .i64 c.t, .int .i64 c.u0, .int .i64 c.u1, .int .i64 c.u2] 73)
 have hcn1 : IsCn (w.alloc (.cells #[.int .i64 c.t, .int .i64 c.u0, .int .i64 c.u1, .int .i64 c.u2] 73)) w.heap.size c := cells_new w _
 have hs1 : (w.alloc (.cells #[.int .i64 c.t, .int .i64 c.u0, .int .i64 c.u1, .int .i64 c.u2] 73)).heap.size = w.heap.size + 1 := by simp
 have HG := Aside0.mk hg
 have HP := Aside0.mk hpool
 have H3 := Aside0.mk h3
 have HC2 := Aside0.mk hC2
 have HC3 := Aside0.mk hC3
 have Hc2 := Aside0.mk hc2
 have HL := Aside0.mk hl
 have HL8 := Aside0.mk hl8
 obtain ⟨res, hres⟩ : ∃ res, res = admGo G.tasks room wk l c [] := ⟨_, rfl⟩
 rw [← hres]
 have HRES := Aside0.mk hres
 clear hg hpool h3 hC2 hC3 hc2 hl hl8 hc3 hres
 go_enter Tryd.func67, Tryd.ntmps67
 go_wp2_with ((with_reducible refine gate_dst (N := 14) rfl ?_); go_loud (revert hB1 hcn1 hs1; generalize w.alloc (.cells #[.int .i64 c.t, .int .i64 c.u0, .int .i64 c.u1, .int .i64 c.u2] 73) = w1; intro hB1 hcn1 hs1; refine Kd.R_lit (Kd.int .i64) (w0 := w) w.heap.size 3 ?hg (N := 14) ?hd (xs := ([] : List Int)) (inner := []) (ok := fun k => k ≠ w.heap.size) (okp := fun _ => False) ?hr ?hp (fun _ hk => hk.elim) (by show w1.heap.size ≠ w.heap.size; omega) hB1 (by omega) (by simp) ?_; (case hd => rfl); (case hg => rfl); (case hr => first | (go_simp; done) | (go_simp; rfl)); (case hp => exact (Reps.none _ _)); intro v14 w2 ho hb hg_ hnew_; obtain ⟨Ao, co, eo⟩ := Kd.R_slice ho; subst eo; have HO := Aside0.mk ho; have HB := Aside0.mk hb; have HCN := Aside0.mk (show IsCn w2 w.heap.size c from (hg_.block _ (by omega) (by simp)).trans hcn1); clear hg_ hnew_ ho hb hB1 hcn1 hs1))
 go_loopg [11, 17] l.length (fun kq v11 v17 w' => ∃ (j : Nat) (x : Int) (A : Option Addr) (cc : Nat) (out : List Int) (c' : Cn), v11 = .slice A out.length cc ∧ v17 = .int .i64 x ∧ Aside0 (kq + j = l.length ∧ x = (j : Int) ∧ out.length ≤ j) ∧ Aside0 (res = admGo G.tasks room wk (l.drop j) c' out) ∧ Aside0 (IsCn w' w.heap.size c') ∧ Aside0 (Kd.R (Kd.int .i64) 3 w' w.heap.size (fun k => k ≠ w.heap.size) (.slice A out.length cc) out) ∧ Aside0 (Below w.heap.size w w'))
 case atStart => exact ⟨0, 0, Ao, co, [], c, rfl, rfl, ⟨by omega, rfl, Nat.le_refl _⟩, ⟨HRES.out⟩, ⟨HCN.out⟩, ⟨HO.out⟩, ⟨HB.out⟩⟩
 case round =>
  clear HO HB HCN HRES
  obtain ⟨j, x, A, cc, out, c', rfl, rfl, HJ, HRES, HCN, HO, HB⟩ := hrel
  by_cases hlt : j < l.length
  ·have hx := HJ.out.2.1
   have hd : decide (x < (l.length : Int)) = true := decide_eq_true (by omega)
   have p0 : 0 ≤ x := by omega
   have q0 : x < (l.length : Int) := by omega
   obtain ⟨adl, el, hxl⟩ := Kd.at_int (Kd.C_below HC3.out HB.out) x p0 q0
   have hy : rd l x = l[j] := by rw [hx]; unfold rd; rw [Int.toNat_natCast, List.getD_eq_getElem?_getD, List.getElem?_eq_getElem hlt, Option.getD_some]
   have hly := HL.out _ (List.getElem_mem hlt)
   have hdrop : l.drop j = l[j] :: l.drop (j + 1) := List.drop_eq_getElem_cons hlt
   rw [hy] at hxl
   generalize l[j] = y at hxl hly hdrop
   have hres := HRES.out
   rw [hdrop] at hres
   have hres2 : res = admGo G.tasks room wk (l.drop (j + 1)) (afterI G.tasks c' y (takesI G.tasks c' y room wk)) (putIf out y (takesI G.tasks c' y room wk)) := hres
   have hI := HG.out.move HB.out
   obtain ⟨At, ct, hct, hctl, hCt⟩ := hI.tasks
   have p1 : 0 ≤ y := hly.1
   have q1 : y < (G.tasks.length : Int) := hly.2
   obtain ⟨ad, A1, c1, e0, h0, h1, h2, h3, h4, h5⟩ := at_T48 hCt y p1 q1
   subst e0
   have hrd : rd_T48 G.tasks y = G.tasks.getD y.toNat z48 := rfl
   rw [hrd] at h0 h1 h2 h3
   have hmem : G.tasks.getD y.toNat z48 ∈ G.tasks := by
    have hyl : y.toNat < G.tasks.length := by omega
    rw [List.getD_eq_getElem?_getD, List.getElem?_eq_getElem hyl]
    exact List.getElem_mem hyl
   have hp := HP.out _ hmem
   have htk : takesI G.tasks c' y room wk = takesB c' (G.tasks.getD y.toNat z48).f2 (G.tasks.getD y.toNat z48).f3 room wk := rfl
   have haf : ∀ bb, afterI G.tasks c' y bb = afterTake c' (G.tasks.getD y.toNat z48).f2 (G.tasks.getD y.toNat z48).f3 bb := fun _ => rfl
   generalize G.tasks.getD y.toNat z48 = tk at h0 h1 h2 h3 hp htk haf
   have HTKC := fun W (hcn : IsCn W w.heap.size c') (hC : (Kd.int .i64).C W A2 room.length room) => takes_calls w.heap.size c' tk.f0 tk.f2 tk.f3 A1 tk.f1.length c1 A2 c2 room wk W hcn (by omega) H3.out hC Hc2.out
   rw [← htk] at HTKC
   generalize takesI G.tasks c' y room wk = tb at HTKC hres2
   rw [haf] at hres2
   have HRES2 := Aside0.mk hres2
   have HTKC := Aside0.mk HTKC
   have HLT := Aside0.mk hlt
   have HCR := Aside0.mk (Kd.C_below HC2.out HB.out)
   replace p0 := eq_true p0
   replace q0 := eq_true q0
   replace p1 := eq_true p1
   replace q1 := eq_true q1
   subst el
   clear hx hlt hy hly hdrop hres hres2 hI hctl hCt h4 h5 hrd hmem hp htk haf HRES
   cases tb with
   | true =>
    go_wp2_with (first
     | (go_at_call 106; refine (HTKC.out _ HCN.out HCR.out).mono ?_; rintro e w3 ⟨rfl, hgr, hcn'⟩; have HCN3 := Aside0.mk hcn'; have HO3 := Aside0.mk (Kd.R_grown HO.out hgr (fun k hk e => hk (by injection e))); have HB3 := Aside0.mk (below_put hgr HB.out (Nat.le_refl _) (Nat.le_refl _)); clear HO HB HCN hgr hcn' HTKC hxl h0 h1 h2 h3 hct)
     | ((with_reducible refine gate_builtin (b := .append) (xs := #[.tmp 31, .tmp 33]) rfl ?_); at_builtin; refine Kd.R_append (Kd.int .i64) (w0 := w) w.heap.size rfl (.tmp 31) (.tmp 33) 23 3 (.int .i64 0) 8 rfl Tryd.underlying23 info3 rfl (by decide) (by omega) (.slice A out.length cc) out y [.int .i64 y] (fun k => k ≠ w.heap.size) (fun _ => False) rfl rfl ?aP (fun _ hk => hk.elim) ?aF ?aO ?aB ?aS ?aL ?_; (case aP => exact rfl); (case aF => exact fun k hk e => by have h1 := cells_lt HCN3.out; omega); (case aO => exact HO3.out); (case aB => exact HB3.out); (case aS => exact HB3.out.size); (case aL => have h1 := HL8.out; have h2 := HLT.out; have h3 := HJ.out.2.2; omega); intro v4 w4 ho hb hg hat; obtain ⟨A4, c4, e4⟩ := Kd.R_slice ho; subst e4; have HO4 := Aside0.mk ho; have HB4 := Aside0.mk hb; have HCN4 := Aside0.mk (show IsCn w4 w.heap.size _ from (hg.block _ (cells_lt HCN3.out) (fun e => HO3.out.1 _ e.symm rfl)).trans HCN3.out); clear ho hb hg hat HO3 HB3 HCN3))
    go_roundg (l.length - (j + 1))
    case measure => have h1 := HJ.out.1; have h2 := HLT.out; omega
    case rel => exact ⟨j + 1, _, A4, c4, out ++ [y], afterTake c' tk.f2 tk.f3 true, by rw [List.length_append, List.length_singleton], rfl, ⟨by have h2 := HLT.out; omega, by have h1 := HJ.out.2.1; have h2 := HL8.out; have h3 := HLT.out; unfold wrap64; omega, by have := HJ.out.2.2; rw [List.length_append, List.length_singleton]; omega⟩, ⟨HRES2.out⟩, ⟨HCN4.out⟩, ⟨HO4.out⟩, ⟨HB4.out⟩⟩
   | false =>
    go_wp2_with (go_at_call 106; refine (HTKC.out _ HCN.out HCR.out).mono ?_; rintro e w3 ⟨rfl, hgr, hcn'⟩; have HCN3 := Aside0.mk hcn'; have HO3 := Aside0.mk (Kd.R_grown HO.out hgr (fun k hk e => hk (by injection e))); have HB3 := Aside0.mk (below_put hgr HB.out (Nat.le_refl _) (Nat.le_refl _)); clear HO HB HCN hgr hcn' HTKC hxl h0 h1 h2 h3 hct)
    go_roundg (l.length - (j + 1))
    case measure => have h1 := HJ.out.1; have h2 := HLT.out; omega
    case rel => exact ⟨j + 1, _, A, cc, out, afterTake c' tk.f2 tk.f3 false, rfl, rfl, ⟨by have h2 := HLT.out; omega, by have h1 := HJ.out.2.1; have h2 := HL8.out; have h3 := HLT.out; unfold wrap64; omega, by have := HJ.out.2.2; omega⟩, ⟨HRES2.out⟩, ⟨HCN3.out⟩, ⟨HO3.out⟩, ⟨HB3.out⟩⟩
  ·have hx := HJ.out.2.1
   have hd : decide (x < (l.length : Int)) = false := decide_eq_false (by omega)
   have hfin : res = out := by rw [HRES.out, List.drop_eq_nil_of_le (by omega)]; rfl
   have HF := Aside0.mk hfin
   clear hx hlt hfin
   go_wp2
   go_ret
   exact ⟨_, rfl, by rw [HF.out]; exact Kd.R_mono HO.out (fun _ _ => trivial), HB.out⟩
end Go.Proofs.YtpibdjkajgfgjaaDoor.Core
end
section
set_option linter.unusedVariables false
set_option linter.unusedSimpArgs false
namespace Go.Proofs.YtpibdjkajgfgjaaDoor.Core
open Go Go.RowKit Go.Shelf Go.Proofs.YtpibdjkajgfgjaaDoorW.PrintWords Go.Proofs.YtpibdjkajgfgjaaDoorW.PrintMore Go.Proofs.YtpibdjkajgfgjaaDoor.P
def runsD (g : List Tk) (room running : List Int) : Bool := match graphD g with
 | none => false
 | some G => if roomOk room then (match setD g.length running with | none => false | some s => fitsD (countSet g s) room) else false
end Go.Proofs.YtpibdjkajgfgjaaDoor.Core
namespace Go.Proofs.YtpibdjkajgfgjaaDoor.P
open Go Go.RowKit Go.Shelf Go.Proofs.YtpibdjkajgfgjaaDoorW.PrintWords Go.Proofs.YtpibdjkajgfgjaaDoorW.PrintMore Go.Proofs.YtpibdjkajgfgjaaDoor.Core
attribute [local go_sem] Oper.semAt_some wide_fn wide_depth
def impl_RunsTogether.f (l0 : List S48) (l1 : List Int) (l2 : List Int) : Option Bool := some (runsD l0 l1 l2)
set_option maxRecDepth 100000 in
set_option maxHeartbeats 4000000 in
theorem impl_RunsTogether.calls (A0 : Option Addr) (c0 : Nat) (l0 : List S48) (A1 : Option Addr) (c1 : Nat) (l1 : List Int) (A2 : Option Addr) (c2 : Nat) (l2 : List Int) (r : Bool) (w : World) (hr0 : Kd.C k48 w A0 l0.length l0) (hc0 : l0.length ≤ c0) (hr1 : Kd.C (Kd.int .i64) w A1 l1.length l1) (hc1 : l1.length ≤ c1) (hr2 : Kd.C (Kd.int .i64) w A2 l2.length l2) (hc2 : l2.length ≤ c2) (hT : Tab w) (h : impl_RunsTogether.f l0 l1 l2 = some r) :
  Calls Tryd.prog 47 #[.slice A0 l0.length c0, .slice A1 l1.length c1, .slice A2 l2.length c2] w fun e w' => e = .returned (.bool r) ∧ Below w.heap.size w w' := by
 have hr : r = runsD l0 l1 l2 := (Option.some.inj h).symm
 subst hr
 clear h
 cases hg : graphD l0 with
 | none =>
  have hcd : runsD l0 l1 l2 = false := by unfold runsD; rw [hg]
  rw [hcd]
  have HG := Aside0.mk (graphOf_none A0 c0 l0 w hT hr0 hc0 hg)
  clear hr0 hr1 hr2 hT hcd hg
  go_enter Tryd.func47, Tryd.ntmps47
  go_wp2_with (go_at_call 60; refine HG.out.mono ?_; rintro e w' ⟨rfl, hB⟩)
  go_ret
  exact ⟨rfl, hB⟩
 | some G =>
  have ok := graphD_ok hg
  have htk := graphD_tasks hg
  have HP := Aside0.mk (graphD_pool hg)
  have HG := Aside0.mk (graphOf_some A0 c0 l0 G w hT hr0 hc0 hg)
  have HR1 := Aside0.mk hr1
  have HR2 := Aside0.mk hr2
  have HT := Aside0.mk hT
  have hn8 := ok.n8
  have hdf : runsD l0 l1 l2 = if roomOk l1 then (match setD l0.length l2 with | none => false | some s => fitsD (countSet l0 s) l1) else false := by unfold runsD; rw [hg]
  subst htk
  clear hr0 hr1 hr2 hT hg
  by_cases hroom : roomOk l1
  ·have hrt : decide (roomOk l1) = true := decide_eq_true hroom
   have h3 : l1.length = 3 := hroom.1
   have HRM := Aside0.mk hrt
   have HL3 := Aside0.mk h3
   rw [if_pos hroom] at hdf
   clear hroom hrt h3
   cases hs : setD G.tasks.length l2 with
   | none =>
    rw [hs] at hdf
    simp only [] at hdf
    rw [hdf]
    have HS := Aside0.mk hs
    clear hs hdf
    go_enter Tryd.func47, Tryd.ntmps47
    go_wp2_with (first
     | (go_at_call 60; refine HG.out.mono ?_; rintro e w1 ⟨b, rfl, hB, hG⟩)
     | (go_at_call 93; refine (room_is A1 c1 l1 true _ (Kd.C_below HR1.out hB) hc1 HRM.out).mono ?_; rintro e w2 ⟨rfl, hB2⟩; have hG2 := hG.move hB2; have hB3 := below_step hB hB2; clear hB2)
     | (go_at_call 62; refine (size_calls b G _ hG2).mono ?_; rintro e w3 ⟨rfl, rfl⟩)
     | (go_at_call 61; refine (setOf_none hn8 A2 c2 l2 _ (Kd.C_below HR2.out hB3) hc2 HS.out).mono ?_; rintro e w4 ⟨rfl, hB4⟩))
    go_ret
    exact ⟨rfl, below_step hB3 hB4⟩
   | some s =>
    rw [hs] at hdf
    simp only [] at hdf
    have HD := Aside0.mk hdf
    have hslt := setD_lt hs
    have HS := Aside0.mk hs
    clear hs hdf
    go_enter Tryd.func47, Tryd.ntmps47
    go_wp2_with (first
     | (go_at_call 60; refine HG.out.mono ?_; rintro e w1 ⟨b, rfl, hB, hG⟩)
     | (go_at_call 93; refine (room_is A1 c1 l1 true _ (Kd.C_below HR1.out hB) hc1 HRM.out).mono ?_; rintro e w2 ⟨rfl, hB2⟩; have hG2 := hG.move hB2; have hB3 := below_step hB hB2; clear hB2)
     | (go_at_call 62; refine (size_calls b G _ hG2).mono ?_; rintro e w3 ⟨rfl, rfl⟩)
     | (go_at_call 61; refine (setOf_some hn8 A2 c2 l2 s _ (Kd.C_below HR2.out hB3) hc2 HS.out).mono ?_; rintro e w4 ⟨rfl, hB4⟩; have hG5 := hG2.move hB4; have hB5 := below_step hB3 hB4; clear hB4)
     | (go_at_call 63; refine (counted_calls b G s _ (HT.out.of hB5) hG5 hn8 HP.out hslt).mono ?_; rintro e w6 ⟨rfl, hB6⟩; have hB7 := below_step hB5 hB6; clear hB6)
     | (go_at_call 94; refine (fits_calls (countSet G.tasks s) A1 c1 l1 _ HL3.out (Kd.C_below HR1.out hB7) hc1).mono ?_; rintro e w8 ⟨rfl, hB8⟩))
    go_ret
    exact ⟨by rw [HD.out]; rfl, below_step hB7 hB8⟩
  ·rw [if_neg hroom] at hdf
   rw [hdf]
   have HRM : Aside0 (decide (roomOk l1) = false) := ⟨decide_eq_false hroom⟩
   clear hroom hdf
   go_enter Tryd.func47, Tryd.ntmps47
   go_wp2_with (first
    | (go_at_call 60; refine HG.out.mono ?_; rintro e w1 ⟨b, rfl, hB, hG⟩)
    | (go_at_call 93; refine (room_is A1 c1 l1 false _ (Kd.C_below HR1.out hB) hc1 HRM.out).mono ?_; rintro e w2 ⟨rfl, hB2⟩))
   go_ret
   exact ⟨rfl, below_step hB hB2⟩
end Go.Proofs.YtpibdjkajgfgjaaDoor.P
end
section
set_option linter.unusedVariables false
set_option linter.unusedSimpArgs false
namespace Go.Proofs.YtpibdjkajgfgjaaDoor.Core
open Go Go.RowKit Go.Proofs.YtpibdjkajgfgjaaDoorW.PrintWords Go.Proofs.YtpibdjkajgfgjaaDoorW.PrintMore Go.Proofs.YtpibdjkajgfgjaaDoor.P
theorem asc_lt : ∀ {r : List Int} {x : Int}, ascD (x :: r) = true → ascD r = true ∧ ∀ y ∈ r, x < y
 | [], x, _ => ⟨rfl, by simp⟩
 | y :: r, x, h => by
  simp only [ascD, Bool.and_eq_true, decide_eq_true_eq] at h
  have h2 := asc_lt h.2
  refine ⟨h.2, fun z hz => ?_⟩
  rcases List.mem_cons.1 hz with rfl | hz
  ·exact h.1
  ·have := h2.2 z hz; omega
theorem asc_mk {r : List Int} {x : Int} (h : ascD r = true) (h2 : ∀ y ∈ r, x < y) : ascD (x :: r) = true := by
 cases r with
 | nil => rfl
 | cons y r => simp [ascD, h, h2 y List.mem_cons_self]
theorem setGo_some {n : Nat} : ∀ {r : List Int} {s : Nat} {last : Int} {t : Nat}, -1 ≤ last → setGo n r s last = some t → (∀ x ∈ r, last + 1 ≤ x ∧ x ≤ (n : Int) - 1) ∧ ascD r = true ∧ ∀ i : Nat, t.testBit i = (s.testBit i || decide ((i : Int) ∈ r))
 | [], s, last, t, hl, h => by
  rw [setGo] at h
  cases h
  exact ⟨by simp, rfl, by simp⟩
 | x :: r, s, last, t, hl, h => by
  rw [setGo] at h
  by_cases hx : last + 1 ≤ x ∧ x ≤ (n : Int) - 1
  ·rw [if_pos hx] at h
   obtain ⟨h1, h2, h3⟩ := setGo_some (by omega) h
   refine ⟨fun y hy => ?_, asc_mk h2 (fun y hy => by have := h1 y hy; omega), fun i => ?_⟩
   ·rcases List.mem_cons.1 hy with rfl | hy
    ·exact hx
    ·have := h1 y hy; omega
   ·rw [h3, or_bit]
    have : decide (x.toNat = i) = decide ((i : Int) = x) := by rw [decide_eq_decide]; omega
    rw [this]
    by_cases e : (i : Int) = x
    ·simp [e]
    ·simp [e]
  ·rw [if_neg hx] at h; cases h
theorem setGo_ok {n : Nat} : ∀ {r : List Int} (s : Nat) {last : Int}, (∀ x ∈ r, last + 1 ≤ x ∧ x ≤ (n : Int) - 1) → ascD r = true → ∃ t, setGo n r s last = some t
 | [], s, last, _, _ => ⟨s, rfl⟩
 | x :: r, s, last, h, ha => by
  have h2 := asc_lt ha
  have hx := h x List.mem_cons_self
  rw [setGo, if_pos hx]
  exact setGo_ok _ (fun y hy => ⟨by have := h2.2 y hy; omega, (h y (List.mem_cons_of_mem _ hy)).2⟩) h2.1
theorem setD_some {n : Nat} {l : List Int} {t : Nat} (h : setD n l = some t) : needsOk n l ∧ ∀ i : Nat, t.testBit i = decide ((i : Int) ∈ l) := by
 obtain ⟨h1, h2, h3⟩ := setGo_some (by omega) h
 exact ⟨⟨fun x hx => by have := h1 x hx; omega, h2⟩, fun i => by rw [h3]; simp⟩
theorem setD_ok {n : Nat} {l : List Int} (h : needsOk n l) : ∃ t, setD n l = some t := setGo_ok 0 (fun x hx => by have := h.1 x hx; omega) h.2
theorem setD_none {n : Nat} {l : List Int} (h : setD n l = none) : ¬needsOk n l := fun h2 => by
 obtain ⟨t, ht⟩ := setD_ok h2
 rw [h] at ht
 cases ht
theorem needsGo_ok {n : Nat} : ∀ {r : List Tk}, (∀ t ∈ r, taskOk t ∧ needsOk n t.f1) → ∃ N, needsGo n r = some N
 | [], _ => ⟨[], rfl⟩
 | t :: r, h => by
  obtain ⟨s, hs⟩ := setD_ok (h t List.mem_cons_self).2
  obtain ⟨N, hN⟩ := needsGo_ok (fun t' ht => h t' (List.mem_cons_of_mem _ ht))
  rw [needsGo, hs]
  simp only [(h t List.mem_cons_self).1, if_true, hN]
  exact ⟨_, rfl⟩
theorem needsGo_fine {n : Nat} : ∀ {r : List Tk} {N : List Nat}, needsGo n r = some N → (∀ t ∈ r, taskOk t ∧ needsOk n t.f1) ∧ ∀ i, i < r.length → ∀ j : Nat, (N.getD i 0).testBit j = decide ((j : Int) ∈ (r.getD i z48).f1)
 | [], N, h => ⟨by simp, by intro i hi; simp at hi⟩
 | t :: r, N, h => by
  rw [needsGo] at h
  cases he : setD n t.f1 with
  | none => rw [he] at h; cases h
  | some s =>
   rw [he] at h
   by_cases hok : taskOk t
   ·simp only [hok, if_true] at h
    cases hg : needsGo n r with
    | none => rw [hg] at h; cases h
    | some M =>
     rw [hg] at h
     cases h
     have ih := needsGo_fine hg
     have hs := setD_some he
     refine ⟨fun t' ht => ?_, fun i hi j => ?_⟩
     ·rcases List.mem_cons.1 ht with rfl | ht
      ·exact ⟨hok, hs.1⟩
      ·exact ih.1 t' ht
     ·cases i with
      | zero => simpa using hs.2 j
      | succ i => simpa using ih.2 i (by simpa using hi) j
   ·simp [hok] at h
theorem needsD_fine {g : List Tk} {N : List Nat} (h : needsD g = some N) : fineD g ∧ ∀ i, i < g.length → ∀ j : Nat, (N.getD i 0).testBit j = decide ((j : Int) ∈ (g.getD i z48).f1) := by
 have h8 := (needsD_spec h).1
 unfold needsD at h
 rw [if_pos h8] at h
 have := needsGo_fine h
 exact ⟨⟨this.1, h8⟩, this.2⟩
theorem fineD_needs {g : List Tk} (h : fineD g) : ∃ N, needsD g = some N := by
 unfold needsD
 rw [if_pos h.2]
 exact needsGo_ok h.1
theorem sub_zero {a b : Nat} (ha : a < 256) (hb : b < 256) : sub a b = 0 ↔ ∀ j, a.testBit j = true → b.testBit j = true := by
 constructor
 ·intro h j hj
  have := sub_testBit (i := j) ha hb
  rw [h, hj] at this
  simpa using this
 ·intro h
  apply Nat.eq_of_testBit_eq
  intro j
  rw [sub_testBit ha hb, Nat.zero_testBit]
  cases e : a.testBit j
  ·rfl
  ·rw [h j e]; rfl
theorem mem_up {L : List Nat} {i : Nat} : (i : Int) ∈ up L ↔ i ∈ L := by
 unfold up
 rw [List.mem_map]
 constructor
 ·rintro ⟨a, ha, e⟩
  have : a = i := Int.ofNat.inj e
  exact this ▸ ha
 ·intro h
  exact ⟨i, h, rfl⟩
/-- All needs of a task are among some, said both ways. -/
theorem done_iff {g : List Tk} {N : List Nat} (hN : needsD g = some N) {L : List Nat} {d : Nat} (hd : d < 256) (hs : ∀ i, d.testBit i = true ↔ i ∈ L) {i : Nat} (hi : i < g.length) : (∀ x ∈ (g.getD i z48).f1, x ∈ up L) ↔ sub (N.getD i 0) d = 0 := by
 obtain ⟨h8, hl, hb⟩ := needsD_spec hN
 obtain ⟨hf, hbit⟩ := needsD_fine hN
 rw [sub_zero (Nat.lt_of_lt_of_le (getD_lt hb i) (pow8 h8)) hd]
 constructor
 ·intro h j hj
  rw [hbit i hi j, decide_eq_true_eq] at hj
  exact (hs j).2 (mem_up.1 (h _ hj))
 ·intro h x hx
  have hmem : g.getD i z48 ∈ g := by
   rw [List.getD_eq_getElem?_getD, List.getElem?_eq_getElem hi]
   exact List.getElem_mem hi
  have h0 := (hf.1 _ hmem).2.1 x hx
  obtain ⟨j, rfl⟩ : ∃ j : Nat, x = (j : Int) := ⟨x.toNat, by omega⟩
  refine mem_up.2 ((hs j).1 (h j ?_))
  rw [hbit i hi j, decide_eq_true_eq]
  exact hx
theorem rdT_nat (g : List Tk) (i : Nat) : rd_T48 g (i : Int) = g.getD i z48 := by simp [rd_T48]
theorem getD_mem {g : List Tk} {i : Nat} (hi : i < g.length) : g.getD i z48 ∈ g := by
 rw [List.getD_eq_getElem?_getD, List.getElem?_eq_getElem hi]
 exact List.getElem_mem hi
theorem ev_top_found {g : List Tk} (hg : Fits g) (L : List Nat) (hL : L.length ≤ 100) (j : Nat) (i : Int) (R : List Int) (h : Ev (fun k => spec_topOrder.l0 k g (up (L ++ [j]))) R) : Ev (fun k => spec_topOrder.l1 k g (up L) (j : Int) i) R := by
 have e : up (L ++ [j]) = up L ++ [(j : Int)] := by simp [up]
 have h2 : Ev (fun k => spec_topOrder.j2 k g (up L) (j : Int) i false) R := by
  refine Ev.succ (h.of fun k => ?_)
  rw [spec_topOrder.j2, if_neg (by simp), if_neg (by omega), if_pos (by rw [up_length]; omega), e]
 refine Ev.succ (h2.of fun k => ?_)
 rw [spec_topOrder.l1, show decide ((j : Int) < 0) = false by simp]
 split <;> rfl
theorem ev_top_scan {g : List Tk} (hg : Fits g) {N : List Nat} (hN : needsD g = some N) (L : List Nat) (d : Nat) (hL : L.length ≤ 100) (hd : d < 256) (hs : ∀ i, d.testBit i = true ↔ i ∈ L) (R : Option Nat → List Int) (hR : R none = up L) : ∀ (m i : Nat), i + m = g.length →
  (∀ j, nextFrom N d i m = some j → Ev (fun k => spec_topOrder.l0 k g (up (L ++ [j]))) (R (some j))) → Ev (fun k => spec_topOrder.l1 k g (up L) (-1) (i : Int)) (R (nextFrom N d i m))
 | 0, i, hi, ho => by
  rw [nextFrom, hR]
  refine Ev.succ ?_
  have h2 : Ev (fun k => spec_topOrder.j2 k g (up L) (-1) (i : Int) false) (up L) := by
   refine Ev.succ ((Ev.const _).of fun k => ?_)
   rw [spec_topOrder.j2, if_neg (by simp), if_pos (by omega)]
  refine h2.of fun k => ?_
  rw [spec_topOrder.l1, if_neg (by omega)]
 | m + 1, i, hi, ho => by
  have hig : i < g.length := by omega
  have h8 := (needsD_spec hN).1
  have hin := ev_isIn (L := up L) (by rw [up_length]; unfold big; omega) (i : Int)
  have hdn := ev_allDone (L := (g.getD i z48).f1) (M := up L) (hg.2 _ (getD_mem hig)) (by rw [up_length]; unfold big; omega)
  have e1 : decide ((i : Int) ∈ up L) = d.testBit i := by
   rw [Bool.eq_iff_iff, decide_eq_true_eq, mem_up, hs]
  have e2 : decide (∀ x ∈ (g.getD i z48).f1, x ∈ up L) = decide (sub (N.getD i 0) d = 0) := by
   rw [decide_eq_decide]; exact done_iff hN hd hs hig
  rw [e1] at hin
  rw [e2] at hdn
  have hw : wrap64 ((i : Int) + 1) = ((i + 1 : Nat) : Int) := w64s (by unfold big; omega)
  refine Ev.succ ?_
  have hj2 : Ev (fun k => spec_topOrder.j2 k g (up L) (-1) (i : Int) true) (R (nextFrom N d i (m + 1))) := by
   refine Ev.succ ?_
   have hu : ∀ k, spec_topOrder.j2 (k + 1) g (up L) (-1) (i : Int) true = (spec_isIn.f k (up L) (i : Int)).bind fun t126 => (if t126 = true then (spec_topOrder.l1 k g (up L) (-1) ((i + 1 : Nat) : Int)) else ((spec_allDone.f k (g.getD i z48).f1 (up L)).bind fun t128 => (if t128 = true then (spec_topOrder.l1 k g (up L) (i : Int) ((i + 1 : Nat) : Int)) else (spec_topOrder.l1 k g (up L) (-1) ((i + 1 : Nat) : Int))))) := by
    intro k
    rw [spec_topOrder.j2, if_pos rfl, hw, if_pos (show 0 ≤ (i : Int) by omega), if_pos (show (i : Int) < (g.length : Int) by omega), rdT_nat]
   refine Ev.of ?_ hu
   refine hin.bind (g := fun k t126 => (if t126 = true then (spec_topOrder.l1 k g (up L) (-1) ((i + 1 : Nat) : Int)) else ((spec_allDone.f k (g.getD i z48).f1 (up L)).bind fun t128 => (if t128 = true then (spec_topOrder.l1 k g (up L) (i : Int) ((i + 1 : Nat) : Int)) else (spec_topOrder.l1 k g (up L) (-1) ((i + 1 : Nat) : Int)))))) ?_
   cases hbit : d.testBit i with
   | true =>
    have hg2 : nextFrom N d i (m + 1) = nextFrom N d (i + 1) m := by rw [nextFrom, if_neg (by simp [hbit])]
    rw [hg2] at ho ⊢
    exact (ev_top_scan hg hN L d hL hd hs R hR m (i + 1) (by omega) ho).of fun k => if_pos rfl
   | false =>
    by_cases hz : sub (N.getD i 0) d = 0
    ·have hg2 : nextFrom N d i (m + 1) = some i := by rw [nextFrom, if_pos ⟨hbit, hz⟩]
     rw [hg2]
     rw [decide_eq_true hz] at hdn
     have hf := ev_top_found hg L hL i ((i + 1 : Nat) : Int) _ (ho i hg2)
     refine (hdn.bind (g := fun k t128 => if t128 = true then (spec_topOrder.l1 k g (up L) (i : Int) ((i + 1 : Nat) : Int)) else (spec_topOrder.l1 k g (up L) (-1) ((i + 1 : Nat) : Int))) (hf.of fun k => if_pos rfl)).of fun k => ?_
     rw [if_neg (by simp)]
    ·have hg2 : nextFrom N d i (m + 1) = nextFrom N d (i + 1) m := by rw [nextFrom, if_neg (fun h => hz h.2)]
     rw [hg2] at ho ⊢
     rw [decide_eq_false hz] at hdn
     have ih := ev_top_scan hg hN L d hL hd hs R hR m (i + 1) (by omega) ho
     refine (hdn.bind (g := fun k t128 => if t128 = true then (spec_topOrder.l1 k g (up L) (i : Int) ((i + 1 : Nat) : Int)) else (spec_topOrder.l1 k g (up L) (-1) ((i + 1 : Nat) : Int))) (ih.of fun k => if_neg (by simp))).of fun k => ?_
     rw [if_neg (by simp)]
  refine hj2.of fun k => ?_
  rw [spec_topOrder.l1, if_pos (by omega)]
  rfl
theorem orderGo_none {N : List Nat} {d : Nat} (h : nextD N d = none) : ∀ (m : Nat) (L : List Nat), orderGo N m L d = (L, d)
 | 0, L => rfl
 | m + 1, L => by rw [orderGo, h]; exact orderGo_none h m L
theorem next_zb {N : List Nat} {d j : Nat} (h : nextD N d = some j) : zb N.length (d ||| 2 ^ j) < zb N.length d := by
 have := nextD_spec h
 exact zb_lt this.2.1 this.1
theorem ev_top_go {g : List Tk} (hg : Fits g) {N : List Nat} (hN : needsD g = some N) : ∀ (m : Nat) (L : List Nat) (d : Nat), OrdOk N L d → zb N.length d ≤ m → Ev (fun k => spec_topOrder.l0 k g (up L)) (up (orderGo N m L d).1) := by
 obtain ⟨h8, hl, hb⟩ := needsD_spec hN
 have hb' : below1 N.length N := by rw [hl]; exact hb
 intro m
 induction m with
 | zero =>
  intro L d ok hz
  have hlt := Nat.lt_of_lt_of_le ok.dlt (pow8 (n := N.length) (by omega))
  have hnone : nextD N d = none := by
   cases h : nextD N d with
   | none => rfl
   | some j => have := next_zb h; omega
  have h := ev_top_scan hg hN L d (by have := ok.len; omega) hlt ok.set (fun _ => up L) rfl g.length 0 (by omega) (fun j hj => by
   have : nextD N d = some j := by unfold nextD; rw [hl]; exact hj
   rw [hnone] at this; cases this)
  refine Ev.succ (h.of fun k => ?_)
  rw [spec_topOrder.l0]
  rfl
 | succ m ih =>
  intro L d ok hz
  have hlt := Nat.lt_of_lt_of_le ok.dlt (pow8 (n := N.length) (by omega))
  have h := ev_top_scan hg hN L d (by have := ok.len; omega) hlt ok.set (fun o => match o with | some i => up (orderGo N m (L ++ [i]) (d ||| 2 ^ i)).1 | none => up L) rfl g.length 0 (by omega) (fun j hj => by
   have hj2 : nextD N d = some j := by unfold nextD; rw [hl]; exact hj
   have hsp := nextD_spec hj2
   have := next_zb hj2
   exact ih (L ++ [j]) (d ||| 2 ^ j) (ok.step (by omega) hb' hsp.1 hsp.2.1 hsp.2.2) (by omega))
  have e : (match nextFrom N d 0 g.length with | some i => up (orderGo N m (L ++ [i]) (d ||| 2 ^ i)).1 | none => up L) = up (orderGo N (m + 1) L d).1 := by
   rw [orderGo]
   have e2 : nextD N d = nextFrom N d 0 g.length := by unfold nextD; rw [hl]
   rw [e2]
   cases hx : nextFrom N d 0 g.length with
   | none => simp only []; rw [orderGo_none (by rw [e2]; exact hx)]
   | some i => rfl
  rw [← e]
  refine Ev.succ (h.of fun k => ?_)
  rw [spec_topOrder.l0]
  rfl
theorem ordOk_nil (N : List Nat) : OrdOk N [] 0 := ⟨by simp, by simp, Nat.two_pow_pos _, by simp, by rw [zb_zero]; simp, by simp⟩
theorem ev_topOrder {g : List Tk} (hg : Fits g) {N : List Nat} (hN : needsD g = some N) : Ev (fun k => spec_topOrder.f k g) (up (orderD N).1) :=
 ev_top_go hg hN N.length [] 0 (ordOk_nil N) (by rw [zb_zero]; exact Nat.le_refl _)
theorem zb_zero_full {n : Nat} : ∀ {m d : Nat}, zb m d = 0 → ∀ i, i < m → d.testBit i = true
 | 0, d, _, i, h => by omega
 | m + 1, d, h, i, hi => by
  simp only [zb] at h
  by_cases e : i = m
  ·subst e
   cases hb : d.testBit i
   ·simp [hb] at h
   ·rfl
  ·exact zb_zero_full (n := n) (m := m) (by omega) i (by omega)
theorem full_iff {N L : List Nat} {d : Nat} (ok : OrdOk N L d) : d = 2 ^ N.length - 1 ↔ L.length = N.length := by
 constructor
 ·intro h
  have := ok.len
  rw [h, zb_full _ _ (Nat.le_refl _)] at this
  exact this
 ·intro h
  have hz : zb N.length d = 0 := by have := ok.len; omega
  apply Nat.eq_of_testBit_eq
  intro i
  rw [Nat.testBit_two_pow_sub_one]
  by_cases hi : i < N.length
  ·rw [zb_zero_full (n := 0) hz i hi]; simp [hi]
  ·cases hb : d.testBit i
   ·simp [hi]
   ·exact absurd (ok.lt i ((ok.set i).1 hb)) hi
theorem ev_validGraph {g : List Tk} (hg : Fits g) : Ev (fun k => spec_validGraph.f k g) (graphD g).isSome := by
 have hf := ev_tasksFine hg
 unfold graphD
 by_cases h : fineD g
 ·obtain ⟨N, hN⟩ := fineD_needs h
  obtain ⟨h8, hl, hb⟩ := needsD_spec hN
  rw [decide_eq_true h] at hf
  have ht := ev_topOrder hg hN
  have ok := orderD_ok (N := N) (by omega) (by rw [hl]; exact hb)
  have hfull := full_iff ok
  rw [hN]
  simp only []
  refine (hf.bind (g := fun k b => if b = true then ((spec_topOrder.f k g).bind fun t130 => (some ((t130.length : Int) == (g.length : Int)))) else some false) ?_).of fun k => rfl
  refine (ht.bind (g := fun k t130 => some ((t130.length : Int) == (g.length : Int))) (b := (if (orderD N).2 = 2 ^ g.length - 1 then some (mkG g N) else none).isSome) ((Ev.const _).of fun k => ?_)).of fun k => if_pos rfl
  rw [up_length]
  congr 1
  by_cases hd : (orderD N).2 = 2 ^ g.length - 1
  ·rw [if_pos hd]
   have := hfull.1 (by rw [hl]; exact hd)
   simp [this, hl]
  ·rw [if_neg hd]
   have : (orderD N).1.length ≠ g.length := fun e => hd (by rw [← hl]; exact hfull.2 (by omega))
   simp [this]
   omega
 ·rw [decide_eq_false h] at hf
  have hn : needsD g = none := by
   cases e : needsD g with
   | none => rfl
   | some N => exact absurd (needsD_fine e).1 h
  rw [hn]
  refine (hf.bind (g := fun k b => if b = true then ((spec_topOrder.f k g).bind fun t130 => (some ((t130.length : Int) == (g.length : Int)))) else some false) ((Ev.const false).of fun k => if_neg (by simp))).of fun k => rfl
end Go.Proofs.YtpibdjkajgfgjaaDoor.Core
end
section
set_option linter.unusedVariables false
set_option linter.unusedSimpArgs false
namespace Go.Proofs.YtpibdjkajgfgjaaDoor.Core
open Go Go.RowKit Go.Proofs.YtpibdjkajgfgjaaDoorW.PrintWords Go.Proofs.YtpibdjkajgfgjaaDoorW.PrintMore Go.Proofs.YtpibdjkajgfgjaaDoor.P
theorem Ev.pos {α : Type} {c : Prop} [Decidable c] {f g : Nat → Option α} {r : α} (hc : c) (h : Ev f r) : Ev (fun k => if c then f k else g k) r := h.of fun k => if_pos hc
theorem Ev.neg {α : Type} {c : Prop} [Decidable c] {f g : Nat → Option α} {r : α} (hc : ¬ c) (h : Ev g r) : Ev (fun k => if c then f k else g k) r := h.of fun k => if_neg hc
theorem Ev.sb {α β : Type} {g : Nat → α → Option β} {a : α} {b : β} (h : Ev (fun k => g k a) b) : Ev (fun k => (some a).bind (g k)) b := h.of fun k => rfl
theorem Ev.conv {α : Type} {f : Nat → Option α} {a b : α} (h : Ev f a) (e : a = b) : Ev f b := e ▸ h
def EvP {α : Type} (f : Nat → Option α) (Q : α → Prop) : Prop := ∃ r, Ev f r ∧ Q r
theorem EvP.ret {α : Type} {Q : α → Prop} {a : α} (h : Q a) : EvP (fun _ => some a) Q := ⟨a, Ev.const a, h⟩
theorem EvP.bind {α β : Type} {f : Nat → Option α} {g : Nat → α → Option β} {Q : α → Prop} {R : β → Prop} (h : EvP f Q) (h2 : ∀ a, Q a → EvP (fun k => g k a) R) : EvP (fun k => (f k).bind (g k)) R := by
 obtain ⟨a, h, q⟩ := h
 obtain ⟨b, h2, q2⟩ := h2 a q
 exact ⟨b, h.bind h2, q2⟩
theorem EvP.sb {α β : Type} {g : Nat → α → Option β} {a : α} {R : β → Prop} (h : EvP (fun k => g k a) R) : EvP (fun k => (some a).bind (g k)) R := h
theorem EvP.pos {α : Type} {c : Prop} [Decidable c] {f g : Nat → Option α} {Q : α → Prop} (hc : c) (h : EvP f Q) : EvP (fun k => if c then f k else g k) Q := by
 obtain ⟨r, h, q⟩ := h
 exact ⟨r, h.pos hc, q⟩
theorem EvP.neg {α : Type} {c : Prop} [Decidable c] {f g : Nat → Option α} {Q : α → Prop} (hc : ¬ c) (h : EvP g Q) : EvP (fun k => if c then f k else g k) Q := by
 obtain ⟨r, h, q⟩ := h
 exact ⟨r, h.neg hc, q⟩
theorem EvP.ite {α : Type} {c : Prop} [Decidable c] {f g : Nat → Option α} {Q : α → Prop} (h1 : c → EvP f Q) (h2 : ¬ c → EvP g Q) : EvP (fun k => if c then f k else g k) Q :=
 if hc : c then EvP.pos hc (h1 hc) else EvP.neg hc (h2 hc)
theorem EvP.succ {α : Type} {f : Nat → Option α} {Q : α → Prop} (h : EvP (fun k => f (k + 1)) Q) : EvP f Q := by
 obtain ⟨r, h, q⟩ := h
 exact ⟨r, h.succ, q⟩
theorem EvP.of {α : Type} {f g : Nat → Option α} {Q : α → Prop} (h : EvP f Q) (e : ∀ k, g k = f k) : EvP g Q := by
 obtain ⟨r, h, q⟩ := h
 exact ⟨r, h.of e, q⟩
theorem EvP.mono {α : Type} {f : Nat → Option α} {Q R : α → Prop} (h : EvP f Q) (hq : ∀ a, Q a → R a) : EvP f R := by
 obtain ⟨r, h, q⟩ := h
 exact ⟨r, h, hq r q⟩
theorem Ev.p {α : Type} {f : Nat → Option α} {r : α} {Q : α → Prop} (h : Ev f r) (q : Q r) : EvP f Q := ⟨r, h, q⟩
end Go.Proofs.YtpibdjkajgfgjaaDoor.Core
end
section
set_option linter.unusedVariables false
set_option linter.unusedSimpArgs false
namespace Go.Proofs.YtpibdjkajgfgjaaDoor.Core
open Go Go.RowKit Go.Proofs.YtpibdjkajgfgjaaDoorW.PrintWords Go.Proofs.YtpibdjkajgfgjaaDoorW.PrintMore Go.Proofs.YtpibdjkajgfgjaaDoor.P
theorem asc_ext : ∀ {a b : List Int}, ascD a = true → ascD b = true → (∀ x, x ∈ a ↔ x ∈ b) → a = b
 | [], [], _, _, _ => rfl
 | [], y :: b, _, _, h => by have := (h y).2 List.mem_cons_self; cases this
 | x :: a, [], _, _, h => by have := (h x).1 List.mem_cons_self; cases this
 | x :: a, y :: b, ha, hb, h => by
  have h1 := asc_lt ha
  have h2 := asc_lt hb
  have e : x = y := by
   rcases List.mem_cons.1 ((h x).1 List.mem_cons_self) with e | e
   ·exact e
   ·rcases List.mem_cons.1 ((h y).2 List.mem_cons_self) with e' | e'
    ·exact e'.symm
    ·have := h1.2 y e'
     have := h2.2 x e
     omega
  subst e
  rw [asc_ext h1.1 h2.1 (fun z => ⟨fun hz => ?_, fun hz => ?_⟩)]
  ·rcases List.mem_cons.1 ((h z).1 (List.mem_cons_of_mem _ hz)) with e | e
   ·have := h1.2 z hz; omega
   ·exact e
  ·rcases List.mem_cons.1 ((h z).2 (List.mem_cons_of_mem _ hz)) with e | e
   ·have := h2.2 z hz; omega
   ·exact e
theorem asc_filter (p : Nat → Bool) : ∀ (m i : Nat), ascD (up ((List.range' i m).filter p)) = true ∧ ∀ x ∈ up ((List.range' i m).filter p), (i : Int) ≤ x
 | 0, i => ⟨rfl, by simp [up]⟩
 | m + 1, i => by
  have ih := asc_filter p m (i + 1)
  rw [List.range'_succ, List.filter_cons]
  split
  ·refine ⟨asc_mk ih.1 (fun y hy => by have := ih.2 y hy; show (i : Int) < y; omega), fun x hx => ?_⟩
   rcases List.mem_cons.1 hx with rfl | hx
   ·exact Int.le_refl _
   ·have := ih.2 x hx; omega
  ·exact ⟨ih.1, fun x hx => by have := ih.2 x hx; omega⟩
theorem asc_elems (s : Nat) : ascD (up (elemsN s)) = true := by
 unfold elemsN
 rw [List.range_eq_range']
 exact (asc_filter (fun i => s.testBit i) 8 0).1
/-- A list of ascending numbers is its set's. -/
theorem set_list {n : Nat} (hn : n ≤ 8) {l : List Int} {s : Nat} (h : setD n l = some s) : up (elemsN s) = l := by
 obtain ⟨h1, h2⟩ := setD_some h
 refine asc_ext (asc_elems s) h1.2 (fun x => ?_)
 constructor
 ·intro hx
  obtain ⟨i, rfl, _, hi⟩ := mem_elems.1 hx
  rw [h2] at hi
  simpa using hi
 ·intro hx
  have h3 := h1.1 x hx
  obtain ⟨i, rfl⟩ := Int.eq_ofNat_of_zero_le h3.1
  refine mem_elems.2 ⟨i, rfl, by omega, ?_⟩
  rw [h2]
  simpa using hx
theorem set_cases (n : Nat) (l : List Int) : (∃ s, setD n l = some s ∧ needsOk n l) ∨ (setD n l = none ∧ ¬ needsOk n l) := by
 cases h : setD n l with
 | some s => exact .inl ⟨s, rfl, (setD_some h).1⟩
 | none => exact .inr ⟨rfl, setD_none h⟩
theorem rd_up' (L : List Nat) (i : Nat) : rd (up L) (i : Int) = ((L.getD i 0 : Nat) : Int) := rd_up rfl
end Go.Proofs.YtpibdjkajgfgjaaDoor.Core
end
section
set_option linter.unusedVariables false
set_option linter.unusedSimpArgs false
namespace Go.Proofs.YtpibdjkajgfgjaaDoor.Core
open Go Go.RowKit Go.Proofs.YtpibdjkajgfgjaaDoorW.PrintWords Go.Proofs.YtpibdjkajgfgjaaDoorW.PrintMore Go.Proofs.YtpibdjkajgfgjaaDoor.P
/-- What is known of a valid graph. -/
structure VG (g : List Tk) (G : GD) : Prop where
 tasks : G.tasks = g
 n8 : g.length ≤ 8
 nl : G.needs.length = g.length
 nb : below1 g.length G.needs
 needsD : needsD g = some G.needs
 bits : ∀ i, i < g.length → ∀ j : Nat, (G.needs.getD i 0).testBit j = decide ((j : Int) ∈ (g.getD i z48).f1)
 fine : fineD g
 ord : OrdOk G.needs G.order (2 ^ g.length - 1)
theorem vg_of {g : List Tk} {G : GD} (h : graphD g = some G) : VG g G := by
 obtain ⟨N, hN, hf, rfl⟩ := graphD_spec h
 obtain ⟨h8, hl, hb⟩ := needsD_spec hN
 have ok := orderD_ok (N := N) (by omega) (by rw [hl]; exact hb)
 rw [hf] at ok
 exact ⟨rfl, h8, hl, hb, hN, (needsD_fine hN).2, (needsD_fine hN).1, ok⟩
theorem zb_count (p : Nat) : ∀ n, zb n p = ((List.range n).filter (fun i => !p.testBit i)).length
 | 0 => rfl
 | n + 1 => by
  rw [zb, zb_count p n, List.range_succ, List.filter_append, List.length_append]
  congr 1
  by_cases h : p.testBit n = true
  ·simp [h]
  ·simp [h]
theorem VG.needs_len {g : List Tk} {G : GD} (v : VG g G) : G.needs.length ≤ 8 := by have := v.nl; have := v.n8; omega
theorem VG.mem_ready {g : List Tk} {G : GD} (v : VG g G) {p i : Nat} : i ∈ elemsN (G.ready p) ↔ i < g.length ∧ p.testBit i = false ∧ sub (G.needs.getD i 0) p = 0 := by
 rw [Core.mem_ready v.needs_len, v.nl]
end Go.Proofs.YtpibdjkajgfgjaaDoor.Core
end
section
set_option linter.unusedVariables false
set_option linter.unusedSimpArgs false
namespace Go.Proofs.YtpibdjkajgfgjaaDoor.Core
open Go Go.RowKit Go.Shelf Go.Proofs.YtpibdjkajgfgjaaDoorW.PrintWords Go.Proofs.YtpibdjkajgfgjaaDoorW.PrintMore Go.Proofs.YtpibdjkajgfgjaaDoor.P
/-- Whether a list has different numbers of tasks, none of a set. -/
def freshOk (n : Nat) : List Int → Nat → Bool
 | [], _ => true
 | x :: r, s => if (0 ≤ x ∧ x ≤ (n : Int) - 1) ∧ s.testBit x.toNat = false then freshOk n r (s ||| 2 ^ x.toNat) else false
def admitD (g : List Tk) (room running list : List Int) (wk : Int) : List Int :=
 if (1 ≤ wk ∧ wk ≤ 4) ∧ runsD g room running = true then
  match setD g.length running with
  | none => []
  | some s => if freshOk g.length list s = true then admGo g room wk list (countSet g s) [] else []
 else []
theorem runsD_some {g : List Tk} {room running : List Int} (h : runsD g room running = true) : ∃ G s, graphD g = some G ∧ roomOk room ∧ setD g.length running = some s ∧ fitsD (countSet g s) room = true := by
 unfold runsD at h
 cases hG : graphD g with
 | none => rw [hG] at h; cases h
 | some G =>
  rw [hG] at h
  simp only [] at h
  by_cases hr : roomOk room
  ·rw [if_pos hr] at h
   cases hs : setD g.length running with
   | none => rw [hs] at h; cases h
   | some s => rw [hs] at h; exact ⟨G, s, rfl, hr, rfl, h⟩
  ·rw [if_neg hr] at h; cases h
theorem four_setA {w : World} {g t : Nat} {o0 o1 o2 o3 : Value} (h : w.heap[g]? = some (.cells #[o0, o1, o2, o3] t (0, 0))) (v0 v1 v2 v3 : Value) :
  ((((w.setCell ⟨g, 0, none⟩ v0).setCell ⟨g, 1, none⟩ v1).setCell ⟨g, 2, none⟩ v2).setCell ⟨g, 3, none⟩ v3).heap[g]? = some (.cells #[v0, v1, v2, v3] t (0, 0)) ∧ w.grownBy ((((w.setCell ⟨g, 0, none⟩ v0).setCell ⟨g, 1, none⟩ v1).setCell ⟨g, 2, none⟩ v2).setCell ⟨g, 3, none⟩ v3) (some g) :=
 ⟨blk_put (blk_put (blk_put (blk_put h 0 v0 rfl) 1 v1 rfl) 2 v2 rfl) 3 v3 rfl, grown_trans (grown_trans (grown_trans (grownBy_setCell'' _ _ _ _) (grownBy_setCell'' _ _ _ _)) (grownBy_setCell'' _ _ _ _)) (grownBy_setCell'' _ _ _ _)⟩
section
attribute [local go_sem] Oper.semAt_some wide_fn wide_depth
set_option maxHeartbeats 1000000 in
theorem workers_is (a : Int) (t : Bool) (w : World) (h : decide (1 ≤ a ∧ a ≤ 4) = t) :
  Calls Tryd.prog 59 #[.int .i64 a] w fun e w' => e = .returned (.bool t) ∧ Below w.heap.size w w' := by
 have HW := Aside0.mk (within_is a 1 4 t w h)
 clear h
 go_enter Tryd.func59, Tryd.ntmps59
 go_wp2_with (go_at_call 64; refine HW.out.mono ?_; rintro e w2 ⟨rfl, hB2⟩)
 go_ret
 exact ⟨rfl, hB2⟩
end
/-- A list that is fresh names tasks. -/
theorem fresh_mem {n : Nat} : ∀ (l : List Int) (s : Nat), freshOk n l s = true → ∀ x ∈ l, 0 ≤ x ∧ x < (n : Int)
 | [], _, _, x, hx => by cases hx
 | y :: r, s, h, x, hx => by
  unfold freshOk at h
  by_cases hc : (0 ≤ y ∧ y ≤ (n : Int) - 1) ∧ s.testBit y.toNat = false
  ·rw [if_pos hc] at h
   rcases List.mem_cons.1 hx with rfl | hx
   ·exact ⟨hc.1.1, by omega⟩
   ·exact fresh_mem r _ h x hx
  ·rw [if_neg hc] at h; cases h
theorem zb_or {n s k : Nat} (hk : k < n) (hb : s.testBit k = false) : zb n (s ||| 2 ^ k) + 1 ≤ zb n s := by
 have h1 : ∀ m, zb m (s ||| 2 ^ k) + (if k < m then 1 else 0) ≤ zb m s := by
  intro m
  rw [zb_count, zb_count]
  induction m with
  | zero => simp
  | succ m ih =>
   rw [List.range_succ, List.filter_append, List.filter_append, List.length_append, List.length_append]
   have hm : (s ||| 2 ^ k).testBit m = (s.testBit m || decide (k = m)) := or_bit _ _ _
   by_cases e : k = m
   ·subst e
    rw [List.filter_cons_of_neg (by rw [hm]; simp), List.filter_cons_of_pos (by rw [hb]; rfl)]
    simp only [List.filter_nil, List.length_nil, List.length_singleton]
    rw [if_neg (Nat.lt_irrefl _)] at ih
    rw [if_pos (Nat.lt_succ_self _)]
    omega
   ·have hle : ((([m] : List Nat).filter (fun i => !(s ||| 2 ^ k).testBit i))).length = (([m] : List Nat).filter (fun i => !s.testBit i)).length := by
     simp only [List.filter_cons, List.filter_nil, hm, decide_eq_false e, Bool.or_false]
    rw [hle]
    by_cases hkm : k < m
    ·rw [if_pos hkm] at ih
     rw [if_pos (by omega)]
     omega
    ·rw [if_neg hkm] at ih
     rw [if_neg (by omega)]
     omega
 have := h1 n
 rw [if_pos hk] at this
 exact this
theorem fresh_len {n : Nat} : ∀ (l : List Int) (s : Nat), freshOk n l s = true → l.length ≤ zb n s
 | [], _, _ => Nat.zero_le _
 | y :: r, s, h => by
  unfold freshOk at h
  by_cases hc : (0 ≤ y ∧ y ≤ (n : Int) - 1) ∧ s.testBit y.toNat = false
  ·rw [if_pos hc] at h
   have h1 := fresh_len r _ h
   have h2 := zb_or (n := n) (s := s) (k := y.toNat) (by omega) hc.2
   rw [List.length_cons]
   omega
  ·rw [if_neg hc] at h; cases h
end Go.Proofs.YtpibdjkajgfgjaaDoor.Core
namespace Go.Proofs.YtpibdjkajgfgjaaDoor.P
open Go Go.RowKit Go.Shelf Go.Proofs.YtpibdjkajgfgjaaDoorW.PrintWords Go.Proofs.YtpibdjkajgfgjaaDoorW.PrintLast Go.Proofs.YtpibdjkajgfgjaaDoorW.PrintMore Go.Proofs.YtpibdjkajgfgjaaDoor.Core
attribute [local go_sem] Oper.semAt_some wide_fn wide_depth
def impl_AdmitTasks.f (l0 : List S48) (l1 l2 l3 : List Int) (a4 : Int) : Option (List Int) := some (admitD l0 l1 l2 l3 a4)
set_option maxRecDepth 100000 in
set_option maxHeartbeats 2000000 in
theorem impl_AdmitTasks.calls (A0 : Option Addr) (c0 : Nat) (l0 : List S48) (A1 : Option Addr) (c1 : Nat) (l1 : List Int) (A2 : Option Addr) (c2 : Nat) (l2 : List Int) (A3 : Option Addr) (c3 : Nat) (l3 : List Int) (a4 : Int) (r : List Int) (w : World) (hr0 : Kd.C k48 w A0 l0.length l0) (hc0 : l0.length ≤ c0) (hr1 : Kd.C (Kd.int .i64) w A1 l1.length l1) (hc1 : l1.length ≤ c1) (hr2 : Kd.C (Kd.int .i64) w A2 l2.length l2) (hc2 : l2.length ≤ c2) (hr3 : Kd.C (Kd.int .i64) w A3 l3.length l3) (hc3 : l3.length ≤ c3) (hT : Tab w) (h : impl_AdmitTasks.f l0 l1 l2 l3 a4 = some r) :
  Calls Tryd.prog 19 #[.slice A0 l0.length c0, .slice A1 l1.length c1, .slice A2 l2.length c2, .slice A3 l3.length c3, .int .i64 a4] w fun e w' => ∃ v0_ : Value, e = .returned (v0_) ∧ Kd.R (Kd.int .i64) 3 w' w.heap.size (fun _ => True) v0_ r ∧ Below w.heap.size w w' := by
 have hr : r = admitD l0 l1 l2 l3 a4 := (Option.some.inj h).symm
 subst hr
 clear h
 have HR0 := Aside0.mk hr0
 have HR1 := Aside0.mk hr1
 have HR2 := Aside0.mk hr2
 have HR3 := Aside0.mk hr3
 have HC0 := Aside0.mk hc0
 have HC1 := Aside0.mk hc1
 have HC2 := Aside0.mk hc2
 have HC3 := Aside0.mk hc3
 have HL30 := Aside0.mk (show l3.length ≤ 9223372036854775807 from hr3.2.1)
 have HT := Aside0.mk hT
 clear hr0 hr1 hr2 hr3 hc0 hc1 hc2 hc3 hT
 by_cases hw : 1 ≤ a4 ∧ a4 ≤ 4
 rotate_left
 ·have hcd : admitD l0 l1 l2 l3 a4 = [] := by unfold admitD; rw [if_neg (fun h => hw h.1)]
  rw [hcd]
  have HWD : Aside0 (decide (1 ≤ a4 ∧ a4 ≤ 4) = false) := ⟨decide_eq_false hw⟩
  clear hw hcd
  go_enter Tryd.func19, Tryd.ntmps19
  go_wp2_with (go_at_call 59; refine (workers_is a4 false _ HWD.out).mono ?_; rintro e w1 ⟨rfl, hB1⟩; have HB1 := Aside0.mk hB1; clear hB1)
  go_ret
  exact ⟨_, rfl, Kd.R_nil _ _ _ _ _, HB1.out⟩
 have HWD : Aside0 (decide (1 ≤ a4 ∧ a4 ≤ 4) = true) := ⟨decide_eq_true hw⟩
 cases hrun : runsD l0 l1 l2 with
 | false =>
  have hcd : admitD l0 l1 l2 l3 a4 = [] := by unfold admitD; rw [hrun, if_neg (fun h => by cases h.2)]
  rw [hcd]
  have HRUN := Aside0.mk (show impl_RunsTogether.f l0 l1 l2 = some false by unfold impl_RunsTogether.f; rw [hrun])
  clear hw hcd hrun
  go_enter Tryd.func19, Tryd.ntmps19
  go_wp2_with (first | (go_at_call 59; refine (workers_is a4 true _ HWD.out).mono ?_; rintro e w1 ⟨rfl, hB1⟩; have HB1 := Aside0.mk hB1; clear hB1) | (go_at_call 47; refine (impl_RunsTogether.calls A0 c0 l0 A1 c1 l1 A2 c2 l2 false _ (Kd.C_below HR0.out HB1.out) HC0.out (Kd.C_below HR1.out HB1.out) HC1.out (Kd.C_below HR2.out HB1.out) HC2.out (HT.out.of HB1.out) HRUN.out).mono ?_; rintro e w2 ⟨rfl, hB2⟩; have HB2 := Aside0.mk (below_step HB1.out hB2); clear hB2))
  go_ret
  exact ⟨_, rfl, Kd.R_nil _ _ _ _ _, HB2.out⟩
 | true =>
  have HRUN := Aside0.mk (show impl_RunsTogether.f l0 l1 l2 = some true by unfold impl_RunsTogether.f; rw [hrun])
  obtain ⟨G, s, hG, hroom, hs, hfit⟩ := runsD_some hrun
  have hcd : admitD l0 l1 l2 l3 a4 = if freshOk l0.length l3 s = true then admGo l0 l1 a4 l3 (countSet l0 s) [] else [] := by unfold admitD; rw [if_pos ⟨hw, hrun⟩, hs]
  have ok := graphD_ok hG
  have htk := graphD_tasks hG
  have h8 := ok.n8
  have hpool : ∀ t ∈ G.tasks, 0 ≤ t.f2 ∧ t.f2 ≤ 2 := graphD_pool hG
  have hslt := setD_lt hs
  have HG := Aside0.mk (fun W hr hT => graphOf_some A0 c0 l0 G W hT hr HC0.out hG)
  obtain ⟨res, hres⟩ : ∃ res, res = admitD l0 l1 l2 l3 a4 := ⟨_, rfl⟩
  rw [← hres]
  rw [hcd] at hres
  clear hcd
  rw [← htk] at hres hs hslt
  have HSET := Aside0.mk (fun W hr => setOf_some h8 A2 c2 l2 s W hr HC2.out hs)
  have HCNT := Aside0.mk (fun b W hT hI => counted_calls b G s W hT hI h8 hpool hslt)
  have HADM := Aside0.mk (fun b cs W hI hr1 hr3 hl hl8 => admitted_calls b G cs A1 c1 l1 A3 c3 l3 a4 W hI hpool hroom.1 hr1 HC1.out hr3 HC3.out hl hl8)
  have HFL := Aside0.mk (fun h => fresh_mem (n := G.tasks.length) l3 s h)
  have HFN := Aside0.mk (fun h => fresh_len (n := G.tasks.length) l3 s h)
  have hzb : zb G.tasks.length s ≤ 8 := Nat.le_trans (by rw [zb_count]; have := List.length_filter_le (fun i => !s.testBit i) (List.range G.tasks.length); rw [List.length_range] at this; exact this) h8
  have HZB := Aside0.mk hzb
  have hs0 := hslt
  generalize countSet G.tasks s = cs at HCNT hres
  obtain ⟨n, hn⟩ : ∃ n, n = G.tasks.length := ⟨_, rfl⟩
  have HN := Aside0.mk (show n = G.tasks.length ∧ n ≤ 8 from ⟨hn, by omega⟩)
  have HRES := Aside0.mk hres
  have HS0 := Aside0.mk hs0
  clear hw hrun hG hroom hs hfit ok htk h8 hpool hslt hzb hs0 hres hn
  go_enter Tryd.func19, Tryd.ntmps19
  go_wp2_with (first
   | (go_at_call 59; refine (workers_is a4 true _ HWD.out).mono ?_; rintro e w1 ⟨rfl, hB1⟩; have HB1 := Aside0.mk hB1; clear hB1)
   | (go_at_call 47; refine (impl_RunsTogether.calls A0 c0 l0 A1 c1 l1 A2 c2 l2 true _ (Kd.C_below HR0.out HB1.out) HC0.out (Kd.C_below HR1.out HB1.out) HC1.out (Kd.C_below HR2.out HB1.out) HC2.out (HT.out.of HB1.out) HRUN.out).mono ?_; rintro e w2 ⟨rfl, hB2⟩; have HB2 := Aside0.mk (below_step HB1.out hB2); clear hB2)
   | (go_at_call 60; refine (HG.out _ (Kd.C_below HR0.out HB2.out) (HT.out.of HB2.out)).mono ?_; rintro e w3 ⟨b, rfl, hB3, hI⟩; have HB3 := Aside0.mk (below_step HB2.out hB3); have HI3 := Aside0.mk hI; clear hB3 hI HG)
   | (go_at_call 62; refine (size_calls b G _ HI3.out).mono ?_; rintro e w' ⟨rfl, rfl⟩)
   | (go_at_call 61; refine (HSET.out _ (Kd.C_below HR2.out HB3.out)).mono ?_; rintro e w4 ⟨rfl, hB4⟩; have HB4 := Aside0.mk (below_step HB3.out hB4); have HI4 := Aside0.mk (HI3.out.move hB4); clear hB4)
   | (go_at_call 63; refine (HCNT.out b _ (HT.out.of HB4.out) HI4.out).mono ?_; rintro e w5 ⟨rfl, hB5⟩; have HB5 := Aside0.mk (below_step HB4.out hB5); have HI5 := Aside0.mk (HI4.out.move hB5); clear hB5)
   | ((with_reducible refine gate_dst (N := 15) rfl ?_); refine box_event ?hg (N := 15) ?hd (cs := #[.int .i64 0, .int .i64 0, .int .i64 0, .int .i64 0]) (t := 73) ?hr ?_; (case hd => rfl); (case hg => rfl); (case hr => first | (go_simp; done) | (go_simp; rfl)); intro gb hg w6 hbox hb; have HB6 := Aside0.mk (below_step HB5.out hb); have HI6 := Aside0.mk (HI5.out.move hb); have GE := Aside0.mk (show w5.heap.size ≤ gb by rw [hg]; exact Nat.le_refl _); have BK := Aside0.mk hbox; have HX := Aside0.mk hb; clear hb hg hbox; have z0 : w6.cell? ⟨gb, 0, none⟩ = some (.int .i64 0) := (blk_cell BK.out 0).trans rfl; have z1 : w6.cell? ⟨gb, 1, none⟩ = some (.int .i64 0) := (blk_cell BK.out 1).trans rfl; have z2 : w6.cell? ⟨gb, 2, none⟩ = some (.int .i64 0) := (blk_cell BK.out 2).trans rfl; have z3 : w6.cell? ⟨gb, 3, none⟩ = some (.int .i64 0) := (blk_cell BK.out 3).trans rfl; have f0 := blk_frozen BK.out 0; have f1 := blk_frozen BK.out 1; have f2 := blk_frozen BK.out 2; have f3 := blk_frozen BK.out 3))
  have h8s := four_setA BK.out (.int .i64 cs.t) (.int .i64 cs.u0) (.int .i64 cs.u1) (.int .i64 cs.u2)
  have HCN := Aside0.mk (show IsCn _ gb cs from h8s.1)
  have HX7 := Aside0.mk (below_put h8s.2 HX.out (Nat.le_refl _) GE.out)
  clear h8s z0 z1 z2 z3 f0 f1 f2 f3
  revert HCN HX7
  generalize ((((w6.setCell ⟨gb, 0, none⟩ (.int .i64 cs.t)).setCell ⟨gb, 1, none⟩ (.int .i64 cs.u0)).setCell ⟨gb, 2, none⟩ (.int .i64 cs.u1)).setCell ⟨gb, 3, none⟩ (.int .i64 cs.u2)) = w7
  intro HCN HX7
  have HB := Aside0.mk (below_step HB5.out HX7.out)
  have HI := Aside0.mk (HI5.out.move HX7.out)
  go_loopg [13, 45] l3.length (fun kq v13 v45 w' => ∃ (j : Nat) (x : Int) (sn : Nat), v13 = .int .u16 (sn : Int) ∧ v45 = .int .i64 x ∧ Aside0 (kq + j = l3.length ∧ x = (j : Int)) ∧ Aside0 (sn < 2 ^ G.tasks.length ∧ freshOk G.tasks.length l3 s = freshOk G.tasks.length (l3.drop j) sn) ∧ Aside0 (IsCn w' gb cs) ∧ Aside0 (IsG w' b G) ∧ Aside0 (Below w.heap.size w w'))
  case atStart => exact ⟨0, 0, s, rfl, rfl, ⟨by omega, rfl⟩, ⟨HS0.out, rfl⟩, ⟨HCN.out⟩, ⟨HI.out⟩, ⟨HB.out⟩⟩
  case round =>
   clear HB HI HCN
   obtain ⟨j, x, sn, rfl, rfl, HJ, HSN, HCN, HI, HB⟩ := hrel
   have HL8 := Aside0.mk (show G.tasks.length ≤ 8 by rw [← HN.out.1]; exact HN.out.2)
   by_cases hlt : j < l3.length
   ·have hx := HJ.out.2
    have hd : decide (x < (l3.length : Int)) = true := decide_eq_true (by omega)
    have p0 : 0 ≤ x := by omega
    have q0 : x < (l3.length : Int) := by omega
    obtain ⟨adl, el, hxl⟩ := Kd.at_int (Kd.C_below HR3.out HB.out) x p0 q0
    have hy : rd l3 x = l3[j] := by rw [hx]; unfold rd; rw [Int.toNat_natCast, List.getD_eq_getElem?_getD, List.getElem?_eq_getElem hlt, Option.getD_some]
    have hdrop : l3.drop j = l3[j] :: l3.drop (j + 1) := List.drop_eq_getElem_cons hlt
    have hfr := HSN.out.2
    rw [hdrop] at hfr
    rw [hy] at hxl
    generalize l3[j] = y at hxl hfr
    have hfr2 : freshOk G.tasks.length l3 s = if (0 ≤ y ∧ y ≤ (G.tasks.length : Int) - 1) ∧ sn.testBit y.toNat = false then freshOk G.tasks.length (l3.drop (j + 1)) (sn ||| 2 ^ y.toNat) else false := hfr
    have h256 : sn < 256 := Nat.lt_of_lt_of_le HSN.out.1 (pow8 HL8.out)
    have hl8 := HL8.out
    have hw2 : wrap64 ((G.tasks.length : Int) - 1) = (G.tasks.length : Int) - 1 := w64 (by omega) (by omega)
    have hw1 : IntKind.i64.wrap ((G.tasks.length : Int) - 1) = (G.tasks.length : Int) - 1 := by rw [i64_w, hw2]
    have HLT := Aside0.mk hlt
    replace p0 := eq_true p0
    replace q0 := eq_true q0
    subst el
    clear hx hlt hy hdrop hfr
    by_cases hin : 0 ≤ y ∧ y ≤ (G.tasks.length : Int) - 1
    ·obtain ⟨i, hi⟩ := Int.eq_ofNat_of_zero_le hin.1
     have hit : y.toNat = i := by omega
     have hi8 : i < 8 := by omega
     have hiG : i < G.tasks.length := by omega
     have HHAS := Aside0.mk (has_calls sn i h256 hi8)
     have HWITH := Aside0.mk (with_calls sn i h256 hi8)
     have HWI := Aside0.mk (fun W => within_is y 0 ((G.tasks.length : Int) - 1) true W (decide_eq_true hin))
     rw [hit] at hfr2
     cases hbit : sn.testBit i with
     | true =>
      rw [hbit, if_neg (fun h => by cases h.2)] at hfr2
      have hr0 : res = [] := by rw [HRES.out, hfr2, if_neg (fun h => by cases h)]
      have HR := Aside0.mk hr0
      rw [← hi, hbit] at HHAS
      clear hfr2 hin hi hit hi8 hiG hbit hr0 HWITH hl8 h256
      go_wp2_with (first
       | (go_at_call 62; refine (size_calls b G _ HI.out).mono ?_; rintro e w' ⟨rfl, rfl⟩)
       | (go_at_call 64; refine (HWI.out _).mono ?_; rintro e w8 ⟨rfl, hB8⟩; have HB8 := Aside0.mk (below_step HB.out hB8); clear hB8)
       | (go_at_call 65; refine (HHAS.out _).mono ?_; rintro e w' ⟨rfl, rfl⟩))
      go_ret
      exact ⟨_, rfl, by rw [HR.out]; exact Kd.R_nil _ _ _ _ _, HB8.out⟩
     | false =>
      rw [if_pos ⟨hin, hbit⟩] at hfr2
      have HFR := Aside0.mk (show sn ||| 2 ^ i < 2 ^ G.tasks.length ∧ freshOk G.tasks.length l3 s = freshOk G.tasks.length (l3.drop (j + 1)) (sn ||| 2 ^ i) from ⟨Nat.or_lt_two_pow HSN.out.1 (Nat.pow_lt_pow_right (by omega) hiG), hfr2⟩)
      rw [← hi, hbit] at HHAS
      rw [← hi] at HWITH
      clear hfr2 hin hi hit hi8 hiG hbit hl8 h256
      go_wp2_with (first
       | (go_at_call 62; refine (size_calls b G _ HI.out).mono ?_; rintro e w' ⟨rfl, rfl⟩)
       | (go_at_call 64; refine (HWI.out _).mono ?_; rintro e w8 ⟨rfl, hB8⟩; have HCN8 := Aside0.mk (HCN.out.move hB8); have HI8 := Aside0.mk (HI.out.move hB8); have HB8 := Aside0.mk (below_step HB.out hB8); clear hB8 hxl)
       | (go_at_call 65; refine (HHAS.out _).mono ?_; rintro e w' ⟨rfl, rfl⟩)
       | (go_at_call 66; refine (HWITH.out _).mono ?_; rintro e w' ⟨rfl, rfl⟩))
      go_roundg (l3.length - (j + 1))
      case measure => have h1 := HJ.out.1; have h2 := HLT.out; omega
      case rel => exact ⟨j + 1, _, sn ||| 2 ^ i, rfl, rfl, ⟨by have h2 := HLT.out; omega, by have h1 := HJ.out.2; have h2 := HL30.out; have h3 := HLT.out; unfold wrap64; omega⟩, ⟨HFR.out⟩, ⟨HCN8.out⟩, ⟨HI8.out⟩, ⟨HB8.out⟩⟩
    ·have HWI := Aside0.mk (fun W => within_is y 0 ((G.tasks.length : Int) - 1) false W (decide_eq_false hin))
     rw [if_neg (fun h => hin h.1)] at hfr2
     have hr0 : res = [] := by rw [HRES.out, hfr2, if_neg (fun h => by cases h)]
     have HR := Aside0.mk hr0
     clear hfr2 hin hr0 hl8 h256
     go_wp2_with (first
      | (go_at_call 62; refine (size_calls b G _ HI.out).mono ?_; rintro e w' ⟨rfl, rfl⟩)
      | (go_at_call 64; refine (HWI.out _).mono ?_; rintro e w8 ⟨rfl, hB8⟩; have HB8 := Aside0.mk (below_step HB.out hB8); clear hB8))
     go_ret
     exact ⟨_, rfl, by rw [HR.out]; exact Kd.R_nil _ _ _ _ _, HB8.out⟩
   ·have hx := HJ.out.2
    have hd : decide (x < (l3.length : Int)) = false := decide_eq_false (by omega)
    have hfr := HSN.out.2
    rw [List.drop_eq_nil_of_le (by omega)] at hfr
    have hfr1 : freshOk G.tasks.length l3 s = true := hfr
    have hr1 : res = admGo G.tasks l1 a4 l3 cs [] := by rw [HRES.out, if_pos hfr1]
    have hln := HFN.out hfr1
    have hzb := HZB.out
    have HRR := Aside0.mk hr1
    have HA := Aside0.mk (HADM.out b cs wr HI.out (Kd.C_below HR1.out HB.out) (Kd.C_below HR3.out HB.out) (HFL.out hfr1) (by omega))
    have hc0 := HCN.out.cell0
    have hc1 := HCN.out.cell1
    have hc2 := HCN.out.cell2
    have hc3 := HCN.out.cell3
    clear hx hlt hfr hfr1 hr1 hln hzb
    go_wp2_with (go_at_call 67; refine HA.out.mono ?_; rintro e w8 ⟨v8, rfl, hR8, hB8⟩)
    go_ret
    exact ⟨_, rfl, by rw [HRR.out]; exact Kd.R_mono (Kd.R_lower hR8 HB.out.size) (fun _ _ => trivial), below_step HB.out hB8⟩
end Go.Proofs.YtpibdjkajgfgjaaDoor.P
end
section
set_option linter.unusedVariables false
set_option linter.unusedSimpArgs false
namespace Go.Proofs.YtpibdjkajgfgjaaDoor.Core
open Go Go.RowKit Go.Proofs.YtpibdjkajgfgjaaDoorW.PrintWords Go.Proofs.YtpibdjkajgfgjaaDoorW.PrintMore Go.Proofs.YtpibdjkajgfgjaaDoor.P
/-- How many units of a pool tasks take. -/
def usedN (g : List Tk) (p : Int) : List Nat → Int
 | [] => 0
 | i :: r => (if (g.getD i z48).f2 = p then (g.getD i z48).f3 else 0) + usedN g p r
def UOk (g : List Tk) (L : List Nat) : Prop := ∀ i ∈ L, 1 ≤ (g.getD i z48).f3 ∧ (g.getD i z48).f3 ≤ 4
theorem usedN_bd {g : List Tk} {p : Int} : ∀ {L : List Nat}, UOk g L → 0 ≤ usedN g p L ∧ usedN g p L ≤ 4 * L.length
 | [], _ => by simp [usedN]
 | i :: r, h => by
  have ih := usedN_bd (p := p) (L := r) (fun j hj => h j (List.mem_cons_of_mem _ hj))
  have hi := h i List.mem_cons_self
  simp only [usedN, List.length_cons]
  split <;> omega
theorem count_fold (g : List Tk) : ∀ (L : List Nat) (c : Cn), UOk g L → L.length ≤ 100 → 0 ≤ c.u0 → c.u0 ≤ 1000 → 0 ≤ c.u1 → c.u1 ≤ 1000 → 0 ≤ c.u2 → c.u2 ≤ 1000 → c.u0 + 4 * L.length ≤ 1000 → c.u1 + 4 * L.length ≤ 1000 → c.u2 + 4 * L.length ≤ 1000 →
  (L.foldl (cstep g) c).u0 = c.u0 + usedN g 0 L ∧ (L.foldl (cstep g) c).u1 = c.u1 + usedN g 1 L ∧ (L.foldl (cstep g) c).u2 = c.u2 + usedN g 2 L
 | [], c, _, _, _, _, _, _, _, _, _, _, _ => by simp [usedN]
 | i :: r, c, h, hl, a0, b0, a1, b1, a2, b2, d0, d1, d2 => by
  have hi := h i List.mem_cons_self
  rw [List.foldl_cons]
  simp only [List.length_cons] at hl d0 d1 d2
  have e0 : (cstep g c i).u0 = c.u0 + (if (g.getD i z48).f2 = 0 then (g.getD i z48).f3 else 0) := by
   simp only [cstep, Cn.add]; split <;> (first | (rw [w64 (n := 1 * _) (by omega) (by omega), w64 (by omega) (by omega)]; omega) | omega)
  have e1 : (cstep g c i).u1 = c.u1 + (if (g.getD i z48).f2 = 1 then (g.getD i z48).f3 else 0) := by
   simp only [cstep, Cn.add]; split <;> (first | (rw [w64 (n := 1 * _) (by omega) (by omega), w64 (by omega) (by omega)]; omega) | omega)
  have e2 : (cstep g c i).u2 = c.u2 + (if (g.getD i z48).f2 = 2 then (g.getD i z48).f3 else 0) := by
   simp only [cstep, Cn.add]; split <;> (first | (rw [w64 (n := 1 * _) (by omega) (by omega), w64 (by omega) (by omega)]; omega) | omega)
  have b0' : (cstep g c i).u0 ≤ c.u0 + 4 ∧ c.u0 ≤ (cstep g c i).u0 := by rw [e0]; split <;> omega
  have b1' : (cstep g c i).u1 ≤ c.u1 + 4 ∧ c.u1 ≤ (cstep g c i).u1 := by rw [e1]; split <;> omega
  have b2' : (cstep g c i).u2 ≤ c.u2 + 4 ∧ c.u2 ≤ (cstep g c i).u2 := by rw [e2]; split <;> omega
  obtain ⟨r0, r1, r2⟩ := count_fold g r (cstep g c i) (fun j hj => h j (List.mem_cons_of_mem _ hj)) (by omega) (by omega) (by omega) (by omega) (by omega) (by omega) (by omega) (by omega) (by omega) (by omega)
  rw [r0, r1, r2, e0, e1, e2]
  simp only [usedN]
  omega
theorem countSet_used {g : List Tk} {s : Nat} (h : UOk g (elemsN s)) : (countSet g s).u0 = usedN g 0 (elemsN s) ∧ (countSet g s).u1 = usedN g 1 (elemsN s) ∧ (countSet g s).u2 = usedN g 2 (elemsN s) := by
 have hl := elemsN_length s
 obtain ⟨r0, r1, r2⟩ := count_fold g (elemsN s) Cn.zero h (by omega) (by decide) (by decide) (by decide) (by decide) (by decide) (by decide) (by simp [Cn.zero]; omega) (by simp [Cn.zero]; omega) (by simp [Cn.zero]; omega)
 unfold countSet
 rw [r0, r1, r2]
 simp [Cn.zero]
theorem ev_used {g : List Tk} (p : Int) (L0 : List Nat) (hb : L0.length ≤ 100) (hL : ∀ i ∈ L0, i < g.length) (hu : UOk g L0) : Ev (fun k => spec_used.f k g (up L0) p) (usedN g p L0) := by
 have key : ∀ (r pre : List Nat) (acc : Int), L0 = pre ++ r → 0 ≤ acc → acc + 4 * r.length ≤ 1000 → Ev (fun k => spec_used.l0 k g (up L0) p acc (pre.length : Int)) (acc + usedN g p r) := by
  intro r
  induction r with
  | nil =>
   intro pre acc hp h0 h1
   rw [List.append_nil] at hp
   subst hp
   refine Ev.succ ?_
   simp only [spec_used.l0, up_length]
   refine Ev.neg (by omega) ((Ev.const _).conv ?_)
   simp [usedN]
  | cons i r ih =>
   intro pre acc hp h0 h1
   have hi : i < g.length := hL i (by rw [hp]; simp)
   have hui := hu i (by rw [hp]; simp)
   have hlen : L0.length = pre.length + (r.length + 1) := by rw [hp]; simp
   have hrd : rd (up L0) (pre.length : Int) = (i : Int) := by
    rw [rd_up', hp]; simp
   simp only [List.length_cons] at h1
   refine Ev.succ ?_
   simp only [spec_used.l0, up_length, hrd, rdT_nat]
   rw [w64 (n := (pre.length : Int) + 1) (by omega) (by omega)]
   refine Ev.pos (by omega) (Ev.pos (by omega) (Ev.pos (by omega) (Ev.pos (by omega) ?_)))
   by_cases h : (g.getD i z48).f2 = p
   ·refine Ev.pos h ?_
    have := ih (pre ++ [i]) (acc + (g.getD i z48).f3) (by rw [hp]; simp) (by omega) (by omega)
    rw [w64 (by omega) (by omega)]
    have e : ((pre ++ [i]).length : Int) = (pre.length : Int) + 1 := by simp
    rw [e] at this
    refine this.conv ?_
    simp only [usedN, if_pos h]
    omega
   ·refine Ev.neg h ?_
    have := ih (pre ++ [i]) acc (by rw [hp]; simp) (by omega) (by omega)
    have e : ((pre ++ [i]).length : Int) = (pre.length : Int) + 1 := by simp
    rw [e] at this
    refine this.conv ?_
    simp only [usedN, if_neg h]
    omega
 exact (key L0 [] 0 rfl (by omega) (by omega)).conv (by omega)
theorem ev_validRoom {L : List Int} (hL : L.length < big) : Ev (fun k => spec_validRoom.f k L) (decide (roomOk L)) := by
 unfold spec_validRoom.f
 by_cases h : L.length = 3
 ·refine Ev.pos (by omega) (Ev.bind (ev_allIn hL 4 8) ((Ev.const _).conv ?_))
  rw [decide_eq_decide]
  exact ⟨fun x => ⟨h, x⟩, fun x => x.2⟩
 ·refine Ev.neg (by omega) ((Ev.const _).conv ?_)
  rw [eq_comm, decide_eq_false_iff_not]
  exact fun x => h x.1
theorem graphD_uok {g : List Tk} {G : GD} (h : graphD g = some G) (s : Nat) (hs : s < 2 ^ g.length) : UOk g (elemsN s) ∧ ∀ i ∈ elemsN s, i < g.length := by
 have hlt : ∀ i ∈ elemsN s, i < g.length := fun i hi => elemsN_lt hs hi
 exact ⟨fun i hi => (graphD_taskOk h _ (getD_mem (hlt i hi))).2.2, hlt⟩
end Go.Proofs.YtpibdjkajgfgjaaDoor.Core
end
section
set_option linter.unusedVariables false
set_option linter.unusedSimpArgs false
namespace Go.Proofs.YtpibdjkajgfgjaaDoor.Core
open Go Go.RowKit Go.Proofs.YtpibdjkajgfgjaaDoorW.PrintWords Go.Proofs.YtpibdjkajgfgjaaDoorW.PrintMore Go.Proofs.YtpibdjkajgfgjaaDoor.P
theorem ev_vr_no (g : List Tk) (room l : List Int) : Ev (fun k => spec_validRunning.j0 k g room l true) false := by
 refine Ev.succ ?_
 simp only [spec_validRunning.j0, if_true]
 exact Ev.const _
theorem ev_vr_loop {g : List Tk} {room : List Int} (h3 : room.length = 3) {L : List Nat} (hb : L.length ≤ 100) (hL : ∀ i ∈ L, i < g.length) (hu : UOk g L) :
  Ev (fun k => spec_validRunning.l0 k g room (up L) 0) (decide (usedN g 0 L ≤ rd room 0) && decide (usedN g 1 L ≤ rd room 1) && decide (usedN g 2 L ≤ rd room 2)) := by
 refine Ev.succ ?_
 simp only [spec_validRunning.l0]
 refine Ev.pos (by omega) (Ev.bind (ev_used 0 L hb hL hu) (Ev.pos (by omega) (Ev.pos (by omega) ?_)))
 by_cases h0 : usedN g 0 L ≤ rd room 0
 rotate_left
 ·exact Ev.pos (by omega) ((Ev.const _).conv (by rw [decide_eq_false h0]; rfl))
 refine Ev.neg (by omega) (Ev.succ ?_)
 simp only [spec_validRunning.l0, show wrap64 (0 + 1) = 1 from by unfold wrap64; omega]
 refine Ev.pos (by omega) (Ev.bind (ev_used 1 L hb hL hu) (Ev.pos (by omega) (Ev.pos (by omega) ?_)))
 by_cases h1 : usedN g 1 L ≤ rd room 1
 rotate_left
 ·exact Ev.pos (by omega) ((Ev.const _).conv (by rw [decide_eq_false h1, decide_eq_true h0]; rfl))
 refine Ev.neg (by omega) (Ev.succ ?_)
 simp only [spec_validRunning.l0, show wrap64 (1 + 1) = 2 from by unfold wrap64; omega]
 refine Ev.pos (by omega) (Ev.bind (ev_used 2 L hb hL hu) (Ev.pos (by omega) (Ev.pos (by omega) ?_)))
 by_cases h2 : usedN g 2 L ≤ rd room 2
 rotate_left
 ·exact Ev.pos (by omega) ((Ev.const _).conv (by rw [decide_eq_false h2, decide_eq_true h0, decide_eq_true h1]; rfl))
 refine Ev.neg (by omega) (Ev.succ ?_)
 simp only [spec_validRunning.l0, show wrap64 (2 + 1) = 3 from by unfold wrap64; omega]
 exact Ev.neg (by omega) ((Ev.const _).conv (by rw [decide_eq_true h2, decide_eq_true h0, decide_eq_true h1]; rfl))
theorem ev_validRunning {g : List Tk} (hg : Fits g) {room l : List Int} (hr : room.length < big) (hl : l.length < big) : Ev (fun k => spec_validRunning.f k g room l) (runsD g room l) := by
 unfold spec_validRunning.f runsD
 refine Ev.bind (ev_validGraph hg) ?_
 cases hG : graphD g with
 | none => exact Ev.neg (by simp) (ev_vr_no g room l)
 | some G =>
  refine Ev.pos rfl (Ev.bind (ev_validRoom hr) ?_)
  by_cases hroom : roomOk room
  rotate_left
  ·exact Ev.neg (by simp [hroom]) ((ev_vr_no g room l).conv (by simp [hroom]))
  refine Ev.pos (by simp [hroom]) (Ev.bind (ev_ascends hl) ?_)
  have hbig := hg.1
  rw [w64 (n := (g.length : Int) - 1) (by omega) (by unfold big at hbig; omega)]
  have h8 : g.length ≤ 8 := by have := (graphD_ok hG).n8; rw [graphD_tasks hG] at this; exact this
  have hall := ev_allIn hl 0 ((g.length : Int) - 1)
  simp only [hroom, if_true]
  rcases set_cases g.length l with ⟨s, hs, hok⟩ | ⟨hs, hok⟩
  ·rw [hs]
   refine Ev.pos hok.2 (Ev.bind hall ?_)
   rw [decide_eq_true hok.1]
   refine Ev.succ ?_
   simp only [spec_validRunning.j0, Bool.not_true, Bool.false_eq_true, if_false]
   have hlt := setD_lt hs
   obtain ⟨hu, hL⟩ := graphD_uok hG s hlt
   have he := set_list h8 hs
   have := ev_vr_loop (g := g) hroom.1 (L := elemsN s) (by have := elemsN_length s; omega) hL hu
   rw [he] at this
   refine this.conv ?_
   obtain ⟨e0, e1, e2⟩ := countSet_used hu
   simp only [fitsD, e0, e1, e2]
  ·rw [hs]
   by_cases ha : ascD l = true
   ·refine Ev.pos ha (Ev.bind hall ?_)
    rw [decide_eq_false (fun h => hok ⟨h, ha⟩)]
    exact ev_vr_no g room l
   ·exact Ev.neg ha (ev_vr_no g room l)
end Go.Proofs.YtpibdjkajgfgjaaDoor.Core
end
section
set_option linter.unusedVariables false
set_option linter.unusedSimpArgs false
namespace Go.Proofs.YtpibdjkajgfgjaaDoor.Core
open Go Go.RowKit Go.Proofs.YtpibdjkajgfgjaaDoorW.PrintWords Go.Proofs.YtpibdjkajgfgjaaDoorW.PrintMore Go.Proofs.YtpibdjkajgfgjaaDoor.P
theorem usedN_snoc (g : List Tk) (p : Int) (i : Nat) : ∀ L : List Nat, usedN g p (L ++ [i]) = usedN g p L + (if (g.getD i z48).f2 = p then (g.getD i z48).f3 else 0)
 | [] => by simp [usedN]
 | j :: L => by
  rw [List.cons_append, usedN, usedN_snoc g p i L, usedN]
  omega
/-- A counter that tells what runs. -/
structure Good (g : List Tk) (c : Cn) (now : List Nat) : Prop where
 t : c.t = (now.length : Int)
 u0 : c.u0 = usedN g 0 now
 u1 : c.u1 = usedN g 1 now
 u2 : c.u2 = usedN g 2 now
theorem Good.u {g : List Tk} {c : Cn} {now : List Nat} (h : Good g c now) {p : Int} (hp : 0 ≤ p ∧ p ≤ 2) : c.u p = usedN g p now := by
 unfold Cn.u
 by_cases h0 : p = 0
 ·subst h0; exact h.u0
 ·by_cases h1 : p = 1
  ·subst h1; exact h.u1
  ·obtain rfl : p = 2 := by omega
   exact h.u2
theorem Good.add {g : List Tk} {c : Cn} {now : List Nat} {i : Nat} (h : Good g c now) (hu : UOk g now) (hi : 1 ≤ (g.getD i z48).f3 ∧ (g.getD i z48).f3 ≤ 4) (hl : now.length ≤ 100) : Good g (c.add (g.getD i z48).f2 (g.getD i z48).f3 1) (now ++ [i]) := by
 have b0 := usedN_bd (p := 0) hu
 have b1 := usedN_bd (p := 1) hu
 have b2 := usedN_bd (p := 2) hu
 have h0 := h.u0
 have h1 := h.u1
 have h2 := h.u2
 refine ⟨?_, ?_, ?_, ?_⟩
 ·simp only [Cn.add]
  rw [h.t, w64 (by omega) (by omega), List.length_append, List.length_singleton]
  omega
 ·rw [usedN_snoc]; simp only [Cn.add]; split <;> (first | (rw [w64 (n := 1 * _) (by omega) (by omega), w64 (by omega) (by omega)]; omega) | omega)
 ·rw [usedN_snoc]; simp only [Cn.add]; split <;> (first | (rw [w64 (n := 1 * _) (by omega) (by omega), w64 (by omega) (by omega)]; omega) | omega)
 ·rw [usedN_snoc]; simp only [Cn.add]; split <;> (first | (rw [w64 (n := 1 * _) (by omega) (by omega), w64 (by omega) (by omega)]; omega) | omega)
theorem count_t (g : List Tk) : ∀ (L : List Nat) (c : Cn), 0 ≤ c.t → c.t + L.length ≤ 1000 → (L.foldl (cstep g) c).t = c.t + L.length
 | [], c, _, _ => by simp
 | i :: r, c, h0, h1 => by
  simp only [List.length_cons] at h1
  have e : (cstep g c i).t = c.t + 1 := by simp only [cstep, Cn.add]; rw [w64 (by omega) (by omega)]
  rw [List.foldl_cons, count_t g r (cstep g c i) (by omega) (by omega), e, List.length_cons]
  omega
theorem good_set {g : List Tk} {s : Nat} (h : UOk g (elemsN s)) : Good g (countSet g s) (elemsN s) := by
 obtain ⟨r0, r1, r2⟩ := countSet_used h
 have hl := elemsN_length s
 refine ⟨?_, r0, r1, r2⟩
 unfold countSet
 rw [count_t g _ _ (by decide) (by simp [Cn.zero]; omega)]
 simp [Cn.zero]
theorem admGo_full {g : List Tk} {room : List Int} {wk : Int} : ∀ (r : List Int) (c : Cn) (out : List Int), ¬ c.t < wk → admGo g room wk r c out = out
 | [], _, _, _ => rfl
 | x :: r, c, out, h => by
  have e : takesI g c x room wk = false := by unfold takesI takesB; rw [decide_eq_false h, Bool.false_and]
  unfold admGo
  rw [e]
  exact admGo_full r c out h
/-- What is known of a graph's tasks. -/
def PoolOk (g : List Tk) : Prop := ∀ i, i < g.length → (0 ≤ (g.getD i z48).f2 ∧ (g.getD i z48).f2 ≤ 2) ∧ 1 ≤ (g.getD i z48).f3 ∧ (g.getD i z48).f3 ≤ 4
theorem pool_ok {g : List Tk} {G : GD} (hG : graphD g = some G) : PoolOk g := fun i hi => by
 have hm := getD_mem (g := g) hi
 have hp := graphD_pool hG _ (by rw [graphD_tasks hG]; exact hm)
 have ht := graphD_taskOk hG _ hm
 refine ⟨hp, ?_⟩
 unfold taskOk at ht
 omega
theorem ev_adm {g : List Tk} {room l : List Int} {wk : Int} (hpo : PoolOk g) (h3 : room.length = 3) (hl : ∀ x ∈ l, 0 ≤ x ∧ x < (g.length : Int)) (hl8 : l.length ≤ 20) : ∀ (r pre out : List Int) (now : List Nat) (c : Cn), l = pre ++ r → Good g c now → (∀ i ∈ now, i < g.length) → now.length ≤ 8 + pre.length → out.length ≤ pre.length →
  Ev (fun k => spec_admit.l0 k g room l wk out (up now) (pre.length : Int)) (admGo g room wk r c out)
 | [], pre, out, now, c, hp, hg, hn, hb, ho => by
  rw [List.append_nil] at hp
  refine Ev.succ ?_
  simp only [spec_admit.l0]
  refine Ev.neg (by rw [hp]; omega) (Ev.succ ?_)
  simp only [spec_admit.j1]
  exact Ev.neg (by simp) (Ev.const _)
 | x :: r, pre, out, now, c, hp, hg, hn, hb, ho => by
  have hlen : l.length = pre.length + (r.length + 1) := by rw [hp]; simp
  have hrd : rd l (pre.length : Int) = x := by unfold rd; rw [Int.toNat_natCast, hp]; simp
  have hx := hl x (by rw [hp]; simp)
  obtain ⟨i, rfl⟩ := Int.eq_ofNat_of_zero_le hx.1
  have hi : i < g.length := by omega
  obtain ⟨hp2, hp3⟩ := hpo i hi
  have hu : UOk g now := fun j hj => (hpo j (hn j hj)).2
  have hw : wrap64 ((pre.length : Int) + 1) = ((pre ++ [(i : Int)]).length : Int) := by rw [w64s (by unfold big; omega)]; simp
  have hti : takesI g c (i : Int) room wk = takesB c (g.getD i z48).f2 (g.getD i z48).f3 room wk := rfl
  refine Ev.succ ?_
  simp only [spec_admit.l0]
  refine Ev.pos (by omega) ?_
  rw [up_length]
  by_cases hw4 : (now.length : Int) < wk
  ·rw [decide_eq_true hw4]
   have hcu := hg.u hp2
   have hus := ev_used (g := g) (g.getD i z48).f2 now (by omega) hn hu
   have hbd := usedN_bd (p := (g.getD i z48).f2) hu
   refine Ev.succ ?_
   simp only [spec_admit.j1, hrd, rdT_nat, hw]
   refine Ev.pos (by first | rfl | trivial) (Ev.pos (by omega) (Ev.pos (by omega) (Ev.pos (by omega) (Ev.pos (by omega) (Ev.bind hus (Ev.pos hp2.1 (Ev.pos (by omega) ?_)))))))
   by_cases hf : wrap64 (usedN g (g.getD i z48).f2 now + (g.getD i z48).f3) ≤ rd room (g.getD i z48).f2
   ·have e : takesI g c (i : Int) room wk = true := by rw [hti]; unfold takesB; rw [hcu, hg.t, decide_eq_true hw4, decide_eq_true hf]; rfl
    have ih := ev_adm (wk := wk) hpo h3 hl hl8 r (pre ++ [(i : Int)]) (out ++ [(i : Int)]) (now ++ [i]) (c.add (g.getD i z48).f2 (g.getD i z48).f3 1) (by rw [hp]; simp) (hg.add hu hp3 (by omega)) (fun j hj => by
     rcases List.mem_append.1 hj with hj | hj
     ·exact hn j hj
     ·rw [List.mem_singleton.1 hj]; exact hi) (by simp only [List.length_append, List.length_singleton]; omega) (by simp only [List.length_append, List.length_singleton]; omega)
    have e3 : up (now ++ [i]) = up now ++ [(i : Int)] := by simp [up]
    rw [e3] at ih
    have e4 : admGo g room wk ((i : Int) :: r) c out = admGo g room wk r (c.add (g.getD i z48).f2 (g.getD i z48).f3 1) (out ++ [(i : Int)]) := by
     show admGo g room wk r (afterI g c (i : Int) (takesI g c (i : Int) room wk)) (putIf out (i : Int) (takesI g c (i : Int) room wk)) = _
     rw [e]; rfl
    rw [e4]
    exact Ev.pos hf (Ev.pos (by omega) (Ev.pos (by rw [up_length]; omega) ih))
   ·have e : takesI g c (i : Int) room wk = false := by rw [hti]; unfold takesB; rw [hcu, hg.t, decide_eq_true hw4, decide_eq_false hf]; rfl
    have ih := ev_adm (wk := wk) hpo h3 hl hl8 r (pre ++ [(i : Int)]) out now c (by rw [hp]; simp) hg hn (by rw [List.length_append, List.length_singleton]; omega) (by rw [List.length_append, List.length_singleton]; omega)
    have e4 : admGo g room wk ((i : Int) :: r) c out = admGo g room wk r c out := by
     show admGo g room wk r (afterI g c (i : Int) (takesI g c (i : Int) room wk)) (putIf out (i : Int) (takesI g c (i : Int) room wk)) = _
     rw [e]; rfl
    rw [e4]
    exact Ev.neg hf ih
  ·rw [decide_eq_false hw4, admGo_full _ c out (by rw [hg.t]; exact hw4)]
   refine Ev.succ ?_
   simp only [spec_admit.j1]
   exact Ev.neg (by simp) (Ev.const _)
theorem ev_fresh {g : List Tk} {room l2 l : List Int} {wk : Int} (hl2 : l2.length < big) (hlb : l.length < big) (hl : ∀ x ∈ l, 0 ≤ x ∧ x ≤ (g.length : Int) - 1) {R : List Int} : ∀ (r pre : List Int) (s : Nat), l = pre ++ r → (∀ i : Nat, s.testBit i = decide ((i : Int) ∈ l2 ∨ (i : Int) ∈ pre)) → (freshOk g.length r s = true → Ev (fun k => spec_admit.f k g room l2 l wk) R) →
  Ev (fun k => spec_AdmitTasks.l0 k g room l2 l wk (pre.length : Int)) (if freshOk g.length r s = true then R else [])
 | [], pre, s, hp, hs, hR => by
  rw [List.append_nil] at hp
  refine Ev.succ ?_
  simp only [spec_AdmitTasks.l0]
  rw [if_pos (show freshOk g.length [] s = true from rfl)]
  exact Ev.neg (by rw [hp]; omega) (Ev.bind (hR rfl) (Ev.const _))
 | x :: r, pre, s, hp, hs, hR => by
  have hlen : l.length = pre.length + (r.length + 1) := by rw [hp]; simp
  have hrd : rd l (pre.length : Int) = x := by unfold rd; rw [Int.toNat_natCast, hp]; simp
  have hx := hl x (by rw [hp]; simp)
  have hw : wrap64 ((pre.length : Int) + 1) = ((pre ++ [x]).length : Int) := by rw [w64s (by omega)]; simp
  have htk : l.take ((pre.length : Int)).toNat = pre := by rw [Int.toNat_natCast, hp]; simp
  have h1 := ev_isIn (L := l2) hl2 x
  have h2 := ev_isIn (L := pre) (by omega) x
  obtain ⟨i, rfl⟩ := Int.eq_ofNat_of_zero_le hx.1
  have hbit := hs i
  have hf : freshOk g.length ((i : Int) :: r) s = if (0 ≤ (i : Int) ∧ (i : Int) ≤ (g.length : Int) - 1) ∧ s.testBit i = false then freshOk g.length r (s ||| 2 ^ i) else false := rfl
  have hff : s.testBit i = true → freshOk g.length ((i : Int) :: r) s = false := fun hb => by
   rw [hf]
   exact if_neg (fun h => by rw [hb] at h; cases h.2)
  refine Ev.succ ?_
  simp only [spec_AdmitTasks.l0, hrd, hw, htk]
  refine Ev.pos (by omega) (Ev.pos (by omega) (Ev.bind h1 ?_))
  by_cases hm : (i : Int) ∈ l2
  ·rw [hff (by rw [hbit]; exact decide_eq_true (.inl hm)), if_neg Bool.false_ne_true]
   exact Ev.pos (decide_eq_true hm) (Ev.const _)
  ·refine Ev.neg (by rw [decide_eq_true_eq]; exact hm) (Ev.pos (by omega) (Ev.bind h2 ?_))
   by_cases hm2 : (i : Int) ∈ pre
   ·rw [hff (by rw [hbit]; exact decide_eq_true (.inr hm2)), if_neg Bool.false_ne_true]
    exact Ev.pos (decide_eq_true hm2) (Ev.const _)
   ·have hb0 : s.testBit i = false := by rw [hbit]; exact decide_eq_false (fun h => h.elim hm hm2)
    have hf2 : freshOk g.length ((i : Int) :: r) s = freshOk g.length r (s ||| 2 ^ i) := by rw [hf, if_pos ⟨hx, hb0⟩]
    have ih := ev_fresh (wk := wk) (room := room) (R := R) hl2 hlb hl r (pre ++ [(i : Int)]) (s ||| 2 ^ i) (by rw [hp]; simp) (fun j => by
     rw [or_bit, hs j, Bool.eq_iff_iff, Bool.or_eq_true, decide_eq_true_eq, decide_eq_true_eq, decide_eq_true_eq, List.mem_append, List.mem_singleton, or_assoc]
     constructor
     ·rintro (h | h | h)
      ·exact .inl h
      ·exact .inr (.inl h)
      ·exact .inr (.inr (by omega))
     ·rintro (h | h | h)
      ·exact .inl h
      ·exact .inr (.inl h)
      ·exact .inr (.inr (by omega))) (fun h => hR (by rw [hf2]; exact h))
    rw [hf2]
    exact Ev.neg (by rw [decide_eq_true_eq]; exact hm2) ih
theorem ev_AdmitTasks' {g : List Tk} (hf : Fits g) {room running list : List Int} {wk : Int} (hr : room.length < big) (hu : running.length < big) (hl : list.length < big) : Ev (fun k => spec_AdmitTasks.f k g room running list wk) (admitD g room running list wk) := by
 have hno : Ev (fun k => spec_AdmitTasks.j0 k g room running list wk true) [] := by
  refine Ev.succ ?_
  simp only [spec_AdmitTasks.j0]
  exact Ev.pos (by first | rfl | trivial) (Ev.const _)
 unfold spec_AdmitTasks.f
 refine Ev.bind (ev_validRunning hf hr hu) ?_
 cases hrun : runsD g room running with
 | false =>
  have hcd : admitD g room running list wk = [] := by unfold admitD; rw [hrun, if_neg (fun h => by cases h.2)]
  rw [hcd]
  exact Ev.neg (by simp) hno
 | true =>
  refine Ev.pos (by first | rfl | trivial) ?_
  simp only [inRange_eq, Option.bind_some]
  by_cases hw : 1 ≤ wk ∧ wk ≤ 4
  ·obtain ⟨G, s, hG, hroom, hs, hfit⟩ := runsD_some hrun
   have v := vg_of hG
   have h8 := v.n8
   have hcd : admitD g room running list wk = if freshOk g.length list s = true then admGo g room wk list (countSet g s) [] else [] := by unfold admitD; rw [if_pos ⟨hw, hrun⟩, hs]
   rw [hcd]
   refine Ev.pos (decide_eq_true hw) ?_
   rw [w64 (n := (g.length : Int) - 1) (by omega) (by omega)]
   refine Ev.bind (ev_allIn hl 0 ((g.length : Int) - 1)) ?_
   by_cases ha : ∀ x ∈ list, 0 ≤ x ∧ x ≤ (g.length : Int) - 1
   ·rw [decide_eq_true ha]
    refine Ev.succ ?_
    simp only [spec_AdmitTasks.j0]
    have hsb := (setD_some hs).2
    have hrl : running = up (elemsN s) := (set_list h8 hs).symm
    obtain ⟨huo, hus⟩ := graphD_uok hG s (setD_lt hs)
    have hel := elemsN_length s
    refine Ev.neg (by simp) (ev_fresh hu hl ha list [] s rfl (fun i => by rw [hsb]; simp) (fun hfr => ?_))
    have hl8 := fresh_len list s hfr
    have hzb : zb g.length s ≤ 8 := Nat.le_trans (by rw [zb_count]; have := List.length_filter_le (fun i => !s.testBit i) (List.range g.length); rw [List.length_range] at this; exact this) h8
    unfold spec_admit.f
    rw [copyInts_eq hu (by rw [hrl, up_length]; omega)]
    simp only [Option.bind_some]
    rw [hrl]
    exact ev_adm (pool_ok hG) hroom.1 (fresh_mem list s hfr) (by omega) list [] [] (elemsN s) (countSet g s) rfl (good_set huo) hus (by simp; omega) (Nat.le_refl _)
   ·have hff : freshOk g.length list s ≠ true := fun h => ha fun x hx => by have := fresh_mem list s h x hx; omega
    rw [decide_eq_false ha, if_neg hff]
    exact hno
  ·have hcd : admitD g room running list wk = [] := by unfold admitD; rw [if_neg (fun h => hw h.1)]
   rw [hcd]
   exact Ev.neg (by rw [decide_eq_true_eq]; exact hw) hno
theorem ev_AdmitTasks {g : List Tk} (hf : Fits g) {room running list : List Int} {wk : Int} (hr : room.length < big) (hu : running.length < big) (hl : list.length < big) (_ : (Lit.int .i64 wk).wf = true) : Ev (fun k => spec_AdmitTasks.f k g room running list wk) (admitD g room running list wk) := ev_AdmitTasks' hf hr hu hl
theorem admGo_len {g : List Tk} {room : List Int} {wk : Int} : ∀ (r : List Int) (c : Cn) (out : List Int), (admGo g room wk r c out).length ≤ out.length + r.length
 | [], _, _ => Nat.le_refl _
 | x :: r, c, out => by
  unfold admGo
  have ih := admGo_len (g := g) (room := room) (wk := wk) r (afterI g c x (takesI g c x room wk)) (putIf out x (takesI g c x room wk))
  have hp : (putIf out x (takesI g c x room wk)).length ≤ out.length + 1 := by
   cases takesI g c x room wk <;> simp [putIf]
  rw [List.length_cons]
  omega
theorem admitD_length (g : List Tk) (room running list : List Int) (wk : Int) : (admitD g room running list wk).length ≤ 8 := by
 unfold admitD
 split
 ·rename_i h
  obtain ⟨G, s, hG, hroom, hs, hfit⟩ := runsD_some h.2
  rw [hs]
  simp only []
  split
  ·rename_i hf
   have h1 := admGo_len (g := g) (room := room) (wk := wk) list (countSet g s) []
   have h2 := fresh_len list s hf
   have h8 := (vg_of hG).n8
   have hzb : zb g.length s ≤ 8 := Nat.le_trans (by rw [zb_count]; have := List.length_filter_le (fun i => !s.testBit i) (List.range g.length); rw [List.length_range] at this; exact this) h8
   simp only [List.length_nil] at h1
   omega
  ·simp
 ·simp
end Go.Proofs.YtpibdjkajgfgjaaDoor.Core
end
section
set_option linter.unusedVariables false
set_option linter.unusedSimpArgs false
namespace Go.Proofs.YtpibdjkajgfgjaaDoor.P
open Go Go.RowKit Go.Shelf Go.Proofs.YtpibdjkajgfgjaaDoorW.PrintWords Go.Proofs.YtpibdjkajgfgjaaDoorW.PrintLast Go.Proofs.YtpibdjkajgfgjaaDoorW.PrintMore Go.Proofs.YtpibdjkajgfgjaaDoor.Core
/-- What the walk takes: the functions' results. -/
structure laws_FnExactAdmitTasks.Facts (k : Nat) (l0 : List S58) (l1 : List Int) (l2 : List Int) (l3 : List Int) (a4 : Int) : Prop where
 out : ∃ (y0 : List S48) (y1 : List Int) (y2 : List Int) (y3 : List Int) (R R' : List Int) (M : Int), laws_toTaskS.f k l0 = some y0 ∧ laws_toIntS.f k l1 = some y1 ∧ laws_toIntS.f k l2 = some y2 ∧ laws_toIntS.f k l3 = some y3 ∧ spec_AdmitTasks.f k y0 y1 y2 y3 a4 = some R ∧ impl_AdmitTasks.f y0 y1 y2 y3 a4 = some R ∧ laws_eqIntS.f k R R = some true ∧ laws_eqTaskS.f k y0 y0 = some true ∧ laws_eqIntS.f k y1 y1 = some true ∧ laws_eqIntS.f k y2 y2 = some true ∧ laws_eqIntS.f k y3 y3 = some true ∧ laws_markIntS.f k R 1 = some (M, R') ∧ laws_heldIntS.f k R' 1 = some M ∧ 0 ≤ M ∧ 0 ≤ upI y3.length (upI y2.length (upI y1.length (mkT y0 (1) y0.length)))
open Classical in
noncomputable def laws_FnExactAdmitTasks.f (k : Nat) (l0 : List S58) (l1 : List Int) (l2 : List Int) (l3 : List Int) (a4 : Int) : Option Bool := if (l1.length : Int) > 1048576 then some true else (if (l2.length : Int) > 1048576 then some true else (if (l3.length : Int) > 1048576 then some true else ((laws_szTaskS.f k l0 1048576).bind fun left => if left < 0 then some true else (if laws_FnExactAdmitTasks.Facts k l0 l1 l2 l3 a4 then some true else none))))
set_option maxRecDepth 100000 in
set_option maxHeartbeats 2000000 in
theorem laws_FnExactAdmitTasks.calls (k : Nat) (A0 : Option Addr) (c0 : Nat) (l0 : List S58) (A1 : Option Addr) (c1 : Nat) (l1 : List Int) (A2 : Option Addr) (c2 : Nat) (l2 : List Int) (A3 : Option Addr) (c3 : Nat) (l3 : List Int) (a4 : Int) (r : Bool) (w : World) (hr0 : Kd.C k58 w A0 l0.length l0) (hc0 : l0.length ≤ c0) (hr1 : Kd.C (Kd.int .i64) w A1 l1.length l1) (hc1 : l1.length ≤ c1) (hr2 : Kd.C (Kd.int .i64) w A2 l2.length l2) (hc2 : l2.length ≤ c2) (hr3 : Kd.C (Kd.int .i64) w A3 l3.length l3) (hc3 : l3.length ≤ c3) (hT : Tab w) (h : laws_FnExactAdmitTasks.f k l0 l1 l2 l3 a4 = some r) :
  Calls Tryd.prog 3 #[.slice A0 l0.length c0, .slice A1 l1.length c1, .slice A2 l2.length c2, .slice A3 l3.length c3, .int .i64 a4] w fun e w' => e = .returned (.bool r) ∧ Below w.heap.size w w' := by
 have HR0 := Aside0.mk hr0
 have HC0 := Aside0.mk hc0
 have HR1 := Aside0.mk hr1
 have HC1 := Aside0.mk hc1
 have HR2 := Aside0.mk hr2
 have HC2 := Aside0.mk hc2
 have HR3 := Aside0.mk hr3
 have HC3 := Aside0.mk hc3
 have HT := Aside0.mk hT
 have HB := Aside0.mk (Below.refl w.heap.size w)
 clear hT hr0 hc0 hr1 hc1 hr2 hc2 hr3 hc3
 unfold laws_FnExactAdmitTasks.f at h
 by_cases b1 : (l1.length : Int) > 1048576
 ·rw [if_pos b1] at h
  obtain rfl := Option.some.inj h
  have d1 : decide (1048576 < (l1.length : Int)) = true := decide_eq_true b1
  have d2 : decide (1048576 < l1.length) = true := decide_eq_true (by omega)
  clear h b1
  go_enter Tryd.func3, Tryd.ntmps3
  go_wp2
  go_ret
  exact ⟨rfl, HB.out⟩
 rw [if_neg b1] at h
 have d1_1 : decide (1048576 < (l1.length : Int)) = false := decide_eq_false b1
 have d1_2 : decide (1048576 < l1.length) = false := decide_eq_false (by omega)
 clear b1
 by_cases b2 : (l2.length : Int) > 1048576
 ·rw [if_pos b2] at h
  obtain rfl := Option.some.inj h
  have d1 : decide (1048576 < (l2.length : Int)) = true := decide_eq_true b2
  have d2 : decide (1048576 < l2.length) = true := decide_eq_true (by omega)
  clear h b2
  go_enter Tryd.func3, Tryd.ntmps3
  go_wp2
  go_ret
  exact ⟨rfl, HB.out⟩
 rw [if_neg b2] at h
 have d2_1 : decide (1048576 < (l2.length : Int)) = false := decide_eq_false b2
 have d2_2 : decide (1048576 < l2.length) = false := decide_eq_false (by omega)
 clear b2
 by_cases b3 : (l3.length : Int) > 1048576
 ·rw [if_pos b3] at h
  obtain rfl := Option.some.inj h
  have d1 : decide (1048576 < (l3.length : Int)) = true := decide_eq_true b3
  have d2 : decide (1048576 < l3.length) = true := decide_eq_true (by omega)
  clear h b3
  go_enter Tryd.func3, Tryd.ntmps3
  go_wp2
  go_ret
  exact ⟨rfl, HB.out⟩
 rw [if_neg b3] at h
 have d3_1 : decide (1048576 < (l3.length : Int)) = false := decide_eq_false b3
 have d3_2 : decide (1048576 < l3.length) = false := decide_eq_false (by omega)
 clear b3
 obtain ⟨left, hl, h⟩ := Option.bind_eq_some_iff.mp h
 have FZ := Aside0.mk hl
 clear hl
 by_cases bl : left < 0
 ·rw [if_pos bl] at h
  obtain rfl := Option.some.inj h
  have d1 : decide (left < 0) = true := decide_eq_true bl
  clear h bl
  go_enter Tryd.func3, Tryd.ntmps3
  have g1 := Aside0.mk trivial
  go_wp2_with (go_at_call 15; clear g1; refine (laws_szTaskS.calls (hr0 := HR0.out) (hc0 := HC0.out) (h := FZ.out)).mono ?_; rintro e w1 ⟨rfl, hb⟩; replace HB := Aside0.mk hb; clear hb)
  go_ret
  exact ⟨rfl, HB.out⟩
 rw [if_neg bl] at h
 have dl : decide (left < 0) = false := decide_eq_false bl
 clear bl
 have hF := Core.of_if_some h
 obtain rfl := hF.2
 have hF := hF.1
 clear h
 obtain ⟨y0, y1, y2, y3, R, R', M, f0, f1, f2, f3, fs, fi, er, e0, e1, e2, e3, fm, fh, hM, fk⟩ := hF.out
 have F0 := Aside0.mk f0
 have F1 := Aside0.mk f1
 have F2 := Aside0.mk f2
 have F3 := Aside0.mk f3
 have FS := Aside0.mk fs
 have FI := Aside0.mk fi
 have ER := Aside0.mk er
 have E0 := Aside0.mk e0
 have E1 := Aside0.mk e1
 have E2 := Aside0.mk e2
 have E3 := Aside0.mk e3
 have FM := Aside0.mk fm
 have FH := Aside0.mk fh
 have FK := Aside0.mk fk
 have dM : decide (M < 0) = false := decide_eq_false (Int.not_lt.2 hM)
 clear hF f0 f1 f2 f3 fs fi er e0 e1 e2 e3 fm fh hM fk
 go_enter Tryd.func3, Tryd.ntmps3
 have g2 := Aside0.mk trivial
 go_wp2_with (go_at_call 15; clear g2; refine (laws_szTaskS.calls (hr0 := HR0.out) (hc0 := HC0.out) (h := FZ.out)).mono ?_; rintro e w1 ⟨rfl, hb⟩; have z1 := Aside0.mk (hb).size; replace HB := Aside0.mk (below_step HB.out hb); clear hb)
 have g3 := Aside0.mk trivial
 go_wp2_with (go_at_call 17; clear g3; refine (laws_toTaskS.calls (hr0 := Kd.C_below HR0.out HB.out) (hc0 := HC0.out) (h := F0.out)).mono ?_; rintro e w2 ⟨v_w0_aG, rfl, ho, hb⟩; have z2 := Aside0.mk (hb).size; replace HB := Aside0.mk (below_step HB.out hb); have H_w0_aG := Aside0.mk (Kd.R_mono (Kd.R_bound (Kd.S_R ho)) (fun k_ hk_ => hk_.2.2.1) : Kd.R k48 48 w2 w1.heap.size (fun k_ => k_ < w2.heap.size) v_w0_aG _); obtain ⟨A_w0_aG, c_w0_aG, e_w0_aG⟩ := Kd.R_slice H_w0_aG.out; subst e_w0_aG; clear ho hb)
 have g4 := Aside0.mk trivial
 go_wp2_with (go_at_call 18; clear g4; refine (laws_toIntS.calls (hr0 := Kd.C_below HR1.out HB.out) (hc0 := HC1.out) (h := F1.out)).mono ?_; rintro e w3 ⟨v_w0_aRoom, rfl, ho, hb⟩; have z3 := Aside0.mk (hb).size; replace HB := Aside0.mk (below_step HB.out hb); replace H_w0_aG := Aside0.mk (Kd.R_below H_w0_aG.out hb); have H_w0_aRoom := Aside0.mk (Kd.R_mono (Kd.R_bound ho) (fun k_ hk_ => hk_.2.2.1) : Kd.R (Kd.int .i64) 3 w3 w2.heap.size (fun k_ => k_ < w3.heap.size) v_w0_aRoom _); obtain ⟨A_w0_aRoom, c_w0_aRoom, e_w0_aRoom⟩ := Kd.R_slice H_w0_aRoom.out; subst e_w0_aRoom; clear ho hb)
 have g5 := Aside0.mk trivial
 go_wp2_with (go_at_call 18; clear g5; refine (laws_toIntS.calls (hr0 := Kd.C_below HR2.out HB.out) (hc0 := HC2.out) (h := F2.out)).mono ?_; rintro e w4 ⟨v_w0_aRunning, rfl, ho, hb⟩; have z4 := Aside0.mk (hb).size; replace HB := Aside0.mk (below_step HB.out hb); replace H_w0_aG := Aside0.mk (Kd.R_below H_w0_aG.out hb); replace H_w0_aRoom := Aside0.mk (Kd.R_below H_w0_aRoom.out hb); have H_w0_aRunning := Aside0.mk (Kd.R_mono (Kd.R_bound ho) (fun k_ hk_ => hk_.2.2.1) : Kd.R (Kd.int .i64) 3 w4 w3.heap.size (fun k_ => k_ < w4.heap.size) v_w0_aRunning _); obtain ⟨A_w0_aRunning, c_w0_aRunning, e_w0_aRunning⟩ := Kd.R_slice H_w0_aRunning.out; subst e_w0_aRunning; clear ho hb)
 have g6 := Aside0.mk trivial
 go_wp2_with (go_at_call 18; clear g6; refine (laws_toIntS.calls (hr0 := Kd.C_below HR3.out HB.out) (hc0 := HC3.out) (h := F3.out)).mono ?_; rintro e w5 ⟨v_w0_aList, rfl, ho, hb⟩; have z5 := Aside0.mk (hb).size; replace HB := Aside0.mk (below_step HB.out hb); replace H_w0_aG := Aside0.mk (Kd.R_below H_w0_aG.out hb); replace H_w0_aRoom := Aside0.mk (Kd.R_below H_w0_aRoom.out hb); replace H_w0_aRunning := Aside0.mk (Kd.R_below H_w0_aRunning.out hb); have H_w0_aList := Aside0.mk (Kd.R_mono (Kd.R_bound ho) (fun k_ hk_ => hk_.2.2.1) : Kd.R (Kd.int .i64) 3 w5 w4.heap.size (fun k_ => k_ < w5.heap.size) v_w0_aList _); obtain ⟨A_w0_aList, c_w0_aList, e_w0_aList⟩ := Kd.R_slice H_w0_aList.out; subst e_w0_aList; clear ho hb)
 have g7 := Aside0.mk trivial
 go_wp2_with (go_at_call 16; clear g7; refine (spec_AdmitTasks.calls (hr0 := (Kd.R_reads' H_w0_aG.out).2.2) (hc0 := (Kd.R_reads' H_w0_aG.out).2.1) (hr1 := (Kd.R_reads' H_w0_aRoom.out).2.2) (hc1 := (Kd.R_reads' H_w0_aRoom.out).2.1) (hr2 := (Kd.R_reads' H_w0_aRunning.out).2.2) (hc2 := (Kd.R_reads' H_w0_aRunning.out).2.1) (hr3 := (Kd.R_reads' H_w0_aList.out).2.2) (hc3 := (Kd.R_reads' H_w0_aList.out).2.1) (h := FS.out)).mono ?_; rintro e w6 ⟨v_w0, rfl, ho, hb⟩; have z6 := Aside0.mk (hb).size; replace HB := Aside0.mk (below_step HB.out hb); replace H_w0_aG := Aside0.mk (Kd.R_below H_w0_aG.out hb); replace H_w0_aRoom := Aside0.mk (Kd.R_below H_w0_aRoom.out hb); replace H_w0_aRunning := Aside0.mk (Kd.R_below H_w0_aRunning.out hb); replace H_w0_aList := Aside0.mk (Kd.R_below H_w0_aList.out hb); have H_w0 := Aside0.mk (Kd.R_mono (Kd.R_bound ho) (fun k_ hk_ => hk_.2.2.1) : Kd.R (Kd.int .i64) 3 w6 w5.heap.size (fun k_ => k_ < w6.heap.size) v_w0 _); obtain ⟨A_w0, c_w0, e_w0⟩ := Kd.R_slice H_w0.out; subst e_w0; clear ho hb)
 clear H_w0_aG
 clear H_w0_aRoom
 clear H_w0_aRunning
 clear H_w0_aList
 have g8 := Aside0.mk trivial
 go_wp2_with (go_at_call 17; clear g8; refine (laws_toTaskS.calls (hr0 := Kd.C_below HR0.out HB.out) (hc0 := HC0.out) (h := F0.out)).mono ?_; rintro e w7 ⟨v_x0, rfl, ho, hb⟩; have z7 := Aside0.mk (hb).size; replace HB := Aside0.mk (below_step HB.out hb); replace H_w0 := Aside0.mk (Kd.R_below H_w0.out hb); have H_x0 := Aside0.mk (Kd.R_mono (Kd.R_bound (Kd.S_R ho)) (fun k_ hk_ => hk_.2.2.1) : Kd.R k48 48 w7 w6.heap.size (fun k_ => k_ < w7.heap.size) v_x0 _); obtain ⟨A_x0, c_x0, e_x0⟩ := Kd.R_slice H_x0.out; subst e_x0; clear ho hb)
 have g9 := Aside0.mk trivial
 go_wp2_with (go_at_call 18; clear g9; refine (laws_toIntS.calls (hr0 := Kd.C_below HR1.out HB.out) (hc0 := HC1.out) (h := F1.out)).mono ?_; rintro e w8 ⟨v_x1, rfl, ho, hb⟩; have z8 := Aside0.mk (hb).size; replace HB := Aside0.mk (below_step HB.out hb); replace H_w0 := Aside0.mk (Kd.R_below H_w0.out hb); replace H_x0 := Aside0.mk (Kd.R_below H_x0.out hb); have H_x1 := Aside0.mk (Kd.R_mono (Kd.R_bound ho) (fun k_ hk_ => hk_.2.2.1) : Kd.R (Kd.int .i64) 3 w8 w7.heap.size (fun k_ => k_ < w8.heap.size) v_x1 _); obtain ⟨A_x1, c_x1, e_x1⟩ := Kd.R_slice H_x1.out; subst e_x1; clear ho hb)
 have g10 := Aside0.mk trivial
 go_wp2_with (go_at_call 18; clear g10; refine (laws_toIntS.calls (hr0 := Kd.C_below HR2.out HB.out) (hc0 := HC2.out) (h := F2.out)).mono ?_; rintro e w9 ⟨v_x2, rfl, ho, hb⟩; have z9 := Aside0.mk (hb).size; replace HB := Aside0.mk (below_step HB.out hb); replace H_w0 := Aside0.mk (Kd.R_below H_w0.out hb); replace H_x0 := Aside0.mk (Kd.R_below H_x0.out hb); replace H_x1 := Aside0.mk (Kd.R_below H_x1.out hb); have H_x2 := Aside0.mk (Kd.R_mono (Kd.R_bound ho) (fun k_ hk_ => hk_.2.2.1) : Kd.R (Kd.int .i64) 3 w9 w8.heap.size (fun k_ => k_ < w9.heap.size) v_x2 _); obtain ⟨A_x2, c_x2, e_x2⟩ := Kd.R_slice H_x2.out; subst e_x2; clear ho hb)
 have g11 := Aside0.mk trivial
 go_wp2_with (go_at_call 18; clear g11; refine (laws_toIntS.calls (hr0 := Kd.C_below HR3.out HB.out) (hc0 := HC3.out) (h := F3.out)).mono ?_; rintro e w10 ⟨v_x3, rfl, ho, hb⟩; have z10 := Aside0.mk (hb).size; replace HB := Aside0.mk (below_step HB.out hb); replace H_w0 := Aside0.mk (Kd.R_below H_w0.out hb); replace H_x0 := Aside0.mk (Kd.R_below H_x0.out hb); replace H_x1 := Aside0.mk (Kd.R_below H_x1.out hb); replace H_x2 := Aside0.mk (Kd.R_below H_x2.out hb); have H_x3 := Aside0.mk (Kd.R_mono (Kd.R_bound ho) (fun k_ hk_ => hk_.2.2.1) : Kd.R (Kd.int .i64) 3 w10 w9.heap.size (fun k_ => k_ < w10.heap.size) v_x3 _); obtain ⟨A_x3, c_x3, e_x3⟩ := Kd.R_slice H_x3.out; subst e_x3; clear ho hb)
 have g12 := Aside0.mk trivial
 go_wp2_with (go_at_call 19; clear g12; refine (impl_AdmitTasks.calls (hr0 := (Kd.R_reads' H_x0.out).2.2) (hc0 := (Kd.R_reads' H_x0.out).2.1) (hr1 := (Kd.R_reads' H_x1.out).2.2) (hc1 := (Kd.R_reads' H_x1.out).2.1) (hr2 := (Kd.R_reads' H_x2.out).2.2) (hc2 := (Kd.R_reads' H_x2.out).2.1) (hr3 := (Kd.R_reads' H_x3.out).2.2) (hc3 := (Kd.R_reads' H_x3.out).2.1) (hT := Tab.of HT.out HB.out) (h := FI.out)).mono ?_; rintro e w11 ⟨v_g0, rfl, ho, hb⟩; have z11 := Aside0.mk (hb).size; replace HB := Aside0.mk (below_step HB.out hb); replace H_w0 := Aside0.mk (Kd.R_below H_w0.out hb); replace H_x0 := Aside0.mk (Kd.R_below H_x0.out hb); replace H_x1 := Aside0.mk (Kd.R_below H_x1.out hb); replace H_x2 := Aside0.mk (Kd.R_below H_x2.out hb); replace H_x3 := Aside0.mk (Kd.R_below H_x3.out hb); have H_g0 := Aside0.mk (Kd.R_mono (Kd.R_bound ho) (fun k_ hk_ => hk_.2.2.1) : Kd.R (Kd.int .i64) 3 w11 w10.heap.size (fun k_ => k_ < w11.heap.size) v_g0 _); obtain ⟨A_g0, c_g0, e_g0⟩ := Kd.R_slice H_g0.out; subst e_g0; clear ho hb)
 have g13 := Aside0.mk trivial
 go_wp2_with (go_at_call 20; clear g13; refine (laws_eqIntS.calls (hr0 := (Kd.R_reads' H_g0.out).2.2) (hc0 := (Kd.R_reads' H_g0.out).2.1) (hr1 := (Kd.R_reads' H_w0.out).2.2) (hc1 := (Kd.R_reads' H_w0.out).2.1) (h := ER.out)).mono ?_; rintro e w12 ⟨rfl, hd⟩; have hb := drawn0_below hd; have z12 := Aside0.mk (hb).size; replace HB := Aside0.mk (below_step HB.out hb); replace H_w0 := Aside0.mk (Kd.R_below H_w0.out hb); replace H_x0 := Aside0.mk (Kd.R_below H_x0.out hb); replace H_x1 := Aside0.mk (Kd.R_below H_x1.out hb); replace H_x2 := Aside0.mk (Kd.R_below H_x2.out hb); replace H_x3 := Aside0.mk (Kd.R_below H_x3.out hb); replace H_g0 := Aside0.mk (Kd.R_below H_g0.out hb); clear hd hb)
 have g14 := Aside0.mk trivial
 go_wp2_with (go_at_call 17; clear g14; refine (laws_toTaskS.calls (hr0 := Kd.C_below HR0.out HB.out) (hc0 := HC0.out) (h := F0.out)).mono ?_; rintro e w13 ⟨v_t_aG, rfl, ho, hb⟩; have z13 := Aside0.mk (hb).size; replace HB := Aside0.mk (below_step HB.out hb); replace H_w0 := Aside0.mk (Kd.R_below H_w0.out hb); replace H_x0 := Aside0.mk (Kd.R_below H_x0.out hb); replace H_x1 := Aside0.mk (Kd.R_below H_x1.out hb); replace H_x2 := Aside0.mk (Kd.R_below H_x2.out hb); replace H_x3 := Aside0.mk (Kd.R_below H_x3.out hb); replace H_g0 := Aside0.mk (Kd.R_below H_g0.out hb); have H_t_aG := Aside0.mk (Kd.R_mono (Kd.R_bound (Kd.S_R ho)) (fun k_ hk_ => hk_.2.2.1) : Kd.R k48 48 w13 w12.heap.size (fun k_ => k_ < w13.heap.size) v_t_aG _); obtain ⟨A_t_aG, c_t_aG, e_t_aG⟩ := Kd.R_slice H_t_aG.out; subst e_t_aG; clear ho hb)
 have g15 := Aside0.mk trivial
 go_wp2_with (go_at_call 21; clear g15; refine (laws_eqTaskS.calls (hr0 := (Kd.R_reads' H_x0.out).2.2) (hc0 := (Kd.R_reads' H_x0.out).2.1) (hr1 := (Kd.R_reads' H_t_aG.out).2.2) (hc1 := (Kd.R_reads' H_t_aG.out).2.1) (h := E0.out)).mono ?_; rintro e w14 ⟨rfl, hd⟩; have hb := hd; have z14 := Aside0.mk (hb).size; replace HB := Aside0.mk (below_step HB.out hb); replace H_w0 := Aside0.mk (Kd.R_below H_w0.out hb); replace H_x0 := Aside0.mk (Kd.R_below H_x0.out hb); replace H_x1 := Aside0.mk (Kd.R_below H_x1.out hb); replace H_x2 := Aside0.mk (Kd.R_below H_x2.out hb); replace H_x3 := Aside0.mk (Kd.R_below H_x3.out hb); replace H_g0 := Aside0.mk (Kd.R_below H_g0.out hb); replace H_t_aG := Aside0.mk (Kd.R_below H_t_aG.out hb); clear hd hb)
 clear H_t_aG
 have g16 := Aside0.mk trivial
 go_wp2_with (go_at_call 18; clear g16; refine (laws_toIntS.calls (hr0 := Kd.C_below HR1.out HB.out) (hc0 := HC1.out) (h := F1.out)).mono ?_; rintro e w15 ⟨v_t_aRoom, rfl, ho, hb⟩; have z15 := Aside0.mk (hb).size; replace HB := Aside0.mk (below_step HB.out hb); replace H_w0 := Aside0.mk (Kd.R_below H_w0.out hb); replace H_x0 := Aside0.mk (Kd.R_below H_x0.out hb); replace H_x1 := Aside0.mk (Kd.R_below H_x1.out hb); replace H_x2 := Aside0.mk (Kd.R_below H_x2.out hb); replace H_x3 := Aside0.mk (Kd.R_below H_x3.out hb); replace H_g0 := Aside0.mk (Kd.R_below H_g0.out hb); have H_t_aRoom := Aside0.mk (Kd.R_mono (Kd.R_bound ho) (fun k_ hk_ => hk_.2.2.1) : Kd.R (Kd.int .i64) 3 w15 w14.heap.size (fun k_ => k_ < w15.heap.size) v_t_aRoom _); obtain ⟨A_t_aRoom, c_t_aRoom, e_t_aRoom⟩ := Kd.R_slice H_t_aRoom.out; subst e_t_aRoom; clear ho hb)
 have g17 := Aside0.mk trivial
 go_wp2_with (go_at_call 20; clear g17; refine (laws_eqIntS.calls (hr0 := (Kd.R_reads' H_x1.out).2.2) (hc0 := (Kd.R_reads' H_x1.out).2.1) (hr1 := (Kd.R_reads' H_t_aRoom.out).2.2) (hc1 := (Kd.R_reads' H_t_aRoom.out).2.1) (h := E1.out)).mono ?_; rintro e w16 ⟨rfl, hd⟩; have hb := drawn0_below hd; have z16 := Aside0.mk (hb).size; replace HB := Aside0.mk (below_step HB.out hb); replace H_w0 := Aside0.mk (Kd.R_below H_w0.out hb); replace H_x0 := Aside0.mk (Kd.R_below H_x0.out hb); replace H_x1 := Aside0.mk (Kd.R_below H_x1.out hb); replace H_x2 := Aside0.mk (Kd.R_below H_x2.out hb); replace H_x3 := Aside0.mk (Kd.R_below H_x3.out hb); replace H_g0 := Aside0.mk (Kd.R_below H_g0.out hb); replace H_t_aRoom := Aside0.mk (Kd.R_below H_t_aRoom.out hb); clear hd hb)
 clear H_t_aRoom
 have g18 := Aside0.mk trivial
 go_wp2_with (go_at_call 18; clear g18; refine (laws_toIntS.calls (hr0 := Kd.C_below HR2.out HB.out) (hc0 := HC2.out) (h := F2.out)).mono ?_; rintro e w17 ⟨v_t_aRunning, rfl, ho, hb⟩; have z17 := Aside0.mk (hb).size; replace HB := Aside0.mk (below_step HB.out hb); replace H_w0 := Aside0.mk (Kd.R_below H_w0.out hb); replace H_x0 := Aside0.mk (Kd.R_below H_x0.out hb); replace H_x1 := Aside0.mk (Kd.R_below H_x1.out hb); replace H_x2 := Aside0.mk (Kd.R_below H_x2.out hb); replace H_x3 := Aside0.mk (Kd.R_below H_x3.out hb); replace H_g0 := Aside0.mk (Kd.R_below H_g0.out hb); have H_t_aRunning := Aside0.mk (Kd.R_mono (Kd.R_bound ho) (fun k_ hk_ => hk_.2.2.1) : Kd.R (Kd.int .i64) 3 w17 w16.heap.size (fun k_ => k_ < w17.heap.size) v_t_aRunning _); obtain ⟨A_t_aRunning, c_t_aRunning, e_t_aRunning⟩ := Kd.R_slice H_t_aRunning.out; subst e_t_aRunning; clear ho hb)
 have g19 := Aside0.mk trivial
 go_wp2_with (go_at_call 20; clear g19; refine (laws_eqIntS.calls (hr0 := (Kd.R_reads' H_x2.out).2.2) (hc0 := (Kd.R_reads' H_x2.out).2.1) (hr1 := (Kd.R_reads' H_t_aRunning.out).2.2) (hc1 := (Kd.R_reads' H_t_aRunning.out).2.1) (h := E2.out)).mono ?_; rintro e w18 ⟨rfl, hd⟩; have hb := drawn0_below hd; have z18 := Aside0.mk (hb).size; replace HB := Aside0.mk (below_step HB.out hb); replace H_w0 := Aside0.mk (Kd.R_below H_w0.out hb); replace H_x0 := Aside0.mk (Kd.R_below H_x0.out hb); replace H_x1 := Aside0.mk (Kd.R_below H_x1.out hb); replace H_x2 := Aside0.mk (Kd.R_below H_x2.out hb); replace H_x3 := Aside0.mk (Kd.R_below H_x3.out hb); replace H_g0 := Aside0.mk (Kd.R_below H_g0.out hb); replace H_t_aRunning := Aside0.mk (Kd.R_below H_t_aRunning.out hb); clear hd hb)
 clear H_t_aRunning
 have g20 := Aside0.mk trivial
 go_wp2_with (go_at_call 18; clear g20; refine (laws_toIntS.calls (hr0 := Kd.C_below HR3.out HB.out) (hc0 := HC3.out) (h := F3.out)).mono ?_; rintro e w19 ⟨v_t_aList, rfl, ho, hb⟩; have z19 := Aside0.mk (hb).size; replace HB := Aside0.mk (below_step HB.out hb); replace H_w0 := Aside0.mk (Kd.R_below H_w0.out hb); replace H_x0 := Aside0.mk (Kd.R_below H_x0.out hb); replace H_x1 := Aside0.mk (Kd.R_below H_x1.out hb); replace H_x2 := Aside0.mk (Kd.R_below H_x2.out hb); replace H_x3 := Aside0.mk (Kd.R_below H_x3.out hb); replace H_g0 := Aside0.mk (Kd.R_below H_g0.out hb); have H_t_aList := Aside0.mk (Kd.R_mono (Kd.R_bound ho) (fun k_ hk_ => hk_.2.2.1) : Kd.R (Kd.int .i64) 3 w19 w18.heap.size (fun k_ => k_ < w19.heap.size) v_t_aList _); obtain ⟨A_t_aList, c_t_aList, e_t_aList⟩ := Kd.R_slice H_t_aList.out; subst e_t_aList; clear ho hb)
 have g21 := Aside0.mk trivial
 go_wp2_with (go_at_call 20; clear g21; refine (laws_eqIntS.calls (hr0 := (Kd.R_reads' H_x3.out).2.2) (hc0 := (Kd.R_reads' H_x3.out).2.1) (hr1 := (Kd.R_reads' H_t_aList.out).2.2) (hc1 := (Kd.R_reads' H_t_aList.out).2.1) (h := E3.out)).mono ?_; rintro e w20 ⟨rfl, hd⟩; have hb := drawn0_below hd; have z20 := Aside0.mk (hb).size; replace HB := Aside0.mk (below_step HB.out hb); replace H_w0 := Aside0.mk (Kd.R_below H_w0.out hb); replace H_x0 := Aside0.mk (Kd.R_below H_x0.out hb); replace H_x1 := Aside0.mk (Kd.R_below H_x1.out hb); replace H_x2 := Aside0.mk (Kd.R_below H_x2.out hb); replace H_x3 := Aside0.mk (Kd.R_below H_x3.out hb); replace H_g0 := Aside0.mk (Kd.R_below H_g0.out hb); replace H_t_aList := Aside0.mk (Kd.R_below H_t_aList.out hb); clear hd hb)
 clear H_t_aList
 obtain ⟨K21, hK21⟩ : ∃ x_, x_ = mkT y0 (1) y0.length := ⟨_, rfl⟩
 have HK21 := Aside0.mk hK21
 clear hK21
 have g22 := Aside0.mk trivial
 go_wp2_with (go_at_call 22; clear g22; refine (markTaskS_in w6.heap.size w7.heap.size _ y0 (1) _ H_x0.out).mono ?_; rintro e w21 ⟨he, hm⟩; rw [← HK21.out] at he; subst he; have z21 := Aside0.mk (hm).below.size; have hlo : w.heap.size ≤ w6.heap.size := (by have q1 := z1.out; have q2 := z2.out; have q3 := z3.out; have q4 := z4.out; have q5 := z5.out; have q6 := z6.out; have q7 := z7.out; have q8 := z8.out; have q9 := z9.out; have q10 := z10.out; have q11 := z11.out; have q12 := z12.out; have q13 := z13.out; have q14 := z14.out; have q15 := z15.out; have q16 := z16.out; have q17 := z17.out; have q18 := z18.out; have q19 := z19.out; have q20 := z20.out; omega); replace HB := Aside0.mk (HB.out.trans ((hm).below.mono hlo)); clear hlo; replace H_w0 := Aside0.mk (Kd.R_kept (Kd.R_bound H_w0.out) (hm).kept (fun k_ hk_ hs_ => by have q1 := z1.out; have q2 := z2.out; have q3 := z3.out; have q4 := z4.out; have q5 := z5.out; have q6 := z6.out; have q7 := z7.out; have q8 := z8.out; have q9 := z9.out; have q10 := z10.out; have q11 := z11.out; have q12 := z12.out; have q13 := z13.out; have q14 := z14.out; have q15 := z15.out; have q16 := z16.out; have q17 := z17.out; have q18 := z18.out; have q19 := z19.out; have q20 := z20.out; have e1_ := hk_.1; have e2_ := hk_.2.1; have e3_ := hs_.1; have e4_ := hs_.2; omega)); replace H_w0 := Aside0.mk (Kd.R_mono H_w0.out (fun k_ hk_ => hk_.1)); replace H_x1 := Aside0.mk (Kd.R_kept (Kd.R_bound H_x1.out) (hm).kept (fun k_ hk_ hs_ => by have q1 := z1.out; have q2 := z2.out; have q3 := z3.out; have q4 := z4.out; have q5 := z5.out; have q6 := z6.out; have q7 := z7.out; have q8 := z8.out; have q9 := z9.out; have q10 := z10.out; have q11 := z11.out; have q12 := z12.out; have q13 := z13.out; have q14 := z14.out; have q15 := z15.out; have q16 := z16.out; have q17 := z17.out; have q18 := z18.out; have q19 := z19.out; have q20 := z20.out; have e1_ := hk_.1; have e2_ := hk_.2.1; have e3_ := hs_.1; have e4_ := hs_.2; omega)); replace H_x1 := Aside0.mk (Kd.R_mono H_x1.out (fun k_ hk_ => hk_.1)); replace H_x2 := Aside0.mk (Kd.R_kept (Kd.R_bound H_x2.out) (hm).kept (fun k_ hk_ hs_ => by have q1 := z1.out; have q2 := z2.out; have q3 := z3.out; have q4 := z4.out; have q5 := z5.out; have q6 := z6.out; have q7 := z7.out; have q8 := z8.out; have q9 := z9.out; have q10 := z10.out; have q11 := z11.out; have q12 := z12.out; have q13 := z13.out; have q14 := z14.out; have q15 := z15.out; have q16 := z16.out; have q17 := z17.out; have q18 := z18.out; have q19 := z19.out; have q20 := z20.out; have e1_ := hk_.1; have e2_ := hk_.2.1; have e3_ := hs_.1; have e4_ := hs_.2; omega)); replace H_x2 := Aside0.mk (Kd.R_mono H_x2.out (fun k_ hk_ => hk_.1)); replace H_x3 := Aside0.mk (Kd.R_kept (Kd.R_bound H_x3.out) (hm).kept (fun k_ hk_ hs_ => by have q1 := z1.out; have q2 := z2.out; have q3 := z3.out; have q4 := z4.out; have q5 := z5.out; have q6 := z6.out; have q7 := z7.out; have q8 := z8.out; have q9 := z9.out; have q10 := z10.out; have q11 := z11.out; have q12 := z12.out; have q13 := z13.out; have q14 := z14.out; have q15 := z15.out; have q16 := z16.out; have q17 := z17.out; have q18 := z18.out; have q19 := z19.out; have q20 := z20.out; have e1_ := hk_.1; have e2_ := hk_.2.1; have e3_ := hs_.1; have e4_ := hs_.2; omega)); replace H_x3 := Aside0.mk (Kd.R_mono H_x3.out (fun k_ hk_ => hk_.1)); replace H_g0 := Aside0.mk (Kd.R_kept (Kd.R_bound H_g0.out) (hm).kept (fun k_ hk_ hs_ => by have q1 := z1.out; have q2 := z2.out; have q3 := z3.out; have q4 := z4.out; have q5 := z5.out; have q6 := z6.out; have q7 := z7.out; have q8 := z8.out; have q9 := z9.out; have q10 := z10.out; have q11 := z11.out; have q12 := z12.out; have q13 := z13.out; have q14 := z14.out; have q15 := z15.out; have q16 := z16.out; have q17 := z17.out; have q18 := z18.out; have q19 := z19.out; have q20 := z20.out; have e1_ := hk_.1; have e2_ := hk_.2.1; have e3_ := hs_.1; have e4_ := hs_.2; omega)); replace H_g0 := Aside0.mk (Kd.R_mono H_g0.out (fun k_ hk_ => hk_.1)); clear hm H_x0)
 obtain ⟨K22, hK22⟩ : ∃ x_, x_ = upI y1.length (K21) := ⟨_, rfl⟩
 have HK22 := Aside0.mk hK22
 clear hK22
 have g23 := Aside0.mk trivial
 go_wp2_with (go_at_call 23; clear g23; refine (markIntS_in w7.heap.size w8.heap.size _ y1 (K21) _ H_x1.out).mono ?_; rintro e w22 ⟨he, hm⟩; rw [← HK22.out] at he; subst he; have z22 := Aside0.mk (hm).below.size; have hlo : w.heap.size ≤ w7.heap.size := (by have q1 := z1.out; have q2 := z2.out; have q3 := z3.out; have q4 := z4.out; have q5 := z5.out; have q6 := z6.out; have q7 := z7.out; have q8 := z8.out; have q9 := z9.out; have q10 := z10.out; have q11 := z11.out; have q12 := z12.out; have q13 := z13.out; have q14 := z14.out; have q15 := z15.out; have q16 := z16.out; have q17 := z17.out; have q18 := z18.out; have q19 := z19.out; have q20 := z20.out; have q21 := z21.out; omega); replace HB := Aside0.mk (HB.out.trans ((hm).below.mono hlo)); clear hlo; replace H_w0 := Aside0.mk (Kd.R_kept (Kd.R_bound H_w0.out) (hm).kept (fun k_ hk_ hs_ => by have q1 := z1.out; have q2 := z2.out; have q3 := z3.out; have q4 := z4.out; have q5 := z5.out; have q6 := z6.out; have q7 := z7.out; have q8 := z8.out; have q9 := z9.out; have q10 := z10.out; have q11 := z11.out; have q12 := z12.out; have q13 := z13.out; have q14 := z14.out; have q15 := z15.out; have q16 := z16.out; have q17 := z17.out; have q18 := z18.out; have q19 := z19.out; have q20 := z20.out; have q21 := z21.out; have e1_ := hk_.1; have e2_ := hk_.2.1; have e3_ := hs_.1; have e4_ := hs_.2; omega)); replace H_w0 := Aside0.mk (Kd.R_mono H_w0.out (fun k_ hk_ => hk_.1)); replace H_x2 := Aside0.mk (Kd.R_kept (Kd.R_bound H_x2.out) (hm).kept (fun k_ hk_ hs_ => by have q1 := z1.out; have q2 := z2.out; have q3 := z3.out; have q4 := z4.out; have q5 := z5.out; have q6 := z6.out; have q7 := z7.out; have q8 := z8.out; have q9 := z9.out; have q10 := z10.out; have q11 := z11.out; have q12 := z12.out; have q13 := z13.out; have q14 := z14.out; have q15 := z15.out; have q16 := z16.out; have q17 := z17.out; have q18 := z18.out; have q19 := z19.out; have q20 := z20.out; have q21 := z21.out; have e1_ := hk_.1; have e2_ := hk_.2.1; have e3_ := hs_.1; have e4_ := hs_.2; omega)); replace H_x2 := Aside0.mk (Kd.R_mono H_x2.out (fun k_ hk_ => hk_.1)); replace H_x3 := Aside0.mk (Kd.R_kept (Kd.R_bound H_x3.out) (hm).kept (fun k_ hk_ hs_ => by have q1 := z1.out; have q2 := z2.out; have q3 := z3.out; have q4 := z4.out; have q5 := z5.out; have q6 := z6.out; have q7 := z7.out; have q8 := z8.out; have q9 := z9.out; have q10 := z10.out; have q11 := z11.out; have q12 := z12.out; have q13 := z13.out; have q14 := z14.out; have q15 := z15.out; have q16 := z16.out; have q17 := z17.out; have q18 := z18.out; have q19 := z19.out; have q20 := z20.out; have q21 := z21.out; have e1_ := hk_.1; have e2_ := hk_.2.1; have e3_ := hs_.1; have e4_ := hs_.2; omega)); replace H_x3 := Aside0.mk (Kd.R_mono H_x3.out (fun k_ hk_ => hk_.1)); replace H_g0 := Aside0.mk (Kd.R_kept (Kd.R_bound H_g0.out) (hm).kept (fun k_ hk_ hs_ => by have q1 := z1.out; have q2 := z2.out; have q3 := z3.out; have q4 := z4.out; have q5 := z5.out; have q6 := z6.out; have q7 := z7.out; have q8 := z8.out; have q9 := z9.out; have q10 := z10.out; have q11 := z11.out; have q12 := z12.out; have q13 := z13.out; have q14 := z14.out; have q15 := z15.out; have q16 := z16.out; have q17 := z17.out; have q18 := z18.out; have q19 := z19.out; have q20 := z20.out; have q21 := z21.out; have e1_ := hk_.1; have e2_ := hk_.2.1; have e3_ := hs_.1; have e4_ := hs_.2; omega)); replace H_g0 := Aside0.mk (Kd.R_mono H_g0.out (fun k_ hk_ => hk_.1)); clear hm H_x1)
 obtain ⟨K23, hK23⟩ : ∃ x_, x_ = upI y2.length (K22) := ⟨_, rfl⟩
 have HK23 := Aside0.mk hK23
 clear hK23
 have g24 := Aside0.mk trivial
 go_wp2_with (go_at_call 23; clear g24; refine (markIntS_in w8.heap.size w9.heap.size _ y2 (K22) _ H_x2.out).mono ?_; rintro e w23 ⟨he, hm⟩; rw [← HK23.out] at he; subst he; have z23 := Aside0.mk (hm).below.size; have hlo : w.heap.size ≤ w8.heap.size := (by have q1 := z1.out; have q2 := z2.out; have q3 := z3.out; have q4 := z4.out; have q5 := z5.out; have q6 := z6.out; have q7 := z7.out; have q8 := z8.out; have q9 := z9.out; have q10 := z10.out; have q11 := z11.out; have q12 := z12.out; have q13 := z13.out; have q14 := z14.out; have q15 := z15.out; have q16 := z16.out; have q17 := z17.out; have q18 := z18.out; have q19 := z19.out; have q20 := z20.out; have q21 := z21.out; have q22 := z22.out; omega); replace HB := Aside0.mk (HB.out.trans ((hm).below.mono hlo)); clear hlo; replace H_w0 := Aside0.mk (Kd.R_kept (Kd.R_bound H_w0.out) (hm).kept (fun k_ hk_ hs_ => by have q1 := z1.out; have q2 := z2.out; have q3 := z3.out; have q4 := z4.out; have q5 := z5.out; have q6 := z6.out; have q7 := z7.out; have q8 := z8.out; have q9 := z9.out; have q10 := z10.out; have q11 := z11.out; have q12 := z12.out; have q13 := z13.out; have q14 := z14.out; have q15 := z15.out; have q16 := z16.out; have q17 := z17.out; have q18 := z18.out; have q19 := z19.out; have q20 := z20.out; have q21 := z21.out; have q22 := z22.out; have e1_ := hk_.1; have e2_ := hk_.2.1; have e3_ := hs_.1; have e4_ := hs_.2; omega)); replace H_w0 := Aside0.mk (Kd.R_mono H_w0.out (fun k_ hk_ => hk_.1)); replace H_x3 := Aside0.mk (Kd.R_kept (Kd.R_bound H_x3.out) (hm).kept (fun k_ hk_ hs_ => by have q1 := z1.out; have q2 := z2.out; have q3 := z3.out; have q4 := z4.out; have q5 := z5.out; have q6 := z6.out; have q7 := z7.out; have q8 := z8.out; have q9 := z9.out; have q10 := z10.out; have q11 := z11.out; have q12 := z12.out; have q13 := z13.out; have q14 := z14.out; have q15 := z15.out; have q16 := z16.out; have q17 := z17.out; have q18 := z18.out; have q19 := z19.out; have q20 := z20.out; have q21 := z21.out; have q22 := z22.out; have e1_ := hk_.1; have e2_ := hk_.2.1; have e3_ := hs_.1; have e4_ := hs_.2; omega)); replace H_x3 := Aside0.mk (Kd.R_mono H_x3.out (fun k_ hk_ => hk_.1)); replace H_g0 := Aside0.mk (Kd.R_kept (Kd.R_bound H_g0.out) (hm).kept (fun k_ hk_ hs_ => by have q1 := z1.out; have q2 := z2.out; have q3 := z3.out; have q4 := z4.out; have q5 := z5.out; have q6 := z6.out; have q7 := z7.out; have q8 := z8.out; have q9 := z9.out; have q10 := z10.out; have q11 := z11.out; have q12 := z12.out; have q13 := z13.out; have q14 := z14.out; have q15 := z15.out; have q16 := z16.out; have q17 := z17.out; have q18 := z18.out; have q19 := z19.out; have q20 := z20.out; have q21 := z21.out; have q22 := z22.out; have e1_ := hk_.1; have e2_ := hk_.2.1; have e3_ := hs_.1; have e4_ := hs_.2; omega)); replace H_g0 := Aside0.mk (Kd.R_mono H_g0.out (fun k_ hk_ => hk_.1)); clear hm H_x2)
 obtain ⟨K24, hK24⟩ : ∃ x_, x_ = upI y3.length (K23) := ⟨_, rfl⟩
 have dK : decide (K24 < 0) = false := decide_eq_false (by have h1 := FK.out; rw [← HK21.out, ← HK22.out, ← HK23.out, ← hK24] at h1; omega)
 have HK24 := Aside0.mk hK24
 clear hK24
 have g25 := Aside0.mk trivial
 go_wp2_with (go_at_call 23; clear g25; refine (markIntS_in w9.heap.size w10.heap.size _ y3 (K23) _ H_x3.out).mono ?_; rintro e w24 ⟨he, hm⟩; rw [← HK24.out] at he; subst he; have z24 := Aside0.mk (hm).below.size; have hlo : w.heap.size ≤ w9.heap.size := (by have q1 := z1.out; have q2 := z2.out; have q3 := z3.out; have q4 := z4.out; have q5 := z5.out; have q6 := z6.out; have q7 := z7.out; have q8 := z8.out; have q9 := z9.out; have q10 := z10.out; have q11 := z11.out; have q12 := z12.out; have q13 := z13.out; have q14 := z14.out; have q15 := z15.out; have q16 := z16.out; have q17 := z17.out; have q18 := z18.out; have q19 := z19.out; have q20 := z20.out; have q21 := z21.out; have q22 := z22.out; have q23 := z23.out; omega); replace HB := Aside0.mk (HB.out.trans ((hm).below.mono hlo)); clear hlo; replace H_w0 := Aside0.mk (Kd.R_kept (Kd.R_bound H_w0.out) (hm).kept (fun k_ hk_ hs_ => by have q1 := z1.out; have q2 := z2.out; have q3 := z3.out; have q4 := z4.out; have q5 := z5.out; have q6 := z6.out; have q7 := z7.out; have q8 := z8.out; have q9 := z9.out; have q10 := z10.out; have q11 := z11.out; have q12 := z12.out; have q13 := z13.out; have q14 := z14.out; have q15 := z15.out; have q16 := z16.out; have q17 := z17.out; have q18 := z18.out; have q19 := z19.out; have q20 := z20.out; have q21 := z21.out; have q22 := z22.out; have q23 := z23.out; have e1_ := hk_.1; have e2_ := hk_.2.1; have e3_ := hs_.1; have e4_ := hs_.2; omega)); replace H_w0 := Aside0.mk (Kd.R_mono H_w0.out (fun k_ hk_ => hk_.1)); replace H_g0 := Aside0.mk (Kd.R_kept (Kd.R_bound H_g0.out) (hm).kept (fun k_ hk_ hs_ => by have q1 := z1.out; have q2 := z2.out; have q3 := z3.out; have q4 := z4.out; have q5 := z5.out; have q6 := z6.out; have q7 := z7.out; have q8 := z8.out; have q9 := z9.out; have q10 := z10.out; have q11 := z11.out; have q12 := z12.out; have q13 := z13.out; have q14 := z14.out; have q15 := z15.out; have q16 := z16.out; have q17 := z17.out; have q18 := z18.out; have q19 := z19.out; have q20 := z20.out; have q21 := z21.out; have q22 := z22.out; have q23 := z23.out; have e1_ := hk_.1; have e2_ := hk_.2.1; have e3_ := hs_.1; have e4_ := hs_.2; omega)); replace H_g0 := Aside0.mk (Kd.R_mono H_g0.out (fun k_ hk_ => hk_.1)); clear hm H_x3)
 have g26 := Aside0.mk trivial
 go_wp2_with (go_at_call 20; clear g26; refine (laws_eqIntS.calls (hr0 := (Kd.R_reads' H_g0.out).2.2) (hc0 := (Kd.R_reads' H_g0.out).2.1) (hr1 := (Kd.R_reads' H_w0.out).2.2) (hc1 := (Kd.R_reads' H_w0.out).2.1) (h := ER.out)).mono ?_; rintro e w25 ⟨rfl, hd⟩; have hb := drawn0_below hd; have z25 := Aside0.mk (hb).size; replace HB := Aside0.mk (below_step HB.out hb); replace H_w0 := Aside0.mk (Kd.R_below H_w0.out hb); replace H_g0 := Aside0.mk (Kd.R_below H_g0.out hb); clear hd hb)
 have HL := Aside0.mk (show w.heap.size ≤ w10.heap.size from (by have q1 := z1.out; have q2 := z2.out; have q3 := z3.out; have q4 := z4.out; have q5 := z5.out; have q6 := z6.out; have q7 := z7.out; have q8 := z8.out; have q9 := z9.out; have q10 := z10.out; have q11 := z11.out; have q12 := z12.out; have q13 := z13.out; have q14 := z14.out; have q15 := z15.out; have q16 := z16.out; have q17 := z17.out; have q18 := z18.out; have q19 := z19.out; have q20 := z20.out; have q21 := z21.out; have q22 := z22.out; have q23 := z23.out; have q24 := z24.out; have q25 := z25.out; omega))
 have g27 := Aside0.mk trivial
 go_wp2_with (go_at_call 23; clear g27; refine (laws_markIntS.calls (w0 := w) (P0_ := fun k_ => w10.heap.size ≤ k_ ∧ k_ < w11.heap.size) (hB := HB.out) (ho0 := Kd.R_lower (Kd.R_mono (Kd.R_bound H_g0.out) (fun k_ hk_ => ⟨hk_.2.1, hk_.1⟩)) HL.out) (h := FM.out)).mono ?_; rintro e w26 ⟨rfl, ho, hb, hkp⟩; have z26 := Aside0.mk hkp.1; replace HB := Aside0.mk hb; replace H_w0 := Aside0.mk (Kd.R_kept (Kd.R_bound H_w0.out) hkp (fun k_ hk_ hs_ => by have q1 := z1.out; have q2 := z2.out; have q3 := z3.out; have q4 := z4.out; have q5 := z5.out; have q6 := z6.out; have q7 := z7.out; have q8 := z8.out; have q9 := z9.out; have q10 := z10.out; have q11 := z11.out; have q12 := z12.out; have q13 := z13.out; have q14 := z14.out; have q15 := z15.out; have q16 := z16.out; have q17 := z17.out; have q18 := z18.out; have q19 := z19.out; have q20 := z20.out; have q21 := z21.out; have q22 := z22.out; have q23 := z23.out; have q24 := z24.out; have q25 := z25.out; have e1_ := hk_.1; have e2_ := hk_.2.1; have e3_ := hs_.1; have e4_ := hs_.2; omega)); replace H_w0 := Aside0.mk (Kd.R_mono H_w0.out (fun k_ hk_ => hk_.1)); replace H_g0 := Aside0.mk ho; clear ho hb hkp)
 have g28 := Aside0.mk trivial
 go_wp2_with (go_at_call 24; clear g28; refine (heldIntS_n (Kd.R_reads' H_g0.out) FH.out).mono ?_; rintro e w27 ⟨rfl, hd⟩; have hb := drawn0_below hd; have z27 := Aside0.mk (hb).size; replace HB := Aside0.mk (below_step HB.out hb); replace H_w0 := Aside0.mk (Kd.R_below H_w0.out hb); replace H_g0 := Aside0.mk (Kd.R_below H_g0.out hb); clear hd hb)
 have g29 := Aside0.mk trivial
 go_wp2_with (go_at_call 17; clear g29; refine (laws_toTaskS.calls (hr0 := Kd.C_below HR0.out HB.out) (hc0 := HC0.out) (h := F0.out)).mono ?_; rintro e w28 ⟨v_h0_aG, rfl, ho, hb⟩; have z28 := Aside0.mk (hb).size; replace HB := Aside0.mk (below_step HB.out hb); replace H_w0 := Aside0.mk (Kd.R_below H_w0.out hb); replace H_g0 := Aside0.mk (Kd.R_below H_g0.out hb); have H_h0_aG := Aside0.mk (Kd.R_mono (Kd.R_bound (Kd.S_R ho)) (fun k_ hk_ => hk_.2.2.1) : Kd.R k48 48 w28 w27.heap.size (fun k_ => k_ < w28.heap.size) v_h0_aG _); obtain ⟨A_h0_aG, c_h0_aG, e_h0_aG⟩ := Kd.R_slice H_h0_aG.out; subst e_h0_aG; clear ho hb)
 have g30 := Aside0.mk trivial
 go_wp2_with (go_at_call 18; clear g30; refine (laws_toIntS.calls (hr0 := Kd.C_below HR1.out HB.out) (hc0 := HC1.out) (h := F1.out)).mono ?_; rintro e w29 ⟨v_h0_aRoom, rfl, ho, hb⟩; have z29 := Aside0.mk (hb).size; replace HB := Aside0.mk (below_step HB.out hb); replace H_w0 := Aside0.mk (Kd.R_below H_w0.out hb); replace H_g0 := Aside0.mk (Kd.R_below H_g0.out hb); replace H_h0_aG := Aside0.mk (Kd.R_below H_h0_aG.out hb); have H_h0_aRoom := Aside0.mk (Kd.R_mono (Kd.R_bound ho) (fun k_ hk_ => hk_.2.2.1) : Kd.R (Kd.int .i64) 3 w29 w28.heap.size (fun k_ => k_ < w29.heap.size) v_h0_aRoom _); obtain ⟨A_h0_aRoom, c_h0_aRoom, e_h0_aRoom⟩ := Kd.R_slice H_h0_aRoom.out; subst e_h0_aRoom; clear ho hb)
 have g31 := Aside0.mk trivial
 go_wp2_with (go_at_call 18; clear g31; refine (laws_toIntS.calls (hr0 := Kd.C_below HR2.out HB.out) (hc0 := HC2.out) (h := F2.out)).mono ?_; rintro e w30 ⟨v_h0_aRunning, rfl, ho, hb⟩; have z30 := Aside0.mk (hb).size; replace HB := Aside0.mk (below_step HB.out hb); replace H_w0 := Aside0.mk (Kd.R_below H_w0.out hb); replace H_g0 := Aside0.mk (Kd.R_below H_g0.out hb); replace H_h0_aG := Aside0.mk (Kd.R_below H_h0_aG.out hb); replace H_h0_aRoom := Aside0.mk (Kd.R_below H_h0_aRoom.out hb); have H_h0_aRunning := Aside0.mk (Kd.R_mono (Kd.R_bound ho) (fun k_ hk_ => hk_.2.2.1) : Kd.R (Kd.int .i64) 3 w30 w29.heap.size (fun k_ => k_ < w30.heap.size) v_h0_aRunning _); obtain ⟨A_h0_aRunning, c_h0_aRunning, e_h0_aRunning⟩ := Kd.R_slice H_h0_aRunning.out; subst e_h0_aRunning; clear ho hb)
 have g32 := Aside0.mk trivial
 go_wp2_with (go_at_call 18; clear g32; refine (laws_toIntS.calls (hr0 := Kd.C_below HR3.out HB.out) (hc0 := HC3.out) (h := F3.out)).mono ?_; rintro e w31 ⟨v_h0_aList, rfl, ho, hb⟩; have z31 := Aside0.mk (hb).size; replace HB := Aside0.mk (below_step HB.out hb); replace H_w0 := Aside0.mk (Kd.R_below H_w0.out hb); replace H_g0 := Aside0.mk (Kd.R_below H_g0.out hb); replace H_h0_aG := Aside0.mk (Kd.R_below H_h0_aG.out hb); replace H_h0_aRoom := Aside0.mk (Kd.R_below H_h0_aRoom.out hb); replace H_h0_aRunning := Aside0.mk (Kd.R_below H_h0_aRunning.out hb); have H_h0_aList := Aside0.mk (Kd.R_mono (Kd.R_bound ho) (fun k_ hk_ => hk_.2.2.1) : Kd.R (Kd.int .i64) 3 w31 w30.heap.size (fun k_ => k_ < w31.heap.size) v_h0_aList _); obtain ⟨A_h0_aList, c_h0_aList, e_h0_aList⟩ := Kd.R_slice H_h0_aList.out; subst e_h0_aList; clear ho hb)
 have g33 := Aside0.mk trivial
 go_wp2_with (go_at_call 19; clear g33; refine (impl_AdmitTasks.calls (hr0 := (Kd.R_reads' H_h0_aG.out).2.2) (hc0 := (Kd.R_reads' H_h0_aG.out).2.1) (hr1 := (Kd.R_reads' H_h0_aRoom.out).2.2) (hc1 := (Kd.R_reads' H_h0_aRoom.out).2.1) (hr2 := (Kd.R_reads' H_h0_aRunning.out).2.2) (hc2 := (Kd.R_reads' H_h0_aRunning.out).2.1) (hr3 := (Kd.R_reads' H_h0_aList.out).2.2) (hc3 := (Kd.R_reads' H_h0_aList.out).2.1) (hT := Tab.of HT.out HB.out) (h := FI.out)).mono ?_; rintro e w32 ⟨v_h0, rfl, ho, hb⟩; have z32 := Aside0.mk (hb).size; replace HB := Aside0.mk (below_step HB.out hb); replace H_w0 := Aside0.mk (Kd.R_below H_w0.out hb); replace H_g0 := Aside0.mk (Kd.R_below H_g0.out hb); replace H_h0_aG := Aside0.mk (Kd.R_below H_h0_aG.out hb); replace H_h0_aRoom := Aside0.mk (Kd.R_below H_h0_aRoom.out hb); replace H_h0_aRunning := Aside0.mk (Kd.R_below H_h0_aRunning.out hb); replace H_h0_aList := Aside0.mk (Kd.R_below H_h0_aList.out hb); have H_h0 := Aside0.mk (Kd.R_mono (Kd.R_bound ho) (fun k_ hk_ => hk_.2.2.1) : Kd.R (Kd.int .i64) 3 w32 w31.heap.size (fun k_ => k_ < w32.heap.size) v_h0 _); obtain ⟨A_h0, c_h0, e_h0⟩ := Kd.R_slice H_h0.out; subst e_h0; clear ho hb)
 clear H_h0_aG
 clear H_h0_aRoom
 clear H_h0_aRunning
 clear H_h0_aList
 have g34 := Aside0.mk trivial
 go_wp2_with (go_at_call 20; clear g34; refine (laws_eqIntS.calls (hr0 := (Kd.R_reads' H_h0.out).2.2) (hc0 := (Kd.R_reads' H_h0.out).2.1) (hr1 := (Kd.R_reads' H_w0.out).2.2) (hc1 := (Kd.R_reads' H_w0.out).2.1) (h := ER.out)).mono ?_; rintro e w33 ⟨rfl, hd⟩; have hb := drawn0_below hd; have z33 := Aside0.mk (hb).size; replace HB := Aside0.mk (below_step HB.out hb); replace H_w0 := Aside0.mk (Kd.R_below H_w0.out hb); replace H_g0 := Aside0.mk (Kd.R_below H_g0.out hb); replace H_h0 := Aside0.mk (Kd.R_below H_h0.out hb); clear hd hb)
 have g35 := Aside0.mk trivial
 go_wp2_with (go_at_call 24; clear g35; refine (heldIntS_n (Kd.R_reads' H_g0.out) FH.out).mono ?_; rintro e w34 ⟨rfl, hd⟩; have hb := drawn0_below hd; have z34 := Aside0.mk (hb).size; replace HB := Aside0.mk (below_step HB.out hb); replace H_w0 := Aside0.mk (Kd.R_below H_w0.out hb); replace H_g0 := Aside0.mk (Kd.R_below H_g0.out hb); replace H_h0 := Aside0.mk (Kd.R_below H_h0.out hb); clear hd hb)
 go_ret
 exact ⟨rfl, HB.out⟩
end Go.Proofs.YtpibdjkajgfgjaaDoor.P
end
