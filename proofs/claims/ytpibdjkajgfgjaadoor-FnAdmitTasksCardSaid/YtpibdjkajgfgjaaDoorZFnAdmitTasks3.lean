/- The law FnAdmitTasks holds of the given program: the proof's own part, with its row and its card, part 3 of 4. -/
import Derived.Test.YtpibdjkajgfgjaaDoorZFnAdmitTasks2
section
set_option linter.unusedVariables false
set_option linter.unusedSimpArgs false
namespace Go.Proofs.YtpibdjkajgfgjaaDoor.Core
open Go Go.RowKit Go.Proofs.YtpibdjkajgfgjaaDoorW.PrintWords Go.Proofs.YtpibdjkajgfgjaaDoorW.PrintMore Go.Proofs.YtpibdjkajgfgjaaDoor.P
theorem FnAdmitTasks_pure (l0 : List Int) (hW : Bytes l0) : ∃ k, laws_FnAdmitTasks.f k l0 = some true := by
 refine Ev.one (f := fun k => laws_FnAdmitTasks.f k l0) (EvP.ev ?_)
 unfold laws_FnAdmitTasks.f
 refine EvP.ite (fun _ => EvP.ret rfl) (fun hlen => ?_)
 refine (ev_DrawAdmitTasks hW).bind fun ⟨g, room, run, lst, wk⟩ hg => ?_
 obtain ⟨hg, hr, hu, hl, hw0, hw5⟩ := hg
 dsimp only at hg hr hu hl hw0 hw5 ⊢
 have hf := hg.fits (by unfold big; omega) (by unfold big; omega)
 have hs := ev_AdmitTasks' hf (room := room) (running := run) (list := lst) (wk := wk) (by unfold big; omega) (by unfold big; omega) (by unfold big; omega)
 have hl8 := admitD_length g room run lst wk
 have he := ev_equalInts (a := admitD g room run lst wk) (b := admitD g room run lst wk) (by omega)
 rw [decide_eq_true rfl] at he
 have hno : EvP (fun k => laws_FnAdmitTasks.j0 k g room run lst wk (admitD g room run lst wk) true) (fun x => x = true) := by
  refine EvP.succ ?_
  simp only [laws_FnAdmitTasks.j0]
  exact EvP.pos (by first | rfl | trivial) (Ev.bindP hs (Ev.bindP he (EvP.ret rfl)))
 refine Ev.bindP (Ev.const (admitD g room run lst wk)) (Ev.bindP hs (Ev.bindP he (EvP.pos rfl ?_)))
 by_cases hne : ((admitD g room run lst wk).length : Int) = 0
 ·rw [show ((((admitD g room run lst wk).length : Nat) : Int) == 0) = true from beq_iff_eq.2 hne]; exact hno
 rw [show ((((admitD g room run lst wk).length : Nat) : Int) == 0) = false from beq_eq_false_iff_ne.2 hne]
 have hne' : admitD g room run lst wk ≠ [] := fun e => hne (by rw [e]; rfl)
 obtain ⟨G, s, L, hG, hroom, w1, w4, hs2, e1, e2, hL, hLs, hLn, hfit, hd⟩ := admitD_some hne'
 have v := vg_of hG
 have h8 := v.n8
 have hpo := pool_ok hG
 obtain ⟨O, T, q1, q2, q3, q4, q5, q6, q7, q8, q9⟩ := admGo_spec hpo h8 (room := room) (wk := wk) L s _ [] (goodS_set (set_uok hpo hs2)) hs2 hL hLs hLn
 rw [← hd, List.nil_append] at q1
 have hO : O ≠ [] := fun e => hne' (by rw [q1, e]; rfl)
 have q8 := q8 hO
 rw [q1] at hl8 hno ⊢
 rw [up_length] at hl8
 rw [e1] at hno ⊢
 rw [e2] at hno ⊢
 clear hd hne' e1 e2 q1 hs he
 have hT8 := elemsN_length T
 have hin1 (j : Nat) := ev_lawsIsIn (L := up (elemsN s)) (by rw [up_length]; have := elemsN_length s; unfold big; omega) (j : Int)
 have hin2 (j : Nat) := ev_lawsIsIn (L := up O) (by rw [up_length]; unfold big; omega) (j : Int)
 have d1 (j : Nat) : decide ((j : Int) ∈ up (elemsN s)) = s.testBit j := v.in_dec hs2 j
 have d2 (j : Nat) : decide ((j : Int) ∈ up O) = decide (j ∈ O) := by simp only [mem_up]
 simp only [d1] at hin1
 simp only [d2] at hin2
 have hin3 (j : Nat) := ev_lawsIsIn (L := up L) (by
  rw [up_length]
  have h1 := fresh_len (up L) s (fresh_zero L s hL hLs hLn)
  rw [up_length] at h1
  have hzb : zb g.length s ≤ 8 := Nat.le_trans (by rw [zb_count]; have := List.length_filter_le (fun i => !s.testBit i) (List.range g.length); rw [List.length_range] at this; exact this) h8
  unfold big
  omega) (j : Int)
 have d3 (j : Nat) : decide ((j : Int) ∈ up L) = decide (j ∈ L) := by simp only [mem_up]
 simp only [d3] at hin3
 have hruns := (runsD_set hG hroom q3).2 (fun p p0 p2 => q6 p p0 p2 (hfit p p0 p2))
 have key1 : ∀ (r pre : List Nat), O = pre ++ r → EvP (fun k => laws_FnAdmitTasks.l1 k g room (up (elemsN s)) (up L) wk (up O) (up (elemsN T)) (pre.length : Int)) (fun x => x = true) := by
  intro r
  induction r with
  | nil =>
   intro pre hp
   rw [List.append_nil] at hp
   refine EvP.succ ?_
   simp only [laws_FnAdmitTasks.l1, up_length]
   refine EvP.neg (by rw [hp]; omega) ?_
   have hs8 := elemsN_length s
   rw [w64 (by omega) (by omega)]
   refine EvP.pos (by omega) (EvP.pos (by omega) (Ev.bindP (Ev.const (runsD g room (up (elemsN T)))) ?_))
   rw [hruns]
   exact EvP.ret rfl
  | cons j r ih =>
   intro pre hp
   have hl2 : O.length = pre.length + (r.length + 1) := by rw [hp]; simp
   have hrd : rd (up O) (pre.length : Int) = (j : Int) := by rw [rd_up (i := pre.length) rfl, hp]; simp
   have hw : wrap64 ((pre.length : Int) + 1) = ((pre ++ [j]).length : Int) := by rw [w64s (by unfold big; omega)]; simp
   have h3 := hin3 j
   rw [decide_eq_true (q2 j (by rw [hp]; simp))] at h3
   refine EvP.succ ?_
   simp only [laws_FnAdmitTasks.l1, hrd, hw]
   exact EvP.pos (by rw [up_length]; omega) (EvP.pos (by omega) (Ev.bindP h3 (EvP.pos rfl (ih (pre ++ [j]) (by rw [hp]; simp)))))
 have key : ∀ (d i : Nat) (X : List Nat), X = (List.range i).filter (fun j => T.testBit j) → i + d = g.length → EvP (fun k => laws_FnAdmitTasks.l0 k g room (up (elemsN s)) (up L) wk (up O) (up X) (i : Int)) (fun x => x = true) := by
  intro d
  induction d with
  | zero =>
   intro i X hX h
   refine EvP.succ ?_
   simp only [laws_FnAdmitTasks.l0]
   refine EvP.neg (by omega) ?_
   have hi : i = g.length := by omega
   rw [hi, ← elemsN_range' h8 q3] at hX
   rw [hX]
   exact key1 O [] rfl
  | succ d ih =>
   intro i X hX h
   have hw : wrap64 ((i : Int) + 1) = ((i + 1 : Nat) : Int) := w64s (by unfold big; omega)
   have hlen : (up X).length < 17592186044416 := by
    have := List.length_filter_le (fun j => T.testBit j) (List.range i)
    rw [List.length_range, ← hX] at this
    rw [up_length]
    exact Nat.lt_of_le_of_lt this (Nat.lt_trans (show i < g.length by omega) (Nat.lt_of_le_of_lt h8 (by decide)))
   have hb := q4 i
   have h1 := hin1 i
   have h2 := hin2 i
   have hsn : up (X ++ [i]) = up X ++ [(i : Int)] := by simp [up]
   have hyes : T.testBit i = true → EvP (fun k => laws_FnAdmitTasks.l0 k g room (up (elemsN s)) (up L) wk (up O) (up X ++ [(i : Int)]) ((i + 1 : Nat) : Int)) (fun x => x = true) := fun hT => by
    rw [← hsn]
    exact ih (i + 1) (X ++ [i]) (by rw [hX, List.range_succ, List.filter_append, List.filter_cons_of_pos hT, List.filter_nil]) (by omega)
   have hnoT : T.testBit i = false → EvP (fun k => laws_FnAdmitTasks.l0 k g room (up (elemsN s)) (up L) wk (up O) (up X) ((i + 1 : Nat) : Int)) (fun x => x = true) := fun hT => ih (i + 1) X (by rw [hX, List.range_succ, List.filter_append, List.filter_cons_of_neg (by rw [hT]; simp), List.filter_nil, List.append_nil]) (by omega)
   clear ih hX key1
   refine EvP.succ ?_
   simp only [laws_FnAdmitTasks.l0, hw]
   refine EvP.pos (by omega) (Ev.bindP h1 ?_)
   cases hsb : s.testBit i with
   | true =>
    rw [hsb, Bool.true_or] at hb
    exact EvP.pos rfl (EvP.pos hlen (hyes hb))
   | false =>
    rw [hsb, Bool.false_or] at hb
    refine EvP.neg (by simp) (Ev.bindP h2 ?_)
    by_cases hm : i ∈ O
    ·rw [decide_eq_true hm] at hb ⊢
     exact EvP.pos rfl (EvP.pos hlen (hyes hb))
    ·rw [decide_eq_false hm] at hb ⊢
     exact EvP.neg (by simp) (hnoT hb)
 refine EvP.succ ?_
 simp only [laws_FnAdmitTasks.j0]
 exact EvP.neg (by simp) (key g.length 0 [] rfl (by omega))
end Go.Proofs.YtpibdjkajgfgjaaDoor.Core
end
