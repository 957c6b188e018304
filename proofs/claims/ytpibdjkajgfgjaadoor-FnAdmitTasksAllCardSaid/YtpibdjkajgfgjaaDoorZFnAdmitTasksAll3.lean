/- The law FnAdmitTasksAll holds of the given program: the proof's own part, with its row and its card, part 3 of 4. -/
import Derived.Test.YtpibdjkajgfgjaaDoorZFnAdmitTasksAll2
section
set_option linter.unusedVariables false
set_option linter.unusedSimpArgs false
namespace Go.Proofs.YtpibdjkajgfgjaaDoor.Core
open Go Go.RowKit Go.Proofs.YtpibdjkajgfgjaaDoorW.PrintWords Go.Proofs.YtpibdjkajgfgjaaDoorW.PrintMore Go.Proofs.YtpibdjkajgfgjaaDoor.P
theorem FnAdmitTasksAll_pure (l0 : List Int) (hW : Bytes l0) : ∃ k, laws_FnAdmitTasksAll.f k l0 = some true := by
 refine Ev.one (f := fun k => laws_FnAdmitTasksAll.f k l0) (EvP.ev ?_)
 unfold laws_FnAdmitTasksAll.f
 refine EvP.ite (fun _ => EvP.ret rfl) (fun hlen => ?_)
 refine (ev_DrawAdmitTasks hW).bind fun ⟨g, room, run, lst, wk⟩ hg => ?_
 obtain ⟨hg, hr, hu, hl, hw0, hw5⟩ := hg
 dsimp only at hg hr hu hl hw0 hw5 ⊢
 have hf := hg.fits (by unfold big; omega) (by unfold big; omega)
 have hs := ev_AdmitTasks' hf (room := room) (running := run) (list := lst) (wk := wk) (by unfold big; omega) (by unfold big; omega) (by unfold big; omega)
 have hl8 := admitD_length g room run lst wk
 have he := ev_equalInts (a := admitD g room run lst wk) (b := admitD g room run lst wk) (by omega)
 rw [decide_eq_true rfl] at he
 have hno : EvP (fun k => laws_FnAdmitTasksAll.j0 k g room run lst wk (admitD g room run lst wk) true) (fun x => x = true) := by
  refine EvP.succ ?_
  simp only [laws_FnAdmitTasksAll.j0]
  exact EvP.pos (by first | rfl | trivial) (Ev.bindP hs (Ev.bindP he (EvP.ret rfl)))
 refine Ev.bindP (Ev.const (admitD g room run lst wk)) (Ev.bindP hs (Ev.bindP he (EvP.pos rfl ?_)))
 refine EvP.ite (fun _ => hno) (fun hne => ?_)
 by_cases hfull : wrap64 ((run.length : Int) + ((admitD g room run lst wk).length : Int)) = wk
 ·rw [show (wrap64 ((run.length : Int) + ((admitD g room run lst wk).length : Int)) == wk) = true from beq_iff_eq.2 hfull]; exact hno
 rw [show (wrap64 ((run.length : Int) + ((admitD g room run lst wk).length : Int)) == wk) = false from beq_eq_false_iff_ne.2 hfull]
 rw [w64 (by omega) (by omega)] at hfull
 have hne' : admitD g room run lst wk ≠ [] := fun e => hne (by rw [e]; rfl)
 obtain ⟨G, s, L, hG, hroom, w1, w4, hs2, e1, e2, hL, hLs, hLn, hfit, hd⟩ := admitD_some hne'
 have v := vg_of hG
 have h8 := v.n8
 have hpo := pool_ok hG
 obtain ⟨O, T, q1, q2, q3, q4, q5, q6, q7, q8, q9⟩ := admGo_spec hpo h8 (room := room) (wk := wk) L s _ [] (goodS_set (set_uok hpo hs2)) hs2 hL hLs hLn
 rw [← hd, List.nil_append] at q1
 have hO : O ≠ [] := fun e => hne' (by rw [q1, e]; rfl)
 have q8 := q8 hO
 rw [q1] at hl8 hno hfull ⊢
 rw [up_length] at hl8 hfull
 rw [e1, up_length] at hfull
 rw [e1] at hno ⊢
 rw [e2] at hno ⊢
 clear hd hne' e1 e2 q1 hs he
 have hT8 := elemsN_length T
 have hin1 (j : Nat) := ev_lawsIsIn (L := up (elemsN s)) (by rw [up_length]; have := elemsN_length s; unfold big; omega) (j : Int)
 have hin2 (j : Nat) := ev_lawsIsIn (L := up O) (by rw [up_length]; unfold big; omega) (j : Int)
 have d1 (j : Nat) : decide ((j : Int) ∈ up (elemsN s)) = s.testBit j := v.in_dec hs2 j
 have d2 (j : Nat) : decide ((j : Int) ∈ up O) = decide (j ∈ O) := by simp only [mem_up]
 simp only [d1] at hin1
 simp only [d2] at hin2
 have hlt : ((elemsN T).length : Int) < wk := by omega
 have hL8 : L.length ≤ 8 := by
  have h1 := fresh_len (up L) s (fresh_zero L s hL hLs hLn)
  rw [up_length] at h1
  have hzb : zb g.length s ≤ 8 := Nat.le_trans (by rw [zb_count]; have := List.length_filter_le (fun i => !s.testBit i) (List.range g.length); rw [List.length_range] at this; exact this) h8
  omega
 have hnot : ∀ x ∈ L, x ∉ O → runsD g room (up (elemsN (T ||| 2 ^ x))) = false := by
  intro x hx hxO
  have hxg := hL x hx
  cases hrr : runsD g room (up (elemsN (T ||| 2 ^ x))) with
  | false => rfl
  | true =>
   obtain ⟨hp2, hp3⟩ := hpo x hxg
   have h1 := (runsD_set hG hroom (or_lt q3 hxg)).1 hrr _ hp2.1 hp2.2
   have hTx : T.testBit x = false := by rw [q4, hLs x hx, decide_eq_false hxO]; rfl
   rw [(usedN_or g _ (by omega) hTx).1, if_pos rfl] at h1
   have h2 := q9 x hx hxO hlt
   omega
 have key : ∀ (r pre : List Nat), L = pre ++ r → EvP (fun k => laws_FnAdmitTasksAll.l0 k g room (up (elemsN s)) (up L) (up O) (pre.length : Int)) (fun x => x = true) := by
  intro r
  induction r with
  | nil =>
   intro pre hp
   rw [List.append_nil] at hp
   refine EvP.succ ?_
   simp only [laws_FnAdmitTasksAll.l0, up_length]
   exact EvP.neg (by rw [hp]; omega) (EvP.ret rfl)
  | cons x r ih =>
   intro pre hp
   have hl2 : L.length = pre.length + (r.length + 1) := by rw [hp]; simp
   have hrd : rd (up L) (pre.length : Int) = (x : Int) := by rw [rd_up (i := pre.length) rfl, hp]; simp
   have hw : wrap64 ((pre.length : Int) + 1) = ((pre ++ [x]).length : Int) := by rw [w64s (by unfold big; omega)]; simp
   have hxL : x ∈ L := by rw [hp]; simp
   have hxg := hL x hxL
   have hnext := ih (pre ++ [x]) (by rw [hp]; simp)
   have hU := or_lt q3 hxg
   obtain ⟨U, hUe⟩ : ∃ U, U = T ||| 2 ^ x := ⟨_, rfl⟩
   have hUb (j : Nat) : U.testBit j = ((s.testBit j || decide (j ∈ O)) || decide (x = j)) := by rw [hUe, or_bit, q4]
   rw [← hUe] at hU
   have hUr : x ∉ O → runsD g room (up (elemsN U)) = false := by rw [hUe]; exact hnot x hxL
   have inner : ∀ (d i : Nat) (X : List Nat), X = (List.range i).filter (fun j => U.testBit j) → i + d = g.length → EvP (fun k => laws_FnAdmitTasksAll.l1 k g room (up (elemsN s)) (up L) (up O) (pre.length : Int) (up X) (i : Int)) (fun x => x = true) := by
    intro d
    induction d with
    | zero =>
     intro i X hX h
     have h2 := hin2 x
     refine EvP.succ ?_
     simp only [laws_FnAdmitTasksAll.l1, hrd, hw]
     have hi : i = g.length := by omega
     refine EvP.neg (by omega) (EvP.pos (by omega) (EvP.pos (by rw [up_length]; omega) (Ev.bindP h2 ?_)))
     rw [hi, ← elemsN_range' h8 hU] at hX
     rw [hX]
     by_cases hm : x ∈ O
     ·rw [decide_eq_true hm]
      exact EvP.pos rfl hnext
     ·rw [decide_eq_false hm]
      refine EvP.neg (by simp) (Ev.bindP (Ev.const (runsD g room (up (elemsN U)))) ?_)
      rw [hUr hm]
      exact EvP.neg (by simp) hnext
    | succ d ih2 =>
     intro i X hX h
     have hw2 : wrap64 ((i : Int) + 1) = ((i + 1 : Nat) : Int) := w64s (by unfold big; omega)
     have hlen : (up X).length < 17592186044416 := by
      have := List.length_filter_le (fun j => U.testBit j) (List.range i)
      rw [List.length_range, ← hX] at this
      rw [up_length]
      exact Nat.lt_of_le_of_lt this (Nat.lt_trans (show i < g.length by omega) (Nat.lt_of_le_of_lt h8 (by decide)))
     have hb := hUb i
     have h1 := hin1 i
     have h2 := hin2 i
     have hsn : up (X ++ [i]) = up X ++ [(i : Int)] := by simp [up]
     have hyes : U.testBit i = true → EvP (fun k => laws_FnAdmitTasksAll.l1 k g room (up (elemsN s)) (up L) (up O) (pre.length : Int) (up X ++ [(i : Int)]) ((i + 1 : Nat) : Int)) (fun x => x = true) := fun hT => by
      rw [← hsn]
      exact ih2 (i + 1) (X ++ [i]) (by rw [hX, List.range_succ, List.filter_append, List.filter_cons_of_pos hT, List.filter_nil]) (by omega)
     have hnoT : U.testBit i = false → EvP (fun k => laws_FnAdmitTasksAll.l1 k g room (up (elemsN s)) (up L) (up O) (pre.length : Int) (up X) ((i + 1 : Nat) : Int)) (fun x => x = true) := fun hT => ih2 (i + 1) X (by rw [hX, List.range_succ, List.filter_append, List.filter_cons_of_neg (by rw [hT]; simp), List.filter_nil, List.append_nil]) (by omega)
     clear ih2 hX hnext ih hUr
     refine EvP.succ ?_
     simp only [laws_FnAdmitTasksAll.l1, hrd, hw2]
     refine EvP.pos (by omega) (Ev.bindP h1 ?_)
     cases hsb : s.testBit i with
     | true =>
      rw [hsb, Bool.true_or, Bool.true_or] at hb
      exact EvP.pos rfl (EvP.pos hlen (hyes hb))
     | false =>
      rw [hsb, Bool.false_or] at hb
      refine EvP.neg (by simp) (Ev.bindP h2 ?_)
      by_cases hm : i ∈ O
      ·rw [decide_eq_true hm] at hb ⊢
       rw [Bool.true_or] at hb
       exact EvP.pos rfl (EvP.pos hlen (hyes hb))
      ·rw [decide_eq_false hm] at hb ⊢
       rw [Bool.false_or] at hb
       refine EvP.neg (by simp) (EvP.pos (by omega) (EvP.pos (by rw [up_length]; omega) ?_))
       by_cases hxi : x = i
       ·rw [decide_eq_true hxi] at hb
        exact EvP.pos (by rw [hxi]) (EvP.pos hlen (hyes hb))
       ·rw [decide_eq_false hxi] at hb
        exact EvP.neg (fun e => hxi (Int.ofNat_inj.1 e)) (hnoT hb)
   refine EvP.succ ?_
   simp only [laws_FnAdmitTasksAll.l0]
   exact EvP.pos (by rw [up_length]; omega) (inner g.length 0 [] rfl (by omega))
 refine EvP.succ ?_
 simp only [laws_FnAdmitTasksAll.j0]
 exact EvP.neg (by simp) (key L [] rfl)
end Go.Proofs.YtpibdjkajgfgjaaDoor.Core
end
