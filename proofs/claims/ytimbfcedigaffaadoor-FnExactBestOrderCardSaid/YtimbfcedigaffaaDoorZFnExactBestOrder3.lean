/- The law FnExactBestOrder holds of the given program: the proof's own part, with its row and its card, part 3 of 5. -/
import Derived.Test.YtimbfcedigaffaaDoorZFnExactBestOrder2
section
set_option linter.unusedVariables false
set_option linter.unusedSimpArgs false
namespace Go.Proofs.YtimbfcedigaffaaDoor.Core
open Go Go.RowKit Go.Proofs.YtimbfcedigaffaaDoorW.PrintWords Go.Proofs.YtimbfcedigaffaaDoorW.PrintMore Go.Proofs.YtimbfcedigaffaaDoor.P
/-- The numbers from a on. -/
def cnt (a : Int) (n : Nat) : List Int := (List.range n).map (fun i => a + (i : Nat))
theorem cnt_length (a : Int) (n : Nat) : (cnt a n).length = n := by simp [cnt]
theorem cnt_get (a : Int) (n : Nat) {i : Nat} (h : i < n) : (cnt a n)[i]? = some (a + (i : Nat)) := by simp [cnt, h]
theorem ev_markIntS {L : List Int} {a : Int} (h0 : 0 ≤ a) (hL : a + L.length < 4611686018427387904) : Ev (fun k => laws_markIntS.f k L a) (a + L.length, cnt a L.length) := by
 have key : ∀ (d i : Nat), i + d = L.length → Ev (fun k => laws_markIntS.l0 k (cnt a i ++ L.drop i) (a + (i : Nat)) (i : Int)) (a + L.length, cnt a L.length) := by
  intro d
  induction d with
  | zero =>
   intro i h
   refine Ev.succ ((Ev.const _).of fun k => ?_)
   have hi : i = L.length := by omega
   subst hi
   rw [laws_markIntS.l0, if_neg (by simp [cnt_length]), List.drop_length, List.append_nil]
  | succ d ih =>
   intro i h
   refine Ev.succ ((ih (i + 1) (by omega)).of fun k => ?_)
   have hl : ((cnt a i ++ L.drop i).length : Int) = L.length := by
    rw [List.length_append, cnt_length, List.length_drop]; omega
   rw [laws_markIntS.l0, if_pos (by rw [hl]; omega), if_pos (by omega), w64 (by omega) (by omega), w64 (n := (i : Int) + 1) (by omega) (by omega)]
   have e : (cnt a i ++ L.drop i).set ((i : Int) : Int).toNat (a + (i : Nat)) = cnt a (i + 1) ++ L.drop (i + 1) := by
    rw [Int.toNat_natCast, List.set_append_right _ _ (by rw [cnt_length]; exact Nat.le_refl _), cnt_length, Nat.sub_self, List.drop_eq_getElem_cons (by omega)]
    simp only [List.set_cons_zero]
    unfold cnt
    rw [List.range_succ, List.map_append, List.append_assoc]
    rfl
   rw [e]
   congr 1
   omega
 have := key L.length 0 (by omega)
 unfold laws_markIntS.f
 simpa [cnt] using this
theorem ev_heldIntS {n : Nat} {a : Int} (h0 : 0 ≤ a) (hL : a + n < 4611686018427387904) : Ev (fun k => laws_heldIntS.f k (cnt a n) a) (a + n) := by
 have key : ∀ (d i : Nat), i + d = n → Ev (fun k => laws_heldIntS.l0 k (cnt a n) (a + (i : Nat)) (i : Int)) (a + n) := by
  intro d
  induction d with
  | zero =>
   intro i h
   refine Ev.succ ((Ev.const _).of fun k => ?_)
   have hi : i = n := by omega
   subst hi
   rw [laws_heldIntS.l0, if_neg (by rw [cnt_length]; omega)]
  | succ d ih =>
   intro i h
   refine Ev.succ ((ih (i + 1) (by omega)).of fun k => ?_)
   have hr : rd (cnt a n) (i : Int) = a + (i : Nat) := by
    unfold rd
    rw [Int.toNat_natCast, List.getD_eq_getElem?_getD, cnt_get a n (by omega), Option.getD_some]
   rw [laws_heldIntS.l0, if_pos (by rw [cnt_length]; omega), if_pos (by omega), if_pos hr, w64 (by omega) (by omega), w64 (n := (i : Int) + 1) (by omega) (by omega)]
   congr 1
   omega
 have := key n 0 (by omega)
 unfold laws_heldIntS.f
 simpa using this
theorem upI_eq {a : Int} (h0 : 0 ≤ a) : ∀ n : Nat, a + n < 4611686018427387904 → upI n a = a + n
 | 0, _ => by simp [upI]
 | n + 1, h => by
  rw [upI, upI_eq h0 n (by omega), w64 (by omega) (by omega)]
  omega
theorem mkT_le {l : List Tk} {a : Int} (h0 : 0 ≤ a) (ha : a < 1152921504606846976) (hl : l.length ≤ 1048576) (ht : ∀ t ∈ l, t.f1.length ≤ 1048576) : ∀ i : Nat, i ≤ l.length → 0 ≤ mkT l a i ∧ mkT l a i ≤ a + i * 1048579
 | 0, _ => by simp [mkT]; omega
 | i + 1, hi => by
  obtain ⟨h1, h2⟩ := mkT_le h0 ha hl ht i (by omega)
  have hm : (l.getD i z39).f1.length ≤ 1048576 := by
   rw [List.getD_eq_getElem?_getD, List.getElem?_eq_getElem (by omega)]
   exact ht _ (List.getElem_mem _)
  have hb : (i : Int) * 1048579 ≤ 1048576 * 1048579 := by omega
  rw [mkT, w64 (n := mkT l a i + 1) (by omega) (by omega), upI_eq (by omega) _ (by omega)]
  rw [w64 (n := mkT l a i + 1 + ((l.getD i z39).f1.length : Nat) + 1) (by omega) (by omega), w64 (by omega) (by omega)]
  omega
end Go.Proofs.YtimbfcedigaffaaDoor.Core
end
