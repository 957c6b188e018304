/- The law FnExactUselessNeeds holds of the given program: the proof's own part, with its row and its card, part 6 of 7. -/
import Derived.Test.YtpdgnncnejmhfaaDoorZFnExactUselessNeeds5
section
set_option linter.unusedVariables false
set_option linter.unusedSimpArgs false
namespace Go.Proofs.YtpdgnncnejmhfaaDoor.Core
open Go Go.RowKit Go.Shelf Go.Proofs.YtpdgnncnejmhfaaDoorW.PrintWords Go.Proofs.YtpdgnncnejmhfaaDoorW.PrintLast Go.Proofs.YtpdgnncnejmhfaaDoorW.PrintMore Go.Proofs.YtpdgnncnejmhfaaDoor.P
attribute [local go_sem] Oper.semAt_some wide_fn wide_depth
/-- The rows marked from a number on. -/
def mkSS : List (List Int) → Int → List (List Int)
  | [], _ => []
  | x :: r, a => cnt a x.length :: mkSS r (a + x.length)
def totL : List (List Int) → Nat
  | [] => 0
  | x :: r => x.length + totL r
theorem mkSS_length : ∀ (R : List (List Int)) (a : Int), (mkSS R a).length = R.length
  | [], _ => rfl
  | x :: r, a => by unfold mkSS; rw [List.length_cons, mkSS_length r, List.length_cons]
theorem mkSS_snoc (x : List Int) : ∀ (R : List (List Int)) (a : Int), mkSS (R ++ [x]) a = mkSS R a ++ [cnt (a + totL R) x.length]
  | [], a => by simp [mkSS, totL]
  | y :: r, a => by
    rw [List.cons_append]
    unfold mkSS totL
    rw [mkSS_snoc x r, List.cons_append]
    rw [show a + (y.length : Int) + (totL r : Int) = a + ((y.length + totL r : Nat) : Int) by omega]
theorem totL_snoc (x : List Int) : ∀ R : List (List Int), totL (R ++ [x]) = totL R + x.length
  | [] => by simp [totL]
  | y :: r => by
    rw [List.cons_append]
    unfold totL
    rw [totL_snoc x r]
    omega
theorem totL_take {R : List (List Int)} {j : Nat} (hj : j < R.length) : totL (R.take (j + 1)) = totL (R.take j) + R[j].length := by
  rw [List.take_add_one, List.getElem?_eq_getElem hj]
  exact totL_snoc _ _
theorem totL_le (R : List (List Int)) (j : Nat) : totL (R.take j) ≤ totL R := by
  induction R generalizing j with
  | nil => simp [totL]
  | cons x r ih =>
    cases j with
    | zero => simp [totL]
    | succ j =>
      rw [List.take_succ_cons]
      unfold totL
      have := ih j
      omega
/-- What the rows hold behind j marks. -/
def mkJ (R : List (List Int)) (a : Int) (j : Nat) : List (List Int) := mkSS (R.take j) a ++ R.drop j
theorem mkJ_length (R : List (List Int)) (a : Int) (j : Nat) : (mkJ R a j).length = R.length := by
  unfold mkJ
  rw [List.length_append, mkSS_length, List.length_take, List.length_drop]
  omega
theorem mkJ_get {R : List (List Int)} {a : Int} {j : Nat} (hj : j < R.length) (h2 : j < (mkJ R a j).length) : (mkJ R a j)[j] = R[j] := by
  have e : (mkJ R a j)[j]? = R[j]? := by
    unfold mkJ
    have hl : (mkSS (R.take j) a).length = j := by rw [mkSS_length, List.length_take]; omega
    rw [List.getElem?_append_right (by rw [hl]; exact Nat.le_refl _), hl, Nat.sub_self, List.getElem?_drop]
    rfl
  rw [List.getElem?_eq_getElem h2, List.getElem?_eq_getElem hj] at e
  exact Option.some.inj e
theorem mkJ_set {R : List (List Int)} {a : Int} {j : Nat} (hj : j < R.length) : (mkJ R a j).set j (cnt (a + totL (R.take j)) R[j].length) = mkJ R a (j + 1) := by
  unfold mkJ
  have hl : (mkSS (R.take j) a).length = j := by rw [mkSS_length, List.length_take]; omega
  rw [List.set_append_right _ _ (by rw [hl]; exact Nat.le_refl _), hl, Nat.sub_self, List.drop_eq_getElem_cons hj, List.set_cons_zero]
  rw [List.take_add_one, List.getElem?_eq_getElem hj, show R.take j ++ (some R[j]).toList = R.take j ++ [R[j]] from rfl, mkSS_snoc, List.append_assoc]
  rfl
theorem mkJ_all (R : List (List Int)) (a : Int) : mkJ R a R.length = mkSS R a := by
  unfold mkJ
  rw [List.take_length, List.drop_length, List.append_nil]
/-- The marks are held. -/
theorem ev_heldIntSS {R : List (List Int)} {a : Int} (h0 : 0 ≤ a) (hL : a + totL R < 4611686018427387904) (hn : R.length < 1000000) : Ev (fun k => laws_heldIntSS.f k (mkSS R a) a) (a + totL R) := by
  have key : ∀ (d i : Nat), i + d = R.length → Ev (fun k => laws_heldIntSS.l0 k (mkSS R a) (a + (totL (R.take i) : Nat)) (i : Int)) (a + totL R) := by
    intro d
    induction d with
    | zero =>
      intro i h
      refine Ev.succ ?_
      simp only [laws_heldIntSS.l0]
      refine Ev.neg (by rw [mkSS_length]; omega) ?_
      rw [List.take_of_length_le (by omega)]
      exact Ev.const _
    | succ d ih =>
      intro i h
      have hi : i < R.length := by omega
      have hle := totL_le R (i + 1)
      rw [totL_take hi] at hle
      have hrd : rd_L1 (mkSS R a) (i : Int) = cnt (a + totL (R.take i)) R[i].length := by
        have e : (mkSS R a)[i]? = some (cnt (a + totL (R.take i)) R[i].length) := by
          rw [← mkJ_all R a]
          have h2 : ∀ j, i < j → j ≤ R.length → (mkJ R a j)[i]? = some (cnt (a + totL (R.take i)) R[i].length) := by
            intro j hij
            induction j with
            | zero => omega
            | succ j ihj =>
              intro hjl
              rw [← mkJ_set (show j < R.length by omega)]
              by_cases he : j = i
              · subst he
                rw [List.getElem?_set_self (by rw [mkJ_length]; omega)]
              · rw [List.getElem?_set_ne he]
                exact ihj (by omega) (by omega)
          exact h2 R.length hi (Nat.le_refl _)
        unfold rd_L1
        rw [Int.toNat_natCast, List.getD_eq_getElem?_getD, e, Option.getD_some]
      refine Ev.succ ?_
      simp only [laws_heldIntSS.l0]
      refine Ev.pos (by rw [mkSS_length]; omega) (Ev.pos (by omega) ?_)
      rw [hrd, w64 (n := (i : Int) + 1) (by omega) (by omega), show ((i : Nat) : Int) + 1 = ((i + 1 : Nat) : Int) by omega]
      refine Ev.bind (ev_heldIntS (by omega) (by omega)) (Ev.neg (by omega) ?_)
      have h3 := ih (i + 1) (by omega)
      rw [totL_take hi] at h3
      rw [show a + (totL (R.take i) : Int) + (R[i].length : Int) = a + ((totL (R.take i) + R[i].length : Nat) : Int) by omega]
      exact h3
  have h := key R.length 0 (by omega)
  unfold laws_heldIntSS.f
  simpa [totL] using h
theorem ev_eqIntSS {R : List (List Int)} (hn : R.length < 1000000) (hr : ∀ x ∈ R, x.length < 1000000) : Ev (fun k => laws_eqIntSS.f k R R) true := by
  have key : ∀ (d i : Nat), i + d = R.length → Ev (fun k => laws_eqIntSS.l0 k R R (i : Int)) true := by
    intro d
    induction d with
    | zero =>
      intro i h
      refine Ev.succ ?_
      simp only [laws_eqIntSS.l0]
      exact Ev.neg (by omega) (Ev.const _)
    | succ d ih =>
      intro i h
      have hi : i < R.length := by omega
      refine Ev.succ ?_
      simp only [laws_eqIntSS.l0]
      refine Ev.pos (by omega) (Ev.pos (by omega) (Ev.pos (by omega) ?_))
      have hrd : rd_L1 R (i : Int) = R[i] := by
        unfold rd_L1
        rw [Int.toNat_natCast, List.getD_eq_getElem?_getD, List.getElem?_eq_getElem hi, Option.getD_some]
      rw [hrd, w64 (n := (i : Int) + 1) (by omega) (by omega), show ((i : Nat) : Int) + 1 = ((i + 1 : Nat) : Int) by omega]
      exact Ev.bind (ev_eqIntS (L := R[i]) (by have := hr R[i] (List.getElem_mem hi); unfold big; omega)) (Ev.pos rfl (ih (i + 1) (by omega)))
  unfold laws_eqIntSS.f
  exact Ev.pos rfl (key R.length 0 (by omega))
set_option maxRecDepth 100000 in
set_option maxHeartbeats 4000000 in
/-- markIntSS over rows that lie apart. -/
theorem markIntSS_in (ok : Nat → Prop) (A : Option Addr) (c : Nat) (R : List (List Int)) (a : Int) (w0 w : World) (h0 : 0 ≤ a) (hL : a + totL R < 4611686018427387904) (hn : R.length < 1000000) (hb : Below w0.heap.size w0 w) (hS : Kd.S (Kd.slice 3 (Kd.int .i64)) 35 w w0.heap.size ok (.slice A R.length c) R) :
    Calls Tryd.prog 12 #[.slice A R.length c, .int .i64 a] w fun e w' => e = .returned (.int .i64 (a + totL R)) ∧ Kd.S (Kd.slice 3 (Kd.int .i64)) 35 w' w0.heap.size ok (.slice A R.length c) (mkSS R a) ∧ Below w0.heap.size w0 w' ∧ Kept w w' (fun k => ok k) := by
  obtain ⟨f, hf⟩ := hS
  have HL := Aside0.mk (show 0 ≤ a ∧ a + totL R < 4611686018427387904 ∧ R.length < 1000000 from ⟨h0, hL, hn⟩)
  have HF := Aside0.mk hf
  have HB0 := Aside0.mk hb
  clear hf h0 hL hn hb
  go_enter Tryd.func12, Tryd.ntmps12
  go_wp2
  go_loopg [1, 5] R.length (fun kq v1 v5 w' => ∃ (j : Nat) (x y : Int), v1 = .int .i64 y ∧ v5 = .int .i64 x ∧ Aside0 (kq + j = R.length ∧ x = (j : Int) ∧ y = a + (totL (R.take j) : Nat)) ∧ Aside0 ((Kd.tag f (Kd.slice 3 (Kd.int .i64))).R 35 w' w0.heap.size ok (.slice A R.length c) (mkJ R a j).zipIdx) ∧ Aside0 (Below w0.heap.size w0 w' ∧ Kept w w' (fun k => ok k)))
  case atStart =>
    refine ⟨0, 0, a, rfl, rfl, ⟨by omega, rfl, ?_⟩, ⟨?_⟩, ⟨HB0.out, Kept.refl _ _⟩⟩
    · rw [List.take_zero]; show a = a + ((0 : Nat) : Int); omega
    · have e : mkJ R a 0 = R := by unfold mkJ; rw [List.take_zero, List.drop_zero]; rfl
      rw [e]; exact HF.out
  case round =>
    clear HF
    obtain ⟨j, x, y, rfl, rfl, HJ, HT_, HB⟩ := hrel
    have h1 := HJ.out.1
    have h2 := HJ.out.2.1
    have h3 := HJ.out.2.2
    by_cases hlt : j < R.length
    · have hd : decide (x < (R.length : Int)) = true := decide_eq_true (by omega)
      obtain ⟨g, cap, hv, hB1, hgl, cur0, hg0⟩ := Kd.R_form HT_.out (by rw [List.length_zipIdx, mkJ_length]; omega)
      injection hv with hA hln hc
      subst hA
      clear hln hc hB1 hgl hg0
      have hlen : j < (mkJ R a j).length := by rw [mkJ_length]; exact hlt
      obtain ⟨u, hu, hRu⟩ := tag_at HT_.out hlen
      rw [mkJ_get hlt hlen] at hRu
      have hx : wr.cell? ⟨g, x.toNat, none⟩ = some u := by rw [show x.toNat = j by omega]; exact hu
      have p0 : 0 ≤ x := by omega
      have q0 : x < (R.length : Int) := by omega
      replace p0 := eq_true p0
      replace q0 := eq_true q0
      have hle := totL_le R (j + 1)
      rw [totL_take hlt] at hle
      have hL := HL.out
      have hms := mkJ_set (a := a) hlt
      obtain ⟨q, hq⟩ : ∃ q, q = R[j] := ⟨_, rfl⟩
      rw [← hq] at hRu hle hms
      rw [← h3] at hms
      have HMS := Aside0.mk hms
      obtain ⟨kk, hkk⟩ := (ev_markIntS (L := q) (a := y) (by omega) (by omega)).one
      have HC := Aside0.mk (laws_markIntS.calls kk (fun k => (ok k ∧ some k ≠ some g) ∧ f k = j) u q y _ _ w0 wr HB.out.1 hRu hkk)
      have HI2 := Aside0.mk (show (R.length - (j + 1)) + (j + 1) = R.length ∧ wrap64 (x + 1) = ((j + 1 : Nat) : Int) ∧ y + (q.length : Int) = a + (totL (R.take (j + 1)) : Nat) from ⟨by omega, by unfold wrap64; omega, by rw [h3, totL_take hlt, ← hq]; omega⟩)
      have HU := Aside0.mk hu
      have HRu := Aside0.mk hRu
      have HLEN := Aside0.mk hlen
      have hk : gk = (R.length - (j + 1)) + 1 := by omega
      clear h1 h2 h3 hL hle hkk hu hRu hlen HJ hms hq hlt
      subst hk
      clear hd
      go_wp2_with (go_at_call 26; refine HC.out.mono ?_; rintro e w2 ⟨rfl, hR2, hb2, hk2⟩; have HT2 := Aside0.mk (tag_set HT_.out HLEN.out HU.out (R_okI hR2 HRu.out.1) (fun k h4 h5 => hk2.2 k h4 h5)); have HB2 := Aside0.mk (And.intro hb2 (HB.out.2.then_ hk2 (fun k hk => .inl hk.1.1))); clear hR2 hb2 hk2 HC)
      go_roundg (R.length - (j + 1))
      case measure => omega
      case rel =>
        refine ⟨j + 1, _, _, rfl, rfl, HI2, ⟨?_⟩, HB2⟩
        rw [← HMS.out]
        exact HT2.out
    · have hd : decide (x < (R.length : Int)) = false := decide_eq_false (by omega)
      have hj : j = R.length := by omega
      subst hj
      rw [List.take_length] at h3
      rw [h3]
      clear h1 h2 h3 hlt
      go_wp2
      go_ret
      refine ⟨rfl, ⟨f, ?_⟩, HB.out.1, HB.out.2⟩
      have := HT_.out
      rw [mkJ_all] at this
      exact this
theorem heldIntSS_n {k : Nat} {A : Option Addr} {c n : Nat} {l : List (List Int)} {a r : Int} {w : World} (hn : n = l.length ∧ n ≤ c ∧ (Kd.slice 3 (Kd.int .i64)).C w A l.length l) (h : laws_heldIntSS.f k l a = some r) :
    Calls Tryd.prog 13 #[.slice A n c, .int .i64 a] w fun e w' => e = .returned (.int .i64 r) ∧ Drawn0 w w' := by
  obtain ⟨rfl, hc, hC⟩ := hn
  exact laws_heldIntSS.calls k A c l a r w hC hc h
theorem totL_bound {R : List (List Int)} {m : Nat} (h : ∀ x ∈ R, x.length ≤ m) : totL R ≤ R.length * m := by
  induction R with
  | nil => simp [totL]
  | cons x r ih =>
    unfold totL
    have h1 := ih (fun y hy => h y (List.mem_cons_of_mem _ hy))
    have h2 := h x (List.mem_cons_self ..)
    rw [List.length_cons, Nat.succ_mul]
    omega
end Go.Proofs.YtpdgnncnejmhfaaDoor.Core
end
section
set_option linter.unusedVariables false
set_option linter.unusedSimpArgs false
namespace Go.Proofs.YtpdgnncnejmhfaaDoor.P
open Go Go.RowKit Go.Shelf Go.Proofs.YtpdgnncnejmhfaaDoorW.PrintWords Go.Proofs.YtpdgnncnejmhfaaDoorW.PrintLast Go.Proofs.YtpdgnncnejmhfaaDoorW.PrintMore Go.Proofs.YtpdgnncnejmhfaaDoor.Core
/-- What the walk takes: the functions' results. -/
structure laws_FnExactUselessNeeds.Facts (k : Nat) (l0 : List S37) : Prop where
  out : ∃ (y0 : List S39) (R R' : List (List Int)) (M : Int), laws_toTaskS.f k l0 = some y0 ∧ spec_UselessNeeds.f k y0 = some R ∧ impl_UselessNeeds.f y0 = some R ∧ laws_eqIntSS.f k R R = some true ∧ laws_eqTaskS.f k y0 y0 = some true ∧ (R' = mkSS R 1 ∧ M = 1 + (totL R : Int) ∧ (1 : Int) + totL R < 4611686018427387904 ∧ R.length < 1000000) ∧ laws_heldIntSS.f k R' 1 = some M ∧ 0 ≤ M ∧ 0 ≤ mkT y0 (1) y0.length
open Classical in
noncomputable def laws_FnExactUselessNeeds.f (k : Nat) (l0 : List S37) : Option Bool := (laws_szTaskS.f k l0 1048576).bind fun left => if left < 0 then some true else (if laws_FnExactUselessNeeds.Facts k l0 then some true else none)
set_option maxRecDepth 100000 in
set_option maxHeartbeats 16000000 in
theorem laws_FnExactUselessNeeds.calls (k : Nat) (A0 : Option Addr) (c0 : Nat) (l0 : List S37) (r : Bool) (w : World) (hr0 : Kd.C k37 w A0 l0.length l0) (hc0 : l0.length ≤ c0) (hT : Tab w) (h : laws_FnExactUselessNeeds.f k l0 = some r) :
    Calls Tryd.prog 3 #[.slice A0 l0.length c0] w fun e w' => e = .returned (.bool r) ∧ Below w.heap.size w w' := by
  have HR0 := Aside0.mk hr0
  have HC0 := Aside0.mk hc0
  have HT := Aside0.mk hT
  have HB := Aside0.mk (Below.refl w.heap.size w)
  clear hT hr0 hc0
  unfold laws_FnExactUselessNeeds.f at h
  obtain ⟨left, hl, h⟩ := Option.bind_eq_some_iff.mp h
  have FZ := Aside0.mk hl
  clear hl
  by_cases bl : left < 0
  · rw [if_pos bl] at h
    obtain rfl := Option.some.inj h
    have d1 : decide (left < 0) = true := decide_eq_true bl
    clear h bl
    go_enter Tryd.func3, Tryd.ntmps3
    have g1 := Aside0.mk trivial
    go_wp2_with (go_at_call 5; clear g1; refine (laws_szTaskS.calls (hr0 := HR0.out) (hc0 := HC0.out) (h := FZ.out)).mono ?_; rintro e w1 ⟨rfl, hb⟩; replace HB := Aside0.mk hb; clear hb)
    go_ret
    exact ⟨rfl, HB.out⟩
  rw [if_neg bl] at h
  have dl : decide (left < 0) = false := decide_eq_false bl
  clear bl
  have hF := Core.of_if_some h
  obtain rfl := hF.2
  have hF := hF.1
  clear h
  obtain ⟨y0, R, R', M, f0, fs, fi, er, e0, fm, fh, hM, fk⟩ := hF.out
  have F0 := Aside0.mk f0
  have FS := Aside0.mk fs
  have FI := Aside0.mk fi
  have ER := Aside0.mk er
  have E0 := Aside0.mk e0
  have FM := Aside0.mk fm
  have FH := Aside0.mk fh
  have FK := Aside0.mk fk
  have dM : decide (M < 0) = false := decide_eq_false (Int.not_lt.2 hM)
  clear hF f0 fs fi er e0 fm fh hM fk
  go_enter Tryd.func3, Tryd.ntmps3
  have g2 := Aside0.mk trivial
  go_wp2_with (go_at_call 5; clear g2; refine (laws_szTaskS.calls (hr0 := HR0.out) (hc0 := HC0.out) (h := FZ.out)).mono ?_; rintro e w1 ⟨rfl, hb⟩; have z1 := Aside0.mk (hb).size; replace HB := Aside0.mk (below_step HB.out hb); clear hb)
  have g3 := Aside0.mk trivial
  go_wp2_with (go_at_call 7; clear g3; refine (laws_toTaskS.calls (hr0 := Kd.C_below HR0.out HB.out) (hc0 := HC0.out) (h := F0.out)).mono ?_; rintro e w2 ⟨v_w0_aG, rfl, ho, hb⟩; have z2 := Aside0.mk (hb).size; replace HB := Aside0.mk (below_step HB.out hb); have H_w0_aG := Aside0.mk (Kd.R_mono (Kd.R_bound (Kd.S_R ho)) (fun k_ hk_ => hk_.2.2.1) : Kd.R k39 39 w2 w1.heap.size (fun k_ => k_ < w2.heap.size) v_w0_aG _); obtain ⟨A_w0_aG, c_w0_aG, e_w0_aG⟩ := Kd.R_slice H_w0_aG.out; subst e_w0_aG; clear ho hb)
  have g4 := Aside0.mk trivial
  go_wp2_with (go_at_call 6; clear g4; refine (spec_UselessNeeds.calls (hr0 := (Kd.R_reads' H_w0_aG.out).2.2) (hc0 := (Kd.R_reads' H_w0_aG.out).2.1) (h := FS.out)).mono ?_; rintro e w3 ⟨v_w0, rfl, ho, hb⟩; have z3 := Aside0.mk (hb).size; replace HB := Aside0.mk (below_step HB.out hb); replace H_w0_aG := Aside0.mk (Kd.R_below H_w0_aG.out hb); have H_w0 := Aside0.mk (Kd.S_mono (Kd.S_bound ho) (fun k_ hk_ => hk_.2.2.1) : Kd.S (Kd.slice 3 (Kd.int .i64)) 35 w3 w2.heap.size (fun k_ => k_ < w3.heap.size) v_w0 _); obtain ⟨A_w0, c_w0, e_w0⟩ := Kd.S_slice H_w0.out; subst e_w0; clear ho hb)
  clear H_w0_aG
  have g5 := Aside0.mk trivial
  go_wp2_with (go_at_call 7; clear g5; refine (laws_toTaskS.calls (hr0 := Kd.C_below HR0.out HB.out) (hc0 := HC0.out) (h := F0.out)).mono ?_; rintro e w4 ⟨v_x0, rfl, ho, hb⟩; have z4 := Aside0.mk (hb).size; replace HB := Aside0.mk (below_step HB.out hb); replace H_w0 := Aside0.mk (Kd.S_below H_w0.out hb); have H_x0 := Aside0.mk (Kd.R_mono (Kd.R_bound (Kd.S_R ho)) (fun k_ hk_ => hk_.2.2.1) : Kd.R k39 39 w4 w3.heap.size (fun k_ => k_ < w4.heap.size) v_x0 _); obtain ⟨A_x0, c_x0, e_x0⟩ := Kd.R_slice H_x0.out; subst e_x0; clear ho hb)
  have g6 := Aside0.mk trivial
  go_wp2_with (go_at_call 8; clear g6; refine (impl_UselessNeeds.calls (hr0 := (Kd.R_reads' H_x0.out).2.2) (hc0 := (Kd.R_reads' H_x0.out).2.1) (hT := Tab.of HT.out HB.out) (h := FI.out)).mono ?_; rintro e w5 ⟨v_g0, rfl, ho, hb⟩; have z5 := Aside0.mk (hb).size; replace HB := Aside0.mk (below_step HB.out hb); replace H_w0 := Aside0.mk (Kd.S_below H_w0.out hb); replace H_x0 := Aside0.mk (Kd.R_below H_x0.out hb); have H_g0 := Aside0.mk (Kd.S_mono (Kd.S_bound ho) (fun k_ hk_ => hk_.2.2.1) : Kd.S (Kd.slice 3 (Kd.int .i64)) 35 w5 w4.heap.size (fun k_ => k_ < w5.heap.size) v_g0 _); obtain ⟨A_g0, c_g0, e_g0⟩ := Kd.S_slice H_g0.out; subst e_g0; clear ho hb)
  have g7 := Aside0.mk trivial
  go_wp2_with (go_at_call 9; clear g7; refine (laws_eqIntSS.calls (hr0 := (Kd.S_reads' H_g0.out).2.2) (hc0 := (Kd.S_reads' H_g0.out).2.1) (hr1 := (Kd.S_reads' H_w0.out).2.2) (hc1 := (Kd.S_reads' H_w0.out).2.1) (h := ER.out)).mono ?_; rintro e w6 ⟨rfl, hd⟩; have hb := drawn0_below hd; have z6 := Aside0.mk (hb).size; replace HB := Aside0.mk (below_step HB.out hb); replace H_w0 := Aside0.mk (Kd.S_below H_w0.out hb); replace H_x0 := Aside0.mk (Kd.R_below H_x0.out hb); replace H_g0 := Aside0.mk (Kd.S_below H_g0.out hb); clear hd hb)
  have g8 := Aside0.mk trivial
  go_wp2_with (go_at_call 7; clear g8; refine (laws_toTaskS.calls (hr0 := Kd.C_below HR0.out HB.out) (hc0 := HC0.out) (h := F0.out)).mono ?_; rintro e w7 ⟨v_t_aG, rfl, ho, hb⟩; have z7 := Aside0.mk (hb).size; replace HB := Aside0.mk (below_step HB.out hb); replace H_w0 := Aside0.mk (Kd.S_below H_w0.out hb); replace H_x0 := Aside0.mk (Kd.R_below H_x0.out hb); replace H_g0 := Aside0.mk (Kd.S_below H_g0.out hb); have H_t_aG := Aside0.mk (Kd.R_mono (Kd.R_bound (Kd.S_R ho)) (fun k_ hk_ => hk_.2.2.1) : Kd.R k39 39 w7 w6.heap.size (fun k_ => k_ < w7.heap.size) v_t_aG _); obtain ⟨A_t_aG, c_t_aG, e_t_aG⟩ := Kd.R_slice H_t_aG.out; subst e_t_aG; clear ho hb)
  have g9 := Aside0.mk trivial
  go_wp2_with (go_at_call 10; clear g9; refine (laws_eqTaskS.calls (hr0 := (Kd.R_reads' H_x0.out).2.2) (hc0 := (Kd.R_reads' H_x0.out).2.1) (hr1 := (Kd.R_reads' H_t_aG.out).2.2) (hc1 := (Kd.R_reads' H_t_aG.out).2.1) (h := E0.out)).mono ?_; rintro e w8 ⟨rfl, hd⟩; have hb := hd; have z8 := Aside0.mk (hb).size; replace HB := Aside0.mk (below_step HB.out hb); replace H_w0 := Aside0.mk (Kd.S_below H_w0.out hb); replace H_x0 := Aside0.mk (Kd.R_below H_x0.out hb); replace H_g0 := Aside0.mk (Kd.S_below H_g0.out hb); replace H_t_aG := Aside0.mk (Kd.R_below H_t_aG.out hb); clear hd hb)
  clear H_t_aG
  obtain ⟨K9, hK9⟩ : ∃ x_, x_ = mkT y0 (1) y0.length := ⟨_, rfl⟩
  have dK : decide (K9 < 0) = false := decide_eq_false (by have h1 := FK.out; rw [← hK9] at h1; omega)
  have HK9 := Aside0.mk hK9
  clear hK9
  have g10 := Aside0.mk trivial
  go_wp2_with (go_at_call 11; clear g10; refine (markTaskS_in w3.heap.size w4.heap.size _ y0 (1) _ H_x0.out).mono ?_; rintro e w9 ⟨he, hm⟩; rw [← HK9.out] at he; subst he; have z9 := Aside0.mk (hm).below.size; have hlo : w.heap.size ≤ w3.heap.size := (by have q1 := z1.out; have q2 := z2.out; have q3 := z3.out; have q4 := z4.out; have q5 := z5.out; have q6 := z6.out; have q7 := z7.out; have q8 := z8.out; omega); replace HB := Aside0.mk (HB.out.trans ((hm).below.mono hlo)); clear hlo; replace H_w0 := Aside0.mk (Kd.S_kept (Kd.S_bound H_w0.out) (hm).kept (fun k_ hk_ hs_ => by have q1 := z1.out; have q2 := z2.out; have q3 := z3.out; have q4 := z4.out; have q5 := z5.out; have q6 := z6.out; have q7 := z7.out; have q8 := z8.out; have e1_ := hk_.1; have e2_ := hk_.2.1; have e3_ := hs_.1; have e4_ := hs_.2; omega)); replace H_w0 := Aside0.mk (Kd.S_mono H_w0.out (fun k_ hk_ => hk_.1)); replace H_g0 := Aside0.mk (Kd.S_kept (Kd.S_bound H_g0.out) (hm).kept (fun k_ hk_ hs_ => by have q1 := z1.out; have q2 := z2.out; have q3 := z3.out; have q4 := z4.out; have q5 := z5.out; have q6 := z6.out; have q7 := z7.out; have q8 := z8.out; have e1_ := hk_.1; have e2_ := hk_.2.1; have e3_ := hs_.1; have e4_ := hs_.2; omega)); replace H_g0 := Aside0.mk (Kd.S_mono H_g0.out (fun k_ hk_ => hk_.1)); clear hm H_x0)
  have g11 := Aside0.mk trivial
  go_wp2_with (go_at_call 9; clear g11; refine (laws_eqIntSS.calls (hr0 := (Kd.S_reads' H_g0.out).2.2) (hc0 := (Kd.S_reads' H_g0.out).2.1) (hr1 := (Kd.S_reads' H_w0.out).2.2) (hc1 := (Kd.S_reads' H_w0.out).2.1) (h := ER.out)).mono ?_; rintro e w10 ⟨rfl, hd⟩; have hb := drawn0_below hd; have z10 := Aside0.mk (hb).size; replace HB := Aside0.mk (below_step HB.out hb); replace H_w0 := Aside0.mk (Kd.S_below H_w0.out hb); replace H_g0 := Aside0.mk (Kd.S_below H_g0.out hb); clear hd hb)
  have HL := Aside0.mk (show w.heap.size ≤ w4.heap.size from (by have q1 := z1.out; have q2 := z2.out; have q3 := z3.out; have q4 := z4.out; have q5 := z5.out; have q6 := z6.out; have q7 := z7.out; have q8 := z8.out; have q9 := z9.out; have q10 := z10.out; omega))
  have g12 := Aside0.mk trivial
  go_wp2_with (go_at_call 12; clear g12; refine (markIntSS_in (fun k_ => w4.heap.size ≤ k_ ∧ k_ < w5.heap.size) A_g0 c_g0 R 1 w _ (by omega) FM.out.2.2.1 FM.out.2.2.2 HB.out (Kd.S_lower (Kd.S_mono (Kd.S_bound H_g0.out) (fun k_ hk_ => ⟨hk_.2.1, hk_.1⟩)) HL.out)).mono ?_; rintro e w11 ⟨he, ho, hb, hkp⟩; rw [← FM.out.2.1] at he; rw [← FM.out.1] at ho; subst he; have z11 := Aside0.mk hkp.1; replace HB := Aside0.mk hb; replace H_w0 := Aside0.mk (Kd.S_kept (Kd.S_bound H_w0.out) hkp (fun k_ hk_ hs_ => by have q1 := z1.out; have q2 := z2.out; have q3 := z3.out; have q4 := z4.out; have q5 := z5.out; have q6 := z6.out; have q7 := z7.out; have q8 := z8.out; have q9 := z9.out; have q10 := z10.out; have e1_ := hk_.1; have e2_ := hk_.2.1; have e3_ := hs_.1; have e4_ := hs_.2; omega)); replace H_w0 := Aside0.mk (Kd.S_mono H_w0.out (fun k_ hk_ => hk_.1)); replace H_g0 := Aside0.mk ho; clear ho hb hkp)
  have g13 := Aside0.mk trivial
  go_wp2_with (go_at_call 13; clear g13; refine (heldIntSS_n (Kd.S_reads' H_g0.out) FH.out).mono ?_; rintro e w12 ⟨rfl, hd⟩; have hb := drawn0_below hd; have z12 := Aside0.mk (hb).size; replace HB := Aside0.mk (below_step HB.out hb); replace H_w0 := Aside0.mk (Kd.S_below H_w0.out hb); replace H_g0 := Aside0.mk (Kd.S_below H_g0.out hb); clear hd hb)
  have g14 := Aside0.mk trivial
  go_wp2_with (go_at_call 7; clear g14; refine (laws_toTaskS.calls (hr0 := Kd.C_below HR0.out HB.out) (hc0 := HC0.out) (h := F0.out)).mono ?_; rintro e w13 ⟨v_h0_aG, rfl, ho, hb⟩; have z13 := Aside0.mk (hb).size; replace HB := Aside0.mk (below_step HB.out hb); replace H_w0 := Aside0.mk (Kd.S_below H_w0.out hb); replace H_g0 := Aside0.mk (Kd.S_below H_g0.out hb); have H_h0_aG := Aside0.mk (Kd.R_mono (Kd.R_bound (Kd.S_R ho)) (fun k_ hk_ => hk_.2.2.1) : Kd.R k39 39 w13 w12.heap.size (fun k_ => k_ < w13.heap.size) v_h0_aG _); obtain ⟨A_h0_aG, c_h0_aG, e_h0_aG⟩ := Kd.R_slice H_h0_aG.out; subst e_h0_aG; clear ho hb)
  have g15 := Aside0.mk trivial
  go_wp2_with (go_at_call 8; clear g15; refine (impl_UselessNeeds.calls (hr0 := (Kd.R_reads' H_h0_aG.out).2.2) (hc0 := (Kd.R_reads' H_h0_aG.out).2.1) (hT := Tab.of HT.out HB.out) (h := FI.out)).mono ?_; rintro e w14 ⟨v_h0, rfl, ho, hb⟩; have z14 := Aside0.mk (hb).size; replace HB := Aside0.mk (below_step HB.out hb); replace H_w0 := Aside0.mk (Kd.S_below H_w0.out hb); replace H_g0 := Aside0.mk (Kd.S_below H_g0.out hb); replace H_h0_aG := Aside0.mk (Kd.R_below H_h0_aG.out hb); have H_h0 := Aside0.mk (Kd.S_mono (Kd.S_bound ho) (fun k_ hk_ => hk_.2.2.1) : Kd.S (Kd.slice 3 (Kd.int .i64)) 35 w14 w13.heap.size (fun k_ => k_ < w14.heap.size) v_h0 _); obtain ⟨A_h0, c_h0, e_h0⟩ := Kd.S_slice H_h0.out; subst e_h0; clear ho hb)
  clear H_h0_aG
  have g16 := Aside0.mk trivial
  go_wp2_with (go_at_call 9; clear g16; refine (laws_eqIntSS.calls (hr0 := (Kd.S_reads' H_h0.out).2.2) (hc0 := (Kd.S_reads' H_h0.out).2.1) (hr1 := (Kd.S_reads' H_w0.out).2.2) (hc1 := (Kd.S_reads' H_w0.out).2.1) (h := ER.out)).mono ?_; rintro e w15 ⟨rfl, hd⟩; have hb := drawn0_below hd; have z15 := Aside0.mk (hb).size; replace HB := Aside0.mk (below_step HB.out hb); replace H_w0 := Aside0.mk (Kd.S_below H_w0.out hb); replace H_g0 := Aside0.mk (Kd.S_below H_g0.out hb); replace H_h0 := Aside0.mk (Kd.S_below H_h0.out hb); clear hd hb)
  have g17 := Aside0.mk trivial
  go_wp2_with (go_at_call 13; clear g17; refine (heldIntSS_n (Kd.S_reads' H_g0.out) FH.out).mono ?_; rintro e w16 ⟨rfl, hd⟩; have hb := drawn0_below hd; have z16 := Aside0.mk (hb).size; replace HB := Aside0.mk (below_step HB.out hb); replace H_w0 := Aside0.mk (Kd.S_below H_w0.out hb); replace H_g0 := Aside0.mk (Kd.S_below H_g0.out hb); replace H_h0 := Aside0.mk (Kd.S_below H_h0.out hb); clear hd hb)
  go_ret
  exact ⟨rfl, HB.out⟩
end Go.Proofs.YtpdgnncnejmhfaaDoor.P
end
section
set_option linter.unusedVariables false
set_option linter.unusedSimpArgs false
namespace Go.Proofs.YtpdgnncnejmhfaaDoor.Core
open Go Go.RowKit Go.Proofs.YtpdgnncnejmhfaaDoorW.PrintWords Go.Proofs.YtpdgnncnejmhfaaDoorW.PrintMore Go.Proofs.YtpdgnncnejmhfaaDoor.P
theorem ufold_bit (G : GD) (i k : Nat) : ∀ (ks : List Nat) (o : Nat), (ks.foldl (ustep G i) o).testBit k = true ↔ o.testBit k = true ∨ ∃ m ∈ ks, (G.needs.getD i 0).testBit k = true ∧ (G.below.getD m 0).testBit k = true
  | [], o => by simp
  | x :: ks, o => by
    rw [List.foldl_cons, ufold_bit G i k ks, ustep, Nat.testBit_or, Nat.testBit_and, Bool.or_eq_true, Bool.and_eq_true]
    constructor
    · rintro ((h | h) | ⟨m, hm, h⟩)
      · exact .inl h
      · exact .inr ⟨x, List.mem_cons_self, h⟩
      · exact .inr ⟨m, List.mem_cons_of_mem _ hm, h⟩
    · rintro (h | ⟨m, hm, h⟩)
      · exact .inl (.inl h)
      · rcases List.mem_cons.1 hm with rfl | hm
        · exact .inl (.inr h)
        · exact .inr ⟨m, hm, h⟩
theorem VG.useless_bit {g : List Tk} {G : GD} (v : VG g G) (i k : Nat) : (uselessD G i).testBit k = true ↔ (G.needs.getD i 0).testBit k = true ∧ ∃ m, (G.needs.getD i 0).testBit m = true ∧ (G.below.getD m 0).testBit k = true := by
  unfold uselessD
  rw [ufold_bit]
  constructor
  · rintro (h | ⟨m, hm, h1, h2⟩)
    · simp at h
    · exact ⟨h1, m, (mem_elemsN.1 hm).2, h2⟩
  · rintro ⟨h1, m, hm, h2⟩
    exact .inr ⟨m, mem_elemsN.2 ⟨by have := v.need_lt hm; have := v.n8; omega, hm⟩, h1, h2⟩
end Go.Proofs.YtpdgnncnejmhfaaDoor.Core
end
section
set_option linter.unusedVariables false
set_option linter.unusedSimpArgs false
namespace Go.Proofs.YtpdgnncnejmhfaaDoor.Core
open Go Go.RowKit Go.Proofs.YtpdgnncnejmhfaaDoorW.PrintWords Go.Proofs.YtpdgnncnejmhfaaDoorW.PrintMore Go.Proofs.YtpdgnncnejmhfaaDoor.P
theorem VG.below_all {g : List Tk} {G : GD} (v : VG g G) (hG : graphD g = some G) (i : Nat) : G.below.getD i 0 < 2 ^ g.length := by
  have ok := graphD_ok hG
  have h := getD_lt ok.bb i
  rwa [v.tasks] at h
theorem VG.below_lt {g : List Tk} {G : GD} (v : VG g G) (hG : graphD g = some G) {i j : Nat} (h : (G.below.getD i 0).testBit j = true) : j < g.length := by
  have h1 := v.below_all hG i
  have h2 := Nat.ge_two_pow_of_testBit h
  have h3 : 2 ^ j < 2 ^ g.length := Nat.lt_of_le_of_lt h2 h1
  exact (Nat.pow_lt_pow_iff_right (by omega)).1 h3
theorem VG.need_below {g : List Tk} {G : GD} (v : VG g G) (hG : graphD g = some G) {i j : Nat} (hi : i < g.length) (h : (G.needs.getD i 0).testBit j = true) : (G.below.getD i 0).testBit j = true :=
  (below_bits hG hi j).2 ⟨j, h, .inl rfl⟩
theorem VG.below_closed {g : List Tk} {G : GD} (v : VG g G) (hG : graphD g = some G) : ∀ i, i < g.length → ∀ j, (G.below.getD i 0).testBit j = true → ∀ l, (G.needs.getD j 0).testBit l = true → (G.below.getD i 0).testBit l = true := by
  refine v.ind (Q := fun i => ∀ j, (G.below.getD i 0).testBit j = true → ∀ l, (G.needs.getD j 0).testBit l = true → (G.below.getD i 0).testBit l = true) fun i hi ih j hj l hl => ?_
  obtain ⟨m, hm, h⟩ := (below_bits hG hi j).1 hj
  refine (below_bits hG hi l).2 ⟨m, hm, .inr ?_⟩
  rcases h with rfl | h
  · exact v.need_below hG (v.need_lt hm) hl
  · exact ih m hm j h l hl
theorem VG.not_self {g : List Tk} {G : GD} (v : VG g G) (hG : graphD g = some G) {i : Nat} (hi : i < g.length) : (G.below.getD i 0).testBit i = false := by
  refine Bool.eq_false_iff.2 fun h => ?_
  obtain ⟨pre, suf, ho⟩ := List.append_of_mem (v.mem.2 hi)
  have hm := v.below_before hG i hi i h pre suf ho
  have hn := v.ord.nodup
  rw [ho, List.nodup_append] at hn
  exact hn.2.2 i hm i List.mem_cons_self rfl
end Go.Proofs.YtpdgnncnejmhfaaDoor.Core
end
section
set_option linter.unusedVariables false
set_option linter.unusedSimpArgs false
namespace Go.Proofs.YtpdgnncnejmhfaaDoor.Core
open Go Go.RowKit Go.Proofs.YtpdgnncnejmhfaaDoorW.PrintWords Go.Proofs.YtpdgnncnejmhfaaDoorW.PrintMore Go.Proofs.YtpdgnncnejmhfaaDoor.P
def addN (S : List Nat) (j : Nat) : List Nat := if j ∈ S then S else S ++ [j]
theorem mem_addN {S : List Nat} {j x : Nat} : x ∈ addN S j ↔ x ∈ S ∨ x = j := by
  unfold addN
  split
  · rename_i h
    constructor
    · exact .inl
    · rintro (h2 | rfl)
      · exact h2
      · exact h
  · rw [List.mem_append, List.mem_singleton]
theorem addN_nodup {S : List Nat} (h : S.Nodup) (j : Nat) : (addN S j).Nodup := by
  unfold addN
  split
  · exact h
  · rename_i hj
    rw [List.nodup_append]
    refine ⟨h, by simp, fun a ha b hb => ?_⟩
    rw [List.mem_singleton.1 hb]
    exact fun e => hj (e ▸ ha)
theorem mem_addF : ∀ (ks : List Nat) (S : List Nat) (x : Nat), x ∈ ks.foldl addN S ↔ x ∈ S ∨ x ∈ ks
  | [], S, x => by simp
  | k :: ks, S, x => by
    rw [List.foldl_cons, mem_addF ks, mem_addN, List.mem_cons, or_assoc]
theorem addF_nodup : ∀ (ks : List Nat) (S : List Nat), S.Nodup → (ks.foldl addN S).Nodup
  | [], _, h => h
  | k :: ks, S, h => addF_nodup ks _ (addN_nodup h k)
theorem addF_pre : ∀ (ks : List Nat) (S : List Nat), ∃ T, ks.foldl addN S = S ++ T
  | [], S => ⟨[], by simp⟩
  | k :: ks, S => by
    obtain ⟨T, hT⟩ := addF_pre ks (addN S k)
    rw [List.foldl_cons, hT]
    unfold addN
    split
    · exact ⟨T, rfl⟩
    · exact ⟨[k] ++ T, by simp⟩
theorem up_addN (S : List Nat) (j : Nat) : up (addN S j) = if (j : Int) ∈ up S then up S else up S ++ [(j : Int)] := by
  unfold addN
  by_cases h : j ∈ S
  · rw [if_pos h, if_pos (mem_up.2 h)]
  · rw [if_neg h, if_neg (fun e => h (mem_up.1 e))]
    simp [up]
theorem ev_an1 {g : List Tk} {at_ x6 : Int} {R : List Int} {L : List Nat} (hL : L.length ≤ 1000) : ∀ (r pre S : List Nat), L = pre ++ r → S.length + r.length ≤ 2000 → Ev (fun k => spec_allNeeds.l0 k g at_ (up (r.foldl addN S)) (wrap64 (x6 + 1))) R →
    Ev (fun k => spec_allNeeds.l1 k g at_ (up S) x6 (up L) (pre.length : Int)) R
  | [], pre, S, hp, hS, h => by
    rw [List.append_nil] at hp
    refine Ev.succ (h.of fun k => ?_)
    rw [spec_allNeeds.l1, if_neg (by rw [up_length, hp]; omega)]
    rfl
  | j :: r, pre, S, hp, hS, h => by
    have hl : L.length = pre.length + (r.length + 1) := by rw [hp]; simp
    have hrd : rd (up L) (pre.length : Int) = (j : Int) := by rw [rd_up (i := pre.length) rfl, hp]; simp
    have hw : wrap64 ((pre.length : Int) + 1) = ((pre ++ [j]).length : Int) := by rw [w64s (by unfold big; omega)]; simp
    have hS2 : (addN S j).length ≤ S.length + 1 := by unfold addN; split <;> simp
    rw [List.length_cons] at hS
    have ih := ev_an1 (at_ := at_) (x6 := x6) (R := R) hL r (pre ++ [j]) (addN S j) (by rw [hp]; simp) (by omega) h
    rw [up_addN] at ih
    have hin := ev_isIn (L := up S) (by rw [up_length]; unfold big; omega) (j : Int)
    refine Ev.succ ?_
    simp only [spec_allNeeds.l1, hrd, hw]
    refine Ev.pos (by rw [up_length]; omega) (Ev.pos (by omega) (Ev.bind hin ?_))
    by_cases hj : (j : Int) ∈ up S
    · rw [if_pos hj] at ih
      exact Ev.pos (decide_eq_true hj) ih
    · rw [if_neg hj] at ih
      exact Ev.neg (by rw [decide_eq_true_eq]; exact hj) (Ev.pos (by rw [up_length]; omega) ih)
theorem ev_an2 {g : List Tk} (hn : g.length ≤ 8) {a : Nat} {S : List Nat} (hS : S.length ≤ 8) : ∀ (d i : Nat), i + d = g.length → Ev (fun k => spec_allNeeds.l2 k g (a : Int) (up S) (up ((List.range i).filter (fun x => decide (x ≠ a) && decide (x ∈ S)))) (i : Int)) (up ((List.range g.length).filter (fun x => decide (x ≠ a) && decide (x ∈ S))))
  | 0, i, hd => by
    have hi : i = g.length := by omega
    subst hi
    refine Ev.succ ((Ev.const _).of fun k => ?_)
    rw [spec_allNeeds.l2, if_neg (by omega)]
  | d + 1, i, hd => by
    have ih := ev_an2 hn (a := a) hS d (i + 1) (by omega)
    have hw : wrap64 ((i : Int) + 1) = ((i + 1 : Nat) : Int) := w64s (by unfold big; omega)
    have hf := List.length_filter_le (fun x => decide (x ≠ a) && decide (x ∈ S)) (List.range i)
    rw [List.length_range] at hf
    rw [List.range_succ, List.filter_append] at ih
    refine Ev.succ ?_
    simp only [spec_allNeeds.l2, hw]
    refine Ev.pos (by omega) ?_
    by_cases hia : i = a
    · rw [List.filter_cons_of_neg (by simp [hia]), List.filter_nil, List.append_nil] at ih
      exact Ev.pos (by omega) ih
    · have hin := ev_isIn (L := up S) (by rw [up_length]; unfold big; omega) (i : Int)
      refine Ev.neg (by omega) (Ev.bind hin ?_)
      by_cases hiS : i ∈ S
      · rw [List.filter_cons_of_pos (by simp [hia, hiS]), List.filter_nil] at ih
        have e3 : up ((List.range i).filter (fun x => decide (x ≠ a) && decide (x ∈ S)) ++ [i]) = up ((List.range i).filter (fun x => decide (x ≠ a) && decide (x ∈ S))) ++ [(i : Int)] := by simp [up]
        rw [e3] at ih
        exact Ev.pos (decide_eq_true (mem_up.2 hiS)) (Ev.pos (by rw [up_length]; omega) ih)
      · rw [List.filter_cons_of_neg (by simp [hiS]), List.filter_nil, List.append_nil] at ih
        exact Ev.neg (by rw [decide_eq_true_eq, mem_up]; exact hiS) ih
theorem ev_an0 {g : List Tk} {G : GD} (v : VG g G) (hG : graphD g = some G) {a : Nat} (ha : a < g.length) : ∀ (d : Nat) (P Q : List Nat), d + P.length = g.length → (P ++ Q).Nodup → (∀ x ∈ P ++ Q, x < g.length) → (∀ p ∈ P, ∀ j, (G.needs.getD p 0).testBit j = true → j ∈ P ++ Q) → a ∈ P ++ Q → (∀ x ∈ P ++ Q, x = a ∨ (G.below.getD a 0).testBit x = true) →
    Ev (fun k => spec_allNeeds.l0 k g (a : Int) (up (P ++ Q)) (P.length : Int)) (up (elemsN (G.below.getD a 0))) := by
  have h8 := v.n8
  have hlen : ∀ S : List Nat, S.Nodup → (∀ x ∈ S, x < g.length) → S.length ≤ g.length := fun S h1 h2 => by
    have := h1.length_le_of_subset (l₂ := List.range g.length) (fun x hx => List.mem_range.2 (h2 x hx))
    rwa [List.length_range] at this
  intro d
  induction d with
  | zero =>
    intro P Q hd hnd hlt hcl hat hb
    have h1 := hlen _ hnd hlt
    rw [List.length_append] at h1
    have hQ : Q = [] := List.length_eq_zero_iff.1 (by omega)
    subst hQ
    rw [List.append_nil] at *
    have hfin : (List.range g.length).filter (fun x => decide (x ≠ a) && decide (x ∈ P)) = elemsN (G.below.getD a 0) := by
      have hcP : ∀ i, i < g.length → ∀ k, (G.below.getD i 0).testBit k = true → i ∈ P → k ∈ P := by
        refine v.ind (Q := fun i => ∀ k, (G.below.getD i 0).testBit k = true → i ∈ P → k ∈ P) fun i hi ih k hk hp => ?_
        obtain ⟨m, hm, h⟩ := (below_bits hG hi k).1 hk
        have hmp := hcl i hp m hm
        rcases h with rfl | h
        · exact hmp
        · exact ih m hm k h hmp
      refine up_inj (asc_ext ?_ (asc_elems _) fun x => ?_)
      · have := (asc_filter (fun x => decide (x ≠ a) && decide (x ∈ P)) g.length 0).1
        rwa [← List.range_eq_range'] at this
      · by_cases hx : 0 ≤ x
        · obtain ⟨n, rfl⟩ := Int.eq_ofNat_of_zero_le hx
          rw [show ((n : Int) ∈ up (elemsN (G.below.getD a 0))) ↔ n ∈ elemsN (G.below.getD a 0) from mem_up, show ((n : Int) ∈ up ((List.range g.length).filter (fun x => decide (x ≠ a) && decide (x ∈ P)))) ↔ n ∈ (List.range g.length).filter (fun x => decide (x ≠ a) && decide (x ∈ P)) from mem_up, List.mem_filter, List.mem_range, mem_elemsN, Bool.and_eq_true, decide_eq_true_eq, decide_eq_true_eq]
          constructor
          · rintro ⟨h1, h2, h3⟩
            exact ⟨by omega, (hb n h3).resolve_left h2⟩
          · rintro ⟨h1, h2⟩
            exact ⟨v.below_lt hG h2, fun e => (by rw [e, v.not_self hG ha] at h2; cases h2), hcP a ha n h2 hat⟩
        · constructor
          · intro h
            obtain ⟨n, _, e⟩ := List.mem_map.1 h
            have e' : ((n : Nat) : Int) = x := e
            omega
          · intro h
            obtain ⟨n, _, e⟩ := List.mem_map.1 h
            have e' : ((n : Nat) : Int) = x := e
            omega
    have h2 := ev_an2 h8 (a := a) (S := P) (by omega) g.length 0 (by omega)
    rw [hfin] at h2
    refine Ev.succ ?_
    simp only [spec_allNeeds.l0]
    exact Ev.neg (by rw [up_length]; omega) h2
  | succ d ih =>
    intro P Q hd hnd hlt hcl hat hb
    cases Q with
    | nil =>
      have hcl' : ∀ i, i ∈ P → i < g.length := fun i hi => hlt i (List.mem_append_left _ hi)
      rw [List.append_nil] at *
      have h1 := hlen _ hnd hlt
      have hfin : (List.range g.length).filter (fun x => decide (x ≠ a) && decide (x ∈ P)) = elemsN (G.below.getD a 0) := by
        have hcP : ∀ i, i < g.length → ∀ k, (G.below.getD i 0).testBit k = true → i ∈ P → k ∈ P := by
          refine v.ind (Q := fun i => ∀ k, (G.below.getD i 0).testBit k = true → i ∈ P → k ∈ P) fun i hi ih k hk hp => ?_
          obtain ⟨m, hm, h⟩ := (below_bits hG hi k).1 hk
          have hmp := hcl i hp m hm
          rcases h with rfl | h
          · exact hmp
          · exact ih m hm k h hmp
        refine up_inj (asc_ext ?_ (asc_elems _) fun x => ?_)
        · have := (asc_filter (fun x => decide (x ≠ a) && decide (x ∈ P)) g.length 0).1
          rwa [← List.range_eq_range'] at this
        · by_cases hx : 0 ≤ x
          · obtain ⟨n, rfl⟩ := Int.eq_ofNat_of_zero_le hx
            rw [show ((n : Int) ∈ up (elemsN (G.below.getD a 0))) ↔ n ∈ elemsN (G.below.getD a 0) from mem_up, show ((n : Int) ∈ up ((List.range g.length).filter (fun x => decide (x ≠ a) && decide (x ∈ P)))) ↔ n ∈ (List.range g.length).filter (fun x => decide (x ≠ a) && decide (x ∈ P)) from mem_up, List.mem_filter, List.mem_range, mem_elemsN, Bool.and_eq_true, decide_eq_true_eq, decide_eq_true_eq]
            constructor
            · rintro ⟨h1, h2, h3⟩
              exact ⟨by omega, (hb n h3).resolve_left h2⟩
            · rintro ⟨h1, h2⟩
              exact ⟨v.below_lt hG h2, fun e => (by rw [e, v.not_self hG ha] at h2; cases h2), hcP a ha n h2 hat⟩
          · constructor
            · intro h
              obtain ⟨n, _, e⟩ := List.mem_map.1 h
              have e' : ((n : Nat) : Int) = x := e
              omega
            · intro h
              obtain ⟨n, _, e⟩ := List.mem_map.1 h
              have e' : ((n : Nat) : Int) = x := e
              omega
      have h2 := ev_an2 h8 (a := a) (S := P) (by omega) g.length 0 (by omega)
      rw [hfin] at h2
      refine Ev.succ ?_
      simp only [spec_allNeeds.l0]
      exact Ev.neg (by rw [up_length]; omega) h2
    | cons s Q =>
      have hs := hlt s (by simp)
      have hsl := hlen _ hnd hlt
      obtain ⟨T, hT⟩ := addF_pre (elemsN (G.needs.getD s 0)) (P ++ s :: Q)
      have hmem := mem_addF (elemsN (G.needs.getD s 0)) (P ++ s :: Q)
      have hnd2 := addF_nodup (elemsN (G.needs.getD s 0)) _ hnd
      have he := elemsN_length (G.needs.getD s 0)
      have hnm : ∀ x, x ∈ elemsN (G.needs.getD s 0) ↔ (G.needs.getD s 0).testBit x = true := fun x => by
        rw [mem_elemsN]
        exact ⟨fun h => h.2, fun h => ⟨by have := v.need_lt h; omega, h⟩⟩
      rw [hT] at hmem hnd2
      have eT : P ++ s :: Q ++ T = (P ++ [s]) ++ (Q ++ T) := by simp
      rw [eT] at hmem hnd2 hT
      have hih := ih (P ++ [s]) (Q ++ T) (by rw [List.length_append, List.length_singleton]; omega) hnd2 (fun x hx => by
        rcases (hmem x).1 hx with h | h
        · exact hlt x h
        · exact v.need_lt ((hnm x).1 h)) (fun p hp j hj => by
        rcases List.mem_append.1 hp with hp | hp
        · exact (hmem j).2 (.inl (hcl p hp j hj))
        · rw [List.mem_singleton.1 hp] at hj
          exact (hmem j).2 (.inr ((hnm j).2 hj))) ((hmem a).2 (.inl hat)) (fun x hx => by
        rcases (hmem x).1 hx with h | h
        · exact hb x h
        · have h3 := (hnm x).1 h
          rcases hb s (by simp) with h4 | h4
          · rw [h4] at h3
            exact .inr (v.need_below hG ha h3)
          · exact .inr (v.below_closed hG a ha s h4 x h3))
      have hrd : rd (up (P ++ s :: Q)) (P.length : Int) = (s : Int) := by rw [rd_up (i := P.length) rfl]; simp
      have hw : wrap64 ((P.length : Int) + 1) = ((P ++ [s]).length : Int) := by rw [w64s (by unfold big; omega)]; simp
      have h1 := ev_an1 (g := g) (at_ := (a : Int)) (x6 := (P.length : Int)) (R := up (elemsN (G.below.getD a 0))) (L := elemsN (G.needs.getD s 0)) (by omega) (elemsN (G.needs.getD s 0)) [] (P ++ s :: Q) rfl (by omega) (by rw [hw, hT]; exact hih)
      refine Ev.succ ?_
      simp only [spec_allNeeds.l0, hrd, rdT_nat, v.list hs]
      exact Ev.pos (by rw [up_length, List.length_append, List.length_cons]; omega) (Ev.pos (by omega) (Ev.pos (by omega) (Ev.pos (by omega) h1)))
theorem ev_specAllNeeds {g : List Tk} {G : GD} (v : VG g G) (hG : graphD g = some G) {a : Nat} (ha : a < g.length) : Ev (fun k => spec_allNeeds.f k g (a : Int)) (up (elemsN (G.below.getD a 0))) := by
  unfold spec_allNeeds.f
  exact ev_an0 v hG ha g.length [] [a] (by simp) (by simp) (fun x hx => by rw [List.nil_append, List.mem_singleton] at hx; omega) (by simp) (by simp) (fun x hx => by rw [List.nil_append, List.mem_singleton] at hx; exact .inl hx)
theorem ev_iu {g : List Tk} {G : GD} (v : VG g G) (hG : graphD g = some G) {i : Nat} (hi : i < g.length) {k0 : Nat} (hk : (G.needs.getD i 0).testBit k0 = true) : ∀ (r pre : List Nat), elemsN (G.needs.getD i 0) = pre ++ r → Ev (fun k => spec_isUseless.l0 k g (i : Int) (k0 : Int) (pre.length : Int)) (r.any fun m => (G.below.getD m 0).testBit k0)
  | [], pre, hp => by
    rw [List.append_nil] at hp
    refine Ev.succ ((Ev.const _).of fun k => ?_)
    rw [spec_isUseless.l0, if_pos (by omega), if_pos (by omega), rdT_nat, v.list hi, if_neg (by rw [up_length, hp]; omega)]
    rfl
  | m :: r, pre, hp => by
    have h8 := v.n8
    have hml : (G.needs.getD i 0).testBit m = true := (mem_elemsN.1 (show m ∈ elemsN (G.needs.getD i 0) by rw [hp]; simp)).2
    have hl : (elemsN (G.needs.getD i 0)).length = pre.length + (r.length + 1) := by rw [hp]; simp
    have he := elemsN_length (G.needs.getD i 0)
    have hrd : rd (up (elemsN (G.needs.getD i 0))) (pre.length : Int) = (m : Int) := by rw [rd_up (i := pre.length) rfl, hp]; simp
    have hw : wrap64 ((pre.length : Int) + 1) = ((pre ++ [m]).length : Int) := by rw [w64s (by unfold big; omega)]; simp
    have ih := ev_iu v hG hi hk r (pre ++ [m]) (by rw [hp]; simp)
    have hbl := elemsN_length (G.below.getD m 0)
    have hin := ev_isIn (L := up (elemsN (G.below.getD m 0))) (by rw [up_length]; unfold big; omega) (k0 : Int)
    rw [v.in_dec (v.below_all hG m)] at hin
    refine Ev.succ ?_
    simp only [spec_isUseless.l0, rdT_nat, v.list hi, hrd, hw]
    refine Ev.pos (by omega) (Ev.pos (by omega) (Ev.pos (by rw [up_length]; omega) (Ev.pos (by omega) (Ev.bind (ev_specAllNeeds v hG (v.need_lt hml)) (Ev.bind hin ?_)))))
    rw [List.any_cons]
    cases hb : (G.below.getD m 0).testBit k0 with
    | true => exact Ev.pos rfl (Ev.const _)
    | false => exact Ev.neg (by simp) ih
theorem ev_isUseless {g : List Tk} {G : GD} (v : VG g G) (hG : graphD g = some G) {i : Nat} (hi : i < g.length) {k0 : Nat} (hk : (G.needs.getD i 0).testBit k0 = true) : Ev (fun k => spec_isUseless.f k g (i : Int) (k0 : Int)) ((uselessD G i).testBit k0) := by
  unfold spec_isUseless.f
  refine (ev_iu v hG hi hk (elemsN (G.needs.getD i 0)) [] rfl).conv (Bool.eq_iff_iff.2 ?_)
  rw [List.any_eq_true, v.useless_bit]
  constructor
  · rintro ⟨m, hm, h⟩
    exact ⟨hk, m, (mem_elemsN.1 hm).2, h⟩
  · rintro ⟨_, m, hm, h⟩
    exact ⟨m, mem_elemsN.2 ⟨by have := v.need_lt hm; have := v.n8; omega, hm⟩, h⟩
/-- Among a set's numbers those of another. -/
theorem elems_filter {s t : Nat} (h : ∀ j, t.testBit j = true → s.testBit j = true) : (elemsN s).filter (fun j => t.testBit j) = elemsN t := by
  unfold elemsN
  rw [List.filter_filter]
  refine List.filter_congr fun j _ => ?_
  cases ht : t.testBit j with
  | false => simp
  | true => rw [h j ht]; rfl
end Go.Proofs.YtpdgnncnejmhfaaDoor.Core
end
section
set_option linter.unusedVariables false
set_option linter.unusedSimpArgs false
namespace Go.Proofs.YtpdgnncnejmhfaaDoor.Core
open Go Go.RowKit Go.Proofs.YtpdgnncnejmhfaaDoorW.PrintWords Go.Proofs.YtpdgnncnejmhfaaDoorW.PrintMore Go.Proofs.YtpdgnncnejmhfaaDoor.P
theorem ev_un1 {g : List Tk} {G : GD} (v : VG g G) (hG : graphD g = some G) {i : Nat} (hi : i < g.length) {R : List (List Int)} : ∀ (r pre : List Nat) (out : List (List Int)), elemsN (G.needs.getD i 0) = pre ++ r → out.length + r.length ≤ 1000 →
    Ev (fun k => spec_UselessNeeds.l0 k g (out ++ (r.filter (fun j => (uselessD G i).testBit j)).map (uRow i)) ((i + 1 : Nat) : Int)) R → Ev (fun k => spec_UselessNeeds.l1 k g out (i : Int) (pre.length : Int)) R
  | [], pre, out, hp, ho, h => by
    rw [List.append_nil] at hp
    have h8 := v.n8
    have hw : wrap64 ((i : Int) + 1) = ((i + 1 : Nat) : Int) := w64s (by unfold big; omega)
    rw [List.filter_nil, List.map_nil, List.append_nil] at h
    refine Ev.succ ?_
    simp only [spec_UselessNeeds.l1, rdT_nat, v.list hi, hw]
    exact Ev.pos (by omega) (Ev.pos (by omega) (Ev.neg (by rw [up_length, hp]; omega) h))
  | m :: r, pre, out, hp, ho, h => by
    have h8 := v.n8
    have hml : (G.needs.getD i 0).testBit m = true := (mem_elemsN.1 (show m ∈ elemsN (G.needs.getD i 0) by rw [hp]; simp)).2
    have hl : (elemsN (G.needs.getD i 0)).length = pre.length + (r.length + 1) := by rw [hp]; simp
    have he := elemsN_length (G.needs.getD i 0)
    have hrd : rd (up (elemsN (G.needs.getD i 0))) (pre.length : Int) = (m : Int) := by rw [rd_up (i := pre.length) rfl, hp]; simp
    have hw : wrap64 ((pre.length : Int) + 1) = ((pre ++ [m]).length : Int) := by rw [w64s (by unfold big; omega)]; simp
    rw [List.length_cons] at ho
    refine Ev.succ ?_
    simp only [spec_UselessNeeds.l1, rdT_nat, v.list hi, hrd, hw]
    refine Ev.pos (by omega) (Ev.pos (by omega) (Ev.pos (by rw [up_length]; omega) (Ev.pos (by omega) (Ev.bind (ev_isUseless v hG hi hml) ?_))))
    cases hu : (uselessD G i).testBit m with
    | true =>
      rw [List.filter_cons_of_pos (p := fun j => (uselessD G i).testBit j) hu, List.map_cons] at h
      have ih := ev_un1 v hG hi (R := R) r (pre ++ [m]) (out ++ [uRow i m]) (by rw [hp]; simp) (by rw [List.length_append, List.length_singleton]; omega) (by rw [List.append_assoc]; exact h)
      exact Ev.pos rfl (Ev.pos (by omega) ih)
    | false =>
      rw [List.filter_cons_of_neg (p := fun j => (uselessD G i).testBit j) (by rw [hu]; simp)] at h
      have ih := ev_un1 v hG hi (R := R) r (pre ++ [m]) out (by rw [hp]; simp) (by omega) h
      exact Ev.neg (by simp) ih
theorem ev_un0 {g : List Tk} {G : GD} (v : VG g G) (hG : graphD g = some G) : ∀ (d i : Nat), i + d = g.length → Ev (fun k => spec_UselessNeeds.l0 k g (uTo G i) (i : Int)) (uTo G g.length)
  | 0, i, hd => by
    have hi : i = g.length := by omega
    subst hi
    refine Ev.succ ((Ev.const _).of fun k => ?_)
    rw [spec_UselessNeeds.l0, if_neg (by omega)]
  | d + 1, i, hd => by
    have ih := ev_un0 v hG d (i + 1) (by omega)
    have h8 := v.n8
    have hul := uTo_length G i
    have he := elemsN_length (G.needs.getD i 0)
    have h1 := ev_un1 v hG (i := i) (by omega) (R := uTo G g.length) (elemsN (G.needs.getD i 0)) [] (uTo G i) rfl (by omega) (by
      rw [elems_filter (fun j hj => ((v.useless_bit i j).1 hj).1)]
      exact ih)
    refine Ev.succ (h1.of fun k => ?_)
    rw [spec_UselessNeeds.l0, if_pos (by omega)]
    rfl
theorem ev_UselessNeeds {g : List Tk} (hg : Fits g) : Ev (fun k => spec_UselessNeeds.f k g) (uselessND g) := by
  unfold spec_UselessNeeds.f
  refine Ev.bind (ev_validGraph hg) ?_
  unfold uselessND
  cases hG : graphD g with
  | none => exact Ev.neg (by simp) (Ev.const _)
  | some G => exact Ev.pos rfl (ev_un0 (vg_of hG) hG g.length 0 (by omega))
theorem uTo_row (G : GD) : ∀ (n : Nat) (x : List Int), x ∈ uTo G n → x.length ≤ 2
  | 0, x, h => by simp [uTo] at h
  | n + 1, x, h => by
    rw [uTo, List.mem_append] at h
    rcases h with h | h
    · exact uTo_row G n x h
    · unfold uPairs at h
      obtain ⟨y, _, rfl⟩ := List.mem_map.1 h
      exact Nat.le_refl 2
theorem uselessND_row (g : List Tk) : ∀ x ∈ uselessND g, x.length ≤ 2 := by
  intro x hx
  unfold uselessND at hx
  cases hG : graphD g with
  | none => rw [hG] at hx; simp at hx
  | some G => rw [hG] at hx; exact uTo_row G _ x hx
theorem uselessND_length (g : List Tk) : (uselessND g).length ≤ 64 := by
  unfold uselessND
  cases hG : graphD g with
  | none => simp
  | some G =>
    have h8 := (vg_of hG).n8
    have := uTo_length G g.length
    show (uTo G g.length).length ≤ 64
    omega
end Go.Proofs.YtpdgnncnejmhfaaDoor.Core
end
section
set_option linter.unusedVariables false
set_option linter.unusedSimpArgs false
namespace Go.Proofs.YtpdgnncnejmhfaaDoor.Core
open Go Go.RowKit Go.Proofs.YtpdgnncnejmhfaaDoorW.PrintWords Go.Proofs.YtpdgnncnejmhfaaDoorW.PrintMore Go.Proofs.YtpdgnncnejmhfaaDoor.P
theorem FnExactUselessNeeds_pure (l0 : List Lt) (hs0 : Small l0)  : ∃ k, laws_FnExactUselessNeeds.f k l0 = some true := by
  refine Ev.one (f := fun k => laws_FnExactUselessNeeds.f k l0) ?_
  unfold laws_FnExactUselessNeeds.f
  refine Ev.bind (ev_sz hs0 (x := 1048576) (by omega) (by omega)) ?_
  by_cases h : szD l0 1048576 < 0
  · exact Ev.pos h (Ev.const _)
  obtain ⟨h1, h2⟩ := szD_fits (by omega) h
  refine Ev.neg h ?_
  have hf := fits_conv h1 h2
  have hR : (uselessND (l0.map conv)).length ≤ 64 := uselessND_length (l0.map conv)
  obtain ⟨n1, f1⟩ := ev_toTaskS h1 h2
  obtain ⟨n2, f2⟩ := ev_UselessNeeds hf
  have hRr : ∀ x ∈ (uselessND (l0.map conv)), x.length ≤ 2 := uselessND_row (l0.map conv)
  have hRt := totL_bound hRr
  obtain ⟨n3, f3⟩ := ev_eqIntSS (R := (uselessND (l0.map conv))) (by omega) (fun x hx => by have := hRr x hx; omega)
  obtain ⟨n4, f4⟩ := ev_eqTaskS hf
  obtain ⟨n5, f5⟩ := ev_heldIntSS (R := (uselessND (l0.map conv))) (a := 1) (by omega) (by omega) (by omega)
  have hm := mkT_le (l := (l0.map conv)) (a := 1) (by omega) (by omega) (by simpa using h1) (fun t ht => by obtain ⟨x, hx, rfl⟩ := List.mem_map.1 ht; exact h2 x hx) (l0.map conv).length (Nat.le_refl _)
  have hlen : (l0.map conv).length = l0.length := List.length_map ..
  refine ⟨n1 + n2 + n3 + n4 + n5, fun k hk => ?_⟩
  refine if_pos ⟨(l0.map conv), (uselessND (l0.map conv)), _, _, f1 k (by omega), f2 k (by omega), rfl, f3 k (by omega), f4 k (by omega), ⟨rfl, rfl, by omega, by omega⟩, f5 k (by omega), by omega, ?_⟩
  omega
end Go.Proofs.YtpdgnncnejmhfaaDoor.Core
end
