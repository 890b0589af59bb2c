import Derived.Test.YtfmhfgjpbkmneaaZd
namespace Go.Proofs.Ytfmhfgjpbkmneaa
open Go.RowKit
set_option linter.unusedVariables false
set_option linter.unusedSimpArgs false
set_option maxHeartbeats 4000000
theorem ratio_Add {w : World} {va vb : Value} {a b : Num.Ra} (ha : RdR w va a) (hb : RdR w vb b) : Calls Try.prog 17 #[va, vb] w (NewR w (Num.rAdd a b)) := by
  have HCh := Lib.hid (fun (W : World) (hB : Below w.heap.size w W) => ratio_checks (ha.below hB) (hb.below hB))
  have HP := Lib.hid (fun (W : World) (hB : Below w.heap.size w W) ca cb => ratio_plus (ha.below hB) (hb.below hB) ca cb)
  obtain ⟨P, cP, P', cP', rfl, ha1, ha2⟩ := ha.parts
  obtain ⟨Q, cQ, Q', cQ', rfl, hb1, hb2⟩ := hb.parts
  clear ha hb
  obtain ⟨W, hW, x1, x2, x3, b1, hz⟩ := boxes3 w 24 #[.bool a.neg, .slice P a.num.length cP, .slice P' a.den.length cP'] #[.bool b.neg, .slice Q b.num.length cQ, .slice Q' b.den.length cQ'] #[.bool false, .slice none 0 0, .slice none 0 0]
  by_cases hc : ¬ Num.rChecks a b = 0
  · have hr : Num.rAdd a b = (Num.Ra.zero, Num.rChecks a b) := if_neg hc
    rw [hr]
    have t1 : (Num.rChecks a b != 0) = true := by rw [bne_iff_ne]; exact hc
    clear hc hr
    go_enter Try.func17, Try.ntmps17
    go_wp2_with fail
    rw [← hW]
    clear hW
    refine (HCh.out W b1).mono ?_
    rintro e w1 ⟨rfl, b2⟩
    have c1 := b1.trans (b2.mono b1.size)
    have y1 := x1.below b2
    have z1 := x2.below b2
    have u1 := x3.below b2
    obtain ⟨i0, i1, i2, -, -, -⟩ := y1.three
    obtain ⟨j0, j1, j2, -, -, -⟩ := z1.three
    obtain ⟨k0, k1, k2, k3, k4, k5⟩ := u1.three
    go_wp2
    refine bodyPost_ret (v := .tuple #[.agg #[.bool false, .slice none 0 0, .slice none 0 0], .int .i64 (Num.rChecks a b)]) (by simp [results, Try.results17, go_sem, k0, k1, k2]) rfl (NewR.none c1 (by omega))
  have hc := Decidable.not_not.1 hc
  have hr := (show Num.rAdd a b = Num.rPlus a b from if_pos hc)
  rw [hr]
  have t1 : (Num.rChecks a b != 0) = false := by rw [bne_eq_false_iff_eq]; exact hc
  have hab := Num.checks_of hc
  clear hr hc
  go_enter Try.func17, Try.ntmps17
  go_wp2_with fail
  rw [← hW]
  clear hW
  refine (HCh.out W b1).mono ?_
  rintro e w1 ⟨rfl, b2⟩
  have c1 := b1.trans (b2.mono b1.size)
  have y1 := x1.below b2
  have z1 := x2.below b2
  have u1 := x3.below b2
  obtain ⟨i0, i1, i2, -, -, -⟩ := y1.three
  obtain ⟨j0, j1, j2, -, -, -⟩ := z1.three
  obtain ⟨k0, k1, k2, k3, k4, k5⟩ := u1.three
  go_wp2_with fail
  refine (HP.out w1 c1 hab.1 hab.2).mono ?_
  rintro e w2 hq
  obtain ⟨A, c, A', c', rfl, o5, o6, hap, b6⟩ := hq.parts
  obtain ⟨k0, k1, k2, k3, k4, k5⟩ := (u1.below b6).three
  go_wp2
  refine bodyPost_ret (v := .tuple #[.agg #[.bool (Num.rPlus a b).1.neg, .slice A (Num.rPlus a b).1.num.length c, .slice A' (Num.rPlus a b).1.den.length c'], .int .i64 (Num.rPlus a b).2]) (by simp [results, Try.results17, go_sem, k0, k1, k2]) rfl (NewR.cell (r := (Num.rPlus a b)) c1 (by omega) u1.lt o5 o6 hap b6)
end Go.Proofs.Ytfmhfgjpbkmneaa
namespace Go.Proofs.Ytfmhfgjpbkmneaa
open Go.RowKit
set_option linter.unusedVariables false
set_option linter.unusedSimpArgs false
set_option maxHeartbeats 4000000
theorem Num.check_turned {b : Num.Ra} (h : Num.rCheck b = 0) : Num.rCheck (Num.rTurned b) = 0 := by
  obtain ⟨h1, h2, h3, h4, h5, h6, h7⟩ := Num.check_of h
  unfold Num.rCheck
  rw [if_neg (by show ¬ (2048 < b.num.length ∨ 2048 < b.den.length); omega), if_pos]
  unfold Num.okB Num.rTurned
  simp only [h1, h2, h5, decide_true, Bool.true_and, Bool.and_true]
  rw [decide_eq_true h3, Bool.true_and]
  by_cases hz : b.num.length = 0
  · rw [hz]; simp
  · simp [hz]
theorem ratio_Sub {w : World} {va vb : Value} {a b : Num.Ra} (ha : RdR w va a) (hb : RdR w vb b) : Calls Try.prog 102 #[va, vb] w (NewR w (Num.rSub a b)) := by
  have HCh := Lib.hid (fun (W : World) (hB : Below w.heap.size w W) => ratio_checks (ha.below hB) (hb.below hB))
  have HT := Lib.hid (fun (W : World) (hB : Below w.heap.size w W) => ratio_turned (hb.below hB))
  have HP := Lib.hid (fun (W : World) (vb' : Value) (hB : Below w.heap.size w W) (hv : RdR W vb' (Num.rTurned b)) ca cb => ratio_plus (ha.below hB) hv ca cb)
  obtain ⟨P, cP, P', cP', rfl, ha1, ha2⟩ := ha.parts
  obtain ⟨Q, cQ, Q', cQ', rfl, hb1, hb2⟩ := hb.parts
  clear ha hb
  obtain ⟨W, hW, x1, x2, x3, b1, hz⟩ := boxes3 w 24 #[.bool a.neg, .slice P a.num.length cP, .slice P' a.den.length cP'] #[.bool b.neg, .slice Q b.num.length cQ, .slice Q' b.den.length cQ'] #[.bool false, .slice none 0 0, .slice none 0 0]
  by_cases hc : ¬ Num.rChecks a b = 0
  · have hr : Num.rSub a b = (Num.Ra.zero, Num.rChecks a b) := if_neg hc
    rw [hr]
    have t1 : (Num.rChecks a b != 0) = true := by rw [bne_iff_ne]; exact hc
    clear hc hr
    go_enter Try.func102, Try.ntmps102
    go_wp2_with fail
    rw [← hW]
    clear hW
    refine (HCh.out W b1).mono ?_
    rintro e w1 ⟨rfl, b2⟩
    have c1 := b1.trans (b2.mono b1.size)
    have y1 := x1.below b2
    have z1 := x2.below b2
    have u1 := x3.below b2
    obtain ⟨i0, i1, i2, -, -, -⟩ := y1.three
    obtain ⟨j0, j1, j2, -, -, -⟩ := z1.three
    obtain ⟨k0, k1, k2, k3, k4, k5⟩ := u1.three
    go_wp2
    refine bodyPost_ret (v := .tuple #[.agg #[.bool false, .slice none 0 0, .slice none 0 0], .int .i64 (Num.rChecks a b)]) (by simp [results, Try.results102, go_sem, k0, k1, k2]) rfl (NewR.none c1 (by omega))
  have hc := Decidable.not_not.1 hc
  have hr := (show Num.rSub a b = Num.rPlus a (Num.rTurned b) from if_pos hc)
  rw [hr]
  have t1 : (Num.rChecks a b != 0) = false := by rw [bne_eq_false_iff_eq]; exact hc
  have hab := Num.checks_of hc
  have ht := Num.check_turned hab.2
  clear hr hc
  generalize Num.rTurned b = b' at *
  go_enter Try.func102, Try.ntmps102
  go_wp2_with fail
  rw [← hW]
  clear hW
  refine (HCh.out W b1).mono ?_
  rintro e w1 ⟨rfl, b2⟩
  have c1 := b1.trans (b2.mono b1.size)
  have y1 := x1.below b2
  have z1 := x2.below b2
  have u1 := x3.below b2
  obtain ⟨i0, i1, i2, -, -, -⟩ := y1.three
  obtain ⟨j0, j1, j2, -, -, -⟩ := z1.three
  have hne1 : ¬ (w.heap.size = w.heap.size + 1 + 1) := by omega
  have hne2 : ¬ (w.heap.size + 1 + 1 = w.heap.size) := by omega
  have y1 : Box w1.drew _ _ _ := y1
  have z1 : Box w1.drew _ _ _ := z1
  have u1 : Box w1.drew _ _ _ := u1
  have c1 : Below w.heap.size w w1.drew := ⟨c1.os, c1.tape, c1.output, c1.size, c1.block⟩
  obtain ⟨i0, i1, i2, -, -, -⟩ := y1.three
  obtain ⟨j0, j1, j2, -, -, -⟩ := z1.three
  obtain ⟨k0, k1, k2, k3, k4, k5⟩ := u1.three
  go_wp2
  go_region_held3 (fun w' => w'.cell? ⟨w.heap.size, 0, none⟩ = some (.bool a.neg) ∧ w'.cell? ⟨w.heap.size, 1, none⟩ = some (.slice P a.num.length cP) ∧ w'.cell? ⟨w.heap.size, 2, none⟩ = some (.slice P' a.den.length cP') ∧ w'.cell? ⟨w.heap.size + 1, 0, none⟩ = some (.bool b.neg) ∧ w'.cell? ⟨w.heap.size + 1, 1, none⟩ = some (.slice Q b.num.length cQ) ∧ w'.cell? ⟨w.heap.size + 1, 2, none⟩ = some (.slice Q' b.den.length cQ')) (go_keep)
    (first
      | (go_at_call 103; (with_reducible refine (HT.out w1.drew (by assumption)).mono ?_); rintro e w2 ⟨v2, rfl, r2, b3⟩; have c2 := c1.trans (b3.mono c1.size); have y2 := y1.below b3; have z2 := z1.below b3; have u2 := u1.below b3; obtain ⟨i0', i1', i2', -, -, -⟩ := y2.three; obtain ⟨j0', j1', j2', -, -, -⟩ := z2.three; obtain ⟨k0', k1', k2', k3', k4', k5'⟩ := u2.three)
      | (go_at_call 42; (with_reducible refine (HP.out w2 v2 (by assumption) (by assumption) hab.1 ht).mono ?_); rintro e w3 hq; obtain ⟨A, c, A', c', rfl, o5, o6, hap, b6⟩ := hq.parts; have c3 := c2.trans (b6.mono c2.size); have y3 := y2.below b6; have z3 := z2.below b6; have u3 := u2.below b6; obtain ⟨i0'', i1'', i2'', -, -, -⟩ := y3.three; obtain ⟨j0'', j1'', j2'', -, -, -⟩ := z3.three; obtain ⟨k0'', k1'', k2'', k3'', k4'', k5''⟩ := u3.three))
  all_goals
    go_wp2
    refine bodyPost_ret (v := .tuple #[.agg #[.bool (Num.rPlus a b').1.neg, .slice A (Num.rPlus a b').1.num.length c, .slice A' (Num.rPlus a b').1.den.length c'], .int .i64 (Num.rPlus a b').2]) (by simp [results, Try.results102, go_sem, k0'', k1'', k2'']) rfl (NewR.cell (r := (Num.rPlus a b')) c2 (by omega) u2.lt o5 o6 hap b6)
end Go.Proofs.Ytfmhfgjpbkmneaa
namespace Go.Proofs.Ytfmhfgjpbkmneaa
open Go.RowKit
set_option linter.unusedVariables false
set_option linter.unusedSimpArgs false
set_option maxHeartbeats 4000000
theorem ratio_Mul {w : World} {va vb : Value} {a b : Num.Ra} (ha : RdR w va a) (hb : RdR w vb b) : Calls Try.prog 101 #[va, vb] w (NewR w (Num.rMul a b)) := by
  have HCh := Lib.hid (fun (W : World) (hB : Below w.heap.size w W) => ratio_checks (ha.below hB) (hb.below hB))
  obtain ⟨P, cP, P', cP', rfl, ha1, ha2⟩ := ha.parts
  obtain ⟨Q, cQ, Q', cQ', rfl, hb1, hb2⟩ := hb.parts
  clear ha hb
  obtain ⟨W, hW, x1, x2, x3, b1, hz⟩ := boxes3 w 24 #[.bool a.neg, .slice P a.num.length cP, .slice P' a.den.length cP'] #[.bool b.neg, .slice Q b.num.length cQ, .slice Q' b.den.length cQ'] #[.bool false, .slice none 0 0, .slice none 0 0]
  by_cases hc : ¬ Num.rChecks a b = 0
  · have hr : Num.rMul a b = (Num.Ra.zero, Num.rChecks a b) := if_neg hc
    rw [hr]
    have t1 : (Num.rChecks a b != 0) = true := by rw [bne_iff_ne]; exact hc
    clear hc hr
    go_enter Try.func101, Try.ntmps101
    go_wp2_with fail
    rw [← hW]
    clear hW
    refine (HCh.out W b1).mono ?_
    rintro e w1 ⟨rfl, b2⟩
    have c1 := b1.trans (b2.mono b1.size)
    have y1 := x1.below b2
    have z1 := x2.below b2
    have u1 := x3.below b2
    obtain ⟨i0, i1, i2, -, -, -⟩ := y1.three
    obtain ⟨j0, j1, j2, -, -, -⟩ := z1.three
    obtain ⟨k0, k1, k2, k3, k4, k5⟩ := u1.three
    go_wp2
    refine bodyPost_ret (v := .tuple #[.agg #[.bool false, .slice none 0 0, .slice none 0 0], .int .i64 (Num.rChecks a b)]) (by simp [results, Try.results101, go_sem, k0, k1, k2]) rfl (NewR.none c1 (by omega))
  have hc := Decidable.not_not.1 hc
  have hr := (show Num.rMul a b = Num.rLowest (a.neg != b.neg) (Num.val a.num * Num.val b.num) (Num.val a.den * Num.val b.den) from if_pos hc)
  rw [hr]
  have t1 : (Num.rChecks a b != 0) = false := by rw [bne_eq_false_iff_eq]; exact hc
  have hab := Num.checks_of hc
  clear hr hc
  obtain ⟨-, -, f3, f4, l1, l2, l3, l4, -, -, m3, m4, dpos⟩ := pair_facts hab.1 hab.2 (rd_W ha1) (rd_W ha2) (rd_W hb1) (rd_W hb2)
  have T1 := Lib.hid (fun (W : World) (hB : Below w.heap.size w W) => ratio_times (ha1.below hB) (hb1.below hB) f4 l1 l2)
  have T2 := Lib.hid (fun (W : World) (hB : Below w.heap.size w W) => ratio_times (ha2.below hB) (hb2.below hB) f3 l3 l4)
  generalize Num.val a.num * Num.val b.num = x at *
  generalize Num.val a.den * Num.val b.den = d at *
  have HLow : Hid (∀ (neg : Bool) (W : World) (va vb : Value), Rd W va (Num.words x) → Rd W vb (Num.words d) → Calls Try.prog 69 #[.bool neg, va, vb] W (NewR W (Num.rLowest neg x d))) := Lib.hid (fun neg W va vb h1 h2 => lowest_words neg h1 h2 (by omega) (by omega) dpos)
  clear f3 f4 l1 l2 l3 l4 m3 m4 dpos hab
  rw [show (a.neg != b.neg) = !(a.neg == b.neg) from rfl]
  generalize hneg : (a.neg == b.neg) = neg at *
  go_enter Try.func101, Try.ntmps101
  go_wp2_with fail
  rw [← hW]
  clear hW
  refine (HCh.out W b1).mono ?_
  rintro e w1 ⟨rfl, b2⟩
  have c1 := b1.trans (b2.mono b1.size)
  have y1 := x1.below b2
  have z1 := x2.below b2
  have u1 := x3.below b2
  obtain ⟨i0, i1, i2, -, -, -⟩ := y1.three
  obtain ⟨j0, j1, j2, -, -, -⟩ := z1.three
  have hne1 : ¬ (w.heap.size = w.heap.size + 1 + 1) := by omega
  have hne2 : ¬ (w.heap.size + 1 + 1 = w.heap.size) := by omega
  have y1 : Box w1.drew _ _ _ := y1
  have z1 : Box w1.drew _ _ _ := z1
  have u1 : Box w1.drew _ _ _ := u1
  have c1 : Below w.heap.size w w1.drew := ⟨c1.os, c1.tape, c1.output, c1.size, c1.block⟩
  obtain ⟨i0, i1, i2, -, -, -⟩ := y1.three
  obtain ⟨j0, j1, j2, -, -, -⟩ := z1.three
  obtain ⟨k0, k1, k2, k3, k4, k5⟩ := u1.three
  go_wp2
  go_region_held3 (fun w' => w'.cell? ⟨w.heap.size, 0, none⟩ = some (.bool a.neg) ∧ w'.cell? ⟨w.heap.size, 1, none⟩ = some (.slice P a.num.length cP) ∧ w'.cell? ⟨w.heap.size, 2, none⟩ = some (.slice P' a.den.length cP') ∧ w'.cell? ⟨w.heap.size + 1, 0, none⟩ = some (.bool b.neg) ∧ w'.cell? ⟨w.heap.size + 1, 1, none⟩ = some (.slice Q b.num.length cQ) ∧ w'.cell? ⟨w.heap.size + 1, 2, none⟩ = some (.slice Q' b.den.length cQ')) (go_keep)
    (first
      | (go_at_call 67; (with_reducible refine (T1.out w1.drew (by assumption)).mono ?_); rintro e w2 ⟨v2, rfl, o2, b3⟩; have c2 := c1.trans (b3.mono c1.size); have y2 := y1.below b3; have z2 := z1.below b3; have u2 := u1.below b3; obtain ⟨i0', i1', i2', -, -, -⟩ := y2.three; obtain ⟨j0', j1', j2', -, -, -⟩ := z2.three; obtain ⟨k0', k1', k2', k3', k4', k5'⟩ := u2.three)
      | (go_at_call 67; (with_reducible refine (T2.out w2 (by assumption)).mono ?_); rintro e w3 ⟨v3, rfl, o3, b4⟩; have c3 := c2.trans (b4.mono c2.size); have y3 := y2.below b4; have z3 := z2.below b4; have u3 := u2.below b4; obtain ⟨i0'', i1'', i2'', -, -, -⟩ := y3.three; obtain ⟨j0'', j1'', j2'', -, -, -⟩ := z3.three; obtain ⟨k0'', k1'', k2'', k3'', k4'', k5''⟩ := u3.three)
      | (go_at_call 69; (with_reducible refine (HLow.out (!neg) w3 v2 v3 (o2.rdw.below b4) o3.rdw).mono ?_); rintro e w4 hq; obtain ⟨A, c, A', c', rfl, o5, o6, hap, b6⟩ := hq.parts; have c4 := c3.trans (b6.mono c3.size); have y4 := y3.below b6; have z4 := z3.below b6; have u4 := u3.below b6; obtain ⟨i0a, i1a, i2a, -, -, -⟩ := y4.three; obtain ⟨j0a, j1a, j2a, -, -, -⟩ := z4.three; obtain ⟨k0a, k1a, k2a, k3a, k4a, k5a⟩ := u4.three))
  all_goals
    go_wp2
    refine bodyPost_ret (v := .tuple #[.agg #[.bool (Num.rLowest (!neg) x d).1.neg, .slice A (Num.rLowest (!neg) x d).1.num.length c, .slice A' (Num.rLowest (!neg) x d).1.den.length c'], .int .i64 (Num.rLowest (!neg) x d).2]) (by simp [results, Try.results101, go_sem, k0a, k1a, k2a]) rfl (NewR.cell (r := (Num.rLowest (!neg) x d)) c3 (by omega) u3.lt o5 o6 hap b6)
end Go.Proofs.Ytfmhfgjpbkmneaa
namespace Go.Proofs.Ytfmhfgjpbkmneaa
open Go.RowKit
set_option linter.unusedVariables false
set_option linter.unusedSimpArgs false
set_option maxHeartbeats 4000000
/-- a call that answers a new fraction alone -/
def NewA (w : World) (r : Num.Ra) (e : Ending) (w' : World) : Prop := ∃ v1 v2, e = .returned (.agg #[.bool r.neg, v1, v2]) ∧ Own w' w.heap.size v1 r.num ∧ Own w' w.heap.size v2 r.den ∧ Ap v1 v2 ∧ Below w.heap.size w w'
theorem nat_Trim {w : World} {v : Value} {l : List Int} (h : Rd w v l) (hl : l.length ≤ 1000000) : Calls Try.prog 106 #[v] w fun e w' => ∃ v, e = .returned v ∧ Own w' w.heap.size v (Num.words (Num.val l)) ∧ Below w.heap.size w w' := by
  obtain ⟨A, c, rfl, h1, h2, h3, h4⟩ := h
  have hlen : (Num.words (Num.val l)).length ≤ l.length := Num.words_len.2 (Num.val_lt h4)
  have H1 := Lib.hid (nat_cut A c l w h2 h1 h3 h4)
  have H2 := Lib.hid (slices_Clone A c (Num.words (Num.val l)) w (sl_cut h2 h4) (by omega) (Fits.small (by omega)))
  clear h4 hlen hl
  go_enter Try.func106, Try.ntmps106
  go_wp2_with fail
  refine H1.out.mono ?_
  rintro e w1 ⟨rfl, rfl⟩
  go_wp2_with fail
  refine H2.out.mono ?_
  rintro e w1 ⟨v1, rfl, o1, b1⟩
  go_wp2
  go_ret
  exact ⟨_, rfl, o1, b1⟩
theorem ratio_copied {w : World} {v : Value} {r : Num.Ra} (h : RdR w v r) (l1 : r.num.length ≤ 1000000) (l2 : r.den.length ≤ 1000000) : Calls Try.prog 104 #[v] w (NewA w ⟨r.neg, Num.words (Num.val r.num), Num.words (Num.val r.den)⟩) := by
  obtain ⟨P, cP, P', cP', rfl, ha1, ha2⟩ := h.parts
  have T1 := Lib.hid (fun (W : World) (hB : Below w.heap.size w W) => nat_Trim (ha1.below hB) l1)
  have T2 := Lib.hid (fun (W : World) (hB : Below w.heap.size w W) => nat_Trim (ha2.below hB) l2)
  clear h l1 l2
  obtain ⟨W, hW, x1, x2, b1, hz⟩ := boxes2 w 24 #[.bool r.neg, .slice P r.num.length cP, .slice P' r.den.length cP'] #[.bool false, .slice none 0 0, .slice none 0 0]
  have hne1 : ¬ (w.heap.size = w.heap.size + 1) := by omega
  have hne2 : ¬ (w.heap.size + 1 = w.heap.size) := by omega
  go_enter Try.func104, Try.ntmps104
  go_wp2_with fail
  rw [← hW]
  clear hW
  have y1 : Box W.drew _ _ _ := x1
  have u1 : Box W.drew _ _ _ := x2
  have c1 : Below w.heap.size w W.drew := ⟨b1.os, b1.tape, b1.output, b1.size, b1.block⟩
  obtain ⟨i0, i1, i2, -, -, -⟩ := y1.three
  obtain ⟨k0, k1, k2, k3, k4, k5⟩ := u1.three
  go_region_held3 (fun w' => w'.cell? ⟨w.heap.size, 0, none⟩ = some (.bool r.neg) ∧ w'.cell? ⟨w.heap.size, 1, none⟩ = some (.slice P r.num.length cP) ∧ w'.cell? ⟨w.heap.size, 2, none⟩ = some (.slice P' r.den.length cP')) (go_keep)
    (first
      | (go_at_call 106; (with_reducible refine (T1.out W.drew (by assumption)).mono ?_); rintro e w2 ⟨v2, rfl, o2, b3⟩; obtain ⟨A2, d2, rfl, _⟩ := o2.slice; have c2 := c1.trans (b3.mono c1.size); have y2 := y1.below b3; have u2 := u1.below b3; obtain ⟨i0', i1', i2', -, -, -⟩ := y2.three; obtain ⟨k0', k1', k2', k3', k4', k5'⟩ := u2.three)
      | (go_at_call 106; (with_reducible refine (T2.out w2 (by assumption)).mono ?_); rintro e w3 ⟨v3, rfl, o3, b4⟩; obtain ⟨A3, d3, rfl, _⟩ := o3.slice; have c3 := c2.trans (b4.mono c2.size); have y3 := y2.below b4; have u3 := u2.below b4; obtain ⟨i0'', i1'', i2'', -, -, -⟩ := y3.three; obtain ⟨k0'', k1'', k2'', k3'', k4'', k5''⟩ := u3.three))
  all_goals
    go_wp2
    have hap := o2.ap o3 (Nat.le_refl _)
    refine bodyPost_ret (v := .agg #[.bool r.neg, .slice A2 (Num.words (Num.val r.num)).length d2, .slice A3 (Num.words (Num.val r.den)).length d3]) (by simp [results, Try.results104, go_sem, k0'', k1'', k2'']) rfl ⟨_, _, rfl, (o2.below b4).far3 u1.lt c1.size, o3.far3 u2.lt c2.size, hap, (((c3.setCell (Nat.le_add_right _ _) _).setCell (Nat.le_add_right _ _) _).setCell (Nat.le_add_right _ _) _)⟩
theorem ratio_Neg {w : World} {v : Value} {r : Num.Ra} (h : RdR w v r) : Calls Try.prog 92 #[v] w (NewR w (Num.rNeg r)) := by
  have HC := Lib.hid (fun (W : World) (hB : Below w.heap.size w W) => ratio_Check (h.below hB))
  have HK := Lib.hid (fun (W : World) (hB : Below w.heap.size w W) l1 l2 => ratio_copied (h.below hB) l1 l2)
  obtain ⟨P, cP, P', cP', rfl, ha1, ha2⟩ := h.parts
  obtain ⟨W, hW, x1, x2, b1, hz⟩ := boxes2 w 24 #[.bool r.neg, .slice P r.num.length cP, .slice P' r.den.length cP'] #[.bool false, .slice none 0 0, .slice none 0 0]
  clear h
  by_cases hc : ¬ Num.rCheck r = 0
  · have hr : Num.rNeg r = (Num.Ra.zero, Num.rCheck r) := if_neg hc
    rw [hr]
    have t1 : (Num.rCheck r != 0) = true := by rw [bne_iff_ne]; exact hc
    clear hc hr
    go_enter Try.func92, Try.ntmps92
    go_wp2_with fail
    rw [← hW]
    clear hW
    refine (HC.out W b1).mono ?_
    rintro e w1 ⟨rfl, b2⟩
    have c1 := b1.trans (b2.mono b1.size)
    obtain ⟨k0, k1, k2, k3, k4, k5⟩ := (x2.below b2).three
    go_wp2
    refine bodyPost_ret (v := .tuple #[.agg #[.bool false, .slice none 0 0, .slice none 0 0], .int .i64 (Num.rCheck r)]) (by simp [results, Try.results92, go_sem, k0, k1, k2]) rfl (NewR.none c1 (by omega))
  · have hc := Decidable.not_not.1 hc
    have hr : Num.rNeg r = (Num.rTurned r, 0) := if_pos hc
    rw [hr]
    have t1 : (Num.rCheck r != 0) = false := by rw [bne_eq_false_iff_eq]; exact hc
    obtain ⟨q1, q2, q3, q4, q5, q6, q7⟩ := Num.check_of hc
    have HK := Lib.hid (fun (W : World) (hB : Below w.heap.size w W) => HK.out W hB (by omega) (by omega))
    rw [Num.words_val (rd_W ha1) (Num.norm_of_check q1).1, Num.words_val (rd_W ha2) (Num.norm_of_check q2).1] at HK
    have HT := Lib.hid (fun (W : World) (vn vd : Value) (h1 : Rd W vn r.num) (h2 : Rd W vd r.den) => ratio_turned_eq (r := r) h1 h2)
    have W1 := Lib.hid (rd_W ha1)
    have W2 := Lib.hid (rd_W ha2)
    have e1 : (Num.rTurned r).num = r.num := rfl
    have e2 : (Num.rTurned r).den = r.den := rfl
    obtain ⟨s, hs⟩ : ∃ s, s = (Num.rTurned r).neg := ⟨_, rfl⟩
    rw [← hs] at HT
    rw [show Num.rTurned r = ⟨s, r.num, r.den⟩ from by rw [hs]; rfl]
    clear hc hr q1 q2 q3 q4 q5 q6 q7 e1 e2 hs
    go_enter Try.func92, Try.ntmps92
    go_wp2_with fail
    rw [← hW]
    clear hW
    refine (HC.out W b1).mono ?_
    rintro e w1 ⟨rfl, b2⟩
    have c1 := b1.trans (b2.mono b1.size)
    obtain ⟨i0, i1, i2, -, -, -⟩ := (x1.below b2).three
    obtain ⟨k0, k1, k2, k3, k4, k5⟩ := (x2.below b2).three
    go_wp2_with fail
    refine (HK.out w1 c1).mono ?_
    rintro e w2 ⟨v1, v2, rfl, o1, o2, hap, b3⟩
    go_wp2_with fail
    refine (HT.out w2 v1 v2 (o1.rd W1.out) (o2.rd W2.out)).mono ?_
    rintro e w3 ⟨rfl, b4⟩
    obtain ⟨A, c, rfl, _⟩ := o1.slice
    obtain ⟨A', c', rfl, _⟩ := o2.slice
    have u2 := (x2.below b2)
    obtain ⟨k0', k1', k2', k3', k4', k5'⟩ := ((u2.below b3).below b4).three
    have b34 := b3.trans (b4.mono b3.size)
    go_wp2
    refine bodyPost_ret (v := .tuple #[.agg #[.bool s, .slice A r.num.length c, .slice A' r.den.length c'], .int .i64 0]) (by simp [results, Try.results92, go_sem, k0', k1', k2']) rfl (NewR.cell (r := (⟨s, r.num, r.den⟩, 0)) c1 (by omega) u2.lt (o1.below b4) (o2.below b4) hap b34)
end Go.Proofs.Ytfmhfgjpbkmneaa
namespace Go.Proofs.Ytfmhfgjpbkmneaa
open Go.RowKit
set_option linter.unusedVariables false
set_option linter.unusedSimpArgs false
set_option maxHeartbeats 2000000
theorem take_step {a b : List Int} {k : Nat} (h : a.take k = b.take k) (ha : k < a.length) (hb : k < b.length) (e : Num.at_ a k = Num.at_ b k) : a.take (k + 1) = b.take (k + 1) := by
  rw [List.take_succ_eq_append_getElem ha, List.take_succ_eq_append_getElem hb, h]
  simp only [Num.at_, List.getD_eq_getElem?_getD, List.getElem?_eq_getElem ha, List.getElem?_eq_getElem hb, Option.getD_some] at e
  rw [e]
theorem ratio_words {w : World} {va vb : Value} {a b : List Int} (ha : Rd w va a) (hb : Rd w vb b) : Calls Try.prog 32 #[va, vb] w fun e w' => e = .returned (.bool (decide (a = b))) ∧ ∃ n, w' = w.drewN n := by
  obtain ⟨A, c, rfl, hca, ha, hm, _⟩ := ha
  obtain ⟨A', c', rfl, hcb, hb, hm', _⟩ := hb
  by_cases hne : ¬ a.length = b.length
  · have hk : Hid (false = decide (a = b)) := Lib.hid (decide_eq_false (fun e => hne (by rw [e]))).symm
    have t1 : ((a.length : Int) != (b.length : Int)) = true := by rw [bne_iff_ne]; omega
    have t2 : (a.length != b.length) = true := by rw [bne_iff_ne]; omega
    clear hne
    go_enter Try.func32, Try.ntmps32
    go_wp2
    go_ret
    exact ⟨ret_bool hk.out, 0, rfl⟩
  · have heq := Decidable.not_not.1 hne
    have HE := Lib.hid heq
    have hb2 : 0 < a.length → ∃ ad, A' = some ad ∧ ∀ j, j < a.length → w.cell? (ad.add j) = some (.int .u32 (Num.at_ b j)) := by
      have := hb; unfold Sl at this; rw [← heq] at this; exact this
    rw [← heq]
    clear heq hne hb hm' hcb
    go_enter Try.func32, Try.ntmps32
    go_wp2
    go_loopw [13] (fun v wr => ∃ k : Nat, (∃ nq, wr = w.drewN nq) ∧ k ≤ a.length ∧ Hid (a.take k = b.take k) ∧ v = .int .i64 k) (fun v _ => ((a.length : Int) - intOf v).toNat)
    case atStart => exact ⟨0, ⟨0, rfl⟩, by omega, Lib.hid (by simp), rfl⟩
    case round =>
      obtain ⟨k, ⟨nq, rfl⟩, hkl, hv, rfl⟩ := hrel
      by_cases hk : k < a.length
      · have t1 : decide ((k : Int) < (a.length : Int)) = true := decide_eq_true (by omega)
        have t2 : (0 : Int) ≤ (k : Int) := by omega
        have t3 : (k : Int) < (a.length : Int) := by omega
        have t4 : IntKind.i64.wrap ((k : Int) + 1) = (k : Int) + 1 := by simp [IntKind.wrap, IntKind.bits, IntKind.signed]; omega
        obtain ⟨ad, rfl, hcca⟩ := ha (by omega)
        obtain ⟨bd, rfl, hccb⟩ := hb2 (by omega)
        have hx := hcca k hk
        have hy := hccb k hk
        clear hcca hccb
        by_cases hxy : Num.at_ a k = Num.at_ b k
        · have HN := Lib.hid (take_step hv.out hk (by have := HE.out; omega) hxy)
          rw [← hxy] at hy
          clear hxy
          go_wp2
          go_quiet (fail)
          go_wp2
          go_roundw
          case rel => exact ⟨k + 1, by first | exact ⟨_, rfl⟩ | (simp only [World.drewN_drewN]; exact ⟨_, rfl⟩), by omega, HN, rfl⟩
          case measure => simp [intOf] <;> omega
        · have hr : Hid (false = decide (a = b)) := Lib.hid (decide_eq_false (fun e => hxy (by rw [e]))).symm
          have t5 : (Num.at_ a k != Num.at_ b k) = true := by rw [bne_iff_ne]; exact hxy
          clear hxy
          go_wp2
          go_quiet (fail)
          go_wp2
          go_ret
          exact ⟨ret_bool hr.out, by first | exact ⟨_, rfl⟩ | (simp only [World.drewN_drewN]; exact ⟨_, rfl⟩)⟩
      · have hr : Hid (true = decide (a = b)) := Lib.hid (decide_eq_true (by
          have h1 := hv.out
          have h2 := HE.out
          rw [List.take_of_length_le (by omega), List.take_of_length_le (by omega)] at h1
          exact h1)).symm
        have t1 : decide ((k : Int) < (a.length : Int)) = false := decide_eq_false (by omega)
        go_wp2
        go_ret
        exact ⟨ret_bool hr.out, by first | exact ⟨_, rfl⟩ | (simp only [World.drewN_drewN]; exact ⟨_, rfl⟩)⟩
end Go.Proofs.Ytfmhfgjpbkmneaa
namespace Go.Proofs.Ytfmhfgjpbkmneaa
open Go.RowKit
set_option linter.unusedVariables false
set_option linter.unusedSimpArgs false
set_option maxHeartbeats 2000000
def Num.rSame (a b : Num.Ra) : Bool := (a.neg == b.neg) && (decide (a.num = b.num) && decide (a.den = b.den))
theorem Num.rSame_iff (a b : Num.Ra) : Num.rSame a b = true ↔ a = b := by
  obtain ⟨x, y, z⟩ := a
  obtain ⟨x', y', z'⟩ := b
  unfold Num.rSame
  simp
theorem ratio_Same {w : World} {va vb : Value} {a b : Num.Ra} (ha : RdR w va a) (hb : RdR w vb b) : Calls Try.prog 12 #[va, vb] w fun e w' => e = .returned (.bool (Num.rSame a b)) ∧ Below w.heap.size w w' := by
  obtain ⟨P, cP, P', cP', rfl, ha1, ha2⟩ := ha.parts
  obtain ⟨Q, cQ, Q', cQ', rfl, hb1, hb2⟩ := hb.parts
  clear ha hb
  have T1 := Lib.hid (fun (W : World) (hB : Below w.heap.size w W) => ratio_words (ha1.below hB) (hb1.below hB))
  have T2 := Lib.hid (fun (W : World) (hB : Below w.heap.size w W) => ratio_words (ha2.below hB) (hb2.below hB))
  obtain ⟨W, hW, x1, x2, b1, hz⟩ := boxes2 w 24 #[.bool a.neg, .slice P a.num.length cP, .slice P' a.den.length cP'] #[.bool b.neg, .slice Q b.num.length cQ, .slice Q' b.den.length cQ']
  obtain ⟨i0, i1, i2, -, -, -⟩ := x1.three
  obtain ⟨j0, j1, j2, -, -, -⟩ := x2.three
  unfold Num.rSame
  generalize hq1 : decide (a.num = b.num) = q1 at *
  generalize hq2 : decide (a.den = b.den) = q2 at *
  clear hq1 hq2
  by_cases hn : ¬ (a.neg == b.neg) = true
  · have t1 : (a.neg == b.neg) = false := by simpa using hn
    rw [t1]
    clear hn
    go_enter Try.func12, Try.ntmps12
    go_wp2_with fail
    rw [← hW]
    clear hW
    go_wp2
    go_ret
    exact ⟨ret_bool rfl, b1⟩
  have t1 : (a.neg == b.neg) = true := by simpa using hn
  rw [t1]
  clear hn
  cases q1 with
  | false =>
    go_enter Try.func12, Try.ntmps12
    go_wp2_with fail
    rw [← hW]
    clear hW
    refine (T1.out W b1).mono ?_
    rintro e w1 ⟨rfl, n1, rfl⟩
    go_wp2
    go_ret
    exact ⟨ret_bool rfl, b1.trans (below_drawsB _ _ _)⟩
  | true =>
    go_enter Try.func12, Try.ntmps12
    go_wp2_with fail
    rw [← hW]
    clear hW
    refine (T1.out W b1).mono ?_
    rintro e w1 ⟨rfl, n1, rfl⟩
    have b2 := b1.trans (below_drawsB _ _ n1)
    obtain ⟨i0', i1', i2', -, -, -⟩ := (x1.below (below_drawsB _ _ n1)).three
    obtain ⟨j0', j1', j2', -, -, -⟩ := (x2.below (below_drawsB _ _ n1)).three
    go_wp2_with fail
    refine (T2.out _ b2).mono ?_
    rintro e w1 ⟨rfl, n2, rfl⟩
    go_wp2
    go_ret
    exact ⟨ret_bool (by simp), b1.trans (below_drawsB _ _ _)⟩
/-- -1, 0 or 1 -/
def Num.rSign (r : Num.Ra) : Int := if Num.rCheck r ≠ 0 ∨ r.num.length = 0 then 0 else if r.neg = true then -1 else 1
theorem ratio_Sign {w : World} {v : Value} {r : Num.Ra} (h : RdR w v r) : Calls Try.prog 25 #[v] w fun e w' => e = .returned (.int .i64 (Num.rSign r)) ∧ Below w.heap.size w w' := by
  have HC := Lib.hid (fun (W : World) (hB : Below w.heap.size w W) => ratio_Check (h.below hB))
  obtain ⟨P, cP, P', cP', rfl, ha1, ha2⟩ := h.parts
  have x0 := Box.new w 24 #[.bool r.neg, .slice P r.num.length cP, .slice P' r.den.length cP']
  have b0 : Below w.heap.size w (w.alloc (.cells #[.bool r.neg, .slice P r.num.length cP, .slice P' r.den.length cP'] 24)) := (Below.refl _ _).alloc (Nat.le_refl _) _
  clear h
  by_cases hc : ¬ Num.rCheck r = 0
  · have hr : Num.rSign r = 0 := if_pos (Or.inl hc)
    rw [hr]
    have t1 : (Num.rCheck r != 0) = true := by rw [bne_iff_ne]; exact hc
    clear hc hr
    go_enter Try.func25, Try.ntmps25
    go_wp2_with fail
    refine (HC.out _ b0).mono ?_
    rintro e w1 ⟨rfl, b1⟩
    go_wp2
    go_ret
    exact ⟨rfl, b0.trans (b1.mono b0.size)⟩
  have hc := Decidable.not_not.1 hc
  have t1 : (Num.rCheck r != 0) = false := by rw [bne_eq_false_iff_eq]; exact hc
  by_cases hl : r.num.length = 0
  · have hr : Num.rSign r = 0 := if_pos (Or.inr hl)
    rw [hr]
    have t2 : ((r.num.length : Int) == 0) = true := by rw [beq_iff_eq]; omega
    clear hc hr hl
    go_enter Try.func25, Try.ntmps25
    go_wp2_with fail
    refine (HC.out _ b0).mono ?_
    rintro e w1 ⟨rfl, b1⟩
    obtain ⟨k0, k1, k2, -, -, -⟩ := (x0.below b1).three
    go_wp2
    go_ret
    exact ⟨rfl, b0.trans (b1.mono b0.size)⟩
  have t2 : ((r.num.length : Int) == 0) = false := by rw [beq_eq_false_iff_ne]; omega
  cases hneg : r.neg with
  | true =>
    have hr : Num.rSign r = -1 := by unfold Num.rSign; rw [if_neg (by simp [hc, hl]), if_pos hneg]
    rw [hr]
    rw [hneg] at HC x0 b0
    clear hc hr hl hneg
    go_enter Try.func25, Try.ntmps25
    go_wp2_with fail
    refine (HC.out _ b0).mono ?_
    rintro e w1 ⟨rfl, b1⟩
    obtain ⟨k0, k1, k2, -, -, -⟩ := (x0.below b1).three
    go_wp2
    go_ret
    exact ⟨rfl, b0.trans (b1.mono b0.size)⟩
  | false =>
    have hr : Num.rSign r = 1 := by unfold Num.rSign; rw [if_neg (by simp [hc, hl]), if_neg (by simp [hneg])]
    rw [hr]
    rw [hneg] at HC x0 b0
    clear hc hr hl hneg
    go_enter Try.func25, Try.ntmps25
    go_wp2_with fail
    refine (HC.out _ b0).mono ?_
    rintro e w1 ⟨rfl, b1⟩
    obtain ⟨k0, k1, k2, -, -, -⟩ := (x0.below b1).three
    go_wp2
    go_ret
    exact ⟨rfl, b0.trans (b1.mono b0.size)⟩
end Go.Proofs.Ytfmhfgjpbkmneaa
