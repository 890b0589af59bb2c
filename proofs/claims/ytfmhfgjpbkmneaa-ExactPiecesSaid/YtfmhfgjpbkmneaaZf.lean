import Derived.Test.YtfmhfgjpbkmneaaZe
namespace Go.Proofs.Ytfmhfgjpbkmneaa
open Go.RowKit
set_option linter.unusedVariables false
set_option linter.unusedSimpArgs false
set_option maxHeartbeats 2000000
/-- the calls one behind the other: a fraction, and the first error -/
def Num.wMade (e : Int) (r : Num.Ra × Int) : Num.Ra × Int := if e = 0 then r else (Num.Ra.zero, e)
/-- only the way's own variable has changed -/
def Way (g : Nat) (w w' : World) : Prop := w.grownBy w' (some g)
theorem Way.trans {g : Nat} {w w1 w2 : World} (h : Way g w w1) (k : Way g w1 w2) : Way g w w2 :=
  ⟨k.os.trans h.os, k.tape.trans h.tape, k.output.trans h.output, Nat.le_trans h.size k.size, fun i hi hn => (k.block i (Nat.lt_of_lt_of_le hi h.size) hn).trans (h.block i hi hn)⟩
theorem Way.of_below {g : Nat} {w w' : World} (h : Below w.heap.size w w') : Way g w w' := ⟨h.os, h.tape, h.output, h.size, fun k hk _ => h.block k hk⟩
theorem Way.set (w : World) (g o : Nat) (v : Value) : Way g w (w.setCell ⟨g, o, none⟩ v) :=
  ⟨rfl, rfl, rfl, by simp [World.setCell], fun k hk hn => Below.heap_setCell w ⟨g, o, none⟩ v k (fun e => hn (by rw [show k = g from by simpa using e]))⟩
theorem Way.below {g B : Nat} {w w' : World} (h : Way g w w') (hB : B ≤ w.heap.size) (hg : B ≤ g) : Below B w w' :=
  ⟨h.os, h.tape, h.output, h.size, fun k hk => h.block k (by omega) (fun e => by injection e; omega)⟩
theorem Box.set0 {w : World} {g : Nat} {t : TypeId} {x : Value} (h : Box w g t #[x]) (y : Value) : Box (w.setCell ⟨g, 0, none⟩ y) g t #[y] := by
  unfold Box at *
  simp [World.setCell, Array.getElem?_modify, h]
theorem Box.way {w w' : World} {g g' : Nat} {t : TypeId} {cs : Array Value} (h : Box w g' t cs) (hw : Way g w w') (hne : g' ≠ g) : Box w' g' t cs :=
  (hw.block g' h.lt (fun e => hne (by injection e))).trans h
theorem Sl.way {w w' : World} {g : Nat} {t : TypeId} {e : Int} {A : Option Addr} {l : List Int} (h : Sl w A l) (hx : Box w g t #[.int .i64 e]) (hw : Way g w w') : Sl w' A l := by
  intro hn
  obtain ⟨ad, rfl, hc⟩ := h hn
  refine ⟨ad, rfl, fun j hj => ?_⟩
  have hb : ad.block ≠ g := fun e1 => by
    have h1 := hc j hj
    have hbk : (ad.add j).block = g := by rw [← e1]; unfold Addr.add; split <;> rfl
    unfold Box at hx
    simp only [World.cell?, hbk, hx] at h1
    split at h1
    · cases h1
    · rcases Nat.eq_zero_or_pos ((ad.add j).off) with h0 | h0
      · rw [h0] at h1; simp at h1
      · rw [Array.getElem?_eq_none (by simp only [List.size_toArray, List.length_cons, List.length_nil]; omega)] at h1; cases h1
  have hlt := World.block_lt_of_cell? w _ (hc 0 hn)
  have hbk : (ad.add j).block = (ad.add 0).block := by unfold Addr.add; split <;> rfl
  have hbk0 : (ad.add 0).block = ad.block := by unfold Addr.add; rfl
  exact (World.cell?_of_block (hw.block _ (by rw [hbk]; exact hlt) (fun e => hb (by injection e with e; rw [hbk, hbk0] at e; exact e)))).trans (hc j hj)
theorem Rd.way {w w' : World} {g : Nat} {t : TypeId} {e : Int} {v : Value} {l : List Int} (h : Rd w v l) (hx : Box w g t #[.int .i64 e]) (hw : Way g w w') : Rd w' v l := by
  obtain ⟨A, c, e, h1, h2, h3, h4⟩ := h
  exact ⟨A, c, e, h1, h2.way hx hw, h3, h4⟩
theorem RdR.way {w w' : World} {g : Nat} {t : TypeId} {e : Int} {v : Value} {r : Num.Ra} (h : RdR w v r) (hx : Box w g t #[.int .i64 e]) (hw : Way g w w') : RdR w' v r := by
  obtain ⟨vn, vd, e, h1, h2⟩ := h
  exact ⟨vn, vd, e, h1.way hx hw, h2.way hx hw⟩
/-- what 'made' leaves -/
def MadeP (w : World) (g : Nat) (e0 e1 : Int) (v : Value) (e : Ending) (w' : World) : Prop :=
  (e0 = 0 → e = .returned v ∧ Box w' g 87 #[.int .i64 e1]) ∧
  (e0 ≠ 0 → e = .returned (.agg #[.bool false, .slice none 0 0, .slice none 0 0]) ∧ Box w' g 87 #[.int .i64 e0]) ∧ Way g w w'
theorem gauss_made {w : World} {g : Nat} {e0 e1 : Int} {neg : Bool} {A A' : Option Addr} {n c n' c' : Nat} (hx : Box w g 87 #[.int .i64 e0]) :
    Calls Try.prog 73 #[.pointer (some ⟨g, 0, none⟩), .agg #[.bool neg, .slice A n c, .slice A' n' c'], .int .i64 e1] w (MadeP w g e0 e1 (.agg #[.bool neg, .slice A n c, .slice A' n' c'])) := by
  have hg := hx.lt
  obtain ⟨W, hW, x1, x2, b1, hz⟩ := boxes2 w 24 #[.bool neg, .slice A n c, .slice A' n' c'] #[.bool false, .slice none 0 0, .slice none 0 0]
  have k0 := hx.cell 0
  have k1 := hx.free 0
  have hne : ¬ (g = w.heap.size) := by omega
  have hne' : ¬ (g = w.heap.size + 1) := by omega
  by_cases h0 : e0 = 0
  · have t1 : (e0 != 0) = false := by rw [bne_eq_false_iff_eq]; exact h0
    have hbl := fun o1 o2 => (((Below.refl (w.setCell ⟨g, 0, none⟩ (.int .i64 e1)).heap.size (w.setCell ⟨g, 0, none⟩ (.int .i64 e1))).alloc (Nat.le_refl _) o1).alloc (by simp) o2)
    have hbx := hx.set0 (.int .i64 e1)
    have hwy := Way.set w g 0 (.int .i64 e1)
    clear h0
    go_enter Try.func73, Try.ntmps73
    go_wp2
    refine bodyPost_ret (v := .agg #[.bool neg, .slice A n c, .slice A' n' c']) (by simp [results, Try.results73, go_sem]) rfl ⟨fun _ => ⟨rfl, hbx.below (hbl _ _)⟩, fun h => absurd (by simpa using t1) h, hwy.trans (Way.of_below (hbl _ _))⟩
  · have t1 : (e0 != 0) = true := by rw [bne_iff_ne]; exact h0
    clear h0
    go_enter Try.func73, Try.ntmps73
    go_wp2_with fail
    rw [← hW]
    clear hW
    refine bodyPost_ret (v := .agg #[.bool false, .slice none 0 0, .slice none 0 0]) (by simp [results, Try.results73, go_sem, x2.three]) rfl ⟨fun h => absurd h (by simpa using t1), fun _ => ⟨rfl, hx.below b1⟩, Way.of_below b1⟩
end Go.Proofs.Ytfmhfgjpbkmneaa
namespace Go.Proofs.Ytfmhfgjpbkmneaa
open Go.RowKit
set_option linter.unusedVariables false
set_option linter.unusedSimpArgs false
set_option maxHeartbeats 2000000
theorem Own.way {w w' : World} {g lo : Nat} {e : Int} {v : Value} {l : List Int} (h : Own w lo v l) (hx : Box w g 87 #[.int .i64 e]) (hw : Way g w w') : Own w' lo v l := by
  rcases h with h | ⟨g', c, e1, hg, hm, hwin⟩
  · exact .inl h
  · refine .inr ⟨g', c, e1, hg, hm, hwin.block (hw.block g' hwin.lt (fun e2 => ?_))⟩
    injection e2 with e2
    subst e2
    obtain ⟨cur, h1, _⟩ := hwin
    unfold Box at hx
    rw [hx] at h1
    injection h1 with h1
    injection h1 with _ h1
    exact absurd h1 (by decide)
/-- a fraction that is made on a way -/
def NewW (w : World) (g : Nat) (r : Num.Ra × Int) (e : Ending) (w' : World) : Prop :=
  ∃ A c A' c', e = .returned (.agg #[.bool r.1.neg, .slice A r.1.num.length c, .slice A' r.1.den.length c']) ∧ Own w' w.heap.size (.slice A r.1.num.length c) r.1.num ∧ Own w' w.heap.size (.slice A' r.1.den.length c') r.1.den ∧ Ap (.slice A r.1.num.length c) (.slice A' r.1.den.length c') ∧ Box w' g 87 #[.int .i64 r.2] ∧ Way g w w'
theorem NewW.cell {w w1 w2 : World} {r : Num.Ra × Int} {g k : Nat} {A A' : Option Addr} {c c' : Nat} {x y z : Value} (hb : Below w.heap.size w w1) (hk : w.heap.size ≤ k) (hl : k < w1.heap.size) (hgk : g < w.heap.size)
    (o1 : Own w2 w1.heap.size (.slice A r.1.num.length c) r.1.num) (o2 : Own w2 w1.heap.size (.slice A' r.1.den.length c') r.1.den) (h : Ap (.slice A r.1.num.length c) (.slice A' r.1.den.length c')) (hx : Box w2 g 87 #[.int .i64 r.2]) (b : Way g w1 w2) :
    NewW w g r (.returned (.agg #[.bool r.1.neg, .slice A r.1.num.length c, .slice A' r.1.den.length c'])) (((w2.setCell ⟨k, 0, none⟩ x).setCell ⟨k, 1, none⟩ y).setCell ⟨k, 2, none⟩ z) := by
  have hbb : Below w.heap.size w2 (((w2.setCell ⟨k, 0, none⟩ x).setCell ⟨k, 1, none⟩ y).setCell ⟨k, 2, none⟩ z) := (((Below.refl _ _).setCell hk _).setCell hk _).setCell hk _
  refine ⟨A, c, A', c', rfl, o1.far3 hl hb.size, o2.far3 hl hb.size, h, ?_, ?_⟩
  · exact (hbb.block g hgk).trans hx
  · have h1 : Way g w w2 := (Way.of_below hb).trans b
    exact ⟨hbb.os.trans h1.os, hbb.tape.trans h1.tape, hbb.output.trans h1.output, Nat.le_trans h1.size hbb.size, fun i hi hn => (hbb.block i hi).trans (h1.block i hi hn)⟩
theorem gauss_add {w : World} {g : Nat} {e0 : Int} {va vb : Value} {a b : Num.Ra} (hx : Box w g 87 #[.int .i64 e0]) (ha : RdR w va a) (hb : RdR w vb b) : Calls Try.prog 45 #[.pointer (some ⟨g, 0, none⟩), va, vb] w (NewW w g (Num.wMade e0 (Num.rAdd a b))) := by
  have hg := hx.lt
  have HA := Lib.hid (fun (W : World) (hB : Below w.heap.size w W) => ratio_Add (ha.below hB) (hb.below hB))
  obtain ⟨P, cP, P', cP', rfl, ha1, ha2⟩ := ha.parts
  obtain ⟨Q, cQ, Q', cQ', rfl, hb1, hb2⟩ := hb.parts
  clear ha hb ha1 ha2 hb1 hb2
  generalize Num.rAdd a b = r at *
  obtain ⟨W, hW, x1, x2, x3, b1, hz⟩ := boxes3 w 24 #[.bool a.neg, .slice P a.num.length cP, .slice P' a.den.length cP'] #[.bool b.neg, .slice Q b.num.length cQ, .slice Q' b.den.length cQ'] #[.bool false, .slice none 0 0, .slice none 0 0]
  go_enter Try.func45, Try.ntmps45
  go_wp2_with fail
  rw [← hW]
  clear hW
  refine (HA.out W b1).mono ?_
  rintro e w1 hq
  obtain ⟨A, c, A', c', rfl, o1, o2, hap, b2⟩ := hq.parts
  have hx1 := (hx.below b1).below b2
  have u1 := x3.below b2
  go_wp2_with fail
  refine (gauss_made hx1).mono ?_
  rintro e w2 ⟨m1, m2, hw⟩
  have u2 := u1.way hw (by omega)
  obtain ⟨k0, k1, k2, k3, k4, k5⟩ := u2.three
  have hw' : Way g W w2 := (Way.of_below b2).trans hw
  by_cases h0 : e0 = 0
  · obtain ⟨rfl, hx2⟩ := m1 h0
    have hr : Hid (Num.wMade e0 r = r) := Lib.hid (if_pos h0)
    clear m1 m2 h0
    go_wp2
    refine bodyPost_ret (v := .agg #[.bool r.1.neg, .slice A r.1.num.length c, .slice A' r.1.den.length c']) (by simp [results, Try.results45, go_sem, k0, k1, k2]) rfl (by rw [hr.out]; exact NewW.cell b1 (by omega) x3.lt hg (o1.way hx1 hw) (o2.way hx1 hw) hap hx2 hw')
  · obtain ⟨rfl, hx2⟩ := m2 h0
    have hr : Hid (Num.wMade e0 r = (Num.Ra.zero, e0)) := Lib.hid (if_neg h0)
    clear m1 m2 h0
    go_wp2
    refine bodyPost_ret (v := .agg #[.bool false, .slice none 0 0, .slice none 0 0]) (by simp [results, Try.results45, go_sem, k0, k1, k2]) rfl (by rw [hr.out]; exact NewW.cell (r := (Num.Ra.zero, e0)) b1 (by omega) x3.lt hg (Own.nil_ _ _) (Own.nil_ _ _) (Ap.nil_l _) hx2 hw')
theorem gauss_sub {w : World} {g : Nat} {e0 : Int} {va vb : Value} {a b : Num.Ra} (hx : Box w g 87 #[.int .i64 e0]) (ha : RdR w va a) (hb : RdR w vb b) : Calls Try.prog 87 #[.pointer (some ⟨g, 0, none⟩), va, vb] w (NewW w g (Num.wMade e0 (Num.rSub a b))) := by
  have hg := hx.lt
  have HA := Lib.hid (fun (W : World) (hB : Below w.heap.size w W) => ratio_Sub (ha.below hB) (hb.below hB))
  obtain ⟨P, cP, P', cP', rfl, ha1, ha2⟩ := ha.parts
  obtain ⟨Q, cQ, Q', cQ', rfl, hb1, hb2⟩ := hb.parts
  clear ha hb ha1 ha2 hb1 hb2
  generalize Num.rSub a b = r at *
  obtain ⟨W, hW, x1, x2, x3, b1, hz⟩ := boxes3 w 24 #[.bool a.neg, .slice P a.num.length cP, .slice P' a.den.length cP'] #[.bool b.neg, .slice Q b.num.length cQ, .slice Q' b.den.length cQ'] #[.bool false, .slice none 0 0, .slice none 0 0]
  go_enter Try.func87, Try.ntmps87
  go_wp2_with fail
  rw [← hW]
  clear hW
  refine (HA.out W b1).mono ?_
  rintro e w1 hq
  obtain ⟨A, c, A', c', rfl, o1, o2, hap, b2⟩ := hq.parts
  have hx1 := (hx.below b1).below b2
  have u1 := x3.below b2
  go_wp2_with fail
  refine (gauss_made hx1).mono ?_
  rintro e w2 ⟨m1, m2, hw⟩
  have u2 := u1.way hw (by omega)
  obtain ⟨k0, k1, k2, k3, k4, k5⟩ := u2.three
  have hw' : Way g W w2 := (Way.of_below b2).trans hw
  by_cases h0 : e0 = 0
  · obtain ⟨rfl, hx2⟩ := m1 h0
    have hr : Hid (Num.wMade e0 r = r) := Lib.hid (if_pos h0)
    clear m1 m2 h0
    go_wp2
    refine bodyPost_ret (v := .agg #[.bool r.1.neg, .slice A r.1.num.length c, .slice A' r.1.den.length c']) (by simp [results, Try.results87, go_sem, k0, k1, k2]) rfl (by rw [hr.out]; exact NewW.cell b1 (by omega) x3.lt hg (o1.way hx1 hw) (o2.way hx1 hw) hap hx2 hw')
  · obtain ⟨rfl, hx2⟩ := m2 h0
    have hr : Hid (Num.wMade e0 r = (Num.Ra.zero, e0)) := Lib.hid (if_neg h0)
    clear m1 m2 h0
    go_wp2
    refine bodyPost_ret (v := .agg #[.bool false, .slice none 0 0, .slice none 0 0]) (by simp [results, Try.results87, go_sem, k0, k1, k2]) rfl (by rw [hr.out]; exact NewW.cell (r := (Num.Ra.zero, e0)) b1 (by omega) x3.lt hg (Own.nil_ _ _) (Own.nil_ _ _) (Ap.nil_l _) hx2 hw')
theorem gauss_mul {w : World} {g : Nat} {e0 : Int} {va vb : Value} {a b : Num.Ra} (hx : Box w g 87 #[.int .i64 e0]) (ha : RdR w va a) (hb : RdR w vb b) : Calls Try.prog 86 #[.pointer (some ⟨g, 0, none⟩), va, vb] w (NewW w g (Num.wMade e0 (Num.rMul a b))) := by
  have hg := hx.lt
  have HA := Lib.hid (fun (W : World) (hB : Below w.heap.size w W) => ratio_Mul (ha.below hB) (hb.below hB))
  obtain ⟨P, cP, P', cP', rfl, ha1, ha2⟩ := ha.parts
  obtain ⟨Q, cQ, Q', cQ', rfl, hb1, hb2⟩ := hb.parts
  clear ha hb ha1 ha2 hb1 hb2
  generalize Num.rMul a b = r at *
  obtain ⟨W, hW, x1, x2, x3, b1, hz⟩ := boxes3 w 24 #[.bool a.neg, .slice P a.num.length cP, .slice P' a.den.length cP'] #[.bool b.neg, .slice Q b.num.length cQ, .slice Q' b.den.length cQ'] #[.bool false, .slice none 0 0, .slice none 0 0]
  go_enter Try.func86, Try.ntmps86
  go_wp2_with fail
  rw [← hW]
  clear hW
  refine (HA.out W b1).mono ?_
  rintro e w1 hq
  obtain ⟨A, c, A', c', rfl, o1, o2, hap, b2⟩ := hq.parts
  have hx1 := (hx.below b1).below b2
  have u1 := x3.below b2
  go_wp2_with fail
  refine (gauss_made hx1).mono ?_
  rintro e w2 ⟨m1, m2, hw⟩
  have u2 := u1.way hw (by omega)
  obtain ⟨k0, k1, k2, k3, k4, k5⟩ := u2.three
  have hw' : Way g W w2 := (Way.of_below b2).trans hw
  by_cases h0 : e0 = 0
  · obtain ⟨rfl, hx2⟩ := m1 h0
    have hr : Hid (Num.wMade e0 r = r) := Lib.hid (if_pos h0)
    clear m1 m2 h0
    go_wp2
    refine bodyPost_ret (v := .agg #[.bool r.1.neg, .slice A r.1.num.length c, .slice A' r.1.den.length c']) (by simp [results, Try.results86, go_sem, k0, k1, k2]) rfl (by rw [hr.out]; exact NewW.cell b1 (by omega) x3.lt hg (o1.way hx1 hw) (o2.way hx1 hw) hap hx2 hw')
  · obtain ⟨rfl, hx2⟩ := m2 h0
    have hr : Hid (Num.wMade e0 r = (Num.Ra.zero, e0)) := Lib.hid (if_neg h0)
    clear m1 m2 h0
    go_wp2
    refine bodyPost_ret (v := .agg #[.bool false, .slice none 0 0, .slice none 0 0]) (by simp [results, Try.results86, go_sem, k0, k1, k2]) rfl (by rw [hr.out]; exact NewW.cell (r := (Num.Ra.zero, e0)) b1 (by omega) x3.lt hg (Own.nil_ _ _) (Own.nil_ _ _) (Ap.nil_l _) hx2 hw')
end Go.Proofs.Ytfmhfgjpbkmneaa
namespace Go.Proofs.Ytfmhfgjpbkmneaa
open Go.RowKit
set_option linter.unusedVariables false
set_option linter.unusedSimpArgs false
set_option maxHeartbeats 2000000
def zero6 : Array Value := #[.bool false, .slice none 0 0, .slice none 0 0, .bool false, .slice none 0 0, .slice none 0 0]
theorem Box.six {w : World} {g : Nat} {t : TypeId} {x y z x' y' z' : Value} (h : Box w g t #[x, y, z, x', y', z']) :
    w.cell? ⟨g, 0, none⟩ = some x ∧ w.cell? ⟨g, 1, none⟩ = some y ∧ w.cell? ⟨g, 2, none⟩ = some z ∧ w.cell? ⟨g, 3, none⟩ = some x' ∧ w.cell? ⟨g, 4, none⟩ = some y' ∧ w.cell? ⟨g, 5, none⟩ = some z' :=
  ⟨h.cell 0, h.cell 1, h.cell 2, h.cell 3, h.cell 4, h.cell 5⟩
theorem Box.six_ {w : World} {g : Nat} {t : TypeId} {x y z x' y' z' : Value} (h : Box w g t #[x, y, z, x', y', z']) :
    w.frozen? ⟨g, 0, none⟩ = false ∧ w.frozen? ⟨g, 1, none⟩ = false ∧ w.frozen? ⟨g, 2, none⟩ = false ∧ w.frozen? ⟨g, 3, none⟩ = false ∧ w.frozen? ⟨g, 4, none⟩ = false ∧ w.frozen? ⟨g, 5, none⟩ = false :=
  ⟨h.free 0, h.free 1, h.free 2, h.free 3, h.free 4, h.free 5⟩
theorem boxes3' (w : World) (t t' : TypeId) (A B C : Array Value) : ∃ W, W = ((w.alloc (.cells A t)).alloc (.cells B t)).alloc (.cells C t') ∧ Box W w.heap.size t A ∧ Box W (w.heap.size + 1) t B ∧ Box W (w.heap.size + 1 + 1) t' C ∧ Below w.heap.size w W ∧ W.heap.size = w.heap.size + 3 := by
  obtain ⟨W, rfl, h1, h2, h3, h4⟩ := boxes2 w t A B
  have hb := (Below.refl ((w.alloc (.cells A t)).alloc (.cells B t)).heap.size _).alloc (Nat.le_refl _) (.cells C t')
  refine ⟨_, rfl, h1.below hb, h2.below hb, ?_, h3.trans (hb.mono (by omega)), by simp⟩
  have := Box.new ((w.alloc (.cells A t)).alloc (.cells B t)) t' C
  rw [h4] at this; exact this
theorem gauss_told_ok {w : World} {g : Nat} {p q : Bool} {A A' B B' : Option Addr} {n n' m m' c c' d d' : Nat} (hx : Box w g 87 #[.int .i64 0]) :
    Calls Try.prog 46 #[.pointer (some ⟨g, 0, none⟩), .agg #[.bool p, .slice A n c, .slice A' n' c'], .agg #[.bool q, .slice B m d, .slice B' m' d']] w fun e w' => e = .returned (.tuple #[.agg #[.bool p, .slice A n c, .slice A' n' c', .bool q, .slice B m d, .slice B' m' d'], .int .i64 0]) ∧ Below w.heap.size w w' := by
  have hg := hx.lt
  obtain ⟨W, hW, x1, x2, x3, b1, hz⟩ := boxes3' w 24 47 #[.bool p, .slice A n c, .slice A' n' c'] #[.bool q, .slice B m d, .slice B' m' d'] #[.bool p, .slice A n c, .slice A' n' c', .bool q, .slice B m d, .slice B' m' d']
  rw [hW] at b1
  clear hW x1 x2 x3 hz W
  have k0 : w.cell? ⟨g, 0, none⟩ = some _ := hx.cell 0
  have k1 := hx.free 0
  have hne : ¬ (g = w.heap.size) := by omega
  have hne' : ¬ (g = w.heap.size + 1) := by omega
  have hne'' : ¬ (g = w.heap.size + 1 + 1) := by omega
  have hg1 : g < w.heap.size + 1 := by omega
  have hg2 : g < w.heap.size + 1 + 1 := by omega
  have hg3 : g < w.heap.size + 2 := by omega
  go_enter Try.func46, Try.ntmps46
  go_wp2
  refine bodyPost_ret (v := .tuple #[.agg #[.bool p, .slice A n c, .slice A' n' c', .bool q, .slice B m d, .slice B' m' d'], .int .i64 0]) (by simp [results, Try.results46, go_sem]) rfl ⟨rfl, b1⟩
theorem gauss_told_no {w : World} {g : Nat} {e0 : Int} {p q : Bool} {A A' B B' : Option Addr} {n n' m m' c c' d d' : Nat} (hx : Box w g 87 #[.int .i64 e0]) (h0 : e0 ≠ 0) :
    Calls Try.prog 46 #[.pointer (some ⟨g, 0, none⟩), .agg #[.bool p, .slice A n c, .slice A' n' c'], .agg #[.bool q, .slice B m d, .slice B' m' d']] w fun e w' => e = .returned (.tuple #[.agg zero6, .int .i64 e0]) ∧ Below w.heap.size w w' := by
  have hg := hx.lt
  obtain ⟨W, hW, x1, x2, x3, b1, hz⟩ := boxes3' w 24 47 #[.bool p, .slice A n c, .slice A' n' c'] #[.bool q, .slice B m d, .slice B' m' d'] #[.bool false, .slice none 0 0, .slice none 0 0, .bool false, .slice none 0 0, .slice none 0 0]
  rw [hW] at b1
  clear hW x1 x2 x3 hz W
  have k0 : w.cell? ⟨g, 0, none⟩ = some _ := hx.cell 0
  have k1 := hx.free 0
  have hne : ¬ (g = w.heap.size) := by omega
  have hne' : ¬ (g = w.heap.size + 1) := by omega
  have hne'' : ¬ (g = w.heap.size + 1 + 1) := by omega
  have hg1 : g < w.heap.size + 1 := by omega
  have hg2 : g < w.heap.size + 1 + 1 := by omega
  have hg3 : g < w.heap.size + 2 := by omega
  have t1 : (e0 != 0) = true := by rw [bne_iff_ne]; exact h0
  go_enter Try.func46, Try.ntmps46
  go_wp2
  go_region
  all_goals
    go_wp2
    refine bodyPost_ret (v := .tuple #[.agg zero6, .int .i64 e0]) (by simp [results, zero6, Try.results46, go_sem]) rfl ⟨rfl, ?_⟩
    exact ⟨b1.os, b1.tape, b1.output, b1.size, b1.block⟩
end Go.Proofs.Ytfmhfgjpbkmneaa
namespace Go.Proofs.Ytfmhfgjpbkmneaa
open Go.RowKit
set_option linter.unusedVariables false
set_option linter.unusedSimpArgs false
set_option maxHeartbeats 2000000
def Num.wCheck (e : Int) (l : List Num.Ra) : Int := l.foldl (fun e r => if e = 0 then Num.rCheck r else e) e
theorem Num.wCheck_take (e : Int) (l : List Num.Ra) (k : Nat) (h : k < l.length) : Num.wCheck e (l.take (k + 1)) = if Num.wCheck e (l.take k) = 0 then Num.rCheck l[k] else Num.wCheck e (l.take k) := by
  unfold Num.wCheck
  rw [List.take_succ_eq_append_getElem h, List.foldl_append]
  rfl
/-- fractions one behind the other in memory -/
def SlR (w : World) (b : Nat) (l : List Num.Ra) : Prop :=
  ∀ j, (h : j < l.length) → ∃ A c A' c', w.cell? ⟨b, j * 3, none⟩ = some (.bool l[j].neg) ∧ w.cell? ⟨b, j * 3 + 1, none⟩ = some (.slice A l[j].num.length c) ∧ w.cell? ⟨b, j * 3 + 2, none⟩ = some (.slice A' l[j].den.length c') ∧ Rd w (.slice A l[j].num.length c) l[j].num ∧ Rd w (.slice A' l[j].den.length c') l[j].den
theorem gauss_check {w : World} {g b c : Nat} {e0 : Int} {l : List Num.Ra} (hx : Box w g 87 #[.int .i64 e0]) (hl : SlR w b l) (hm : l.length ≤ 1000000) (hgb : b ≠ g) :
    Calls Try.prog 72 #[.pointer (some ⟨g, 0, none⟩), .slice (some ⟨b, 0, none⟩) l.length c] w fun e w' => e = .returned (.tuple #[]) ∧ Box w' g 87 #[.int .i64 (Num.wCheck e0 l)] ∧ Way g w w' := by
  have hg := hx.lt
  go_enter Try.func72, Try.ntmps72
  go_wp2
  go_loopw [8] (fun v wr => ∃ k : Nat, v = .int .i64 k ∧ k ≤ l.length ∧ Box wr g 87 #[.int .i64 (Num.wCheck e0 (l.take k))] ∧ Way g w wr) (fun v _ => ((l.length : Int) - intOf v).toNat)
  case atStart => exact ⟨0, rfl, by omega, by simpa [Num.wCheck] using hx, World.grownBy.refl _ _⟩
  case round =>
    obtain ⟨k, rfl, hkl, hxr, hwr⟩ := hrel
    by_cases hk : k < l.length
    · have t1 : decide ((k : Int) < (l.length : Int)) = true := decide_eq_true (by omega)
      have t2 : (0 : Int) ≤ (k : Int) := by omega
      have t3 : (k : Int) < (l.length : Int) := by omega
      have t4 : IntKind.i64.wrap ((k : Int) + 1) = (k : Int) + 1 := by simp [IntKind.wrap, IntKind.bits, IntKind.signed]; omega
      obtain ⟨A, d, A', d', c1, c2, c3, r1, r2⟩ := hl k hk
      have hbl := World.block_lt_of_cell? w _ c1
      have hcc : ∀ o, wr.cell? ⟨b, o, none⟩ = w.cell? ⟨b, o, none⟩ := fun o => World.cell?_of_block (hwr.block b hbl (fun e => hgb (by injection e)))
      rw [← hcc] at c1 c2 c3
      have hR : RdR wr (.agg #[.bool l[k].neg, .slice A l[k].num.length d, .slice A' l[k].den.length d']) l[k] := ⟨_, _, rfl, r1.way hx hwr, r2.way hx hwr⟩
      have hT := Num.wCheck_take e0 l k hk
      generalize l[k] = r at *
      generalize Num.wCheck e0 (l.take k) = ek at *
      clear hcc
      have hgr := hxr.lt
      have k0 := hxr.cell 0
      have x0 := Box.new wr 24 #[.bool r.neg, .slice A r.num.length d, .slice A' r.den.length d']
      have b0 : Below wr.heap.size wr (wr.alloc (.cells #[.bool r.neg, .slice A r.num.length d, .slice A' r.den.length d'] 24)) := (Below.refl _ _).alloc (Nat.le_refl _) _
      have HC := Lib.hid (ratio_Check (hR.below b0))
      clear hR r1 r2
      by_cases h0 : ek = 0
      · have t5 : (ek == 0) = true := by rw [beq_iff_eq]; exact h0
        have hT : Hid (Num.wCheck e0 (l.take (k + 1)) = Num.rCheck r) := Lib.hid (hT.trans (if_pos h0))
        clear h0
        go_wp2_with fail
        refine HC.out.mono ?_
        rintro e w1 ⟨rfl, b1⟩
        have hx1 := (hxr.below b0).below b1
        have m0 := hx1.cell 0
        have m1 := hx1.free 0
        have hg1 := hx1.lt
        go_wp2
        go_roundw
        case rel => exact ⟨k + 1, rfl, by omega, by rw [hT.out]; exact hx1.set0 _, (hwr.trans ((Way.of_below b0).trans (Way.of_below b1))).trans (Way.set w1 g 0 _)⟩
        case measure => simp [intOf] <;> omega
      · have t5 : (ek == 0) = false := by rw [beq_eq_false_iff_ne]; exact h0
        have hT : Hid (Num.wCheck e0 (l.take (k + 1)) = ek) := Lib.hid (hT.trans (if_neg h0))
        clear h0
        go_wp2
        go_roundw
        case rel => exact ⟨k + 1, rfl, by omega, by rw [hT.out]; exact hxr.below b0, hwr.trans (Way.of_below b0)⟩
        case measure => simp [intOf] <;> omega
    · have t1 : decide ((k : Int) < (l.length : Int)) = false := decide_eq_false (by omega)
      have hT : Hid (Num.wCheck e0 l = Num.wCheck e0 (l.take k)) := Lib.hid (by rw [List.take_of_length_le (by omega)])
      go_wp2
      (try simp only [Exit.inBlock, Exit.then])
      refine bodyPost_end (results_none rfl _ _ _) rfl ?_
      exact ⟨rfl, by rw [hT.out]; exact hxr, hwr⟩
end Go.Proofs.Ytfmhfgjpbkmneaa
namespace Go.Proofs.Ytfmhfgjpbkmneaa
open Go.RowKit
set_option linter.unusedVariables false
set_option linter.unusedSimpArgs false
set_option maxHeartbeats 2000000
namespace Num
structure Ga where
  re : Ra
  im : Ra
def Ga.zero : Ga := ⟨Ra.zero, Ra.zero⟩
def two (x : Ga) : List Ra := [x.re, x.im]
def gAsked (l : List Ga) : Int := wCheck 0 (l.flatMap two)
theorem gAsked_take (l : List Ga) (k : Nat) (h : k < l.length) : gAsked (l.take (k + 1)) = wCheck (gAsked (l.take k)) [l[k].re, l[k].im] := by
  unfold gAsked
  rw [List.take_succ_eq_append_getElem h, List.flatMap_append]
  unfold wCheck
  rw [List.foldl_append]
  rfl
end Num
/-- a complex fraction's value -/
def RdG (w : World) (v : Value) (x : Num.Ga) : Prop := ∃ A c A' c' B d B' d', v = .agg #[.bool x.re.neg, .slice A x.re.num.length c, .slice A' x.re.den.length c', .bool x.im.neg, .slice B x.im.num.length d, .slice B' x.im.den.length d'] ∧ Rd w (.slice A x.re.num.length c) x.re.num ∧ Rd w (.slice A' x.re.den.length c') x.re.den ∧ Rd w (.slice B x.im.num.length d) x.im.num ∧ Rd w (.slice B' x.im.den.length d') x.im.den
theorem RdG.below {w w' : World} {v : Value} {x : Num.Ga} (h : RdG w v x) (hb : Below w.heap.size w w') : RdG w' v x := by
  obtain ⟨A, c, A', c', B, d, B', d', e, h1, h2, h3, h4⟩ := h
  exact ⟨A, c, A', c', B, d, B', d', e, h1.below hb, h2.below hb, h3.below hb, h4.below hb⟩
/-- complex fractions one behind the other in memory -/
def SlG (w : World) (b : Nat) (l : List Num.Ga) : Prop :=
  ∀ j, (h : j < l.length) → ∃ A c A' c' B d B' d', (w.cell? ⟨b, j * 6, none⟩ = some (.bool l[j].re.neg) ∧ w.cell? ⟨b, j * 6 + 1, none⟩ = some (.slice A l[j].re.num.length c) ∧ w.cell? ⟨b, j * 6 + 2, none⟩ = some (.slice A' l[j].re.den.length c') ∧ w.cell? ⟨b, j * 6 + 3, none⟩ = some (.bool l[j].im.neg) ∧ w.cell? ⟨b, j * 6 + 4, none⟩ = some (.slice B l[j].im.num.length d) ∧ w.cell? ⟨b, j * 6 + 5, none⟩ = some (.slice B' l[j].im.den.length d')) ∧
    Rd w (.slice A l[j].re.num.length c) l[j].re.num ∧ Rd w (.slice A' l[j].re.den.length c') l[j].re.den ∧ Rd w (.slice B l[j].im.num.length d) l[j].im.num ∧ Rd w (.slice B' l[j].im.den.length d') l[j].im.den
theorem boxes2' (w : World) (t t' : TypeId) (A B : Array Value) : ∃ W, W = (w.alloc (.cells A t)).alloc (.cells B t') ∧ Box W w.heap.size t A ∧ Box W (w.heap.size + 1) t' B ∧ Below w.heap.size w W ∧ W.heap.size = w.heap.size + 2 := by
  have q : ∀ o, (w.alloc o).heap.size = w.heap.size + 1 := fun o => by simp
  refine ⟨_, rfl, ?_, ?_, ?_, ?_⟩
  · exact (Box.new w t A).below ((Below.refl _ _).alloc (by simp) _)
  · have := Box.new (w.alloc (.cells A t)) t' B
    rw [q] at this; exact this
  · exact ((Below.refl _ _).alloc (Nat.le_refl _) _).alloc (by simp) _
  · simp
theorem sl_two {w : World} {b : Nat} {t : TypeId} {x y : Num.Ra} {A A' B B' : Option Addr} {c c' d d' : Nat} (h : Box w b t #[.bool x.neg, .slice A x.num.length c, .slice A' x.den.length c', .bool y.neg, .slice B y.num.length d, .slice B' y.den.length d'])
    (r1 : Rd w (.slice A x.num.length c) x.num) (r2 : Rd w (.slice A' x.den.length c') x.den) (r3 : Rd w (.slice B y.num.length d) y.num) (r4 : Rd w (.slice B' y.den.length d') y.den) : SlR w b [x, y] := by
  obtain ⟨h0, h1, h2, h3, h4, h5⟩ := h.six
  intro j hj
  match j, hj with
  | 0, _ => exact ⟨A, c, A', c', h0, h1, h2, r1, r2⟩
  | 1, _ => exact ⟨B, d, B', d', h3, h4, h5, r3, r4⟩
theorem gauss_asked {w : World} {b c : Nat} {l : List Num.Ga} (hl : SlG w b l) (hm : l.length ≤ 1000000) :
    Calls Try.prog 44 #[.slice (some ⟨b, 0, none⟩) l.length c] w fun e w' => ∃ g, e = .returned (.pointer (some ⟨g, 0, none⟩)) ∧ w.heap.size ≤ g ∧ Box w' g 87 #[.int .i64 (Num.gAsked l)] ∧ Below w.heap.size w w' := by
  have x0 := Box.new w 87 #[.int .i64 0]
  have b0 : Below w.heap.size w (w.alloc (.cells #[.int .i64 0] 87)) := (Below.refl _ _).alloc (Nat.le_refl _) _
  have hs0 : (w.alloc (.cells #[.int .i64 0] 87)).heap.size = w.heap.size + 1 := by simp
  go_enter Try.func44, Try.ntmps44
  go_wp2
  go_loopw [9] (fun v wr => ∃ k : Nat, v = .int .i64 k ∧ k ≤ l.length ∧ Box wr w.heap.size 87 #[.int .i64 (Num.gAsked (l.take k))] ∧ Below w.heap.size w wr) (fun v _ => ((l.length : Int) - intOf v).toNat)
  case atStart => exact ⟨0, rfl, by omega, x0, b0⟩
  case round =>
    obtain ⟨k, rfl, hkl, hxr, hbr⟩ := hrel
    by_cases hk : k < l.length
    · have t1 : decide ((k : Int) < (l.length : Int)) = true := decide_eq_true (by omega)
      have t2 : (0 : Int) ≤ (k : Int) := by omega
      have t3 : (k : Int) < (l.length : Int) := by omega
      have t4 : IntKind.i64.wrap ((k : Int) + 1) = (k : Int) + 1 := by simp [IntKind.wrap, IntKind.bits, IntKind.signed]; omega
      obtain ⟨A, d, A', d', B, f, B', f', ⟨c0, c1, c2, c3, c4, c5⟩, r1, r2, r3, r4⟩ := hl k hk
      have hbl := World.block_lt_of_cell? w _ c0
      have hcc : ∀ o, wr.cell? ⟨b, o, none⟩ = w.cell? ⟨b, o, none⟩ := fun o => World.cell?_of_block (hbr.block b hbl)
      rw [← hcc] at c0 c1 c2 c3 c4 c5
      have r1 := r1.below hbr
      have r2 := r2.below hbr
      have r3 := r3.below hbr
      have r4 := r4.below hbr
      have hT := Lib.hid (Num.gAsked_take l k hk)
      generalize l[k] = r at *
      generalize Num.gAsked (l.take k) = ek at *
      clear hcc
      have hgr := hxr.lt
      obtain ⟨W, hW, x1, x2, b1, hz⟩ := boxes2' wr 47 24 #[.bool r.re.neg, .slice A r.re.num.length d, .slice A' r.re.den.length d', .bool r.im.neg, .slice B r.im.num.length f, .slice B' r.im.den.length f'] #[.bool r.re.neg, .slice A r.re.num.length d, .slice A' r.re.den.length d', .bool r.im.neg, .slice B r.im.num.length f, .slice B' r.im.den.length f']
      have hS := sl_two x2 (r1.below b1) (r2.below b1) (r3.below b1) (r4.below b1)
      have HC := Lib.hid (gauss_check (g := w.heap.size) (c := 2) (hxr.below b1) hS (by simp) (by omega))
      clear hS r1 r2 r3 r4
      go_wp2_with fail
      rw [← hW]
      clear hW
      refine HC.out.mono ?_
      rintro e w1 ⟨rfl, hx1, hw1⟩
      go_wp2
      go_roundw
      case rel => exact ⟨k + 1, rfl, by omega, by rw [hT.out]; exact hx1, (hbr.trans (b1.mono hbr.size)).trans (hw1.below (by omega) (by omega))⟩
      case measure => simp [intOf] <;> omega
    · have t1 : decide ((k : Int) < (l.length : Int)) = false := decide_eq_false (by omega)
      have hT : Hid (Num.gAsked l = Num.gAsked (l.take k)) := Lib.hid (by rw [List.take_of_length_le (by omega)])
      go_wp2
      go_ret
      exact ⟨w.heap.size, rfl, Nat.le_refl _, by rw [hT.out]; exact hxr, hbr⟩
end Go.Proofs.Ytfmhfgjpbkmneaa
namespace Go.Proofs.Ytfmhfgjpbkmneaa
open Go.RowKit
set_option linter.unusedVariables false
set_option linter.unusedSimpArgs false
set_option maxHeartbeats 2000000
theorem Box.cells {w : World} {g : Nat} {t : TypeId} {cs : Array Value} (h : Box w g t cs) (o : Nat) (v : Value) (hv : cs[o]? = some v) : w.cell? ⟨g, o, none⟩ = some v := (h.cell o).trans hv
theorem slg_one {w : World} {b : Nat} {t : TypeId} {x : Num.Ga} {A A' B B' : Option Addr} {c c' d d' : Nat} (h : Box w b t #[.bool x.re.neg, .slice A x.re.num.length c, .slice A' x.re.den.length c', .bool x.im.neg, .slice B x.im.num.length d, .slice B' x.im.den.length d'])
    (r1 : Rd w (.slice A x.re.num.length c) x.re.num) (r2 : Rd w (.slice A' x.re.den.length c') x.re.den) (r3 : Rd w (.slice B x.im.num.length d) x.im.num) (r4 : Rd w (.slice B' x.im.den.length d') x.im.den) : SlG w b [x] := by
  obtain ⟨h0, h1, h2, h3, h4, h5⟩ := h.six
  intro j hj
  match j, hj with
  | 0, _ => exact ⟨A, c, A', c', B, d, B', d', ⟨h0, h1, h2, h3, h4, h5⟩, r1, r2, r3, r4⟩
theorem slg_two {w : World} {b : Nat} {t : TypeId} {x y : Num.Ga} {A A' B B' P P' Q Q' : Option Addr} {c c' d d' p p' q q' : Nat}
    (h : Box w b t #[.bool x.re.neg, .slice A x.re.num.length c, .slice A' x.re.den.length c', .bool x.im.neg, .slice B x.im.num.length d, .slice B' x.im.den.length d', .bool y.re.neg, .slice P y.re.num.length p, .slice P' y.re.den.length p', .bool y.im.neg, .slice Q y.im.num.length q, .slice Q' y.im.den.length q'])
    (r1 : Rd w (.slice A x.re.num.length c) x.re.num) (r2 : Rd w (.slice A' x.re.den.length c') x.re.den) (r3 : Rd w (.slice B x.im.num.length d) x.im.num) (r4 : Rd w (.slice B' x.im.den.length d') x.im.den)
    (s1 : Rd w (.slice P y.re.num.length p) y.re.num) (s2 : Rd w (.slice P' y.re.den.length p') y.re.den) (s3 : Rd w (.slice Q y.im.num.length q) y.im.num) (s4 : Rd w (.slice Q' y.im.den.length q') y.im.den) : SlG w b [x, y] := by
  intro j hj
  match j, hj with
  | 0, _ => exact ⟨A, c, A', c', B, d, B', d', ⟨h.cell 0, h.cell 1, h.cell 2, h.cell 3, h.cell 4, h.cell 5⟩, r1, r2, r3, r4⟩
  | 1, _ => exact ⟨P, p, P', p', Q, q, Q', q', ⟨h.cell 6, h.cell 7, h.cell 8, h.cell 9, h.cell 10, h.cell 11⟩, s1, s2, s3, s4⟩
theorem gauss_Check {w : World} {v : Value} {x : Num.Ga} (h : RdG w v x) : Calls Try.prog 62 #[v] w fun e w' => e = .returned (.int .i64 (Num.gAsked [x])) ∧ Below w.heap.size w w' := by
  obtain ⟨A, c, A', c', B, d, B', d', rfl, r1, r2, r3, r4⟩ := h
  obtain ⟨W, hW, x1, x2, b1, hz⟩ := boxes2' w 47 47 #[.bool x.re.neg, .slice A x.re.num.length c, .slice A' x.re.den.length c', .bool x.im.neg, .slice B x.im.num.length d, .slice B' x.im.den.length d'] #[.bool x.re.neg, .slice A x.re.num.length c, .slice A' x.re.den.length c', .bool x.im.neg, .slice B x.im.num.length d, .slice B' x.im.den.length d']
  have HC := Lib.hid (gauss_asked (c := 1) (slg_one x2 (r1.below b1) (r2.below b1) (r3.below b1) (r4.below b1)) (by simp))
  clear r1 r2 r3 r4
  go_enter Try.func62, Try.ntmps62
  go_wp2_with fail
  rw [← hW]
  clear hW
  refine HC.out.mono ?_
  rintro e w1 ⟨g, rfl, hg, hx, b2⟩
  have k0 := hx.cell 0
  go_wp2
  go_ret
  exact ⟨rfl, b1.trans (b2.mono b1.size)⟩
end Go.Proofs.Ytfmhfgjpbkmneaa
namespace Go.Proofs.Ytfmhfgjpbkmneaa
open Go.RowKit
set_option linter.unusedVariables false
set_option linter.unusedSimpArgs false
set_option maxHeartbeats 2000000
def Num.gInt (a b : Int) : Num.Ga := ⟨(Num.rSmall a 1).1, (Num.rSmall b 1).1⟩
def FourAp (a b c d : Value) : Prop := Ap a b ∧ Ap a c ∧ Ap a d ∧ Ap b c ∧ Ap b d ∧ Ap c d
/-- four lists in memory of their own -/
def Own4 (w : World) (lo : Nat) (a b c d : Value) (x : Num.Ga) : Prop := Own w lo a x.re.num ∧ Own w lo b x.re.den ∧ Own w lo c x.im.num ∧ Own w lo d x.im.den ∧ FourAp a b c d
def NewG (w : World) (x : Num.Ga) (e : Ending) (w' : World) : Prop := ∃ A c A' c' B d B' d', e = .returned (.agg #[.bool x.re.neg, .slice A x.re.num.length c, .slice A' x.re.den.length c', .bool x.im.neg, .slice B x.im.num.length d, .slice B' x.im.den.length d']) ∧
  Own4 w' w.heap.size (.slice A x.re.num.length c) (.slice A' x.re.den.length c') (.slice B x.im.num.length d) (.slice B' x.im.den.length d') x ∧ Below w.heap.size w w'
def NewGE (w : World) (x : Num.Ga × Int) (e : Ending) (w' : World) : Prop := ∃ A c A' c' B d B' d', e = .returned (.tuple #[.agg #[.bool x.1.re.neg, .slice A x.1.re.num.length c, .slice A' x.1.re.den.length c', .bool x.1.im.neg, .slice B x.1.im.num.length d, .slice B' x.1.im.den.length d'], .int .i64 x.2]) ∧
  Own4 w' w.heap.size (.slice A x.1.re.num.length c) (.slice A' x.1.re.den.length c') (.slice B x.1.im.num.length d) (.slice B' x.1.im.den.length d') x.1 ∧ Below w.heap.size w w'
/-- the store of a complex fraction into a variable -/
def set6 (w : World) (g : Nat) (a b c d e f : Value) : World := (((((w.setCell ⟨g, 0, none⟩ a).setCell ⟨g, 1, none⟩ b).setCell ⟨g, 2, none⟩ c).setCell ⟨g, 3, none⟩ d).setCell ⟨g, 4, none⟩ e).setCell ⟨g, 5, none⟩ f
theorem Own.set6 {w : World} {lo lo' g : Nat} {v : Value} {l : List Int} (h : Own w lo v l) (hg : g < lo) (hl : lo' ≤ lo) (a b c d e f : Value) : Own (Proofs.Ytfmhfgjpbkmneaa.set6 w g a b c d e f) lo' v l :=
  ((((((h.far (p := ⟨g, 0, none⟩) hg a).far (p := ⟨g, 1, none⟩) hg b).far (p := ⟨g, 2, none⟩) hg c).far (p := ⟨g, 3, none⟩) hg d).far (p := ⟨g, 4, none⟩) hg e).far (p := ⟨g, 5, none⟩) hg f).lower hl
theorem below_set6 {w w' : World} {B g : Nat} (h : Below B w w') (hg : B ≤ g) (a b c d e f : Value) : Below B w (Proofs.Ytfmhfgjpbkmneaa.set6 w' g a b c d e f) :=
  (((((h.setCell hg _).setCell hg _).setCell hg _).setCell hg _).setCell hg _).setCell hg _
theorem Own4.set6 {w : World} {lo lo' g : Nat} {p q r s : Value} {x : Num.Ga} (h : Own4 w lo p q r s x) (hg : g < lo) (hl : lo' ≤ lo) (a b c d e f : Value) : Own4 (Proofs.Ytfmhfgjpbkmneaa.set6 w g a b c d e f) lo' p q r s x :=
  ⟨h.1.set6 hg hl .., h.2.1.set6 hg hl .., h.2.2.1.set6 hg hl .., h.2.2.2.1.set6 hg hl .., h.2.2.2.2⟩
theorem Own4.below {w w' : World} {lo : Nat} {p q r s : Value} {x : Num.Ga} (h : Own4 w lo p q r s x) (hb : Below w.heap.size w w') : Own4 w' lo p q r s x :=
  ⟨h.1.below hb, h.2.1.below hb, h.2.2.1.below hb, h.2.2.2.1.below hb, h.2.2.2.2⟩
theorem Own4.lower {w : World} {lo lo' : Nat} {p q r s : Value} {x : Num.Ga} (h : Own4 w lo p q r s x) (hl : lo' ≤ lo) : Own4 w lo' p q r s x :=
  ⟨h.1.lower hl, h.2.1.lower hl, h.2.2.1.lower hl, h.2.2.2.1.lower hl, h.2.2.2.2⟩
theorem newG_alloc {w w' : World} {x y : Num.Ra} {A A' B B' : Option Addr} {c c' d d' : Nat} (O : Own4 w' w.heap.size (.slice A x.num.length c) (.slice A' x.den.length c') (.slice B y.num.length d) (.slice B' y.den.length d') ⟨x, y⟩) (hB : Below w.heap.size w w') (o : Obj) :
    NewG w ⟨x, y⟩ (.returned (.agg #[.bool x.neg, .slice A x.num.length c, .slice A' x.den.length c', .bool y.neg, .slice B y.num.length d, .slice B' y.den.length d'])) (w'.alloc o) :=
  ⟨A, c, A', c', B, d, B', d', rfl, O.below ((Below.refl _ _).alloc (Nat.le_refl _) _), hB.alloc hB.size _⟩
theorem gauss_Int (a b : Int) (w : World) (h0 : -9223372036854775808 ≤ a) (h1 : a ≤ 9223372036854775807) (h2 : -9223372036854775808 ≤ b) (h3 : b ≤ 9223372036854775807) :
    Calls Try.prog 18 #[.int .i64 a, .int .i64 b] w (NewG w (Num.gInt a b)) := by
  have H1 := Lib.hid (fun W => ratio_Small a 1 W h0 h1 (by omega) (by omega))
  have H2 := Lib.hid (fun W => ratio_Small b 1 W h2 h3 (by omega) (by omega))
  unfold Num.gInt
  generalize Num.rSmall a 1 = x at *
  generalize Num.rSmall b 1 = y at *
  clear h0 h1 h2 h3
  have x0 := Box.new w 47 #[.bool false, .slice none 0 0, .slice none 0 0, .bool false, .slice none 0 0, .slice none 0 0]
  have b0 : Below w.heap.size w (w.alloc (.cells #[.bool false, .slice none 0 0, .slice none 0 0, .bool false, .slice none 0 0, .slice none 0 0] 47)) := (Below.refl _ _).alloc (Nat.le_refl _) _
  go_enter Try.func18, Try.ntmps18
  go_wp2_with fail
  refine (H1.out _).mono ?_
  rintro e w1 hq
  obtain ⟨A, c, A', c', rfl, o1, o2, hap, b1⟩ := hq.parts
  have x1 := x0.below b1
  go_wp2_with fail
  refine (H2.out _).mono ?_
  rintro e w2 hq
  obtain ⟨B, d, B', d', rfl, o3, o4, hap', b2⟩ := hq.parts
  have q0 : Below w1.heap.size w1 (w1.alloc (.cells #[.bool x.1.neg, .slice A x.1.num.length c, .slice A' x.1.den.length c'] 24)) := (Below.refl _ _).alloc (Nat.le_refl _) _
  have y2 := (Box.new w1 24 #[.bool x.1.neg, .slice A x.1.num.length c, .slice A' x.1.den.length c']).below b2
  have x2 := (x1.below q0).below b2
  have l1 := x2.lt
  have l2 := y2.lt
  obtain ⟨i0, i1, i2, -, -, -⟩ := y2.three
  obtain ⟨k0, k1, k2, k3, k4, k5⟩ := x2.six
  obtain ⟨f0, f1, f2, f3, f4, f5⟩ := x2.six_
  go_wp2
  have hs : w1.heap.size ≤ (w1.alloc (.cells #[.bool x.1.neg, .slice A x.1.num.length c, .slice A' x.1.den.length c'] 24)).heap.size := by simp
  have hw0 : w.heap.size < (w.alloc (.cells #[.bool false, .slice none 0 0, .slice none 0 0, .bool false, .slice none 0 0, .slice none 0 0] 47)).heap.size := by simp
  have O : Own4 w2 (w.alloc (.cells #[.bool false, .slice none 0 0, .slice none 0 0, .bool false, .slice none 0 0, .slice none 0 0] 47)).heap.size (.slice A x.1.num.length c) (.slice A' x.1.den.length c') (.slice B y.1.num.length d) (.slice B' y.1.den.length d') ⟨x.1, y.1⟩ :=
    ⟨(o1.below q0).below b2, (o2.below q0).below b2, o3.lower (Nat.le_trans b1.size hs), o4.lower (Nat.le_trans b1.size hs), hap, o1.ap o3 hs, o1.ap o4 hs, o2.ap o3 hs, o2.ap o4 hs, hap'⟩
  have hB : Below w.heap.size w w2 := b0.trans ((b1.mono b0.size).trans ((q0.mono (Nat.le_trans b0.size b1.size)).trans (b2.mono (Nat.le_trans (Nat.le_trans b0.size b1.size) hs))))
  have hw2 : w.heap.size ≤ w2.heap.size := hB.size
  have hB6 := below_set6 hB (Nat.le_refl _) (.bool x.1.neg) (.slice A x.1.num.length c) (.slice A' x.1.den.length c') (.bool y.1.neg) (.slice B y.1.num.length d) (.slice B' y.1.den.length d')
  have O6 := O.set6 hw0 (Nat.le_of_lt hw0) (.bool x.1.neg) (.slice A x.1.num.length c) (.slice A' x.1.den.length c') (.bool y.1.neg) (.slice B y.1.num.length d) (.slice B' y.1.den.length d')
  have hfin := newG_alloc O6 hB6 (.cells #[.bool y.1.neg, .slice B y.1.num.length d, .slice B' y.1.den.length d'] 24)
  unfold set6 at hfin
  refine bodyPost_ret (v := .agg #[.bool x.1.neg, .slice A x.1.num.length c, .slice A' x.1.den.length c', .bool y.1.neg, .slice B y.1.num.length d, .slice B' y.1.den.length d']) ?_ rfl hfin
  clear hfin O6 hB6 O
  simp [results, Try.results18, go_sem, k0, k1, k2, k3, k4, k5, l1]
end Go.Proofs.Ytfmhfgjpbkmneaa
namespace Go.Proofs.Ytfmhfgjpbkmneaa
open Go.RowKit
set_option linter.unusedVariables false
set_option linter.unusedSimpArgs false
set_option maxHeartbeats 2000000
def Num.gSame (x y : Num.Ga) : Bool := decide (Num.gAsked [x, y] = 0) && (Num.rSame x.re y.re && Num.rSame x.im y.im)
theorem gauss_Same {w : World} {va vb : Value} {x y : Num.Ga} (h : RdG w va x) (h' : RdG w vb y) : Calls Try.prog 20 #[va, vb] w fun e w' => e = .returned (.bool (Num.gSame x y)) ∧ Below w.heap.size w w' := by
  obtain ⟨A, c, A', c', B, d, B', d', rfl, r1, r2, r3, r4⟩ := h
  obtain ⟨P, p, P', p', Q, q, Q', q', rfl, s1, s2, s3, s4⟩ := h'
  obtain ⟨W, hW, x1, x2, x3, b1, hz⟩ := boxes3 w 47 #[.bool x.re.neg, .slice A x.re.num.length c, .slice A' x.re.den.length c', .bool x.im.neg, .slice B x.im.num.length d, .slice B' x.im.den.length d'] #[.bool y.re.neg, .slice P y.re.num.length p, .slice P' y.re.den.length p', .bool y.im.neg, .slice Q y.im.num.length q, .slice Q' y.im.den.length q'] #[.bool x.re.neg, .slice A x.re.num.length c, .slice A' x.re.den.length c', .bool x.im.neg, .slice B x.im.num.length d, .slice B' x.im.den.length d', .bool y.re.neg, .slice P y.re.num.length p, .slice P' y.re.den.length p', .bool y.im.neg, .slice Q y.im.num.length q, .slice Q' y.im.den.length q']
  have HC := Lib.hid (gauss_asked (c := 2) (slg_two x3 (r1.below b1) (r2.below b1) (r3.below b1) (r4.below b1) (s1.below b1) (s2.below b1) (s3.below b1) (s4.below b1)) (by simp))
  have T1 := Lib.hid (fun (W : World) (hB : Below w.heap.size w W) => ratio_Same (a := x.re) (b := y.re) ⟨_, _, rfl, r1.below hB, r2.below hB⟩ ⟨_, _, rfl, s1.below hB, s2.below hB⟩)
  have T2 := Lib.hid (fun (W : World) (hB : Below w.heap.size w W) => ratio_Same (a := x.im) (b := y.im) ⟨_, _, rfl, r3.below hB, r4.below hB⟩ ⟨_, _, rfl, s3.below hB, s4.below hB⟩)
  clear r1 r2 r3 r4 s1 s2 s3 s4
  unfold Num.gSame
  generalize Num.gAsked [x, y] = ek at *
  generalize Num.rSame x.re y.re = q1 at *
  generalize Num.rSame x.im y.im = q2 at *
  by_cases h0 : ¬ ek = 0
  · have t1 : (ek == 0) = false := by rw [beq_eq_false_iff_ne]; exact h0
    have hr : Hid (false = (decide (ek = 0) && (q1 && q2))) := Lib.hid (by rw [decide_eq_false h0]; rfl)
    clear h0
    go_enter Try.func20, Try.ntmps20
    go_wp2_with fail
    rw [← hW]
    clear hW
    refine HC.out.mono ?_
    rintro e w1 ⟨g, rfl, hg, hx, b2⟩
    have k0 := hx.cell 0
    go_wp2
    go_ret
    exact ⟨ret_bool hr.out, b1.trans (b2.mono b1.size)⟩
  have h0 := Decidable.not_not.1 h0
  have t1 : (ek == 0) = true := by rw [beq_iff_eq]; exact h0
  cases q1 with
  | false =>
    have hr : Hid (false = (decide (ek = 0) && (false && q2))) := Lib.hid (by rw [decide_eq_true h0]; rfl)
    clear h0
    go_enter Try.func20, Try.ntmps20
    go_wp2_with fail
    rw [← hW]
    clear hW
    refine HC.out.mono ?_
    rintro e w1 ⟨g, rfl, hg, hx, b2⟩
    have k0 := hx.cell 0
    have b3 := b1.trans (b2.mono b1.size)
    obtain ⟨i0, i1, i2, i3, i4, i5⟩ := (x1.below b2).six
    obtain ⟨j0, j1, j2, j3, j4, j5⟩ := (x2.below b2).six
    go_wp2_with fail
    refine (T1.out _ b3).mono ?_
    rintro e w2 ⟨rfl, b4⟩
    go_wp2
    go_ret
    exact ⟨ret_bool hr.out, b3.trans (b4.mono b3.size)⟩
  | true =>
    have hr : Hid (q2 = (decide (ek = 0) && (true && q2))) := Lib.hid (by rw [decide_eq_true h0]; simp)
    clear h0
    go_enter Try.func20, Try.ntmps20
    go_wp2_with fail
    rw [← hW]
    clear hW
    refine HC.out.mono ?_
    rintro e w1 ⟨g, rfl, hg, hx, b2⟩
    have k0 := hx.cell 0
    have b3 := b1.trans (b2.mono b1.size)
    obtain ⟨i0, i1, i2, i3, i4, i5⟩ := (x1.below b2).six
    obtain ⟨j0, j1, j2, j3, j4, j5⟩ := (x2.below b2).six
    go_wp2_with fail
    refine (T1.out _ b3).mono ?_
    rintro e w2 ⟨rfl, b4⟩
    have b5 := b3.trans (b4.mono b3.size)
    obtain ⟨i0', i1', i2', i3', i4', i5'⟩ := ((x1.below b2).below b4).six
    obtain ⟨j0', j1', j2', j3', j4', j5'⟩ := ((x2.below b2).below b4).six
    go_wp2_with fail
    refine (T2.out _ b5).mono ?_
    rintro e w3 ⟨rfl, b6⟩
    go_wp2
    go_ret
    exact ⟨ret_bool hr.out, b5.trans (b6.mono b5.size)⟩
end Go.Proofs.Ytfmhfgjpbkmneaa
namespace Go.Proofs.Ytfmhfgjpbkmneaa
open Go.RowKit
set_option linter.unusedVariables false
set_option linter.unusedSimpArgs false
set_option maxHeartbeats 2000000
def Num.gTold (re im : Num.Ra) (e : Int) : Num.Ga × Int := if e = 0 then (⟨re, im⟩, 0) else (Num.Ga.zero, e)
theorem boxes4 (w : World) (t : TypeId) (A B C D : Array Value) : ∃ W, W = (((w.alloc (.cells A t)).alloc (.cells B t)).alloc (.cells C t)).alloc (.cells D t) ∧ Box W w.heap.size t A ∧ Box W (w.heap.size + 1) t B ∧ Box W (w.heap.size + 1 + 1) t C ∧ Box W (w.heap.size + 1 + 1 + 1) t D ∧ Below w.heap.size w W ∧ W.heap.size = w.heap.size + 4 := by
  obtain ⟨W, rfl, h1, h2, h3, h4, h5⟩ := boxes3 w t A B C
  have hb := (Below.refl (((w.alloc (.cells A t)).alloc (.cells B t)).alloc (.cells C t)).heap.size _).alloc (Nat.le_refl _) (.cells D t)
  refine ⟨_, rfl, h1.below hb, h2.below hb, h3.below hb, ?_, h4.trans (hb.mono (by omega)), by simp⟩
  have := Box.new (((w.alloc (.cells A t)).alloc (.cells B t)).alloc (.cells C t)) t D
  rw [h5] at this; exact this
theorem gauss_told {w : World} {g lo : Nat} {e0 : Int} {re im : Num.Ra} {A A' B B' : Option Addr} {c c' d d' : Nat} (hx : Box w g 87 #[.int .i64 e0])
    (O : Own4 w lo (.slice A re.num.length c) (.slice A' re.den.length c') (.slice B im.num.length d) (.slice B' im.den.length d') ⟨re, im⟩) :
    Calls Try.prog 46 #[.pointer (some ⟨g, 0, none⟩), .agg #[.bool re.neg, .slice A re.num.length c, .slice A' re.den.length c'], .agg #[.bool im.neg, .slice B im.num.length d, .slice B' im.den.length d']] w fun e w' =>
      ∃ P p P' p' Q q Q' q', e = .returned (.tuple #[.agg #[.bool (Num.gTold re im e0).1.re.neg, .slice P (Num.gTold re im e0).1.re.num.length p, .slice P' (Num.gTold re im e0).1.re.den.length p', .bool (Num.gTold re im e0).1.im.neg, .slice Q (Num.gTold re im e0).1.im.num.length q, .slice Q' (Num.gTold re im e0).1.im.den.length q'], .int .i64 (Num.gTold re im e0).2]) ∧
        Own4 w' lo (.slice P (Num.gTold re im e0).1.re.num.length p) (.slice P' (Num.gTold re im e0).1.re.den.length p') (.slice Q (Num.gTold re im e0).1.im.num.length q) (.slice Q' (Num.gTold re im e0).1.im.den.length q') (Num.gTold re im e0).1 ∧ Below w.heap.size w w' := by
  by_cases h0 : e0 = 0
  · subst h0
    have hr : Num.gTold re im 0 = (⟨re, im⟩, 0) := if_pos rfl
    rw [hr]
    refine (gauss_told_ok hx).mono ?_
    rintro e w' ⟨rfl, b⟩
    exact ⟨A, c, A', c', B, d, B', d', rfl, O.below b, b⟩
  · have hr : Num.gTold re im e0 = (Num.Ga.zero, e0) := if_neg h0
    rw [hr]
    refine (gauss_told_no hx h0).mono ?_
    rintro e w' ⟨rfl, b⟩
    exact ⟨none, 0, none, 0, none, 0, none, 0, rfl, ⟨Own.nil_ _ _, Own.nil_ _ _, Own.nil_ _ _, Own.nil_ _ _, Ap.nil_l _, Ap.nil_l _, Ap.nil_l _, Ap.nil_l _, Ap.nil_l _, Ap.nil_l _⟩, b⟩
theorem newGE_set {w w' : World} {z : Num.Ga × Int} {g lo : Nat} {A A' B B' : Option Addr} {c c' d d' : Nat} (O : Own4 w' lo (.slice A z.1.re.num.length c) (.slice A' z.1.re.den.length c') (.slice B z.1.im.num.length d) (.slice B' z.1.im.den.length d') z.1) (hB : Below w.heap.size w w') (hg : w.heap.size ≤ g) (hl : g < lo) (a b e f h i : Value) :
    NewGE w z (.returned (.tuple #[.agg #[.bool z.1.re.neg, .slice A z.1.re.num.length c, .slice A' z.1.re.den.length c', .bool z.1.im.neg, .slice B z.1.im.num.length d, .slice B' z.1.im.den.length d'], .int .i64 z.2])) ((((((w'.setCell ⟨g, 0, none⟩ a).setCell ⟨g, 1, none⟩ b).setCell ⟨g, 2, none⟩ e).setCell ⟨g, 3, none⟩ f).setCell ⟨g, 4, none⟩ h).setCell ⟨g, 5, none⟩ i) :=
  ⟨A, c, A', c', B, d, B', d', rfl, O.set6 hl (by omega) a b e f h i, below_set6 hB hg a b e f h i⟩
/-- the parts of a told pair -/
theorem Own4.of {w1 w2 : World} {lo lo2 : Nat} {a b c d : Value} {x y : Num.Ra} (h1 : Own w1 lo a x.num) (h2 : Own w1 lo b x.den) (h12 : Ap a b) (h3 : Own w2 lo2 c y.num) (h4 : Own w2 lo2 d y.den) (h34 : Ap c d) (hl : w1.heap.size ≤ lo2) (hlo : lo ≤ lo2) (k1 : Own w2 lo a x.num) (k2 : Own w2 lo b x.den) : Own4 w2 lo a b c d ⟨x, y⟩ :=
  ⟨k1, k2, h3.lower hlo, h4.lower hlo, h12, h1.ap h3 hl, h1.ap h4 hl, h2.ap h3 hl, h2.ap h4 hl, h34⟩
end Go.Proofs.Ytfmhfgjpbkmneaa
namespace Go.Proofs.Ytfmhfgjpbkmneaa
open Go.RowKit
set_option linter.unusedVariables false
set_option linter.unusedSimpArgs false
set_option maxHeartbeats 4000000
def Num.gAdd (x y : Num.Ga) : Num.Ga × Int :=
  Num.gTold (Num.wMade (Num.gAsked [x, y]) (Num.rAdd x.re y.re)).1 (Num.wMade (Num.wMade (Num.gAsked [x, y]) (Num.rAdd x.re y.re)).2 (Num.rAdd x.im y.im)).1 (Num.wMade (Num.wMade (Num.gAsked [x, y]) (Num.rAdd x.re y.re)).2 (Num.rAdd x.im y.im)).2
theorem gauss_Add {w : World} {va vb : Value} {x y : Num.Ga} (h : RdG w va x) (h' : RdG w vb y) : Calls Try.prog 19 #[va, vb] w (NewGE w (Num.gAdd x y)) := by
  obtain ⟨A, c, A', c', B, d, B', d', rfl, r1, r2, r3, r4⟩ := h
  obtain ⟨P, p, P', p', Q, q, Q', q', rfl, s1, s2, s3, s4⟩ := h'
  obtain ⟨W, hW, x1, x2, x3, x4, b1, hz⟩ := boxes4 w 47 #[.bool x.re.neg, .slice A x.re.num.length c, .slice A' x.re.den.length c', .bool x.im.neg, .slice B x.im.num.length d, .slice B' x.im.den.length d'] #[.bool y.re.neg, .slice P y.re.num.length p, .slice P' y.re.den.length p', .bool y.im.neg, .slice Q y.im.num.length q, .slice Q' y.im.den.length q'] #[.bool false, .slice none 0 0, .slice none 0 0, .bool false, .slice none 0 0, .slice none 0 0] #[.bool x.re.neg, .slice A x.re.num.length c, .slice A' x.re.den.length c', .bool x.im.neg, .slice B x.im.num.length d, .slice B' x.im.den.length d', .bool y.re.neg, .slice P y.re.num.length p, .slice P' y.re.den.length p', .bool y.im.neg, .slice Q y.im.num.length q, .slice Q' y.im.den.length q']
  have HC := Lib.hid (gauss_asked (c := 2) (slg_two x4 (r1.below b1) (r2.below b1) (r3.below b1) (r4.below b1) (s1.below b1) (s2.below b1) (s3.below b1) (s4.below b1)) (by simp))
  have T1 := Lib.hid (fun (W : World) (g : Nat) (e0 : Int) (hB : Below w.heap.size w W) (hx : Box W g 87 #[.int .i64 e0]) => gauss_add (a := x.re) (b := y.re) hx ⟨_, _, rfl, r1.below hB, r2.below hB⟩ ⟨_, _, rfl, s1.below hB, s2.below hB⟩)
  have T2 := Lib.hid (fun (W : World) (g : Nat) (e0 : Int) (hB : Below w.heap.size w W) (hx : Box W g 87 #[.int .i64 e0]) => gauss_add (a := x.im) (b := y.im) hx ⟨_, _, rfl, r3.below hB, r4.below hB⟩ ⟨_, _, rfl, s3.below hB, s4.below hB⟩)
  clear r1 r2 r3 r4 s1 s2 s3 s4
  unfold Num.gAdd
  generalize Num.gAsked [x, y] = ek at *
  generalize Num.rAdd x.re y.re = ra at *
  generalize Num.rAdd x.im y.im = rb at *
  go_enter Try.func19, Try.ntmps19
  go_wp2_with fail
  rw [← hW]
  clear hW
  refine HC.out.mono ?_
  rintro e w1 ⟨g, rfl, hg, hx, b2⟩
  have b3 := b1.trans (b2.mono b1.size)
  have y1 := x1.below b2
  have y2 := x2.below b2
  have y3 := x3.below b2
  obtain ⟨i0, i1, i2, i3, i4, i5⟩ := y1.six
  obtain ⟨j0, j1, j2, j3, j4, j5⟩ := y2.six
  go_wp2_with fail
  refine (T1.out w1 g ek b3 hx).mono ?_
  generalize Num.wMade ek ra = u at *
  rintro e w2 ⟨C, m, C', m', rfl, o1, o2, hap, hx2, hw2⟩
  have z1 := y1.way hw2 (by omega)
  have z2 := y2.way hw2 (by omega)
  have z3 := y3.way hw2 (by omega)
  have hgl := hx2.lt
  obtain ⟨V, hV⟩ : ∃ V, V = w2.alloc (.cells #[.bool u.1.neg, .slice C u.1.num.length m, .slice C' u.1.den.length m'] 24) := ⟨_, rfl⟩
  have bV : Below w2.heap.size w2 V := by rw [hV]; exact (Below.refl _ _).alloc (Nat.le_refl _) _
  have xV : Box V w2.heap.size 24 #[.bool u.1.neg, .slice C u.1.num.length m, .slice C' u.1.den.length m'] := by rw [hV]; exact Box.new _ _ _
  have sV : V.heap.size = w2.heap.size + 1 := by rw [hV]; simp
  go_wp2_with fail
  rw [← hV]
  clear hV
  have bV : Below w2.heap.size w2 V.drew := ⟨bV.os, bV.tape, bV.output, bV.size, bV.block⟩
  have xV : Box V.drew _ _ _ := xV
  have sV : V.drew.heap.size = w2.heap.size + 1 := sV
  have z1 := z1.below bV
  have z2 := z2.below bV
  have z3 := z3.below bV
  have hxV := hx2.below bV
  have b4 : Below w.heap.size w V.drew := (b3.trans (hw2.below b3.size (by omega))).trans (bV.mono (Nat.le_trans b3.size hw2.size))
  have T2 := Lib.hid (T2.out V.drew g u.2 b4 hxV)
  generalize Num.wMade u.2 rb = v at *
  have HT := Lib.hid (fun (W' : World) (A A' B B' : Option Addr) (c c' d d' : Nat) (hx : Box W' g 87 #[.int .i64 v.2]) (O : Own4 W' w1.heap.size (.slice A u.1.num.length c) (.slice A' u.1.den.length c') (.slice B v.1.num.length d) (.slice B' v.1.den.length d') ⟨u.1, v.1⟩) => gauss_told hx O)
  generalize Num.gTold u.1 v.1 v.2 = z at *
  obtain ⟨i0, i1, i2, i3, i4, i5⟩ := z1.six
  obtain ⟨j0, j1, j2, j3, j4, j5⟩ := z2.six
  obtain ⟨k0, k1, k2, -, -, -⟩ := xV.three
  have w12 := hw2.size
  have b3s := b3.size
  have hne1 : ¬ (w.heap.size = w.heap.size + 1 + 1) := by omega
  have hne2 : ¬ (w.heap.size + 1 = w.heap.size + 1 + 1) := by omega
  have hne3 : ¬ (w2.heap.size = w.heap.size + 1 + 1) := by have := b2.size; omega
  have hne4 : ¬ (w.heap.size + 1 + 1 = w.heap.size) := by omega
  have hne5 : ¬ (w.heap.size + 1 + 1 = w.heap.size + 1) := by omega
  have hne6 : ¬ (w.heap.size + 1 + 1 = w2.heap.size) := by have := b2.size; omega
  go_region_held3 (fun w' => w'.cell? ⟨w.heap.size, 3, none⟩ = some (.bool x.im.neg) ∧ w'.cell? ⟨w.heap.size, 4, none⟩ = some (.slice B x.im.num.length d) ∧ w'.cell? ⟨w.heap.size, 5, none⟩ = some (.slice B' x.im.den.length d') ∧ w'.cell? ⟨w.heap.size + 1, 3, none⟩ = some (.bool y.im.neg) ∧ w'.cell? ⟨w.heap.size + 1, 4, none⟩ = some (.slice Q y.im.num.length q) ∧ w'.cell? ⟨w.heap.size + 1, 5, none⟩ = some (.slice Q' y.im.den.length q') ∧ w'.cell? ⟨w2.heap.size, 0, none⟩ = some (.bool u.1.neg) ∧ w'.cell? ⟨w2.heap.size, 1, none⟩ = some (.slice C u.1.num.length m) ∧ w'.cell? ⟨w2.heap.size, 2, none⟩ = some (.slice C' u.1.den.length m')) (go_keep)
    (first
      | (go_at_call 45; (with_reducible refine T2.out.mono ?_); rintro e w3 ⟨D, n, D', n', rfl, o3, o4, hap', hx3, hw3⟩; have a1 := z1.way hw3 (by omega); have a2 := z2.way hw3 (by omega); have a3 := z3.way hw3 (by omega); have a4 := xV.way hw3 (by omega); have O := Own4.of (x := u.1) (y := v.1) o1 o2 hap o3 o4 hap' (by omega) (by omega) ((o1.below bV).way hxV hw3) ((o2.below bV).way hxV hw3); obtain ⟨i0', i1', i2', i3', i4', i5'⟩ := a1.six; obtain ⟨j0', j1', j2', j3', j4', j5'⟩ := a2.six; obtain ⟨k0', k1', k2', -, -, -⟩ := a4.three)
      | (go_at_call 46; (with_reducible refine (HT.out w3 _ _ _ _ _ _ _ _ hx3 O).mono ?_); rintro e w4 ⟨E, e1, E', e1', F, f1, F', f1', rfl, O2, b5⟩; have a1' := a1.below b5; have a2' := a2.below b5; have a3' := a3.below b5; have a4' := a4.below b5; obtain ⟨i0a, i1a, i2a, i3a, i4a, i5a⟩ := a1'.six; obtain ⟨j0a, j1a, j2a, j3a, j4a, j5a⟩ := a2'.six; obtain ⟨k0a, k1a, k2a, -, -, -⟩ := a4'.three; obtain ⟨m0, m1, m2, m3, m4, m5⟩ := a3'.six; obtain ⟨n0, n1, n2, n3, n4, n5⟩ := a3'.six_))
  all_goals
    go_wp2
    have hB : Below w.heap.size w w4 := (b4.trans (hw3.below (by omega) (by omega))).trans (b5.mono (by have := hw3.size; omega))
    have hfin := newGE_set (w := w) (z := z) O2 hB (g := w.heap.size + 1 + 1) (by omega) (by have := b2.size; omega) (.bool z.1.re.neg) (.slice E z.1.re.num.length e1) (.slice E' z.1.re.den.length e1') (.bool z.1.im.neg) (.slice F z.1.im.num.length f1) (.slice F' z.1.im.den.length f1')
    refine bodyPost_ret (v := .tuple #[.agg #[.bool z.1.re.neg, .slice E z.1.re.num.length e1, .slice E' z.1.re.den.length e1', .bool z.1.im.neg, .slice F z.1.im.num.length f1, .slice F' z.1.im.den.length f1'], .int .i64 z.2]) ?_ rfl hfin
    clear hfin hB O2 O
    simp [results, Try.results19, go_sem, m0, m1, m2, m3, m4, m5]
end Go.Proofs.Ytfmhfgjpbkmneaa
namespace Go.Proofs.Ytfmhfgjpbkmneaa
open Go.RowKit
set_option linter.unusedVariables false
set_option linter.unusedSimpArgs false
namespace Num
def RaW (r : Ra) : Prop := W r.num ∧ W r.den
theorem RaW.zero : RaW Ra.zero := ⟨W_nil, W_nil⟩
theorem RaW.lowest (s : Bool) (n d : Nat) : RaW (rLowest s n d).1 := by
  unfold rLowest
  split
  · exact RaW.zero
  · exact ⟨W_words _, W_words _⟩
theorem RaW.plus (a b : Ra) : RaW (rPlus a b).1 := by
  unfold rPlus
  split
  · exact RaW.lowest _ _ _
  · split <;> exact RaW.lowest _ _ _
theorem RaW.add (a b : Ra) : RaW (rAdd a b).1 := by
  unfold rAdd
  split
  · exact RaW.plus _ _
  · exact RaW.zero
theorem RaW.sub (a b : Ra) : RaW (rSub a b).1 := by
  unfold rSub
  split
  · exact RaW.plus _ _
  · exact RaW.zero
theorem RaW.mul (a b : Ra) : RaW (rMul a b).1 := by
  unfold rMul
  split
  · exact RaW.lowest _ _ _
  · exact RaW.zero
theorem RaW.small (a b : Int) : RaW (rSmall a b).1 := by
  unfold rSmall
  split
  · exact RaW.zero
  · exact RaW.lowest _ _ _
theorem RaW.neg {a : Ra} (h : RaW a) : RaW (rNeg a).1 := by
  unfold rNeg
  split
  · exact h
  · exact RaW.zero
theorem RaW.made (e : Int) {r : Ra × Int} (h : RaW r.1) : RaW (wMade e r).1 := by
  unfold wMade
  split
  · exact h
  · exact RaW.zero
end Num
end Go.Proofs.Ytfmhfgjpbkmneaa
