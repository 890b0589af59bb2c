import Derived.Test.YtfmhfgjpbkmneaaZc
namespace Go.Proofs.Ytfmhfgjpbkmneaa
open Go.RowKit
set_option linter.unusedVariables false
set_option linter.unusedSimpArgs false
/-! ### A slice value that reads as words -/
def Rd (w : World) (v : Value) (l : List Int) : Prop := ∃ A c, v = .slice A l.length c ∧ l.length ≤ c ∧ Sl w A l ∧ l.length ≤ 9223372036854775807 ∧ Num.W l
section
variable {w w' : World} {v va vb : Value} {l a b : List Int}
theorem Rd.below (h : Rd w v l) (hb : Below w.heap.size w w') : Rd w' v l := by
  obtain ⟨A, c, e, h1, h2, h3, h4⟩ := h
  exact ⟨A, c, e, h1, h2.below hb, h3, h4⟩
theorem Own.rd {lo : Nat} (h : Own w lo v l) (hW : Num.W l) : Rd w v l := by
  obtain ⟨A, c, e, h1, h2, h3⟩ := h.slice
  exact ⟨A, c, e, h1, h2, h3, hW⟩
theorem Own.rdw {lo n : Nat} (h : Own w lo v (Num.words n)) : Rd w v (Num.words n) := h.rd (Num.W_words n)
theorem nat_Check_rd (h : Rd w v l) : Calls Try.prog 55 #[v] w fun e w' => e = .returned (.int .i64 (Num.nCheck l)) ∧ w = w' := by
  obtain ⟨A, c, rfl, h1, h2, h3, h4⟩ := h
  exact nat_Check A c l w h2 h3
theorem nat_Compare_rd (ha : Rd w va a) (hb : Rd w vb b) : Calls Try.prog 57 #[va, vb] w fun e w' => e = .returned (.int .i64 (Num.nCompare a b)) ∧ ∃ n, w' = w.drewN n := by
  obtain ⟨A, c, rfl, h1, h2, h3, h4⟩ := ha
  obtain ⟨A', c', rfl, k1, k2, k3, k4⟩ := hb
  exact nat_Compare A A' c c' a b w h2 k2 h1 k1 h3 k3 h4 k4
theorem nat_Add_rd (ha : Rd w va a) (hb : Rd w vb b) : Calls Try.prog 68 #[va, vb] w (NewS w (Num.nAdd a b)) := by
  obtain ⟨A, c, rfl, h1, h2, h3, h4⟩ := ha
  obtain ⟨A', c', rfl, k1, k2, k3, k4⟩ := hb
  exact nat_Add A A' c c' a b w h2 k2 h3 k3 h4 k4
theorem nat_Sub_rd (ha : Rd w va a) (hb : Rd w vb b) : Calls Try.prog 70 #[va, vb] w (NewS w (Num.nSub a b)) := by
  obtain ⟨A, c, rfl, h1, h2, h3, h4⟩ := ha
  obtain ⟨A', c', rfl, k1, k2, k3, k4⟩ := hb
  exact nat_Sub A A' c c' a b w h2 k2 h1 k1 h3 k3 h4 k4
theorem nat_Mul_rd (ha : Rd w va a) (hb : Rd w vb b) : Calls Try.prog 88 #[va, vb] w (NewS w (Num.nMul a b)) := by
  obtain ⟨A, c, rfl, h1, h2, h3, h4⟩ := ha
  obtain ⟨A', c', rfl, k1, k2, k3, k4⟩ := hb
  exact nat_Mul A A' c c' a b w h2 k2 h3 k3 h4 k4
theorem nat_DivMod_rd (ha : Rd w va a) (hb : Rd w vb b) : Calls Try.prog 90 #[va, vb] w (NewSS w (Num.nDivMod a b)) := by
  obtain ⟨A, c, rfl, h1, h2, h3, h4⟩ := ha
  obtain ⟨A', c', rfl, k1, k2, k3, k4⟩ := hb
  exact nat_DivMod A A' c c' a b w h2 k2 h1 k1 h3 k3 h4 k4
theorem nat_Gcd_rd (ha : Rd w va a) (hb : Rd w vb b) : Calls Try.prog 56 #[va, vb] w (NewS w (Num.nGcd a b)) := by
  obtain ⟨A, c, rfl, h1, h2, h3, h4⟩ := ha
  obtain ⟨A', c', rfl, k1, k2, k3, k4⟩ := hb
  exact nat_Gcd A A' c c' a b w h2 k2 h1 k1 h3 k3 h4 k4
theorem ratio_long (h : Rd w v l) : Calls Try.prog 54 #[v] w fun e w' => e = .returned (.bool (decide (2048 < l.length))) ∧ w = w' := by
  obtain ⟨A, c, rfl, h1, h2, h3, h4⟩ := h
  by_cases hl : 2048 < l.length
  · rw [decide_eq_true hl]
    go_enter Try.func54, Try.ntmps54
    go_wp2
    go_ret
    exact ⟨ret_bool (by simp; omega), rfl⟩
  · rw [decide_eq_false hl]
    go_enter Try.func54, Try.ntmps54
    go_wp2
    go_ret
    exact ⟨ret_bool (by simp; omega), rfl⟩
theorem ratio_times (ha : Rd w va a) (hb : Rd w vb b) (h0 : Num.nChecked a b = 0) (hla : a.length ≤ 4096) (hlb : b.length ≤ 4096) :
    Calls Try.prog 67 #[va, vb] w fun e w' => ∃ v, e = .returned v ∧ Own w' w.heap.size v (Num.words (Num.val a * Num.val b)) ∧ Below w.heap.size w w' := by
  have hr : (Num.nMul a b).1 = Num.words (Num.val a * Num.val b) := by
    unfold Num.nMul
    rw [if_pos h0]
    split
    · rename_i h
      rcases h with h | h
      · rw [List.eq_nil_of_length_eq_zero h]; simp [Num.val, Num.words_zero]
      · rw [List.eq_nil_of_length_eq_zero h]; simp [Num.val, Num.words_zero]
    · rw [if_neg (by omega)]
      unfold Num.nTold
      obtain ⟨_, _, _, _, _, _, Wa⟩ := ha
      obtain ⟨_, _, _, _, _, _, Wb⟩ := hb
      have : (Num.words (Num.val a * Num.val b)).length ≤ a.length + b.length := by
        rw [Num.words_len, Nat.pow_add]
        have h1 := Num.val_lt Wa
        have h2 := Num.val_lt Wb
        exact Nat.mul_lt_mul_of_lt_of_le h1 (Nat.le_of_lt h2) (Nat.pow_pos (by omega))
      rw [if_neg (by omega)]
  have H1 := Lib.hid (nat_Mul_rd ha hb)
  have HR := Lib.hid hr
  clear hr h0
  go_enter Try.func67, Try.ntmps67
  go_wp2_with fail
  refine H1.out.mono ?_
  rintro e w1 ⟨v1, rfl, o1, b1⟩
  go_wp2
  go_ret
  exact ⟨_, rfl, by rw [← HR.out]; exact o1, b1⟩
end
theorem Own.far {w : World} {lo : Nat} {v : Value} {l : List Int} (h : Own w lo v l) {p : Addr} (hp : p.block < lo) (u : Value) : Own (w.setCell p u) lo v l := by
  rcases h with h | ⟨g, c, e, hg, hm, hw⟩
  · exact .inl h
  · exact .inr ⟨g, c, e, hg, hm, hw.block (Below.heap_setCell w p u g (by omega))⟩
theorem Own.far3 {w : World} {lo lo' g : Nat} {v x y z : Value} {l : List Int} (h : Own w lo v l) (hg : g < lo) (hl : lo' ≤ lo) : Own (((w.setCell ⟨g, 0, none⟩ x).setCell ⟨g, 1, none⟩ y).setCell ⟨g, 2, none⟩ z) lo' v l :=
  (((h.far (p := ⟨g, 0, none⟩) hg x).far (p := ⟨g, 1, none⟩) hg y).far (p := ⟨g, 2, none⟩) hg z).lower hl
/-! ### A variable of a struct in memory -/
def Box (w : World) (g : Nat) (t : TypeId) (cs : Array Value) : Prop := w.heap[g]? = some (.cells cs t (0, 0))
theorem Box.lt {w : World} {g : Nat} {t : TypeId} {cs : Array Value} (h : Box w g t cs) : g < w.heap.size := (Array.getElem?_eq_some_iff.1 h).1
theorem Box.new (w : World) (t : TypeId) (cs : Array Value) : Box (w.alloc (.cells cs t)) w.heap.size t cs := heap_alloc_new w _
theorem Box.below {w w' : World} {g : Nat} {t : TypeId} {cs : Array Value} (h : Box w g t cs) (hb : Below w.heap.size w w') : Box w' g t cs := (hb.block g h.lt).trans h
theorem Box.free {w : World} {g : Nat} {t : TypeId} {cs : Array Value} (h : Box w g t cs) (o : Nat) : w.frozen? ⟨g, o, none⟩ = false := by
  unfold Box at h; simp [World.frozen?, h]
theorem Box.cell {w : World} {g : Nat} {t : TypeId} {cs : Array Value} (h : Box w g t cs) (o : Nat) : w.cell? ⟨g, o, none⟩ = cs[o]? := by
  unfold Box at h; simp [World.cell?, h]
theorem Box.three {w : World} {g : Nat} {t : TypeId} {x y z : Value} (h : Box w g t #[x, y, z]) :
    w.cell? ⟨g, 0, none⟩ = some x ∧ w.cell? ⟨g, 1, none⟩ = some y ∧ w.cell? ⟨g, 2, none⟩ = some z ∧ w.frozen? ⟨g, 0, none⟩ = false ∧ w.frozen? ⟨g, 1, none⟩ = false ∧ w.frozen? ⟨g, 2, none⟩ = false :=
  ⟨h.cell 0, h.cell 1, h.cell 2, h.free 0, h.free 1, h.free 2⟩
/-- a call that answers a new fraction and an error -/
def NewR (w : World) (r : Num.Ra × Int) (e : Ending) (w' : World) : Prop := ∃ v1 v2, e = .returned (.tuple #[.agg #[.bool r.1.neg, v1, v2], .int .i64 r.2]) ∧ Own w' w.heap.size v1 r.1.num ∧ Own w' w.heap.size v2 r.1.den ∧ Ap v1 v2 ∧ Below w.heap.size w w'
end Go.Proofs.Ytfmhfgjpbkmneaa
namespace Go.Proofs.Ytfmhfgjpbkmneaa
open Go.RowKit
set_option linter.unusedVariables false
set_option linter.unusedSimpArgs false
set_option maxHeartbeats 1000000 in
theorem ratio_lowest (neg : Bool) {vn vd : Value} {n d : List Int} {w : World} (hn : Rd w vn n) (hd : Rd w vd d) (h0 : Num.nChecked n d = 0) (hpos : 0 < d.length) :
    Calls Try.prog 69 #[.bool neg, vn, vd] w (NewR w (Num.rLowest neg (Num.val n) (Num.val d))) := by
  obtain ⟨Nn, Ln, Nd, Ld⟩ := checked_ok h0
  have Wn : Num.W n := by obtain ⟨_, _, _, _, _, _, W⟩ := hn; exact W
  have Wd : Num.W d := by obtain ⟨_, _, _, _, _, _, W⟩ := hd; exact W
  have hvd := Num.val_pos Wd Nd (by intro e; rw [e] at hpos; simp at hpos)
  have eG : Num.nGcd n d = (Num.words (Nat.gcd (Num.val n) (Num.val d)), 0) := by unfold Num.nGcd; rw [if_pos h0]
  have hgpos : 0 < Nat.gcd (Num.val n) (Num.val d) := Nat.gcd_pos_of_pos_right _ hvd
  have hgle : Nat.gcd (Num.val n) (Num.val d) ≤ Num.val d := Nat.gcd_le_right _ hvd
  have hglen : (Num.words (Nat.gcd (Num.val n) (Num.val d))).length ≤ 8192 := words_le hgle (by rw [Num.words_val Wd Nd]; exact Ld)
  have hgne : ¬ (Num.words (Nat.gcd (Num.val n) (Num.val d))).length = 0 := fun e => by
    have := Num.words_eq_nil.1 (List.eq_nil_of_length_eq_zero e)
    omega
  have hgc : Num.nCheck (Num.words (Nat.gcd (Num.val n) (Num.val d))) = 0 := Num.check_of_norm (Num.norm_words _) hglen
  have e1 : Num.nDivMod n (Num.words (Nat.gcd (Num.val n) (Num.val d))) = (Num.words (Num.val n / Nat.gcd (Num.val n) (Num.val d)), Num.words (Num.val n % Nat.gcd (Num.val n) (Num.val d)), 0) := by
    unfold Num.nDivMod
    have : Num.nChecked n (Num.words (Nat.gcd (Num.val n) (Num.val d))) = 0 := by unfold Num.nChecked; rw [if_pos (Num.check_of_norm Nn Ln)]; exact hgc
    rw [if_pos this, if_neg hgne, Num.val_words]
  have e2 : Num.nDivMod d (Num.words (Nat.gcd (Num.val n) (Num.val d))) = (Num.words (Num.val d / Nat.gcd (Num.val n) (Num.val d)), Num.words (Num.val d % Nat.gcd (Num.val n) (Num.val d)), 0) := by
    unfold Num.nDivMod
    have : Num.nChecked d (Num.words (Nat.gcd (Num.val n) (Num.val d))) = 0 := by unfold Num.nChecked; rw [if_pos (Num.check_of_norm Nd Ld)]; exact hgc
    rw [if_pos this, if_neg hgne, Num.val_words]
  have HG : Hid (∀ W, Below w.heap.size w W → Calls Try.prog 56 #[vn, vd] W (NewS W (Num.words (Nat.gcd (Num.val n) (Num.val d)), 0))) := Lib.hid (fun W hb => by rw [← eG]; exact nat_Gcd_rd (hn.below hb) (hd.below hb))
  have D1 : Hid (∀ W vg, Below w.heap.size w W → Rd W vg (Num.words (Nat.gcd (Num.val n) (Num.val d))) → Calls Try.prog 90 #[vn, vg] W (NewSS W (Num.words (Num.val n / Nat.gcd (Num.val n) (Num.val d)), Num.words (Num.val n % Nat.gcd (Num.val n) (Num.val d)), 0))) := Lib.hid (fun W vg hb hg => by rw [← e1]; exact nat_DivMod_rd (hn.below hb) hg)
  have D2 : Hid (∀ W vg, Below w.heap.size w W → Rd W vg (Num.words (Nat.gcd (Num.val n) (Num.val d))) → Calls Try.prog 90 #[vd, vg] W (NewSS W (Num.words (Num.val d / Nat.gcd (Num.val n) (Num.val d)), Num.words (Num.val d % Nat.gcd (Num.val n) (Num.val d)), 0))) := Lib.hid (fun W vg hb hg => by rw [← e2]; exact nat_DivMod_rd (hd.below hb) hg)
  obtain ⟨res, hlow⟩ : ∃ res, res = Num.rLowest neg (Num.val n) (Num.val d) := ⟨_, rfl⟩
  rw [← hlow]
  unfold Num.rLowest at hlow
  clear e1 e2 eG hgc hgne hglen hgle hgpos hvd h0 Nn Ln Nd Ld Wn Wd hn hd hpos
  generalize Nat.gcd (Num.val n) (Num.val d) = g at *
  generalize Num.val n / g = N at *
  generalize Num.val d / g = D at *
  generalize Num.val n % g = N' at *
  generalize Num.val d % g = D' at *
  by_cases hl1 : 2048 < (Num.words N).length
  · rw [if_pos (Or.inl hl1)] at hlow
    rw [hlow]
    clear hlow
    go_enter Try.func69, Try.ntmps69
    have x0 := Box.new w 24 #[.bool false, .slice none 0 0, .slice none 0 0]
    have b0 : Below w.heap.size w (w.alloc (.cells #[.bool false, .slice none 0 0, .slice none 0 0] 24)) := (Below.refl _ _).alloc (Nat.le_refl _) _
    go_wp2_with fail
    refine (HG.out _ b0).mono ?_
    rintro e w1 ⟨v1, rfl, o1, b1⟩
    have x1 := x0.below b1
    have c1 := b0.trans (b1.mono b0.size)
    go_wp2_with fail
    refine (D1.out _ _ c1 o1.rdw).mono ?_
    rintro e w2 ⟨v2, v2', rfl, o2, o2', _, b2⟩
    have x2 := x1.below b2
    have c2 := c1.trans (b2.mono c1.size)
    go_wp2_with fail
    refine (D2.out _ _ c2 (o1.rdw.below b2)).mono ?_
    rintro e w3 ⟨v3, v3', rfl, o3, o3', _, b3⟩
    have x3 := x2.below b3
    have c3 := c2.trans (b3.mono c2.size)
    have hL := ratio_long (o2.rdw.below b3)
    have hL2 := ratio_long o3.rdw
    obtain ⟨k0, k1, k2, k3, k4, k5⟩ := x3.three
    rw [decide_eq_true hl1] at hL
    have HL := Lib.hid hL
    clear hL hL2
    go_wp2_with fail
    refine HL.out.mono ?_
    rintro e w4 ⟨rfl, rfl⟩
    go_wp2
    refine bodyPost_ret (v := .tuple #[.agg #[.bool false, .slice none 0 0, .slice none 0 0], .int .i64 3]) (by simp [results, Try.results69, go_sem, k0, k1, k2]) rfl ⟨_, _, rfl, Own.nil_ _ _, Own.nil_ _ _, Ap.nil_l _, ?_⟩
    exact ((c3.setCell (Nat.le_refl _) _).setCell (Nat.le_refl _) _).setCell (Nat.le_refl _) _
  by_cases hl2 : 2048 < (Num.words D).length
  · rw [if_pos (Or.inr hl2)] at hlow
    rw [hlow]
    clear hlow
    go_enter Try.func69, Try.ntmps69
    have x0 := Box.new w 24 #[.bool false, .slice none 0 0, .slice none 0 0]
    have b0 : Below w.heap.size w (w.alloc (.cells #[.bool false, .slice none 0 0, .slice none 0 0] 24)) := (Below.refl _ _).alloc (Nat.le_refl _) _
    go_wp2_with fail
    refine (HG.out _ b0).mono ?_
    rintro e w1 ⟨v1, rfl, o1, b1⟩
    have x1 := x0.below b1
    have c1 := b0.trans (b1.mono b0.size)
    go_wp2_with fail
    refine (D1.out _ _ c1 o1.rdw).mono ?_
    rintro e w2 ⟨v2, v2', rfl, o2, o2', _, b2⟩
    have x2 := x1.below b2
    have c2 := c1.trans (b2.mono c1.size)
    go_wp2_with fail
    refine (D2.out _ _ c2 (o1.rdw.below b2)).mono ?_
    rintro e w3 ⟨v3, v3', rfl, o3, o3', _, b3⟩
    have x3 := x2.below b3
    have c3 := c2.trans (b3.mono c2.size)
    have hL := ratio_long (o2.rdw.below b3)
    have hL2 := ratio_long o3.rdw
    obtain ⟨k0, k1, k2, k3, k4, k5⟩ := x3.three
    rw [decide_eq_false hl1] at hL
    rw [decide_eq_true hl2] at hL2
    have HL := Lib.hid hL
    have HL2 := Lib.hid hL2
    clear hL hL2
    go_wp2_with fail
    refine HL.out.mono ?_
    rintro e w4 ⟨rfl, rfl⟩
    go_wp2_with fail
    refine HL2.out.mono ?_
    rintro e w4 ⟨rfl, rfl⟩
    go_wp2
    refine bodyPost_ret (v := .tuple #[.agg #[.bool false, .slice none 0 0, .slice none 0 0], .int .i64 3]) (by simp [results, Try.results69, go_sem, k0, k1, k2]) rfl ⟨_, _, rfl, Own.nil_ _ _, Own.nil_ _ _, Ap.nil_l _, ?_⟩
    exact ((c3.setCell (Nat.le_refl _) _).setCell (Nat.le_refl _) _).setCell (Nat.le_refl _) _
  have hlow2 : res = (⟨neg && decide (0 < (Num.words N).length), Num.words N, Num.words D⟩, 0) := hlow.trans (if_neg (by omega))
  rw [hlow2]
  clear hlow hlow2
  cases neg with
  | false =>
    go_enter Try.func69, Try.ntmps69
    have x0 := Box.new w 24 #[.bool false, .slice none 0 0, .slice none 0 0]
    have b0 : Below w.heap.size w (w.alloc (.cells #[.bool false, .slice none 0 0, .slice none 0 0] 24)) := (Below.refl _ _).alloc (Nat.le_refl _) _
    go_wp2_with fail
    refine (HG.out _ b0).mono ?_
    rintro e w1 ⟨v1, rfl, o1, b1⟩
    have x1 := x0.below b1
    have c1 := b0.trans (b1.mono b0.size)
    go_wp2_with fail
    refine (D1.out _ _ c1 o1.rdw).mono ?_
    rintro e w2 ⟨v2, v2', rfl, o2, o2', _, b2⟩
    have x2 := x1.below b2
    have c2 := c1.trans (b2.mono c1.size)
    go_wp2_with fail
    refine (D2.out _ _ c2 (o1.rdw.below b2)).mono ?_
    rintro e w3 ⟨v3, v3', rfl, o3, o3', _, b3⟩
    have x3 := x2.below b3
    have c3 := c2.trans (b3.mono c2.size)
    have hL := ratio_long (o2.rdw.below b3)
    have hL2 := ratio_long o3.rdw
    obtain ⟨k0, k1, k2, k3, k4, k5⟩ := x3.three
    rw [decide_eq_false hl1] at hL
    rw [decide_eq_false hl2] at hL2
    have HL := Lib.hid hL
    have HL2 := Lib.hid hL2
    clear hL hL2
    go_wp2_with fail
    refine HL.out.mono ?_
    rintro e w4 ⟨rfl, rfl⟩
    go_wp2_with fail
    refine HL2.out.mono ?_
    rintro e w4 ⟨rfl, rfl⟩
    obtain ⟨A2, d2, rfl, _⟩ := o2.slice
    obtain ⟨A3, d3, rfl, _⟩ := o3.slice
    go_wp2
    have hap := o2.ap o3 (Nat.le_refl _)
    refine bodyPost_ret (v := .tuple #[.agg #[.bool false, .slice A2 (Num.words N).length d2, .slice A3 (Num.words D).length d3], .int .i64 0]) (by simp [results, Try.results69, go_sem, k0, k1, k2]) rfl ⟨_, _, rfl, (o2.below b3).far3 x1.lt c1.size, o3.far3 x2.lt c2.size, hap, ?_⟩
    exact ((c3.setCell (Nat.le_refl _) _).setCell (Nat.le_refl _) _).setCell (Nat.le_refl _) _
  | true =>
    by_cases hpos : 0 < (Num.words N).length
    · rw [decide_eq_true hpos]
      go_enter Try.func69, Try.ntmps69
      have x0 := Box.new w 24 #[.bool false, .slice none 0 0, .slice none 0 0]
      have b0 : Below w.heap.size w (w.alloc (.cells #[.bool false, .slice none 0 0, .slice none 0 0] 24)) := (Below.refl _ _).alloc (Nat.le_refl _) _
      go_wp2_with fail
      refine (HG.out _ b0).mono ?_
      rintro e w1 ⟨v1, rfl, o1, b1⟩
      have x1 := x0.below b1
      have c1 := b0.trans (b1.mono b0.size)
      go_wp2_with fail
      refine (D1.out _ _ c1 o1.rdw).mono ?_
      rintro e w2 ⟨v2, v2', rfl, o2, o2', _, b2⟩
      have x2 := x1.below b2
      have c2 := c1.trans (b2.mono c1.size)
      go_wp2_with fail
      refine (D2.out _ _ c2 (o1.rdw.below b2)).mono ?_
      rintro e w3 ⟨v3, v3', rfl, o3, o3', _, b3⟩
      have x3 := x2.below b3
      have c3 := c2.trans (b3.mono c2.size)
      have hL := ratio_long (o2.rdw.below b3)
      have hL2 := ratio_long o3.rdw
      obtain ⟨k0, k1, k2, k3, k4, k5⟩ := x3.three
      rw [decide_eq_false hl1] at hL
      rw [decide_eq_false hl2] at hL2
      have HL := Lib.hid hL
      have HL2 := Lib.hid hL2
      clear hL hL2
      go_wp2_with fail
      refine HL.out.mono ?_
      rintro e w4 ⟨rfl, rfl⟩
      go_wp2_with fail
      refine HL2.out.mono ?_
      rintro e w4 ⟨rfl, rfl⟩
      obtain ⟨A2, d2, rfl, _⟩ := o2.slice
      obtain ⟨A3, d3, rfl, _⟩ := o3.slice
      go_wp2
      have hap := o2.ap o3 (Nat.le_refl _)
      refine bodyPost_ret (v := .tuple #[.agg #[.bool true, (.slice A2 (Num.words N).length d2), .slice A3 (Num.words D).length d3], .int .i64 0]) (by simp [results, Try.results69, go_sem, k0, k1, k2]) rfl ⟨_, _, rfl, (o2.below b3).far3 x1.lt c1.size, o3.far3 x2.lt c2.size, hap, ?_⟩
      exact ((c3.setCell (Nat.le_refl _) _).setCell (Nat.le_refl _) _).setCell (Nat.le_refl _) _
    · rw [decide_eq_false hpos]
      have t1 : decide ((0 : Int) < ((Num.words N).length : Int)) = false := decide_eq_false (by omega)
      go_enter Try.func69, Try.ntmps69
      have x0 := Box.new w 24 #[.bool false, .slice none 0 0, .slice none 0 0]
      have b0 : Below w.heap.size w (w.alloc (.cells #[.bool false, .slice none 0 0, .slice none 0 0] 24)) := (Below.refl _ _).alloc (Nat.le_refl _) _
      go_wp2_with fail
      refine (HG.out _ b0).mono ?_
      rintro e w1 ⟨v1, rfl, o1, b1⟩
      have x1 := x0.below b1
      have c1 := b0.trans (b1.mono b0.size)
      go_wp2_with fail
      refine (D1.out _ _ c1 o1.rdw).mono ?_
      rintro e w2 ⟨v2, v2', rfl, o2, o2', _, b2⟩
      have x2 := x1.below b2
      have c2 := c1.trans (b2.mono c1.size)
      go_wp2_with fail
      refine (D2.out _ _ c2 (o1.rdw.below b2)).mono ?_
      rintro e w3 ⟨v3, v3', rfl, o3, o3', _, b3⟩
      have x3 := x2.below b3
      have c3 := c2.trans (b3.mono c2.size)
      have hL := ratio_long (o2.rdw.below b3)
      have hL2 := ratio_long o3.rdw
      obtain ⟨k0, k1, k2, k3, k4, k5⟩ := x3.three
      rw [decide_eq_false hl1] at hL
      rw [decide_eq_false hl2] at hL2
      have HL := Lib.hid hL
      have HL2 := Lib.hid hL2
      clear hL hL2
      go_wp2_with fail
      refine HL.out.mono ?_
      rintro e w4 ⟨rfl, rfl⟩
      go_wp2_with fail
      refine HL2.out.mono ?_
      rintro e w4 ⟨rfl, rfl⟩
      obtain ⟨A2, d2, rfl, _⟩ := o2.slice
      obtain ⟨A3, d3, rfl, _⟩ := o3.slice
      go_wp2
      have hap := o2.ap o3 (Nat.le_refl _)
      refine bodyPost_ret (v := .tuple #[.agg #[.bool false, (.slice A2 (Num.words N).length d2), .slice A3 (Num.words D).length d3], .int .i64 0]) (by simp [results, Try.results69, go_sem, k0, k1, k2]) rfl ⟨_, _, rfl, (o2.below b3).far3 x1.lt c1.size, o3.far3 x2.lt c2.size, hap, ?_⟩
      exact ((c3.setCell (Nat.le_refl _) _).setCell (Nat.le_refl _) _).setCell (Nat.le_refl _) _
end Go.Proofs.Ytfmhfgjpbkmneaa
namespace Go.Proofs.Ytfmhfgjpbkmneaa
open Go.RowKit
set_option linter.unusedVariables false
set_option linter.unusedSimpArgs false
set_option maxHeartbeats 2000000
/-- a fraction's value whose words can be read -/
def RdR (w : World) (v : Value) (r : Num.Ra) : Prop := ∃ vn vd, v = .agg #[.bool r.neg, vn, vd] ∧ Rd w vn r.num ∧ Rd w vd r.den
theorem RdR.below {w w' : World} {v : Value} {r : Num.Ra} (h : RdR w v r) (hb : Below w.heap.size w w') : RdR w' v r := by
  obtain ⟨vn, vd, e, h1, h2⟩ := h
  exact ⟨vn, vd, e, h1.below hb, h2.below hb⟩
theorem rd_one (W : World) : Rd (W.alloc (.cells #[.int .u32 1] 100)) (.slice (some ⟨W.heap.size, 0, none⟩) 1 1) [1] :=
  ⟨_, _, rfl, by simp, (win_new W [1]).sl, by simp, Num.W_cons.2 ⟨by omega, Num.W_nil⟩⟩
theorem compare_one (g : Nat) : Num.nCompare (Num.words g) [1] = 0 ↔ g = 1 := by
  unfold Num.nCompare
  rw [Num.val_words]
  have h1 : Num.val [1] = 1 := rfl
  rw [h1]
  by_cases h1 : g < 1
  · rw [if_pos h1]; omega
  · rw [if_neg h1]
    by_cases h2 : 1 < g
    · rw [if_pos h2]; omega
    · rw [if_neg h2]; omega
theorem ratio_Check {w : World} {v : Value} {r : Num.Ra} (h : RdR w v r) : Calls Try.prog 26 #[v] w fun e w' => e = .returned (.int .i64 (Num.rCheck r)) ∧ Below w.heap.size w w' := by
  obtain ⟨vn, vd, rfl, hn, hd⟩ := h
  obtain ⟨neg, n, d⟩ := r
  simp only at hn hd
  have hG := fun (W : World) (hB : Below w.heap.size w W) => nat_Gcd_rd (hn.below hB) (hd.below hB)
  have Wn : Hid (Num.W n) := Lib.hid (by obtain ⟨_, _, _, _, _, _, h⟩ := hn; exact h)
  have Wd : Hid (Num.W d) := Lib.hid (by obtain ⟨_, _, _, _, _, _, h⟩ := hd; exact h)
  obtain ⟨A, cn, rfl, hn1, hn2, hn3, hn4⟩ := hn
  have hn : Rd w (.slice A n.length cn) n := ⟨A, cn, rfl, hn1, hn2, hn3, hn4⟩
  obtain ⟨A', cd, rfl, hd1, hd2, hd3, hd4⟩ := hd
  have hd : Rd w (.slice A' d.length cd) d := ⟨A', cd, rfl, hd1, hd2, hd3, hd4⟩
  clear hn1 hn2 hn3 hn4 hd1 hd2 hd3 hd4
  have x0 := Box.new w 24 #[.bool neg, .slice A n.length cn, .slice A' d.length cd]
  have b0 : Below w.heap.size w (w.alloc (.cells #[.bool neg, .slice A n.length cn, .slice A' d.length cd] 24)) := (Below.refl _ _).alloc (Nat.le_refl _) _
  obtain ⟨k0, k1, k2, k3, k4, k5⟩ := x0.three
  have L1 := ratio_long (hn.below b0)
  have L2 := ratio_long (hd.below b0)
  have N1 := Lib.hid (nat_Check_rd (hn.below b0))
  have N2 := Lib.hid (nat_Check_rd (hd.below b0))
  by_cases c1 : 2048 < n.length
  · have hr : Num.rCheck ⟨neg, n, d⟩ = 3 := if_pos (Or.inl c1)
    rw [hr]
    rw [decide_eq_true c1] at L1
    have L1 := Lib.hid L1
    clear L2 hr
    go_enter Try.func26, Try.ntmps26
    go_wp2_with fail
    refine L1.out.mono ?_
    rintro e w1 ⟨rfl, rfl⟩
    go_wp2
    go_ret
    exact ⟨rfl, b0⟩
  by_cases c2 : 2048 < d.length
  · have hr : Num.rCheck ⟨neg, n, d⟩ = 3 := if_pos (Or.inr c2)
    rw [hr]
    rw [decide_eq_false c1] at L1
    rw [decide_eq_true c2] at L2
    have L1 := Lib.hid L1
    have L2 := Lib.hid L2
    clear hr
    go_enter Try.func26, Try.ntmps26
    go_wp2_with fail
    refine L1.out.mono ?_
    rintro e w1 ⟨rfl, rfl⟩
    go_wp2_with fail
    refine L2.out.mono ?_
    rintro e w1 ⟨rfl, rfl⟩
    go_wp2
    go_ret
    exact ⟨rfl, b0⟩
  rw [decide_eq_false c1] at L1
  rw [decide_eq_false c2] at L2
  have L1 := Lib.hid L1
  have L2 := Lib.hid L2
  have hrc : Num.rCheck ⟨neg, n, d⟩ = if Num.okB ⟨neg, n, d⟩ = true then 0 else 11 := if_neg (by show ¬ (2048 < n.length ∨ 2048 < d.length); omega)
  by_cases c3 : ¬ Num.nCheck n = 0
  · have hr : Num.rCheck ⟨neg, n, d⟩ = 11 := hrc.trans (if_neg (by simp [Num.okB, c3]))
    rw [hr]
    have t1 : (Num.nCheck n != 0) = true := by rw [bne_iff_ne]; exact c3
    clear hr hrc c3 c1 c2
    go_enter Try.func26, Try.ntmps26
    go_wp2_with fail
    refine L1.out.mono ?_
    rintro e w1 ⟨rfl, rfl⟩
    go_wp2_with fail
    refine L2.out.mono ?_
    rintro e w1 ⟨rfl, rfl⟩
    go_wp2_with fail
    refine N1.out.mono ?_
    rintro e w1 ⟨rfl, rfl⟩
    go_wp2
    go_ret
    exact ⟨rfl, b0⟩
  have c3 := Decidable.not_not.1 c3
  by_cases c4 : ¬ Num.nCheck d = 0
  · have hr : Num.rCheck ⟨neg, n, d⟩ = 11 := hrc.trans (if_neg (by simp [Num.okB, c4]))
    rw [hr]
    have t1 : (Num.nCheck n != 0) = false := by rw [bne_eq_false_iff_eq]; exact c3
    have t2 : (Num.nCheck d != 0) = true := by rw [bne_iff_ne]; exact c4
    clear hr hrc c3 c4 c1 c2
    go_enter Try.func26, Try.ntmps26
    go_wp2_with fail
    refine L1.out.mono ?_
    rintro e w1 ⟨rfl, rfl⟩
    go_wp2_with fail
    refine L2.out.mono ?_
    rintro e w1 ⟨rfl, rfl⟩
    go_wp2_with fail
    refine N1.out.mono ?_
    rintro e w1 ⟨rfl, rfl⟩
    go_wp2_with fail
    refine N2.out.mono ?_
    rintro e w1 ⟨rfl, rfl⟩
    go_wp2
    go_ret
    exact ⟨rfl, b0⟩
  have c4 := Decidable.not_not.1 c4
  have t1 : (Num.nCheck n != 0) = false := by rw [bne_eq_false_iff_eq]; exact c3
  have t2 : (Num.nCheck d != 0) = false := by rw [bne_eq_false_iff_eq]; exact c4
  by_cases c5 : d.length = 0
  · have hr : Num.rCheck ⟨neg, n, d⟩ = 11 := hrc.trans (if_neg (by simp [Num.okB, List.eq_nil_of_length_eq_zero c5]))
    rw [hr]
    have t3 : ((d.length : Int) == 0) = true := by rw [beq_iff_eq]; omega
    clear hr hrc c3 c4 c1 c2 c5
    go_enter Try.func26, Try.ntmps26
    go_wp2_with fail
    refine L1.out.mono ?_
    rintro e w1 ⟨rfl, rfl⟩
    go_wp2_with fail
    refine L2.out.mono ?_
    rintro e w1 ⟨rfl, rfl⟩
    go_wp2_with fail
    refine N1.out.mono ?_
    rintro e w1 ⟨rfl, rfl⟩
    go_wp2_with fail
    refine N2.out.mono ?_
    rintro e w1 ⟨rfl, rfl⟩
    go_wp2
    go_ret
    exact ⟨rfl, b0⟩
  have t3 : ((d.length : Int) == 0) = false := by rw [beq_eq_false_iff_ne]; omega
  by_cases c6 : n.length = 0 ∧ neg = true
  · have hr : Num.rCheck ⟨neg, n, d⟩ = 11 := hrc.trans (if_neg (by simp [Num.okB, List.eq_nil_of_length_eq_zero c6.1, c6.2]))
    rw [hr]
    obtain ⟨c6, rfl⟩ := c6
    have t4 : ((n.length : Int) == 0) = true := by rw [beq_iff_eq]; omega
    clear hr hrc c3 c4 c1 c2 c5 c6
    go_enter Try.func26, Try.ntmps26
    go_wp2_with fail
    refine L1.out.mono ?_
    rintro e w1 ⟨rfl, rfl⟩
    go_wp2_with fail
    refine L2.out.mono ?_
    rintro e w1 ⟨rfl, rfl⟩
    go_wp2_with fail
    refine N1.out.mono ?_
    rintro e w1 ⟨rfl, rfl⟩
    go_wp2_with fail
    refine N2.out.mono ?_
    rintro e w1 ⟨rfl, rfl⟩
    go_wp2
    go_ret
    exact ⟨rfl, b0⟩
  have hG0 : Num.nGcd n d = (Num.words (Nat.gcd (Num.val n) (Num.val d)), 0) := by unfold Num.nGcd Num.nChecked; rw [if_pos c3, if_pos c4]
  have hr : Num.rCheck ⟨neg, n, d⟩ = if Num.nCompare (Num.words (Nat.gcd (Num.val n) (Num.val d))) [1] = 0 then 0 else 11 := by
    rw [hrc]
    have : Num.okB ⟨neg, n, d⟩ = decide (Nat.gcd (Num.val n) (Num.val d) = 1) := by
      unfold Num.okB
      simp only [c3, c4, decide_true, Bool.true_and]
      rw [decide_eq_true (show 0 < d.length by omega), Bool.true_and]
      have : (!decide (n.length = 0) || !neg) = true := by
        by_cases h : n.length = 0
        · have : neg = false := by cases neg with | false => rfl | true => exact absurd ⟨h, rfl⟩ c6
          simp [this]
        · simp [h]
      rw [this, Bool.true_and]
    rw [this]
    by_cases hg : Nat.gcd (Num.val n) (Num.val d) = 1
    · rw [if_pos (decide_eq_true hg), if_pos ((compare_one _).2 hg)]
    · rw [if_neg (by simpa using hg), if_neg (fun h => hg ((compare_one _).1 h))]
  rw [hG0] at hG
  generalize Nat.gcd (Num.val n) (Num.val d) = g at *
  have hG := Lib.hid hG
  rw [hr]
  clear hr hrc c3 c4 c1 c2 c5 hG0
  by_cases c6' : n.length = 0
  · have : neg = false := by cases neg with | false => rfl | true => exact absurd ⟨c6', rfl⟩ c6
    subst this
    have t4 : ((n.length : Int) == 0) = true := by rw [beq_iff_eq]; omega
    clear c6 c6'
    by_cases t5 : (Num.nCompare (Num.words g) [1] != 0) = true
    · rw [if_neg (by simpa using t5)]
      go_enter Try.func26, Try.ntmps26
      go_wp2_with fail
      refine L1.out.mono ?_
      rintro e w1 ⟨rfl, rfl⟩
      go_wp2_with fail
      refine L2.out.mono ?_
      rintro e w1 ⟨rfl, rfl⟩
      go_wp2_with fail
      refine N1.out.mono ?_
      rintro e w1 ⟨rfl, rfl⟩
      go_wp2_with fail
      refine N2.out.mono ?_
      rintro e w1 ⟨rfl, rfl⟩
      go_wp2_with fail
      refine (hG.out _ b0).mono ?_
      rintro e w1 ⟨v1, rfl, o1, b1⟩
      have q1 := ((Below.refl w1.heap.size w1).alloc (Nat.le_refl _) (.cells #[.int .u32 1] 100))
      have HC := Lib.hid (nat_Compare_rd (o1.rdw.below q1) (rd_one w1))
      go_wp2_with fail
      refine HC.out.mono ?_
      rintro e w2 ⟨rfl, m, rfl⟩
      go_wp2
      go_ret
      exact ⟨rfl, (b0.trans (b1.mono b0.size)).trans ((q1.mono (Nat.le_trans b0.size b1.size)).trans (below_drawsB _ _ m))⟩
    · have t5 : (Num.nCompare (Num.words g) [1] != 0) = false := by simpa using t5
      rw [if_pos (by simpa using t5)]
      go_enter Try.func26, Try.ntmps26
      go_wp2_with fail
      refine L1.out.mono ?_
      rintro e w1 ⟨rfl, rfl⟩
      go_wp2_with fail
      refine L2.out.mono ?_
      rintro e w1 ⟨rfl, rfl⟩
      go_wp2_with fail
      refine N1.out.mono ?_
      rintro e w1 ⟨rfl, rfl⟩
      go_wp2_with fail
      refine N2.out.mono ?_
      rintro e w1 ⟨rfl, rfl⟩
      go_wp2_with fail
      refine (hG.out _ b0).mono ?_
      rintro e w1 ⟨v1, rfl, o1, b1⟩
      have q1 := ((Below.refl w1.heap.size w1).alloc (Nat.le_refl _) (.cells #[.int .u32 1] 100))
      have HC := Lib.hid (nat_Compare_rd (o1.rdw.below q1) (rd_one w1))
      go_wp2_with fail
      refine HC.out.mono ?_
      rintro e w2 ⟨rfl, m, rfl⟩
      go_wp2
      go_ret
      exact ⟨rfl, (b0.trans (b1.mono b0.size)).trans ((q1.mono (Nat.le_trans b0.size b1.size)).trans (below_drawsB _ _ m))⟩
  · have t4 : ((n.length : Int) == 0) = false := by rw [beq_eq_false_iff_ne]; omega
    clear c6 c6'
    by_cases t5 : (Num.nCompare (Num.words g) [1] != 0) = true
    · rw [if_neg (by simpa using t5)]
      go_enter Try.func26, Try.ntmps26
      go_wp2_with fail
      refine L1.out.mono ?_
      rintro e w1 ⟨rfl, rfl⟩
      go_wp2_with fail
      refine L2.out.mono ?_
      rintro e w1 ⟨rfl, rfl⟩
      go_wp2_with fail
      refine N1.out.mono ?_
      rintro e w1 ⟨rfl, rfl⟩
      go_wp2_with fail
      refine N2.out.mono ?_
      rintro e w1 ⟨rfl, rfl⟩
      go_wp2_with fail
      refine (hG.out _ b0).mono ?_
      rintro e w1 ⟨v1, rfl, o1, b1⟩
      have q1 := ((Below.refl w1.heap.size w1).alloc (Nat.le_refl _) (.cells #[.int .u32 1] 100))
      have HC := Lib.hid (nat_Compare_rd (o1.rdw.below q1) (rd_one w1))
      go_wp2_with fail
      refine HC.out.mono ?_
      rintro e w2 ⟨rfl, m, rfl⟩
      go_wp2
      go_ret
      exact ⟨rfl, (b0.trans (b1.mono b0.size)).trans ((q1.mono (Nat.le_trans b0.size b1.size)).trans (below_drawsB _ _ m))⟩
    · have t5 : (Num.nCompare (Num.words g) [1] != 0) = false := by simpa using t5
      rw [if_pos (by simpa using t5)]
      go_enter Try.func26, Try.ntmps26
      go_wp2_with fail
      refine L1.out.mono ?_
      rintro e w1 ⟨rfl, rfl⟩
      go_wp2_with fail
      refine L2.out.mono ?_
      rintro e w1 ⟨rfl, rfl⟩
      go_wp2_with fail
      refine N1.out.mono ?_
      rintro e w1 ⟨rfl, rfl⟩
      go_wp2_with fail
      refine N2.out.mono ?_
      rintro e w1 ⟨rfl, rfl⟩
      go_wp2_with fail
      refine (hG.out _ b0).mono ?_
      rintro e w1 ⟨v1, rfl, o1, b1⟩
      have q1 := ((Below.refl w1.heap.size w1).alloc (Nat.le_refl _) (.cells #[.int .u32 1] 100))
      have HC := Lib.hid (nat_Compare_rd (o1.rdw.below q1) (rd_one w1))
      go_wp2_with fail
      refine HC.out.mono ?_
      rintro e w2 ⟨rfl, m, rfl⟩
      go_wp2
      go_ret
      exact ⟨rfl, (b0.trans (b1.mono b0.size)).trans ((q1.mono (Nat.le_trans b0.size b1.size)).trans (below_drawsB _ _ m))⟩
end Go.Proofs.Ytfmhfgjpbkmneaa
namespace Go.Proofs.Ytfmhfgjpbkmneaa
open Go.RowKit
set_option linter.unusedVariables false
set_option linter.unusedSimpArgs false
set_option maxHeartbeats 2000000
theorem ratio_size (n : Int) (w : World) (h0 : -9223372036854775808 ≤ n) (h1 : n ≤ 9223372036854775807) :
    Calls Try.prog 71 #[.int .i64 n] w fun e w' => ∃ v, e = .returned v ∧ Own w' w.heap.size v (Num.words n.natAbs) ∧ Below w.heap.size w w' := by
  by_cases hn : n < 0
  · have t1 : decide (n < 0) = true := decide_eq_true hn
    have t2 : IntKind.u64.wrap n = n + 18446744073709551616 := by simp [IntKind.wrap, IntKind.bits, IntKind.signed]; omega
    have t3 : IntKind.u64.wrap (-(n + 18446744073709551616)) = -n := by simp [IntKind.wrap, IntKind.bits, IntKind.signed]; omega
    have H := nat_Of (-n) w (by omega) (by omega)
    rw [show (-n).toNat = n.natAbs by omega] at H
    have H := Lib.hid H
    clear h0 h1 hn
    go_enter Try.func71, Try.ntmps71
    go_wp2_with fail
    refine H.out.mono ?_
    rintro e w1 ⟨v1, rfl, o1, b1⟩
    go_wp2
    go_ret
    exact ⟨_, rfl, o1, b1⟩
  · have t1 : decide (n < 0) = false := decide_eq_false hn
    have t2 : IntKind.u64.wrap n = n := by simp [IntKind.wrap, IntKind.bits, IntKind.signed]; omega
    have H := nat_Of n w (by omega) (by omega)
    rw [show n.toNat = n.natAbs by omega] at H
    have H := Lib.hid H
    clear h0 h1 hn
    go_enter Try.func71, Try.ntmps71
    go_wp2_with fail
    refine H.out.mono ?_
    rintro e w1 ⟨v1, rfl, o1, b1⟩
    go_wp2
    go_ret
    exact ⟨_, rfl, o1, b1⟩
theorem RdR.parts {w : World} {v : Value} {r : Num.Ra} (h : RdR w v r) : ∃ A c A' c', v = .agg #[.bool r.neg, .slice A r.num.length c, .slice A' r.den.length c'] ∧ Rd w (.slice A r.num.length c) r.num ∧ Rd w (.slice A' r.den.length c') r.den := by
  obtain ⟨vn, vd, rfl, ⟨A, c, rfl, h1⟩, ⟨A', c', rfl, h2⟩⟩ := h
  exact ⟨A, c, A', c', rfl, ⟨A, c, rfl, h1⟩, ⟨A', c', rfl, h2⟩⟩
/-- variables made at a function's start -/
theorem boxes2 (w : World) (t : TypeId) (A B : Array Value) : ∃ W, W = (w.alloc (.cells A t)).alloc (.cells B t) ∧ Box W w.heap.size t A ∧ Box W (w.heap.size + 1) t B ∧ Below w.heap.size w W ∧ W.heap.size = w.heap.size + 2 := by
  have q : ∀ o, (w.alloc o).heap.size = w.heap.size + 1 := fun o => by simp
  refine ⟨_, rfl, ?_, ?_, ?_, ?_⟩
  · exact (Box.new w t A).below ((Below.refl _ _).alloc (by simp) _)
  · have := Box.new (w.alloc (.cells A t)) t B
    rw [q] at this; exact this
  · exact ((Below.refl _ _).alloc (Nat.le_refl _) _).alloc (by simp) _
  · simp
theorem boxes3 (w : World) (t : TypeId) (A B C : Array Value) : ∃ W, W = ((w.alloc (.cells A t)).alloc (.cells B t)).alloc (.cells C t) ∧ Box W w.heap.size t A ∧ Box W (w.heap.size + 1) t B ∧ Box W (w.heap.size + 1 + 1) t C ∧ Below w.heap.size w W ∧ W.heap.size = w.heap.size + 3 := by
  obtain ⟨W, rfl, h1, h2, h3, h4⟩ := boxes2 w t A B
  have hb := (Below.refl ((w.alloc (.cells A t)).alloc (.cells B t)).heap.size _).alloc (Nat.le_refl _) (.cells C t)
  refine ⟨_, rfl, h1.below hb, h2.below hb, ?_, h3.trans (hb.mono (by omega)), by simp⟩
  have := Box.new ((w.alloc (.cells A t)).alloc (.cells B t)) t C
  rw [h4] at this; exact this
theorem ratio_checks {w : World} {va vb : Value} {a b : Num.Ra} (ha : RdR w va a) (hb : RdR w vb b) : Calls Try.prog 41 #[va, vb] w fun e w' => e = .returned (.int .i64 (Num.rChecks a b)) ∧ Below w.heap.size w w' := by
  have HA := Lib.hid (fun (W : World) (hB : Below w.heap.size w W) => ratio_Check (ha.below hB))
  have HB := Lib.hid (fun (W : World) (hB : Below w.heap.size w W) => ratio_Check (hb.below hB))
  obtain ⟨x, y, rfl, ha1, ha2⟩ := ha
  obtain ⟨x', y', rfl, hb1, hb2⟩ := hb
  obtain ⟨W, hW, x1, x2, b1, hz⟩ := boxes2 w 24 #[.bool a.neg, x, y] #[.bool b.neg, x', y']
  by_cases hc : Num.rCheck a = 0
  · have hr : Num.rChecks a b = Num.rCheck b := if_pos hc
    rw [hr]
    have t1 : (Num.rCheck a != 0) = false := by rw [bne_eq_false_iff_eq]; exact hc
    clear hc hr
    go_enter Try.func41, Try.ntmps41
    go_wp2_with fail
    rw [← hW]
    refine (HA.out W b1).mono ?_
    rintro e w1 ⟨rfl, b2⟩
    obtain ⟨k0, k1, k2, k3, k4, k5⟩ := (x2.below b2).three
    have b3 := b1.trans (b2.mono b1.size)
    go_wp2_with fail
    refine (HB.out w1 b3).mono ?_
    rintro e w2 ⟨rfl, b4⟩
    go_wp2
    go_ret
    exact ⟨rfl, b3.trans (b4.mono b3.size)⟩
  · have hr : Num.rChecks a b = Num.rCheck a := if_neg hc
    rw [hr]
    have t1 : (Num.rCheck a != 0) = true := by rw [bne_iff_ne]; exact hc
    clear hc hr
    go_enter Try.func41, Try.ntmps41
    go_wp2_with fail
    rw [← hW]
    refine (HA.out W b1).mono ?_
    rintro e w1 ⟨rfl, b2⟩
    go_wp2
    go_ret
    exact ⟨rfl, b1.trans (b2.mono b1.size)⟩
theorem ratio_turned_eq {w : World} {vn vd : Value} {r : Num.Ra} (hn : Rd w vn r.num) (hd : Rd w vd r.den) : Calls Try.prog 103 #[.agg #[.bool r.neg, vn, vd]] w fun e w' => e = .returned (.agg #[.bool (Num.rTurned r).neg, vn, vd]) ∧ Below w.heap.size w w' := by
  obtain ⟨A, c, rfl, _⟩ := hn
  obtain ⟨A', c', rfl, _⟩ := hd
  obtain ⟨neg, n, d⟩ := r
  cases neg with
  | true =>
    have hr : Num.rTurned ⟨true, n, d⟩ = ⟨false, n, d⟩ := rfl
    rw [hr]
    go_enter Try.func103, Try.ntmps103
    go_wp2
    have hB : Below w.heap.size w _ := ((Below.refl w.heap.size w).alloc (Nat.le_refl _) (.cells #[.bool false, .slice A n.length c, .slice A' d.length c'] 24)).alloc (by simp) (.cells #[.bool false, .slice A n.length c, .slice A' d.length c'] 24)
    refine bodyPost_ret (v := .agg #[.bool false, .slice A n.length c, .slice A' d.length c']) (by simp [results, Try.results103, go_sem]) rfl ⟨rfl, hB⟩
  | false =>
    have hr : Num.rTurned ⟨false, n, d⟩ = ⟨decide (0 < n.length), n, d⟩ := rfl
    rw [hr]
    go_enter Try.func103, Try.ntmps103
    go_wp2
    have hB : Below w.heap.size w _ := ((Below.refl w.heap.size w).alloc (Nat.le_refl _) (.cells #[.bool (decide (0 < n.length)), .slice A n.length c, .slice A' d.length c'] 24)).alloc (by simp) (.cells #[.bool (decide (0 < n.length)), .slice A n.length c, .slice A' d.length c'] 24)
    refine bodyPost_ret (v := .agg #[.bool (decide (0 < n.length)), .slice A n.length c, .slice A' d.length c']) (by simp [results, Try.results103, go_sem]) rfl ⟨rfl, hB⟩
theorem ratio_turned {w : World} {v : Value} {r : Num.Ra} (h : RdR w v r) : Calls Try.prog 103 #[v] w fun e w' => ∃ v', e = .returned v' ∧ RdR w' v' (Num.rTurned r) ∧ Below w.heap.size w w' := by
  obtain ⟨vn, vd, rfl, hn, hd⟩ := h
  refine (ratio_turned_eq hn hd).mono ?_
  rintro e w' ⟨rfl, hB⟩
  exact ⟨_, rfl, ⟨vn, vd, rfl, hn.below hB, hd.below hB⟩, hB⟩
end Go.Proofs.Ytfmhfgjpbkmneaa
namespace Go.Proofs.Ytfmhfgjpbkmneaa
open Go.RowKit
set_option linter.unusedVariables false
set_option linter.unusedSimpArgs false
set_option maxHeartbeats 2000000
theorem NewR.parts {w w' : World} {r : Num.Ra × Int} {e : Ending} (h : NewR w r e w') : ∃ A c A' c', e = .returned (.tuple #[.agg #[.bool r.1.neg, .slice A r.1.num.length c, .slice A' r.1.den.length c'], .int .i64 r.2]) ∧ Own w' w.heap.size (.slice A r.1.num.length c) r.1.num ∧ Own w' w.heap.size (.slice A' r.1.den.length c') r.1.den ∧ Ap (.slice A r.1.num.length c) (.slice A' r.1.den.length c') ∧ Below w.heap.size w w' := by
  obtain ⟨v1, v2, rfl, h1, h2, h3, h4⟩ := h
  obtain ⟨A, c, rfl, _⟩ := h1.slice
  obtain ⟨A', c', rfl, _⟩ := h2.slice
  exact ⟨A, c, A', c', rfl, h1, h2, h3, h4⟩
theorem NewR.cell {w w1 w2 : World} {r : Num.Ra × Int} {g : Nat} {v1 v2 x y z : Value} (hb : Below w.heap.size w w1) (hg : w.heap.size ≤ g) (hl : g < w1.heap.size) (o1 : Own w2 w1.heap.size v1 r.1.num) (o2 : Own w2 w1.heap.size v2 r.1.den) (h : Ap v1 v2) (b : Below w1.heap.size w1 w2) : NewR w r (.returned (.tuple #[.agg #[.bool r.1.neg, v1, v2], .int .i64 r.2])) (((w2.setCell ⟨g, 0, none⟩ x).setCell ⟨g, 1, none⟩ y).setCell ⟨g, 2, none⟩ z) :=
  ⟨v1, v2, rfl, o1.far3 hl hb.size, o2.far3 hl hb.size, h, (((hb.trans (b.mono hb.size)).setCell hg _).setCell hg _).setCell hg _⟩
theorem NewR.none {w w1 : World} {g : Nat} {x y z : Value} {k : Int} (hb : Below w.heap.size w w1) (hg : w.heap.size ≤ g) : NewR w (Num.Ra.zero, k) (.returned (.tuple #[.agg #[.bool false, .slice none 0 0, .slice none 0 0], .int .i64 k])) (((w1.setCell ⟨g, 0, none⟩ x).setCell ⟨g, 1, none⟩ y).setCell ⟨g, 2, none⟩ z) :=
  ⟨_, _, rfl, Own.nil_ _ _, Own.nil_ _ _, Ap.nil_l _, ((hb.setCell hg _).setCell hg _).setCell hg _⟩
theorem ratio_Small (n d : Int) (w : World) (h0 : -9223372036854775808 ≤ n) (h1 : n ≤ 9223372036854775807) (h2 : -9223372036854775808 ≤ d) (h3 : d ≤ 9223372036854775807) :
    Calls Try.prog 43 #[.int .i64 n, .int .i64 d] w (NewR w (Num.rSmall n d)) := by
  have x0 := Box.new w 24 #[.bool false, .slice none 0 0, .slice none 0 0]
  have b0 : Below w.heap.size w (w.alloc (.cells #[.bool false, .slice none 0 0, .slice none 0 0] 24)) := (Below.refl _ _).alloc (Nat.le_refl _) _
  by_cases hd : d = 0
  · have hr : Num.rSmall n d = (Num.Ra.zero, 7) := if_pos hd
    rw [hr]
    subst hd
    go_enter Try.func43, Try.ntmps43
    go_wp2
    refine bodyPost_ret (v := .tuple #[.agg #[.bool false, .slice none 0 0, .slice none 0 0], .int .i64 7]) (by simp [results, Try.results43, go_sem]) rfl ⟨_, _, rfl, Own.nil_ _ _, Own.nil_ _ _, Ap.nil_l _, b0⟩
  · have hr : Num.rSmall n d = Num.rLowest (decide (n < 0) != decide (d < 0)) n.natAbs d.natAbs := if_neg hd
    rw [hr]
    clear hr
    have t1 : (d == 0) = false := by rw [beq_eq_false_iff_ne]; exact hd
    have HN := Lib.hid (fun W => ratio_size n W h0 h1)
    have HD := Lib.hid (fun W => ratio_size d W h2 h3)
    have l1 : (Num.words n.natAbs).length ≤ 2 := Num.words_len.2 (by omega)
    have l2 : (Num.words d.natAbs).length ≤ 2 := Num.words_len.2 (by omega)
    have l3 : 0 < (Num.words d.natAbs).length := Nat.pos_of_ne_zero (fun e => by have := Num.words_eq_nil.1 (List.eq_nil_of_length_eq_zero e); omega)
    have HL : Hid (∀ W va vb, Rd W va (Num.words n.natAbs) → Rd W vb (Num.words d.natAbs) → Calls Try.prog 69 #[.bool (decide (n < 0) != decide (d < 0)), va, vb] W (NewR W (Num.rLowest (decide (n < 0) != decide (d < 0)) n.natAbs d.natAbs))) := Lib.hid (fun W va vb ha hb => by
      have := ratio_lowest (decide (n < 0) != decide (d < 0)) ha hb (by unfold Num.nChecked; rw [if_pos (Num.check_of_norm (Num.norm_words _) (by omega))]; exact Num.check_of_norm (Num.norm_words _) (by omega)) l3
      rw [Num.val_words, Num.val_words] at this; exact this)
    generalize Num.rLowest (decide (n < 0) != decide (d < 0)) n.natAbs d.natAbs = r at *
    clear h0 h1 h2 h3 hd l1 l2 l3
    generalize hx1 : decide (n < 0) = c1 at *
    generalize hx2 : decide (d < 0) = c2 at *
    go_enter Try.func43, Try.ntmps43
    go_wp2_with fail
    refine (HN.out _).mono ?_
    rintro e w1 ⟨v1, rfl, o1, b1⟩
    go_wp2_with fail
    refine (HD.out _).mono ?_
    rintro e w2 ⟨v2, rfl, o2, b2⟩
    go_wp2_with fail
    refine (HL.out _ _ _ (o1.rdw.below b2) o2.rdw).mono ?_
    rintro e w3 hq
    obtain ⟨A, c, A', c', rfl, o3, o4, hap, b3⟩ := hq.parts
    have b12 := b0.trans ((b1.mono b0.size).trans (b2.mono (Nat.le_trans b0.size b1.size)))
    have x3 := ((x0.below b1).below b2).below b3
    obtain ⟨k0, k1, k2, k3, k4, k5⟩ := x3.three
    go_wp2
    refine bodyPost_ret (v := .tuple #[.agg #[.bool r.1.neg, .slice A r.1.num.length c, .slice A' r.1.den.length c'], .int .i64 r.2]) (by simp [results, Try.results43, go_sem, k0, k1, k2]) rfl (NewR.cell b12 (Nat.le_refl _) ((x0.below b1).below b2).lt o3 o4 hap b3)
end Go.Proofs.Ytfmhfgjpbkmneaa
namespace Go.Proofs.Ytfmhfgjpbkmneaa
open Go.RowKit
set_option linter.unusedVariables false
set_option linter.unusedSimpArgs false
set_option maxHeartbeats 4000000
theorem rd_W {w : World} {v : Value} {l : List Int} (h : Rd w v l) : Num.W l := by obtain ⟨_, _, _, _, _, _, h⟩ := h; exact h
theorem words_mul_le {a b : List Int} (ha : Num.W a) (hb : Num.W b) : (Num.words (Num.val a * Num.val b)).length ≤ a.length + b.length := by
  rw [Num.words_len, Nat.pow_add]
  exact Nat.mul_lt_mul_of_lt_of_le (Num.val_lt ha) (Nat.le_of_lt (Num.val_lt hb)) (Nat.pow_pos (by omega))
theorem words_add_le {x y k : Nat} (hx : (Num.words x).length ≤ k) (hy : (Num.words y).length ≤ k) : (Num.words (x + y)).length ≤ k + 1 := by
  rw [Num.words_len] at *
  rw [Nat.pow_succ]; omega
theorem words_checked {x y k : Nat} (hx : (Num.words x).length ≤ k) (hy : (Num.words y).length ≤ k) (hk : k ≤ 8192) : Num.nChecked (Num.words x) (Num.words y) = 0 := by
  unfold Num.nChecked; rw [if_pos (Num.check_of_norm (Num.norm_words _) (by omega))]; exact Num.check_of_norm (Num.norm_words _) (by omega)
theorem checked_of {a b : List Int} (ha : Num.nCheck a = 0) (hb : Num.nCheck b = 0) : Num.nChecked a b = 0 := by
  unfold Num.nChecked; rw [if_pos ha]; exact hb
/-- lowest, of numbers -/
theorem lowest_words (neg : Bool) {va vb : Value} {m d : Nat} {w : World} (ha : Rd w va (Num.words m)) (hb : Rd w vb (Num.words d)) (h1 : (Num.words m).length ≤ 8192) (h2 : (Num.words d).length ≤ 8192) (h3 : 0 < d) :
    Calls Try.prog 69 #[.bool neg, va, vb] w (NewR w (Num.rLowest neg m d)) := by
  have := ratio_lowest neg ha hb (words_checked h1 h2 (Nat.le_refl _)) (Nat.pos_of_ne_zero (fun e => by have := Num.words_eq_nil.1 (List.eq_nil_of_length_eq_zero e); omega))
  rw [Num.val_words, Num.val_words] at this; exact this
/-- the facts of two fractions that may be -/
theorem pair_facts {a b : Num.Ra} (ha : Num.rCheck a = 0) (hb : Num.rCheck b = 0) (Wan : Num.W a.num) (Wad : Num.W a.den) (Wbn : Num.W b.num) (Wbd : Num.W b.den) :
    Num.nChecked a.num b.den = 0 ∧ Num.nChecked b.num a.den = 0 ∧ Num.nChecked a.den b.den = 0 ∧ Num.nChecked a.num b.num = 0 ∧ a.num.length ≤ 4096 ∧ b.num.length ≤ 4096 ∧ a.den.length ≤ 4096 ∧ b.den.length ≤ 4096 ∧
    (Num.words (Num.val a.num * Num.val b.den)).length ≤ 4096 ∧ (Num.words (Num.val b.num * Num.val a.den)).length ≤ 4096 ∧ (Num.words (Num.val a.den * Num.val b.den)).length ≤ 4096 ∧ (Num.words (Num.val a.num * Num.val b.num)).length ≤ 4096 ∧ 0 < Num.val a.den * Num.val b.den := by
  obtain ⟨p1, p2, p3, p4, p5, p6, p7⟩ := Num.check_of ha
  obtain ⟨q1, q2, q3, q4, q5, q6, q7⟩ := Num.check_of hb
  have r1 := words_mul_le Wan Wbd
  have r2 := words_mul_le Wbn Wad
  have r3 := words_mul_le Wad Wbd
  have r4 := words_mul_le Wan Wbn
  have v1 := Num.val_pos Wad (Num.norm_of_check p2).1 (by intro e; rw [e] at p3; simp at p3)
  have v2 := Num.val_pos Wbd (Num.norm_of_check q2).1 (by intro e; rw [e] at q3; simp at q3)
  exact ⟨checked_of p1 q2, checked_of q1 p2, checked_of p2 q2, checked_of p1 q1, by omega, by omega, by omega, by omega, by omega, by omega, by omega, by omega, Nat.mul_pos v1 v2⟩
end Go.Proofs.Ytfmhfgjpbkmneaa
namespace Go.Proofs.Ytfmhfgjpbkmneaa
open Go.RowKit
set_option linter.unusedVariables false
set_option linter.unusedSimpArgs false
set_option maxHeartbeats 4000000
theorem ratio_plus {w : World} {va vb : Value} {a b : Num.Ra} (ha : RdR w va a) (hb : RdR w vb b) (ca : Num.rCheck a = 0) (cb : Num.rCheck b = 0) : Calls Try.prog 42 #[va, vb] w (NewR w (Num.rPlus a b)) := by
  obtain ⟨P, cP, P', cP', rfl, ha1, ha2⟩ := ha.parts
  obtain ⟨Q, cQ, Q', cQ', rfl, hb1, hb2⟩ := hb.parts
  clear ha hb
  obtain ⟨f1, f2, f3, -, l1, l2, l3, l4, m1, m2, m3, -, dpos⟩ := pair_facts ca cb (rd_W ha1) (rd_W ha2) (rd_W hb1) (rd_W hb2)
  clear ca cb
  have T1 := Lib.hid (fun (W : World) (hB : Below w.heap.size w W) => ratio_times (ha1.below hB) (hb2.below hB) f1 l1 l4)
  have T2 := Lib.hid (fun (W : World) (hB : Below w.heap.size w W) => ratio_times (hb1.below hB) (ha2.below hB) f2 l2 l3)
  have T3 := Lib.hid (fun (W : World) (hB : Below w.heap.size w W) => ratio_times (ha2.below hB) (hb2.below hB) f3 l3 l4)
  obtain ⟨res, hres⟩ : ∃ res, res = Num.rPlus a b := ⟨_, rfl⟩
  rw [← hres]
  unfold Num.rPlus at hres
  generalize Num.val a.num * Num.val b.den = x at *
  generalize Num.val b.num * Num.val a.den = y at *
  generalize Num.val a.den * Num.val b.den = d at *
  have HLow : Hid (∀ (neg : Bool) (m : Nat) (W : World) (va vb : Value), (Num.words m).length ≤ 8192 → Rd W va (Num.words m) → Rd W vb (Num.words d) → Calls Try.prog 69 #[.bool neg, va, vb] W (NewR W (Num.rLowest neg m d))) := Lib.hid (fun neg m W va vb h h1 h2 => lowest_words neg h1 h2 h (by omega) dpos)
  obtain ⟨W, hW, x1, x2, x3, b1, hz⟩ := boxes3 w 24 #[.bool a.neg, .slice P a.num.length cP, .slice P' a.den.length cP'] #[.bool b.neg, .slice Q b.num.length cQ, .slice Q' b.den.length cQ'] #[.bool false, .slice none 0 0, .slice none 0 0]
  have x1 : Box W.drew _ _ _ := x1
  have x2 : Box W.drew _ _ _ := x2
  have x3 : Box W.drew _ _ _ := x3
  have b1 : Below w.heap.size w W.drew := ⟨b1.os, b1.tape, b1.output, b1.size, b1.block⟩
  obtain ⟨i0, i1, i2, -, -, -⟩ := x1.three
  obtain ⟨j0, j1, j2, -, -, -⟩ := x2.three
  by_cases hn : a.neg = b.neg
  · rw [if_pos hn] at hres
    have t1 : (a.neg == b.neg) = true := by rw [beq_iff_eq]; exact hn
    subst hres
    have HA : Hid (∀ (W : World) (va vb : Value), Rd W va (Num.words x) → Rd W vb (Num.words y) → Calls Try.prog 68 #[va, vb] W (NewS W (Num.words (x + y), 0))) := Lib.hid (fun W va vb h1 h2 => by
      have := nat_Add_rd h1 h2
      rw [show Num.nAdd (Num.words x) (Num.words y) = (Num.words (x + y), 0) from by
        unfold Num.nAdd
        rw [if_pos (words_checked m1 m2 (by omega)), Num.val_words, Num.val_words]
        unfold Num.nTold
        rw [if_neg (by have := words_add_le m1 m2; omega)]] at this
      exact this)
    have ms : (Num.words (x + y)).length ≤ 8192 := by have := words_add_le m1 m2; omega
    clear hn f1 f2 f3 l1 l2 l3 l4 m1 m2 m3 dpos
    go_enter Try.func42, Try.ntmps42
    go_wp2_with fail
    rw [← hW]
    clear hW
    go_region_held3 (fun w' => w'.cell? ⟨w.heap.size, 1, none⟩ = some (.slice P a.num.length cP) ∧ w'.cell? ⟨w.heap.size, 2, none⟩ = some (.slice P' a.den.length cP') ∧ w'.cell? ⟨w.heap.size + 1, 1, none⟩ = some (.slice Q b.num.length cQ) ∧ w'.cell? ⟨w.heap.size + 1, 2, none⟩ = some (.slice Q' b.den.length cQ')) (go_keep)
      (first
        | (go_at_call 67; (with_reducible refine (T1.out W.drew (by assumption)).mono ?_); rintro e w1 ⟨v1, rfl, o1, b2⟩; have c1 := b1.trans (b2.mono b1.size); have y1 := x1.below b2; have z1 := x2.below b2; have u1 := x3.below b2; obtain ⟨i10, i11, i12, -, -, -⟩ := y1.three; obtain ⟨j10, j11, j12, -, -, -⟩ := z1.three)
        | (go_at_call 67; (with_reducible refine (T2.out w1 (by assumption)).mono ?_); rintro e w2 ⟨v2, rfl, o2, b3⟩; have c2 := c1.trans (b3.mono c1.size); have y2 := y1.below b3; have z2 := z1.below b3; have u2 := u1.below b3; obtain ⟨i20, i21, i22, -, -, -⟩ := y2.three; obtain ⟨j20, j21, j22, -, -, -⟩ := z2.three)
        | (go_at_call 67; (with_reducible refine (T3.out w2 (by assumption)).mono ?_); rintro e w3 ⟨v3, rfl, o3, b4⟩; have c3 := c2.trans (b4.mono c2.size); have y3 := y2.below b4; have z3 := z2.below b4; have u3 := u2.below b4; obtain ⟨i30, i31, i32, -, -, -⟩ := y3.three; obtain ⟨j30, j31, j32, -, -, -⟩ := z3.three))
    go_wp2_with fail
    refine (HA.out w3 v1 v2 ((o1.rdw.below b3).below b4) (o2.rdw.below b4)).mono ?_
    rintro e w4 ⟨v4, rfl, o4, b5⟩
    have c4 := c3.trans (b5.mono c3.size)
    have u4 := u3.below b5
    obtain ⟨i40, i41, i42, -, -, -⟩ := (y3.below b5).three
    obtain ⟨j40, j41, j42, -, -, -⟩ := (z3.below b5).three
    go_wp2_with fail
    refine (HLow.out a.neg _ _ _ _ ms (o4.rdw) (o3.rdw.below (b5))).mono ?_
    rintro e w5 hq
    obtain ⟨A, c, A', c', rfl, o5, o6, hap, b6⟩ := hq.parts
    have u5 := u4.below b6
    obtain ⟨k0, k1, k2, k3, k4, k5⟩ := u5.three
    go_wp2
    refine bodyPost_ret (v := .tuple #[.agg #[.bool (Num.rLowest a.neg (x + y) d).1.neg, .slice A (Num.rLowest a.neg (x + y) d).1.num.length c, .slice A' (Num.rLowest a.neg (x + y) d).1.den.length c'], .int .i64 (Num.rLowest a.neg (x + y) d).2]) (by simp [results, Try.results42, go_sem, k0, k1, k2]) rfl (NewR.cell (r := Num.rLowest a.neg (x + y) d) c4 (by omega) u4.lt o5 o6 hap b6)
  · rw [if_neg hn] at hres
    have t1 : (a.neg == b.neg) = false := by rw [beq_eq_false_iff_ne]; exact hn
    by_cases hlt : x < y
    · rw [if_pos hlt] at hres
      subst hres
      have t2 : decide (Num.nCompare (Num.words x) (Num.words y) < 0) = true := by
        unfold Num.nCompare; rw [Num.val_words, Num.val_words]
        rw [if_pos hlt]; decide
      have HC : Hid (∀ (W : World) (va vb : Value), Rd W va (Num.words x) → Rd W vb (Num.words y) → Calls Try.prog 57 #[va, vb] W fun e w' => e = .returned (.int .i64 (Num.nCompare (Num.words x) (Num.words y))) ∧ ∃ n, w' = W.drewN n) := Lib.hid (fun W va vb h1 h2 => nat_Compare_rd h1 h2)
      have HS : Hid (∀ (W : World) (va vb : Value), Rd W va (Num.words y) → Rd W vb (Num.words x) → Calls Try.prog 70 #[va, vb] W (NewS W (Num.words (y - x), 0))) := Lib.hid (fun W va vb h1 h2 => by
        have := nat_Sub_rd h1 h2
        rw [show Num.nSub (Num.words y) (Num.words x) = (Num.words (y - x), 0) from by
          unfold Num.nSub
          rw [if_pos (words_checked m2 m1 (by omega)), Num.val_words, Num.val_words]
          rw [if_neg (by omega)]] at this
        exact this)
      have ms : (Num.words (y - x)).length ≤ 8192 := Nat.le_trans (words_le (Nat.sub_le _ _) m2) (by omega)
      generalize Num.nCompare (Num.words x) (Num.words y) = cmp at *
      clear hn f1 f2 f3 l1 l2 l3 l4 m1 m2 m3 dpos hlt
      go_enter Try.func42, Try.ntmps42
      go_wp2_with fail
      rw [← hW]
      clear hW
      go_region_held3 (fun w' => w'.cell? ⟨w.heap.size, 1, none⟩ = some (.slice P a.num.length cP) ∧ w'.cell? ⟨w.heap.size, 2, none⟩ = some (.slice P' a.den.length cP') ∧ w'.cell? ⟨w.heap.size + 1, 1, none⟩ = some (.slice Q b.num.length cQ) ∧ w'.cell? ⟨w.heap.size + 1, 2, none⟩ = some (.slice Q' b.den.length cQ')) (go_keep)
        (first
          | (go_at_call 67; (with_reducible refine (T1.out W.drew (by assumption)).mono ?_); rintro e w1 ⟨v1, rfl, o1, b2⟩; have c1 := b1.trans (b2.mono b1.size); have y1 := x1.below b2; have z1 := x2.below b2; have u1 := x3.below b2; obtain ⟨i10, i11, i12, -, -, -⟩ := y1.three; obtain ⟨j10, j11, j12, -, -, -⟩ := z1.three)
          | (go_at_call 67; (with_reducible refine (T2.out w1 (by assumption)).mono ?_); rintro e w2 ⟨v2, rfl, o2, b3⟩; have c2 := c1.trans (b3.mono c1.size); have y2 := y1.below b3; have z2 := z1.below b3; have u2 := u1.below b3; obtain ⟨i20, i21, i22, -, -, -⟩ := y2.three; obtain ⟨j20, j21, j22, -, -, -⟩ := z2.three)
          | (go_at_call 67; (with_reducible refine (T3.out w2 (by assumption)).mono ?_); rintro e w3 ⟨v3, rfl, o3, b4⟩; have c3 := c2.trans (b4.mono c2.size); have y3 := y2.below b4; have z3 := z2.below b4; have u3 := u2.below b4; obtain ⟨i30, i31, i32, -, -, -⟩ := y3.three; obtain ⟨j30, j31, j32, -, -, -⟩ := z3.three))
      go_wp2_with fail
      refine (HC.out w3 v1 v2 ((o1.rdw.below b3).below b4) (o2.rdw.below b4)).mono ?_
      rintro e w' ⟨rfl, nq, rfl⟩
      have c3 : Below w.heap.size w (w3.drewN nq) := ⟨c3.os, c3.tape, c3.output, c3.size, c3.block⟩
      have o3 : Own (w3.drewN nq) _ _ _ := o3
      have p1 : Rd (w3.drewN nq) v1 (Num.words x) := ((o1.rdw.below b3).below b4).below (below_draws w3 nq)
      have p2 : Rd (w3.drewN nq) v2 (Num.words y) := (o2.rdw.below b4).below (below_draws w3 nq)
      have y3 : Box (w3.drewN nq) _ _ _ := y3
      have z3 : Box (w3.drewN nq) _ _ _ := z3
      have u3 : Box (w3.drewN nq) _ _ _ := u3
      go_wp2_with fail
      refine (HS.out _ _ _ p2 p1).mono ?_
      rintro e w4 ⟨v4, rfl, o4, b5⟩
      have c4 := c3.trans (b5.mono c3.size)
      have u4 := u3.below b5
      obtain ⟨i40, i41, i42, -, -, -⟩ := (y3.below b5).three
      obtain ⟨j40, j41, j42, -, -, -⟩ := (z3.below b5).three
      go_wp2_with fail
      refine (HLow.out b.neg _ _ _ _ ms (o4.rdw) (o3.rdw.below (b5))).mono ?_
      rintro e w5 hq
      obtain ⟨A, c, A', c', rfl, o5, o6, hap, b6⟩ := hq.parts
      have u5 := u4.below b6
      obtain ⟨k0, k1, k2, k3, k4, k5⟩ := u5.three
      go_wp2
      refine bodyPost_ret (v := .tuple #[.agg #[.bool (Num.rLowest b.neg (y - x) d).1.neg, .slice A (Num.rLowest b.neg (y - x) d).1.num.length c, .slice A' (Num.rLowest b.neg (y - x) d).1.den.length c'], .int .i64 (Num.rLowest b.neg (y - x) d).2]) (by simp [results, Try.results42, go_sem, k0, k1, k2]) rfl (NewR.cell (r := Num.rLowest b.neg (y - x) d) c4 (by omega) u4.lt o5 o6 hap b6)
    · rw [if_neg hlt] at hres
      subst hres
      have t2 : decide (Num.nCompare (Num.words x) (Num.words y) < 0) = false := by
        unfold Num.nCompare; rw [Num.val_words, Num.val_words]
        rw [if_neg hlt]; split <;> decide
      have HC : Hid (∀ (W : World) (va vb : Value), Rd W va (Num.words x) → Rd W vb (Num.words y) → Calls Try.prog 57 #[va, vb] W fun e w' => e = .returned (.int .i64 (Num.nCompare (Num.words x) (Num.words y))) ∧ ∃ n, w' = W.drewN n) := Lib.hid (fun W va vb h1 h2 => nat_Compare_rd h1 h2)
      have HS : Hid (∀ (W : World) (va vb : Value), Rd W va (Num.words x) → Rd W vb (Num.words y) → Calls Try.prog 70 #[va, vb] W (NewS W (Num.words (x - y), 0))) := Lib.hid (fun W va vb h1 h2 => by
        have := nat_Sub_rd h1 h2
        rw [show Num.nSub (Num.words x) (Num.words y) = (Num.words (x - y), 0) from by
          unfold Num.nSub
          rw [if_pos (words_checked m1 m2 (by omega)), Num.val_words, Num.val_words]
          rw [if_neg (by omega)]] at this
        exact this)
      have ms : (Num.words (x - y)).length ≤ 8192 := Nat.le_trans (words_le (Nat.sub_le _ _) m1) (by omega)
      generalize Num.nCompare (Num.words x) (Num.words y) = cmp at *
      clear hn f1 f2 f3 l1 l2 l3 l4 m1 m2 m3 dpos hlt
      go_enter Try.func42, Try.ntmps42
      go_wp2_with fail
      rw [← hW]
      clear hW
      go_region_held3 (fun w' => w'.cell? ⟨w.heap.size, 1, none⟩ = some (.slice P a.num.length cP) ∧ w'.cell? ⟨w.heap.size, 2, none⟩ = some (.slice P' a.den.length cP') ∧ w'.cell? ⟨w.heap.size + 1, 1, none⟩ = some (.slice Q b.num.length cQ) ∧ w'.cell? ⟨w.heap.size + 1, 2, none⟩ = some (.slice Q' b.den.length cQ')) (go_keep)
        (first
          | (go_at_call 67; (with_reducible refine (T1.out W.drew (by assumption)).mono ?_); rintro e w1 ⟨v1, rfl, o1, b2⟩; have c1 := b1.trans (b2.mono b1.size); have y1 := x1.below b2; have z1 := x2.below b2; have u1 := x3.below b2; obtain ⟨i10, i11, i12, -, -, -⟩ := y1.three; obtain ⟨j10, j11, j12, -, -, -⟩ := z1.three)
          | (go_at_call 67; (with_reducible refine (T2.out w1 (by assumption)).mono ?_); rintro e w2 ⟨v2, rfl, o2, b3⟩; have c2 := c1.trans (b3.mono c1.size); have y2 := y1.below b3; have z2 := z1.below b3; have u2 := u1.below b3; obtain ⟨i20, i21, i22, -, -, -⟩ := y2.three; obtain ⟨j20, j21, j22, -, -, -⟩ := z2.three)
          | (go_at_call 67; (with_reducible refine (T3.out w2 (by assumption)).mono ?_); rintro e w3 ⟨v3, rfl, o3, b4⟩; have c3 := c2.trans (b4.mono c2.size); have y3 := y2.below b4; have z3 := z2.below b4; have u3 := u2.below b4; obtain ⟨i30, i31, i32, -, -, -⟩ := y3.three; obtain ⟨j30, j31, j32, -, -, -⟩ := z3.three))
      go_wp2_with fail
      refine (HC.out w3 v1 v2 ((o1.rdw.below b3).below b4) (o2.rdw.below b4)).mono ?_
      rintro e w' ⟨rfl, nq, rfl⟩
      have c3 : Below w.heap.size w (w3.drewN nq) := ⟨c3.os, c3.tape, c3.output, c3.size, c3.block⟩
      have o3 : Own (w3.drewN nq) _ _ _ := o3
      have p1 : Rd (w3.drewN nq) v1 (Num.words x) := ((o1.rdw.below b3).below b4).below (below_draws w3 nq)
      have p2 : Rd (w3.drewN nq) v2 (Num.words y) := (o2.rdw.below b4).below (below_draws w3 nq)
      have y3 : Box (w3.drewN nq) _ _ _ := y3
      have z3 : Box (w3.drewN nq) _ _ _ := z3
      have u3 : Box (w3.drewN nq) _ _ _ := u3
      go_wp2_with fail
      refine (HS.out _ _ _ p1 p2).mono ?_
      rintro e w4 ⟨v4, rfl, o4, b5⟩
      have c4 := c3.trans (b5.mono c3.size)
      have u4 := u3.below b5
      obtain ⟨i40, i41, i42, -, -, -⟩ := (y3.below b5).three
      obtain ⟨j40, j41, j42, -, -, -⟩ := (z3.below b5).three
      go_wp2_with fail
      refine (HLow.out a.neg _ _ _ _ ms (o4.rdw) (o3.rdw.below (b5))).mono ?_
      rintro e w5 hq
      obtain ⟨A, c, A', c', rfl, o5, o6, hap, b6⟩ := hq.parts
      have u5 := u4.below b6
      obtain ⟨k0, k1, k2, k3, k4, k5⟩ := u5.three
      go_wp2
      refine bodyPost_ret (v := .tuple #[.agg #[.bool (Num.rLowest a.neg (x - y) d).1.neg, .slice A (Num.rLowest a.neg (x - y) d).1.num.length c, .slice A' (Num.rLowest a.neg (x - y) d).1.den.length c'], .int .i64 (Num.rLowest a.neg (x - y) d).2]) (by simp [results, Try.results42, go_sem, k0, k1, k2]) rfl (NewR.cell (r := Num.rLowest a.neg (x - y) d) c4 (by omega) u4.lt o5 o6 hap b6)
end Go.Proofs.Ytfmhfgjpbkmneaa
