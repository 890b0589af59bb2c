import Derived.Test.YtfmhfgjpbkmneaaZa
import Derived.IntWalk
import Derived.Lib.BitFns
import Derived.Lib.Walk
namespace Go.Proofs.Ytfmhfgjpbkmneaa
open Go.RowKit
set_option linter.unusedVariables false
set_option linter.unusedSimpArgs false
theorem add_step {l p q : List Int} {k : Nat} {cy x y r c' : Int} (hi : Num.val (l.take k) + 4294967296 ^ k * cy.toNat = Num.val (p.take k) + Num.val (q.take k)) (hl : k < l.length) (hx : Num.at_ p k = x) (hy : Num.at_ q k = y)
    (hx0 : 0 ≤ x) (hy0 : 0 ≤ y) (hr0 : 0 ≤ r) (hc0 : 0 ≤ cy) (hc1 : 0 ≤ c') (h : r + 4294967296 * c' = cy + x + y) :
    Num.val ((l.set k r).take (k + 1)) + 4294967296 ^ (k + 1) * c'.toNat = Num.val (p.take (k + 1)) + Num.val (q.take (k + 1)) := by
  rw [set_take_val r hl, Num.val_take_succ p, Num.val_take_succ q, hx, hy, Nat.pow_succ]
  have h1 : r.toNat + 4294967296 * c'.toNat = cy.toNat + x.toNat + y.toNat := by omega
  have h2 : 4294967296 ^ k * (r.toNat + 4294967296 * c'.toNat) = 4294967296 ^ k * (cy.toNat + x.toNat + y.toNat) := by rw [h1]
  generalize 4294967296 ^ k = P at *
  grind
theorem below_of_grown {w w1 : World} (h : w.grownBy w1 none) : Below w.heap.size w w1 := ⟨h.os, h.tape, h.output, h.size, fun k hk => h.block k hk (by simp)⟩
theorem wpList_make32 (w : World) {ops : Array Oper} {rest : List Oper} {o : Oper} {a : Act} {Q : Exit → Act → World → Prop}
    (hg : o.guard = none) (l c : Operand) (hop : o.op = Op.makeSlice 22 l c) (L : Int) (n : Nat) (hl : a.eval l = .int .i64 L) (hc : a.eval c = .int .i64 L) (hL : L = (n : Int)) (hn : n ≤ 1000000)
    (hK : ∀ w', Win w' w.heap.size n 0 (List.replicate n 0) → Below w.heap.size w w' → wpList Try.prog ops Q rest (a.put o.dst (.slice (some ⟨w.heap.size, 0, none⟩) n n)) w') :
    wpList Try.prog ops Q (o :: rest) a w := by
  obtain ⟨i0, hi0, hz0, hz1, hz2⟩ := info_parts info32
  refine wpList_make_full w hg l c 22 hop w.heap.size 100 i0 (.int .u32 0) 1 Try.underlying22 hi0 hz0 hz1 .i64 .i64 L L n hl hc hL hL (by rw [hz2]; omega) (by simp only [maxLen]; omega) (Nat.le_refl _) ?_
  intro w' hrow hgr
  refine hK w' ?_ (below_of_grown hgr)
  rcases hrow.2 with ⟨h, _⟩ | ⟨g, cap, cur, he, _, hh, h1, h2, h3, h4⟩
  · simp at h
  · injection he with e1 e2 e3
    injection e1 with e1
    injection e1 with e1
    subst e1 e3
    refine ⟨cur, hh, by omega, by simp, fun j hj => ?_⟩
    rw [List.length_replicate] at hj
    have e : (cur.toList.take (n * 1))[j]? = (madeCells (Value.int .u32 0).cells (n * 1)).toList[j]? := by rw [h4]
    rw [List.getElem?_take_of_lt (by omega), Array.getElem?_toList] at e
    rw [Nat.zero_add, e]
    have : (Value.int IntKind.u32 0).cells = #[Value.int IntKind.u32 0] := rfl
    rw [this, toList_madeCells_one, Nat.mul_one]
    simp [Num.at_, List.getD_eq_getElem?_getD, List.getElem?_replicate, hj]
theorem told_new {w w' : World} {g c n : Nat} (h : Own w' g (.slice (some ⟨g, 0, none⟩) (Num.words n).length c) (Num.words n)) (hb : Below g w w') (hg : g = w.heap.size := by rfl) :
    NewS w (Num.nTold n) (.returned (.tuple #[toldV (some ⟨g, 0, none⟩) c n, .int .i64 (Num.nTold n).2])) w' := by
  subst hg
  unfold Num.nTold toldV
  by_cases h1 : 8192 < (Num.words n).length
  · rw [if_pos h1, if_pos h1]; exact ⟨_, rfl, Own.nil_ _ _, hb⟩
  · rw [if_neg h1, if_neg h1]; exact ⟨_, rfl, h, hb⟩
theorem nat_Add (A A' : Option Addr) (c c' : Nat) (a b : List Int) (w : World) (ha : Sl w A a) (hb : Sl w A' b) (hm : a.length ≤ 9223372036854775807) (hm' : b.length ≤ 9223372036854775807) (hWa : Num.W a) (hWb : Num.W b) :
    Calls Try.prog 68 #[.slice A a.length c, .slice A' b.length c'] w (NewS w (Num.nAdd a b)) := by
  have H1 := Lib.hid (nat_checked A A' c c' a b w ha hb hm hm')
  by_cases h0 : Num.nChecked a b = 0
  · have hab : Num.nCheck a = 0 ∧ Num.nCheck b = 0 := by
      unfold Num.nChecked at h0
      split at h0
      · exact ⟨by assumption, h0⟩
      · exact absurd h0 (by assumption)
    obtain ⟨Na, La⟩ := Num.norm_of_check hab.1
    obtain ⟨Nb, Lb⟩ := Num.norm_of_check hab.2
    have hr : Num.nAdd a b = Num.nTold (Num.val a + Num.val b) := by unfold Num.nAdd; rw [if_pos h0]
    rw [hr]
    rw [h0] at H1
    have HWa := Lib.hid hWa
    have HWb := Lib.hid hWb
    clear hr h0 hab Na Nb hWa hWb
    by_cases hsw : a.length < b.length
    · have hcomm : Hid (Num.val b + Num.val a = Num.val a + Num.val b) := Lib.hid (Nat.add_comm _ _)
      go_enter Try.func68, Try.ntmps68
      go_wp2_with fail
      refine H1.out.mono ?_
      rintro e w' ⟨rfl, rfl⟩
      go_wp2_with (at_make; refine wpList_make32 w rfl (.tmp 26) (.tmp 26) rfl _ (b.length + 1) rfl rfl (by simp) (by omega) ?_; intro w1 hwin0 hbl)
      have hP := hb.below hbl
      have hQ := ha.below hbl
      have hgP : ∀ ad, A' = some ad → 0 < b.length → ad.block ≠ w.heap.size := fun ad e h => by have := hb.lt ad e h; omega
      have hgQ : ∀ ad, A = some ad → 0 < a.length → ad.block ≠ w.heap.size := fun ad e h => by have := ha.lt ad e h; omega
      have HgP := Lib.hid hgP
      have HgQ := Lib.hid hgQ
      clear hgP hgQ
      generalize hgw : w.heap.size = g at *
      have HGW := Lib.hid hgw
      clear hgw
      go_loopw [8, 30] (fun cr i wr => ∃ (k : Nat) (cy : Int) (l : List Int), k ≤ b.length ∧ i = .int .i64 k ∧ cr = .int .u64 cy ∧ 0 ≤ cy ∧ cy ≤ 1 ∧ Hid (l.length = b.length + 1) ∧ Hid (Num.W l) ∧ Win wr g (b.length + 1) 0 l ∧ Upd w1 wr g 0 (b.length + 1) ∧
        Hid (Num.val (l.take k) + 4294967296 ^ k * cy.toNat = Num.val (b.take k) + Num.val (a.take k))) (fun _ i _ => b.length - (intOf i).toNat)
      case atStart => exact ⟨0, 0, List.replicate (b.length + 1) 0, by omega, rfl, rfl, by omega, by omega, Lib.hid (by simp), Lib.hid (Num.W_replicate _), hwin0, Upd.refl _ _ _ _, Lib.hid (by simp [Num.val])⟩
      case round =>
        obtain ⟨k, cy, l, hk, rfl, rfl, hc0, hc1, hll, hWl, hwin, hupd, hinv⟩ := hrel
        by_cases hlt : k < b.length
        · have hfx := hwin.free k
          have hs := hP.upd hupd HgP.out
          obtain ⟨pd, rfl, hcp⟩ := hs (by omega)
          have hcx := hcp k hlt
          obtain ⟨hx0, hx1⟩ := Num.at_lt HWb.out k
          have hco := hwin.cell k (by rw [hll.out]; omega)
          rw [Nat.zero_add] at hco
          clear hcp
          by_cases hkq : k < a.length
          · have hs2 := hQ.upd hupd HgQ.out
            obtain ⟨qd, rfl, hcq⟩ := hs2 (by omega)
            have hcy := hcq k hkq
            obtain ⟨hy0, hy1⟩ := Num.at_lt HWa.out k
            clear hcq
            generalize hxx : Num.at_ b k = x at *
            generalize hyy : Num.at_ a k = y at *
            have HX := Lib.hid hxx
            have HY := Lib.hid hyy
            clear hxx hyy
            go_wp2
            go_roundw
            case rel =>
              have hkl : k < l.length := by rw [hll.out]; omega
              have hw2 := hwin.set_ k ((cy + x + y) % 4294967296) hkl
              have hu2 := hupd.set_ k (.int .u32 ((cy + x + y) % 4294967296)) (show k < b.length + 1 by omega)
              rw [Nat.zero_add] at hw2 hu2
              exact ⟨k + 1, (cy + x + y) / 4294967296, l.set k ((cy + x + y) % 4294967296), by omega, by go_num, rfl, by omega, by omega, Lib.hid (by rw [List.length_set]; exact hll.out), Lib.hid (Num.W_set hWl.out k (by omega) (by omega)), hw2, hu2,
                Lib.hid (add_step hinv.out hkl HX.out HY.out hx0 hy0 (by omega) hc0 (by omega) (by omega))⟩
            case measure => simp [intOf] <;> omega
          · have hy0 : Hid (Num.at_ a k = 0) := Lib.hid (Num.at_out (by omega))
            generalize hxx : Num.at_ b k = x at *
            have HX := Lib.hid hxx
            clear hxx
            go_wp2
            go_roundw
            case rel =>
              have hkl : k < l.length := by rw [hll.out]; omega
              have hw2 := hwin.set_ k ((cy + x) % 4294967296) hkl
              have hu2 := hupd.set_ k (.int .u32 ((cy + x) % 4294967296)) (show k < b.length + 1 by omega)
              rw [Nat.zero_add] at hw2 hu2
              exact ⟨k + 1, (cy + x) / 4294967296, l.set k ((cy + x) % 4294967296), by omega, by go_num, rfl, by omega, by omega, Lib.hid (by rw [List.length_set]; exact hll.out), Lib.hid (Num.W_set hWl.out k (by omega) (by omega)), hw2, hu2,
                Lib.hid (add_step hinv.out hkl HX.out hy0.out hx0 (Int.le_refl 0) (by omega) hc0 (by omega) (by omega))⟩
            case measure => simp [intOf] <;> omega
        · obtain rfl : k = b.length := by omega
          have hfx := hwin.free b.length
          have hco := hwin.cell b.length (by rw [hll.out]; omega)
          rw [Nat.zero_add] at hco
          have hkl : b.length < l.length := by rw [hll.out]; omega
          have hlt2 : cy < 4294967296 := by omega
          have hw2 := hwin.set_ b.length cy hkl
          have hu2 := hupd.set_ b.length (.int .u32 cy) (by omega)
          rw [Nat.zero_add] at hw2 hu2
          have hfin : Hid (Num.val (l.set b.length cy) = Num.val b + Num.val a) := Lib.hid (by
            have h1 := hinv.out
            rw [List.take_of_length_le (Nat.le_refl b.length), List.take_of_length_le (show a.length ≤ b.length by omega)] at h1
            have h2 := set_take_val cy hkl
            rw [List.take_of_length_le (by rw [List.length_set, hll.out]; omega)] at h2
            omega)
          have hWs : Num.W (l.set b.length cy) := Num.W_set hWl.out _ (by omega) (by omega)
          have hlen : (l.set b.length cy).length = b.length + 1 := by rw [List.length_set]; exact hll.out
          have HT := Lib.hid (nat_told (some ⟨g, 0, none⟩) (b.length + 1) (l.set b.length cy) _ hw2.sl (by omega) (by omega) hWs)
          rw [hfin.out, hlen] at HT
          have HO := Lib.hid (own_cut hw2 hWs (Nat.le_refl g) (by simp only [maxLen]; omega))
          rw [hfin.out] at HO
          have hbl2 := hbl.trans (hu2.below (Nat.le_refl g))
          rw [hcomm.out] at HT HO
          clear hfin hWs hlen
          go_wp2_with fail
          refine HT.out.mono ?_
          rintro e w2 ⟨rfl, rfl⟩
          go_wp2
          go_ret2
          exact told_new HO.out hbl2 HGW.out.symm
    · have hcomm : Hid (Num.val a + Num.val b = Num.val a + Num.val b) := Lib.hid (rfl)
      go_enter Try.func68, Try.ntmps68
      go_wp2_with fail
      refine H1.out.mono ?_
      rintro e w' ⟨rfl, rfl⟩
      go_wp2_with (at_make; refine wpList_make32 w rfl (.tmp 26) (.tmp 26) rfl _ (a.length + 1) rfl rfl (by simp) (by omega) ?_; intro w1 hwin0 hbl)
      have hP := ha.below hbl
      have hQ := hb.below hbl
      have hgP : ∀ ad, A = some ad → 0 < a.length → ad.block ≠ w.heap.size := fun ad e h => by have := ha.lt ad e h; omega
      have hgQ : ∀ ad, A' = some ad → 0 < b.length → ad.block ≠ w.heap.size := fun ad e h => by have := hb.lt ad e h; omega
      have HgP := Lib.hid hgP
      have HgQ := Lib.hid hgQ
      clear hgP hgQ
      generalize hgw : w.heap.size = g at *
      have HGW := Lib.hid hgw
      clear hgw
      go_loopw [8, 30] (fun cr i wr => ∃ (k : Nat) (cy : Int) (l : List Int), k ≤ a.length ∧ i = .int .i64 k ∧ cr = .int .u64 cy ∧ 0 ≤ cy ∧ cy ≤ 1 ∧ Hid (l.length = a.length + 1) ∧ Hid (Num.W l) ∧ Win wr g (a.length + 1) 0 l ∧ Upd w1 wr g 0 (a.length + 1) ∧
        Hid (Num.val (l.take k) + 4294967296 ^ k * cy.toNat = Num.val (a.take k) + Num.val (b.take k))) (fun _ i _ => a.length - (intOf i).toNat)
      case atStart => exact ⟨0, 0, List.replicate (a.length + 1) 0, by omega, rfl, rfl, by omega, by omega, Lib.hid (by simp), Lib.hid (Num.W_replicate _), hwin0, Upd.refl _ _ _ _, Lib.hid (by simp [Num.val])⟩
      case round =>
        obtain ⟨k, cy, l, hk, rfl, rfl, hc0, hc1, hll, hWl, hwin, hupd, hinv⟩ := hrel
        by_cases hlt : k < a.length
        · have hfx := hwin.free k
          have hs := hP.upd hupd HgP.out
          obtain ⟨pd, rfl, hcp⟩ := hs (by omega)
          have hcx := hcp k hlt
          obtain ⟨hx0, hx1⟩ := Num.at_lt HWa.out k
          have hco := hwin.cell k (by rw [hll.out]; omega)
          rw [Nat.zero_add] at hco
          clear hcp
          by_cases hkq : k < b.length
          · have hs2 := hQ.upd hupd HgQ.out
            obtain ⟨qd, rfl, hcq⟩ := hs2 (by omega)
            have hcy := hcq k hkq
            obtain ⟨hy0, hy1⟩ := Num.at_lt HWb.out k
            clear hcq
            generalize hxx : Num.at_ a k = x at *
            generalize hyy : Num.at_ b k = y at *
            have HX := Lib.hid hxx
            have HY := Lib.hid hyy
            clear hxx hyy
            go_wp2
            go_roundw
            case rel =>
              have hkl : k < l.length := by rw [hll.out]; omega
              have hw2 := hwin.set_ k ((cy + x + y) % 4294967296) hkl
              have hu2 := hupd.set_ k (.int .u32 ((cy + x + y) % 4294967296)) (show k < a.length + 1 by omega)
              rw [Nat.zero_add] at hw2 hu2
              exact ⟨k + 1, (cy + x + y) / 4294967296, l.set k ((cy + x + y) % 4294967296), by omega, by go_num, rfl, by omega, by omega, Lib.hid (by rw [List.length_set]; exact hll.out), Lib.hid (Num.W_set hWl.out k (by omega) (by omega)), hw2, hu2,
                Lib.hid (add_step hinv.out hkl HX.out HY.out hx0 hy0 (by omega) hc0 (by omega) (by omega))⟩
            case measure => simp [intOf] <;> omega
          · have hy0 : Hid (Num.at_ b k = 0) := Lib.hid (Num.at_out (by omega))
            generalize hxx : Num.at_ a k = x at *
            have HX := Lib.hid hxx
            clear hxx
            go_wp2
            go_roundw
            case rel =>
              have hkl : k < l.length := by rw [hll.out]; omega
              have hw2 := hwin.set_ k ((cy + x) % 4294967296) hkl
              have hu2 := hupd.set_ k (.int .u32 ((cy + x) % 4294967296)) (show k < a.length + 1 by omega)
              rw [Nat.zero_add] at hw2 hu2
              exact ⟨k + 1, (cy + x) / 4294967296, l.set k ((cy + x) % 4294967296), by omega, by go_num, rfl, by omega, by omega, Lib.hid (by rw [List.length_set]; exact hll.out), Lib.hid (Num.W_set hWl.out k (by omega) (by omega)), hw2, hu2,
                Lib.hid (add_step hinv.out hkl HX.out hy0.out hx0 (Int.le_refl 0) (by omega) hc0 (by omega) (by omega))⟩
            case measure => simp [intOf] <;> omega
        · obtain rfl : k = a.length := by omega
          have hfx := hwin.free a.length
          have hco := hwin.cell a.length (by rw [hll.out]; omega)
          rw [Nat.zero_add] at hco
          have hkl : a.length < l.length := by rw [hll.out]; omega
          have hlt2 : cy < 4294967296 := by omega
          have hw2 := hwin.set_ a.length cy hkl
          have hu2 := hupd.set_ a.length (.int .u32 cy) (by omega)
          rw [Nat.zero_add] at hw2 hu2
          have hfin : Hid (Num.val (l.set a.length cy) = Num.val a + Num.val b) := Lib.hid (by
            have h1 := hinv.out
            rw [List.take_of_length_le (Nat.le_refl a.length), List.take_of_length_le (show b.length ≤ a.length by omega)] at h1
            have h2 := set_take_val cy hkl
            rw [List.take_of_length_le (by rw [List.length_set, hll.out]; omega)] at h2
            omega)
          have hWs : Num.W (l.set a.length cy) := Num.W_set hWl.out _ (by omega) (by omega)
          have hlen : (l.set a.length cy).length = a.length + 1 := by rw [List.length_set]; exact hll.out
          have HT := Lib.hid (nat_told (some ⟨g, 0, none⟩) (a.length + 1) (l.set a.length cy) _ hw2.sl (by omega) (by omega) hWs)
          rw [hfin.out, hlen] at HT
          have HO := Lib.hid (own_cut hw2 hWs (Nat.le_refl g) (by simp only [maxLen]; omega))
          rw [hfin.out] at HO
          have hbl2 := hbl.trans (hu2.below (Nat.le_refl g))
          clear hfin hWs hlen
          go_wp2_with fail
          refine HT.out.mono ?_
          rintro e w2 ⟨rfl, rfl⟩
          go_wp2
          go_ret2
          exact told_new HO.out hbl2 HGW.out.symm
  · have hr : Num.nAdd a b = ([], Num.nChecked a b) := by unfold Num.nAdd; rw [if_neg h0]
    rw [hr]
    clear hr
    generalize Num.nChecked a b = er at *
    go_enter Try.func68, Try.ntmps68
    go_wp2_with fail
    refine H1.out.mono ?_
    rintro e w' ⟨rfl, rfl⟩
    go_wp2
    go_ret2
    exact ⟨_, rfl, Own.nil_ _ _, Below.refl _ _⟩
end Go.Proofs.Ytfmhfgjpbkmneaa
namespace Go.Proofs.Ytfmhfgjpbkmneaa
open Go.RowKit
set_option linter.unusedVariables false
set_option linter.unusedSimpArgs false
theorem mul_bound {x y o cy : Int} (hx : 0 ≤ x) (hx1 : x < 4294967296) (hy : 0 ≤ y) (hy1 : y < 4294967296) (ho : 0 ≤ o) (ho1 : o < 4294967296) (hc : 0 ≤ cy) (hc1 : cy < 4294967296) :
    0 ≤ x * y ∧ x * y ≤ 18446744065119617025 := by
  refine ⟨Int.mul_nonneg hx hy, ?_⟩
  have h1 : x * y ≤ 4294967295 * y := Int.mul_le_mul_of_nonneg_right (by omega) hy
  omega
theorem at_zero {l : List Int} (h : Num.W l) {n : Nat} (hv : Num.val l < 4294967296 ^ n) : Num.at_ l n = 0 := by
  rcases Nat.lt_or_ge n l.length with hn | hn
  · have h1 := Num.val_split l n
    rw [Num.val_drop] at h1
    have h2 := Num.at_lt h n
    rcases Int.lt_or_le 0 (Num.at_ l n) with h3 | h3
    · have h4 : 1 ≤ (Num.at_ l n).toNat + 4294967296 * Num.val (l.drop (n + 1)) := by omega
      have h5 := Nat.mul_le_mul_left (4294967296 ^ n) h4
      omega
    · omega
  · exact Num.at_out hn
theorem mul_step {l b : List Int} {i k V : Nat} {x y o cy : Int} (hi : Num.val l + 4294967296 ^ (i + k) * cy.toNat = V + 4294967296 ^ i * x.toNat * Num.val (b.take k)) (hl : i + k < l.length) (ho : Num.at_ l (i + k) = o) (hy : Num.at_ b k = y)
    (hx0 : 0 ≤ x) (hy0 : 0 ≤ y) (ho0 : 0 ≤ o) (hc0 : 0 ≤ cy) :
    Num.val (l.set (i + k) ((cy + (x * y + o)) % 4294967296)) + 4294967296 ^ (i + (k + 1)) * ((cy + (x * y + o)) / 4294967296).toNat = V + 4294967296 ^ i * x.toNat * Num.val (b.take (k + 1)) := by
  have h1 := Num.val_set l (i + k) ((cy + (x * y + o)) % 4294967296) hl
  rw [ho] at h1
  have hm : (x * y).toNat = x.toNat * y.toNat := Int.toNat_mul hx0 hy0
  have hp : 0 ≤ x * y := Int.mul_nonneg hx0 hy0
  have ht : ((cy + (x * y + o)) % 4294967296).toNat + 4294967296 * ((cy + (x * y + o)) / 4294967296).toNat = cy.toNat + (x.toNat * y.toNat + o.toNat) := by rw [← hm]; omega
  rw [Num.val_take_succ b, hy, ← Nat.add_assoc, Nat.pow_succ]
  generalize ((cy + (x * y + o)) % 4294967296).toNat = r at *
  generalize ((cy + (x * y + o)) / 4294967296).toNat = c' at *
  have h2 : 4294967296 ^ (i + k) * (r + 4294967296 * c') = 4294967296 ^ (i + k) * (cy.toNat + (x.toNat * y.toNat + o.toNat)) := by rw [ht]
  have h3 : 4294967296 ^ (i + k) = 4294967296 ^ i * 4294967296 ^ k := Nat.pow_add _ _ _
  generalize Num.val (l.set (i + k) ((cy + (x * y + o)) % 4294967296)) = v' at *
  generalize Num.val (b.take k) = vb at *
  rw [h3] at h1 h2 hi ⊢
  generalize 4294967296 ^ i = P at *
  generalize 4294967296 ^ k = Q at *
  grind
theorem nat_Mul (A A' : Option Addr) (c c' : Nat) (a b : List Int) (w : World) (ha : Sl w A a) (hb : Sl w A' b) (hm : a.length ≤ 9223372036854775807) (hm' : b.length ≤ 9223372036854775807) (hWa : Num.W a) (hWb : Num.W b) :
    Calls Try.prog 88 #[.slice A a.length c, .slice A' b.length c'] w (NewS w (Num.nMul a b)) := by
  have H1 := Lib.hid (nat_checked A A' c c' a b w ha hb hm hm')
  by_cases h0 : Num.nChecked a b = 0
  · have hab : Num.nCheck a = 0 ∧ Num.nCheck b = 0 := by
      unfold Num.nChecked at h0
      split at h0
      · exact ⟨by assumption, h0⟩
      · exact absurd h0 (by assumption)
    obtain ⟨Na, La⟩ := Num.norm_of_check hab.1
    obtain ⟨Nb, Lb⟩ := Num.norm_of_check hab.2
    rw [h0] at H1
    by_cases hz : a.length = 0 ∨ b.length = 0
    · have hr : Num.nMul a b = ([], 0) := by unfold Num.nMul; rw [if_pos h0, if_pos hz]
      rw [hr]
      clear hr h0 hab Na Nb
      by_cases hz1 : a.length = 0
      · have t1 : ((a.length : Int) == 0) = true := by rw [beq_iff_eq]; omega
        clear hz1 hz
        go_enter Try.func88, Try.ntmps88
        go_wp2_with fail
        refine H1.out.mono ?_
        rintro e w' ⟨rfl, rfl⟩
        go_wp2
        go_ret2
        exact ⟨_, rfl, Own.nil_ _ _, Below.refl _ _⟩
      · have t1 : ((a.length : Int) == 0) = false := by rw [beq_eq_false_iff_ne]; omega
        have t2 : ((b.length : Int) == 0) = true := by rw [beq_iff_eq]; omega
        clear hz hz1
        go_enter Try.func88, Try.ntmps88
        go_wp2_with fail
        refine H1.out.mono ?_
        rintro e w' ⟨rfl, rfl⟩
        go_wp2
        go_ret2
        exact ⟨_, rfl, Own.nil_ _ _, Below.refl _ _⟩
    · have hz1 : 0 < a.length := by omega
      have hz2 : 0 < b.length := by omega
      have hz3 : ((a.length : Int) == 0) = false := by rw [beq_eq_false_iff_ne]; omega
      have hz4 : ((b.length : Int) == 0) = false := by rw [beq_eq_false_iff_ne]; omega
      by_cases hlong : 8193 < a.length + b.length
      · have hr : Num.nMul a b = ([], 3) := by unfold Num.nMul; rw [if_pos h0, if_neg hz, if_pos hlong]
        rw [hr]
        clear hr h0 hab Na Nb hz
        go_enter Try.func88, Try.ntmps88
        go_wp2_with fail
        refine H1.out.mono ?_
        rintro e w' ⟨rfl, rfl⟩
        go_wp2
        go_ret2
        exact ⟨_, rfl, Own.nil_ _ _, Below.refl _ _⟩
      · have hr : Num.nMul a b = Num.nTold (Num.val a * Num.val b) := by unfold Num.nMul; rw [if_pos h0, if_neg hz, if_neg hlong]
        rw [hr]
        have HWa := Lib.hid hWa
        have HWb := Lib.hid hWb
        clear hr h0 hab Na Nb hWa hWb hz
        go_enter Try.func88, Try.ntmps88
        go_wp2_with fail
        refine H1.out.mono ?_
        rintro e w' ⟨rfl, rfl⟩
        go_wp2_with (at_make; refine wpList_make32 w rfl (.tmp 37) (.tmp 37) rfl _ (a.length + b.length) rfl rfl (by simp) (by omega) ?_; intro w1 hwin0 hbl)
        have hP := ha.below hbl
        have hQ := hb.below hbl
        have hgP : ∀ ad, A = some ad → 0 < a.length → ad.block ≠ w.heap.size := fun ad e h => by have := ha.lt ad e h; omega
        have hgQ : ∀ ad, A' = some ad → 0 < b.length → ad.block ≠ w.heap.size := fun ad e h => by have := hb.lt ad e h; omega
        have HgP := Lib.hid hgP
        have HgQ := Lib.hid hgQ
        clear hgP hgQ
        generalize hgw : w.heap.size = g at *
        have HGW := Lib.hid hgw
        clear hgw
        go_loopw [41] (fun i wr => ∃ (k : Nat) (l : List Int), k ≤ a.length ∧ i = .int .i64 k ∧ Hid (l.length = a.length + b.length) ∧ Hid (Num.W l) ∧ Win wr g (a.length + b.length) 0 l ∧ Upd w1 wr g 0 (a.length + b.length) ∧
          Hid (Num.val l = Num.val (a.take k) * Num.val b)) (fun i _ => a.length - (intOf i).toNat)
        case atStart => exact ⟨0, List.replicate (a.length + b.length) 0, by omega, rfl, Lib.hid (by simp), Lib.hid (Num.W_replicate _), hwin0, Upd.refl _ _ _ _, Lib.hid (by simp [Num.val, Num.val_replicate])⟩
        case round =>
          obtain ⟨i, l, hi, rfl, hll, hWl, hwin, hupd, hinv⟩ := hrel
          obtain ⟨wo, rfl⟩ : ∃ wo : World, wo = wr := ⟨_, rfl⟩
          by_cases hlt : i < a.length
          · have hs := hP.upd hupd HgP.out
            obtain ⟨pd, rfl, hcp⟩ := hs (by omega)
            have hcx := hcp i hlt
            obtain ⟨hx0, hx1⟩ := Num.at_lt HWa.out i
            clear hcp
            generalize hxx : Num.at_ a i = x at *
            have HX := Lib.hid hxx
            clear hxx
            go_wp2
            go_loopw [10, 48] (fun cr j wr => ∃ (k : Nat) (cy : Int) (m : List Int), k ≤ b.length ∧ j = .int .i64 k ∧ cr = .int .u64 cy ∧ 0 ≤ cy ∧ cy < 4294967296 ∧ Hid (m.length = a.length + b.length) ∧ Hid (Num.W m) ∧ Win wr g (a.length + b.length) 0 m ∧ Upd w1 wr g 0 (a.length + b.length) ∧
              Hid (m.drop (i + b.length) = l.drop (i + b.length)) ∧ Hid (Num.val m + 4294967296 ^ (i + k) * cy.toNat = Num.val (a.take i) * Num.val b + 4294967296 ^ i * x.toNat * Num.val (b.take k))) (fun _ j _ => b.length - (intOf j).toNat)
            case atStart => exact ⟨0, 0, l, by omega, rfl, rfl, by omega, by omega, hll, hWl, hwin, hupd, Lib.hid rfl, Lib.hid (by rw [hinv.out]; simp [Num.val])⟩
            case round =>
              obtain ⟨k, cy, m, hk, rfl, rfl, hc0, hc1, hml, hWm, hwm, hum, hdr, hin2⟩ := hrel
              by_cases hkb : k < b.length
              · have hs2 := hQ.upd hum HgQ.out
                obtain ⟨qd, rfl, hcq⟩ := hs2 (by omega)
                have hcy := hcq k hkb
                obtain ⟨hy0, hy1⟩ := Num.at_lt HWb.out k
                clear hcq
                have hko : i + k < m.length := by rw [hml.out]; omega
                have hco := hwm.cell (i + k) hko
                rw [Nat.zero_add] at hco
                have hfo := hwm.free (i + k)
                obtain ⟨ho0, ho1⟩ := Num.at_lt hWm.out (i + k)
                generalize hyy : Num.at_ b k = y at *
                generalize hoo : Num.at_ m (i + k) = o at *
                have HY := Lib.hid hyy
                have HO := Lib.hid hoo
                clear hyy hoo
                obtain ⟨hxy0, hxy1⟩ := mul_bound hx0 hx1 hy0 hy1 ho0 ho1 hc0 hc1
                have ei : ((i : Int) + (k : Int)).toNat = i + k := by omega
                have ei2 : (0 : Int) ≤ (i : Int) + (k : Int) := by omega
                go_wp2
                go_roundw
                case rel =>
                  have hw2 := hwm.set_ (i + k) ((cy + (x * y + o)) % 4294967296) hko
                  have hu2 := hum.set_ (i + k) (.int .u32 ((cy + (x * y + o)) % 4294967296)) (show i + k < a.length + b.length by omega)
                  rw [Nat.zero_add] at hw2 hu2
                  exact ⟨k + 1, (cy + (x * y + o)) / 4294967296, m.set (i + k) ((cy + (x * y + o)) % 4294967296), by omega, by go_num, rfl, by omega, by omega, Lib.hid (by rw [List.length_set]; exact hml.out), Lib.hid (Num.W_set hWm.out _ (by omega) (by omega)), hw2, hu2,
                    Lib.hid (by rw [List.drop_set_of_lt (by omega)]; exact hdr.out), Lib.hid (mul_step hin2.out hko HO.out HY.out hx0 hy0 ho0 hc0)⟩
                case measure => simp [intOf] <;> omega
              · obtain rfl : k = b.length := by omega
                have hko : i + b.length < m.length := by rw [hml.out]; omega
                have hco := hwm.cell (i + b.length) hko
                rw [Nat.zero_add] at hco
                have hfo := hwm.free (i + b.length)
                have ei : ((i : Int) + (b.length : Int)).toNat = i + b.length := by omega
                have ei2 : (0 : Int) ≤ (i : Int) + (b.length : Int) := by omega
                go_wp2
                go_roundw
                case rel =>
                  have hw2 := hwm.set_ (i + b.length) cy hko
                  have hu2 := hum.set_ (i + b.length) (.int .u32 cy) (show i + b.length < a.length + b.length by omega)
                  rw [Nat.zero_add] at hw2 hu2
                  refine ⟨i + 1, m.set (i + b.length) cy, by omega, by go_num, Lib.hid (by rw [List.length_set]; exact hml.out), Lib.hid (Num.W_set hWm.out _ (by omega) (by omega)), hw2, hu2, Lib.hid ?_⟩
                  have hz : Num.at_ m (i + b.length) = 0 := by
                    have h1 : Num.val l < 4294967296 ^ (i + b.length) := by
                      rw [hinv.out, Nat.pow_add]
                      exact Nat.mul_lt_mul_of_lt_of_le (Num.val_take_lt HWa.out i) (Nat.le_of_lt (Num.val_lt HWb.out)) (Nat.pow_pos (by omega))
                    have h2 := at_zero hWl.out h1
                    have h3 : i + b.length < l.length := by rw [hll.out]; omega
                    rw [← h2]
                    exact (drop_step hdr.out hko h3).1
                  have h1 := Num.val_set m (i + b.length) cy hko
                  rw [hz] at h1
                  have h2 := hin2.out
                  rw [List.take_of_length_le (Nat.le_refl b.length)] at h2
                  rw [Num.val_take_succ, HX.out, Nat.add_mul, ← h2]
                  simp at h1
                  exact h1
                case measure => simp [intOf] <;> omega
          · obtain rfl : i = a.length := by omega
            have HT := Lib.hid (nat_told (some ⟨g, 0, none⟩) (a.length + b.length) l _ hwin.sl (by rw [hll.out]; exact Nat.le_refl _) (by rw [hll.out]; omega) hWl.out)
            have HO := Lib.hid (own_cut hwin hWl.out (Nat.le_refl g) (by simp only [maxLen]; omega))
            have hfin : Num.val l = Num.val a * Num.val b := by have := hinv.out; rw [List.take_of_length_le (Nat.le_refl _)] at this; exact this
            rw [hfin, hll.out] at HT
            rw [hfin] at HO
            have hbl2 := hbl.trans (hupd.below (Nat.le_refl g))
            clear hfin
            go_wp2_with fail
            refine HT.out.mono ?_
            rintro e w2 ⟨rfl, rfl⟩
            go_wp2
            go_ret2
            exact told_new HO.out hbl2 HGW.out.symm
  · have hr : Num.nMul a b = ([], Num.nChecked a b) := by unfold Num.nMul; rw [if_neg h0]
    rw [hr]
    clear hr
    generalize Num.nChecked a b = er at *
    go_enter Try.func88, Try.ntmps88
    go_wp2_with fail
    refine H1.out.mono ?_
    rintro e w' ⟨rfl, rfl⟩
    go_wp2
    go_ret2
    exact ⟨_, rfl, Own.nil_ _ _, Below.refl _ _⟩
end Go.Proofs.Ytfmhfgjpbkmneaa
namespace Go.Proofs.Ytfmhfgjpbkmneaa
open Go.RowKit
set_option linter.unusedVariables false
set_option linter.unusedSimpArgs false
theorem small_step (r x d : Int) (hr : 0 ≤ r) (hrd : r < d) (hd : d < 4294967296) (hx : 0 ≤ x) (hx1 : x < 4294967296) :
    ∃ t q r' : Int, Go.bits .or .u64 (r * 4294967296) x = t ∧ t / d = q ∧ t % d = r' ∧ 0 ≤ t ∧ t < 18446744073709551616 ∧ 0 ≤ q ∧ q < 4294967296 ∧ 0 ≤ r' ∧ r' < d ∧ q * d + r' = r * 4294967296 + x := by
  have h1 := (or64 x.toNat (r * 4294967296).toNat 32 r.toNat (by omega) (by omega) (by omega) (by omega)).2
  rw [Int.toNat_of_nonneg hx, Int.toNat_of_nonneg (by omega)] at h1
  have h2 : ((x.toNat + (r * 4294967296).toNat : Nat) : Int) = r * 4294967296 + x := by omega
  rw [h2] at h1
  have h3 := Int.emod_nonneg (r * 4294967296 + x) (show d ≠ 0 by omega)
  have h4 := Int.emod_lt_of_pos (r * 4294967296 + x) (show 0 < d by omega)
  have h5 := Int.mul_ediv_add_emod (r * 4294967296 + x) d
  refine ⟨_, _, _, h1, rfl, rfl, by omega, by omega, Int.ediv_nonneg (by omega) (by omega), ?_, h3, h4, by rw [Int.mul_comm]; exact h5⟩
  refine Int.ediv_lt_of_lt_mul (by omega) ?_
  have : r * 4294967296 + 4294967296 ≤ d * 4294967296 := by omega
  rw [Int.mul_comm]
  omega
theorem small_inv {l a : List Int} {m : Nat} {r x d q r' : Int} (hi : Num.val (l.drop (m + 1)) * d.toNat + r.toNat = Num.val (a.drop (m + 1))) (hl : m < l.length) (hx : Num.at_ a m = x)
    (hx0 : 0 ≤ x) (hr : 0 ≤ r) (hd : 0 ≤ d) (hq : 0 ≤ q) (hr' : 0 ≤ r') (h : q * d + r' = r * 4294967296 + x) :
    Num.val ((l.set m q).drop m) * d.toNat + r'.toNat = Num.val (a.drop m) := by
  rw [Num.val_drop (l.set m q), Num.val_drop a, Num.at_set _ _ _ _ hl, if_pos rfl, Num.drop_set, hx, ← hi]
  have h1 : q.toNat * d.toNat + r'.toNat = r.toNat * 4294967296 + x.toNat := by
    have := Int.toNat_mul hq hd
    have h2 := Int.mul_nonneg hq hd
    rw [← this]; omega
  generalize Num.val (l.drop (m + 1)) = v at *
  grind
theorem take_succ_eq {l a : List Int} {m : Nat} (h : l.take (m + 1) = a.take (m + 1)) (h1 : m < l.length) (h2 : m < a.length) : Num.at_ l m = Num.at_ a m := by
  rw [Num.take_succ_at h1, Num.take_succ_at h2] at h
  have h3 := List.append_inj_right' h rfl
  exact (List.cons.inj h3).1
theorem nat_small (g c : Nat) (a : List Int) (d : Int) (w : World) (ha : Win w g c 0 a) (hc : c ≤ 9223372036854775807) (hWa : Num.W a) (hd0 : 0 < d) (hd1 : d < 4294967296) :
    Calls Try.prog 94 #[.slice (some ⟨g, 0, none⟩) a.length c, .int .u32 d] w fun e w' => ∃ l, e = .returned (.tuple #[.slice (some ⟨g, 0, none⟩) (Num.words (Num.val l)).length c, .int .u32 (Num.val a % d.toNat : Nat)]) ∧ l.length = a.length ∧ Num.W l ∧ Num.val l = Num.val a / d.toNat ∧ Win w' g c 0 l ∧ Upd w w' g 0 a.length := by
  have hla : a.length ≤ c := by obtain ⟨cur, _, h1, h2, _⟩ := ha; omega
  have HWa := Lib.hid hWa
  clear hWa
  go_enter Try.func94, Try.ntmps94
  go_wp2
  go_loopw [6, 7] (fun rv iv wr => ∃ (i r : Int) (k : Nat) (l : List Int), Hid (i + 1 = k) ∧ -1 ≤ i ∧ i < a.length ∧ iv = .int .i64 i ∧ rv = .int .u64 r ∧ 0 ≤ r ∧ r < d ∧ Hid (l.length = a.length) ∧ Hid (Num.W l) ∧ Win wr g c 0 l ∧ Upd w wr g 0 a.length ∧ Hid (l.take k = a.take k) ∧
      Hid (Num.val (l.drop k) * d.toNat + r.toNat = Num.val (a.drop k))) (fun _ iv _ => (intOf iv + 1).toNat)
  case atStart => exact ⟨_, 0, a.length, a, Lib.hid (by omega), by omega, by omega, rfl, rfl, by omega, hd0, Lib.hid rfl, HWa, ha, Upd.refl _ _ _ _, Lib.hid rfl, Lib.hid (by simp [Num.val])⟩
  case round =>
    obtain ⟨i, r, k, l, hik, hi1, hi2, rfl, rfl, hr0, hr1, hll, hWl, hwin, hupd, htk, hinv⟩ := hrel
    by_cases h0 : 0 ≤ i
    · obtain ⟨m, rfl⟩ := Int.eq_ofNat_of_zero_le h0
      have hkm : Hid (k = m + 1) := Lib.hid (by have := hik.out; omega)
      rw [hkm.out] at hinv htk
      have hml : m < l.length := by rw [hll.out]; omega
      have hcx := hwin.cell m hml
      rw [Nat.zero_add] at hcx
      have hfx := hwin.free m
      obtain ⟨hx0, hx1⟩ := Num.at_lt hWl.out m
      generalize hxx : Num.at_ l m = x at *
      have HX := Lib.hid hxx
      clear hxx
      obtain ⟨t, q, r', e1, e2, e3, ht0, ht1, hq0, hq1, hr0', hr1', hqr⟩ := small_step r x d hr0 hr1 hd1 hx0 hx1
      have HQR := Lib.hid hqr
      clear hqr
      have E1 := Lib.hid e1
      go_wp2
      go_roundw
      case rel =>
        have hw2 := hwin.set_ m q hml
        have hu2 := hupd.set_ m (.int .u32 q) (show m < a.length by omega)
        rw [Nat.zero_add] at hw2 hu2
        have hxa : Num.at_ a m = x := by
          have h1 := take_succ_eq htk.out hml (by omega)
          rw [← h1]; exact HX.out
        have htk2 : (l.set m q).take m = a.take m := by
          rw [Num.take_set]
          have := congrArg (List.take m) htk.out
          rw [List.take_take, List.take_take, Nat.min_eq_left (by omega)] at this
          exact this
        exact ⟨_, r', m, l.set m q, Lib.hid (by omega), by omega, by omega, rfl, congrArg (Value.int .u64) e3, by omega, by omega, Lib.hid (by rw [List.length_set]; exact hll.out), Lib.hid (Num.W_set hWl.out _ (by omega) (by omega)), hw2, hu2, Lib.hid htk2,
          Lib.hid (small_inv hinv.out hml hxa hx0 hr0 (by omega) hq0 hr0' HQR.out)⟩
      case measure => simp [intOf] <;> omega
    · have hfin : Hid (Num.val l = Num.val a / d.toNat ∧ r = ((Num.val a % d.toNat : Nat) : Int)) := Lib.hid (by
        have hk0 : k = 0 := by have := hik.out; omega
        have h1 := hinv.out
        rw [hk0, List.drop_zero, List.drop_zero] at h1
        have h2 : r.toNat < d.toNat := by omega
        have h3 := (Nat.div_mod_unique (a := Num.val a) (b := d.toNat) (c := r.toNat) (d := Num.val l) (by omega)).2 ⟨by rw [Nat.mul_comm]; omega, h2⟩
        exact ⟨h3.1.symm, by omega⟩)
      have HT := Lib.hid (nat_cut (some ⟨g, 0, none⟩) c l _ hwin.sl (by rw [hll.out]; exact hla) (by rw [hll.out]; omega) hWl.out)
      rw [hll.out] at HT
      have hlt2 : r < 4294967296 := by omega
      go_wp2_with fail
      refine HT.out.mono ?_
      rintro e w2 ⟨rfl, rfl⟩
      go_wp2
      go_ret2
      exact ⟨l, by rw [← hfin.out.2]; rfl, hll.out, hWl.out, hfin.out.1, hwin, hupd⟩
end Go.Proofs.Ytfmhfgjpbkmneaa
namespace Go.Proofs.Ytfmhfgjpbkmneaa
open Go.RowKit
set_option linter.unusedVariables false
set_option linter.unusedSimpArgs false
theorem wraps_u32 (n : Int) (h0 : 0 ≤ n) (h1 : n < 2 ^ 32) : IntKind.u32.wrap n = n := by
  have : IntKind.u32.wrap n = n % 4294967296 := by simp [IntKind.wrap, IntKind.bits, IntKind.signed]
  rw [this]; omega
theorem or32 (a b i q : Nat) (h : b = 2 ^ i * q) (ha : a < 2 ^ i) (ha' : a < 4294967296) (hb : b < 4294967296) : Go.bits .or .u32 (a : Int) (b : Int) = ((a + b : Nat) : Int) := by
  have e1 := (bits_nat .u32 32 (by decide) wraps_u32 a b ha' hb).2
  have e3 := Nat.two_pow_add_eq_or_of_lt ha q
  rw [← h] at e3
  rw [e1, Nat.or_comm a b, ← e3, Nat.add_comm a b]
theorem pow_split {n : Nat} (hn : n < 32) : (4294967296 : Nat) = 2 ^ n * 2 ^ (32 - n) := by
  rw [← Nat.pow_add, Nat.add_sub_cancel' (by omega)]
theorem at_small {l : List Int} (h : Num.W l) {k m : Nat} (hv : Num.val l < 4294967296 ^ k * m) : (Num.at_ l k).toNat < m := by
  rcases Nat.lt_or_ge (Num.at_ l k).toNat m with h1 | h1
  · exact h1
  · have h2 := Num.val_split l k
    rw [Num.val_drop] at h2
    have h3 : 4294967296 ^ k * m ≤ 4294967296 ^ k * ((Num.at_ l k).toNat + 4294967296 * Num.val (l.drop (k + 1))) := Nat.mul_le_mul_left _ (by omega)
    omega
theorem up_step (x o : Int) (n : Nat) (hn : n < 32) (hx : 0 ≤ x) (hx1 : x < 4294967296) (ho : 0 ≤ o) (ho1 : o.toNat < 2 ^ n) :
    ∃ lo hi : Int, Go.bits .or .u32 o (IntKind.u64.wrap (x * 2 ^ n) % 4294967296) = lo ∧ IntKind.u64.wrap (x * 2 ^ n) / 4294967296 % 4294967296 = hi ∧ 0 ≤ lo ∧ lo < 4294967296 ∧ 0 ≤ hi ∧ hi < 4294967296 ∧ lo.toNat + 4294967296 * hi.toNat = o.toNat + x.toNat * 2 ^ n := by
  obtain ⟨X, rfl⟩ := Int.eq_ofNat_of_zero_le hx
  obtain ⟨O, rfl⟩ := Int.eq_ofNat_of_zero_le ho
  simp only [Int.toNat_natCast] at *
  have hX : X < 4294967296 := by omega
  have hp : (2 : Nat) ^ n ≤ 2 ^ 31 := Nat.pow_le_pow_right (by omega) (by omega)
  have hy : X * 2 ^ n < 4294967296 * 2 ^ n := Nat.mul_lt_mul_of_pos_right hX (Nat.pow_pos (by omega))
  have hc : ((X : Int) * 2 ^ n) = ((X * 2 ^ n : Nat) : Int) := by rw [Int.natCast_mul, Int.natCast_pow]; rfl
  rw [hc, wrap_u64]
  have hs := pow_split hn
  have hmod : (X * 2 ^ n) % 4294967296 = 2 ^ n * (X % 2 ^ (32 - n)) := by
    conv => lhs; rw [hs, Nat.mul_comm X]
    exact Nat.mul_mod_mul_left _ _ _
  have hlt : X % 2 ^ (32 - n) < 2 ^ (32 - n) := Nat.mod_lt _ (Nat.pow_pos (by omega))
  have hle : 2 ^ n * (X % 2 ^ (32 - n)) + 2 ^ n ≤ 4294967296 := by
    have := Nat.mul_le_mul_left (2 ^ n) hlt
    rw [Nat.mul_succ, ← hs] at this
    exact this
  have hor : Go.bits .or .u32 (O : Int) (((X * 2 ^ n % 4294967296 : Nat)) : Int) = ((O + X * 2 ^ n % 4294967296 : Nat) : Int) := or32 O _ n _ hmod ho1 (by omega) (by omega)
  generalize X * 2 ^ n = Y at *
  generalize 2 ^ n = P at *
  have e1 : (((Y : Nat) : Int) % 18446744073709551616) = Y := by omega
  rw [e1]
  refine ⟨((O + Y % 4294967296 : Nat) : Int), ((Y / 4294967296 : Nat) : Int), by rw [← hor]; congr 1, by omega, by omega, by omega, by omega, by omega, by omega⟩
theorem alg_up (vl v1 v2 Q B o lo hi x P : Nat) (h1 : v1 + Q * o = vl + Q * lo) (h2 : v2 = v1 + Q * B * hi) (h3 : lo + B * hi = o + x * P) : v2 = vl + Q * x * P := by
  have h4 : Q * (lo + B * hi) = Q * (o + x * P) := by rw [h3]
  grind
theorem up_inv {l a : List Int} {k P : Nat} {x o lo hi : Int} (hi0 : Num.val l = Num.val (a.take k) * P) (hl : k < l.length) (hl2 : k + 1 < l.length) (hx : Num.at_ a k = x) (ho : Num.at_ l k = o) (hz : Num.at_ l (k + 1) = 0)
    (h : lo.toNat + 4294967296 * hi.toNat = o.toNat + x.toNat * P) : Num.val ((l.set k lo).set (k + 1) hi) = Num.val (a.take (k + 1)) * P := by
  have h1 := Num.val_set l k lo hl
  have h2 := Num.val_set (l.set k lo) (k + 1) hi (by rw [List.length_set]; exact hl2)
  rw [Num.at_set _ _ _ _ hl, if_neg (by omega), hz] at h2
  rw [ho] at h1
  rw [Num.val_take_succ, hx, Nat.add_mul, ← hi0]
  rw [Nat.pow_succ, show (0 : Int).toNat = 0 from rfl, Nat.mul_zero, Nat.add_zero] at h2
  exact alg_up _ _ _ _ _ _ _ _ _ _ h1 h2 h
theorem nat_up (A : Option Addr) (c : Nat) (a : List Int) (n : Nat) (w : World) (ha : Sl w A a) (hm : a.length ≤ 8192) (hWa : Num.W a) (hn : n < 32) :
    Calls Try.prog 96 #[.slice A a.length c, .int .u64 n] w fun e w' => ∃ g l, e = .returned (.slice (some ⟨g, 0, none⟩) (a.length + 1) (a.length + 1)) ∧ l.length = a.length + 1 ∧ Num.W l ∧ Num.val l = Num.val a * 2 ^ n ∧ w.heap.size ≤ g ∧ Win w' g (a.length + 1) 0 l ∧ Below w.heap.size w w' := by
  have HWa := Lib.hid hWa
  clear hWa
  have hn0 : (0 : Int) ≤ n := by omega
  have hn1 : (n : Int) < 32 := by omega
  go_enter Try.func96, Try.ntmps96
  go_wp2_with (at_make; refine wpList_make32 w rfl (.tmp 11) (.tmp 11) rfl _ (a.length + 1) rfl rfl (by simp) (by omega) ?_; intro w1 hwin0 hbl)
  have hP := ha.below hbl
  have hgP : ∀ ad, A = some ad → 0 < a.length → ad.block ≠ w.heap.size := fun ad e h => by have := ha.lt ad e h; omega
  have HgP := Lib.hid hgP
  clear hgP
  generalize hgw : w.heap.size = g at *
  have HGW := Lib.hid hgw
  clear hgw
  go_loopw [15] (fun iv wr => ∃ (k : Nat) (l : List Int), k ≤ a.length ∧ iv = .int .i64 k ∧ Hid (l.length = a.length + 1) ∧ Hid (Num.W l) ∧ Win wr g (a.length + 1) 0 l ∧ Upd w1 wr g 0 (a.length + 1) ∧
      Hid (Num.val l = Num.val (a.take k) * 2 ^ n)) (fun iv _ => a.length - (intOf iv).toNat)
  case atStart => exact ⟨0, List.replicate (a.length + 1) 0, by omega, rfl, Lib.hid (by simp), Lib.hid (Num.W_replicate _), hwin0, Upd.refl _ _ _ _, Lib.hid (by simp [Num.val, Num.val_replicate])⟩
  case round =>
    obtain ⟨k, l, hk, rfl, hll, hWl, hwin, hupd, hinv⟩ := hrel
    by_cases hlt : k < a.length
    · have hs := hP.upd hupd HgP.out
      obtain ⟨pd, rfl, hcp⟩ := hs (by omega)
      have hcx := hcp k hlt
      obtain ⟨hx0, hx1⟩ := Num.at_lt HWa.out k
      clear hcp
      have hkl : k < l.length := by rw [hll.out]; omega
      have hkl2 : k + 1 < l.length := by rw [hll.out]; omega
      have hco := hwin.cell k hkl
      have hco2 := hwin.cell (k + 1) hkl2
      rw [Nat.zero_add] at hco hco2
      have hfo := hwin.free k
      have hfo2 := hwin.free (k + 1)
      obtain ⟨ho0, ho1⟩ := Num.at_lt hWl.out k
      generalize hxx : Num.at_ a k = x at *
      generalize hoo : Num.at_ l k = o at *
      have HX := Lib.hid hxx
      have HO := Lib.hid hoo
      have hvl : Num.val l < 4294967296 ^ k * 2 ^ n := by
        rw [hinv.out]; exact Nat.mul_lt_mul_of_pos_right (Num.val_take_lt HWa.out k) (Nat.pow_pos (by omega))
      have hos : o.toNat < 2 ^ n := by rw [← hoo]; exact at_small hWl.out hvl
      have hz : Hid (Num.at_ l (k + 1) = 0) := Lib.hid (at_zero hWl.out (by
        have hp : (2 : Nat) ^ n ≤ 2 ^ 32 := Nat.pow_le_pow_right (by omega) (by omega)
        have := Nat.mul_le_mul_left (4294967296 ^ k) hp
        rw [Nat.pow_succ]
        omega))
      obtain ⟨lo, hi, e1, e2, hlo0, hlo1, hhi0, hhi1, hsum⟩ := up_step x o n hn hx0 hx1 ho0 hos
      have HS := Lib.hid hsum
      have E1 := Lib.hid e1
      have E2 := Lib.hid e2
      clear hxx hoo hvl hos hsum e1 e2
      go_wp2
      go_roundw
      case rel =>
        have hw2 := (hwin.set_ k lo hkl).set_ (k + 1) hi (by rw [List.length_set]; exact hkl2)
        have hu2 := (hupd.set_ k (.int .u32 lo) (show k < a.length + 1 by omega)).set_ (k + 1) (.int .u32 hi) (show k + 1 < a.length + 1 by omega)
        rw [Nat.zero_add, Nat.zero_add] at hw2 hu2
        rw [E1.out, E2.out]
        exact ⟨k + 1, (l.set k lo).set (k + 1) hi, by omega, by go_num, Lib.hid (by rw [List.length_set, List.length_set]; exact hll.out), Lib.hid (Num.W_set (Num.W_set hWl.out _ (by omega) (by omega)) _ (by omega) (by omega)), hw2, hu2,
          Lib.hid (up_inv hinv.out hkl hkl2 HX.out HO.out hz.out HS.out)⟩
      case measure => simp [intOf] <;> omega
    · obtain rfl : k = a.length := by omega
      have hfin : Hid (Num.val l = Num.val a * 2 ^ n) := Lib.hid (by have := hinv.out; rw [List.take_of_length_le (Nat.le_refl _)] at this; exact this)
      go_wp2
      go_ret
      exact ⟨g, l, rfl, hll.out, hWl.out, hfin.out, Nat.le_of_eq HGW.out, hwin, by rw [HGW.out]; exact hbl.trans (hupd.below (Nat.le_refl g))⟩
end Go.Proofs.Ytfmhfgjpbkmneaa
namespace Go.Proofs.Ytfmhfgjpbkmneaa
open Go.RowKit
set_option linter.unusedVariables false
set_option linter.unusedSimpArgs false
theorem down_alg {x y v P Q B : Nat} (hB : B = P * Q) (hP : 0 < P) (hx : x < B) (hy : v % P = y % P) :
    (x + B * v) / P = ((x + y * B) / P) % B + B * (v / P) := by
  subst hB
  have hQ : 0 < Q := by rcases Nat.eq_zero_or_pos Q with h | h
                        · rw [h] at hx; simp at hx
                        · exact h
  have h1 : (x + P * Q * v) / P = x / P + Q * v := by rw [Nat.mul_assoc, Nat.add_mul_div_left _ _ hP]
  have h2 : (x + y * (P * Q)) / P = x / P + Q * y := by rw [show y * (P * Q) = P * (Q * y) by grind, Nat.add_mul_div_left _ _ hP]
  have h3 : x / P < Q := Nat.div_lt_of_lt_mul hx
  have h4 : v = v % P + P * (v / P) := (Nat.mod_add_div v P).symm
  have h5 : y = y % P + P * (y / P) := (Nat.mod_add_div y P).symm
  have h6 : y % P < P := Nat.mod_lt _ hP
  have h7 : x / P + Q * y = (x / P + Q * (y % P)) + P * Q * (y / P) := by conv => lhs; rw [h5]
                                                                          grind
  have h8 : x / P + Q * (y % P) < P * Q := by
    have : Q * (y % P + 1) ≤ Q * P := Nat.mul_le_mul_left _ h6
    rw [Nat.mul_comm P Q]
    grind
  rw [h1, h2, h7, Nat.add_mul_mod_self_left, Nat.mod_eq_of_lt h8, ← hy]
  conv => lhs; rw [h4]
  grind
theorem down_step (x y : Int) (n : Nat) (hn : n < 32) (hx : 0 ≤ x) (hx1 : x < 4294967296) (hy : 0 ≤ y) (hy1 : y < 4294967296) :
    ∃ r : Int, Go.bits .or .u64 x (y * 4294967296) / 2 ^ n % 4294967296 = r ∧ 0 ≤ r ∧ r < 4294967296 ∧ r.toNat = ((x.toNat + y.toNat * 4294967296) / 2 ^ n) % 4294967296 := by
  have h1 := (or64 x.toNat (y * 4294967296).toNat 32 y.toNat (by omega) (by omega) (by omega) (by omega)).1
  rw [Int.toNat_of_nonneg hx, Int.toNat_of_nonneg (by omega)] at h1
  have h2 : x.toNat + (y * 4294967296).toNat = x.toNat + y.toNat * 4294967296 := by omega
  rw [h1, h2]
  have h3 : ((2 : Int) ^ n) = ((2 ^ n : Nat) : Int) := by rw [Int.natCast_pow]; rfl
  rw [h3, ← Int.natCast_ediv]
  generalize (x.toNat + y.toNat * 4294967296) / 2 ^ n = t
  exact ⟨_, rfl, by omega, by omega, by omega⟩
theorem down_step0 (x : Int) (n : Nat) (hx : 0 ≤ x) (hx1 : x < 4294967296) :
    ∃ r : Int, x / 2 ^ n % 4294967296 = r ∧ 0 ≤ r ∧ r < 4294967296 ∧ r.toNat = ((x.toNat + 0 * 4294967296) / 2 ^ n) % 4294967296 := by
  obtain ⟨X, rfl⟩ := Int.eq_ofNat_of_zero_le hx
  have h3 : ((2 : Int) ^ n) = ((2 ^ n : Nat) : Int) := by rw [Int.natCast_pow]; rfl
  rw [h3, ← Int.natCast_ediv, Int.toNat_natCast, Nat.zero_mul, Nat.add_zero]
  generalize X / 2 ^ n = t
  exact ⟨_, rfl, by omega, by omega, by omega⟩
theorem down_inv {l a : List Int} {k n y : Nat} {x r : Int} {V : Nat} (hn : n < 32) (hi : Num.val (l.take k) + 4294967296 ^ k * (Num.val (a.drop k) / 2 ^ n) = V) (hl : k < l.length) (hx : Num.at_ a k = x) (hx1 : x < 4294967296)
    (hy : (Num.at_ a (k + 1)).toNat = y) (hr : r.toNat = ((x.toNat + y * 4294967296) / 2 ^ n) % 4294967296) :
    Num.val ((l.set k r).take (k + 1)) + 4294967296 ^ (k + 1) * (Num.val (a.drop (k + 1)) / 2 ^ n) = V := by
  rw [Num.val_drop a k, hx] at hi
  have hmod : Num.val (a.drop (k + 1)) % 2 ^ n = y % 2 ^ n := by
    rw [Num.val_drop, hy]
    conv => lhs; rw [pow_split hn, Nat.mul_assoc]
    exact Nat.add_mul_mod_self_left _ _ _
  have h1 := down_alg (x := x.toNat) (pow_split hn) (Nat.pow_pos (by omega)) (by omega) hmod
  rw [set_take_val r hl, hr, Nat.pow_succ, ← hi, h1, Nat.mul_add, Nat.mul_assoc]
  omega
theorem nat_down (g c : Nat) (a : List Int) (n : Nat) (w : World) (ha : Win w g c 0 a) (hc : c ≤ 9223372036854775807) (hWa : Num.W a) (hn : n < 32) :
    Calls Try.prog 100 #[.slice (some ⟨g, 0, none⟩) a.length c, .int .u64 n] w fun e w' => ∃ l, e = .returned (.slice (some ⟨g, 0, none⟩) (Num.words (Num.val l)).length c) ∧ l.length = a.length ∧ Num.W l ∧ Num.val l = Num.val a / 2 ^ n ∧ Win w' g c 0 l ∧ Upd w w' g 0 a.length := by
  have hla : a.length ≤ c := by obtain ⟨cur, _, h1, h2, _⟩ := ha; omega
  have HWa := Lib.hid hWa
  clear hWa
  have hn0 : (0 : Int) ≤ n := by omega
  have hn1 : (n : Int) < 32 := by omega
  go_enter Try.func100, Try.ntmps100
  go_wp2
  go_loopw [9] (fun iv wr => ∃ (k : Nat) (l : List Int), k ≤ a.length ∧ iv = .int .i64 k ∧ Hid (l.length = a.length) ∧ Hid (Num.W l) ∧ Win wr g c 0 l ∧ Upd w wr g 0 a.length ∧ Hid (l.drop k = a.drop k) ∧
      Hid (Num.val (l.take k) + 4294967296 ^ k * (Num.val (a.drop k) / 2 ^ n) = Num.val a / 2 ^ n)) (fun iv _ => a.length - (intOf iv).toNat)
  case atStart => exact ⟨0, a, by omega, rfl, Lib.hid rfl, HWa, ha, Upd.refl _ _ _ _, Lib.hid rfl, Lib.hid (by simp [Num.val])⟩
  case round =>
    obtain ⟨k, l, hk, rfl, hll, hWl, hwin, hupd, hdr, hinv⟩ := hrel
    by_cases hlt : k < a.length
    · have hkl : k < l.length := by rw [hll.out]; exact hlt
      have hco := hwin.cell k hkl
      rw [Nat.zero_add] at hco
      have hfo := hwin.free k
      obtain ⟨hx0, hx1⟩ := Num.at_lt hWl.out k
      have hds := drop_step hdr.out hkl hlt
      generalize hxx : Num.at_ l k = x at *
      have HX := Lib.hid hds.1.symm
      have HD := Lib.hid hds.2
      clear hxx hds
      by_cases hk1 : k + 1 < a.length
      · have hkl1 : k + 1 < l.length := by rw [hll.out]; exact hk1
        have hco1 := hwin.cell (k + 1) hkl1
        rw [Nat.zero_add] at hco1
        obtain ⟨hy0, hy1⟩ := Num.at_lt hWl.out (k + 1)
        have hds2 := drop_step HD.out hkl1 hk1
        generalize hyy : Num.at_ l (k + 1) = y at *
        have HY := Lib.hid hds2.1.symm
        clear hyy hds2
        obtain ⟨r, e1, hr0, hr1, hre⟩ := down_step x y n hn hx0 hx1 hy0 hy1
        have E1 := Lib.hid e1
        have HR := Lib.hid hre
        clear e1 hre
        go_wp2
        go_roundw
        case rel =>
          have hw2 := hwin.set_ k r hkl
          have hu2 := hupd.set_ k (.int .u32 r) hlt
          rw [Nat.zero_add] at hw2 hu2
          rw [E1.out]
          exact ⟨k + 1, l.set k r, by omega, by go_num, Lib.hid (by rw [List.length_set]; exact hll.out), Lib.hid (Num.W_set hWl.out _ (by omega) (by omega)), hw2, hu2, Lib.hid (by rw [Num.drop_set]; exact HD.out),
            Lib.hid (down_inv hn hinv.out hkl HX.out hx1 (by rw [HY.out]) HR.out)⟩
        case measure => simp [intOf] <;> omega
      · have HY : Hid (Num.at_ a (k + 1) = 0) := Lib.hid (Num.at_out (by omega))
        obtain ⟨r, e1, hr0, hr1, hre⟩ := down_step0 x n hx0 hx1
        have E1 := Lib.hid e1
        have HR := Lib.hid hre
        clear e1 hre
        go_wp2
        go_roundw
        case rel =>
          have hw2 := hwin.set_ k r hkl
          have hu2 := hupd.set_ k (.int .u32 r) hlt
          rw [Nat.zero_add] at hw2 hu2
          rw [E1.out]
          exact ⟨k + 1, l.set k r, by omega, by go_num, Lib.hid (by rw [List.length_set]; exact hll.out), Lib.hid (Num.W_set hWl.out _ (by omega) (by omega)), hw2, hu2, Lib.hid (by rw [Num.drop_set]; exact HD.out),
            Lib.hid (down_inv hn hinv.out hkl HX.out hx1 (by rw [HY.out]; rfl) HR.out)⟩
        case measure => simp [intOf] <;> omega
    · obtain rfl : k = a.length := by omega
      have hfin : Hid (Num.val l = Num.val a / 2 ^ n) := Lib.hid (by
        have h1 := hinv.out
        rw [List.take_of_length_le (by rw [hll.out]; exact Nat.le_refl _), List.drop_of_length_le (Nat.le_refl a.length)] at h1
        simpa [Num.val] using h1)
      have HT := Lib.hid (nat_cut (some ⟨g, 0, none⟩) c l _ hwin.sl (by rw [hll.out]; exact hla) (by rw [hll.out]; omega) hWl.out)
      rw [hll.out] at HT
      go_wp2_with fail
      refine HT.out.mono ?_
      rintro e w2 ⟨rfl, rfl⟩
      go_wp2
      go_ret
      exact ⟨l, rfl, hll.out, hWl.out, hfin.out, hwin, hupd⟩
end Go.Proofs.Ytfmhfgjpbkmneaa
namespace Go.Proofs.Ytfmhfgjpbkmneaa
open Go.RowKit
set_option linter.unusedVariables false
set_option linter.unusedSimpArgs false
/-- what is asked of the first words, and of what is told -/
structure Gs (b u : List Int) (v1 v2 u0 u1 u2 : Int) : Prop where
  n : 2 ≤ b.length
  m : u.length = b.length + 1
  Wb : Num.W b
  Wu : Num.W u
  e1 : Num.at_ b (b.length - 1) = v1
  e2 : Num.at_ b (b.length - 2) = v2
  f0 : Num.at_ u b.length = u0
  f1 : Num.at_ u (b.length - 1) = u1
  f2 : Num.at_ u (b.length - 2) = u2
theorem gs_top {b u : List Int} {v1 v2 u0 u1 u2 : Int} (h : Gs b u v1 v2 u0 u1 u2) :
    let P := 4294967296 ^ (b.length - 2)
    (v1.toNat * 4294967296 + v2.toNat) * P ≤ Num.val b ∧ Num.val b < (v1.toNat * 4294967296 + v2.toNat + 1) * P ∧
    ((u0.toNat * 4294967296 + u1.toNat) * 4294967296 + u2.toNat) * P ≤ Num.val u ∧ Num.val u < ((u0.toNat * 4294967296 + u1.toNat) * 4294967296 + u2.toNat + 1) * P := by
  obtain ⟨hn, hm, Wb, Wu, e1, e2, f0, f1, f2⟩ := h
  intro P
  obtain ⟨k, hk⟩ : ∃ k, b.length = k + 2 := ⟨b.length - 2, by omega⟩
  have hb := Num.val_split b k
  have hu := Num.val_split u k
  have hb2 := Num.val_take_lt Wb k
  have hu2 := Num.val_take_lt Wu k
  rw [Num.val_drop b k, Num.val_drop b (k + 1), List.drop_of_length_le (show b.length ≤ k + 1 + 1 by omega)] at hb
  rw [Num.val_drop u k, Num.val_drop u (k + 1), Num.val_drop u (k + 1 + 1), List.drop_of_length_le (show u.length ≤ k + 1 + 1 + 1 by omega)] at hu
  have hP : P = 4294967296 ^ k := by show 4294967296 ^ (b.length - 2) = _; rw [hk]; rfl
  rw [hk] at e1 e2 f0 f1 f2
  simp only [Nat.add_sub_cancel, show k + 2 - 1 = k + 1 by omega] at e1 e2 f0 f1 f2
  rw [e1, e2] at hb
  rw [show k + 1 + 1 = k + 2 by omega, f0, f1, f2] at hu
  rw [hP]
  simp only [Num.val, Nat.mul_zero, Nat.add_zero] at hb hu
  generalize 4294967296 ^ k = Q at *
  generalize Num.val (b.take k) = x at *
  generalize Num.val (u.take k) = y at *
  rw [hb, hu]
  generalize v1.toNat = a1
  generalize v2.toNat = a2
  generalize u0.toNat = c0
  generalize u1.toNat = c1
  generalize u2.toNat = c2
  refine ⟨by grind, ?_, by grind, ?_⟩
  · have : Q * (a2 + 4294967296 * a1) + x < Q * (a2 + 4294967296 * a1) + Q := by omega
    grind
  · have : Q * (c2 + 4294967296 * (c1 + 4294967296 * c0)) + y < Q * (c2 + 4294967296 * (c1 + 4294967296 * c0)) + Q := by omega
    grind
theorem guess_start (u0 u1 v1 : Int) (h0 : 0 ≤ u0) (h1 : u0 ≤ v1) (h2 : 0 ≤ u1) (h3 : u1 < 4294967296) (h4 : 2147483648 ≤ v1) (h5 : v1 < 4294967296) :
    ∃ t q r : Int, Go.bits .or .u64 (u0 * 4294967296) u1 = t ∧ IntKind.u64.wrap (t.tdiv v1) = q ∧ t % v1 = r ∧ 0 ≤ t ∧ t = u0 * 4294967296 + u1 ∧ 0 ≤ q ∧ q ≤ 4294967297 ∧ 0 ≤ r ∧ r < v1 ∧ q * v1 + r = t := by
  have e1 := (or64 u1.toNat (u0 * 4294967296).toNat 32 u0.toNat (by omega) (by omega) (by omega) (by omega)).2
  rw [Int.toNat_of_nonneg h2, Int.toNat_of_nonneg (by omega)] at e1
  have e2 : ((u1.toNat + (u0 * 4294967296).toNat : Nat) : Int) = u0 * 4294967296 + u1 := by omega
  rw [e2] at e1
  have k3 := Int.emod_nonneg (u0 * 4294967296 + u1) (show v1 ≠ 0 by omega)
  have k4 := Int.emod_lt_of_pos (u0 * 4294967296 + u1) (show 0 < v1 by omega)
  have k5 := Int.mul_ediv_add_emod (u0 * 4294967296 + u1) v1
  have k6 : (u0 * 4294967296 + u1) / v1 < 4294967298 := Int.ediv_lt_of_lt_mul (by omega) (by omega)
  have k7 : 0 ≤ (u0 * 4294967296 + u1) / v1 := Int.ediv_nonneg (by omega) (by omega)
  exact ⟨_, (u0 * 4294967296 + u1) / v1, _, e1, by rw [Int.tdiv_eq_ediv_of_nonneg (by omega), wrap_u64]; omega, rfl, by omega, rfl, k7, by omega, k3, k4, by rw [Int.mul_comm]; exact k5⟩
theorem guess_test (q r v2 u2 : Int) (hq : 0 ≤ q) (hq1 : q < 4294967296) (hr : 0 ≤ r) (hr1 : r < 4294967296) (hv : 0 ≤ v2) (hv1 : v2 < 4294967296) (hu : 0 ≤ u2) (hu1 : u2 < 4294967296) :
    ∃ p s : Int, IntKind.u64.wrap (q * v2) = p ∧ IntKind.u64.wrap (r * 4294967296) = r * 4294967296 ∧ Go.bits .or .u64 (r * 4294967296) u2 = s ∧ p = q * v2 ∧ s = r * 4294967296 + u2 := by
  have e1 := (or64 u2.toNat (r * 4294967296).toNat 32 r.toNat (by omega) (by omega) (by omega) (by omega)).2
  rw [Int.toNat_of_nonneg hu, Int.toNat_of_nonneg (by omega)] at e1
  have e2 : ((u2.toNat + (r * 4294967296).toNat : Nat) : Int) = r * 4294967296 + u2 := by omega
  rw [e2] at e1
  obtain ⟨k0, k1⟩ := mul_bound (o := 0) (cy := 0) hq hq1 hv hv1 (by omega) (by omega) (by omega) (by omega)
  refine ⟨q * v2, r * 4294967296 + u2, by rw [wrap_u64]; omega, by rw [wrap_u64]; omega, e1, rfl, rfl⟩
theorem guess_nat {q r v1 v2 t : Int} (hq : 0 ≤ q) (hr : 0 ≤ r) (hv1 : 0 ≤ v1) (hv2 : 0 ≤ v2) (ht : 0 ≤ t) (hqr : q * v1 + r = t) : q.toNat * v1.toNat + r.toNat = t.toNat ∧ (q * v2).toNat = q.toNat * v2.toNat := by
  have h1 := Int.toNat_mul hq hv1
  have h2 := Int.mul_nonneg hq hv1
  refine ⟨by rw [← h1]; omega, Int.toNat_mul hq hv2⟩
theorem guess_dec {b u : List Int} {v1 v2 u0 u1 u2 q r t : Int} (h : Gs b u v1 v2 u0 u1 u2) (hq : 0 ≤ q) (hr : 0 ≤ r) (hv1 : 0 ≤ v1) (hv2 : 0 ≤ v2) (hu0 : 0 ≤ u0) (hu1 : 0 ≤ u1) (hu2 : 0 ≤ u2) (ht : t = u0 * 4294967296 + u1) (hqr : q * v1 + r = t) (hgt : r * 4294967296 + u2 < q * v2) :
    Num.val u < q.toNat * Num.val b := by
  obtain ⟨g1, g2, g3, g4⟩ := gs_top h
  obtain ⟨n1, n2⟩ := guess_nat hq hr hv1 hv2 (by omega) hqr
  have hT : t.toNat = u0.toNat * 4294967296 + u1.toNat := by omega
  refine Num.guess_high (top := t.toNat) (by rw [hT]; exact g4) g1 ?_
  have h3 : r.toNat * 4294967296 + u2.toNat < q.toNat * v2.toNat := by rw [← n2]; omega
  rw [← n1]
  generalize q.toNat = Q at *
  generalize v1.toNat = X at *
  generalize v2.toNat = Y at *
  generalize r.toNat = R at *
  have h6 : Q * (X * 4294967296 + Y) = Q * X * 4294967296 + Q * Y := by grind
  rw [h6]
  generalize Q * X = Z at *
  generalize Q * Y = Z' at *
  rw [Nat.add_mul, Nat.add_assoc]
  exact Nat.add_lt_add_left h3 _
theorem guess_exit {b u : List Int} {v1 v2 u0 u1 u2 q r t : Int} (h : Gs b u v1 v2 u0 u1 u2) (hq : 0 ≤ q) (hq1 : q < 4294967296) (hr : 0 ≤ r) (hv1 : 2147483648 ≤ v1) (hv2 : 0 ≤ v2) (hu0 : 0 ≤ u0) (hu1 : 0 ≤ u1) (hu2 : 0 ≤ u2) (ht : t = u0 * 4294967296 + u1) (hqr : q * v1 + r = t) (hle : q * v2 ≤ r * 4294967296 + u2) :
    (q.toNat - 1) * Num.val b ≤ Num.val u := by
  rcases Int.lt_or_le 0 q with h0 | h0
  · obtain ⟨g1, g2, g3, g4⟩ := gs_top h
    obtain ⟨n1, n2⟩ := guess_nat hq hr (by omega) hv2 (by omega) hqr
    have hT : t.toNat = u0.toNat * 4294967296 + u1.toNat := by omega
    refine Num.guess_low (top := t.toNat) (w := u2.toNat) (by rw [hT]; exact g3) g2 (by omega) (by omega) ?_
    have h3 : q.toNat * v2.toNat ≤ r.toNat * 4294967296 + u2.toNat := by rw [← n2]; omega
    rw [← n1]
    generalize q.toNat = Q at *
    generalize v1.toNat = X at *
    generalize v2.toNat = Y at *
    generalize r.toNat = R at *
    have h6 : Q * (X * 4294967296 + Y) = Q * X * 4294967296 + Q * Y := by grind
    rw [h6]
    generalize Q * X = Z at *
    generalize Q * Y = Z' at *
    omega
  · have : q.toNat = 0 := by omega
    rw [this]; simp
theorem guess_first {b u : List Int} {v1 v2 u0 u1 u2 q r t : Int} (h : Gs b u v1 v2 u0 u1 u2) (hq : 0 ≤ q) (hr : 0 ≤ r) (hr1 : r < v1) (hv1 : 0 ≤ v1) (hv2 : 0 ≤ v2) (hu0 : 0 ≤ u0) (hu1 : 0 ≤ u1) (hu2 : 0 ≤ u2) (hu21 : u2 < 4294967296) (ht : t = u0 * 4294967296 + u1) (hqr : q * v1 + r = t) :
    Num.val u < (q.toNat + 1) * Num.val b := by
  obtain ⟨g1, g2, g3, g4⟩ := gs_top h
  obtain ⟨n1, n2⟩ := guess_nat hq hr hv1 hv2 (by omega) hqr
  have hT : t.toNat = u0.toNat * 4294967296 + u1.toNat := by omega
  refine Num.guess_high (top := t.toNat) (w := u2.toNat) (by rw [hT]; exact g4) g1 ?_
  have h4 : r.toNat + 1 ≤ v1.toNat := by omega
  have h5 : u2.toNat < 4294967296 := by omega
  rw [← n1]
  generalize q.toNat = Q at *
  generalize v1.toNat = X at *
  generalize v2.toNat = Y at *
  generalize r.toNat = R at *
  have h6 : (Q + 1) * (X * 4294967296 + Y) = Q * X * 4294967296 + X * 4294967296 + (Q + 1) * Y := by grind
  rw [h6]
  have h7 : 0 ≤ (Q + 1) * Y := Nat.zero_le _
  omega
theorem nat_guess (U V : Option Addr) (cu cv : Nat) (b u : List Int) (v1 v2 u0 u1 u2 : Int) (w : World) (hu : Sl w U u) (hv : Sl w V b) (hg : Gs b u v1 v2 u0 u1 u2) (hb : b.length ≤ 8192) (hv1 : 2147483648 ≤ v1) (huv : u0 ≤ v1) (hUV : Num.val u < 4294967296 * Num.val b) :
    Calls Try.prog 97 #[.slice U u.length cu, .slice V b.length cv] w fun e w' => ∃ q : Int, e = .returned (.int .u64 q) ∧ 0 ≤ q ∧ q < 4294967296 ∧ Num.val u < (q.toNat + 1) * Num.val b ∧ (q.toNat - 1) * Num.val b ≤ Num.val u ∧ ∃ n, w' = w.drewN n := by
  have HG := Lib.hid hg
  have HUV := Lib.hid hUV
  clear hUV
  have hg' := hg
  obtain ⟨hn, hm, Wb, Wu, e1, e2, f0, f1, f2⟩ := hg
  obtain ⟨ud, rfl, hcu⟩ := hu (by omega)
  obtain ⟨vd, rfl, hcv⟩ := hv (by omega)
  have c1 := hcv (b.length - 1) (by omega)
  have c2 := hcv (b.length - 2) (by omega)
  have d0 := hcu b.length (by omega)
  have d1 := hcu (b.length - 1) (by omega)
  have d2 := hcu (b.length - 2) (by omega)
  have hv1' := Num.at_lt Wb (b.length - 1)
  obtain ⟨hv20, hv21⟩ := Num.at_lt Wb (b.length - 2)
  have hu0' := Num.at_lt Wu b.length
  obtain ⟨hu10, hu11⟩ := Num.at_lt Wu (b.length - 1)
  obtain ⟨hu20, hu21⟩ := Num.at_lt Wu (b.length - 2)
  rw [e1] at c1 hv1'
  rw [e2] at c2 hv20 hv21
  rw [f0] at d0 hu0'
  rw [f1] at d1 hu10 hu11
  rw [f2] at d2 hu20 hu21
  obtain ⟨hv10, hv11⟩ := hv1'
  obtain ⟨hu00, hu01⟩ := hu0'
  rw [hm]
  clear hu hv hcu hcv e1 e2 f0 f1 f2 Wb Wu hm
  obtain ⟨t, q0, r0, k1, k2, k3, ht0, ht, hq0, hq1, hr0, hr1, hqr⟩ := guess_start u0 u1 v1 hu00 huv hu10 hu11 hv1 hv11
  have HT := Lib.hid ht
  have htb : Hid (t ≤ v1 * 4294967296 + 4294967295) := Lib.hid (by omega)
  have HQR := Lib.hid hqr
  have HK1 := Lib.hid k1
  have i1 : IntKind.i64.wrap ((b.length : Int) - 1) = (b.length : Int) - 1 := IntWalk.i64_in _ (by omega)
  have i2 : IntKind.i64.wrap ((b.length : Int) - 2) = (b.length : Int) - 2 := IntWalk.i64_in _ (by omega)
  have j1 : ((b.length : Int) - 1).toNat = b.length - 1 := by omega
  have j2 : ((b.length : Int) - 2).toNat = b.length - 2 := by omega
  have l1 : (0 : Int) ≤ (b.length : Int) - 1 := by omega
  have l2 : (0 : Int) ≤ (b.length : Int) - 2 := by omega
  have s1 : IntKind.u64.wrap (u0 * 4294967296) = u0 * 4294967296 := by rw [wrap_u64]; omega
  have HF := Lib.hid (guess_first hg' hq0 hr0 hr1 (by omega) hv20 hu00 hu10 hu20 hu21 ht hqr)
  clear ht hqr hg'
  go_enter Try.func97, Try.ntmps97
  go_wp2
  go_quiet (fail)
  go_wp2
  go_quiet (fail)
  go_wp2
  go_loopw [7, 8] (fun qv rv wr => ∃ q r : Int, qv = .int .u64 q ∧ rv = .int .u64 r ∧ 0 ≤ q ∧ q ≤ 4294967297 ∧ 0 ≤ r ∧ r < 4294967296 ∧ Hid (q * v1 + r = t) ∧ Hid (Num.val u < (q.toNat + 1) * Num.val b) ∧ ∃ nq, wr = w.drewN nq) (fun qv _ _ => (intOf qv).toNat)
  case atStart => exact ⟨q0, r0, rfl, congrArg (Value.int .u64) k3, hq0, hq1, hr0, by omega, HQR, HF, by first | exact ⟨_, rfl⟩ | (simp only [World.drewN_drewN]; exact ⟨_, rfl⟩)⟩
  case round =>
    clear k2 k3 k1
    obtain ⟨q, r, rfl, rfl, hqa, hqb, hra, hrb, hqr, hUq, nq, rfl⟩ := hrel
    by_cases hbig : 4294967296 ≤ q
    · have g1 : (q / 4294967296 != 0) = true := by rw [bne_iff_ne]; omega
      have hUq' : Hid (Num.val u < q.toNat * Num.val b) := Lib.hid (Nat.lt_of_lt_of_le HUV.out (Nat.mul_le_mul_right _ (by omega)))
      by_cases hbr : 4294967296 ≤ r + v1
      · have g2 : ((r + v1) / 4294967296 != 0) = true := by rw [bne_iff_ne]; omega
        have hql : q - 1 < 4294967296 := by
            have h3 := hqr.out
            rcases Int.lt_or_le q 4294967297 with h | h
            · omega
            · obtain rfl : q = 4294967297 := by omega
              have h4 := htb.out
              omega
        have hfin : Hid ((((q - 1).toNat) - 1) * Num.val b ≤ Num.val u) := Lib.hid (guess_exit (q := q - 1) (r := r + v1) HG.out (by omega) hql (by omega) hv1 hv20 hu00 hu10 hu20 HT.out (by rw [← hqr.out, Int.sub_mul]; omega) (by
          obtain ⟨y0, y1⟩ := mul_bound (x := q - 1) (y := v2) (o := 0) (cy := 0) (by omega) hql hv20 hv21 (by omega) (by omega) (by omega) (by omega)
          omega))
        have hfin2 : Hid (Num.val u < ((q - 1).toNat + 1) * Num.val b) := Lib.hid (by rw [show (q - 1).toNat + 1 = q.toNat by omega]; exact hUq'.out)
        go_wp2
        go_quiet (fail)
        go_wp2
        go_ret
        exact ⟨q - 1, rfl, by omega, hql, hfin2.out, hfin.out, by first | exact ⟨_, rfl⟩ | (simp only [World.drewN_drewN]; exact ⟨_, rfl⟩)⟩
      · have g2 : ((r + v1) / 4294967296 != 0) = false := by rw [bne_eq_false_iff_eq]; omega
        go_wp2
        go_quiet (fail)
        go_wp2
        go_roundw
        case rel => exact ⟨q - 1, r + v1, rfl, rfl, by omega, by omega, by omega, by omega, Lib.hid (by rw [← hqr.out, Int.sub_mul]; omega), Lib.hid (by rw [show (q - 1).toNat + 1 = q.toNat by omega]; exact hUq'.out), by first | exact ⟨_, rfl⟩ | (simp only [World.drewN_drewN]; exact ⟨_, rfl⟩)⟩
        case measure => simp [intOf] <;> omega
    · have g1 : (q / 4294967296 != 0) = false := by rw [bne_eq_false_iff_eq]; omega
      obtain ⟨p, s, m1, m2, m3, hp, hs⟩ := guess_test q r v2 u2 hqa (by omega) hra hrb hv20 hv21 hu20 hu21
      have HP := Lib.hid hp
      have HS := Lib.hid hs
      clear hp hs
      by_cases hgt : s < p
      · have hUq' : Hid (Num.val u < q.toNat * Num.val b) := Lib.hid (guess_dec HG.out hqa hra (by omega) hv20 hu00 hu10 hu20 HT.out hqr.out (by rw [← HP.out, ← HS.out]; exact hgt))
        have hq1 : 0 < q := by
          rcases Int.lt_or_le 0 q with h | h
          · exact h
          · have := hUq'.out
            rw [show q.toNat = 0 by omega] at this
            omega
        by_cases hbr : 4294967296 ≤ r + v1
        · have g2 : ((r + v1) / 4294967296 != 0) = true := by rw [bne_iff_ne]; omega
          have hql : q - 1 < 4294967296 := by omega
          have hfin : Hid ((((q - 1).toNat) - 1) * Num.val b ≤ Num.val u) := Lib.hid (guess_exit (q := q - 1) (r := r + v1) HG.out (by omega) hql (by omega) hv1 hv20 hu00 hu10 hu20 HT.out (by rw [← hqr.out, Int.sub_mul]; omega) (by
            obtain ⟨y0, y1⟩ := mul_bound (x := q - 1) (y := v2) (o := 0) (cy := 0) (by omega) hql hv20 hv21 (by omega) (by omega) (by omega) (by omega)
            omega))
          have hfin2 : Hid (Num.val u < ((q - 1).toNat + 1) * Num.val b) := Lib.hid (by rw [show (q - 1).toNat + 1 = q.toNat by omega]; exact hUq'.out)
          go_wp2
          go_quiet (fail)
          go_wp2
          go_ret
          exact ⟨q - 1, rfl, by omega, hql, hfin2.out, hfin.out, by first | exact ⟨_, rfl⟩ | (simp only [World.drewN_drewN]; exact ⟨_, rfl⟩)⟩
        · have g2 : ((r + v1) / 4294967296 != 0) = false := by rw [bne_eq_false_iff_eq]; omega
          go_wp2
          go_quiet (fail)
          go_wp2
          go_roundw
          case rel => exact ⟨q - 1, r + v1, rfl, rfl, by omega, by omega, by omega, by omega, Lib.hid (by rw [← hqr.out, Int.sub_mul]; omega), Lib.hid (by rw [show (q - 1).toNat + 1 = q.toNat by omega]; exact hUq'.out), by first | exact ⟨_, rfl⟩ | (simp only [World.drewN_drewN]; exact ⟨_, rfl⟩)⟩
          case measure => simp [intOf] <;> omega
      · have hfin : Hid ((q.toNat - 1) * Num.val b ≤ Num.val u) := Lib.hid (guess_exit HG.out hqa (by omega) hra hv1 hv20 hu00 hu10 hu20 HT.out hqr.out (by rw [← HP.out, ← HS.out]; omega))
        go_wp2
        go_quiet (fail)
        go_wp2
        go_ret
        exact ⟨q, rfl, hqa, by omega, hUq.out, hfin.out, by first | exact ⟨_, rfl⟩ | (simp only [World.drewN_drewN]; exact ⟨_, rfl⟩)⟩
end Go.Proofs.Ytfmhfgjpbkmneaa
namespace Go.Proofs.Ytfmhfgjpbkmneaa
open Go.RowKit
set_option linter.unusedVariables false
set_option linter.unusedSimpArgs false
theorem sub_step3 (x y br : Int) (hx : 0 ≤ x ∧ x < 4294967296) (hy : 0 ≤ y ∧ y < 4294967296) (hb : 0 ≤ br ∧ br ≤ 1) :
    ∃ r b' : Int, 0 ≤ r ∧ r < 4294967296 ∧ 0 ≤ b' ∧ b' ≤ 1 ∧ r + y + br = x + 4294967296 * b' ∧ IntKind.u64.wrap (IntKind.u64.wrap (x - y) - br) % 4294967296 = r ∧ IntKind.u64.wrap (IntKind.u64.wrap (x - y) - br) / 9223372036854775808 = b' := by
  simp only [wrap_u64]
  rcases Int.lt_or_le (x - br - y) 0 with h | h
  · exact ⟨x - br - y + 4294967296, 1, by omega, by omega, by omega, by omega, by omega, by omega, by omega⟩
  · exact ⟨x - br - y, 0, by omega, by omega, by omega, by omega, by omega, by omega, by omega⟩
theorem off_alg (vl vb va B P q cy br x y r low cy' br' : Nat) (hi : vl + q * vb = va + P * (cy + br)) (h1 : r + low + br = x + B * br') (h2 : low + B * cy' = cy + q * y) :
    vl + P * r + q * (vb + P * y) = va + P * x + P * B * (cy' + br') := by
  have h3 : P * (r + low + br + (low + B * cy')) = P * (x + B * br' + (cy + q * y)) := by rw [h1, h2]
  have h4 : P * (r + low + br) = P * (x + B * br') := by rw [h1]
  have h5 : P * (low + B * cy') = P * (cy + q * y) := by rw [h2]
  grind
theorem off_step {l a b : List Int} {k : Nat} {q cy br x y r low cy' br' : Int} (hi : Num.val (l.take k) + q.toNat * Num.val (b.take k) = Num.val (a.take k) + 4294967296 ^ k * (cy.toNat + br.toNat)) (hl : k < l.length) (hx : Num.at_ a k = x) (hy : Num.at_ b k = y)
    (p0 : 0 ≤ q) (p1 : 0 ≤ cy) (p2 : 0 ≤ br) (p3 : 0 ≤ x) (p4 : 0 ≤ y) (p5 : 0 ≤ r) (p6 : 0 ≤ low) (p7 : 0 ≤ cy') (p8 : 0 ≤ br') (h1 : r + low + br = x + 4294967296 * br') (h2 : low + 4294967296 * cy' = cy + q * y) :
    Num.val ((l.set k r).take (k + 1)) + q.toNat * Num.val (b.take (k + 1)) = Num.val (a.take (k + 1)) + 4294967296 ^ (k + 1) * (cy'.toNat + br'.toNat) := by
  rw [set_take_val r hl, Num.val_take_succ b, Num.val_take_succ a, hx, hy, Nat.pow_succ]
  have h3 := Int.toNat_mul p0 p4
  have h4 := Int.mul_nonneg p0 p4
  exact off_alg _ _ _ _ _ _ _ _ _ _ _ low.toNat _ _ hi (by omega) (by rw [← h3]; omega)
theorem nat_off (g c o cu cv : Nat) (V : Option Addr) (a b : List Int) (q : Int) (w : World) (ha : Win w g c o a) (hb : Sl w V b) (hne : ∀ ad, V = some ad → 0 < b.length → ad.block ≠ g) (hc : c ≤ 9223372036854775807) (hWa : Num.W a) (hWb : Num.W b)
    (hlen : a.length = b.length + 1) (hq0 : 0 ≤ q) (hq1 : q < 4294967296) :
    Calls Try.prog 98 #[.slice (some ⟨g, o, none⟩) a.length cu, .slice V b.length cv, .int .u64 q] w fun e w' => ∃ (l : List Int) (f : Bool), e = .returned (.bool f) ∧ l.length = a.length ∧ Num.W l ∧ Num.val l + q.toNat * Num.val b = Num.val a + 4294967296 ^ a.length * (if f then 1 else 0) ∧ Win w' g c o l ∧ Upd w w' g o a.length := by
  have hla : o + a.length ≤ c := by obtain ⟨cur, _, h1, h2, _⟩ := ha; omega
  have HNE := Lib.hid hne
  have HWb := Lib.hid hWb
  have HL := Lib.hid hlen
  have hle : b.length < a.length := by omega
  clear hne hWb hlen
  go_enter Try.func98, Try.ntmps98
  go_wp2
  go_loopw [7, 8, 13] (fun cv bv i wr => ∃ (k : Nat) (cy br : Int) (l : List Int), k ≤ a.length ∧ i = .int .i64 k ∧ cv = .int .u64 cy ∧ bv = .int .u64 br ∧ 0 ≤ cy ∧ cy < 4294967296 ∧ 0 ≤ br ∧ br ≤ 1 ∧ Hid (b.length < k → cy = 0) ∧ Hid (l.length = a.length) ∧ Hid (Num.W l) ∧ Win wr g c o l ∧ Upd w wr g o a.length ∧ Hid (l.drop k = a.drop k) ∧
      Hid (Num.val (l.take k) + q.toNat * Num.val (b.take k) = Num.val (a.take k) + 4294967296 ^ k * (cy.toNat + br.toNat))) (fun _ _ i _ => a.length - (intOf i).toNat)
  case atStart => exact ⟨0, 0, 0, a, by omega, rfl, rfl, rfl, by omega, by omega, by omega, by omega, Lib.hid (fun _ => rfl), Lib.hid rfl, Lib.hid hWa, ha, Upd.refl _ _ _ _, Lib.hid rfl, Lib.hid (by simp [Num.val])⟩
  case round =>
    obtain ⟨k, cy, br, l, hk, rfl, rfl, rfl, hc0, hc1, hb0, hb1, hcz, hll, hWl, hwin, hupd, hdr, hinv⟩ := hrel
    by_cases hlt : k < a.length
    · have hkl : k < l.length := by rw [hll.out]; exact hlt
      have hcx := hwin.cell k hkl
      have hfx := hwin.free (o + k)
      have hx := Num.at_lt hWl.out k
      have hds := drop_step hdr.out hkl hlt
      generalize hxx : Num.at_ l k = x at *
      have HX := Lib.hid hds.1.symm
      have HD := Lib.hid hds.2
      obtain ⟨hx0, hx1⟩ := hx
      clear hxx hds
      by_cases hkb : k < b.length
      · have hs := hb.upd hupd HNE.out
        obtain ⟨bd, rfl, hcb⟩ := hs (by omega)
        have hcy := hcb k hkb
        obtain ⟨hy0, hy1⟩ := Num.at_lt HWb.out k
        clear hcb
        generalize hyy : Num.at_ b k = y at *
        have HY := Lib.hid hyy
        clear hyy
        obtain ⟨hqy0, hqy1⟩ := mul_bound (o := 0) (cy := 0) hq0 hq1 hy0 hy1 (by omega) (by omega) (by omega) (by omega)
        obtain ⟨r, b', hr0, hr1, hb0', hb1', hrb, e1, e2⟩ := sub_step3 x ((cy + q * y) % 4294967296) br ⟨hx0, hx1⟩ (by omega) ⟨hb0, hb1⟩
        have HR := Lib.hid hrb
        have E1 := Lib.hid e1
        have E2 := Lib.hid e2
        clear hrb e1 e2
        go_wp2
        go_roundw
        case rel =>
          have hw2 := hwin.set_ k r hkl
          have hu2 := hupd.set_ k (.int .u32 r) hlt
          rw [E1.out]
          exact ⟨k + 1, (cy + q * y) / 4294967296, b', l.set k r, by omega, by go_num, rfl, congrArg (Value.int .u64) E2.out, by omega, by omega, by omega, by omega, Lib.hid (by omega), Lib.hid (by rw [List.length_set]; exact hll.out), Lib.hid (Num.W_set hWl.out k (by omega) (by omega)), hw2, hu2,
            Lib.hid (by rw [Num.drop_set]; exact HD.out), Lib.hid (off_step hinv.out hkl HX.out HY.out hq0 hc0 hb0 hx0 hy0 hr0 (by omega) (by omega) hb0' HR.out (by omega))⟩
        case measure => simp [intOf] <;> omega
      · have HY : Hid (Num.at_ b k = 0) := Lib.hid (Num.at_out (by omega))
        obtain ⟨r, b', hr0, hr1, hb0', hb1', hrb, e1, e2⟩ := sub_step3 x cy br ⟨hx0, hx1⟩ ⟨hc0, hc1⟩ ⟨hb0, hb1⟩
        have HR := Lib.hid hrb
        have E1 := Lib.hid e1
        have E2 := Lib.hid e2
        clear hrb e1 e2
        go_wp2
        go_roundw
        case rel =>
          have hw2 := hwin.set_ k r hkl
          have hu2 := hupd.set_ k (.int .u32 r) hlt
          rw [E1.out]
          exact ⟨k + 1, cy / 4294967296, b', l.set k r, by omega, by go_num, rfl, congrArg (Value.int .u64) E2.out, by omega, by omega, by omega, by omega, Lib.hid (fun _ => by omega), Lib.hid (by rw [List.length_set]; exact hll.out), Lib.hid (Num.W_set hWl.out k (by omega) (by omega)), hw2, hu2,
            Lib.hid (by rw [Num.drop_set]; exact HD.out), Lib.hid (off_step (low := cy) hinv.out hkl HX.out HY.out hq0 hc0 hb0 hx0 (by omega) hr0 (by omega) (by omega) hb0' HR.out (by rw [Int.mul_zero]; omega))⟩
        case measure => simp [intOf] <;> omega
    · obtain rfl : k = a.length := by omega
      have hfin : Hid (Num.val l + q.toNat * Num.val b = Num.val a + 4294967296 ^ a.length * br.toNat) := Lib.hid (by
        have h1 := hinv.out
        rw [List.take_of_length_le (by rw [hll.out]; exact Nat.le_refl _), List.take_of_length_le (show b.length ≤ a.length by omega), List.take_of_length_le (Nat.le_refl a.length), hcz.out hle] at h1
        simpa using h1)
      rcases Int.lt_or_le 0 br with h | h
      · obtain rfl : br = 1 := by omega
        go_wp2
        go_ret
        exact ⟨l, true, rfl, hll.out, hWl.out, hfin.out, hwin, hupd⟩
      · obtain rfl : br = 0 := by omega
        go_wp2
        go_ret
        exact ⟨l, false, rfl, hll.out, hWl.out, hfin.out, hwin, hupd⟩
theorem nat_back (g c o cu cv : Nat) (V : Option Addr) (a b : List Int) (w : World) (ha : Win w g c o a) (hb : Sl w V b) (hne : ∀ ad, V = some ad → 0 < b.length → ad.block ≠ g) (hc : c ≤ 9223372036854775807) (hWa : Num.W a) (hWb : Num.W b)
    (hle : b.length ≤ a.length) :
    Calls Try.prog 99 #[.slice (some ⟨g, o, none⟩) a.length cu, .slice V b.length cv] w fun e w' => ∃ (l : List Int) (cy : Nat), e = .returned (.tuple #[]) ∧ l.length = a.length ∧ Num.W l ∧ Num.val l + 4294967296 ^ a.length * cy = Num.val a + Num.val b ∧ Win w' g c o l ∧ Upd w w' g o a.length := by
  have hla : o + a.length ≤ c := by obtain ⟨cur, _, h1, h2, _⟩ := ha; omega
  have HNE := Lib.hid hne
  have HWb := Lib.hid hWb
  clear hne hWb
  go_enter Try.func99, Try.ntmps99
  go_wp2
  go_loopw [4, 8] (fun cv i wr => ∃ (k : Nat) (cy : Int) (l : List Int), k ≤ a.length ∧ i = .int .i64 k ∧ cv = .int .u64 cy ∧ 0 ≤ cy ∧ cy ≤ 1 ∧ Hid (l.length = a.length) ∧ Hid (Num.W l) ∧ Win wr g c o l ∧ Upd w wr g o a.length ∧ Hid (l.drop k = a.drop k) ∧
      Hid (Num.val (l.take k) + 4294967296 ^ k * cy.toNat = Num.val (a.take k) + Num.val (b.take k))) (fun _ i _ => a.length - (intOf i).toNat)
  case atStart => exact ⟨0, 0, a, by omega, rfl, rfl, by omega, by omega, Lib.hid rfl, Lib.hid hWa, ha, Upd.refl _ _ _ _, Lib.hid rfl, Lib.hid (by simp [Num.val])⟩
  case round =>
    obtain ⟨k, cy, l, hk, rfl, rfl, hc0, hc1, hll, hWl, hwin, hupd, hdr, hinv⟩ := hrel
    by_cases hlt : k < a.length
    · have hkl : k < l.length := by rw [hll.out]; exact hlt
      have hcx := hwin.cell k hkl
      have hfx := hwin.free (o + k)
      have hx := Num.at_lt hWl.out k
      have hds := drop_step hdr.out hkl hlt
      generalize hxx : Num.at_ l k = x at *
      have HX := Lib.hid hds.1.symm
      have HD := Lib.hid hds.2
      obtain ⟨hx0, hx1⟩ := hx
      clear hxx hds
      by_cases hkb : k < b.length
      · have hs := hb.upd hupd HNE.out
        obtain ⟨bd, rfl, hcb⟩ := hs (by omega)
        have hcy := hcb k hkb
        obtain ⟨hy0, hy1⟩ := Num.at_lt HWb.out k
        clear hcb
        generalize hyy : Num.at_ b k = y at *
        have HY := Lib.hid hyy
        clear hyy
        go_wp2
        go_roundw
        case rel =>
          have hw2 := hwin.set_ k ((cy + x + y) % 4294967296) hkl
          have hu2 := hupd.set_ k (.int .u32 ((cy + x + y) % 4294967296)) hlt
          exact ⟨k + 1, (cy + x + y) / 4294967296, l.set k ((cy + x + y) % 4294967296), by omega, by go_num, rfl, by omega, by omega, Lib.hid (by rw [List.length_set]; exact hll.out), Lib.hid (Num.W_set hWl.out k (by omega) (by omega)), hw2, hu2,
            Lib.hid (by rw [Num.drop_set]; exact HD.out), Lib.hid (add_step hinv.out hkl HX.out HY.out hx0 hy0 (by omega) hc0 (by omega) (by omega))⟩
        case measure => simp [intOf] <;> omega
      · have HY : Hid (Num.at_ b k = 0) := Lib.hid (Num.at_out (by omega))
        go_wp2
        go_roundw
        case rel =>
          have hw2 := hwin.set_ k ((cy + x) % 4294967296) hkl
          have hu2 := hupd.set_ k (.int .u32 ((cy + x) % 4294967296)) hlt
          exact ⟨k + 1, (cy + x) / 4294967296, l.set k ((cy + x) % 4294967296), by omega, by go_num, rfl, by omega, by omega, Lib.hid (by rw [List.length_set]; exact hll.out), Lib.hid (Num.W_set hWl.out k (by omega) (by omega)), hw2, hu2,
            Lib.hid (by rw [Num.drop_set]; exact HD.out), Lib.hid (add_step hinv.out hkl HX.out HY.out hx0 (by omega) (by omega) hc0 (by omega) (by omega))⟩
        case measure => simp [intOf] <;> omega
    · obtain rfl : k = a.length := by omega
      have hfin : Hid (Num.val l + 4294967296 ^ a.length * cy.toNat = Num.val a + Num.val b) := Lib.hid (by
        have h1 := hinv.out
        rw [List.take_of_length_le (by rw [hll.out]; exact Nat.le_refl _), List.take_of_length_le hle, List.take_of_length_le (Nat.le_refl a.length)] at h1
        exact h1)
      go_wp2
      go_end0
      exact ⟨l, cy.toNat, rfl, hll.out, hWl.out, hfin.out, hwin, hupd⟩
end Go.Proofs.Ytfmhfgjpbkmneaa
namespace Go.Proofs.Ytfmhfgjpbkmneaa
open Go.RowKit
set_option linter.unusedVariables false
set_option linter.unusedSimpArgs false
theorem bitLen_pos (x : Nat) : x ≠ 0 → x < 2 ^ 64 → 1 ≤ Lib.bitLen x ∧ 2 ^ (Lib.bitLen x - 1) ≤ x ∧ x < 2 ^ Lib.bitLen x := by
  induction x using Nat.strongRecOn with
  | _ x ih =>
    intro h0 h
    rw [Lib.bitLen_half x h0 h]
    rcases Nat.lt_or_ge x 2 with h2 | h2
    · obtain rfl : x = 1 := by omega
      have : Lib.bitLen (1 / 2) = 0 := by decide
      rw [this]
      decide
    · obtain ⟨i1, i2, i3⟩ := ih (x / 2) (by omega) (by omega) (by omega)
      obtain ⟨m, hm⟩ : ∃ m, Lib.bitLen (x / 2) = m + 1 := ⟨Lib.bitLen (x / 2) - 1, by omega⟩
      rw [hm] at i2 i3 ⊢
      rw [show 1 + (m + 1) = m + 1 + 1 by omega, Nat.pow_succ]
      simp only [Nat.add_sub_cancel, Nat.pow_succ] at *
      omega
theorem tab_size : Lib.len8tab.size = 256 := by decide +kernel
theorem tab_all : ∀ j : Fin 256, (if h : j.val < Lib.len8tab.size then Lib.len8tab[j.val].toNat else 0) = Lib.bitLen j.val ∧ Lib.bitLen j.val ≤ 8 := by decide +kernel
theorem tab_at (j : Nat) (h : j < Lib.len8tab.size) : ((Lib.len8tab[j].toNat : Nat) : Int) = Lib.bitLen j ∧ Lib.bitLen j ≤ 8 := by
  have h2 : j < 256 := by rw [tab_size] at h; exact h
  have := tab_all ⟨j, h2⟩
  simp only [h, dif_pos] at this
  exact ⟨by rw [this.1], this.2⟩
set_option maxRecDepth 100000 in
theorem bits_Len32 (x : Int) (w : World) (h0 : 0 ≤ x) (h1 : x ≤ 4294967295) :
    Calls Try.prog 105 #[.int .u32 x] w fun e w' => e = .returned (.int .i64 (Lib.bitLen x.toNat)) ∧ w = w' := by
  have hs : ((Lib.len8tab.size : Nat) : Int) = 256 := by rw [tab_size]; rfl
  by_cases c1 : 65536 ≤ x
  · by_cases c2 : 256 ≤ x / 65536
    · have hl : Hid (Lib.bitLen x.toNat = 24 + Lib.bitLen (x.toNat / 16777216)) := Lib.hid (Lib.bitLen_shift24 x.toNat (by omega) (by omega))
      go_enter Try.func105, Try.ntmps105
      go_wp2
      go_ret
      refine ⟨ret_int ?_, rfl⟩
      have e : (x / 65536 / 256).toNat = x.toNat / 16777216 := by omega
      have k2 := (tab_at (x / 65536 / 256).toNat (by rw [tab_size]; omega)).2
      rw [(tab_at _ _).1, hl.out, e]
      rw [e] at k2
      unfold wrap64
      omega

    · have hl : Hid (Lib.bitLen x.toNat = 16 + Lib.bitLen (x.toNat / 65536)) := Lib.hid (Lib.bitLen_shift16 x.toNat (by omega) (by omega))
      go_enter Try.func105, Try.ntmps105
      go_wp2
      go_ret
      refine ⟨ret_int ?_, rfl⟩
      have e : (x / 65536).toNat = x.toNat / 65536 := by omega
      have k2 := (tab_at (x / 65536).toNat (by rw [tab_size]; omega)).2
      rw [(tab_at _ _).1, hl.out, e]
      rw [e] at k2
      unfold wrap64
      omega
  · by_cases c2 : 256 ≤ x
    · have hl : Hid (Lib.bitLen x.toNat = 8 + Lib.bitLen (x.toNat / 256)) := Lib.hid (Lib.bitLen_shift8 x.toNat (by omega) (by omega))
      go_enter Try.func105, Try.ntmps105
      go_wp2
      go_ret
      refine ⟨ret_int ?_, rfl⟩
      have e : (x / 256).toNat = x.toNat / 256 := by omega
      have k2 := (tab_at (x / 256).toNat (by rw [tab_size]; omega)).2
      rw [(tab_at _ _).1, hl.out, e]
      rw [e] at k2
      unfold wrap64
      omega
    · go_enter Try.func105, Try.ntmps105
      go_wp2
      go_ret
      refine ⟨ret_int ?_, rfl⟩
      have k2 := (tab_at x.toNat (by rw [tab_size]; omega)).2
      rw [(tab_at _ _).1]
      skip
      unfold wrap64
      omega
theorem bits_LeadingZeros32 (x : Int) (w : World) (h0 : 0 < x) (h1 : x ≤ 4294967295) :
    Calls Try.prog 95 #[.int .u32 x] w fun e w' => ∃ n : Nat, e = .returned (.int .i64 n) ∧ n < 32 ∧ 2147483648 ≤ x.toNat * 2 ^ n ∧ x.toNat * 2 ^ n < 4294967296 ∧ w = w' := by
  obtain ⟨b1, b2, b3⟩ := bitLen_pos x.toNat (by omega) (by omega)
  have b4 : Lib.bitLen x.toNat ≤ 32 := Lib.bitLen_le x.toNat 32 (by omega) (by omega)
  have hp : ∃ n : Nat, Lib.bitLen x.toNat + n = 32 ∧ n < 32 ∧ 2147483648 ≤ x.toNat * 2 ^ n ∧ x.toNat * 2 ^ n < 4294967296 := by
    refine ⟨32 - Lib.bitLen x.toNat, by omega, by omega, ?_, ?_⟩
    · calc 2147483648 = 2 ^ (Lib.bitLen x.toNat - 1) * 2 ^ (32 - Lib.bitLen x.toNat) := by rw [← Nat.pow_add, show Lib.bitLen x.toNat - 1 + (32 - Lib.bitLen x.toNat) = 31 by omega]
        _ ≤ x.toNat * 2 ^ (32 - Lib.bitLen x.toNat) := Nat.mul_le_mul_right _ b2
    · calc x.toNat * 2 ^ (32 - Lib.bitLen x.toNat) < 2 ^ Lib.bitLen x.toNat * 2 ^ (32 - Lib.bitLen x.toNat) := Nat.mul_lt_mul_of_pos_right b3 (Nat.pow_pos (by omega))
        _ = 4294967296 := by rw [← Nat.pow_add, show Lib.bitLen x.toNat + (32 - Lib.bitLen x.toNat) = 32 by omega]
  obtain ⟨n, hn, hn1, hn2, hn3⟩ := hp
  have H1 := Lib.hid (bits_Len32 x w (by omega) h1)
  have HN := Lib.hid hn
  have H2 := Lib.hid hn2
  have H3 := Lib.hid hn3
  clear b2 b3 hn hn2 hn3
  generalize Lib.bitLen x.toNat = m at *
  go_enter Try.func95, Try.ntmps95
  go_wp2_with fail
  refine H1.out.mono ?_
  rintro e w' ⟨rfl, rfl⟩
  go_wp2
  go_ret
  exact ⟨n, ret_int (by have := HN.out; omega), hn1, H2.out, H3.out, rfl⟩
end Go.Proofs.Ytfmhfgjpbkmneaa
