import Derived.Test.YtfmhfgjpbkmneaaZb
import Derived.Deep.RegionHeld3
import Derived.Deep.RegionWith
import Derived.Test.YtfmhfgjpbkmneaaZa
namespace Go.Proofs.Ytfmhfgjpbkmneaa
set_option linter.unusedVariables false
set_option linter.unusedSimpArgs false
/-! ### plain: a long division's numbers -/
theorem top_word {b : List Int} {n : Nat} (hn : b.length = n + 1) : Num.val b = Num.val (b.take n) + 4294967296 ^ n * (Num.at_ b n).toNat := by
  have h := Num.val_take_succ b n
  rw [List.take_of_length_le (by omega)] at h
  exact h
theorem shifted {b : List Int} {n sh : Nat} (hW : Num.W b) (hn : b.length = n + 1) (hsh : sh < 32) (h1 : 2147483648 ≤ (Num.at_ b n).toNat * 2 ^ sh) (h2 : (Num.at_ b n).toNat * 2 ^ sh < 4294967296) :
    (Num.words (Num.val b * 2 ^ sh)).length = n + 1 ∧ 2147483648 ≤ Num.at_ (Num.words (Num.val b * 2 ^ sh)) n := by
  have hv := top_word hn
  have ht := Num.val_take_lt hW n
  have hp : 0 < 2 ^ sh := Nat.pow_pos (by omega)
  have hQ : 0 < 4294967296 ^ n := Nat.pow_pos (by omega)
  have h3 : ((Num.at_ b n).toNat + 1) * 2 ^ sh ≤ 4294967296 := by
    rw [pow_split hsh] at h2 ⊢
    rw [Nat.mul_comm]
    have h4 : (Num.at_ b n).toNat < 2 ^ (32 - sh) := by
      rcases Nat.lt_or_ge (Num.at_ b n).toNat (2 ^ (32 - sh)) with h | h
      · exact h
      · have := Nat.mul_le_mul_left (2 ^ sh) h
        rw [Nat.mul_comm (2 ^ sh) (Num.at_ b n).toNat] at this
        omega
    exact Nat.mul_le_mul_left _ h4
  have hub : Num.val b * 2 ^ sh < 4294967296 ^ (n + 1) := by
    have h5 : Num.val b < 4294967296 ^ n * ((Num.at_ b n).toNat + 1) := by rw [hv, Nat.mul_add]; omega
    calc Num.val b * 2 ^ sh < (4294967296 ^ n * ((Num.at_ b n).toNat + 1)) * 2 ^ sh := Nat.mul_lt_mul_of_pos_right h5 hp
      _ = 4294967296 ^ n * (((Num.at_ b n).toNat + 1) * 2 ^ sh) := Nat.mul_assoc _ _ _
      _ ≤ 4294967296 ^ n * 4294967296 := Nat.mul_le_mul_left _ h3
      _ = 4294967296 ^ (n + 1) := (Nat.pow_succ ..).symm
  have hlb : 4294967296 ^ n * 2147483648 ≤ Num.val b * 2 ^ sh := by
    calc 4294967296 ^ n * 2147483648 ≤ 4294967296 ^ n * ((Num.at_ b n).toNat * 2 ^ sh) := Nat.mul_le_mul_left _ h1
      _ = (4294967296 ^ n * (Num.at_ b n).toNat) * 2 ^ sh := (Nat.mul_assoc _ _ _).symm
      _ ≤ Num.val b * 2 ^ sh := Nat.mul_le_mul_right _ (by omega)
  generalize Num.val b * 2 ^ sh = v at *
  have hlen : (Num.words v).length = n + 1 := by
    have e1 := (Num.words_len (n := v) (k := n + 1)).2 hub
    rcases Nat.lt_or_ge (Num.words v).length (n + 1) with h | h
    · have := (Num.words_len (n := v) (k := n)).1 (by omega)
      omega
    · omega
  refine ⟨hlen, ?_⟩
  have e2 := top_word hlen
  have e3 := Num.val_take_lt (Num.W_words v) n
  have e4 := Num.at_lt (Num.W_words v) n
  rw [Num.val_words] at e2
  rcases Int.lt_or_le (Num.at_ (Num.words v) n) 2147483648 with h | h
  · have h6 : (Num.at_ (Num.words v) n).toNat + 1 ≤ 2147483648 := by omega
    have h7 := Nat.mul_le_mul_left (4294967296 ^ n) h6
    rw [Nat.mul_add] at h7
    omega
  · exact h
/-- the window that stands above the rest -/
theorem win_val {U : List Int} {i n V : Nat} (hW : Num.W U) (h : Num.val (U.drop (i + 1)) < V) (hV : V < 4294967296 ^ n) :
    Num.val ((U.drop i).take (n + 1)) = Num.val (U.drop i) ∧ Num.val (U.drop i) < 4294967296 * V ∧ Num.val (U.drop (i + (n + 1))) = 0 := by
  have h0 : Num.val (U.drop (i + (n + 1))) = 0 := by
    have h1 := Num.val_split (U.drop (i + 1)) n
    rw [List.drop_drop, show i + 1 + n = i + (n + 1) by omega] at h1
    rcases Nat.eq_zero_or_pos (Num.val (U.drop (i + (n + 1)))) with h2 | h2
    · exact h2
    · have := Nat.le_mul_of_pos_right (4294967296 ^ n) h2
      omega
  refine ⟨?_, ?_, h0⟩
  · have h1 := Num.val_split (U.drop i) (n + 1)
    rw [List.drop_drop, h0] at h1
    omega
  · rw [Num.val_drop U i]
    have := (Num.at_lt hW i).2
    omega
theorem patch_val {U l : List Int} {i n : Nat} (hl : l.length = n + 1) (hi : i + (n + 1) ≤ U.length) (h0 : Num.val (U.drop (i + (n + 1))) = 0) :
    Num.val (U.take i ++ l ++ U.drop (i + (n + 1))) = Num.val (U.take i) + 4294967296 ^ i * Num.val l ∧ Num.val ((U.take i ++ l ++ U.drop (i + (n + 1))).drop i) = Num.val l := by
  have hti : (U.take i).length = i := by rw [List.length_take]; omega
  constructor
  · rw [Num.val_append, Num.val_append, h0, hti]; omega
  · rw [List.append_assoc, List.drop_append_of_le_length (by omega), List.drop_of_length_le (by omega), List.nil_append, Num.val_append, h0]; omega
theorem init_rem {U v : List Int} {A n sh q0 va : Nat} (hU : Num.W U) (hq : q0 + (n + 1) = A + 1) (hUl : U.length = A + 1) (hv : v.length = n + 1) (htop : 2147483648 ≤ Num.at_ v n) (hsh : sh < 32) (hva : va < 4294967296 ^ A) (hval : Num.val U = va * 2 ^ sh) :
    Num.val (U.drop q0) < Num.val v := by
  have h1 := Num.val_split U q0
  have h2 := top_word hv
  have hp : (2 : Nat) ^ sh ≤ 2 ^ 31 := Nat.pow_le_pow_right (by omega) (by omega)
  have hpos : 0 < (2 : Nat) ^ sh := Nat.pow_pos (by omega)
  have h3 : Num.val U < 4294967296 ^ q0 * (4294967296 ^ n * 2147483648) := by
    rw [hval]
    calc va * 2 ^ sh < 4294967296 ^ A * 2 ^ sh := Nat.mul_lt_mul_of_pos_right hva hpos
      _ ≤ 4294967296 ^ A * 2147483648 := Nat.mul_le_mul_left _ (by omega)
      _ = 4294967296 ^ q0 * (4294967296 ^ n * 2147483648) := by rw [show A = q0 + n by omega, Nat.pow_add, Nat.mul_assoc]
  have h4 : Num.val (U.drop q0) < 4294967296 ^ n * 2147483648 := by
    have h5 : 4294967296 ^ q0 * Num.val (U.drop q0) < 4294967296 ^ q0 * (4294967296 ^ n * 2147483648) := by omega
    exact Nat.lt_of_mul_lt_mul_left h5
  have h6 : 4294967296 ^ n * 2147483648 ≤ 4294967296 ^ n * (Num.at_ v n).toNat := Nat.mul_le_mul_left _ (by omega)
  omega
theorem first_le {P v : List Int} {n : Nat} (hW : Num.W v) (hP : P.length = n + 2) (hv : v.length = n + 1) (h : Num.val P < 4294967296 * Num.val v) : (Num.at_ P (n + 1)).toNat ≤ (Num.at_ v n).toNat := by
  have h1 := top_word hP
  have h2 := top_word hv
  have h3 := Num.val_take_lt hW n
  rcases Nat.lt_or_ge (Num.at_ v n).toNat (Num.at_ P (n + 1)).toNat with h4 | h4
  · exfalso
    have h5 : Num.val v < 4294967296 ^ n * ((Num.at_ v n).toNat + 1) := by rw [h2, Nat.mul_add]; omega
    have h6 : 4294967296 * Num.val v < 4294967296 * (4294967296 ^ n * ((Num.at_ v n).toNat + 1)) := Nat.mul_lt_mul_of_pos_left h5 (by omega)
    have h7 : 4294967296 ^ (n + 1) * ((Num.at_ v n).toNat + 1) ≤ 4294967296 ^ (n + 1) * (Num.at_ P (n + 1)).toNat := Nat.mul_le_mul_left _ h4
    rw [Nat.pow_succ, Nat.mul_comm (4294967296 ^ n) 4294967296, Nat.mul_assoc] at h7
    rw [Nat.pow_succ, Nat.mul_comm (4294967296 ^ n) 4294967296] at h1
    omega
  · exact h4
/-- one word of the quotient -/
theorem div_step {U l Q : List Int} {i n V a' : Nat} {x : Int} (hl : l.length = n + 1) (hi : i + (n + 1) ≤ U.length) (h0 : Num.val (U.drop (i + (n + 1))) = 0) (hx : Num.val l + x.toNat * V = Num.val (U.drop i)) (hQ : i < Q.length)
    (hinv : a' = V * (4294967296 ^ (i + 1) * Num.val (Q.drop (i + 1))) + Num.val U) :
    a' = V * (4294967296 ^ i * Num.val ((Q.set i x).drop i)) + Num.val (U.take i ++ l ++ U.drop (i + (n + 1))) := by
  rw [(patch_val hl hi h0).1, Num.val_drop (Q.set i x), Num.at_set _ _ _ _ hQ, if_pos rfl, Num.drop_set, hinv, Num.val_split U i, ← hx, Nat.pow_succ]
  generalize 4294967296 ^ i = P
  generalize Num.val (Q.drop (i + 1)) = R
  grind
theorem too_much {q V P l l' B cy : Nat} (h1 : P < (q + 1) * V) (h2 : (q - 1) * V ≤ P) (h3 : l + q * V = P + B * 1) (h4 : l' + B * cy = l + V) (hl : l' < B) (hP : P < B) (hV : V ≤ B) (hlB : l < B) : l' + (q - 1) * V = P ∧ l' < V ∧ 1 ≤ q := by
  have hq : 1 ≤ q := by
    rcases Nat.eq_zero_or_pos q with h | h
    · rw [h] at h3; omega
    · exact h
  obtain ⟨p, rfl⟩ : ∃ p, q = p + 1 := ⟨q - 1, by omega⟩
  simp only [Nat.add_sub_cancel] at *
  have e1 : (p + 1) * V = p * V + V := by grind
  have e2 : (p + 1 + 1) * V = p * V + V + V := by grind
  rw [e1] at h3
  rw [e2] at h1
  generalize p * V = R at *
  have hcy : cy = 1 := by
    rcases Nat.lt_or_ge cy 1 with h | h
    · have : cy = 0 := by omega
      rw [this] at h4
      omega
    · rcases Nat.lt_or_ge cy 2 with h5 | h5
      · omega
      · have := Nat.mul_le_mul_left B h5
        omega
  rw [hcy] at h4
  omega
theorem quot_end {a b P X r : Nat} (hP : 0 < P) (h : a * P = (b * P) * X + r) (hr : r < b * P) : X = a / b ∧ r = (a % b) * P := by
  have hb : 0 < b := by
    rcases Nat.eq_zero_or_pos b with h0 | h0
    · rw [h0] at hr; simp at hr
    · exact h0
  have h1 : X = a / b := by
    have h2 : (a * P) / (b * P) = X := by
      rw [h, Nat.mul_add_div (Nat.mul_pos hb hP), Nat.div_eq_of_lt hr]; omega
    rw [← h2, Nat.mul_div_mul_right _ _ hP]
  refine ⟨h1, ?_⟩
  have h3 : (a * P) % (b * P) = r := by rw [h, Nat.mul_add_mod, Nat.mod_eq_of_lt hr]
  rw [← h3, Nat.mul_mod_mul_right]
end Go.Proofs.Ytfmhfgjpbkmneaa
namespace Go.Proofs.Ytfmhfgjpbkmneaa
open Go.RowKit
set_option linter.unusedVariables false
set_option linter.unusedSimpArgs false
theorem below_drawsB (B : Nat) (w : World) (n : Nat) : Below B w (w.drewN n) := ⟨rfl, rfl, rfl, Nat.le_refl _, fun _ _ => rfl⟩
theorem win_cut {w : World} {g c : Nat} {l : List Int} (h : Win w g c 0 l) (hW : Num.W l) : Win w g c 0 (Num.words (Num.val l)) := by
  rw [words_take hW]; exact h.take _
/-- a division that tells two lists of new words -/
def NewQR (w : World) (q r : Nat) (e : Ending) (w' : World) : Prop := ∃ v1 v2, e = .returned (.tuple #[v1, v2]) ∧ Own w' w.heap.size v1 (Num.words q) ∧ Own w' w.heap.size v2 (Num.words r) ∧ Ap v1 v2 ∧ Below w.heap.size w w'
theorem Own.ne_ {w : World} {lo : Nat} {v : Value} {l : List Int} (h : Own w lo v l) (hn : l ≠ []) : ∃ g c, v = .slice (some ⟨g, 0, none⟩) l.length c ∧ lo ≤ g ∧ c ≤ maxLen ∧ Win w g c 0 l := by
  rcases h with ⟨_, h⟩ | h
  · exact absurd h hn
  · exact h
theorem nat_divide_less (A A' : Option Addr) (c c' : Nat) (a b : List Int) (w : World) (ha : Sl w A a) (hb : Sl w A' b) (hca : a.length ≤ c) (hcb : b.length ≤ c') (la : a.length ≤ 8192) (lb : b.length ≤ 8192) (hWa : Num.W a) (hWb : Num.W b) (Na : Num.norm a)
    (hlt : Num.val a < Num.val b) :
    Calls Try.prog 80 #[.slice A a.length c, .slice A' b.length c'] w (NewQR w (Num.val a / Num.val b) (Num.val a % Num.val b)) := by
  have H2 := Lib.hid (nat_Compare A A' c c' a b w ha hb hca hcb (by omega) (by omega) hWa hWb)
  have hk : Num.nCompare a b = -1 := by unfold Num.nCompare; rw [if_pos hlt]
  rw [hk] at H2
  rw [Nat.div_eq_of_lt hlt, Nat.mod_eq_of_lt hlt]
  have HA := Lib.hid (Num.words_val hWa Na)
  clear hk hlt hWa hWb Na
  go_enter Try.func80, Try.ntmps80
  go_wp2_with fail
  refine H2.out.mono ?_
  rintro e w' ⟨rfl, nq, rfl⟩
  go_wp2_with fail
  refine (slices_Clone A c a _ (ha.below (below_draws w nq)) hca (Fits.small (by omega))).mono ?_
  rintro e w1 ⟨v1, rfl, ho, hbl⟩
  go_wp2
  go_ret2
  exact ⟨_, _, rfl, Own.nil_ _ _, by rw [HA.out]; exact ho, Ap.nil_l _, (below_draws _ _).trans hbl⟩
theorem nat_divide_one (A A' : Option Addr) (c c' : Nat) (a b : List Int) (w : World) (ha : Sl w A a) (hb : Sl w A' b) (hca : a.length ≤ c) (hcb : b.length ≤ c') (la : a.length ≤ 8192) (hlb : b.length = 1) (hWa : Num.W a) (hWb : Num.W b) (Nb : Num.norm b)
    (hlt : ¬ Num.val a < Num.val b) :
    Calls Try.prog 80 #[.slice A a.length c, .slice A' b.length c'] w (NewQR w (Num.val a / Num.val b) (Num.val a % Num.val b)) := by
  have H2 := Lib.hid (nat_Compare A A' c c' a b w ha hb hca hcb (by omega) (by omega) hWa hWb)
  have hge : decide (Num.nCompare a b < 0) = false := by
    unfold Num.nCompare; rw [if_neg hlt]; split <;> simp
  obtain ⟨bd, rfl, hcb0⟩ := hb (by omega)
  have hy := hcb0 0 (by omega)
  obtain ⟨y, rfl⟩ : ∃ y, b = [y] := by
    match b, hlb with
    | [y], _ => exact ⟨y, rfl⟩
  have hy2 := hWb y (by simp)
  have hy3 := Num.norm_one.1 Nb
  have hv : Num.val [y] = y.toNat := by simp [Num.val]
  rw [hv] at hlt ⊢
  have hane : a ≠ [] := by
    rintro rfl
    simp [Num.val] at hlt
    omega
  have hyc : w.cell? bd = some (.int .u32 y) := by simpa [Addr.add, Num.at_] using hy
  obtain ⟨hy0, hy1⟩ := hy2
  have hy4 : 0 < y := by omega
  clear hcb0 hy hlb hWb Nb hv hy3 hlt hb
  have HNE := Lib.hid hane
  have hm : Num.val a % y.toNat < 4294967296 := Nat.lt_trans (Nat.mod_lt _ (by omega)) (by omega)
  have HS : Hid (∀ (W : World) (g c1 : Nat), Win W g c1 0 a → c1 ≤ maxLen → Calls Try.prog 94 #[.slice (some ⟨g, 0, none⟩) a.length c1, .int .u32 y] W fun e w' => ∃ l : List Int, e = .returned (.tuple #[.slice (some ⟨g, 0, none⟩) (Num.words (Num.val a / y.toNat)).length c1, .int .u32 (Num.val a % y.toNat : Nat)]) ∧ Num.W l ∧ Hid (Num.val l = Num.val a / y.toNat) ∧ Win w' g c1 0 l ∧ Upd W w' g 0 a.length) := Lib.hid (fun W g c1 h hc => (nat_small g c1 a y W h (by simpa [maxLen] using hc) hWa hy4 hy1).mono (by
    rintro e w' ⟨l, rfl, h1, h2, h3, h4, h5⟩
    exact ⟨l, by rw [h3], h2, Lib.hid h3, h4, h5⟩))
  clear hWa hane
  generalize Num.nCompare a [y] = cmp at *
  generalize Num.val a % y.toNat = m at *
  generalize Num.val a / y.toNat = q at *
  go_enter Try.func80, Try.ntmps80
  go_wp2_with fail
  refine H2.out.mono ?_
  rintro e w' ⟨rfl, nq, rfl⟩
  have hbl0 := World.block_lt_of_cell? w _ hyc
  have ha1 : Sl ((w.drewN nq).drew) A a := ha
  have hyc1 : ((w.drewN nq).drew).cell? bd = some (.int .u32 y) := hyc
  go_wp2
  go_region_held3 (fun w' => w'.cell? bd = some (.int .u32 y)) (first | go_keep | assumption)
    (first
      | (go_at_call 64; refine (slices_Clone A c a _ ha1 hca (Fits.small (by omega))).mono ?_; rintro e w1 ⟨v1, rfl, ho, hb1⟩; have hk1 : w1.cell? bd = some (.int .u32 y) := (hb1.cell hbl0).trans hyc1; obtain ⟨g, c1, rfl, hg, hcm, hwin⟩ := ho.ne_ HNE.out)
      | (go_at_call 94; refine (HS.out _ g c1 hwin hcm).mono ?_; rintro e w2 ⟨l, rfl, hl2, hl3, hl4, hl5⟩; have hk2 : w2.cell? bd = some (.int .u32 y) := (World.cell?_of_block (hl5.other _ (by simp at hg; omega))).trans hk1))
  have HQ := own_cut (lo := w.heap.size) hl4 hl2 hg hcm
  rw [hl3.out] at HQ
  have hbb : Below w.heap.size w w2 := (((below_draws w nq).trans (by exact ⟨hb1.os, hb1.tape, hb1.output, hb1.size, hb1.block⟩))).trans (hl5.below hg)
  go_wp2_with fail
  refine (nat_Of _ _ (by omega) (by omega)).mono ?_
  rintro e w3 ⟨v3, rfl, ho3, hb3⟩
  go_wp2
  go_ret2
  exact ⟨_, _, rfl, HQ.below hb3, ho3.lower hbb.size, HQ.ap ho3 (Nat.le_refl _), hbb.trans (hb3.mono hbb.size)⟩
end Go.Proofs.Ytfmhfgjpbkmneaa
namespace Go.Proofs.Ytfmhfgjpbkmneaa
open Go.RowKit
set_option linter.unusedVariables false
set_option linter.unusedSimpArgs false
set_option maxHeartbeats 8000000 in
theorem nat_divide_long (A A' : Option Addr) (c c' : Nat) (a b : List Int) (w : World) (ha : Sl w A a) (hb : Sl w A' b) (hca : a.length ≤ c) (hcb : b.length ≤ c') (la : a.length ≤ 8192) (lb : b.length ≤ 8192) (hWa : Num.W a) (hWb : Num.W b) (Nb : Num.norm b)
    (hn2 : 2 ≤ b.length) (hlt : ¬ Num.val a < Num.val b) :
    Calls Try.prog 80 #[.slice A a.length c, .slice A' b.length c'] w (NewQR w (Num.val a / Num.val b) (Num.val a % Num.val b)) := by
  have H2 := Lib.hid (nat_Compare A A' c c' a b w ha hb hca hcb (by omega) (by omega) hWa hWb)
  have hge : decide (Num.nCompare a b < 0) = false := by
    unfold Num.nCompare; rw [if_neg hlt]; split <;> simp
  have hlen : b.length ≤ a.length := by
    rcases Nat.lt_or_ge a.length b.length with h | h
    · exact absurd (Num.val_lt_len hWa hWb Nb h) hlt
    · exact h
  have hne1 : ((b.length : Int) == 1) = false := by rw [beq_eq_false_iff_ne]; omega
  have hb' := hb
  obtain ⟨bd, rfl, hcb0⟩ := hb (by omega)
  have hy := hcb0 (b.length - 1) (by omega)
  obtain ⟨y0, y1⟩ := Num.at_lt hWb (b.length - 1)
  have hypos : 0 < Num.at_ b (b.length - 1) := by
    rcases Int.lt_or_le 0 (Num.at_ b (b.length - 1)) with h | h
    · exact h
    · exfalso
      have hz : Num.at_ b (b.length - 1) = 0 := by omega
      refine Nb 0 ?_ rfl
      rw [List.getLast?_eq_getElem?]
      simp only [Num.at_, List.getD_eq_getElem?_getD, List.getElem?_eq_getElem (show b.length - 1 < b.length by omega), Option.getD_some] at hz
      rw [List.getElem?_eq_getElem (by omega), hz]
  have HY := Lib.hid (show Num.at_ b (b.length - 1) = Num.at_ b (b.length - 1) from rfl)
  have j1 : ((b.length : Int) - 1).toNat = b.length - 1 := by omega
  have l1 : (0 : Int) ≤ (b.length : Int) - 1 := by omega
  have HWA := Lib.hid hWa
  have HWB := Lib.hid hWb
  have HNB := Lib.hid Nb
  have HLT := Lib.hid hlt
  clear hcb0 hWa hWb Nb hlt hb
  generalize Num.nCompare a b = cmp at *
  generalize hyy : Num.at_ b (b.length - 1) = y at *
  have HYY := Lib.hid hyy
  clear hyy HY
  go_enter Try.func80, Try.ntmps80
  go_wp2_with fail
  refine H2.out.mono ?_
  rintro e w' ⟨rfl, nq, rfl⟩
  go_wp2_with fail
  refine (bits_LeadingZeros32 y _ hypos (by omega)).mono ?_
  rintro e w' ⟨sh, rfl, hsh, hs1, hs2, rfl⟩
  have HS1 := Lib.hid hs1
  have HS2 := Lib.hid hs2
  clear hs1 hs2
  go_wp2_with fail
  refine (nat_up (some bd) c' b sh _ (hb'.below (below_draws w nq)) lb HWB.out hsh).mono ?_
  rintro e w1 ⟨g1, v', rfl, hv1, hv2, hv3, hv4, hv5, hv6⟩
  have hbn : b.length = (b.length - 1) + 1 := by omega
  obtain ⟨hvl, hvt⟩ := shifted HWB.out hbn hsh (by rw [HYY.out]; exact HS1.out) (by rw [HYY.out]; exact HS2.out)
  rw [← hbn] at hvl
  have hV' : Num.val b * 2 ^ sh < 4294967296 ^ b.length := by rw [← hv3, ← hvl]; exact Num.words_len.1 (by rw [hv3]; exact Nat.le_refl _)
  have HC1 := Lib.hid (nat_cut (some ⟨g1, 0, none⟩) (b.length + 1) v' _ hv5.sl (by omega) (by omega) hv2)
  have hwv := win_cut hv5 hv2
  have HV2 := Lib.hid (Num.val_words (Num.val b * 2 ^ sh))
  have HWv := Lib.hid (Num.W_words (Num.val b * 2 ^ sh))
  rw [hv3, hv1] at HC1
  rw [hv3] at hwv
  rw [hvl] at HC1
  generalize hvv : Num.words (Num.val b * 2 ^ sh) = v at *
  clear hvv hbn hv5 hv3
  go_wp2_with fail
  refine HC1.out.mono ?_
  rintro e w2 ⟨rfl, rfl⟩
  go_wp2_with fail
  refine (nat_up A c a sh _ (ha.below ((below_draws w nq).trans hv6)) la HWA.out hsh).mono ?_
  rintro e w2 ⟨g2, U0, rfl, hU1, hU2, hU3, hU4, hU5, hU6⟩
  have e1 : (a.length : Int) + 1 - (b.length : Int) = ((a.length + 1 - b.length : Nat) : Int) := by omega
  go_wp2_with (at_make; refine wpList_make32 w2 rfl (.tmp 55) (.tmp 55) rfl _ (a.length + 1 - b.length) rfl rfl (by first | rfl | exact e1 | simp) (by omega) ?_; intro w3 hwin0 hbl)
  have hb2 : Below w.heap.size w w2 := ((below_draws w nq).trans hv6).trans (hU6.mono hv6.size)
  have hb3 : Below w.heap.size w w3 := hb2.trans (hbl.mono hb2.size)
  have hg12 : g1 < g2 := Nat.lt_of_lt_of_le hwv.lt hU4
  have hg23 : g2 < w2.heap.size := hU5.lt
  have hgw : w.heap.size ≤ g1 := hv4
  have hwv3 := (hwv.below hU6).below hbl
  have hU3' := hU5.below hbl
  have HU := Lib.hid hU3
  have HU1 := Lib.hid hU1
  have HU2 := Lib.hid hU2
  have HVT := Lib.hid hvt
  have HVL := Lib.hid hvl
  have hinit : Hid (Num.val (U0.drop (a.length + 1 - b.length)) < Num.val v) := Lib.hid (init_rem (A := a.length) (n := b.length - 1) (sh := sh) (va := Num.val a) hU2 (by omega) hU1 (by omega) hvt hsh (Num.val_lt HWA.out) hU3)
  clear hU3 hU1 hU2 hvt hvl hwv hU5 hU6 hbl hv6 hb2 hU4 hv4 hv2 hv1
  generalize hg3 : w2.heap.size = g3 at *
  clear hg3
  generalize hq0 : a.length + 1 - b.length = q0 at *
  have hq1 : q0 + b.length = a.length + 1 := by omega
  have HQ0 := Lib.hid hq0
  clear hq0 e1
  go_loopw [11] (fun iv wr => ∃ (i : Int) (k : Nat) (U Q : List Int), Hid (i + 1 = k) ∧ -1 ≤ i ∧ i < q0 ∧ iv = .int .i64 i ∧ Hid (U.length = a.length + 1) ∧ Hid (Num.W U) ∧ Hid (Q.length = q0) ∧ Hid (Num.W Q) ∧ Win wr g2 (a.length + 1) 0 U ∧ Win wr g3 q0 0 Q ∧ Win wr g1 (b.length + 1) 0 v ∧ Below w.heap.size w wr ∧
      Hid (Num.val a * 2 ^ sh = Num.val v * (4294967296 ^ k * Num.val (Q.drop k)) + Num.val U) ∧ Hid (Num.val (U.drop k) < Num.val v)) (fun iv _ => (intOf iv + 1).toNat)
  case atStart => exact ⟨_, q0, U0, List.replicate q0 0, Lib.hid (by omega), by omega, by omega, rfl, HU1, HU2, Lib.hid (by simp), Lib.hid (Num.W_replicate _), hU3', hwin0, hwv3, hb3, Lib.hid (by rw [HU.out, List.drop_of_length_le (by simp)]; simp [Num.val]), hinit⟩
  case round =>
    obtain ⟨i, k, U, Q, hik, hi1, hi2, rfl, hUl, hWU, hQl, hWQ, hwU, hwQ, hwV, hbw, hinv, hrem⟩ := hrel
    by_cases h0 : 0 ≤ i
    · obtain ⟨m, rfl⟩ := Int.eq_ofNat_of_zero_le h0
      have hkm : Hid (k = m + 1) := Lib.hid (by have := hik.out; omega)
      rw [hkm.out] at hinv hrem
      have hmb : m + b.length + 1 ≤ a.length + 1 := by omega
      have e2 : ((m : Int) + (b.length : Int) + 1).toNat = m + b.length + 1 := by omega
      have e3 : ¬ (a.length + 1 = m) := by omega
      have hVB : Hid (Num.val v < 4294967296 ^ b.length) := Lib.hid (by have := Num.val_lt HWv.out; rw [HVL.out] at this; exact this)
      obtain ⟨hP1, hP2, hP3⟩ := win_val (i := m) (n := b.length) hWU.out hrem.out hVB.out
      have hwP := hwU.part m (b.length + 1) (by rw [hUl.out]; omega)
      rw [Nat.zero_add] at hwP
      have hPW : Num.W ((U.drop m).take (b.length + 1)) := Num.W_take (Num.W_drop hWU.out m) _
      have hPl : ((U.drop m).take (b.length + 1)).length = b.length + 1 := by rw [List.length_take, List.length_drop, hUl.out]; omega
      have hP3' := Lib.hid hP3
      have hPV := Lib.hid hP1
      rw [← hP1] at hP2
      generalize hPP : (U.drop m).take (b.length + 1) = P at *
      clear hPP hP1 hP3
      have hfl := first_le (n := b.length - 1) HWv.out (by rw [hPl]; omega) (by rw [HVL.out]; omega) hP2
      rw [show b.length - 1 + 1 = b.length by omega] at hfl
      have hP0 := Num.at_lt hPW b.length
      have hv0 := Num.at_lt HWv.out (b.length - 1)
      have HGS := nat_guess (some ⟨g2, m, none⟩) (some ⟨g1, 0, none⟩) (a.length + 1 - m) (b.length + 1) v P (Num.at_ v (b.length - 1)) (Num.at_ v (b.length - 2)) (Num.at_ P b.length) (Num.at_ P (b.length - 1)) (Num.at_ P (b.length - 2)) wr hwP.sl hwV.sl
        ⟨by rw [HVL.out]; exact hn2, by rw [hPl, HVL.out], HWv.out, hPW, by rw [HVL.out], by rw [HVL.out], by rw [HVL.out], by rw [HVL.out], by rw [HVL.out]⟩ (by rw [HVL.out]; exact lb) HVT.out (by omega) hP2
      rw [hPl, HVL.out] at HGS
      have HGS := Lib.hid HGS
      have HOF : Hid (∀ (x : Int) (n : Nat), 0 ≤ x → x < 4294967296 → Calls Try.prog 98 #[.slice (some ⟨g2, m, none⟩) (b.length + 1) (a.length + 1 - m), .slice (some ⟨g1, 0, none⟩) b.length (b.length + 1), .int .u64 x] (wr.drewN n) fun e w' => ∃ (l : List Int) (f : Bool), e = .returned (.bool f) ∧ Hid (l.length = b.length + 1) ∧ Hid (Num.W l) ∧ Hid (Num.val l + x.toNat * Num.val v = Num.val P + 4294967296 ^ (b.length + 1) * (if f then 1 else 0)) ∧ Win w' g2 (a.length + 1) m l ∧ Upd (wr.drewN n) w' g2 m (b.length + 1)) := Lib.hid (fun x n hx0 hx1 => by
        have h := nat_off g2 (a.length + 1) m (a.length + 1 - m) (b.length + 1) (some ⟨g1, 0, none⟩) P v x (wr.drewN n) (hwP.drewN n) hwV.sl (by intro ad e _; injection e with e; subst e; show g1 ≠ g2; omega) (by omega) hPW HWv.out (by rw [hPl, HVL.out]) hx0 hx1
        rw [hPl, HVL.out] at h
        refine h.mono ?_
        rintro e w' ⟨l, f, rfl, h1, h2, h3, h4, h5⟩
        exact ⟨l, f, rfl, Lib.hid h1, Lib.hid h2, Lib.hid h3, h4, h5⟩)
      have hPlt : Hid (Num.val P < 4294967296 ^ (b.length + 1)) := Lib.hid (by have := Num.val_lt hPW; rw [hPl] at this; exact this)
      clear hfl hP0 hv0 hPl hPW hP2
      go_wp2_with fail
      rw [show m + b.length + 1 - m = b.length + 1 from by omega]
      refine HGS.out.mono ?_
      rintro e w4 ⟨qh, rfl, hq0, hq1', hgu, hgl, nd, rfl⟩
      have HGU := Lib.hid hgu
      have HGL := Lib.hid hgl
      clear hgu hgl
      go_wp2_with fail
      refine (HOF.out qh nd hq0 hq1').mono ?_
      rintro e w5 ⟨l, f, rfl, hll, hWl, hlv, hwl, hul⟩
      have hwQ5 := (hwQ.drewN nd).other hul (show g3 ≠ g2 by omega)
      have hwV5 := (hwV.drewN nd).other hul (show g1 ≠ g2 by omega)
      have hcq := hwQ5.cell m (by rw [hQl.out]; omega)
      rw [Nat.zero_add] at hcq
      have hfq := hwQ5.free m
      cases f with
      | false =>
        have hxl : Hid (Num.val l + qh.toNat * Num.val v = Num.val P) := Lib.hid (by have := hlv.out; simpa using this)
        have hlt' : Hid (Num.val l < Num.val v) := Lib.hid (by
          have h1 := HGU.out
          have h2 := hxl.out
          rw [Nat.add_mul] at h1
          omega)
        go_wp2
        go_roundw
        case rel =>
          have hlm : l.length = b.length + 1 := hll.out
          have hpt := (hwU.drewN nd).patch (i := m) (l' := l) (by rw [hlm, Nat.zero_add]; exact hul) (by rw [Nat.zero_add]; exact hwl) (by rw [hlm, hUl.out]; omega)
          rw [hlm] at hpt
          have hpq := hwQ5.set_ m qh (by rw [hQl.out]; omega)
          rw [Nat.zero_add] at hpq
          have hsu := Upd.set1 w5 g3 0 q0 m (.int .u32 qh) (show m < q0 by omega)
          rw [Nat.zero_add] at hsu
          have hpt2 := hpt.other hsu (show g2 ≠ g3 by omega)
          have hpv := hwV5.other hsu (show g1 ≠ g3 by omega)
          have hpv0 := patch_val (U := U) (l := l) (i := m) (n := b.length) hlm (by rw [hUl.out]; omega) hP3'.out
          have hds := div_step (V := Num.val v) (x := qh) hlm (by rw [hUl.out]; omega) hP3'.out (by rw [← hPV.out]; exact hxl.out) (by rw [hQl.out]; omega) hinv.out
          exact ⟨_, m, _, Q.set m qh, Lib.hid (by omega), by omega, by omega, rfl, Lib.hid (by simp only [List.length_append, List.length_take, List.length_drop, hlm, hUl.out]; omega), Lib.hid (Num.W_append.2 ⟨Num.W_append.2 ⟨Num.W_take hWU.out _, hWl.out⟩, Num.W_drop hWU.out _⟩),
            Lib.hid (by rw [List.length_set]; exact hQl.out), Lib.hid (Num.W_set hWQ.out _ hq0 hq1'), hpt2, hpq, hpv, ((hbw.trans (below_drawsB _ wr nd)).trans (hul.below (B := w.heap.size) (by omega))).trans (hsu.below (B := w.heap.size) (by omega)), Lib.hid hds, Lib.hid (by rw [hpv0.2]; exact hlt'.out)⟩
        case measure => simp [intOf] <;> omega
      | true =>
        have hbk := nat_back g2 (a.length + 1) m (a.length + 1 - m) (b.length + 1) (some ⟨g1, 0, none⟩) l v w5 hwl hwV5.sl (by intro ad e _; injection e with e; subst e; show g1 ≠ g2; omega) (by omega) hWl.out HWv.out (by rw [hll.out, HVL.out]; omega)
        rw [hll.out, HVL.out] at hbk
        have HBK := Lib.hid hbk
        clear hbk
        have hlB : Hid (Num.val l < 4294967296 ^ (b.length + 1)) := Lib.hid (by have := Num.val_lt hWl.out; rw [hll.out] at this; exact this)
        go_wp2_with fail
        refine HBK.out.mono ?_
        rintro e w6 ⟨l', cy, rfl, hll', hWl', hlv', hwl', hul'⟩
        have hLL := Lib.hid hll'
        have hWL := Lib.hid hWl'
        have hlB' : Hid (Num.val l' < 4294967296 ^ (b.length + 1)) := Lib.hid (by have := Num.val_lt hWl'; rw [hll'] at this; exact this)
        have htm := too_much HGU.out HGL.out hlv.out hlv' hlB'.out hPlt.out (Nat.le_of_lt (Nat.lt_of_lt_of_le hVB.out (Nat.pow_le_pow_right (by omega) (by omega)))) hlB.out
        have hq1'' : 1 ≤ qh := by have := htm.2.2; omega
        have hxl : Hid (Num.val l' + (qh - 1).toNat * Num.val v = Num.val P) := Lib.hid (by rw [show (qh - 1).toNat = qh.toNat - 1 by omega]; exact htm.1)
        have hlt' : Hid (Num.val l' < Num.val v) := Lib.hid htm.2.1
        have hul2 := hul.trans hul'
        have hwQ6 := hwQ5.other hul' (show g3 ≠ g2 by omega)
        have hwV6 := hwV5.other hul' (show g1 ≠ g2 by omega)
        have hcq6 := hwQ6.cell m (by rw [hQl.out]; omega)
        rw [Nat.zero_add] at hcq6
        have hfq6 := hwQ6.free m
        clear hll' hWl' hlv' htm hcq hfq
        go_wp2
        go_roundw
        case rel =>
          have hlm : l'.length = b.length + 1 := hLL.out
          have hpt := (hwU.drewN nd).patch (i := m) (l' := l') (by rw [hlm, Nat.zero_add]; exact hul2) (by rw [Nat.zero_add]; exact hwl') (by rw [hlm, hUl.out]; omega)
          rw [hlm] at hpt
          have hpq := hwQ6.set_ m (qh - 1) (by rw [hQl.out]; omega)
          rw [Nat.zero_add] at hpq
          have hsu := Upd.set1 w6 g3 0 q0 m (.int .u32 (qh - 1)) (show m < q0 by omega)
          rw [Nat.zero_add] at hsu
          have hpt2 := hpt.other hsu (show g2 ≠ g3 by omega)
          have hpv := hwV6.other hsu (show g1 ≠ g3 by omega)
          have hpv0 := patch_val (U := U) (l := l') (i := m) (n := b.length) hlm (by rw [hUl.out]; omega) hP3'.out
          have hds := div_step (V := Num.val v) (x := (qh - 1)) hlm (by rw [hUl.out]; omega) hP3'.out (by rw [← hPV.out]; exact hxl.out) (by rw [hQl.out]; omega) hinv.out
          exact ⟨_, m, _, Q.set m (qh - 1), Lib.hid (by omega), by omega, by omega, rfl, Lib.hid (by simp only [List.length_append, List.length_take, List.length_drop, hlm, hUl.out]; omega), Lib.hid (Num.W_append.2 ⟨Num.W_append.2 ⟨Num.W_take hWU.out _, hWL.out⟩, Num.W_drop hWU.out _⟩),
            Lib.hid (by rw [List.length_set]; exact hQl.out), Lib.hid (Num.W_set hWQ.out _ (by omega) (by omega)), hpt2, hpq, hpv, ((hbw.trans (below_drawsB _ wr nd)).trans (hul2.below (B := w.heap.size) (by omega))).trans (hsu.below (B := w.heap.size) (by omega)), Lib.hid hds, Lib.hid (by rw [hpv0.2]; exact hlt'.out)⟩
        case measure => simp [intOf] <;> omega
    · have hk0 : k = 0 := by have := hik.out; omega
      obtain rfl := hk0
      rw [List.drop_zero, Nat.pow_zero, Nat.one_mul] at hinv
      rw [List.drop_zero] at hrem
      have hvpos : 0 < 2 ^ sh := Nat.pow_pos (by omega)
      have hqe := quot_end (a := Num.val a) (b := Num.val b) (P := 2 ^ sh) (X := Num.val Q) (r := Num.val U) hvpos (by rw [← HV2.out]; exact hinv.out) (by rw [← HV2.out]; exact hrem.out)
      have HQV := Lib.hid hqe.1
      have HUV := Lib.hid hqe.2
      clear hqe
      have hUB : Num.val U < 4294967296 ^ b.length := Nat.lt_trans hrem.out (by have := Num.val_lt HWv.out; rw [HVL.out] at this; exact this)
      have hUt : Num.val (U.take b.length) = Num.val U := by
        have h1 := Num.val_split U b.length
        rcases Nat.eq_zero_or_pos (Num.val (U.drop b.length)) with h2 | h2
        · rw [h2] at h1; omega
        · have := Nat.le_mul_of_pos_right (4294967296 ^ b.length) h2
          omega
      have hUtl : (U.take b.length).length = b.length := by rw [List.length_take, hUl.out]; omega
      have hWt : Num.W (U.take b.length) := Num.W_take hWU.out _
      have C1 : Hid (∀ W, Win W g3 q0 0 Q → Calls Try.prog 83 #[.slice (some ⟨g3, 0, none⟩) q0 q0] W fun e w' => e = .returned (.slice (some ⟨g3, 0, none⟩) (Num.words (Num.val a / Num.val b)).length q0) ∧ W = w') := Lib.hid (fun W h => by
        have h1 := nat_cut (some ⟨g3, 0, none⟩) q0 Q W h.sl (by rw [hQl.out]; exact Nat.le_refl _) (by rw [hQl.out]; omega) hWQ.out
        rw [hQl.out, HQV.out] at h1
        exact h1)
      have C2 : Hid (∀ W, Win W g2 (a.length + 1) 0 U → Calls Try.prog 83 #[.slice (some ⟨g2, 0, none⟩) b.length (a.length + 1)] W fun e w' => e = .returned (.slice (some ⟨g2, 0, none⟩) (Num.words (Num.val U)).length (a.length + 1)) ∧ W = w') := Lib.hid (fun W h => by
        have h1 := nat_cut (some ⟨g2, 0, none⟩) (a.length + 1) (U.take b.length) W (h.take _).sl (by omega) (by omega) hWt
        rw [hUtl, hUt] at h1
        exact h1)
      have C3 : Hid (∀ W, Win W g2 (a.length + 1) 0 U → Calls Try.prog 100 #[.slice (some ⟨g2, 0, none⟩) (Num.words (Num.val U)).length (a.length + 1), .int .u64 sh] W fun e w' => e = .returned (.slice (some ⟨g2, 0, none⟩) (Num.words (Num.val a % Num.val b)).length (a.length + 1)) ∧ Win w' g2 (a.length + 1) 0 (Num.words (Num.val a % Num.val b)) ∧ ∃ nn, Upd W w' g2 0 nn) := Lib.hid (fun W h => by
        refine (nat_down g2 (a.length + 1) (Num.words (Num.val U)) sh W (win_cut h hWU.out) (by omega) (Num.W_words _) hsh).mono ?_
        rintro e w' ⟨l, rfl, h1, h2, h3, h4, h5⟩
        rw [Num.val_words, HUV.out, Nat.mul_div_cancel _ hvpos] at h3
        rw [h3]
        refine ⟨rfl, ?_, _, h5⟩
        rw [← h3]
        exact win_cut h4 h2)
      have hwU1 : Win wr.drew g2 (a.length + 1) 0 U := hwU
      have hwQ1 : Win wr.drew g3 q0 0 Q := hwQ
      clear hUB hUt hUtl hWt
      generalize Num.val a / Num.val b = qq at *
      generalize Num.val a % Num.val b = rr at *
      go_wp2
      go_region_with (first
        | (go_at_call 83; (with_reducible refine (C1.out _ (by first | assumption)).mono ?_); rintro e w' ⟨rfl, rfl⟩)
        | (go_at_call 83; (with_reducible refine (C2.out _ (by first | assumption)).mono ?_); rintro e w' ⟨rfl, rfl⟩)
        | (go_at_call 100; (with_reducible refine (C3.out _ (by first | assumption)).mono ?_); rintro e w7 ⟨rfl, hw7, nn, hu7⟩; have hwQ7 := hwQ1.other hu7 (show g3 ≠ g2 by omega)))
      all_goals
        go_wp2
        go_ret2
        refine ⟨_, _, rfl, .inr ⟨g3, q0, rfl, Nat.le_trans hgw (by omega), by simp only [maxLen]; omega, ?_⟩, .inr ⟨g2, a.length + 1, rfl, Nat.le_trans hgw (by omega), by simp only [maxLen]; omega, hw7⟩, ?_, ?_⟩
        · have := win_cut hwQ7 hWQ.out
          rw [HQV.out] at this
          exact this
        · intro k h1 h2
          injection h1 with h1
          injection h2 with h2
          have h3 : g3 = k := h1
          have h4 : g2 = k := h2
          omega
        · exact (hbw.trans (below_drawsB _ wr 1)).trans (hu7.below (B := w.heap.size) (by omega))
end Go.Proofs.Ytfmhfgjpbkmneaa
namespace Go.Proofs.Ytfmhfgjpbkmneaa
open Go.RowKit
set_option linter.unusedVariables false
set_option linter.unusedSimpArgs false
theorem nat_divide (A A' : Option Addr) (c c' : Nat) (a b : List Int) (w : World) (ha : Sl w A a) (hb : Sl w A' b) (hca : a.length ≤ c) (hcb : b.length ≤ c') (la : a.length ≤ 8192) (lb : b.length ≤ 8192) (hWa : Num.W a) (hWb : Num.W b) (Na : Num.norm a) (Nb : Num.norm b)
    (h0 : 0 < b.length) :
    Calls Try.prog 80 #[.slice A a.length c, .slice A' b.length c'] w (NewQR w (Num.val a / Num.val b) (Num.val a % Num.val b)) := by
  by_cases hlt : Num.val a < Num.val b
  · exact nat_divide_less A A' c c' a b w ha hb hca hcb la lb hWa hWb Na hlt
  · rcases Nat.lt_or_ge b.length 2 with h1 | h1
    · exact nat_divide_one A A' c c' a b w ha hb hca hcb la (by omega) hWa hWb Nb hlt
    · exact nat_divide_long A A' c c' a b w ha hb hca hcb la lb hWa hWb Nb h1 hlt
theorem checked_ok {a b : List Int} (h0 : Num.nChecked a b = 0) : Num.norm a ∧ a.length ≤ 8192 ∧ Num.norm b ∧ b.length ≤ 8192 := by
  have hab : Num.nCheck a = 0 ∧ Num.nCheck b = 0 := by
    unfold Num.nChecked at h0
    split at h0
    · exact ⟨by assumption, h0⟩
    · exact absurd h0 (by assumption)
  exact ⟨(Num.norm_of_check hab.1).1, (Num.norm_of_check hab.1).2, (Num.norm_of_check hab.2).1, (Num.norm_of_check hab.2).2⟩
/-- a call that answers a quotient, a rest and an error -/
def NewSS (w : World) (r : List Int × List Int × Int) (e : Ending) (w' : World) : Prop := ∃ v1 v2, e = .returned (.tuple #[v1, v2, .int .i64 r.2.2]) ∧ Own w' w.heap.size v1 r.1 ∧ Own w' w.heap.size v2 r.2.1 ∧ Ap v1 v2 ∧ Below w.heap.size w w'
theorem nat_DivMod (A A' : Option Addr) (c c' : Nat) (a b : List Int) (w : World) (ha : Sl w A a) (hb : Sl w A' b) (hca : a.length ≤ c) (hcb : b.length ≤ c') (hm : a.length ≤ 9223372036854775807) (hm' : b.length ≤ 9223372036854775807) (hWa : Num.W a) (hWb : Num.W b) :
    Calls Try.prog 90 #[.slice A a.length c, .slice A' b.length c'] w (NewSS w (Num.nDivMod a b)) := by
  have H1 := Lib.hid (nat_checked A A' c c' a b w ha hb hm hm')
  by_cases h0 : Num.nChecked a b = 0
  · obtain ⟨Na, La, Nb, Lb⟩ := checked_ok h0
    rw [h0] at H1
    by_cases hz : b.length = 0
    · have hr : Num.nDivMod a b = ([], [], 7) := by unfold Num.nDivMod; rw [if_pos h0, if_pos hz]
      have t1 : ((b.length : Int) == 0) = true := by rw [beq_iff_eq]; omega
      rw [hr]
      clear hr h0 hz Na Nb
      go_enter Try.func90, Try.ntmps90
      go_wp2_with fail
      refine H1.out.mono ?_
      rintro e w' ⟨rfl, rfl⟩
      go_wp2
      go_ret3
      exact ⟨_, _, rfl, Own.nil_ _ _, Own.nil_ _ _, Ap.nil_l _, Below.refl _ _⟩
    · have hr : Num.nDivMod a b = (Num.words (Num.val a / Num.val b), Num.words (Num.val a % Num.val b), 0) := by unfold Num.nDivMod; rw [if_pos h0, if_neg hz]
      have t1 : ((b.length : Int) == 0) = false := by rw [beq_eq_false_iff_ne]; omega
      have H2 := Lib.hid (nat_divide A A' c c' a b w ha hb hca hcb La Lb hWa hWb Na Nb (by omega))
      rw [hr]
      clear hr h0 hz Na Nb hWa hWb
      go_enter Try.func90, Try.ntmps90
      go_wp2_with fail
      refine H1.out.mono ?_
      rintro e w' ⟨rfl, rfl⟩
      go_wp2_with fail
      refine H2.out.mono ?_
      rintro e w1 ⟨v1, v2, rfl, o1, o2, hap, hbl⟩
      go_wp2
      go_ret3
      exact ⟨_, _, rfl, o1, o2, hap, hbl⟩
  · have hr : Num.nDivMod a b = ([], [], Num.nChecked a b) := by unfold Num.nDivMod; rw [if_neg h0]
    rw [hr]
    clear hr
    generalize Num.nChecked a b = er at *
    go_enter Try.func90, Try.ntmps90
    go_wp2_with fail
    refine H1.out.mono ?_
    rintro e w' ⟨rfl, rfl⟩
    go_wp2
    go_ret3
    exact ⟨_, _, rfl, Own.nil_ _ _, Own.nil_ _ _, Ap.nil_l _, Below.refl _ _⟩
theorem words_le {n m k : Nat} (h : n ≤ m) (hm : (Num.words m).length ≤ k) : (Num.words n).length ≤ k := by
  rw [Num.words_len] at *
  omega
set_option maxHeartbeats 4000000 in
theorem nat_Gcd (A A' : Option Addr) (c c' : Nat) (a b : List Int) (w : World) (ha : Sl w A a) (hb : Sl w A' b) (hca : a.length ≤ c) (hcb : b.length ≤ c') (hm : a.length ≤ 9223372036854775807) (hm' : b.length ≤ 9223372036854775807) (hWa : Num.W a) (hWb : Num.W b) :
    Calls Try.prog 56 #[.slice A a.length c, .slice A' b.length c'] w (NewS w (Num.nGcd a b)) := by
  have H1 := Lib.hid (nat_checked A A' c c' a b w ha hb hm hm')
  by_cases h0 : Num.nChecked a b = 0
  · obtain ⟨Na, La, Nb, Lb⟩ := checked_ok h0
    rw [h0] at H1
    have hr : Num.nGcd a b = (Num.words (Nat.gcd (Num.val a) (Num.val b)), 0) := by unfold Num.nGcd; rw [if_pos h0]
    rw [hr]
    have ea := Num.words_val hWa Na
    have eb := Num.words_val hWb Nb
    generalize Num.val a = X0 at *
    generalize Num.val b = Y0 at *
    subst ea eb
    clear hr h0 Na Nb hWa hWb
    go_enter Try.func56, Try.ntmps56
    go_wp2_with fail
    refine H1.out.mono ?_
    rintro e w' ⟨rfl, rfl⟩
    go_wp2_with fail
    refine (slices_Clone A c (Num.words X0) w ha hca (Fits.small (by omega))).mono ?_
    rintro e w1 ⟨v1, rfl, o1, b1⟩
    go_wp2_with fail
    refine (slices_Clone A' c' (Num.words Y0) w1 (hb.below b1) hcb (Fits.small (by omega))).mono ?_
    rintro e w2 ⟨v2, rfl, o2, b2⟩
    have o1' := o1.below b2
    have o2' := o2.lower b1.size
    have hbw := b1.trans (b2.mono b1.size)
    clear o1 o2 b1 b2 ha hb
    go_wp2
    go_loopg [7, 8] (Y0 + 1) (fun gk xv yv wr => ∃ (X Y : Nat) (A1 A2 : Option Addr) (c1 c2 : Nat), xv = .slice A1 (Num.words X).length c1 ∧ yv = .slice A2 (Num.words Y).length c2 ∧ Own wr w.heap.size (.slice A1 (Num.words X).length c1) (Num.words X) ∧ Own wr w.heap.size (.slice A2 (Num.words Y).length c2) (Num.words Y) ∧ (Num.words X).length ≤ 8192 ∧ (Num.words Y).length ≤ 8192 ∧ Hid (Nat.gcd X Y = Nat.gcd X0 Y0) ∧ Y < gk ∧ Below w.heap.size w wr)
    case atStart =>
      obtain ⟨A1, c1, rfl, _⟩ := o1'.slice
      obtain ⟨A2, c2, rfl, _⟩ := o2'.slice
      exact ⟨X0, Y0, A1, A2, c1, c2, rfl, rfl, o1', o2', La, Lb, Lib.hid rfl, by omega, hbw⟩
    case round =>
      obtain ⟨X, Y, A1, A2, c1, c2, rfl, rfl, ox, oy, lx, ly, hg, hgk, hbr⟩ := hrel
      obtain ⟨_, _, e1, lcx, sx, _⟩ := ox.slice
      obtain ⟨_, _, e2, lcy, sy, _⟩ := oy.slice
      injection e1 with e1 _ e1'
      injection e2 with e2 _ e2'
      subst e1 e1' e2 e2'
      by_cases h2 : 2 < (Num.words Y).length
      · have hd := nat_divide A1 A2 c1 c2 (Num.words X) (Num.words Y) wr sx sy lcx lcy lx ly (Num.W_words _) (Num.W_words _) (Num.norm_words _) (Num.norm_words _) (by omega)
        rw [Num.val_words, Num.val_words] at hd
        have hY : 0 < Y := by
          rcases Nat.eq_zero_or_pos Y with h | h
          · rw [h] at h2; simp [Num.words_zero] at h2
          · exact h
        have hml : X % Y < Y := Nat.mod_lt _ hY
        have HD := Lib.hid hd
        have hgm : Hid (Nat.gcd Y (X % Y) = Nat.gcd X0 Y0) := Lib.hid (by rw [← hg.out, Nat.gcd_comm X Y, Nat.gcd_rec Y X, Nat.gcd_comm])
        have hmlen : (Num.words (X % Y)).length ≤ 8192 := words_le (Nat.le_of_lt hml) ly
        clear hd sx sy
        generalize X % Y = R at *
        go_wp2_with fail
        refine HD.out.mono ?_
        rintro e w3 ⟨q1, r1, rfl, oq, or1, _, b3⟩
        have oy3 := oy.below b3
        have or3 := or1.lower hbr.size
        obtain ⟨A3, c3, rfl, _⟩ := or3.slice
        go_wp2
        go_roundg (Y)
        case measure => omega
        case rel => exact ⟨Y, R, A2, A3, c2, c3, rfl, rfl, oy3, or3, ly, hmlen, hgm, hml, hbr.trans (b3.mono hbr.size)⟩
      · rcases Nat.eq_zero_or_pos Y with hY | hY
        · subst hY
          have hgx : Hid (X = Nat.gcd X0 Y0) := Lib.hid (by have := hg.out; rw [Nat.gcd_zero_right] at this; exact this)
          have hz : (Num.words 0).length = 0 := rfl
          go_wp2
          go_ret2
          refine ⟨_, rfl, ?_, hbr⟩
          rw [← hgx.out]; exact ox
        · have hYl : 0 < (Num.words Y).length := by
            rcases Nat.eq_zero_or_pos (Num.words Y).length with h | h
            · have := List.eq_nil_of_length_eq_zero h
              rw [Num.words_eq_nil] at this
              omega
            · exact h
          have t1 : (((Num.words Y).length : Int) == 0) = false := by rw [beq_eq_false_iff_ne]; omega
          have hY64 : Y < 18446744073709551616 := by
            have := (Num.words_len (n := Y) (k := 2)).1 (by omega)
            exact this
          have hd := nat_divide A1 A2 c1 c2 (Num.words X) (Num.words Y) wr sx sy lcx lcy lx ly (Num.W_words _) (Num.W_words _) (Num.norm_words _) (Num.norm_words _) hYl
          rw [Num.val_words, Num.val_words] at hd
          have hml : X % Y < Y := Nat.mod_lt _ hY
          have HD := Lib.hid hd
          have hgm : Hid (Nat.gcd Y (X % Y) = Nat.gcd X0 Y0) := Lib.hid (by rw [← hg.out, Nat.gcd_comm X Y, Nat.gcd_rec Y X, Nat.gcd_comm])
          have hmlen : (Num.words (X % Y)).length ≤ 8192 := words_le (Nat.le_of_lt hml) ly
          have HU1 : Hid (∀ W, Sl W A2 (Num.words Y) → Calls Try.prog 81 #[.slice A2 (Num.words Y).length c2] W fun e w' => e = .returned (.tuple #[.int .u64 Y, .bool true]) ∧ W = w') := Lib.hid (fun W h => by
            have h1 := nat_Uint64 A2 c2 (Num.words Y) W h lcy (by omega) (Num.W_words _)
            rw [Num.val_words, if_pos hY64, decide_eq_true hY64] at h1
            exact h1)
          have HU2 : Hid (∀ W A c, Sl W A (Num.words (X % Y)) → (Num.words (X % Y)).length ≤ c → Calls Try.prog 81 #[.slice A (Num.words (X % Y)).length c] W fun e w' => e = .returned (.tuple #[.int .u64 (X % Y : Nat), .bool true]) ∧ W = w') := Lib.hid (fun W A c h hc => by
            have hlt : X % Y < 18446744073709551616 := by omega
            have h1 := nat_Uint64 A c (Num.words (X % Y)) W h hc (by omega) (Num.W_words _)
            rw [Num.val_words, if_pos hlt, decide_eq_true hlt] at h1
            exact h1)
          clear hd
          generalize X % Y = R at *
          have hR64 : R < 18446744073709551616 := by omega
          go_wp2_with fail
          refine HD.out.mono ?_
          rintro e w3 ⟨q1, r1, rfl, oq, or1, _, b3⟩
          obtain ⟨A3, c3, rfl, lc3, s3, _⟩ := or1.slice
          go_wp2_with fail
          refine (HU1.out _ (sy.below b3)).mono ?_
          rintro e w4 ⟨rfl, rfl⟩
          go_wp2_with fail
          refine (HU2.out _ _ _ s3 lc3).mono ?_
          rintro e w4 ⟨rfl, rfl⟩
          have hb3 := hbr.trans (b3.mono hbr.size)
          clear HD HU1 HU2
          go_wp2
          go_loopg [13, 15] (R + 1) (fun gk mv nv wz => ∃ M N : Nat, mv = .int .u64 M ∧ nv = .int .u64 N ∧ M < 18446744073709551616 ∧ N < 18446744073709551616 ∧ Hid (Nat.gcd M N = Nat.gcd X0 Y0) ∧ N < gk ∧ ∃ nq, wz = w3.drewN nq)
          case atStart => exact ⟨Y, R, rfl, rfl, hY64, hR64, hgm, by omega, 0, rfl⟩
          case round =>
            obtain ⟨M, N, rfl, rfl, hM, hN, hgg, hNk, nq, rfl⟩ := hrel
            rcases Nat.eq_zero_or_pos N with hN0 | hN0
            · subst hN0
              have hgx : Hid (M = Nat.gcd X0 Y0) := Lib.hid (by have := hgg.out; rw [Nat.gcd_zero_right] at this; exact this)
              go_wp2_with fail
              refine (nat_Of _ _ (by omega) (by omega)).mono ?_
              rintro e w5 ⟨v5, rfl, o5, b5⟩
              go_wp2
              go_ret2
              refine ⟨_, rfl, ?_, (hb3.trans (below_drawsB _ w3 nq)).trans (b5.mono hb3.size)⟩
              rw [← hgx.out]
              exact o5.lower hb3.size
            · have t2 : ((N : Int) != 0) = true := by rw [bne_iff_ne]; omega
              have hmod : M % N < N := Nat.mod_lt _ hN0
              have hgg2 : Hid (Nat.gcd N (M % N) = Nat.gcd X0 Y0) := Lib.hid (by rw [← hgg.out, Nat.gcd_comm M N, Nat.gcd_rec N M, Nat.gcd_comm])
              have hN1 : (1 : Int) ≤ (N : Int) := by omega
              have hM0 : (0 : Int) ≤ (M : Int) := by omega
              have t3 : ((N : Int) == 0) = false := by rw [beq_eq_false_iff_ne]; omega
              have t4 : ((M : Int) % (N : Int)) = ((M % N : Nat) : Int) := rfl
              have T4 := Lib.hid t4
              clear t4
              go_wp2
              go_quiet (fail)
              go_wp2
              go_roundg (N)
              case measure => omega
              case rel => exact ⟨N, M % N, rfl, congrArg (Value.int .u64) T4.out, hN, by omega, hgg2, hmod, by first | exact ⟨_, rfl⟩ | (simp only [World.drewN_drewN]; exact ⟨_, rfl⟩)⟩
  · have hr : Num.nGcd a b = ([], Num.nChecked a b) := by unfold Num.nGcd; rw [if_neg h0]
    rw [hr]
    clear hr
    generalize Num.nChecked a b = er at *
    go_enter Try.func56, Try.ntmps56
    go_wp2_with fail
    refine H1.out.mono ?_
    rintro e w' ⟨rfl, rfl⟩
    go_wp2
    go_ret2
    exact ⟨_, rfl, Own.nil_ _ _, Below.refl _ _⟩
end Go.Proofs.Ytfmhfgjpbkmneaa
namespace Go.Proofs.Ytfmhfgjpbkmneaa
set_option linter.unusedVariables false
set_option linter.unusedSimpArgs false
namespace Num
/-- a fraction as plain data -/
structure Ra where
  neg : Bool
  num : List Int
  den : List Int
def Ra.zero : Ra := ⟨false, [], []⟩
def rLowest (neg : Bool) (n d : Nat) : Ra × Int :=
  if 2048 < (words (n / Nat.gcd n d)).length ∨ 2048 < (words (d / Nat.gcd n d)).length then (Ra.zero, 3)
  else (⟨neg && decide (0 < (words (n / Nat.gcd n d)).length), words (n / Nat.gcd n d), words (d / Nat.gcd n d)⟩, 0)
/-- may it be, as far as words go? -/
def okB (r : Ra) : Bool := decide (nCheck r.num = 0) && (decide (nCheck r.den = 0) && (decide (0 < r.den.length) && ((!decide (r.num.length = 0) || !r.neg) && decide (Nat.gcd (val r.num) (val r.den) = 1))))
def rCheck (r : Ra) : Int := if 2048 < r.num.length ∨ 2048 < r.den.length then 3 else if okB r = true then 0 else 11
def rChecks (a b : Ra) : Int := if rCheck a = 0 then rCheck b else rCheck a
def rPlus (a b : Ra) : Ra × Int :=
  if a.neg = b.neg then rLowest a.neg (val a.num * val b.den + val b.num * val a.den) (val a.den * val b.den)
  else if val a.num * val b.den < val b.num * val a.den then rLowest b.neg (val b.num * val a.den - val a.num * val b.den) (val a.den * val b.den)
  else rLowest a.neg (val a.num * val b.den - val b.num * val a.den) (val a.den * val b.den)
def rTurned (a : Ra) : Ra := ⟨!a.neg && decide (0 < a.num.length), a.num, a.den⟩
def rAdd (a b : Ra) : Ra × Int := if rChecks a b = 0 then rPlus a b else (Ra.zero, rChecks a b)
def rSub (a b : Ra) : Ra × Int := if rChecks a b = 0 then rPlus a (rTurned b) else (Ra.zero, rChecks a b)
def rMul (a b : Ra) : Ra × Int := if rChecks a b = 0 then rLowest (a.neg != b.neg) (val a.num * val b.num) (val a.den * val b.den) else (Ra.zero, rChecks a b)
def rQuo (a b : Ra) : Ra × Int := if rChecks a b = 0 then (if b.num.length = 0 then (Ra.zero, 7) else rLowest (a.neg != b.neg) (val a.num * val b.den) (val a.den * val b.num)) else (Ra.zero, rChecks a b)
def rNeg (a : Ra) : Ra × Int := if rCheck a = 0 then (rTurned a, 0) else (Ra.zero, rCheck a)
def rSmall (n d : Int) : Ra × Int := if d = 0 then (Ra.zero, 7) else rLowest (decide (n < 0) != decide (d < 0)) n.natAbs d.natAbs
theorem check_of {r : Ra} (h : rCheck r = 0) : nCheck r.num = 0 ∧ nCheck r.den = 0 ∧ 0 < r.den.length ∧ (r.num.length = 0 → r.neg = false) ∧ Nat.gcd (val r.num) (val r.den) = 1 ∧ r.num.length ≤ 2048 ∧ r.den.length ≤ 2048 := by
  unfold rCheck at h
  split at h
  · omega
  · split at h
    · rename_i h1 h2
      unfold okB at h2
      simp only [Bool.and_eq_true, decide_eq_true_eq, Bool.or_eq_true, Bool.not_eq_true', decide_eq_false_iff_not] at h2
      obtain ⟨a1, a2, a3, a4, a5⟩ := h2
      exact ⟨a1, a2, a3, fun e => a4.resolve_left (fun f => f e), a5, by omega, by omega⟩
    · omega
theorem checks_of {a b : Ra} (h : rChecks a b = 0) : rCheck a = 0 ∧ rCheck b = 0 := by
  unfold rChecks at h
  split at h
  · exact ⟨by assumption, h⟩
  · exact absurd h (by assumption)
end Num
end Go.Proofs.Ytfmhfgjpbkmneaa
