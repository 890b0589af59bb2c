import Derived.Test.YtfmhfgjpbkmneaaProg
import Derived.WalkKit
import Derived.LoopTactic
import Derived.Below
import Derived.KernelRfl
import Derived.Lib.Hide
import Derived.Outline
import Derived.Deep.QuietTactic
import Derived.BigQuiet
import Derived.Deep.LoopGhost
import Derived.OwnWalk
import Derived.Laws.AppendOwn
import Derived.Laws.OwnMore
import Derived.Laws.MakeOwn
import Derived.Deep.Draws
import Derived.Maps.AppendAt
import Derived.WalkSpells
import Derived.Laws.BitsLemmas
namespace Go.Proofs.Ytfmhfgjpbkmneaa
set_option linter.unusedVariables false
set_option linter.unusedSimpArgs false
namespace Num
/-- 2^32 -/
abbrev B : Nat := 4294967296
/-- each is a word -/
def W (l : List Int) : Prop := ∀ x ∈ l, 0 ≤ x ∧ x < 4294967296
def val : List Int → Nat
  | [] => 0
  | x :: r => x.toNat + 4294967296 * val r
def wordsF : Nat → Nat → List Int
  | 0, _ => []
  | k + 1, n => if n = 0 then [] else ((n % 4294967296 : Nat) : Int) :: wordsF k (n / 4294967296)
def words (n : Nat) : List Int := wordsF (n.log2 + 1) n
/-- no nought at the end -/
def norm (l : List Int) : Prop := ∀ x, l.getLast? = some x → x ≠ 0

theorem W_nil : W [] := fun x h => by simp at h
theorem W_cons {x : Int} {l : List Int} : W (x :: l) ↔ (0 ≤ x ∧ x < 4294967296) ∧ W l := by simp [W]
theorem W_append {a b : List Int} : W (a ++ b) ↔ W a ∧ W b := by
  simp only [W, List.mem_append]
  exact ⟨fun h => ⟨fun x hx => h x (.inl hx), fun x hx => h x (.inr hx)⟩, fun h x hx => hx.elim (h.1 x) (h.2 x)⟩
theorem W_take {l : List Int} (h : W l) (n : Nat) : W (l.take n) := fun x hx => h x (List.mem_of_mem_take hx)
theorem W_drop {l : List Int} (h : W l) (n : Nat) : W (l.drop n) := fun x hx => h x (List.mem_of_mem_drop hx)
theorem W_set {l : List Int} (h : W l) (i : Nat) {x : Int} (h0 : 0 ≤ x) (h1 : x < 4294967296) : W (l.set i x) := fun y hy => by
  rcases List.mem_or_eq_of_mem_set hy with hy | rfl
  · exact h y hy
  · exact ⟨h0, h1⟩
theorem W_replicate (n : Nat) : W (List.replicate n 0) := fun x hx => by rw [(List.mem_replicate.1 hx).2]; omega
theorem W_get {l : List Int} (h : W l) (i : Nat) : 0 ≤ l.getD i 0 ∧ l.getD i 0 < 4294967296 := by
  rw [List.getD_eq_getElem?_getD]
  rcases hi : l[i]? with _ | x
  · simp
  · exact h x (List.mem_of_getElem? hi)

theorem val_append (a b : List Int) : val (a ++ b) = val a + 4294967296 ^ a.length * val b := by
  induction a with
  | nil => simp [val]
  | cons x r ih => simp only [List.cons_append, val, ih, List.length_cons, Nat.pow_succ]; grind
theorem val_lt {l : List Int} (h : W l) : val l < 4294967296 ^ l.length := by
  induction l with
  | nil => simp [val]
  | cons x r ih =>
    obtain ⟨hx, hr⟩ := W_cons.1 h
    have := ih hr
    simp only [val, List.length_cons, Nat.pow_succ]
    have h2 : x.toNat < 4294967296 := by omega
    have h3 : val r + 1 ≤ 4294967296 ^ r.length := this
    have h4 : 4294967296 * (val r + 1) ≤ 4294967296 * 4294967296 ^ r.length := Nat.mul_le_mul_left _ h3
    rw [Nat.mul_comm (4294967296 ^ r.length)]
    omega
theorem val_replicate (n : Nat) : val (List.replicate n 0) = 0 := by
  induction n with
  | zero => rfl
  | succ n ih => simp [List.replicate_succ, val, ih]
theorem val_eq_zero {l : List Int} (h : W l) : val l = 0 ↔ l = List.replicate l.length 0 := by
  induction l with
  | nil => simp [val]
  | cons x r ih =>
    obtain ⟨hx, hr⟩ := W_cons.1 h
    simp only [val, List.length_cons, List.replicate_succ, List.cons.injEq]
    rw [← ih hr]
    omega
theorem wordsF_val : ∀ (k n : Nat), n < 2 ^ k → val (wordsF k n) = n
  | 0, n, h => by simp at h; simp [wordsF, val, h]
  | k + 1, n, h => by
    unfold wordsF
    split
    · rename_i h0; simp [val, h0]
    · have h1 : n / 4294967296 < 2 ^ k := by rw [Nat.pow_succ] at h; omega
      simp only [val, wordsF_val k _ h1]
      omega
theorem wordsF_W : ∀ (k n : Nat), W (wordsF k n)
  | 0, n => by simp [wordsF, W_nil]
  | k + 1, n => by
    unfold wordsF
    split
    · exact W_nil
    · exact W_cons.2 ⟨by omega, wordsF_W k _⟩
theorem norm_nil : norm [] := fun x h => by simp at h
theorem norm_cons {x : Int} {l : List Int} (hl : l ≠ []) : norm (x :: l) ↔ norm l := by
  unfold norm
  cases l with
  | nil => exact absurd rfl hl
  | cons y r => simp [List.getLast?_cons_cons]
theorem norm_one {x : Int} : norm [x] ↔ x ≠ 0 := by simp [norm]
theorem val_pos {l : List Int} (h : W l) (hn : norm l) (h0 : l ≠ []) : 0 < val l := by
  induction l with
  | nil => exact absurd rfl h0
  | cons x r ih =>
    obtain ⟨hx, hr⟩ := W_cons.1 h
    rcases Classical.em (r = []) with rfl | he
    · have := norm_one.1 hn
      simp only [val]
      omega
    · have := ih hr ((norm_cons he).1 hn) he
      simp only [val]
      omega
theorem norm_of_val {l : List Int} (h : W l) (hv : ∀ n, n < l.length → 4294967296 ^ n ≤ val l) : norm l := by
  induction l with
  | nil => exact norm_nil
  | cons x r ih =>
    obtain ⟨hx, hr⟩ := W_cons.1 h
    rcases Classical.em (r = []) with rfl | he
    · have := hv 0 (by simp)
      simp [val] at this
      exact norm_one.2 (by omega)
    · refine (norm_cons he).2 (ih hr fun n hn => ?_)
      have := hv (n + 1) (by simpa using hn)
      simp only [val, Nat.pow_succ] at this
      omega
theorem wordsF_norm : ∀ (k n : Nat), n < 2 ^ k → norm (wordsF k n)
  | 0, n, _ => norm_nil
  | k + 1, n, h => by
    unfold wordsF
    split
    · exact norm_nil
    · have h1 : n / 4294967296 < 2 ^ k := by rw [Nat.pow_succ] at h; omega
      have hv := wordsF_val k _ h1
      rcases Classical.em (wordsF k (n / 4294967296) = []) with he | he
      · rw [he] at hv ⊢
        simp [val] at hv
        exact norm_one.2 (by omega)
      · exact (norm_cons he).2 (wordsF_norm k _ h1)
theorem val_words (n : Nat) : val (words n) = n := wordsF_val _ _ Nat.lt_log2_self
theorem W_words (n : Nat) : W (words n) := wordsF_W _ _
theorem norm_words (n : Nat) : norm (words n) := wordsF_norm _ _ Nat.lt_log2_self
theorem val_inj : ∀ {a b : List Int}, W a → W b → norm a → norm b → val a = val b → a = b
  | [], [], _, _, _, _, _ => rfl
  | [], y :: s, _, hb, _, nb, h => by have := val_pos hb nb (by simp); rw [← h] at this; simp [val] at this
  | x :: r, [], ha, _, na, _, h => by have := val_pos ha na (by simp); rw [h] at this; simp [val] at this
  | x :: r, y :: s, ha, hb, na, nb, h => by
    obtain ⟨hx, hr⟩ := W_cons.1 ha
    obtain ⟨hy, hs⟩ := W_cons.1 hb
    simp only [val] at h
    have e1 : x = y := by omega
    have e2 : val r = val s := by omega
    have nr : norm r := by
      rcases Classical.em (r = []) with rfl | he
      · exact norm_nil
      · exact (norm_cons he).1 na
    have ns : norm s := by
      rcases Classical.em (s = []) with rfl | he
      · exact norm_nil
      · exact (norm_cons he).1 nb
    rw [e1, val_inj hr hs nr ns e2]
theorem words_val {l : List Int} (h : W l) (hn : norm l) : words (val l) = l := val_inj (W_words _) h (norm_words _) hn (val_words _)
theorem words_zero : words 0 = [] := rfl
theorem val_ge {l : List Int} (h : W l) (hn : norm l) (h0 : l ≠ []) : 4294967296 ^ (l.length - 1) ≤ val l := by
  induction l with
  | nil => exact absurd rfl h0
  | cons x r ih =>
    obtain ⟨hx, hr⟩ := W_cons.1 h
    rcases Classical.em (r = []) with rfl | he
    · have := norm_one.1 hn
      simp [val]
      omega
    · have := ih hr ((norm_cons he).1 hn) he
      obtain ⟨y, t, rfl⟩ := List.exists_cons_of_ne_nil he
      simp only [List.length_cons, Nat.add_sub_cancel] at this ⊢
      simp only [val, Nat.pow_succ] at this ⊢
      omega
theorem words_len {n k : Nat} : (words n).length ≤ k ↔ n < 4294967296 ^ k := by
  constructor
  · intro h
    have h1 := val_lt (W_words n)
    rw [val_words] at h1
    exact Nat.lt_of_lt_of_le h1 (Nat.pow_le_pow_right (by omega) h)
  · intro h
    rcases Classical.em (words n = []) with he | he
    · simp [he]
    · have h1 := val_ge (W_words n) (norm_words n) he
      rw [val_words] at h1
      have h2 : 4294967296 ^ ((words n).length - 1) < 4294967296 ^ k := Nat.lt_of_le_of_lt h1 h
      have h3 := (Nat.pow_lt_pow_iff_right (by omega : 1 < 4294967296)).1 h2
      omega
theorem words_eq_nil {n : Nat} : words n = [] ↔ n = 0 := by
  constructor
  · intro h; have := val_words n; rw [h] at this; simpa [val] using this.symm
  · rintro rfl; rfl
/-- what `cut` leaves -/
theorem cut_words {l : List Int} (h : W l) (n : Nat) (hz : ∀ i, n ≤ i → i < l.length → l.getD i 0 = 0) (hn : n ≤ l.length) (hl : n = 0 ∨ l.getD (n - 1) 0 ≠ 0) : l.take n = words (val l) := by
  have hd : l.drop n = List.replicate (l.length - n) 0 := by
    apply List.ext_getElem
    · simp
    · intro i h1 h2
      have := hz (n + i) (by omega) (by simp at h1; omega)
      rw [List.getD_eq_getElem?_getD, List.getElem?_eq_getElem (by simp at h1; omega)] at this
      simpa using this
  have hv : val l = val (l.take n) := by
    conv => lhs; rw [← List.take_append_drop n l]
    rw [val_append, hd, val_replicate]; omega
  have hnm : norm (l.take n) := by
    intro x hx
    rw [List.getLast?_eq_getElem?] at hx
    simp only [List.length_take, Nat.min_eq_left hn] at hx
    rcases hl with rfl | hl
    · simp at hx
    · rcases Nat.eq_zero_or_pos n with rfl | hp
      · simp at hx
      · rw [List.getElem?_take_of_lt (by omega)] at hx
        rw [List.getD_eq_getElem?_getD, hx] at hl
        exact hl
  rw [hv, words_val (W_take h n) hnm]

/-! ### parts of lists -/
/-- the word at a place -/
def at_ (l : List Int) (i : Nat) : Int := l.getD i 0
theorem at_lt {l : List Int} (h : W l) (i : Nat) : 0 ≤ at_ l i ∧ at_ l i < 4294967296 := W_get h i
theorem at_out {l : List Int} {i : Nat} (h : l.length ≤ i) : at_ l i = 0 := by simp [at_, List.getD_eq_getElem?_getD, List.getElem?_eq_none h]
theorem at_set (l : List Int) (i j : Nat) (x : Int) (h : i < l.length) : at_ (l.set i x) j = if i = j then x else at_ l j := by
  simp only [at_, List.getD_eq_getElem?_getD, List.getElem?_set]
  split
  · rename_i e; subst e; simp [h]
  · rfl
theorem take_succ_at {l : List Int} {i : Nat} (h : i < l.length) : l.take (i + 1) = l.take i ++ [at_ l i] := by
  rw [List.take_succ_eq_append_getElem h]
  simp [at_, List.getD_eq_getElem?_getD, List.getElem?_eq_getElem h]
theorem drop_at {l : List Int} {i : Nat} (h : i < l.length) : l.drop i = at_ l i :: l.drop (i + 1) := by
  rw [List.drop_eq_getElem_cons h]
  simp [at_, List.getD_eq_getElem?_getD, List.getElem?_eq_getElem h]
theorem val_take_succ (l : List Int) (i : Nat) : val (l.take (i + 1)) = val (l.take i) + 4294967296 ^ i * (at_ l i).toNat := by
  rcases Nat.lt_or_ge i l.length with h | h
  · rw [take_succ_at h, val_append, List.length_take, Nat.min_eq_left (by omega)]
    simp [val]
  · rw [at_out h, List.take_of_length_le h, List.take_of_length_le (by omega)]
    simp
theorem val_drop (l : List Int) (i : Nat) : val (l.drop i) = (at_ l i).toNat + 4294967296 * val (l.drop (i + 1)) := by
  rcases Nat.lt_or_ge i l.length with h | h
  · rw [drop_at h]; rfl
  · rw [at_out h, List.drop_of_length_le h, List.drop_of_length_le (by omega)]; rfl
theorem val_split (l : List Int) (i : Nat) : val l = val (l.take i) + 4294967296 ^ i * val (l.drop i) := by
  rcases Nat.lt_or_ge i l.length with h | h
  · conv => lhs; rw [← List.take_append_drop i l]
    rw [val_append, List.length_take, Nat.min_eq_left (by omega)]
  · rw [List.take_of_length_le h, List.drop_of_length_le h]; simp [val]
theorem val_set (l : List Int) (i : Nat) (x : Int) (h : i < l.length) : val (l.set i x) + 4294967296 ^ i * (at_ l i).toNat = val l + 4294967296 ^ i * x.toNat := by
  induction l generalizing i with
  | nil => simp at h
  | cons y r ih =>
    cases i with
    | zero => simp [val, at_]; omega
    | succ i =>
      have := ih i (by simpa using h)
      simp only [at_, List.getD_cons_succ, List.set_cons_succ, val, Nat.pow_succ] at this ⊢
      grind
theorem take_set (l : List Int) (i : Nat) (x : Int) : (l.set i x).take i = l.take i := by rw [List.take_set_of_le (Nat.le_refl _)]
theorem drop_set (l : List Int) (i : Nat) (x : Int) : (l.set i x).drop (i + 1) = l.drop (i + 1) := by rw [List.drop_set_of_lt (by omega)]
theorem val_take_lt {l : List Int} (h : W l) (i : Nat) : val (l.take i) < 4294967296 ^ i :=
  Nat.lt_of_lt_of_le (val_lt (W_take h i)) (Nat.pow_le_pow_right (by omega) (by rw [List.length_take]; omega))
/-- which is greater: by the first words that are unlike -/
theorem val_lt_of {a b : List Int} (ha : W a) (hb : W b) (i : Nat) (he : val (a.drop (i + 1)) = val (b.drop (i + 1))) (h : at_ a i < at_ b i) : val a < val b := by
  have h1 := val_take_lt ha i
  have h2 := val_split a i
  have h3 := val_split b i
  rw [val_drop a i] at h2
  rw [val_drop b i, ← he] at h3
  have ha' := at_lt ha i
  have hb' := at_lt hb i
  have h4 : (at_ a i).toNat + 1 ≤ (at_ b i).toNat := by omega
  have h5 : 4294967296 ^ i * ((at_ a i).toNat + 1) ≤ 4294967296 ^ i * (at_ b i).toNat := Nat.mul_le_mul_left _ h4
  rw [h2, h3]
  grind
theorem val_lt_len {a b : List Int} (ha : W a) (hb : W b) (nb : norm b) (h : a.length < b.length) : val a < val b := by
  have h1 := val_lt ha
  have h2 := val_ge hb nb (by intro e; simp [e] at h)
  exact Nat.lt_of_lt_of_le h1 (Nat.le_trans (Nat.pow_le_pow_right (by omega) (by omega)) h2)

/-! ### one word of a quotient: out of the first words -/
/-- The guess is never too small: while it is too great by the first words it is too great. -/
theorem guess_high {U V B' u0 v0 q top w : Nat} (hu : U < (top * 4294967296 + w + 1) * B') (hv : (v0 * 4294967296 + u0) * B' ≤ V) (h : top * 4294967296 + w < q * (v0 * 4294967296 + u0)) : U < q * V := by
  calc U < (top * 4294967296 + w + 1) * B' := hu
    _ ≤ (q * (v0 * 4294967296 + u0)) * B' := Nat.mul_le_mul_right _ h
    _ = q * ((v0 * 4294967296 + u0) * B') := Nat.mul_assoc _ _ _
    _ ≤ q * V := Nat.mul_le_mul_left _ hv
/-- One that is not too great by the first words is too great by one at the most. -/
theorem guess_low {U V B' u0 v0 q top w : Nat} (hu : (top * 4294967296 + w) * B' ≤ U) (hv : V < (v0 * 4294967296 + u0 + 1) * B') (hq : q ≤ v0 * 4294967296 + u0 + 1) (hq1 : 1 ≤ q) (h : q * (v0 * 4294967296 + u0) ≤ top * 4294967296 + w) : (q - 1) * V ≤ U := by
  obtain ⟨p, rfl⟩ : ∃ p, q = p + 1 := ⟨q - 1, by omega⟩
  calc (p + 1 - 1) * V = p * V := rfl
    _ ≤ p * ((v0 * 4294967296 + u0 + 1) * B') := Nat.mul_le_mul_left _ (Nat.le_of_lt hv)
    _ = (p * (v0 * 4294967296 + u0 + 1)) * B' := (Nat.mul_assoc _ _ _).symm
    _ ≤ (top * 4294967296 + w) * B' := Nat.mul_le_mul_right _ (by grind)
    _ ≤ U := hu
end Num
namespace Frac
/-- a size with a sign -/
def sgn (neg : Bool) (n : Nat) : Int := if neg then -(n : Int) else n
theorem sgn_abs (neg : Bool) (n : Nat) : (sgn neg n).natAbs = n := by unfold sgn; split <;> simp
theorem lowest_num (neg : Bool) (n d : Nat) (hd : d ≠ 0) : (mkRat (sgn neg n) d).num.natAbs = n / Nat.gcd n d ∧ (mkRat (sgn neg n) d).den = d / Nat.gcd n d ∧ (decide ((mkRat (sgn neg n) d).num < 0) = (neg && decide (n ≠ 0))) := by
  rw [mkRat, dif_neg hd, Rat.normalize_eq]
  simp only [sgn_abs]
  have hg : 0 < Nat.gcd n d := Nat.gcd_pos_of_pos_right _ (Nat.pos_of_ne_zero hd)
  have hdv : ((Nat.gcd n d : Nat) : Int) ∣ (n : Int) := Int.natCast_dvd_natCast.2 (Nat.gcd_dvd_left n d)
  have e : sgn neg n / (Nat.gcd n d : Int) = sgn neg (n / Nat.gcd n d) := by
    unfold sgn
    split
    · rw [Int.neg_ediv_of_dvd hdv, Int.natCast_ediv]
    · rw [Int.natCast_ediv]
  rw [e]
  refine ⟨sgn_abs _ _, trivial, ?_⟩
  have hz : n / Nat.gcd n d = 0 ↔ n = 0 := by
    constructor
    · intro h
      have := Nat.div_mul_cancel (Nat.gcd_dvd_left n d)
      rw [h] at this
      omega
    · intro h; simp [h]
  generalize hx : n / Nat.gcd n d = x at hz ⊢
  unfold sgn
  cases neg
  · simp
  · simp only [if_true, Bool.true_and, ne_eq, decide_eq_decide]
    omega
theorem mk_of {q : Rat} : q = mkRat q.num q.den := (Rat.mkRat_self q).symm
theorem sgn_num (q : Rat) : sgn (decide (q.num < 0)) q.num.natAbs = q.num := by
  unfold sgn
  rcases Int.lt_or_le q.num 0 with h | h
  · rw [if_pos (by simpa using h)]; have := Int.natAbs_neg q.num; rw [← this, Int.natAbs_of_nonneg (by omega)]; omega
  · rw [if_neg (by simpa using h)]; exact Int.natAbs_of_nonneg h
/-- what is in its one form is a number's -/
theorem red_num (neg : Bool) (n d : Nat) (hd : d ≠ 0) (hg : Nat.gcd n d = 1) (hn : n = 0 → neg = false) :
    (mkRat (sgn neg n) d).num.natAbs = n ∧ (mkRat (sgn neg n) d).den = d ∧ decide ((mkRat (sgn neg n) d).num < 0) = neg := by
  obtain ⟨h1, h2, h3⟩ := lowest_num neg n d hd
  rw [hg] at h1 h2
  refine ⟨by simpa using h1, by simpa using h2, ?_⟩
  rw [h3]
  cases neg
  · rfl
  · have : n ≠ 0 := fun e => by simpa using hn e
    simp [this]
end Frac
end Go.Proofs.Ytfmhfgjpbkmneaa
namespace Go.Proofs.Ytfmhfgjpbkmneaa
open Go.RowKit
set_option linter.unusedVariables false
set_option linter.unusedSimpArgs false
/-! ### Words for memory -/
/-- A slice (its address, its words) that reads as l. -/
def Sl (w : World) (A : Option Addr) (l : List Int) : Prop :=
  0 < l.length → ∃ ad, A = some ad ∧ ∀ j, j < l.length → w.cell? (ad.add j) = some (.int .u32 (Num.at_ l j))
theorem Sl.below {w w1 : World} {A : Option Addr} {l : List Int} (h : Sl w A l) (hb : Below w.heap.size w w1) : Sl w1 A l := fun hn => by
  obtain ⟨ad, e, hc⟩ := h hn
  exact ⟨ad, e, fun j hj => (hb.cell (World.block_lt_of_cell? w _ (hc j hj))).trans (hc j hj)⟩
theorem Sl.take {w : World} {A : Option Addr} {l : List Int} (h : Sl w A l) (n : Nat) : Sl w A (l.take n) := fun hn => by
  obtain ⟨ad, e, hc⟩ := h (by rw [List.length_take] at hn; omega)
  refine ⟨ad, e, fun j hj => ?_⟩
  rw [List.length_take] at hj
  rw [hc j (by omega)]
  simp only [Num.at_, List.getD_eq_getElem?_getD]
  rw [List.getElem?_take_of_lt (by omega)]

/-! ### A window of a block of words that may be written -/
def Win (w : World) (g c o : Nat) (l : List Int) : Prop :=
  ∃ cur : Array Value, w.heap[g]? = some (.cells cur 100 (0, 0)) ∧ cur.size = c ∧ o + l.length ≤ c ∧ ∀ j, j < l.length → cur[o + j]? = some (.int .u32 (Num.at_ l j))
/-- Only this window has been written. -/
structure Upd (w w' : World) (g o n : Nat) : Prop where
  os : w'.os = w.os
  tape : w'.tape = w.tape
  output : w'.output = w.output
  size : w'.heap.size = w.heap.size
  other : ∀ k, k ≠ g → w'.heap[k]? = w.heap[k]?
  here : ∀ cur : Array Value, w.heap[g]? = some (.cells cur 100 (0, 0)) → ∃ cur' : Array Value, w'.heap[g]? = some (.cells cur' 100 (0, 0)) ∧ cur'.size = cur.size ∧ ∀ i, i < o ∨ o + n ≤ i → cur'[i]? = cur[i]?
theorem Upd.refl (w : World) (g o n : Nat) : Upd w w g o n := ⟨rfl, rfl, rfl, rfl, fun _ _ => rfl, fun cur h => ⟨cur, h, rfl, fun _ _ => rfl⟩⟩
theorem Upd.trans {w w1 w2 : World} {g o n : Nat} (h : Upd w w1 g o n) (k : Upd w1 w2 g o n) : Upd w w2 g o n :=
  ⟨k.os.trans h.os, k.tape.trans h.tape, k.output.trans h.output, k.size.trans h.size, fun i hi => (k.other i hi).trans (h.other i hi), fun cur hc => by
    obtain ⟨c1, h1, s1, e1⟩ := h.here cur hc
    obtain ⟨c2, h2, s2, e2⟩ := k.here c1 h1
    exact ⟨c2, h2, s2.trans s1, fun i hi => (e2 i hi).trans (e1 i hi)⟩⟩
theorem heap_set (w : World) (g j : Nat) (v : Value) {cur : Array Value} (h : w.heap[g]? = some (.cells cur 100 (0, 0))) : (w.setCell ⟨g, j, none⟩ v).heap[g]? = some (.cells (cur.setIfInBounds j v) 100 (0, 0)) := by
  simp [World.setCell, Array.getElem?_modify, h]
theorem Upd.set1 (w : World) (g o n i : Nat) (v : Value) (hi : i < n) : Upd w (w.setCell ⟨g, o + i, none⟩ v) g o n :=
  ⟨rfl, rfl, rfl, by simp [World.setCell], fun k hk => Below.heap_setCell w _ v k hk, fun cur hc => by
    refine ⟨_, heap_set w g _ v hc, by simp, fun j hj => ?_⟩
    rw [Array.getElem?_setIfInBounds]
    split
    · omega
    · rfl⟩
theorem Upd.set_ {w w1 : World} {g o n : Nat} (h : Upd w w1 g o n) (i : Nat) (v : Value) (hi : i < n) : Upd w (w1.setCell ⟨g, o + i, none⟩ v) g o n := h.trans (Upd.set1 w1 g o n i v hi)
theorem Upd.drew {w w1 : World} {g o n : Nat} (h : Upd w w1 g o n) : Upd w w1.drew g o n := ⟨h.os, h.tape, h.output, h.size, h.other, h.here⟩
theorem Upd.drewN {w w1 : World} {g o n : Nat} (h : Upd w w1 g o n) (m : Nat) : Upd w (w1.drewN m) g o n := ⟨h.os, h.tape, h.output, h.size, h.other, h.here⟩
theorem Upd.wider {w w1 : World} {g o n o' n' : Nat} (h : Upd w w1 g o n) (h1 : o' ≤ o) (h2 : o + n ≤ o' + n') : Upd w w1 g o' n' :=
  ⟨h.os, h.tape, h.output, h.size, h.other, fun cur hc => by
    obtain ⟨c1, k1, s1, e1⟩ := h.here cur hc
    exact ⟨c1, k1, s1, fun i hi => e1 i (by omega)⟩⟩
theorem Upd.grown {w w1 : World} {g o n : Nat} (h : Upd w w1 g o n) : w.grownBy w1 (some g) := ⟨h.os, h.tape, h.output, Nat.le_of_eq h.size.symm, fun k _ hk => h.other k (fun e => hk (by rw [e]))⟩
theorem Upd.below {w w1 : World} {g o n B : Nat} (h : Upd w w1 g o n) (hg : B ≤ g) : Below B w w1 := ⟨h.os, h.tape, h.output, Nat.le_of_eq h.size.symm, fun k hk => h.other k (by omega)⟩
theorem Sl.upd {w w1 : World} {A : Option Addr} {l : List Int} {g o n : Nat} (h : Sl w A l) (hu : Upd w w1 g o n) (hne : ∀ ad, A = some ad → 0 < l.length → ad.block ≠ g) : Sl w1 A l := fun hn => by
  obtain ⟨ad, e, hc⟩ := h hn
  refine ⟨ad, e, fun j hj => (World.cell?_of_block (hu.other _ ?_)).trans (hc j hj)⟩
  have : (ad.add j).block = ad.block := by unfold Addr.add; split <;> rfl
  rw [this]
  exact hne ad e hn
section
variable {w w' : World} {g c o : Nat} {l : List Int}
theorem Win.lt (h : Win w g c o l) : g < w.heap.size := by
  obtain ⟨cur, hh, _⟩ := h
  exact (Array.getElem?_eq_some_iff.1 hh).1
theorem Win.cell (h : Win w g c o l) (i : Nat) (hi : i < l.length) : w.cell? ⟨g, o + i, none⟩ = some (.int .u32 (Num.at_ l i)) := by
  obtain ⟨cur, hh, _, _, hc⟩ := h
  simp [World.cell?, hh, hc i hi]
theorem Win.free (h : Win w g c o l) (j : Nat) : w.frozen? ⟨g, j, none⟩ = false := by
  obtain ⟨cur, hh, _⟩ := h
  simp [World.frozen?, hh]
theorem Win.set_ (h : Win w g c o l) (i : Nat) (x : Int) (hi : i < l.length) : Win (w.setCell ⟨g, o + i, none⟩ (.int .u32 x)) g c o (l.set i x) := by
  obtain ⟨cur, hh, hs, hl, hc⟩ := h
  refine ⟨_, heap_set w g _ _ hh, by simpa using hs, by simpa using hl, fun j hj => ?_⟩
  rw [List.length_set] at hj
  rw [Array.getElem?_setIfInBounds, Num.at_set _ _ _ _ hi]
  by_cases e : i = j
  · subst e; rw [if_pos rfl, if_pos (by omega), if_pos rfl]
  · rw [if_neg (by omega), if_neg e]; exact hc j hj
theorem Win.drew (h : Win w g c o l) : Win w.drew g c o l := h
theorem Win.drewN (h : Win w g c o l) (n : Nat) : Win (w.drewN n) g c o l := h
theorem Win.block (h : Win w g c o l) (hb : w'.heap[g]? = w.heap[g]?) : Win w' g c o l := by
  obtain ⟨cur, hh, r⟩ := h
  exact ⟨cur, hb.trans hh, r⟩
theorem Win.below (h : Win w g c o l) (hb : Below w.heap.size w w') : Win w' g c o l := h.block (hb.block g h.lt)
theorem Win.other {g2 o2 n2 : Nat} (h : Win w g c o l) (hu : Upd w w' g2 o2 n2) (hne : g ≠ g2) : Win w' g c o l := h.block (hu.other g hne)
theorem Win.sl (h : Win w g c o l) : Sl w (some ⟨g, o, none⟩) l := fun _ => ⟨_, rfl, fun j hj => by
  have e : (⟨g, o, none⟩ : Addr).add j = ⟨g, o + j, none⟩ := by unfold Addr.add; split <;> simp_all
  rw [e]; exact h.cell j hj⟩
theorem Win.part (h : Win w g c o l) (i n : Nat) (hn : i + n ≤ l.length) : Win w g c (o + i) ((l.drop i).take n) := by
  obtain ⟨cur, hh, hs, hl, hc⟩ := h
  have hlen : ((l.drop i).take n).length = n := by rw [List.length_take, List.length_drop]; omega
  refine ⟨cur, hh, hs, by omega, fun j hj => ?_⟩
  rw [hlen] at hj
  rw [Nat.add_assoc, hc (i + j) (by omega)]
  simp only [Num.at_, List.getD_eq_getElem?_getD]
  rw [List.getElem?_take_of_lt hj, List.getElem?_drop]
theorem Win.patch {U l' : List Int} {i : Nat} (h : Win w g c o U) (hu : Upd w w' g (o + i) l'.length) (h' : Win w' g c (o + i) l') (hn : i + l'.length ≤ U.length) : Win w' g c o (U.take i ++ l' ++ U.drop (i + l'.length)) := by
  obtain ⟨cur, hh, hs, hl, hc⟩ := h
  obtain ⟨cur1, hh1, hs1, hl1, hc1⟩ := h'
  obtain ⟨cur2, hh2, hs2, he2⟩ := hu.here cur hh
  rw [hh1] at hh2
  injection hh2 with hh2
  injection hh2 with hh2
  subst hh2
  have hlen : (U.take i ++ l' ++ U.drop (i + l'.length)).length = U.length := by
    simp only [List.length_append, List.length_take, List.length_drop]; omega
  refine ⟨cur1, hh1, hs1, by omega, fun j hj => ?_⟩
  rw [hlen] at hj
  have e : Num.at_ (U.take i ++ l' ++ U.drop (i + l'.length)) j = if i ≤ j ∧ j < i + l'.length then Num.at_ l' (j - i) else Num.at_ U j := by
    simp only [Num.at_, List.getD_eq_getElem?_getD, List.append_assoc]
    rw [List.getElem?_append, List.length_take, Nat.min_eq_left (by omega)]
    split
    · rw [if_neg (by omega), List.getElem?_take_of_lt (by omega)]
    · rw [List.getElem?_append]
      split
      · rw [if_pos (by omega)]
      · rw [if_neg (by omega), List.getElem?_drop]; congr 2; omega
  rw [e]
  split
  · rename_i hij
    rw [← hc1 (j - i) (by omega)]; congr 1; omega
  · rw [he2 (o + j) (by omega)]; exact hc j hj
end

/-! ### What a call has made -/
/-- A slice of words that is new since lo; it may be written. -/
def Own (w : World) (lo : Nat) (v : Value) (l : List Int) : Prop :=
  (v = .slice none 0 0 ∧ l = []) ∨ ∃ g c, v = .slice (some ⟨g, 0, none⟩) l.length c ∧ lo ≤ g ∧ c ≤ maxLen ∧ Win w g c 0 l
def Ap (v1 v2 : Value) : Prop := ∀ k, v1.ownBlock = some k → v2.ownBlock = some k → False
section
variable {w w' : World} {lo : Nat} {v : Value} {l : List Int}
theorem Own.nil_ (w : World) (lo : Nat) : Own w lo (.slice none 0 0) [] := .inl ⟨rfl, rfl⟩
theorem Own.lower {lo' : Nat} (h : Own w lo v l) (hl : lo' ≤ lo) : Own w lo' v l := by
  rcases h with h | ⟨g, c, e, hg, r⟩
  · exact .inl h
  · exact .inr ⟨g, c, e, by omega, r⟩
theorem Own.below (h : Own w lo v l) (hb : Below w.heap.size w w') : Own w' lo v l := by
  rcases h with h | ⟨g, c, e, hg, hm, hw⟩
  · exact .inl h
  · exact .inr ⟨g, c, e, hg, hm, hw.below hb⟩
theorem Own.slice (h : Own w lo v l) : ∃ A c, v = .slice A l.length c ∧ l.length ≤ c ∧ Sl w A l ∧ l.length ≤ 9223372036854775807 := by
  rcases h with ⟨rfl, rfl⟩ | ⟨g, c, rfl, _, hm, hw⟩
  · exact ⟨none, 0, rfl, by simp, fun h => by simp at h, by simp⟩
  · have hs := hw.sl
    obtain ⟨cur, _, _, hl, _⟩ := hw
    unfold maxLen at hm
    exact ⟨_, c, rfl, by omega, hs, by omega⟩
theorem Own.lt (h : Own w lo v l) (k : Nat) (hk : v.ownBlock = some k) : lo ≤ k ∧ k < w.heap.size := by
  rcases h with ⟨rfl, _⟩ | ⟨g, c, rfl, hg, _, hw⟩
  · simp [Value.ownBlock] at hk
  · have e : g = k := by simpa [Value.ownBlock] using hk
    subst e
    exact ⟨hg, hw.lt⟩
/-- what is made later lies elsewhere -/
theorem Own.ap {lo2 : Nat} {v2 : Value} {l2 : List Int} (h : Own w lo v l) (h2 : Own w' lo2 v2 l2) (hl : w.heap.size ≤ lo2) : Ap v v2 := fun k h1 h3 => by
  have := (h.lt k h1).2
  have := (h2.lt k h3).1
  omega
theorem Ap.symm {v1 v2 : Value} (h : Ap v1 v2) : Ap v2 v1 := fun k h1 h2 => h k h2 h1
theorem Ap.nil_l (v : Value) : Ap (.slice none 0 0) v := fun k h _ => by simp [Value.ownBlock] at h
theorem Ap.nil_r (v : Value) : Ap v (.slice none 0 0) := fun k _ h => by simp [Value.ownBlock] at h
/-- out of the kit's own word -/
theorem Own.of_row {n : Nat} (h : w.ownsRow lo 100 1 v n (l.map (Value.int .u32))) : Own w lo v l := by
  obtain ⟨hn, h⟩ := h
  rw [List.length_map, Nat.mul_one] at hn
  subst hn
  rcases h with ⟨rfl, h0⟩ | ⟨g, cap, cur, rfl, hg, hh, hc, hm, hs, ht⟩
  · exact .inl ⟨by simp_all, List.eq_nil_of_length_eq_zero h0⟩
  · refine .inr ⟨g, cap, rfl, hg, hm, cur, hh, by omega, by omega, fun j hj => ?_⟩
    rw [Nat.mul_one] at ht
    have e : (cur.toList.take l.length)[j]? = (l.map (Value.int .u32))[j]? := by rw [ht]
    rw [List.getElem?_take_of_lt hj, List.getElem?_map, List.getElem?_eq_getElem hj] at e
    rw [Nat.zero_add, ← Array.getElem?_toList, e]
    simp [Num.at_, List.getD_eq_getElem?_getD, List.getElem?_eq_getElem hj]
theorem Own.row (h : Own w lo v l) : w.ownsRow lo 100 1 v l.length (l.map (Value.int .u32)) := by
  refine ⟨by simp, ?_⟩
  rcases h with ⟨rfl, rfl⟩ | ⟨g, c, rfl, hg, hm, cur, hh, hs, hl, hc⟩
  · exact .inl ⟨rfl, rfl⟩
  · refine .inr ⟨g, c, cur, rfl, hg, hh, by omega, hm, by omega, ?_⟩
    rw [Nat.mul_one]
    apply List.ext_getElem?
    intro j
    rcases Nat.lt_or_ge j l.length with hj | hj
    · rw [List.getElem?_take_of_lt hj, Array.getElem?_toList, List.getElem?_map, List.getElem?_eq_getElem hj]
      have := hc j hj
      rw [Nat.zero_add] at this
      rw [this]
      simp [Num.at_, List.getD_eq_getElem?_getD, List.getElem?_eq_getElem hj]
    · rw [List.getElem?_eq_none (by simp; omega), List.getElem?_eq_none (by simpa using hj)]
end
theorem bcell {W w1 : World} (hb : Below W.heap.size W w1) : (∀ b o, b < W.heap.size → w1.cell? ⟨b, o, none⟩ = W.cell? ⟨b, o, none⟩) ∧ (∀ b o, b < W.heap.size → w1.frozen? ⟨b, o, none⟩ = W.frozen? ⟨b, o, none⟩) :=
  ⟨fun b o h => hb.cell (p := ⟨b, o, none⟩) h, fun b o h => hb.frozen (p := ⟨b, o, none⟩) h⟩
theorem ret_slice {A : Option Addr} {n m c : Nat} (h : n = m) : Ending.returned (.slice A n c) = .returned (.slice A m c) := by rw [h]
theorem ret_int {k : IntKind} {a b : Int} (h : a = b) : Ending.returned (.int k a) = .returned (.int k b) := by rw [h]
theorem ret_tup1 {k : IntKind} {a b : Int} {v : Value} (h : a = b) : Ending.returned (.tuple #[.int k a, v]) = .returned (.tuple #[.int k b, v]) := by rw [h]
theorem ret_bool {a b : Bool} (h : a = b) : Ending.returned (.bool a) = .returned (.bool b) := by rw [h]
end Go.Proofs.Ytfmhfgjpbkmneaa
namespace Go.Proofs.Ytfmhfgjpbkmneaa
set_option linter.unusedVariables false
set_option linter.unusedSimpArgs false
namespace Num
/-! ### natural numbers, as words: what the calls tell -/
def nCheck (l : List Int) : Int := if 8192 < l.length then 3 else if l.getLast? = some 0 then 11 else 0
def nChecked (a b : List Int) : Int := if nCheck a = 0 then nCheck b else nCheck a
def nTold (n : Nat) : List Int × Int := if 8192 < (words n).length then ([], 3) else (words n, 0)
def nAdd (a b : List Int) : List Int × Int := if nChecked a b = 0 then nTold (val a + val b) else ([], nChecked a b)
def nSub (a b : List Int) : List Int × Int := if nChecked a b = 0 then (if val a < val b then ([], 2) else (words (val a - val b), 0)) else ([], nChecked a b)
def nMul (a b : List Int) : List Int × Int := if nChecked a b = 0 then (if a.length = 0 ∨ b.length = 0 then ([], 0) else if 8193 < a.length + b.length then ([], 3) else nTold (val a * val b)) else ([], nChecked a b)
def nDivMod (a b : List Int) : List Int × List Int × Int := if nChecked a b = 0 then (if b.length = 0 then ([], [], 7) else (words (val a / val b), words (val a % val b), 0)) else ([], [], nChecked a b)
def nGcd (a b : List Int) : List Int × Int := if nChecked a b = 0 then (words (Nat.gcd (val a) (val b)), 0) else ([], nChecked a b)
def nCompare (a b : List Int) : Int := if val a < val b then -1 else if val b < val a then 1 else 0
theorem check_long {l : List Int} (h : 8192 < l.length) : nCheck l = 3 := if_pos h
theorem check_nought {l : List Int} (h : ¬ 8192 < l.length) (h0 : 0 < l.length) (hx : at_ l (l.length - 1) = 0) : nCheck l = 11 := by
  unfold nCheck
  rw [if_neg h, if_pos]
  rw [List.getLast?_eq_getElem?]
  simp only [at_, List.getD_eq_getElem?_getD, List.getElem?_eq_getElem (show l.length - 1 < l.length by omega), Option.getD_some] at hx
  rw [List.getElem?_eq_getElem (by omega), hx]
theorem check_ok {l : List Int} (h : ¬ 8192 < l.length) (hx : l.length = 0 ∨ at_ l (l.length - 1) ≠ 0) : nCheck l = 0 := by
  unfold nCheck
  rw [if_neg h, if_neg]
  rw [List.getLast?_eq_getElem?]
  intro he
  rcases hx with hx | hx
  · rw [List.getElem?_eq_none (by omega)] at he; cases he
  · simp only [at_, List.getD_eq_getElem?_getD, he] at hx
    exact hx rfl
theorem norm_of_check {l : List Int} (h : nCheck l = 0) : norm l ∧ l.length ≤ 8192 := by
  unfold nCheck at h
  split at h
  · omega
  · split at h
    · omega
    · rename_i h1 h2
      exact ⟨fun x hx e => h2 (by rw [hx, e]), by omega⟩
theorem check_of_norm {l : List Int} (h : norm l) (hl : l.length ≤ 8192) : nCheck l = 0 := by
  unfold nCheck
  rw [if_neg (by omega), if_neg (fun e => h 0 e rfl)]
end Num
end Go.Proofs.Ytfmhfgjpbkmneaa
namespace Go.Proofs.Ytfmhfgjpbkmneaa
open Go.RowKit
set_option linter.unusedVariables false
set_option linter.unusedSimpArgs false
theorem cut_len {l : List Int} (h : Num.W l) {n : Nat} (hn : n ≤ l.length) (hz : ∀ i, n ≤ i → i < l.length → Num.at_ l i = 0) (hl : n = 0 ∨ Num.at_ l (n - 1) ≠ 0) : n = (Num.words (Num.val l)).length := by
  rw [← Num.cut_words h n hz hn hl, List.length_take, Nat.min_eq_left hn]
theorem nat_cut (A : Option Addr) (c : Nat) (l : List Int) (w : World) (hl : Sl w A l) (hc : l.length ≤ c) (hm : l.length ≤ 9223372036854775807) (hW : Num.W l) :
    Calls Try.prog 83 #[.slice A l.length c] w fun e w' => e = .returned (.slice A (Num.words (Num.val l)).length c) ∧ w = w' := by
  have HW := Lib.hid hW
  clear hW
  go_enter Try.func83, Try.ntmps83
  go_wp2
  go_loop [3] (fun v => ∃ n : Nat, n ≤ l.length ∧ Hid (∀ i, n ≤ i → i < l.length → Num.at_ l i = 0) ∧ v = .int .i64 n) (fun v => (intOf v).toNat)
  case atStart => exact ⟨_, Nat.le_refl _, Lib.hid fun i h h' => by omega, rfl⟩
  case round =>
    obtain ⟨n, hn, hz, rfl⟩ := hrel
    by_cases h0 : 0 < n
    · obtain ⟨ad, rfl, hcell⟩ := hl (by omega)
      have hx := hcell (n - 1) (by omega)
      clear hcell
      have e1 : ((n : Int) - 1).toNat = n - 1 := by omega
      have e2 : (0 : Int) ≤ (n : Int) - 1 := by omega
      by_cases hx0 : Num.at_ l (n - 1) = 0
      · rw [hx0] at hx
        go_wp2
        go_round
        case rel => exact ⟨n - 1, by omega, Lib.hid fun i h h' => by
          rcases Nat.lt_or_ge (n - 1) i with h2 | h2
          · exact hz.out i (by omega) h'
          · obtain rfl : i = n - 1 := by omega
            exact hx0, by go_num⟩
        case measure => simp [intOf]; omega
      · have hk : Hid (n = (Num.words (Num.val l)).length) := Lib.hid (cut_len HW.out hn hz.out (.inr hx0))
        go_wp2
        go_ret
        exact ⟨ret_slice hk.out, rfl⟩
    · obtain rfl : n = 0 := by omega
      have hk : Hid (0 = (Num.words (Num.val l)).length) := Lib.hid (cut_len HW.out hn hz.out (.inl rfl))
      go_wp2
      go_ret
      exact ⟨ret_slice hk.out, rfl⟩
end Go.Proofs.Ytfmhfgjpbkmneaa
namespace Go.Proofs.Ytfmhfgjpbkmneaa
open Go.RowKit
set_option linter.unusedVariables false
set_option linter.unusedSimpArgs false
theorem nat_Check (A : Option Addr) (c : Nat) (l : List Int) (w : World) (hl : Sl w A l) (hm : l.length ≤ 9223372036854775807) :
    Calls Try.prog 55 #[.slice A l.length c] w fun e w' => e = .returned (.int .i64 (Num.nCheck l)) ∧ w = w' := by
  by_cases h1 : 8192 < l.length
  · have hk := Lib.hid (Num.check_long h1).symm
    go_enter Try.func55, Try.ntmps55
    go_wp2
    go_ret
    exact ⟨ret_int hk.out, rfl⟩
  · by_cases h0 : 0 < l.length
    · obtain ⟨ad, rfl, hcell⟩ := hl h0
      have hx := hcell (l.length - 1) (by omega)
      clear hcell
      have e1 : ((l.length : Int) - 1).toNat = l.length - 1 := by omega
      have e2 : (0 : Int) ≤ (l.length : Int) - 1 := by omega
      by_cases hx0 : Num.at_ l (l.length - 1) = 0
      · have hk := Lib.hid (Num.check_nought h1 h0 hx0).symm
        rw [hx0] at hx
        go_enter Try.func55, Try.ntmps55
        go_wp2
        go_ret
        exact ⟨ret_int hk.out, rfl⟩
      · have hk := Lib.hid (Num.check_ok h1 (.inr hx0)).symm
        go_enter Try.func55, Try.ntmps55
        go_wp2
        go_ret
        exact ⟨ret_int hk.out, rfl⟩
    · have hk := Lib.hid (Num.check_ok h1 (.inl (by omega))).symm
      have hz : l.length = 0 := by omega
      go_enter Try.func55, Try.ntmps55
      go_wp2
      go_ret
      exact ⟨ret_int hk.out, rfl⟩
theorem nat_checked (A A' : Option Addr) (c c' : Nat) (a b : List Int) (w : World) (ha : Sl w A a) (hb : Sl w A' b) (hm : a.length ≤ 9223372036854775807) (hm' : b.length ≤ 9223372036854775807) :
    Calls Try.prog 79 #[.slice A a.length c, .slice A' b.length c'] w fun e w' => e = .returned (.int .i64 (Num.nChecked a b)) ∧ w = w' := by
  have h1 := nat_Check A c a w ha hm
  have h2 := nat_Check A' c' b w hb hm'
  have H1 := Lib.hid h1
  have H2 := Lib.hid h2
  clear h1 h2
  by_cases h0 : Num.nCheck a = 0
  · have hk : Hid (Num.nCheck b = Num.nChecked a b) := Lib.hid (by unfold Num.nChecked; rw [if_pos h0])
    rw [h0] at H1
    go_enter Try.func79, Try.ntmps79
    go_wp2_with fail
    refine H1.out.mono ?_
    rintro e w' ⟨rfl, rfl⟩
    go_wp2_with fail
    refine H2.out.mono ?_
    rintro e w' ⟨rfl, rfl⟩
    go_wp2
    go_ret
    exact ⟨ret_int hk.out, rfl⟩
  · have hk : Hid (Num.nCheck a = Num.nChecked a b) := Lib.hid (by unfold Num.nChecked; rw [if_neg h0])
    go_enter Try.func79, Try.ntmps79
    go_wp2_with fail
    refine H1.out.mono ?_
    rintro e w' ⟨rfl, rfl⟩
    go_wp2
    go_ret
    exact ⟨ret_int hk.out, rfl⟩
/-- told: a slice is told on, or nothing -/
def toldV (A : Option Addr) (c n : Nat) : Value := if 8192 < (Num.words n).length then .slice none 0 0 else .slice A (Num.words n).length c
theorem nat_told (A : Option Addr) (c : Nat) (l : List Int) (w : World) (hl : Sl w A l) (hc : l.length ≤ c) (hm : l.length ≤ 9223372036854775807) (hW : Num.W l) :
    Calls Try.prog 89 #[.slice A l.length c] w fun e w' => e = .returned (.tuple #[toldV A c (Num.val l), .int .i64 (Num.nTold (Num.val l)).2]) ∧ w = w' := by
  have H1 := Lib.hid (nat_cut A c l w hl hc hm hW)
  generalize hn : Num.val l = n at *
  have hle : (Num.words n).length ≤ l.length := by
    rw [Num.words_len, ← hn]; exact Num.val_lt hW
  by_cases h : 8192 < (Num.words n).length
  · have hk : Hid ((3 : Int) = (Num.nTold n).2) := Lib.hid (by unfold Num.nTold; rw [if_pos h])
    have e1 : toldV A c n = .slice none 0 0 := if_pos h
    rw [e1, ← hk.out]
    clear e1
    go_enter Try.func89, Try.ntmps89
    go_wp2_with fail
    refine H1.out.mono ?_
    rintro e w' ⟨rfl, rfl⟩
    go_wp2
    go_ret2
    exact ⟨rfl, rfl⟩
  · have hk : Hid ((0 : Int) = (Num.nTold n).2) := Lib.hid (by unfold Num.nTold; rw [if_neg h])
    have e1 : toldV A c n = .slice A (Num.words n).length c := if_neg h
    rw [e1, ← hk.out]
    clear e1
    go_enter Try.func89, Try.ntmps89
    go_wp2_with fail
    refine H1.out.mono ?_
    rintro e w' ⟨rfl, rfl⟩
    go_wp2
    go_ret2
    exact ⟨rfl, rfl⟩
end Go.Proofs.Ytfmhfgjpbkmneaa
namespace Go.Proofs.Ytfmhfgjpbkmneaa
open Go.RowKit
set_option linter.unusedVariables false
set_option linter.unusedSimpArgs false
theorem words_take {l : List Int} (hW : Num.W l) : Num.words (Num.val l) = l.take (Num.words (Num.val l)).length := by
  apply Num.val_inj (Num.W_words _) (Num.W_take hW _) (Num.norm_words _)
  · intro x hx
    rw [List.getLast?_eq_getElem?] at hx
    have hle : (Num.words (Num.val l)).length ≤ l.length := by rw [Num.words_len]; exact Num.val_lt hW
    simp only [List.length_take, Nat.min_eq_left hle] at hx
    rcases Nat.eq_zero_or_pos (Num.words (Num.val l)).length with h0 | h0
    · rw [h0] at hx; simp at hx
    · intro h1
      rw [List.getElem?_take_of_lt (by omega)] at hx
      have hv := Num.val_ge (Num.W_words (Num.val l)) (Num.norm_words _) (by intro e; rw [e] at h0; simp at h0)
      rw [Num.val_words] at hv
      have h2 : Num.val l = Num.val (l.take ((Num.words (Num.val l)).length - 1)) + 4294967296 ^ ((Num.words (Num.val l)).length - 1) * Num.val (l.drop ((Num.words (Num.val l)).length - 1)) := Num.val_split l _
      have h3 := Num.val_lt hW
      have h4 : Num.val l < 4294967296 ^ (Num.words (Num.val l)).length := Num.words_len.1 (Nat.le_refl _)
      have h5 : Num.val (l.drop ((Num.words (Num.val l)).length - 1)) = (Num.at_ l ((Num.words (Num.val l)).length - 1)).toNat + 4294967296 * Num.val (l.drop ((Num.words (Num.val l)).length - 1 + 1)) := Num.val_drop l _
      have h6 : Num.at_ l ((Num.words (Num.val l)).length - 1) = 0 := by
        simp only [Num.at_, List.getD_eq_getElem?_getD, hx, h1, Option.getD_some]
      rw [h6] at h5
      have h7 := Num.val_take_lt hW ((Num.words (Num.val l)).length - 1)
      obtain ⟨m, hm⟩ : ∃ m, (Num.words (Num.val l)).length = m + 1 := ⟨(Num.words (Num.val l)).length - 1, by omega⟩
      simp only [hm, Nat.add_sub_cancel] at *
      generalize Num.val (l.drop (m + 1)) = q at *
      simp at h5
      rw [h5] at h2
      rcases Nat.eq_zero_or_pos q with hq | hq
      · rw [hq] at h2; omega
      · have : 4294967296 ^ (m + 1) ≤ 4294967296 ^ m * (4294967296 * q) := by
          rw [Nat.pow_succ]
          exact Nat.mul_le_mul_left _ (by omega)
        omega
  · rw [Num.val_words]
    have h1 := Num.val_split l (Num.words (Num.val l)).length
    have h4 : Num.val l < 4294967296 ^ (Num.words (Num.val l)).length := Num.words_len.1 (Nat.le_refl _)
    rcases Nat.eq_zero_or_pos (Num.val (l.drop (Num.words (Num.val l)).length)) with h0 | h0
    · rw [h0] at h1; omega
    · have := Nat.le_mul_of_pos_right (4294967296 ^ (Num.words (Num.val l)).length) h0
      omega
theorem sl_cut {w : World} {A : Option Addr} {l : List Int} (h : Sl w A l) (hW : Num.W l) : Sl w A (Num.words (Num.val l)) := by
  have e := words_take hW
  rw [e]
  exact h.take _
theorem nat_Compare (A A' : Option Addr) (c c' : Nat) (a b : List Int) (w : World) (ha : Sl w A a) (hb : Sl w A' b) (hca : a.length ≤ c) (hcb : b.length ≤ c') (hm : a.length ≤ 9223372036854775807) (hm' : b.length ≤ 9223372036854775807) (hWa : Num.W a) (hWb : Num.W b) :
    Calls Try.prog 57 #[.slice A a.length c, .slice A' b.length c'] w fun e w' => e = .returned (.int .i64 (Num.nCompare a b)) ∧ ∃ n, w' = w.drewN n := by
  have H1 := Lib.hid (nat_cut A c a w ha hca hm hWa)
  have H2 := Lib.hid (nat_cut A' c' b w hb hcb hm' hWb)
  have ha' := sl_cut ha hWa
  have hb' := sl_cut hb hWb
  have la : (Num.words (Num.val a)).length ≤ a.length := by rw [Num.words_len]; exact Num.val_lt hWa
  have hva : Hid (Num.val (Num.words (Num.val a)) = Num.val a) := Lib.hid (Num.val_words _)
  have hvb : Hid (Num.val (Num.words (Num.val b)) = Num.val b) := Lib.hid (Num.val_words _)
  have Wa : Hid (Num.W (Num.words (Num.val a))) := Lib.hid (Num.W_words _)
  have Wb : Hid (Num.W (Num.words (Num.val b))) := Lib.hid (Num.W_words _)
  have Na : Hid (Num.norm (Num.words (Num.val a))) := Lib.hid (Num.norm_words _)
  have Nb : Hid (Num.norm (Num.words (Num.val b))) := Lib.hid (Num.norm_words _)
  clear hWa hWb ha hb
  generalize Num.words (Num.val a) = a' at *
  generalize Num.words (Num.val b) = b' at *
  rcases Nat.lt_trichotomy a'.length b'.length with hlt | heq | hgt
  · have hk : Hid ((-1 : Int) = Num.nCompare a b) := Lib.hid (by
      have := Num.val_lt_len Wa.out Wb.out Nb.out hlt
      rw [hva.out, hvb.out] at this
      unfold Num.nCompare; rw [if_pos this])
    have t1 : ((a'.length : Int) != (b'.length : Int)) = true := by rw [bne_iff_ne]; omega
    have t2 : (a'.length != b'.length) = true := by rw [bne_iff_ne]; omega
    go_enter Try.func57, Try.ntmps57
    go_wp2_with fail
    refine H1.out.mono ?_
    rintro e w' ⟨rfl, rfl⟩
    go_wp2_with fail
    refine H2.out.mono ?_
    rintro e w' ⟨rfl, rfl⟩
    go_wp2
    go_ret
    exact ⟨ret_int hk.out, 0, rfl⟩
  · rw [← heq] at H2
    have HE := Lib.hid heq
    have hb2 : 0 < a'.length → ∃ ad, A' = some ad ∧ ∀ j, j < a'.length → w.cell? (ad.add j) = some (.int .u32 (Num.at_ b' j)) := by
      have := hb'; unfold Sl at this; rw [← heq] at this; exact this
    clear heq hb'
    go_enter Try.func57, Try.ntmps57
    go_wp2_with fail
    refine H1.out.mono ?_
    rintro e w' ⟨rfl, rfl⟩
    go_wp2_with fail
    refine H2.out.mono ?_
    rintro e w' ⟨rfl, rfl⟩
    go_wp2
    go_loopw [5] (fun v wr => ∃ i : Int, ∃ k : Nat, (∃ nq, wr = w.drewN nq) ∧ Hid (i + 1 = k) ∧ -1 ≤ i ∧ i < a'.length ∧ Hid (Num.val (a'.drop k) = Num.val (b'.drop k)) ∧ v = .int .i64 i) (fun v _ => (intOf v + 1).toNat)
    case atStart => exact ⟨_, a'.length, ⟨0, rfl⟩, Lib.hid (by omega), by omega, by omega, Lib.hid (by rw [List.drop_of_length_le (by omega), List.drop_of_length_le (by have := HE.out; omega)]), rfl⟩
    case round =>
      obtain ⟨i, k, ⟨nq, rfl⟩, hik, hi1, hi2, hv, rfl⟩ := hrel
      by_cases h0 : 0 ≤ i
      · obtain ⟨m, rfl⟩ := Int.eq_ofNat_of_zero_le h0
        have hkm : Hid (k = m + 1) := Lib.hid (by have := hik.out; omega)
        rw [hkm.out] at hv
        obtain ⟨ad, rfl, hca⟩ := ha' (by omega)
        obtain ⟨bd, rfl, hcb⟩ := hb2 (by omega)
        have hx := hca m (by omega)
        have hy := hcb m (by omega)
        clear hca hcb
        rcases Int.lt_trichotomy (Num.at_ a' m) (Num.at_ b' m) with h1 | h1 | h1
        · have hk : Hid ((-1 : Int) = Num.nCompare a b) := Lib.hid (by
            have := Num.val_lt_of Wa.out Wb.out m hv.out h1
            rw [hva.out, hvb.out] at this
            unfold Num.nCompare; rw [if_pos this])
          go_wp2
          go_quiet (fail)
          go_wp2
          go_ret
          exact ⟨ret_int hk.out, by first | exact ⟨_, rfl⟩ | (simp only [World.drewN_drewN]; exact ⟨_, rfl⟩)⟩
        · have H3 := Lib.hid h1
          rw [← h1] at hy
          clear h1
          go_wp2
          go_quiet (fail)
          go_wp2
          go_quiet (fail)
          go_wp2
          go_roundw
          case rel => exact ⟨_, m, by first | exact ⟨_, rfl⟩ | (simp only [World.drewN_drewN]; exact ⟨_, rfl⟩), Lib.hid (by omega), by omega, by omega, Lib.hid (by rw [Num.val_drop a' m, Num.val_drop b' m, hv.out, H3.out]), rfl⟩
          case measure => simp [intOf] <;> omega
        · have hk : Hid ((1 : Int) = Num.nCompare a b) := Lib.hid (by
            have := Num.val_lt_of Wb.out Wa.out m hv.out.symm h1
            rw [hva.out, hvb.out] at this
            unfold Num.nCompare; rw [if_neg (by omega), if_pos this])
          go_wp2
          go_quiet (fail)
          go_wp2
          go_quiet (fail)
          go_wp2
          go_ret
          exact ⟨ret_int hk.out, by first | exact ⟨_, rfl⟩ | (simp only [World.drewN_drewN]; exact ⟨_, rfl⟩)⟩
      · have hk : Hid ((0 : Int) = Num.nCompare a b) := Lib.hid (by
          have h1 : k = 0 := by have := hik.out; omega
          have h2 := hv.out
          rw [h1, List.drop_zero, List.drop_zero, hva.out, hvb.out] at h2
          unfold Num.nCompare; rw [if_neg (by omega), if_neg (by omega)])
        go_wp2
        go_ret
        exact ⟨ret_int hk.out, by first | exact ⟨_, rfl⟩ | (simp only [World.drewN_drewN]; exact ⟨_, rfl⟩)⟩
  · have hk : Hid ((1 : Int) = Num.nCompare a b) := Lib.hid (by
      have := Num.val_lt_len Wb.out Wa.out Na.out hgt
      rw [hva.out, hvb.out] at this
      unfold Num.nCompare; rw [if_neg (by omega), if_pos this])
    have t1 : ((a'.length : Int) != (b'.length : Int)) = true := by rw [bne_iff_ne]; omega
    have t2 : (a'.length != b'.length) = true := by rw [bne_iff_ne]; omega
    go_enter Try.func57, Try.ntmps57
    go_wp2_with fail
    refine H1.out.mono ?_
    rintro e w' ⟨rfl, rfl⟩
    go_wp2_with fail
    refine H2.out.mono ?_
    rintro e w' ⟨rfl, rfl⟩
    go_wp2
    go_ret
    exact ⟨ret_int hk.out, 0, rfl⟩
end Go.Proofs.Ytfmhfgjpbkmneaa
namespace Go.Proofs.Ytfmhfgjpbkmneaa
open Go.RowKit
set_option linter.unusedVariables false
set_option linter.unusedSimpArgs false
/-! ### append to a row of words of the call's own -/
theorem info32 : (Try.prog.info? 100).map (fun i => (i.zero, i.size, i.bytes)) = some (some (.int .u32 0), 1, 4) := by kernel_rfl
/-- so many words can lie in one row -/
def Fits (n : Nat) : Prop := n * 4 ≤ 140737488355328
theorem Fits.small {n : Nat} (h : n ≤ 1000000) : Fits n := by unfold Fits; omega
theorem Fits.le {n m : Nat} (h : Fits n) (k : m ≤ n) : Fits m := by unfold Fits at *; omega
section
variable {lo : Nat} {v : Value} {xs l : List Int} {A : Option Addr} {c : Nat}
set_option maxRecDepth 100000 in
theorem run_app (w : World) (hown : Own w lo v xs) (hs : Sl w A l) (hb : Fits (xs.length + l.length)) (hlo : lo ≤ w.heap.size) (ty : TypeId) :
    ∃ v' w', (Builtin.append_ #[22, 22] ty #[v, .slice A l.length c]).run Try.prog w = .ok v' w' ∧ Own w' lo v' (xs ++ l) ∧ w.grownBy w' v.ownBlock ∧ (v'.ownBlock = v.ownBlock ∨ v'.ownBlock = some w.heap.size) := by
  obtain ⟨i0, hi0, hz0, hz1, hz2⟩ := info_parts info32
  have hrow := hown.row
  rcases A with _ | ad
  · have hm : l.length = 0 := by
      rcases Nat.eq_zero_or_pos l.length with h0 | h0
      · exact h0
      · obtain ⟨ad, h, _⟩ := hs h0
        cases h
    obtain rfl := List.eq_nil_of_length_eq_zero hm
    refine ⟨v, w, ?_, by simpa using hown, World.grownBy.refl w _, .inl rfl⟩
    rcases hrow.2 with ⟨rfl, _⟩ | ⟨g, cap, cur, rfl, _, _, hnc, _⟩
    · simp [Builtin.append_, run_underlying Try.underlying22, sizeOf, typeInfo, hi0, Builtin.lenOf, Builtin.firstCells]
    · simp [Builtin.append_, run_underlying Try.underlying22, sizeOf, typeInfo, hi0, Builtin.lenOf, Builtin.firstCells, hnc, storeCells]
  · have hcells : ∀ j u, (l.map (Value.int .u32))[j]? = some u → w.cell? (ad.add j) = some u := by
      intro j u hu
      rw [List.getElem?_map] at hu
      rcases Nat.lt_or_ge j l.length with hj | hj
      · obtain ⟨ad', h, hc⟩ := hs (by omega)
        injection h with h
        subst h
        rw [hc j hj]
        rw [List.getElem?_eq_getElem hj] at hu
        simp [Num.at_, List.getD_eq_getElem?_getD, List.getElem?_eq_getElem hj]
        simpa using hu
      · rw [List.getElem?_eq_none hj] at hu
        simp at hu
    obtain ⟨v', w', hrun, h2, h3, _, h5⟩ := run_append_own_at (P := Try.prog) w lo 22 ty 100 i0 (.int .u32 0) 1 4 Try.underlying22 hi0 hz0 hz1 hz2 rfl (by omega) v _ _ hrow ad l.length c _ (by simp) hcells (by simp; intro x _; rfl) (by unfold Fits at hb; simp only [maxLen]; omega) hb hlo
    refine ⟨v', w', hrun, Own.of_row (n := xs.length + l.length) ?_, h3, h5⟩
    rw [List.map_append]; exact h2
theorem wpList_app {w : World} {ops : Array Oper} {rest : List Oper} {o : Oper} {a : Act} {Q : Exit → Act → World → Prop} (hgd : o.guard = none) (s x : Operand)
    (ho : o.op = .call { callee := .builtin .append, args := #[s, x], argTypes := #[22, 22] })
    (hs : a.eval s = v) (hx : a.eval x = .slice A l.length c) (hown : Own w lo v xs) (hsl : Sl w A l) (hb : Fits (xs.length + l.length)) (hlo : lo ≤ w.heap.size)
    (h : ∀ v' w', Own w' lo v' (xs ++ l) → w.grownBy w' v.ownBlock → (v'.ownBlock = v.ownBlock ∨ v'.ownBlock = some w.heap.size) → wpList Try.prog ops Q rest (a.put o.dst v') w') : wpList Try.prog ops Q (o :: rest) a w :=
  wpList_plain hgd fun _ hK => by
    obtain ⟨v', w', hrun, h2, h3, h4⟩ := run_app (c := c) w hown hsl hb hlo o.type
    unfold Oper.wp execOp
    simp only [ho, resolve, invoke, builtin, Sem.run_bind, Sem.run_pure, Result.andThen_ok, List.map_toArray, List.map_cons, List.map_nil, hs, hx, hrun]
    exact hK _ _ (h v' w' h2 h3 h4)
end
theorem below_grown {w w1 : World} {B : Nat} {v : Value} (h : w.grownBy w1 v.ownBlock) (hB : B ≤ w.heap.size) (hv : ∀ k, v.ownBlock = some k → B ≤ k) : Below B w w1 := (Below.refl B w).grown h hB hv
set_option maxRecDepth 100000 in
/-- a slice that has been made of nothing -/
theorem own_made (w : World) : Own (w.alloc (.cells #[] 100)) w.heap.size (.slice (some ⟨w.heap.size, 0, none⟩) 0 0) [] :=
  .inr ⟨_, 0, rfl, Nat.le_refl _, by unfold maxLen; omega, #[], heap_alloc_new w _, rfl, by simp, fun j hj => by simp at hj⟩
end Go.Proofs.Ytfmhfgjpbkmneaa
namespace Go.Proofs.Ytfmhfgjpbkmneaa
open Go.RowKit
set_option linter.unusedVariables false
set_option linter.unusedSimpArgs false
theorem slices_Clone (A : Option Addr) (c : Nat) (l : List Int) (w : World) (hl : Sl w A l) (hc : l.length ≤ c) (hm : Fits l.length) :
    Calls Try.prog 64 #[.slice A l.length c] w fun e w' => ∃ v, e = .returned v ∧ Own w' w.heap.size v l ∧ Below w.heap.size w w' := by
  cases A with
  | none =>
    have hn : l = [] := by
      rcases Nat.eq_zero_or_pos l.length with h0 | h0
      · exact List.eq_nil_of_length_eq_zero h0
      · obtain ⟨ad, h, _⟩ := hl h0
        cases h
    subst hn
    have k1 := fun (W : World) => Lib.run_eql_slice_nil (P := Try.prog) W 22 100 none 0 c 0 0 Try.underlying22
    go_enter Try.func64, Try.ntmps64
    go_wp2
    go_ret
    exact ⟨_, rfl, Own.nil_ _ _, Below.refl _ _⟩
  | some ad =>
    have k1 := fun (W : World) => Lib.run_eql_slice_nil (P := Try.prog) W 22 100 (some ad) l.length c 0 0 Try.underlying22
    go_enter Try.func64, Try.ntmps64
    go_wp2_with (at_builtin; refine wpList_app (v := .slice (some ⟨w.heap.size, 0, none⟩) 0 0) rfl (.tmp 5) (.tmp 6) rfl rfl rfl (own_made w) (hl.below ((Below.refl _ _).alloc (Nat.le_refl _) _)) (by simpa using hm) (by simp) ?_; intro v1 w1 ho hg _)
    go_ret
    exact ⟨_, rfl, ho, ((Below.refl _ _).alloc (Nat.le_refl _) _).trans (below_grown hg (by simp) (fun k hk => Nat.le_of_eq (by simpa [Value.ownBlock] using hk)))⟩
theorem Win.take {w : World} {g c o : Nat} {l : List Int} (h : Win w g c o l) (n : Nat) : Win w g c o (l.take n) := by
  obtain ⟨cur, hh, hs, hl, hc⟩ := h
  refine ⟨cur, hh, hs, by rw [List.length_take]; omega, fun j hj => ?_⟩
  rw [List.length_take] at hj
  rw [hc j (by omega)]
  simp only [Num.at_, List.getD_eq_getElem?_getD]
  rw [List.getElem?_take_of_lt (by omega)]
theorem own_cut {w : World} {g c lo : Nat} {l : List Int} (h : Win w g c 0 l) (hW : Num.W l) (hlo : lo ≤ g) (hc : c ≤ maxLen) : Own w lo (.slice (some ⟨g, 0, none⟩) (Num.words (Num.val l)).length c) (Num.words (Num.val l)) := by
  refine .inr ⟨g, c, rfl, hlo, hc, ?_⟩
  rw [words_take hW]
  exact h.take _
theorem win_new (w : World) (l : List Int) : Win (w.alloc (.cells (l.map (Value.int .u32)).toArray 100)) w.heap.size l.length 0 l := by
  refine ⟨_, heap_alloc_new w _, by simp, by simp, fun j hj => ?_⟩
  simp [Num.at_, List.getD_eq_getElem?_getD, List.getElem?_eq_getElem hj]
theorem wraps_u64 (n : Int) (h0 : 0 ≤ n) (h1 : n < 2 ^ 64) : IntKind.u64.wrap n = n := by
  have : IntKind.u64.wrap n = n % 18446744073709551616 := by simp [IntKind.wrap, IntKind.bits, IntKind.signed]
  rw [this]; omega
theorem or64 (a b i q : Nat) (h : b = 2 ^ i * q) (ha : a < 2 ^ i) (ha' : a < 18446744073709551616) (hb : b < 18446744073709551616) : Go.bits .or .u64 (a : Int) (b : Int) = ((a + b : Nat) : Int) ∧ Go.bits .or .u64 (b : Int) (a : Int) = ((a + b : Nat) : Int) := by
  have e1 := (bits_nat .u64 64 (by decide) wraps_u64 a b ha' hb).2
  have e2 := (bits_nat .u64 64 (by decide) wraps_u64 b a hb ha').2
  have e3 := Nat.two_pow_add_eq_or_of_lt ha q
  rw [← h] at e3
  rw [e1, e2, Nat.or_comm a b, ← e3, Nat.add_comm a b]
  exact ⟨rfl, rfl⟩
theorem or64_0 (y : Int) (h0 : 0 ≤ y) (h1 : y < 4294967296) : Go.bits .or .u64 ((Num.val [] : Nat) : Int) y = y := by
  have := (or64 y.toNat 0 32 0 rfl (by omega) (by omega) (by omega)).2
  rw [Int.toNat_of_nonneg h0] at this
  rw [show ((Num.val [] : Nat) : Int) = ((0 : Nat) : Int) from rfl, this]
  omega
theorem nat_Of (x : Int) (w : World) (h0 : 0 ≤ x) (h1 : x < 18446744073709551616) :
    Calls Try.prog 82 #[.int .u64 x] w fun e w' => ∃ v, e = .returned v ∧ Own w' w.heap.size v (Num.words x.toNat) ∧ Below w.heap.size w w' := by
  have hW : Num.W [x % 4294967296, x / 4294967296] := by
    refine Num.W_cons.2 ⟨by omega, Num.W_cons.2 ⟨by omega, Num.W_nil⟩⟩
  have hv : Num.val [x % 4294967296, x / 4294967296] = x.toNat := by simp only [Num.val]; omega
  have hw := win_new w [x % 4294967296, x / 4294967296]
  have H1 := Lib.hid (nat_cut (some ⟨w.heap.size, 0, none⟩) 2 [x % 4294967296, x / 4294967296] _ hw.sl (by simp) (by simp) hW)
  have HO := Lib.hid (own_cut hw hW (Nat.le_refl _) (by simp [maxLen]))
  rw [hv] at H1 HO
  clear hW hv hw
  go_enter Try.func82, Try.ntmps82
  go_wp2_with fail
  refine H1.out.mono ?_
  rintro e w' ⟨rfl, rfl⟩
  go_wp2
  go_ret
  exact ⟨_, rfl, HO.out, (Below.refl _ _).alloc (Nat.le_refl _) _⟩
theorem nat_Uint64 (A : Option Addr) (c : Nat) (l : List Int) (w : World) (hl : Sl w A l) (hc : l.length ≤ c) (hm : l.length ≤ 9223372036854775807) (hW : Num.W l) :
    Calls Try.prog 81 #[.slice A l.length c] w fun e w' => e = .returned (.tuple #[.int .u64 (if Num.val l < 18446744073709551616 then (Num.val l : Int) else 0), .bool (decide (Num.val l < 18446744073709551616))]) ∧ w = w' := by
  have H1 := Lib.hid (nat_cut A c l w hl hc hm hW)
  have ha := sl_cut hl hW
  have Wa : Hid (Num.W (Num.words (Num.val l))) := Lib.hid (Num.W_words _)
  have hva : Hid (Num.val (Num.words (Num.val l)) = Num.val l) := Lib.hid (Num.val_words _)
  have hlen := Num.words_len (n := Num.val l) (k := 2)
  simp only [show (4294967296 : Nat) ^ 2 = 18446744073709551616 from rfl] at hlen
  by_cases h2 : 2 < (Num.words (Num.val l)).length
  · have hb : ¬ Num.val l < 18446744073709551616 := by omega
    rw [if_neg hb, decide_eq_false hb]
    clear hlen hb
    generalize Num.words (Num.val l) = l' at *
    go_enter Try.func81, Try.ntmps81
    go_wp2_with fail
    refine H1.out.mono ?_
    rintro e w' ⟨rfl, rfl⟩
    go_wp2
    go_ret2
    exact ⟨rfl, rfl⟩
  · have hb : Num.val l < 18446744073709551616 := by omega
    rw [if_pos hb, decide_eq_true hb]
    have HB := Lib.hid hb
    clear hlen hb
    generalize Num.words (Num.val l) = l' at *
    have t1 : decide ((2 : Int) < (l'.length : Int)) = false := decide_eq_false (by omega)
    go_enter Try.func81, Try.ntmps81
    go_wp2_with fail
    refine H1.out.mono ?_
    rintro e w' ⟨rfl, rfl⟩
    go_wp2
    go_loop [4, 14] (fun x i => ∃ k : Nat, k ≤ l'.length ∧ i = .int .i64 k ∧ x = .int .u64 (Num.val (l'.take k) : Nat)) (fun _ i => l'.length - (intOf i).toNat)
    case atStart => exact ⟨0, Nat.zero_le _, rfl, rfl⟩
    case round =>
      obtain ⟨k, hk, rfl, rfl⟩ := hrel
      by_cases hlt : k < l'.length
      · obtain ⟨ad, rfl, hcell⟩ := ha (by omega)
        have hx := hcell k hlt
        have hr := Num.at_lt Wa.out k
        have hs : Hid (Num.val (l'.take (k + 1)) = Num.val (l'.take k) + 4294967296 ^ k * (Num.at_ l' k).toNat) := Lib.hid (Num.val_take_succ l' k)
        have hlw : Hid (Num.val (l'.take k) < 4294967296 ^ k) := Lib.hid (Num.val_take_lt Wa.out k)
        clear hcell
        generalize Num.at_ l' k = y at *
        rcases Nat.lt_or_ge 0 k with h0 | h0
        · obtain rfl : k = 1 := by omega
          have hj := or64 (Num.val (l'.take 1)) (4294967296 * y.toNat) 32 y.toNat rfl hlw.out (by have := hlw.out; omega) (by omega)
          rw [show ((4294967296 * y.toNat : Nat) : Int) = y * 4294967296 by omega] at hj
          have HJ := Lib.hid hj.1
          clear hj
          have hx' : w.cell? ⟨ad.block, ad.off + 1, none⟩ = some (.int .u32 y) := by simpa [Addr.add] using hx
          clear hx
          go_wp2
          go_round
          case rel => exact ⟨_ + 1, hlt, by go_num, congrArg (Value.int .u64) (HJ.out.trans (by rw [hs.out]))⟩
          case measure => simp [intOf] <;> omega
        · obtain rfl : k = 0 := by omega
          have hx' : w.cell? ad = some (.int .u32 y) := by simpa [Addr.add] using hx
          clear hx
          go_wp2
          go_round
          case rel => exact ⟨_ + 1, hlt, by go_num, congrArg (Value.int .u64) ((or64_0 y hr.1 hr.2).trans (by rw [hs.out]; simp [Num.val] <;> omega))⟩
          case measure => simp [intOf] <;> omega
      · obtain rfl : k = l'.length := by omega
        have hva2 : Hid ((Num.val l' : Int) = Num.val l) := Lib.hid (by rw [hva.out])
        go_wp2
        go_ret2
        exact ⟨ret_tup1 (hva2.out), rfl⟩
end Go.Proofs.Ytfmhfgjpbkmneaa
namespace Go.Proofs.Ytfmhfgjpbkmneaa
open Go.RowKit
set_option linter.unusedVariables false
set_option linter.unusedSimpArgs false
theorem wrap_u64 (n : Int) : IntKind.u64.wrap n = n % 18446744073709551616 := by simp [IntKind.wrap, IntKind.bits, IntKind.signed]
/-- one word less another, and a borrow -/
theorem sub_step (x y br : Int) (hx : 0 ≤ x ∧ x < 4294967296) (hy : 0 ≤ y ∧ y < 4294967296) (hb : 0 ≤ br ∧ br ≤ 1) :
    ∃ r b' : Int, 0 ≤ r ∧ r < 4294967296 ∧ 0 ≤ b' ∧ b' ≤ 1 ∧ r + y + br = x + 4294967296 * b' ∧ IntKind.u64.wrap (IntKind.u64.wrap (x - br) - y) % 4294967296 = r ∧ IntKind.u64.wrap (IntKind.u64.wrap (x - br) - y) / 9223372036854775808 = b' := by
  simp only [wrap_u64]
  rcases Int.lt_or_le (x - br - y) 0 with h | h
  · exact ⟨x - br - y + 4294967296, 1, by omega, by omega, by omega, by omega, by omega, by omega, by omega⟩
  · exact ⟨x - br - y, 0, by omega, by omega, by omega, by omega, by omega, by omega, by omega⟩
theorem sub_step0 (x br : Int) (hx : 0 ≤ x ∧ x < 4294967296) (hb : 0 ≤ br ∧ br ≤ 1) :
    ∃ r b' : Int, 0 ≤ r ∧ r < 4294967296 ∧ 0 ≤ b' ∧ b' ≤ 1 ∧ r + 0 + br = x + 4294967296 * b' ∧ IntKind.u64.wrap (x - br) % 4294967296 = r ∧ IntKind.u64.wrap (x - br) / 9223372036854775808 = b' := by
  simp only [wrap_u64]
  rcases Int.lt_or_le (x - br) 0 with h | h
  · exact ⟨x - br + 4294967296, 1, by omega, by omega, by omega, by omega, by omega, by omega, by omega⟩
  · exact ⟨x - br, 0, by omega, by omega, by omega, by omega, by omega, by omega, by omega⟩
theorem drop_step {l a : List Int} {k : Nat} (h : l.drop k = a.drop k) (h1 : k < l.length) (h2 : k < a.length) : Num.at_ l k = Num.at_ a k ∧ l.drop (k + 1) = a.drop (k + 1) := by
  rw [Num.drop_at h1, Num.drop_at h2] at h
  exact ⟨(List.cons.inj h).1, (List.cons.inj h).2⟩
theorem set_take_val {l : List Int} {k : Nat} (r : Int) (h : k < l.length) : Num.val ((l.set k r).take (k + 1)) = Num.val (l.take k) + 4294967296 ^ k * r.toNat := by
  rw [Num.val_take_succ, Num.take_set, Num.at_set _ _ _ _ h, if_pos rfl]
theorem less_step {l a b : List Int} {k : Nat} {br x y r b' : Int} (hi : Num.val (l.take k) + Num.val (b.take k) = Num.val (a.take k) + 4294967296 ^ k * br.toNat) (hl : k < l.length) (hxa : Num.at_ a k = x) (hy : Num.at_ b k = y)
    (hx0 : 0 ≤ x) (hy0 : 0 ≤ y) (hr0 : 0 ≤ r) (hb0 : 0 ≤ br) (hb1 : 0 ≤ b') (h : r + y + br = x + 4294967296 * b') :
    Num.val ((l.set k r).take (k + 1)) + Num.val (b.take (k + 1)) = Num.val (a.take (k + 1)) + 4294967296 ^ (k + 1) * b'.toNat := by
  rw [set_take_val r hl, Num.val_take_succ b, Num.val_take_succ a, hxa, hy, Nat.pow_succ]
  have h1 : r.toNat + y.toNat + br.toNat = x.toNat + 4294967296 * b'.toNat := by omega
  have h2 : 4294967296 ^ k * (r.toNat + y.toNat + br.toNat) = 4294967296 ^ k * (x.toNat + 4294967296 * b'.toNat) := by rw [h1]
  generalize 4294967296 ^ k = P at *
  grind
theorem nat_less (g c c' : Nat) (A' : Option Addr) (a b : List Int) (w : World) (ha : Win w g c 0 a) (hb : Sl w A' b) (hne : ∀ ad, A' = some ad → 0 < b.length → ad.block ≠ g) (hc : c ≤ 9223372036854775807) (hWa : Num.W a) (hWb : Num.W b)
    (hlen : b.length ≤ a.length) (hle : Num.val b ≤ Num.val a) :
    Calls Try.prog 91 #[.slice (some ⟨g, 0, none⟩) a.length c, .slice A' b.length c'] w fun e w' => ∃ l, e = .returned (.slice (some ⟨g, 0, none⟩) (Num.words (Num.val l)).length c) ∧ l.length = a.length ∧ Num.W l ∧ Num.val l = Num.val a - Num.val b ∧ Win w' g c 0 l ∧ Upd w w' g 0 a.length := by
  have hla : a.length ≤ c := by obtain ⟨cur, _, h1, h2, _⟩ := ha; omega
  have HNE := Lib.hid hne
  have HWb := Lib.hid hWb
  have HLE := Lib.hid hle
  clear hne hWb hle
  go_enter Try.func91, Try.ntmps91
  go_wp2
  go_loopw [5, 10] (fun br i wr => ∃ (k : Nat) (x : Int) (l : List Int), k ≤ a.length ∧ i = .int .i64 k ∧ br = .int .u64 x ∧ 0 ≤ x ∧ x ≤ 1 ∧ Hid (l.length = a.length) ∧ Hid (Num.W l) ∧ Win wr g c 0 l ∧ Upd w wr g 0 a.length ∧ Hid (l.drop k = a.drop k) ∧
      Hid (Num.val (l.take k) + Num.val (b.take k) = Num.val (a.take k) + 4294967296 ^ k * x.toNat)) (fun _ i _ => a.length - (intOf i).toNat)
  case atStart => exact ⟨0, 0, a, by omega, rfl, rfl, by omega, by omega, Lib.hid rfl, Lib.hid hWa, ha, Upd.refl _ _ _ _, Lib.hid rfl, Lib.hid (by simp [Num.val])⟩
  case round =>
    obtain ⟨k, br, l, hk, rfl, rfl, hb0, hb1, hll, hWl, hwin, hupd, hdr, hinv⟩ := hrel
    by_cases hlt : k < a.length
    · have hcx := hwin.cell k (by rw [hll.out]; exact hlt)
      have hfx := hwin.free k
      rw [Nat.zero_add] at hcx
      have hx := Num.at_lt hWl.out k
      by_cases hkb : k < b.length
      · have hs := hb.upd hupd HNE.out
        obtain ⟨bd, rfl, hcb⟩ := hs (by omega)
        have hcy := hcb k hkb
        have hy := Num.at_lt HWb.out k
        clear hcb
        generalize hxx : Num.at_ l k = x at *
        generalize hyy : Num.at_ b k = y at *
        obtain ⟨r, b', hr0, hr1, hb0', hb1', hrb, e1, e2⟩ := sub_step x y br hx hy ⟨hb0, hb1⟩
        have HX := Lib.hid hxx
        have HY := Lib.hid hyy
        have E1 := Lib.hid e1
        have E2 := Lib.hid e2
        have HR := Lib.hid hrb
        clear hxx hyy e1 e2 hrb
        go_wp2
        go_roundw
        case rel =>
          have hkl : k < l.length := by rw [hll.out]; exact hlt
          obtain ⟨d1, d2⟩ := drop_step hdr.out hkl hlt
          have hw2 := hwin.set_ k r hkl
          have hu2 := hupd.set_ k (.int .u32 r) hlt
          rw [Nat.zero_add] at hw2 hu2
          rw [E1.out]
          exact ⟨k + 1, b', l.set k r, by omega, by go_num, congrArg (Value.int .u64) E2.out, by omega, by omega, Lib.hid (by rw [List.length_set]; exact hll.out), Lib.hid (Num.W_set hWl.out k (by omega) (by omega)), hw2, hu2,
            Lib.hid (by rw [Num.drop_set]; exact d2), Lib.hid (less_step hinv.out hkl (d1.symm.trans HX.out) HY.out hx.1 hy.1 hr0 hb0 hb0' HR.out)⟩
        case measure => simp [intOf] <;> omega
      · have hyy : Hid (Num.at_ b k = 0) := Lib.hid (Num.at_out (by omega))
        generalize hxx : Num.at_ l k = x at *
        obtain ⟨r, b', hr0, hr1, hb0', hb1', hrb, e1, e2⟩ := sub_step0 x br hx ⟨hb0, hb1⟩
        have HX := Lib.hid hxx
        have E1 := Lib.hid e1
        have E2 := Lib.hid e2
        have HR := Lib.hid hrb
        clear hxx e1 e2 hrb
        go_wp2
        go_roundw
        case rel =>
          have hkl : k < l.length := by rw [hll.out]; exact hlt
          obtain ⟨d1, d2⟩ := drop_step hdr.out hkl hlt
          have hw2 := hwin.set_ k r hkl
          have hu2 := hupd.set_ k (.int .u32 r) hlt
          rw [Nat.zero_add] at hw2 hu2
          rw [E1.out]
          exact ⟨k + 1, b', l.set k r, by omega, by go_num, congrArg (Value.int .u64) E2.out, by omega, by omega, Lib.hid (by rw [List.length_set]; exact hll.out), Lib.hid (Num.W_set hWl.out k (by omega) (by omega)), hw2, hu2,
            Lib.hid (by rw [Num.drop_set]; exact d2), Lib.hid (less_step hinv.out hkl (d1.symm.trans HX.out) hyy.out hx.1 (Int.le_refl 0) hr0 hb0 hb0' HR.out)⟩
        case measure => simp [intOf] <;> omega
    · obtain rfl : k = a.length := by omega
      have hfin : Hid (Num.val l = Num.val a - Num.val b) := Lib.hid (by
        have h1 := hinv.out
        rw [List.take_of_length_le (by rw [hll.out]; exact Nat.le_refl _), List.take_of_length_le hlen, List.take_of_length_le (Nat.le_refl _)] at h1
        have h2 := Num.val_lt hWl.out
        rw [hll.out] at h2
        have h3 := HLE.out
        rcases Int.lt_or_le 0 br with h4 | h4
        · have : 4294967296 ^ a.length ≤ 4294967296 ^ a.length * br.toNat := Nat.le_mul_of_pos_right _ (by omega)
          omega
        · have : br.toNat = 0 := by omega
          rw [this] at h1
          omega)
      have H1 := Lib.hid (nat_cut (some ⟨g, 0, none⟩) c l wr hwin.sl (by rw [hll.out]; exact hla) (by rw [hll.out]; omega) hWl.out)
      rw [hll.out] at H1
      go_wp2_with fail
      refine H1.out.mono ?_
      rintro e w' ⟨rfl, rfl⟩
      go_wp2
      go_ret
      exact ⟨l, rfl, hll.out, hWl.out, hfin.out, hwin, hupd⟩
end Go.Proofs.Ytfmhfgjpbkmneaa
namespace Go.Proofs.Ytfmhfgjpbkmneaa
open Go.RowKit
set_option linter.unusedVariables false
set_option linter.unusedSimpArgs false
/-- a call that answers new words and an error -/
def NewS (w : World) (r : List Int × Int) (e : Ending) (w' : World) : Prop := ∃ v, e = .returned (.tuple #[v, .int .i64 r.2]) ∧ Own w' w.heap.size v r.1 ∧ Below w.heap.size w w'
theorem Sl.lt {w : World} {A : Option Addr} {l : List Int} (h : Sl w A l) (ad : Addr) (e : A = some ad) (hn : 0 < l.length) : ad.block < w.heap.size := by
  obtain ⟨ad', e', hc⟩ := h hn
  rw [e] at e'
  injection e' with e'
  subst e'
  have := World.block_lt_of_cell? w _ (hc 0 hn)
  have hb : (ad.add 0).block = ad.block := rfl
  omega
theorem below_draws (w : World) (n : Nat) : Below w.heap.size w (w.drewN n) := ⟨rfl, rfl, rfl, Nat.le_refl _, fun _ _ => rfl⟩
theorem nat_less_nil (A' : Option Addr) (c' : Nat) (w : World) :
    Calls Try.prog 91 #[.slice none 0 0, .slice A' 0 c'] w fun e w' => e = .returned (.slice none 0 0) ∧ w = w' := by
  have hs : Sl w none [] := fun h => by simp at h
  have H1 := Lib.hid (nat_cut none 0 [] w hs (by simp) (by simp) Num.W_nil)
  go_enter Try.func91, Try.ntmps91
  go_wp2
  go_loop [5, 10] (fun br i => i = .int .i64 0 ∧ br = .int .u64 0) (fun _ _ => 0)
  case atStart => exact ⟨rfl, rfl⟩
  case round =>
    obtain ⟨rfl, rfl⟩ := hrel
    go_wp2_with fail
    refine H1.out.mono ?_
    rintro e w' ⟨rfl, rfl⟩
    go_wp2
    go_ret
    exact ⟨rfl, rfl⟩
theorem nat_Sub (A A' : Option Addr) (c c' : Nat) (a b : List Int) (w : World) (ha : Sl w A a) (hb : Sl w A' b) (hca : a.length ≤ c) (hcb : b.length ≤ c') (hm : a.length ≤ 9223372036854775807) (hm' : b.length ≤ 9223372036854775807) (hWa : Num.W a) (hWb : Num.W b) :
    Calls Try.prog 70 #[.slice A a.length c, .slice A' b.length c'] w (NewS w (Num.nSub a b)) := by
  have H1 := Lib.hid (nat_checked A A' c c' a b w ha hb hm hm')
  by_cases h0 : Num.nChecked a b = 0
  · have hab : Num.nCheck a = 0 ∧ Num.nCheck b = 0 := by
      unfold Num.nChecked at h0
      split at h0
      · exact ⟨by assumption, h0⟩
      · exact absurd h0 (by assumption)
    obtain ⟨Na, La⟩ := Num.norm_of_check hab.1
    obtain ⟨Nb, Lb⟩ := Num.norm_of_check hab.2
    have H2 := Lib.hid (nat_Compare A A' c c' a b w ha hb hca hcb hm hm' hWa hWb)
    rw [h0] at H1
    by_cases hlt : Num.val a < Num.val b
    · have hr : Num.nSub a b = ([], 2) := by unfold Num.nSub; rw [if_pos h0, if_pos hlt]
      have hk : Num.nCompare a b = -1 := by unfold Num.nCompare; rw [if_pos hlt]
      rw [hr]
      rw [hk] at H2
      clear hr hk h0 hlt hab Na Nb
      go_enter Try.func70, Try.ntmps70
      go_wp2_with fail
      refine H1.out.mono ?_
      rintro e w' ⟨rfl, rfl⟩
      go_wp2_with fail
      refine H2.out.mono ?_
      rintro e w' ⟨rfl, nq, rfl⟩
      go_wp2
      go_ret2
      exact ⟨_, rfl, Own.nil_ _ _, below_draws _ _⟩
    · have hr : Num.nSub a b = (Num.words (Num.val a - Num.val b), 0) := by unfold Num.nSub; rw [if_pos h0, if_neg hlt]
      have hge : decide (Num.nCompare a b < 0) = false := by
        unfold Num.nCompare; rw [if_neg hlt]; split <;> simp
      have hlen : b.length ≤ a.length := by
        rcases Nat.lt_or_ge a.length b.length with h | h
        · exact absurd (Num.val_lt_len hWa hWb Nb h) hlt
        · exact h
      rw [hr]
      clear hr h0 hab Na
      generalize Num.nCompare a b = cmp at *
      have HLT := Lib.hid hlt
      clear hlt
      go_enter Try.func70, Try.ntmps70
      go_wp2_with fail
      refine H1.out.mono ?_
      rintro e w' ⟨rfl, rfl⟩
      go_wp2_with fail
      refine H2.out.mono ?_
      rintro e w' ⟨rfl, nq, rfl⟩
      go_wp2_with fail
      refine (slices_Clone A c a _ (ha.below (below_draws w nq)) hca (Fits.small (by omega))).mono ?_
      rintro e w1 ⟨v1, rfl, ho, hbl⟩
      rcases ho with ⟨rfl, rfl⟩ | ⟨g, c1, rfl, hg, hcm, hwin⟩
      · obtain rfl : b = [] := List.eq_nil_of_length_eq_zero (by simpa using hlen)
        go_wp2_with fail
        refine (nat_less_nil A' c' _).mono ?_
        rintro e w2 ⟨rfl, rfl⟩
        go_wp2
        go_ret2
        exact ⟨_, rfl, Own.nil_ _ _, (below_draws _ _).trans hbl⟩
      · have hb1 := hb.below ((below_draws w nq).trans hbl)
        have hltb := hb.lt
        go_wp2_with fail
        refine (nat_less g c1 c' A' a b _ hwin hb1 (fun ad e h => by have := hltb ad e h; simp at hg; omega) (by simpa [maxLen] using hcm) hWa hWb hlen (by have := HLT.out; omega)).mono ?_
        rintro e w2 ⟨l, rfl, hl1, hl2, hl3, hl4, hl5⟩
        go_wp2
        go_ret2
        refine ⟨_, rfl, ?_, ((below_draws _ _).trans hbl).trans (hl5.below hg)⟩
        rw [← hl3]
        exact own_cut hl4 hl2 hg hcm
  · have hr : Num.nSub a b = ([], Num.nChecked a b) := by unfold Num.nSub; rw [if_neg h0]
    rw [hr]
    clear hr
    generalize Num.nChecked a b = er at *
    go_enter Try.func70, Try.ntmps70
    go_wp2_with fail
    refine H1.out.mono ?_
    rintro e w' ⟨rfl, rfl⟩
    go_wp2
    go_ret2
    exact ⟨_, rfl, Own.nil_ _ _, Below.refl _ _⟩
end Go.Proofs.Ytfmhfgjpbkmneaa
