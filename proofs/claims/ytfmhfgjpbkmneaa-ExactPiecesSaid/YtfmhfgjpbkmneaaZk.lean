import Derived.Test.YtfmhfgjpbkmneaaZj
import Derived.Deep.Upon
import Derived.ProofKit
import Derived.OpenShut
import Derived.Deep.Slices
namespace Go.Proofs.Ytfmhfgjpbkmneaa
open Go.RowKit
set_option linter.unusedVariables false
set_option linter.unusedSimpArgs false
set_option maxHeartbeats 4000000
namespace Num
/-- the heights of n ticks from a on -/
def tall (p : Po) (a : Int) (n : Nat) : List Ra := (List.range n).map fun (i : Nat) => (eAt p (a + i)).1
theorem tall_add (p : Po) (a : Int) (n m : Nat) : tall p a (n + m) = tall p a n ++ tall p (a + n) m := by
  unfold tall
  rw [List.range_add, List.map_append, List.map_map]
  congr 1
  refine List.map_congr_left fun i _ => ?_
  simp [Int.add_assoc]
theorem eSpanF_ok (p : Po) : ∀ (n : Nat) (t : Int) (acc : List Ra), (eSpanF p n t acc).2 = 0 → ∀ i : Nat, i < n → (eAt p (t + i)).2 = 0
  | 0, _, _, _ => fun i h => by omega
  | n + 1, t, acc, h => by
    unfold eSpanF at h
    by_cases e : (eAt p t).2 ≠ 0
    · rw [if_pos e] at h; exact absurd h e
    rw [if_neg e] at h
    intro i hi
    cases i with
    | zero => simpa using e
    | succ i =>
      have := eSpanF_ok p n (t + 1) _ h i (by omega)
      have e2 : t + 1 + (i : Int) = t + ((i + 1 : Nat) : Int) := by omega
      rw [e2] at this
      exact this
theorem eSpanF_val (p : Po) : ∀ (n : Nat) (t : Int) (acc : List Ra), (∀ i : Nat, i < n → (eAt p (t + i)).2 = 0) → eSpanF p n t acc = (acc ++ tall p t n, 0)
  | 0, t, acc, _ => by simp [eSpanF, tall]
  | n + 1, t, acc, h => by
    have h0 : (eAt p t).2 = 0 := by simpa using h 0 (by omega)
    have h1 : tall p t (n + 1) = (eAt p t).1 :: tall p (t + 1) n := by
      have := tall_add p t 1 n
      rw [Nat.add_comm] at this
      rw [this]
      simp [tall]
    rw [eSpanF, if_neg (by omega), eSpanF_val p n (t + 1) _ (fun i hi => by
      have := h (i + 1) (by omega)
      have e2 : t + 1 + (i : Int) = t + ((i + 1 : Nat) : Int) := by omega
      rw [e2]; exact this), h1]
    simp
theorem eSpanF_err (p : Po) : ∀ (n : Nat) (t : Int) (acc : List Ra), (eSpanF p n t acc).2 ≠ 0 → (eSpanF p n t acc).1 = []
  | 0, _, _, h => absurd rfl h
  | n + 1, t, acc, h => by
    unfold eSpanF at h ⊢
    by_cases e : (eAt p t).2 ≠ 0
    · rw [if_pos e]
    · rw [if_neg e] at h ⊢
      exact eSpanF_err p n _ _ h
theorem eSpan_err {p : Po} {a b : Int} (h : (eSpan p a b).2 ≠ 0) : (eSpan p a b).1 = [] := by
  unfold eSpan at h ⊢
  split
  · rfl
  split
  · rfl
  · rename_i h1 h2
    rw [if_neg h1, if_neg h2] at h
    exact eSpanF_err p _ _ _ h
theorem eSpan_ok {p : Po} {a b : Int} (h : (eSpan p a b).2 = 0) : (pCheck p).1 = 0 ∧ 0 ≤ a ∧ a ≤ b ∧ b ≤ 1025 ∧ (∀ i : Nat, i < (b - a).toNat → (eAt p (a + i)).2 = 0) := by
  unfold eSpan at h
  by_cases h1 : (pCheck p).1 ≠ 0
  · rw [if_pos h1] at h; exact absurd h h1
  rw [if_neg h1] at h
  by_cases h2 : a < 0 ∨ 1025 < b ∨ b < a
  · rw [if_pos h2] at h; exact absurd h (by decide)
  rw [if_neg h2] at h
  exact ⟨by omega, by omega, by omega, by omega, eSpanF_ok p _ _ _ h⟩
theorem eSpan_val {p : Po} {a b : Int} (h0 : (pCheck p).1 = 0) (h1 : 0 ≤ a) (h2 : a ≤ b) (h3 : b ≤ 1025) (h : ∀ i : Nat, i < (b - a).toNat → (eAt p (a + i)).2 = 0) : eSpan p a b = (tall p a (b - a).toNat, 0) := by
  unfold eSpan
  rw [if_neg (by omega), if_neg (by omega), eSpanF_val p _ _ _ h]
  rfl
/-- a span is its pieces, and each height is that of its tick -/
theorem eSpan_pieces {p : Po} {a b : Int} (h : (eSpan p a b).2 = 0) : 0 ≤ a ∧ a ≤ b ∧ b ≤ 1025 ∧ ((eSpan p a b).1.length : Int) = b - a ∧
    (∀ m, a ≤ m → m ≤ b → (eSpan p a m).2 = 0 ∧ (eSpan p m b).2 = 0 ∧ (eSpan p a b).1 = (eSpan p a m).1 ++ (eSpan p m b).1) ∧
    ∀ (i : Nat) (h : i < (eSpan p a b).1.length), eAtE p (a + i) = ((eSpan p a b).1[i], 0) := by
  obtain ⟨h0, h1, h2, h3, h4⟩ := eSpan_ok h
  have hv := eSpan_val h0 h1 h2 h3 h4
  refine ⟨h1, h2, h3, ?_, fun m hm hm' => ?_, fun i hi => ?_⟩
  · rw [hv]; simp [tall]; omega
  · have v1 := eSpan_val (p := p) h0 h1 hm (by omega) (fun i hi => h4 i (by omega))
    have v2 := eSpan_val (p := p) h0 (by omega) hm' h3 (fun i hi => by
      have := h4 ((m - a).toNat + i) (by omega)
      have e2 : a + (((m - a).toNat + i : Nat) : Int) = m + i := by omega
      rw [e2] at this
      exact this)
    rw [hv, v1, v2]
    refine ⟨rfl, rfl, ?_⟩
    have e3 : (b - a).toNat = (m - a).toNat + (b - m).toNat := by omega
    have e4 : a + ((m - a).toNat : Int) = m := by omega
    show tall p a (b - a).toNat = tall p a (m - a).toNat ++ tall p m (b - m).toNat
    rw [e3, tall_add, e4]
  · have hi' : i < (b - a).toNat := by
      rw [hv] at hi
      simpa [tall] using hi
    have h5 := h4 i hi'
    have h6 : eWrong p (a + i) = 0 := by
      unfold eWrong eTick
      rw [if_neg (by omega), if_neg (by omega)]
    rw [eAtE, if_neg (by omega)]
    refine Prod.ext ?_ h5
    simp only [hv, tall]
    simp
end Num
end Go.Proofs.Ytfmhfgjpbkmneaa
namespace Go.Proofs.Ytfmhfgjpbkmneaa
open Go.RowKit
set_option linter.unusedVariables false
set_option linter.unusedSimpArgs false
set_option maxHeartbeats 4000000
/-! ### append of a list of fractions that lies elsewhere -/
/-- the cells of a list of fractions, the words anywhere among the worlds -/
def RowX (us : List World) (l : List Num.Ra) (xs : List Value) : Prop := ∀ j, (h : j < l.length) → ∃ P p P' p' u, (∀ i v, (rcs l[j] P p P' p')[i]? = some v → xs[j * 3 + i]? = some v) ∧ u ∈ us ∧
  Rd u (.slice P l[j].num.length p) l[j].num ∧ Rd u (.slice P' l[j].den.length p') l[j].den
theorem RowX.nil (us : List World) : RowX us [] [] := fun j h => by simp at h
theorem RowX.append {us : List World} {l l' : List Num.Ra} {xs ys : List Value} (h : RowX us l xs) (hx : xs.length = l.length * 3) (h' : RowX us l' ys) : RowX us (l ++ l') (xs ++ ys) := fun j hj => by
  rw [List.length_append] at hj
  rcases Nat.lt_or_ge j l.length with h1 | h1
  · obtain ⟨P, p, P', p', u, e1, e2, e3, e4⟩ := h j h1
    have e : (l ++ l')[j]'(by rw [List.length_append]; omega) = l[j] := List.getElem_append_left h1
    rw [e]
    refine ⟨P, p, P', p', u, fun i v hv => ?_, e2, e3, e4⟩
    have := e1 i v hv
    have hlt := (List.getElem?_eq_some_iff.1 this).1
    rw [List.getElem?_append_left hlt]
    exact this
  · obtain ⟨P, p, P', p', u, e1, e2, e3, e4⟩ := h' (j - l.length) (by omega)
    have e : (l ++ l')[j]'(by rw [List.length_append]; omega) = l'[j - l.length]'(by omega) := List.getElem_append_right h1
    rw [e]
    refine ⟨P, p, P', p', u, fun i v hv => ?_, e2, e3, e4⟩
    have := e1 i v hv
    rw [List.getElem?_append_right (by rw [hx]; have := Nat.mul_le_mul_right 3 h1; omega), ← this]
    congr 1
    rw [hx, Nat.sub_mul]
    have := Nat.mul_le_mul_right 3 h1
    omega
theorem RowX.mono {us us' : List World} {l : List Num.Ra} {xs : List Value} (h : RowX us l xs) (k : ∀ u ∈ us, u ∈ us') : RowX us' l xs := fun j hj => by
  obtain ⟨P, p, P', p', u, e1, e2, e3, e4⟩ := h j hj
  exact ⟨P, p, P', p', u, e1, k _ e2, e3, e4⟩
/-- what such a list's memory holds -/
theorem RdRs.row {u : World} {A : Option Addr} {l : List Num.Ra} {c : Nat} {us : List World} (h : RdRs u (.slice A l.length c) l) (m : u ∈ us) (hn : 0 < l.length) :
    ∃ a xs, A = some a ∧ xs.length = l.length * 3 ∧ (∀ j v, xs[j]? = some v → u.cell? (a.add j) = some v) ∧ (∀ v ∈ xs, v.oneCell' = true) ∧ RowX us l xs := by
  obtain ⟨A', c', e, -, -, h3⟩ := h
  injection e with e1 e2 e3
  subst e1
  obtain ⟨b, o, rfl, hj⟩ := h3 hn
  have hat : ∀ k, (h : k < l.length) → ∀ i, i < 3 → ∃ v, u.cell? ⟨b, o + (k * 3 + i), none⟩ = some v ∧ v.oneCell' = true := fun k hk i hi => by
    obtain ⟨P, p, P', p', x1, x2, x3⟩ := hj k hk
    have key : ∀ v, (rcs l[k] P p P' p')[i]? = some v → u.cell? ⟨b, o + (k * 3 + i), none⟩ = some v := fun v hv => by rw [← Nat.add_assoc]; exact x1 i v hv
    match i, hi, key with
    | 0, _, key => exact ⟨_, key _ rfl, rfl⟩
    | 1, _, key => exact ⟨_, key _ rfl, rfl⟩
    | 2, _, key => exact ⟨_, key _ rfl, rfl⟩
  have hall : ∀ j, j < l.length * 3 → ∃ v, u.cell? ⟨b, o + j, none⟩ = some v ∧ v.oneCell' = true := fun j hj => by
    have := hat (j / 3) (by omega) (j % 3) (by omega)
    rwa [show j / 3 * 3 + j % 3 = j by omega] at this
  refine ⟨_, (List.range (l.length * 3)).map fun j => (u.cell? ⟨b, o + j, none⟩).getD undef, rfl, by simp, fun j v hv => ?_, fun v hv => ?_, fun j hjl => ?_⟩
  · rw [List.getElem?_map] at hv
    have hlt : j < l.length * 3 := by
      rcases Nat.lt_or_ge j (l.length * 3) with h | h
      · exact h
      · rw [List.getElem?_eq_none (by simpa using h)] at hv; cases hv
    rw [List.getElem?_range hlt] at hv
    obtain ⟨v', hv', -⟩ := hall j hlt
    simp only [Option.map_some, Option.some.injEq] at hv
    rw [Addr.add_mid, hv']
    rw [hv'] at hv
    exact congrArg some hv
  · obtain ⟨j, hj', rfl⟩ := List.mem_map.1 hv
    obtain ⟨v', hv', hv2⟩ := hall j (by simpa using hj')
    rw [hv']
    exact hv2
  · obtain ⟨P, p, P', p', x1, x2, x3⟩ := hj j hjl
    refine ⟨P, p, P', p', u, fun i v hv => ?_, m, x2, x3⟩
    have hi : i < 3 := (List.getElem?_eq_some_iff.1 hv).1
    have := x1 i v hv
    rw [List.getElem?_map, List.getElem?_range (by omega)]
    rw [Nat.add_assoc] at this
    rw [Option.map_some, this]
    rfl
section
variable {W0 w w' : World} {og : Option Nat} {L : List Bx} {us : List World}
theorem RowX.rd (hc : Ctx W0 og L us w) {l : List Num.Ra} {xs cur : List Value} {g i cap : Nat} {t : TypeId} (h : RowX us l xs) (hg : Has L g t cur i) (hr : RowC cur xs l.length cap 3) : RdRs w (.slice (some ⟨g, 0, none⟩) l.length cap) l := by
  refine ⟨_, cap, rfl, hr.le, hr.max, fun hn => ⟨g, 0, rfl, fun j hj => ?_⟩⟩
  obtain ⟨P, p, P', p', u, e1, e2, e3, e4⟩ := h j hj
  refine ⟨P, p, P', p', fun k v hv => ?_, e3.sub (hc.sub u e2), e4.sub (hc.sub u e2)⟩
  have hx := e1 k v hv
  rw [hc.cell hg, Nat.zero_add]
  rw [← hr.take] at hx
  have := (List.getElem?_eq_some_iff.1 hx).1
  rw [List.length_take] at this
  rw [List.getElem?_take_of_lt (by omega)] at hx
  exact hx
theorem run_appR (hc : Ctx W0 og L us w) {n cap c g i : Nat} {ty : TypeId} {cur xs : List Value} {l l' : List Num.Ra} {u : World} {A : Option Addr} (hg : Has L g 24 cur i) (hr : RowC cur xs n cap 3) (hn : l.length = n) (hx : RowX us l xs)
    (hs : RdRs u (.slice A l'.length c) l') (m : u ∈ us) (hb : n + l'.length ≤ 100000) :
    ∃ g' cap' cur' xs' w', (Builtin.append_ #[30, 30] ty #[.slice (some ⟨g, 0, none⟩) n cap, .slice A l'.length c]).run Try.prog w = .ok (.slice (some ⟨g', 0, none⟩) (n + l'.length) cap') w' ∧
      Ctx W0 og (snocN (delN L i) ⟨g', 24, cur'⟩) us w' ∧ RowC cur' xs' (n + l'.length) cap' 3 ∧ RowX us (l ++ l') xs' := by
  have hby := slRatio_by
  obtain ⟨i0, zv, hq, hzv, hzc, hi2⟩ := slRatio.parts
  rw [hq] at hby
  simp at hby
  rcases Nat.eq_zero_or_pos l'.length with h0 | h0
  · have hl0 := List.eq_nil_of_length_eq_zero h0
    subst hl0
    refine ⟨g, cap, cur, xs, w, ?_, hc.swap hg ⟨rfl, rfl, rfl, Nat.le_refl _, fun _ _ _ => rfl⟩ (hc.box _ hg.mem).2 (.inl rfl), hr, by simpa using hx⟩
    have hsrc : Src Try.prog i0.size 30 (.slice A 0 c) 0 [] w := by
      cases A with
      | none => exact Src.ofNil w slRatio.und c
      | some a => exact Src.ofSlice w slRatio.und a 0 c [] (by simp) (fun j u h => by simp at h) (fun u h => by cases h)
    exact run_append_nothing w _ _ ty _ i0 slRatio.und hq _ _ _ hr.le _ hsrc
  · obtain ⟨a, news, rfl, hnl, hcell, hone, hX⟩ := hs.row m h0
    obtain ⟨v', w', hrun, hrow, hgr, hnil, hblk⟩ := run_append_own_at (P := Try.prog) w 0 30 ty _ i0 zv 3 56 slRatio.und hq hzv hi2 hby (by rw [hzc]; simp) (by omega) (.slice (some ⟨g, 0, none⟩) n cap) n xs ⟨hr.xlen, .inr ⟨g, cap, cur.toArray, rfl, Nat.zero_le _, (hc.box _ hg.mem).2, hr.le, by unfold maxLen; exact hr.max, by simpa using hr.len, by simpa using hr.take⟩⟩ a l'.length c news hnl (fun j v hv => (hc.sub u m).cell (hcell j v hv)) hone (by unfold maxLen; omega) (by omega) (Nat.zero_le _)
    rcases hrow.2 with ⟨e1, e2⟩ | ⟨g', cap', cur', e1, _, hh, hn', hmax, hsz, htk⟩
    · have := (hnil.1 e1).1; cases this
    · subst e1
      refine ⟨g', cap', cur'.toList, xs ++ news, w', hrun, hc.swap hg hgr (by simpa using hh) ?_, ⟨htk, by simpa using hsz, hn', by unfold maxLen at hmax; exact hmax, hrow.1⟩, hx.append (by rw [hn]; exact hr.xlen) hX⟩
      simp only [Value.ownBlock, Option.some.injEq] at hblk
      rcases hblk with e | e
      · exact .inl e
      · exact .inr (by omega)
end
section
variable {W0 w : World} {og : Option Nat} {L : List Bx} {us : List World} {ops : Array Oper} {rest : List Oper} {Q : Exit → Act → World → Prop} {l : List Value} {ds : List Deferred}
theorem wpc_appR (hc : Ctx W0 og L us w) {d a b n cap c g i : Nat} {ty : TypeId} {pos : String} {after : Array Edge} {cur xs : List Value} {p p' : List Num.Ra} {u : World} {A : Option Addr} (hr : RowC cur xs n cap 3) (hn : p.length = n) (hx : RowX us p xs)
    (hs : RdRs u (.slice A p'.length c) p') (m : u ∈ us) (hb : n + p'.length ≤ 100000) (hg : Has L g 24 cur i) (ha : getN l a = some (.slice (some ⟨g, 0, none⟩) n cap)) (hb' : getN l b = some (.slice A p'.length c))
    (h : ∀ g' cap' cur' xs' w', Ctx W0 og (snocN (delN L i) ⟨g', 24, cur'⟩) us w' → RowC cur' xs' (n + p'.length) cap' 3 → RowX us (p ++ p') xs' → wpList Try.prog ops Q rest ⟨(setN l d (.slice (some ⟨g', 0, none⟩) (n + p'.length) cap')).toArray, ds⟩ w') :
    wpList Try.prog ops Q (⟨some d, .call { callee := .builtin .append, args := #[.tmp a, .tmp b], argTypes := #[30, 30] }, ty, pos, after, none⟩ :: rest) ⟨l.toArray, ds⟩ w := by
  obtain ⟨g', cap', cur', xs', w', hrun, hc', hr', hx'⟩ := run_appR (ty := ty) hc hg hr hn hx hs m hb
  have h := h g' cap' cur' xs' w' hc' hr' hx'
  rw [← put_list] at h
  refine wpList_plain rfl fun K hK => ?_
  unfold Oper.wp execOp
  simp only [resolve, invoke, builtin, Sem.run_bind, Sem.run_pure, Result.andThen_ok, List.map_toArray, List.map_cons, List.map_nil, eval_list ha, eval_list hb', hrun]
  exact hK _ _ h
end
end Go.Proofs.Ytfmhfgjpbkmneaa
namespace Go.Proofs.Ytfmhfgjpbkmneaa
open Go.RowKit
set_option linter.unusedVariables false
set_option linter.unusedSimpArgs false
set_option maxHeartbeats 8000000
theorem cc_Rs {W0 w : World} {og : Option Nat} {L : List Bx} {us : List World} {f : FuncId} {args : Array Value} {K : Ending → World → Prop} (hc : Ctx W0 og L us w) {r : List Num.Ra × Int} (h : Calls Try.prog f args w (NewRs w r))
    (hk : ∀ u w' A c, Ctx W0 og L (u :: us) w' → RdRs u (.slice A r.1.length c) r.1 → K (.returned (.tuple #[.slice A r.1.length c, .int .i64 r.2])) w') : Calls Try.prog f args w K :=
  h.mono fun e w' ⟨v, he, hr, hb⟩ => by
    obtain ⟨A, c, rfl, h1, h2, h3⟩ := hr
    rw [he]
    exact hk _ _ _ _ (hc.call hb) ⟨A, c, rfl, h1, h2, h3⟩
theorem cc_eq' {W0 w : World} {og : Option Nat} {L : List Bx} {us : List World} {f : FuncId} {args : Array Value} {K : Ending → World → Prop} (hc : Ctx W0 og L us w) {v : Value} (h : Calls Try.prog f args w fun e w' => e = .returned v ∧ w' = w) (hk : ∀ w', Ctx W0 og L us w' → K (.returned v) w') : Calls Try.prog f args w K :=
  h.mono fun e w' ⟨he, hb⟩ => by rw [he, hb]; exact hk _ hc
theorem exact_Span0 {W : World} {v : Value} {p : Num.Po} {a b : Int} {q : List Num.Ra × Int} (h : RdP W v p) (h4 : -9223372036854775808 ≤ a) (h5 : a ≤ 9223372036854775807) (h6 : -9223372036854775808 ≤ b) (h7 : b ≤ 9223372036854775807) (e : Num.eSpan p a b = q) : Calls Try.prog 8 #[v, .int .i64 a, .int .i64 b] W (NewRs W q) := by rw [← e]; exact exact_Span h h4 h5 h6 h7
theorem RowC.none : RowC [] [] 0 0 3 := ⟨rfl, rfl, by omega, by omega, rfl⟩
theorem Num.eAtE_W (p : Num.Po) (t : Int) : Num.RaW (Num.eAtE p t).1 := by
  unfold Num.eAtE
  split
  · exact ⟨Num.W_nil, Num.W_nil⟩
  · exact Num.eAt_W p t
set_option maxRecDepth 100000 in
theorem law15_Pieces {W : World} {v : Value} {p : Num.Po} {a m b : Int} (h : RdP W v p) (h4 : -9223372036854775808 ≤ a) (h5 : a ≤ 9223372036854775807) (h6 : -9223372036854775808 ≤ b) (h7 : b ≤ 9223372036854775807) (h8 : -9223372036854775808 ≤ m) (h9 : m ≤ 9223372036854775807) :
    Calls Try.prog 3 #[v, .int .i64 a, .int .i64 m, .int .i64 b] W fun e w' => e = .returned (.bool true) ∧ Below W.heap.size W w' := by
  have HL := Lib.hid (fun w (s : Part W w) => law15_Long (a := a) (b := b) (h.sub s) h4 h5 h6 h7)
  have HS := Lib.hid (fun w (x y : Int) (s : Part W w) (x0 : -9223372036854775808 ≤ x) (x1 : x ≤ 9223372036854775807) (y0 : -9223372036854775808 ≤ y) (y1 : y ≤ 9223372036854775807) (q : List Num.Ra × Int) (e : Num.eSpan p x y = q) => exact_Span0 (a := x) (b := y) (h.sub s) x0 x1 y0 y1 e)
  have HA := Lib.hid (fun w (t : Int) (s : Part W w) (x0 : -9223372036854775808 ≤ t) (x1 : t ≤ 9223372036854775807) (q : Num.Ra) (e : Num.eAtE p t = (q, 0)) => exact_At0 (t := t) (h.sub s) x0 x1 e)
  have HW := Lib.hid (fun w => law15_awake w)
  obtain ⟨A, c, A', c', T, ct, rfl, -⟩ := h
  have hc := Ctx.start W
  by_cases hab : b < a
  · have t1 : decide (a > b) = true := decide_eq_true hab
    clear hab h4 h5 h6 h7 h8 h9
    go_enter Try.func3, Try.ntmps3
    go_wp2_with (first | ((with_reducible apply wpc_load hc); (first | exact tfRatio | exact tfGauss | exact tfRotor | exact tfTide | exact tfPort | exact tfFault | exact tfWay | exact tfUnit); rfl; (repeat first | exact .here | apply Has.there); rfl; (simp only [snocN, setN, dropN, takeN, spliceN, List.length_cons, List.length_nil])) | ((with_reducible apply wpc_load1 hc); exact ⟨by kernel_rfl, by kernel_rfl⟩; rfl; (repeat first | exact .here | apply Has.there); rfl; (simp only [snocN, setN, dropN, takeN, spliceN, List.length_cons, List.length_nil])) | ((with_reducible apply wpc_store hc); (first | exact tfRatio | exact tfGauss | exact tfRotor | exact tfTide | exact tfPort | exact tfFault | exact tfWay | exact tfUnit); rfl; rfl; (repeat first | exact .here | apply Has.there); rfl; rfl; rfl; (clear hc; (try clear w); intro w hc; simp only [snocN, setN, dropN, takeN, spliceN, flatN, flatN.appN, Value.cells, argsN, argN, atN, List.map_cons, List.map_nil, List.length_cons, List.length_nil] at hc ⊢)) | ((with_reducible apply wpc_store1 hc); exact ⟨by kernel_rfl, by kernel_rfl⟩; rfl; (repeat first | exact .here | apply Has.there); rfl; rfl; (clear hc; (try clear w); intro w hc; simp only [snocN, setN, dropN, takeN, spliceN, flatN, flatN.appN, Value.cells, argsN, argN, atN, List.map_cons, List.map_nil, List.length_cons, List.length_nil] at hc ⊢)) | ((with_reducible apply wpc_box hc); rfl; rfl; (clear hc; (try clear w); intro g w hc; simp only [snocN, setN, dropN, takeN, spliceN, flatN, flatN.appN, Value.cells, argsN, argN, atN, List.map_cons, List.map_nil, List.length_cons, List.length_nil] at hc ⊢)) | ((with_reducible apply wpc_alloc hc); (first | exact tfRatio | exact tfGauss | exact tfRotor | exact tfTide | exact tfPort | exact tfFault | exact tfWay | exact tfUnit); (clear hc; (try clear w); intro g w hc; simp only [snocN, setN, dropN, takeN, spliceN, flatN, flatN.appN, Value.cells, argsN, argN, atN, List.map_cons, List.map_nil, List.length_cons, List.length_nil] at hc ⊢)) | ((with_reducible apply wpc_slice hc); (first | exact slGauss | exact slRatio | exact slWords | exact slTide); rfl; rfl; rfl; rfl; rfl; (clear hc; (try clear w); intro g w hc; simp only [snocN, setN, dropN, takeN, spliceN, flatN, flatN.appN, Value.cells, argsN, argN, atN, List.map_cons, List.map_nil, List.length_cons, List.length_nil] at hc ⊢)) | ((with_reducible apply wpl_wanted); rfl))
    refine cc_below hc (HW.out _) ?_
    clear hc; try clear w
    intro w hc
    go_wp2_with (first | ((with_reducible apply wpc_load hc); (first | exact tfRatio | exact tfGauss | exact tfRotor | exact tfTide | exact tfPort | exact tfFault | exact tfWay | exact tfUnit); rfl; (repeat first | exact .here | apply Has.there); rfl; (simp only [snocN, setN, dropN, takeN, spliceN, List.length_cons, List.length_nil])) | ((with_reducible apply wpc_load1 hc); exact ⟨by kernel_rfl, by kernel_rfl⟩; rfl; (repeat first | exact .here | apply Has.there); rfl; (simp only [snocN, setN, dropN, takeN, spliceN, List.length_cons, List.length_nil])) | ((with_reducible apply wpc_store hc); (first | exact tfRatio | exact tfGauss | exact tfRotor | exact tfTide | exact tfPort | exact tfFault | exact tfWay | exact tfUnit); rfl; rfl; (repeat first | exact .here | apply Has.there); rfl; rfl; rfl; (clear hc; (try clear w); intro w hc; simp only [snocN, setN, dropN, takeN, spliceN, flatN, flatN.appN, Value.cells, argsN, argN, atN, List.map_cons, List.map_nil, List.length_cons, List.length_nil] at hc ⊢)) | ((with_reducible apply wpc_store1 hc); exact ⟨by kernel_rfl, by kernel_rfl⟩; rfl; (repeat first | exact .here | apply Has.there); rfl; rfl; (clear hc; (try clear w); intro w hc; simp only [snocN, setN, dropN, takeN, spliceN, flatN, flatN.appN, Value.cells, argsN, argN, atN, List.map_cons, List.map_nil, List.length_cons, List.length_nil] at hc ⊢)) | ((with_reducible apply wpc_box hc); rfl; rfl; (clear hc; (try clear w); intro g w hc; simp only [snocN, setN, dropN, takeN, spliceN, flatN, flatN.appN, Value.cells, argsN, argN, atN, List.map_cons, List.map_nil, List.length_cons, List.length_nil] at hc ⊢)) | ((with_reducible apply wpc_alloc hc); (first | exact tfRatio | exact tfGauss | exact tfRotor | exact tfTide | exact tfPort | exact tfFault | exact tfWay | exact tfUnit); (clear hc; (try clear w); intro g w hc; simp only [snocN, setN, dropN, takeN, spliceN, flatN, flatN.appN, Value.cells, argsN, argN, atN, List.map_cons, List.map_nil, List.length_cons, List.length_nil] at hc ⊢)) | ((with_reducible apply wpc_slice hc); (first | exact slGauss | exact slRatio | exact slWords | exact slTide); rfl; rfl; rfl; rfl; rfl; (clear hc; (try clear w); intro g w hc; simp only [snocN, setN, dropN, takeN, spliceN, flatN, flatN.appN, Value.cells, argsN, argN, atN, List.map_cons, List.map_nil, List.length_cons, List.length_nil] at hc ⊢)) | ((with_reducible apply wpl_wanted); rfl))
    refine cc_bool hc (HL.out _ (hc.at_ (by repeat first | exact .here | apply Lies.there))) ?_
    clear hc; try clear w
    intro n w hc
    cases n
    all_goals
      go_wp2_with (first | ((with_reducible apply wpc_load hc); (first | exact tfRatio | exact tfGauss | exact tfRotor | exact tfTide | exact tfPort | exact tfFault | exact tfWay | exact tfUnit); rfl; (repeat first | exact .here | apply Has.there); rfl; (simp only [snocN, setN, dropN, takeN, spliceN, List.length_cons, List.length_nil])) | ((with_reducible apply wpc_load1 hc); exact ⟨by kernel_rfl, by kernel_rfl⟩; rfl; (repeat first | exact .here | apply Has.there); rfl; (simp only [snocN, setN, dropN, takeN, spliceN, List.length_cons, List.length_nil])) | ((with_reducible apply wpc_store hc); (first | exact tfRatio | exact tfGauss | exact tfRotor | exact tfTide | exact tfPort | exact tfFault | exact tfWay | exact tfUnit); rfl; rfl; (repeat first | exact .here | apply Has.there); rfl; rfl; rfl; (clear hc; (try clear w); intro w hc; simp only [snocN, setN, dropN, takeN, spliceN, flatN, flatN.appN, Value.cells, argsN, argN, atN, List.map_cons, List.map_nil, List.length_cons, List.length_nil] at hc ⊢)) | ((with_reducible apply wpc_store1 hc); exact ⟨by kernel_rfl, by kernel_rfl⟩; rfl; (repeat first | exact .here | apply Has.there); rfl; rfl; (clear hc; (try clear w); intro w hc; simp only [snocN, setN, dropN, takeN, spliceN, flatN, flatN.appN, Value.cells, argsN, argN, atN, List.map_cons, List.map_nil, List.length_cons, List.length_nil] at hc ⊢)) | ((with_reducible apply wpc_box hc); rfl; rfl; (clear hc; (try clear w); intro g w hc; simp only [snocN, setN, dropN, takeN, spliceN, flatN, flatN.appN, Value.cells, argsN, argN, atN, List.map_cons, List.map_nil, List.length_cons, List.length_nil] at hc ⊢)) | ((with_reducible apply wpc_alloc hc); (first | exact tfRatio | exact tfGauss | exact tfRotor | exact tfTide | exact tfPort | exact tfFault | exact tfWay | exact tfUnit); (clear hc; (try clear w); intro g w hc; simp only [snocN, setN, dropN, takeN, spliceN, flatN, flatN.appN, Value.cells, argsN, argN, atN, List.map_cons, List.map_nil, List.length_cons, List.length_nil] at hc ⊢)) | ((with_reducible apply wpc_slice hc); (first | exact slGauss | exact slRatio | exact slWords | exact slTide); rfl; rfl; rfl; rfl; rfl; (clear hc; (try clear w); intro g w hc; simp only [snocN, setN, dropN, takeN, spliceN, flatN, flatN.appN, Value.cells, argsN, argN, atN, List.map_cons, List.map_nil, List.length_cons, List.length_nil] at hc ⊢)) | ((with_reducible apply wpl_wanted); rfl))
      go_ret
      exact ⟨ret_bool rfl, hc.old⟩
  have t1 : decide (a > b) = false := decide_eq_false hab
  by_cases hz : ¬ (Num.eSpan p a b).2 = 0
  · have hl := Num.eSpan_err hz
    obtain ⟨l, hl2⟩ : ∃ l, Num.eSpan p a b = ([], l) := ⟨_, Prod.ext hl rfl⟩
    have HS1 := Lib.hid (fun w (s : Part W w) => HS.out w a b s h4 h5 h6 h7 _ hl2)
    rw [hl2] at hz
    have t2 : (l != 0) = true := by simpa using hz
    clear hab h4 h5 h6 h7 h8 h9 hz hl hl2 HS HA
    go_enter Try.func3, Try.ntmps3
    go_wp2_with (first | ((with_reducible apply wpc_load hc); (first | exact tfRatio | exact tfGauss | exact tfRotor | exact tfTide | exact tfPort | exact tfFault | exact tfWay | exact tfUnit); rfl; (repeat first | exact .here | apply Has.there); rfl; (simp only [snocN, setN, dropN, takeN, spliceN, List.length_cons, List.length_nil])) | ((with_reducible apply wpc_load1 hc); exact ⟨by kernel_rfl, by kernel_rfl⟩; rfl; (repeat first | exact .here | apply Has.there); rfl; (simp only [snocN, setN, dropN, takeN, spliceN, List.length_cons, List.length_nil])) | ((with_reducible apply wpc_store hc); (first | exact tfRatio | exact tfGauss | exact tfRotor | exact tfTide | exact tfPort | exact tfFault | exact tfWay | exact tfUnit); rfl; rfl; (repeat first | exact .here | apply Has.there); rfl; rfl; rfl; (clear hc; (try clear w); intro w hc; simp only [snocN, setN, dropN, takeN, spliceN, flatN, flatN.appN, Value.cells, argsN, argN, atN, List.map_cons, List.map_nil, List.length_cons, List.length_nil] at hc ⊢)) | ((with_reducible apply wpc_store1 hc); exact ⟨by kernel_rfl, by kernel_rfl⟩; rfl; (repeat first | exact .here | apply Has.there); rfl; rfl; (clear hc; (try clear w); intro w hc; simp only [snocN, setN, dropN, takeN, spliceN, flatN, flatN.appN, Value.cells, argsN, argN, atN, List.map_cons, List.map_nil, List.length_cons, List.length_nil] at hc ⊢)) | ((with_reducible apply wpc_box hc); rfl; rfl; (clear hc; (try clear w); intro g w hc; simp only [snocN, setN, dropN, takeN, spliceN, flatN, flatN.appN, Value.cells, argsN, argN, atN, List.map_cons, List.map_nil, List.length_cons, List.length_nil] at hc ⊢)) | ((with_reducible apply wpc_alloc hc); (first | exact tfRatio | exact tfGauss | exact tfRotor | exact tfTide | exact tfPort | exact tfFault | exact tfWay | exact tfUnit); (clear hc; (try clear w); intro g w hc; simp only [snocN, setN, dropN, takeN, spliceN, flatN, flatN.appN, Value.cells, argsN, argN, atN, List.map_cons, List.map_nil, List.length_cons, List.length_nil] at hc ⊢)) | ((with_reducible apply wpc_slice hc); (first | exact slGauss | exact slRatio | exact slWords | exact slTide); rfl; rfl; rfl; rfl; rfl; (clear hc; (try clear w); intro g w hc; simp only [snocN, setN, dropN, takeN, spliceN, flatN, flatN.appN, Value.cells, argsN, argN, atN, List.map_cons, List.map_nil, List.length_cons, List.length_nil] at hc ⊢)) | ((with_reducible apply wpl_wanted); rfl))
    refine cc_below hc (HW.out _) ?_
    clear hc; try clear w
    intro w hc
    go_wp2_with (first | ((with_reducible apply wpc_load hc); (first | exact tfRatio | exact tfGauss | exact tfRotor | exact tfTide | exact tfPort | exact tfFault | exact tfWay | exact tfUnit); rfl; (repeat first | exact .here | apply Has.there); rfl; (simp only [snocN, setN, dropN, takeN, spliceN, List.length_cons, List.length_nil])) | ((with_reducible apply wpc_load1 hc); exact ⟨by kernel_rfl, by kernel_rfl⟩; rfl; (repeat first | exact .here | apply Has.there); rfl; (simp only [snocN, setN, dropN, takeN, spliceN, List.length_cons, List.length_nil])) | ((with_reducible apply wpc_store hc); (first | exact tfRatio | exact tfGauss | exact tfRotor | exact tfTide | exact tfPort | exact tfFault | exact tfWay | exact tfUnit); rfl; rfl; (repeat first | exact .here | apply Has.there); rfl; rfl; rfl; (clear hc; (try clear w); intro w hc; simp only [snocN, setN, dropN, takeN, spliceN, flatN, flatN.appN, Value.cells, argsN, argN, atN, List.map_cons, List.map_nil, List.length_cons, List.length_nil] at hc ⊢)) | ((with_reducible apply wpc_store1 hc); exact ⟨by kernel_rfl, by kernel_rfl⟩; rfl; (repeat first | exact .here | apply Has.there); rfl; rfl; (clear hc; (try clear w); intro w hc; simp only [snocN, setN, dropN, takeN, spliceN, flatN, flatN.appN, Value.cells, argsN, argN, atN, List.map_cons, List.map_nil, List.length_cons, List.length_nil] at hc ⊢)) | ((with_reducible apply wpc_box hc); rfl; rfl; (clear hc; (try clear w); intro g w hc; simp only [snocN, setN, dropN, takeN, spliceN, flatN, flatN.appN, Value.cells, argsN, argN, atN, List.map_cons, List.map_nil, List.length_cons, List.length_nil] at hc ⊢)) | ((with_reducible apply wpc_alloc hc); (first | exact tfRatio | exact tfGauss | exact tfRotor | exact tfTide | exact tfPort | exact tfFault | exact tfWay | exact tfUnit); (clear hc; (try clear w); intro g w hc; simp only [snocN, setN, dropN, takeN, spliceN, flatN, flatN.appN, Value.cells, argsN, argN, atN, List.map_cons, List.map_nil, List.length_cons, List.length_nil] at hc ⊢)) | ((with_reducible apply wpc_slice hc); (first | exact slGauss | exact slRatio | exact slWords | exact slTide); rfl; rfl; rfl; rfl; rfl; (clear hc; (try clear w); intro g w hc; simp only [snocN, setN, dropN, takeN, spliceN, flatN, flatN.appN, Value.cells, argsN, argN, atN, List.map_cons, List.map_nil, List.length_cons, List.length_nil] at hc ⊢)) | ((with_reducible apply wpl_wanted); rfl))
    refine cc_bool hc (HL.out _ (hc.at_ (by repeat first | exact .here | apply Lies.there))) ?_
    clear hc; try clear w
    intro n w hc
    cases n
    · skip
      go_wp2_with (first | ((with_reducible apply wpc_load hc); (first | exact tfRatio | exact tfGauss | exact tfRotor | exact tfTide | exact tfPort | exact tfFault | exact tfWay | exact tfUnit); rfl; (repeat first | exact .here | apply Has.there); rfl; (simp only [snocN, setN, dropN, takeN, spliceN, List.length_cons, List.length_nil])) | ((with_reducible apply wpc_load1 hc); exact ⟨by kernel_rfl, by kernel_rfl⟩; rfl; (repeat first | exact .here | apply Has.there); rfl; (simp only [snocN, setN, dropN, takeN, spliceN, List.length_cons, List.length_nil])) | ((with_reducible apply wpc_store hc); (first | exact tfRatio | exact tfGauss | exact tfRotor | exact tfTide | exact tfPort | exact tfFault | exact tfWay | exact tfUnit); rfl; rfl; (repeat first | exact .here | apply Has.there); rfl; rfl; rfl; (clear hc; (try clear w); intro w hc; simp only [snocN, setN, dropN, takeN, spliceN, flatN, flatN.appN, Value.cells, argsN, argN, atN, List.map_cons, List.map_nil, List.length_cons, List.length_nil] at hc ⊢)) | ((with_reducible apply wpc_store1 hc); exact ⟨by kernel_rfl, by kernel_rfl⟩; rfl; (repeat first | exact .here | apply Has.there); rfl; rfl; (clear hc; (try clear w); intro w hc; simp only [snocN, setN, dropN, takeN, spliceN, flatN, flatN.appN, Value.cells, argsN, argN, atN, List.map_cons, List.map_nil, List.length_cons, List.length_nil] at hc ⊢)) | ((with_reducible apply wpc_box hc); rfl; rfl; (clear hc; (try clear w); intro g w hc; simp only [snocN, setN, dropN, takeN, spliceN, flatN, flatN.appN, Value.cells, argsN, argN, atN, List.map_cons, List.map_nil, List.length_cons, List.length_nil] at hc ⊢)) | ((with_reducible apply wpc_alloc hc); (first | exact tfRatio | exact tfGauss | exact tfRotor | exact tfTide | exact tfPort | exact tfFault | exact tfWay | exact tfUnit); (clear hc; (try clear w); intro g w hc; simp only [snocN, setN, dropN, takeN, spliceN, flatN, flatN.appN, Value.cells, argsN, argN, atN, List.map_cons, List.map_nil, List.length_cons, List.length_nil] at hc ⊢)) | ((with_reducible apply wpc_slice hc); (first | exact slGauss | exact slRatio | exact slWords | exact slTide); rfl; rfl; rfl; rfl; rfl; (clear hc; (try clear w); intro g w hc; simp only [snocN, setN, dropN, takeN, spliceN, flatN, flatN.appN, Value.cells, argsN, argN, atN, List.map_cons, List.map_nil, List.length_cons, List.length_nil] at hc ⊢)) | ((with_reducible apply wpl_wanted); rfl))
      refine cc_Rs hc (HS1.out _ (hc.at_ (by repeat first | exact .here | apply Lies.there))) ?_
      clear hc; try clear w
      intro u1 w A1 c1 hc hr1
      go_wp2_with (first | ((with_reducible apply wpc_load hc); (first | exact tfRatio | exact tfGauss | exact tfRotor | exact tfTide | exact tfPort | exact tfFault | exact tfWay | exact tfUnit); rfl; (repeat first | exact .here | apply Has.there); rfl; (simp only [snocN, setN, dropN, takeN, spliceN, List.length_cons, List.length_nil])) | ((with_reducible apply wpc_load1 hc); exact ⟨by kernel_rfl, by kernel_rfl⟩; rfl; (repeat first | exact .here | apply Has.there); rfl; (simp only [snocN, setN, dropN, takeN, spliceN, List.length_cons, List.length_nil])) | ((with_reducible apply wpc_store hc); (first | exact tfRatio | exact tfGauss | exact tfRotor | exact tfTide | exact tfPort | exact tfFault | exact tfWay | exact tfUnit); rfl; rfl; (repeat first | exact .here | apply Has.there); rfl; rfl; rfl; (clear hc; (try clear w); intro w hc; simp only [snocN, setN, dropN, takeN, spliceN, flatN, flatN.appN, Value.cells, argsN, argN, atN, List.map_cons, List.map_nil, List.length_cons, List.length_nil] at hc ⊢)) | ((with_reducible apply wpc_store1 hc); exact ⟨by kernel_rfl, by kernel_rfl⟩; rfl; (repeat first | exact .here | apply Has.there); rfl; rfl; (clear hc; (try clear w); intro w hc; simp only [snocN, setN, dropN, takeN, spliceN, flatN, flatN.appN, Value.cells, argsN, argN, atN, List.map_cons, List.map_nil, List.length_cons, List.length_nil] at hc ⊢)) | ((with_reducible apply wpc_box hc); rfl; rfl; (clear hc; (try clear w); intro g w hc; simp only [snocN, setN, dropN, takeN, spliceN, flatN, flatN.appN, Value.cells, argsN, argN, atN, List.map_cons, List.map_nil, List.length_cons, List.length_nil] at hc ⊢)) | ((with_reducible apply wpc_alloc hc); (first | exact tfRatio | exact tfGauss | exact tfRotor | exact tfTide | exact tfPort | exact tfFault | exact tfWay | exact tfUnit); (clear hc; (try clear w); intro g w hc; simp only [snocN, setN, dropN, takeN, spliceN, flatN, flatN.appN, Value.cells, argsN, argN, atN, List.map_cons, List.map_nil, List.length_cons, List.length_nil] at hc ⊢)) | ((with_reducible apply wpc_slice hc); (first | exact slGauss | exact slRatio | exact slWords | exact slTide); rfl; rfl; rfl; rfl; rfl; (clear hc; (try clear w); intro g w hc; simp only [snocN, setN, dropN, takeN, spliceN, flatN, flatN.appN, Value.cells, argsN, argN, atN, List.map_cons, List.map_nil, List.length_cons, List.length_nil] at hc ⊢)) | ((with_reducible apply wpl_wanted); rfl))
      go_ret
      exact ⟨ret_bool rfl, hc.old⟩
    · skip
      go_wp2_with (first | ((with_reducible apply wpc_load hc); (first | exact tfRatio | exact tfGauss | exact tfRotor | exact tfTide | exact tfPort | exact tfFault | exact tfWay | exact tfUnit); rfl; (repeat first | exact .here | apply Has.there); rfl; (simp only [snocN, setN, dropN, takeN, spliceN, List.length_cons, List.length_nil])) | ((with_reducible apply wpc_load1 hc); exact ⟨by kernel_rfl, by kernel_rfl⟩; rfl; (repeat first | exact .here | apply Has.there); rfl; (simp only [snocN, setN, dropN, takeN, spliceN, List.length_cons, List.length_nil])) | ((with_reducible apply wpc_store hc); (first | exact tfRatio | exact tfGauss | exact tfRotor | exact tfTide | exact tfPort | exact tfFault | exact tfWay | exact tfUnit); rfl; rfl; (repeat first | exact .here | apply Has.there); rfl; rfl; rfl; (clear hc; (try clear w); intro w hc; simp only [snocN, setN, dropN, takeN, spliceN, flatN, flatN.appN, Value.cells, argsN, argN, atN, List.map_cons, List.map_nil, List.length_cons, List.length_nil] at hc ⊢)) | ((with_reducible apply wpc_store1 hc); exact ⟨by kernel_rfl, by kernel_rfl⟩; rfl; (repeat first | exact .here | apply Has.there); rfl; rfl; (clear hc; (try clear w); intro w hc; simp only [snocN, setN, dropN, takeN, spliceN, flatN, flatN.appN, Value.cells, argsN, argN, atN, List.map_cons, List.map_nil, List.length_cons, List.length_nil] at hc ⊢)) | ((with_reducible apply wpc_box hc); rfl; rfl; (clear hc; (try clear w); intro g w hc; simp only [snocN, setN, dropN, takeN, spliceN, flatN, flatN.appN, Value.cells, argsN, argN, atN, List.map_cons, List.map_nil, List.length_cons, List.length_nil] at hc ⊢)) | ((with_reducible apply wpc_alloc hc); (first | exact tfRatio | exact tfGauss | exact tfRotor | exact tfTide | exact tfPort | exact tfFault | exact tfWay | exact tfUnit); (clear hc; (try clear w); intro g w hc; simp only [snocN, setN, dropN, takeN, spliceN, flatN, flatN.appN, Value.cells, argsN, argN, atN, List.map_cons, List.map_nil, List.length_cons, List.length_nil] at hc ⊢)) | ((with_reducible apply wpc_slice hc); (first | exact slGauss | exact slRatio | exact slWords | exact slTide); rfl; rfl; rfl; rfl; rfl; (clear hc; (try clear w); intro g w hc; simp only [snocN, setN, dropN, takeN, spliceN, flatN, flatN.appN, Value.cells, argsN, argN, atN, List.map_cons, List.map_nil, List.length_cons, List.length_nil] at hc ⊢)) | ((with_reducible apply wpl_wanted); rfl))
      go_ret
      exact ⟨ret_bool rfl, hc.old⟩
  have hz := Decidable.not_not.1 hz
  obtain ⟨a0, a1, a2, a3, a4, a5⟩ := Num.eSpan_pieces hz
  have HP := Lib.hid (fun w => kit_pick (w := w) (x := m) (n := b - a + 1) (by omega) (by omega) (by omega) (by omega))
  have n0 : 0 ≤ m % (b - a + 1) := Int.emod_nonneg _ (by omega)
  have n1 : m % (b - a + 1) < b - a + 1 := Int.emod_lt_of_pos _ (by omega)
  generalize m % (b - a + 1) = n at *
  obtain ⟨b1, b2, b3⟩ := a4 (a + n) (by omega) (by omega)
  clear a4
  obtain ⟨l, hl⟩ : ∃ l, Num.eSpan p a b = (l, 0) := ⟨_, Prod.ext rfl hz⟩
  obtain ⟨l1, hl1⟩ : ∃ l, Num.eSpan p a (a + n) = (l, 0) := ⟨_, Prod.ext rfl b1⟩
  obtain ⟨l2, hl2⟩ : ∃ l, Num.eSpan p (a + n) b = (l, 0) := ⟨_, Prod.ext rfl b2⟩
  have HS0 := Lib.hid (fun w (s : Part W w) => HS.out w a b s h4 h5 h6 h7 _ hl)
  have HS1 := Lib.hid (fun w (s : Part W w) => HS.out w a (a + n) s h4 h5 (by omega) (by omega) _ hl1)
  have HS2 := Lib.hid (fun w (s : Part W w) => HS.out w (a + n) b s (by omega) (by omega) h6 h7 _ hl2)
  rw [hl] at a3 a5 b3
  rw [hl1, hl2] at b3
  replace b3 : l = l1 ++ l2 := b3
  replace b3 := Lib.hid b3
  simp only at a3
  have hW5 := Lib.hid (fun (i : Nat) (h : i < l.length) => by have := Num.eAtE_W p (a + i); rw [a5 i h] at this; exact this)
  have HA5 := Lib.hid (fun w (i : Nat) (h : i < l.length) (s : Part W w) => HA.out w (a + i) s (by omega) (by omega) _ (a5 i h))
  clear hz hl hl1 hl2 b1 b2 HS HA a5
  have w1 : IntKind.i64.wrap (b - a) = b - a := by simp [IntKind.wrap, IntKind.bits, IntKind.signed]; omega
  have w2 : IntKind.i64.wrap (b - a + 1) = b - a + 1 := by simp [IntKind.wrap, IntKind.bits, IntKind.signed]; omega
  have w3 : IntKind.i64.wrap (a + n) = a + n := by simp [IntKind.wrap, IntKind.bits, IntKind.signed]; omega
  have w4 : ((l.length : Int) != b - a) = false := by simpa using a3
  have hlen : l.length = l1.length + l2.length := by have := congrArg List.length b3.out; simpa using this
  have hsm : l1.length + l2.length ≤ 100000 := by omega
  replace hlen := Lib.hid hlen
  go_enter Try.func3, Try.ntmps3
  go_wp2_with (first | ((with_reducible apply wpc_box (d := 4) hc); rfl; rfl; (clear hc; (try clear w); intro g4 w hc; simp only [snocN, setN, dropN, takeN, spliceN, flatN, flatN.appN, Value.cells, argsN, argN, atN, List.map_cons, List.map_nil, List.length_cons, List.length_nil] at hc ⊢)) | ((with_reducible apply wpc_alloc (d := 4) hc); (first | exact tfRatio | exact tfGauss | exact tfRotor | exact tfTide | exact tfPort | exact tfFault | exact tfWay | exact tfUnit); (clear hc; (try clear w); intro g4 w hc; simp only [snocN, setN, dropN, takeN, spliceN, flatN, flatN.appN, Value.cells, argsN, argN, atN, List.map_cons, List.map_nil, List.length_cons, List.length_nil] at hc ⊢)) | ((with_reducible apply wpc_load hc); (first | exact tfRatio | exact tfGauss | exact tfRotor | exact tfTide | exact tfPort | exact tfFault | exact tfWay | exact tfUnit); rfl; (repeat first | exact .here | apply Has.there); rfl; (simp only [snocN, setN, dropN, takeN, spliceN, List.length_cons, List.length_nil])) | ((with_reducible apply wpc_load1 hc); exact ⟨by kernel_rfl, by kernel_rfl⟩; rfl; (repeat first | exact .here | apply Has.there); rfl; (simp only [snocN, setN, dropN, takeN, spliceN, List.length_cons, List.length_nil])) | ((with_reducible apply wpc_store hc); (first | exact tfRatio | exact tfGauss | exact tfRotor | exact tfTide | exact tfPort | exact tfFault | exact tfWay | exact tfUnit); rfl; rfl; (repeat first | exact .here | apply Has.there); rfl; rfl; rfl; (clear hc; (try clear w); intro w hc; simp only [snocN, setN, dropN, takeN, spliceN, flatN, flatN.appN, Value.cells, argsN, argN, atN, List.map_cons, List.map_nil, List.length_cons, List.length_nil] at hc ⊢)) | ((with_reducible apply wpc_store1 hc); exact ⟨by kernel_rfl, by kernel_rfl⟩; rfl; (repeat first | exact .here | apply Has.there); rfl; rfl; (clear hc; (try clear w); intro w hc; simp only [snocN, setN, dropN, takeN, spliceN, flatN, flatN.appN, Value.cells, argsN, argN, atN, List.map_cons, List.map_nil, List.length_cons, List.length_nil] at hc ⊢)) | ((with_reducible apply wpc_box hc); rfl; rfl; (clear hc; (try clear w); intro g w hc; simp only [snocN, setN, dropN, takeN, spliceN, flatN, flatN.appN, Value.cells, argsN, argN, atN, List.map_cons, List.map_nil, List.length_cons, List.length_nil] at hc ⊢)) | ((with_reducible apply wpc_alloc hc); (first | exact tfRatio | exact tfGauss | exact tfRotor | exact tfTide | exact tfPort | exact tfFault | exact tfWay | exact tfUnit); (clear hc; (try clear w); intro g w hc; simp only [snocN, setN, dropN, takeN, spliceN, flatN, flatN.appN, Value.cells, argsN, argN, atN, List.map_cons, List.map_nil, List.length_cons, List.length_nil] at hc ⊢)) | ((with_reducible apply wpc_slice hc); (first | exact slGauss | exact slRatio | exact slWords | exact slTide); rfl; rfl; rfl; rfl; rfl; (clear hc; (try clear w); intro g w hc; simp only [snocN, setN, dropN, takeN, spliceN, flatN, flatN.appN, Value.cells, argsN, argN, atN, List.map_cons, List.map_nil, List.length_cons, List.length_nil] at hc ⊢)) | ((with_reducible apply wpl_wanted); rfl))
  refine cc_below hc (HW.out _) ?_
  clear hc; try clear w
  intro w hc
  go_wp2_with (first | ((with_reducible apply wpc_load hc); (first | exact tfRatio | exact tfGauss | exact tfRotor | exact tfTide | exact tfPort | exact tfFault | exact tfWay | exact tfUnit); rfl; (repeat first | exact .here | apply Has.there); rfl; (simp only [snocN, setN, dropN, takeN, spliceN, List.length_cons, List.length_nil])) | ((with_reducible apply wpc_load1 hc); exact ⟨by kernel_rfl, by kernel_rfl⟩; rfl; (repeat first | exact .here | apply Has.there); rfl; (simp only [snocN, setN, dropN, takeN, spliceN, List.length_cons, List.length_nil])) | ((with_reducible apply wpc_store hc); (first | exact tfRatio | exact tfGauss | exact tfRotor | exact tfTide | exact tfPort | exact tfFault | exact tfWay | exact tfUnit); rfl; rfl; (repeat first | exact .here | apply Has.there); rfl; rfl; rfl; (clear hc; (try clear w); intro w hc; simp only [snocN, setN, dropN, takeN, spliceN, flatN, flatN.appN, Value.cells, argsN, argN, atN, List.map_cons, List.map_nil, List.length_cons, List.length_nil] at hc ⊢)) | ((with_reducible apply wpc_store1 hc); exact ⟨by kernel_rfl, by kernel_rfl⟩; rfl; (repeat first | exact .here | apply Has.there); rfl; rfl; (clear hc; (try clear w); intro w hc; simp only [snocN, setN, dropN, takeN, spliceN, flatN, flatN.appN, Value.cells, argsN, argN, atN, List.map_cons, List.map_nil, List.length_cons, List.length_nil] at hc ⊢)) | ((with_reducible apply wpc_box hc); rfl; rfl; (clear hc; (try clear w); intro g w hc; simp only [snocN, setN, dropN, takeN, spliceN, flatN, flatN.appN, Value.cells, argsN, argN, atN, List.map_cons, List.map_nil, List.length_cons, List.length_nil] at hc ⊢)) | ((with_reducible apply wpc_alloc hc); (first | exact tfRatio | exact tfGauss | exact tfRotor | exact tfTide | exact tfPort | exact tfFault | exact tfWay | exact tfUnit); (clear hc; (try clear w); intro g w hc; simp only [snocN, setN, dropN, takeN, spliceN, flatN, flatN.appN, Value.cells, argsN, argN, atN, List.map_cons, List.map_nil, List.length_cons, List.length_nil] at hc ⊢)) | ((with_reducible apply wpc_slice hc); (first | exact slGauss | exact slRatio | exact slWords | exact slTide); rfl; rfl; rfl; rfl; rfl; (clear hc; (try clear w); intro g w hc; simp only [snocN, setN, dropN, takeN, spliceN, flatN, flatN.appN, Value.cells, argsN, argN, atN, List.map_cons, List.map_nil, List.length_cons, List.length_nil] at hc ⊢)) | ((with_reducible apply wpl_wanted); rfl))
  refine cc_bool hc (HL.out _ (hc.at_ (by repeat first | exact .here | apply Lies.there))) ?_
  clear hc; try clear w
  intro nn w hc
  obtain rfl | rfl : nn = true ∨ nn = false := by cases nn <;> simp
  · skip
    go_wp2_with (first | ((with_reducible apply wpc_load hc); (first | exact tfRatio | exact tfGauss | exact tfRotor | exact tfTide | exact tfPort | exact tfFault | exact tfWay | exact tfUnit); rfl; (repeat first | exact .here | apply Has.there); rfl; (simp only [snocN, setN, dropN, takeN, spliceN, List.length_cons, List.length_nil])) | ((with_reducible apply wpc_load1 hc); exact ⟨by kernel_rfl, by kernel_rfl⟩; rfl; (repeat first | exact .here | apply Has.there); rfl; (simp only [snocN, setN, dropN, takeN, spliceN, List.length_cons, List.length_nil])) | ((with_reducible apply wpc_store hc); (first | exact tfRatio | exact tfGauss | exact tfRotor | exact tfTide | exact tfPort | exact tfFault | exact tfWay | exact tfUnit); rfl; rfl; (repeat first | exact .here | apply Has.there); rfl; rfl; rfl; (clear hc; (try clear w); intro w hc; simp only [snocN, setN, dropN, takeN, spliceN, flatN, flatN.appN, Value.cells, argsN, argN, atN, List.map_cons, List.map_nil, List.length_cons, List.length_nil] at hc ⊢)) | ((with_reducible apply wpc_store1 hc); exact ⟨by kernel_rfl, by kernel_rfl⟩; rfl; (repeat first | exact .here | apply Has.there); rfl; rfl; (clear hc; (try clear w); intro w hc; simp only [snocN, setN, dropN, takeN, spliceN, flatN, flatN.appN, Value.cells, argsN, argN, atN, List.map_cons, List.map_nil, List.length_cons, List.length_nil] at hc ⊢)) | ((with_reducible apply wpc_box hc); rfl; rfl; (clear hc; (try clear w); intro g w hc; simp only [snocN, setN, dropN, takeN, spliceN, flatN, flatN.appN, Value.cells, argsN, argN, atN, List.map_cons, List.map_nil, List.length_cons, List.length_nil] at hc ⊢)) | ((with_reducible apply wpc_alloc hc); (first | exact tfRatio | exact tfGauss | exact tfRotor | exact tfTide | exact tfPort | exact tfFault | exact tfWay | exact tfUnit); (clear hc; (try clear w); intro g w hc; simp only [snocN, setN, dropN, takeN, spliceN, flatN, flatN.appN, Value.cells, argsN, argN, atN, List.map_cons, List.map_nil, List.length_cons, List.length_nil] at hc ⊢)) | ((with_reducible apply wpc_slice hc); (first | exact slGauss | exact slRatio | exact slWords | exact slTide); rfl; rfl; rfl; rfl; rfl; (clear hc; (try clear w); intro g w hc; simp only [snocN, setN, dropN, takeN, spliceN, flatN, flatN.appN, Value.cells, argsN, argN, atN, List.map_cons, List.map_nil, List.length_cons, List.length_nil] at hc ⊢)) | ((with_reducible apply wpl_wanted); rfl))
    go_ret
    exact ⟨ret_bool rfl, hc.old⟩
  go_wp2_with (first | ((with_reducible apply wpc_load hc); (first | exact tfRatio | exact tfGauss | exact tfRotor | exact tfTide | exact tfPort | exact tfFault | exact tfWay | exact tfUnit); rfl; (repeat first | exact .here | apply Has.there); rfl; (simp only [snocN, setN, dropN, takeN, spliceN, List.length_cons, List.length_nil])) | ((with_reducible apply wpc_load1 hc); exact ⟨by kernel_rfl, by kernel_rfl⟩; rfl; (repeat first | exact .here | apply Has.there); rfl; (simp only [snocN, setN, dropN, takeN, spliceN, List.length_cons, List.length_nil])) | ((with_reducible apply wpc_store hc); (first | exact tfRatio | exact tfGauss | exact tfRotor | exact tfTide | exact tfPort | exact tfFault | exact tfWay | exact tfUnit); rfl; rfl; (repeat first | exact .here | apply Has.there); rfl; rfl; rfl; (clear hc; (try clear w); intro w hc; simp only [snocN, setN, dropN, takeN, spliceN, flatN, flatN.appN, Value.cells, argsN, argN, atN, List.map_cons, List.map_nil, List.length_cons, List.length_nil] at hc ⊢)) | ((with_reducible apply wpc_store1 hc); exact ⟨by kernel_rfl, by kernel_rfl⟩; rfl; (repeat first | exact .here | apply Has.there); rfl; rfl; (clear hc; (try clear w); intro w hc; simp only [snocN, setN, dropN, takeN, spliceN, flatN, flatN.appN, Value.cells, argsN, argN, atN, List.map_cons, List.map_nil, List.length_cons, List.length_nil] at hc ⊢)) | ((with_reducible apply wpc_box hc); rfl; rfl; (clear hc; (try clear w); intro g w hc; simp only [snocN, setN, dropN, takeN, spliceN, flatN, flatN.appN, Value.cells, argsN, argN, atN, List.map_cons, List.map_nil, List.length_cons, List.length_nil] at hc ⊢)) | ((with_reducible apply wpc_alloc hc); (first | exact tfRatio | exact tfGauss | exact tfRotor | exact tfTide | exact tfPort | exact tfFault | exact tfWay | exact tfUnit); (clear hc; (try clear w); intro g w hc; simp only [snocN, setN, dropN, takeN, spliceN, flatN, flatN.appN, Value.cells, argsN, argN, atN, List.map_cons, List.map_nil, List.length_cons, List.length_nil] at hc ⊢)) | ((with_reducible apply wpc_slice hc); (first | exact slGauss | exact slRatio | exact slWords | exact slTide); rfl; rfl; rfl; rfl; rfl; (clear hc; (try clear w); intro g w hc; simp only [snocN, setN, dropN, takeN, spliceN, flatN, flatN.appN, Value.cells, argsN, argN, atN, List.map_cons, List.map_nil, List.length_cons, List.length_nil] at hc ⊢)) | ((with_reducible apply wpl_wanted); rfl))
  refine cc_Rs hc (HS0.out _ (hc.at_ (by repeat first | exact .here | apply Lies.there))) ?_
  clear hc; try clear w
  intro u0 w A0 c0 hc hr0
  go_wp2_with (first | ((with_reducible apply wpc_load hc); (first | exact tfRatio | exact tfGauss | exact tfRotor | exact tfTide | exact tfPort | exact tfFault | exact tfWay | exact tfUnit); rfl; (repeat first | exact .here | apply Has.there); rfl; (simp only [snocN, setN, dropN, takeN, spliceN, List.length_cons, List.length_nil])) | ((with_reducible apply wpc_load1 hc); exact ⟨by kernel_rfl, by kernel_rfl⟩; rfl; (repeat first | exact .here | apply Has.there); rfl; (simp only [snocN, setN, dropN, takeN, spliceN, List.length_cons, List.length_nil])) | ((with_reducible apply wpc_store hc); (first | exact tfRatio | exact tfGauss | exact tfRotor | exact tfTide | exact tfPort | exact tfFault | exact tfWay | exact tfUnit); rfl; rfl; (repeat first | exact .here | apply Has.there); rfl; rfl; rfl; (clear hc; (try clear w); intro w hc; simp only [snocN, setN, dropN, takeN, spliceN, flatN, flatN.appN, Value.cells, argsN, argN, atN, List.map_cons, List.map_nil, List.length_cons, List.length_nil] at hc ⊢)) | ((with_reducible apply wpc_store1 hc); exact ⟨by kernel_rfl, by kernel_rfl⟩; rfl; (repeat first | exact .here | apply Has.there); rfl; rfl; (clear hc; (try clear w); intro w hc; simp only [snocN, setN, dropN, takeN, spliceN, flatN, flatN.appN, Value.cells, argsN, argN, atN, List.map_cons, List.map_nil, List.length_cons, List.length_nil] at hc ⊢)) | ((with_reducible apply wpc_box hc); rfl; rfl; (clear hc; (try clear w); intro g w hc; simp only [snocN, setN, dropN, takeN, spliceN, flatN, flatN.appN, Value.cells, argsN, argN, atN, List.map_cons, List.map_nil, List.length_cons, List.length_nil] at hc ⊢)) | ((with_reducible apply wpc_alloc hc); (first | exact tfRatio | exact tfGauss | exact tfRotor | exact tfTide | exact tfPort | exact tfFault | exact tfWay | exact tfUnit); (clear hc; (try clear w); intro g w hc; simp only [snocN, setN, dropN, takeN, spliceN, flatN, flatN.appN, Value.cells, argsN, argN, atN, List.map_cons, List.map_nil, List.length_cons, List.length_nil] at hc ⊢)) | ((with_reducible apply wpc_slice hc); (first | exact slGauss | exact slRatio | exact slWords | exact slTide); rfl; rfl; rfl; rfl; rfl; (clear hc; (try clear w); intro g w hc; simp only [snocN, setN, dropN, takeN, spliceN, flatN, flatN.appN, Value.cells, argsN, argN, atN, List.map_cons, List.map_nil, List.length_cons, List.length_nil] at hc ⊢)) | ((with_reducible apply wpl_wanted); rfl))
  refine cc_eq' hc (HP.out _) ?_
  clear hc; try clear w
  intro w hc
  go_wp2_with (first | ((with_reducible apply wpc_load hc); (first | exact tfRatio | exact tfGauss | exact tfRotor | exact tfTide | exact tfPort | exact tfFault | exact tfWay | exact tfUnit); rfl; (repeat first | exact .here | apply Has.there); rfl; (simp only [snocN, setN, dropN, takeN, spliceN, List.length_cons, List.length_nil])) | ((with_reducible apply wpc_load1 hc); exact ⟨by kernel_rfl, by kernel_rfl⟩; rfl; (repeat first | exact .here | apply Has.there); rfl; (simp only [snocN, setN, dropN, takeN, spliceN, List.length_cons, List.length_nil])) | ((with_reducible apply wpc_store hc); (first | exact tfRatio | exact tfGauss | exact tfRotor | exact tfTide | exact tfPort | exact tfFault | exact tfWay | exact tfUnit); rfl; rfl; (repeat first | exact .here | apply Has.there); rfl; rfl; rfl; (clear hc; (try clear w); intro w hc; simp only [snocN, setN, dropN, takeN, spliceN, flatN, flatN.appN, Value.cells, argsN, argN, atN, List.map_cons, List.map_nil, List.length_cons, List.length_nil] at hc ⊢)) | ((with_reducible apply wpc_store1 hc); exact ⟨by kernel_rfl, by kernel_rfl⟩; rfl; (repeat first | exact .here | apply Has.there); rfl; rfl; (clear hc; (try clear w); intro w hc; simp only [snocN, setN, dropN, takeN, spliceN, flatN, flatN.appN, Value.cells, argsN, argN, atN, List.map_cons, List.map_nil, List.length_cons, List.length_nil] at hc ⊢)) | ((with_reducible apply wpc_box hc); rfl; rfl; (clear hc; (try clear w); intro g w hc; simp only [snocN, setN, dropN, takeN, spliceN, flatN, flatN.appN, Value.cells, argsN, argN, atN, List.map_cons, List.map_nil, List.length_cons, List.length_nil] at hc ⊢)) | ((with_reducible apply wpc_alloc hc); (first | exact tfRatio | exact tfGauss | exact tfRotor | exact tfTide | exact tfPort | exact tfFault | exact tfWay | exact tfUnit); (clear hc; (try clear w); intro g w hc; simp only [snocN, setN, dropN, takeN, spliceN, flatN, flatN.appN, Value.cells, argsN, argN, atN, List.map_cons, List.map_nil, List.length_cons, List.length_nil] at hc ⊢)) | ((with_reducible apply wpc_slice hc); (first | exact slGauss | exact slRatio | exact slWords | exact slTide); rfl; rfl; rfl; rfl; rfl; (clear hc; (try clear w); intro g w hc; simp only [snocN, setN, dropN, takeN, spliceN, flatN, flatN.appN, Value.cells, argsN, argN, atN, List.map_cons, List.map_nil, List.length_cons, List.length_nil] at hc ⊢)) | ((with_reducible apply wpl_wanted); rfl))
  refine cc_Rs hc (HS1.out _ (hc.at_ (by repeat first | exact .here | apply Lies.there))) ?_
  clear hc; try clear w
  intro u1 w A1 c1 hc hr1
  go_wp2_with (first | ((with_reducible apply wpc_load hc); (first | exact tfRatio | exact tfGauss | exact tfRotor | exact tfTide | exact tfPort | exact tfFault | exact tfWay | exact tfUnit); rfl; (repeat first | exact .here | apply Has.there); rfl; (simp only [snocN, setN, dropN, takeN, spliceN, List.length_cons, List.length_nil])) | ((with_reducible apply wpc_load1 hc); exact ⟨by kernel_rfl, by kernel_rfl⟩; rfl; (repeat first | exact .here | apply Has.there); rfl; (simp only [snocN, setN, dropN, takeN, spliceN, List.length_cons, List.length_nil])) | ((with_reducible apply wpc_store hc); (first | exact tfRatio | exact tfGauss | exact tfRotor | exact tfTide | exact tfPort | exact tfFault | exact tfWay | exact tfUnit); rfl; rfl; (repeat first | exact .here | apply Has.there); rfl; rfl; rfl; (clear hc; (try clear w); intro w hc; simp only [snocN, setN, dropN, takeN, spliceN, flatN, flatN.appN, Value.cells, argsN, argN, atN, List.map_cons, List.map_nil, List.length_cons, List.length_nil] at hc ⊢)) | ((with_reducible apply wpc_store1 hc); exact ⟨by kernel_rfl, by kernel_rfl⟩; rfl; (repeat first | exact .here | apply Has.there); rfl; rfl; (clear hc; (try clear w); intro w hc; simp only [snocN, setN, dropN, takeN, spliceN, flatN, flatN.appN, Value.cells, argsN, argN, atN, List.map_cons, List.map_nil, List.length_cons, List.length_nil] at hc ⊢)) | ((with_reducible apply wpc_box hc); rfl; rfl; (clear hc; (try clear w); intro g w hc; simp only [snocN, setN, dropN, takeN, spliceN, flatN, flatN.appN, Value.cells, argsN, argN, atN, List.map_cons, List.map_nil, List.length_cons, List.length_nil] at hc ⊢)) | ((with_reducible apply wpc_alloc hc); (first | exact tfRatio | exact tfGauss | exact tfRotor | exact tfTide | exact tfPort | exact tfFault | exact tfWay | exact tfUnit); (clear hc; (try clear w); intro g w hc; simp only [snocN, setN, dropN, takeN, spliceN, flatN, flatN.appN, Value.cells, argsN, argN, atN, List.map_cons, List.map_nil, List.length_cons, List.length_nil] at hc ⊢)) | ((with_reducible apply wpc_slice hc); (first | exact slGauss | exact slRatio | exact slWords | exact slTide); rfl; rfl; rfl; rfl; rfl; (clear hc; (try clear w); intro g w hc; simp only [snocN, setN, dropN, takeN, spliceN, flatN, flatN.appN, Value.cells, argsN, argN, atN, List.map_cons, List.map_nil, List.length_cons, List.length_nil] at hc ⊢)) | ((with_reducible apply wpl_wanted); rfl))
  refine cc_Rs hc (HS2.out _ (hc.at_ (by repeat first | exact .here | apply Lies.there))) ?_
  clear hc; try clear w
  intro u2 w A2 c2 hc hr2
  go_wp2_with (first | ((with_reducible apply wpc_load hc); (first | exact tfRatio | exact tfGauss | exact tfRotor | exact tfTide | exact tfPort | exact tfFault | exact tfWay | exact tfUnit); rfl; (repeat first | exact .here | apply Has.there); rfl; (simp only [snocN, setN, dropN, takeN, spliceN, List.length_cons, List.length_nil])) | ((with_reducible apply wpc_load1 hc); exact ⟨by kernel_rfl, by kernel_rfl⟩; rfl; (repeat first | exact .here | apply Has.there); rfl; (simp only [snocN, setN, dropN, takeN, spliceN, List.length_cons, List.length_nil])) | ((with_reducible apply wpc_store hc); (first | exact tfRatio | exact tfGauss | exact tfRotor | exact tfTide | exact tfPort | exact tfFault | exact tfWay | exact tfUnit); rfl; rfl; (repeat first | exact .here | apply Has.there); rfl; rfl; rfl; (clear hc; (try clear w); intro w hc; simp only [snocN, setN, dropN, takeN, spliceN, flatN, flatN.appN, Value.cells, argsN, argN, atN, List.map_cons, List.map_nil, List.length_cons, List.length_nil] at hc ⊢)) | ((with_reducible apply wpc_store1 hc); exact ⟨by kernel_rfl, by kernel_rfl⟩; rfl; (repeat first | exact .here | apply Has.there); rfl; rfl; (clear hc; (try clear w); intro w hc; simp only [snocN, setN, dropN, takeN, spliceN, flatN, flatN.appN, Value.cells, argsN, argN, atN, List.map_cons, List.map_nil, List.length_cons, List.length_nil] at hc ⊢)) | ((with_reducible apply wpc_box hc); rfl; rfl; (clear hc; (try clear w); intro g w hc; simp only [snocN, setN, dropN, takeN, spliceN, flatN, flatN.appN, Value.cells, argsN, argN, atN, List.map_cons, List.map_nil, List.length_cons, List.length_nil] at hc ⊢)) | ((with_reducible apply wpc_alloc hc); (first | exact tfRatio | exact tfGauss | exact tfRotor | exact tfTide | exact tfPort | exact tfFault | exact tfWay | exact tfUnit); (clear hc; (try clear w); intro g w hc; simp only [snocN, setN, dropN, takeN, spliceN, flatN, flatN.appN, Value.cells, argsN, argN, atN, List.map_cons, List.map_nil, List.length_cons, List.length_nil] at hc ⊢)) | ((with_reducible apply wpc_slice hc); (first | exact slGauss | exact slRatio | exact slWords | exact slTide); rfl; rfl; rfl; rfl; rfl; (clear hc; (try clear w); intro g w hc; simp only [snocN, setN, dropN, takeN, spliceN, flatN, flatN.appN, Value.cells, argsN, argN, atN, List.map_cons, List.map_nil, List.length_cons, List.length_nil] at hc ⊢)) | ((with_reducible apply wpl_wanted); rfl) | ((with_reducible apply wpc_appR hc RowC.none rfl (RowX.nil _) hr1 (Lies.mem (by repeat first | exact .here | apply Lies.there)) (by omega)); (repeat first | exact .here | apply Has.there); rfl; rfl; (clear hc; (try clear w); intro g5 cap5 cur5 xs5 w hc hR5 hX5; simp only [snocN, setN, dropN, takeN, spliceN, flatN, flatN.appN, Value.cells, argsN, argN, atN, List.map_cons, List.map_nil, List.length_cons, List.length_nil] at hc ⊢; simp only [Nat.zero_add, List.nil_append] at hc hR5 hX5 ⊢)) | ((with_reducible apply wpc_appR hc hR5 rfl hX5 hr2 (Lies.mem (by repeat first | exact .here | apply Lies.there)) (by omega)); (repeat first | exact .here | apply Has.there); rfl; rfl; (clear hc; (try clear w); intro g6 cap6 cur6 xs6 w hc hR6 hX6; simp only [snocN, setN, dropN, takeN, spliceN, flatN, flatN.appN, Value.cells, argsN, argN, atN, List.map_cons, List.map_nil, List.length_cons, List.length_nil] at hc ⊢; rw [← b3.out] at hX6; rw [← hlen.out] at hR6 ⊢)))
  simp only [delN, snocN] at hc
  refine cc_below hc (kit_ratios (hr0.sub (hc.at_ (by repeat first | exact .here | apply Lies.there))) (RowX.rd hc hX6 (by (repeat first | exact .here | apply Has.there)) hR6)) ?_
  replace hc := hc.sublist (L' := [_]) (.cons_cons _ (List.nil_sublist _))
  clear hR6 hX6 hR5 hX5 hr1 hr2 HS0 HS1 HS2 HP HL HW
  clear hc; try clear w
  intro w hc
  replace hc := hc.sublist (L' := [_]) (.cons_cons _ (List.nil_sublist _))
  go_wp2_with (first | ((with_reducible apply wpc_load hc); (first | exact tfRatio | exact tfGauss | exact tfRotor | exact tfTide | exact tfPort | exact tfFault | exact tfWay | exact tfUnit); rfl; (repeat first | exact .here | apply Has.there); rfl; (simp only [snocN, setN, dropN, takeN, spliceN, List.length_cons, List.length_nil])) | ((with_reducible apply wpc_load1 hc); exact ⟨by kernel_rfl, by kernel_rfl⟩; rfl; (repeat first | exact .here | apply Has.there); rfl; (simp only [snocN, setN, dropN, takeN, spliceN, List.length_cons, List.length_nil])) | ((with_reducible apply wpc_store hc); (first | exact tfRatio | exact tfGauss | exact tfRotor | exact tfTide | exact tfPort | exact tfFault | exact tfWay | exact tfUnit); rfl; rfl; (repeat first | exact .here | apply Has.there); rfl; rfl; rfl; (clear hc; (try clear w); intro w hc; simp only [snocN, setN, dropN, takeN, spliceN, flatN, flatN.appN, Value.cells, argsN, argN, atN, List.map_cons, List.map_nil, List.length_cons, List.length_nil] at hc ⊢)) | ((with_reducible apply wpc_store1 hc); exact ⟨by kernel_rfl, by kernel_rfl⟩; rfl; (repeat first | exact .here | apply Has.there); rfl; rfl; (clear hc; (try clear w); intro w hc; simp only [snocN, setN, dropN, takeN, spliceN, flatN, flatN.appN, Value.cells, argsN, argN, atN, List.map_cons, List.map_nil, List.length_cons, List.length_nil] at hc ⊢)) | ((with_reducible apply wpc_box hc); rfl; rfl; (clear hc; (try clear w); intro g w hc; simp only [snocN, setN, dropN, takeN, spliceN, flatN, flatN.appN, Value.cells, argsN, argN, atN, List.map_cons, List.map_nil, List.length_cons, List.length_nil] at hc ⊢)) | ((with_reducible apply wpc_alloc hc); (first | exact tfRatio | exact tfGauss | exact tfRotor | exact tfTide | exact tfPort | exact tfFault | exact tfWay | exact tfUnit); (clear hc; (try clear w); intro g w hc; simp only [snocN, setN, dropN, takeN, spliceN, flatN, flatN.appN, Value.cells, argsN, argN, atN, List.map_cons, List.map_nil, List.length_cons, List.length_nil] at hc ⊢)) | ((with_reducible apply wpc_slice hc); (first | exact slGauss | exact slRatio | exact slWords | exact slTide); rfl; rfl; rfl; rfl; rfl; (clear hc; (try clear w); intro g w hc; simp only [snocN, setN, dropN, takeN, spliceN, flatN, flatN.appN, Value.cells, argsN, argN, atN, List.map_cons, List.map_nil, List.length_cons, List.length_nil] at hc ⊢)) | ((with_reducible apply wpl_wanted); rfl))
  obtain ⟨A0', c0', e1, -, -, h3⟩ := hr0
  simp only [Value.slice.injEq] at e1
  obtain ⟨rfl, -, rfl⟩ := e1
  go_loopw [16] (fun v w => ∃ k : Nat, k ≤ l.length ∧ v = .int .i64 k ∧ Ctx W none [⟨g4, 27, pcs p A c A' c' T ct⟩] [u2, u1, u0, W] w) (fun v _ => ((l.length : Int) - intOf v).toNat)
  case atStart => exact ⟨0, by omega, rfl, hc⟩
  case round =>
    clear hc
    obtain ⟨k, hkl, rfl, hc⟩ := hrel
    by_cases hk : k < l.length
    · obtain ⟨b0, o0, rfl, hj⟩ := h3 (Nat.lt_of_le_of_lt (Nat.zero_le _) hk)
      obtain ⟨P, p0, P', p0', x1, x2, x3⟩ := hj k hk
      have hW := hW5.out k hk
      have hA := Lib.hid (fun w s => HA5.out w k hk s)
      have hS := Num.rSame_self l[k]
      have TT := Lib.hid (fun w (va vb : Value) (ha : RdR w va l[k]) (hb : RdR w vb l[k]) => ratio_Same ha hb)
      rw [hS] at TT
      clear hj hS h3 HA5 hW5
      try simp only at x1 x2 x3
      generalize l[k] = r at *
      have w5 : IntKind.i64.wrap (a + k) = a + k := by simp [IntKind.wrap, IntKind.bits, IntKind.signed]; omega
      have t2 : (0 : Int) ≤ (k : Int) := by omega
      have t3 : (k : Int) < (l.length : Int) := by omega
      go_wp2_with (first | ((with_reducible apply wpc_box (d := 17) hc); rfl; rfl; (clear hc; (try clear w); intro g17 w hc; simp only [snocN, setN, dropN, takeN, spliceN, flatN, flatN.appN, Value.cells, argsN, argN, atN, List.map_cons, List.map_nil, List.length_cons, List.length_nil] at hc ⊢)) | ((with_reducible apply wpc_alloc (d := 17) hc); (first | exact tfRatio | exact tfGauss | exact tfRotor | exact tfTide | exact tfPort | exact tfFault | exact tfWay | exact tfUnit); (clear hc; (try clear w); intro g17 w hc; simp only [snocN, setN, dropN, takeN, spliceN, flatN, flatN.appN, Value.cells, argsN, argN, atN, List.map_cons, List.map_nil, List.length_cons, List.length_nil] at hc ⊢)) | ((with_reducible apply wpc_load hc); (first | exact tfRatio | exact tfGauss | exact tfRotor | exact tfTide | exact tfPort | exact tfFault | exact tfWay | exact tfUnit); rfl; (repeat first | exact .here | apply Has.there); rfl; (simp only [snocN, setN, dropN, takeN, spliceN, List.length_cons, List.length_nil])) | ((with_reducible apply wpc_load1 hc); exact ⟨by kernel_rfl, by kernel_rfl⟩; rfl; (repeat first | exact .here | apply Has.there); rfl; (simp only [snocN, setN, dropN, takeN, spliceN, List.length_cons, List.length_nil])) | ((with_reducible apply wpc_store hc); (first | exact tfRatio | exact tfGauss | exact tfRotor | exact tfTide | exact tfPort | exact tfFault | exact tfWay | exact tfUnit); rfl; rfl; (repeat first | exact .here | apply Has.there); rfl; rfl; rfl; (clear hc; (try clear w); intro w hc; simp only [snocN, setN, dropN, takeN, spliceN, flatN, flatN.appN, Value.cells, argsN, argN, atN, List.map_cons, List.map_nil, List.length_cons, List.length_nil] at hc ⊢)) | ((with_reducible apply wpc_store1 hc); exact ⟨by kernel_rfl, by kernel_rfl⟩; rfl; (repeat first | exact .here | apply Has.there); rfl; rfl; (clear hc; (try clear w); intro w hc; simp only [snocN, setN, dropN, takeN, spliceN, flatN, flatN.appN, Value.cells, argsN, argN, atN, List.map_cons, List.map_nil, List.length_cons, List.length_nil] at hc ⊢)) | ((with_reducible apply wpc_box hc); rfl; rfl; (clear hc; (try clear w); intro g w hc; simp only [snocN, setN, dropN, takeN, spliceN, flatN, flatN.appN, Value.cells, argsN, argN, atN, List.map_cons, List.map_nil, List.length_cons, List.length_nil] at hc ⊢)) | ((with_reducible apply wpc_alloc hc); (first | exact tfRatio | exact tfGauss | exact tfRotor | exact tfTide | exact tfPort | exact tfFault | exact tfWay | exact tfUnit); (clear hc; (try clear w); intro g w hc; simp only [snocN, setN, dropN, takeN, spliceN, flatN, flatN.appN, Value.cells, argsN, argN, atN, List.map_cons, List.map_nil, List.length_cons, List.length_nil] at hc ⊢)) | ((with_reducible apply wpc_slice hc); (first | exact slGauss | exact slRatio | exact slWords | exact slTide); rfl; rfl; rfl; rfl; rfl; (clear hc; (try clear w); intro g w hc; simp only [snocN, setN, dropN, takeN, spliceN, flatN, flatN.appN, Value.cells, argsN, argN, atN, List.map_cons, List.map_nil, List.length_cons, List.length_nil] at hc ⊢)) | ((with_reducible apply wpl_wanted); rfl))
      refine cc_R hc (hA.out _ (hc.at_ (by repeat first | exact .here | apply Lies.there))) ?_
      clear hc; try clear w
      rintro lo1 v1 w A5 c5 A6 c6 hl1 hs1 hc o1 o2 q1
      have y1 := o1.rdr o2 hW
      go_wp2_with (first | ((with_reducible apply wpc_box (d := 17) hc); rfl; rfl; (clear hc; (try clear w); intro g17 w hc; simp only [snocN, setN, dropN, takeN, spliceN, flatN, flatN.appN, Value.cells, argsN, argN, atN, List.map_cons, List.map_nil, List.length_cons, List.length_nil] at hc ⊢)) | ((with_reducible apply wpc_alloc (d := 17) hc); (first | exact tfRatio | exact tfGauss | exact tfRotor | exact tfTide | exact tfPort | exact tfFault | exact tfWay | exact tfUnit); (clear hc; (try clear w); intro g17 w hc; simp only [snocN, setN, dropN, takeN, spliceN, flatN, flatN.appN, Value.cells, argsN, argN, atN, List.map_cons, List.map_nil, List.length_cons, List.length_nil] at hc ⊢)) | ((with_reducible apply wpc_load hc); (first | exact tfRatio | exact tfGauss | exact tfRotor | exact tfTide | exact tfPort | exact tfFault | exact tfWay | exact tfUnit); rfl; (repeat first | exact .here | apply Has.there); rfl; (simp only [snocN, setN, dropN, takeN, spliceN, List.length_cons, List.length_nil])) | ((with_reducible apply wpc_load1 hc); exact ⟨by kernel_rfl, by kernel_rfl⟩; rfl; (repeat first | exact .here | apply Has.there); rfl; (simp only [snocN, setN, dropN, takeN, spliceN, List.length_cons, List.length_nil])) | ((with_reducible apply wpc_store hc); (first | exact tfRatio | exact tfGauss | exact tfRotor | exact tfTide | exact tfPort | exact tfFault | exact tfWay | exact tfUnit); rfl; rfl; (repeat first | exact .here | apply Has.there); rfl; rfl; rfl; (clear hc; (try clear w); intro w hc; simp only [snocN, setN, dropN, takeN, spliceN, flatN, flatN.appN, Value.cells, argsN, argN, atN, List.map_cons, List.map_nil, List.length_cons, List.length_nil] at hc ⊢)) | ((with_reducible apply wpc_store1 hc); exact ⟨by kernel_rfl, by kernel_rfl⟩; rfl; (repeat first | exact .here | apply Has.there); rfl; rfl; (clear hc; (try clear w); intro w hc; simp only [snocN, setN, dropN, takeN, spliceN, flatN, flatN.appN, Value.cells, argsN, argN, atN, List.map_cons, List.map_nil, List.length_cons, List.length_nil] at hc ⊢)) | ((with_reducible apply wpc_box hc); rfl; rfl; (clear hc; (try clear w); intro g w hc; simp only [snocN, setN, dropN, takeN, spliceN, flatN, flatN.appN, Value.cells, argsN, argN, atN, List.map_cons, List.map_nil, List.length_cons, List.length_nil] at hc ⊢)) | ((with_reducible apply wpc_alloc hc); (first | exact tfRatio | exact tfGauss | exact tfRotor | exact tfTide | exact tfPort | exact tfFault | exact tfWay | exact tfUnit); (clear hc; (try clear w); intro g w hc; simp only [snocN, setN, dropN, takeN, spliceN, flatN, flatN.appN, Value.cells, argsN, argN, atN, List.map_cons, List.map_nil, List.length_cons, List.length_nil] at hc ⊢)) | ((with_reducible apply wpc_slice hc); (first | exact slGauss | exact slRatio | exact slWords | exact slTide); rfl; rfl; rfl; rfl; rfl; (clear hc; (try clear w); intro g w hc; simp only [snocN, setN, dropN, takeN, spliceN, flatN, flatN.appN, Value.cells, argsN, argN, atN, List.map_cons, List.map_nil, List.length_cons, List.length_nil] at hc ⊢)) | ((with_reducible apply wpl_wanted); rfl))
      refine dr_start hc (n := 11) rfl (.cons (.there (.here)) .nil) ?_
      clear hc; intro w hc hS
      ((with_reducible apply dr_move 0); rfl; kernel_rfl; kernel_rfl; kernel_rfl; rfl; exact hS; exact (fun _ _ _ _ h => h); (simp only [snocN, setN, dropN, takeN, spliceN, List.length_cons, List.length_nil]))
      ((with_reducible apply dr_pure 1); rfl; rfl; kernel_rfl; kernel_rfl; kernel_rfl; rfl; exact hS; (intro w'; go_simp; with_reducible rfl); exact (fun _ _ _ _ h => h); (simp only [snocN, setN, dropN, takeN, spliceN, List.length_cons, List.length_nil]))
      ((with_reducible apply dr_move 2); rfl; kernel_rfl; kernel_rfl; kernel_rfl; rfl; exact hS; exact (fun _ _ _ _ h => h); (simp only [snocN, setN, dropN, takeN, spliceN, List.length_cons, List.length_nil]))
      ((with_reducible apply dr_loadg 3); rfl; kernel_rfl; kernel_rfl; kernel_rfl; kernel_rfl; (first | exact tfRatio | exact tfGauss | exact tfRotor | exact tfTide | exact tfPort | exact tfFault | exact tfWay | exact tfUnit); rfl; (repeat first | exact .here | apply Has.there); rfl; exact hS; exact (fun _ _ _ _ h => h); (simp only [snocN, setN, dropN, takeN, spliceN, List.length_cons, List.length_nil]))
      ((with_reducible apply dr_moveg 4); rfl; kernel_rfl; kernel_rfl; kernel_rfl; kernel_rfl; rfl; exact hS; exact (fun _ _ _ _ h => h); (simp only [snocN, setN, dropN, takeN, spliceN, List.length_cons, List.length_nil]))
      ((with_reducible apply dr_moveg 5); rfl; kernel_rfl; kernel_rfl; kernel_rfl; kernel_rfl; rfl; exact hS; exact (fun _ _ _ _ h => h); (simp only [snocN, setN, dropN, takeN, spliceN, List.length_cons, List.length_nil]))
      ((with_reducible apply dr_pure 6); rfl; rfl; kernel_rfl; kernel_rfl; kernel_rfl; rfl; exact hS; (intro w'; go_simp; with_reducible rfl); exact (fun _ _ _ _ h => h); (simp only [snocN, setN, dropN, takeN, spliceN, List.length_cons, List.length_nil]))
      refine dr_one 7 (by kernel_rfl) (turn_loadR rfl rfl hc tfRatio x1 (by repeat first | exact .here | apply Lies.there) rfl rfl hS ?_)
      (simp only [snocN, setN, dropN, takeN, spliceN, List.length_cons, List.length_nil])
      refine dr_one 8 (by kernel_rfl) (turn_callg rfl (by kernel_rfl) (by kernel_rfl) fun K hK => ?_); simp only [argsN, argN, atN]
      refine cc_below hc (TT.out _ _ _ (y1.sub (hc.at_ (by repeat first | exact .here | apply Lies.there))) ⟨_, _, rfl, x2.sub (hc.at_ (by repeat first | exact .here | apply Lies.there)), x3.sub (hc.at_ (by repeat first | exact .here | apply Lies.there))⟩) ?_
      clear hc; try clear w
      intro w hc
      (try simp only []); clear hS; refine (fun (hS : Boxes _ _) => hK _ _ hS ?_) (hc.boxes (by repeat (first | exact .nil | (apply Among.cons; (repeat first | exact .here | apply Has.there))))); clear hK K
      (try (simp only [snocN, setN, dropN, takeN, spliceN, List.length_cons, List.length_nil]))
      ((with_reducible apply dr_pure 9); rfl; rfl; kernel_rfl; kernel_rfl; kernel_rfl; rfl; exact hS; (intro w'; go_simp; with_reducible rfl); exact (fun _ _ _ _ h => h); (simp only [snocN, setN, dropN, takeN, spliceN, List.length_cons, List.length_nil]))
      ((with_reducible apply dr_pure 10); rfl; rfl; kernel_rfl; kernel_rfl; kernel_rfl; rfl; exact hS; (intro w'; go_simp; with_reducible rfl); exact (fun _ _ _ _ h => h); (simp only [snocN, setN, dropN, takeN, spliceN, List.length_cons, List.length_nil]))
      refine dr_done (by kernel_rfl) ?_; clear hS
      go_wp2_with (first | ((with_reducible apply wpc_load hc); (first | exact tfRatio | exact tfGauss | exact tfRotor | exact tfTide | exact tfPort | exact tfFault | exact tfWay | exact tfUnit); rfl; (repeat first | exact .here | apply Has.there); rfl; (simp only [snocN, setN, dropN, takeN, spliceN, List.length_cons, List.length_nil])) | ((with_reducible apply wpc_load1 hc); exact ⟨by kernel_rfl, by kernel_rfl⟩; rfl; (repeat first | exact .here | apply Has.there); rfl; (simp only [snocN, setN, dropN, takeN, spliceN, List.length_cons, List.length_nil])) | ((with_reducible apply wpc_store hc); (first | exact tfRatio | exact tfGauss | exact tfRotor | exact tfTide | exact tfPort | exact tfFault | exact tfWay | exact tfUnit); rfl; rfl; (repeat first | exact .here | apply Has.there); rfl; rfl; rfl; (clear hc; (try clear w); intro w hc; simp only [snocN, setN, dropN, takeN, spliceN, flatN, flatN.appN, Value.cells, argsN, argN, atN, List.map_cons, List.map_nil, List.length_cons, List.length_nil] at hc ⊢)) | ((with_reducible apply wpc_store1 hc); exact ⟨by kernel_rfl, by kernel_rfl⟩; rfl; (repeat first | exact .here | apply Has.there); rfl; rfl; (clear hc; (try clear w); intro w hc; simp only [snocN, setN, dropN, takeN, spliceN, flatN, flatN.appN, Value.cells, argsN, argN, atN, List.map_cons, List.map_nil, List.length_cons, List.length_nil] at hc ⊢)) | ((with_reducible apply wpc_box hc); rfl; rfl; (clear hc; (try clear w); intro g w hc; simp only [snocN, setN, dropN, takeN, spliceN, flatN, flatN.appN, Value.cells, argsN, argN, atN, List.map_cons, List.map_nil, List.length_cons, List.length_nil] at hc ⊢)) | ((with_reducible apply wpc_alloc hc); (first | exact tfRatio | exact tfGauss | exact tfRotor | exact tfTide | exact tfPort | exact tfFault | exact tfWay | exact tfUnit); (clear hc; (try clear w); intro g w hc; simp only [snocN, setN, dropN, takeN, spliceN, flatN, flatN.appN, Value.cells, argsN, argN, atN, List.map_cons, List.map_nil, List.length_cons, List.length_nil] at hc ⊢)) | ((with_reducible apply wpc_slice hc); (first | exact slGauss | exact slRatio | exact slWords | exact slTide); rfl; rfl; rfl; rfl; rfl; (clear hc; (try clear w); intro g w hc; simp only [snocN, setN, dropN, takeN, spliceN, flatN, flatN.appN, Value.cells, argsN, argN, atN, List.map_cons, List.map_nil, List.length_cons, List.length_nil] at hc ⊢)))
      go_roundw
      case rel => exact ⟨k + 1, by omega, rfl, (hc.rest).sublist (.cons_cons _ (List.nil_sublist _))⟩
      case measure => simp [intOf] <;> omega
    · have t5 : decide ((k : Int) < (l.length : Int)) = false := decide_eq_false (by omega)
      clear h3 HA5 hW5
      go_wp2_with (first | ((with_reducible apply wpc_load hc); (first | exact tfRatio | exact tfGauss | exact tfRotor | exact tfTide | exact tfPort | exact tfFault | exact tfWay | exact tfUnit); rfl; (repeat first | exact .here | apply Has.there); rfl; (simp only [snocN, setN, dropN, takeN, spliceN, List.length_cons, List.length_nil])) | ((with_reducible apply wpc_load1 hc); exact ⟨by kernel_rfl, by kernel_rfl⟩; rfl; (repeat first | exact .here | apply Has.there); rfl; (simp only [snocN, setN, dropN, takeN, spliceN, List.length_cons, List.length_nil])) | ((with_reducible apply wpc_store hc); (first | exact tfRatio | exact tfGauss | exact tfRotor | exact tfTide | exact tfPort | exact tfFault | exact tfWay | exact tfUnit); rfl; rfl; (repeat first | exact .here | apply Has.there); rfl; rfl; rfl; (clear hc; (try clear w); intro w hc; simp only [snocN, setN, dropN, takeN, spliceN, flatN, flatN.appN, Value.cells, argsN, argN, atN, List.map_cons, List.map_nil, List.length_cons, List.length_nil] at hc ⊢)) | ((with_reducible apply wpc_store1 hc); exact ⟨by kernel_rfl, by kernel_rfl⟩; rfl; (repeat first | exact .here | apply Has.there); rfl; rfl; (clear hc; (try clear w); intro w hc; simp only [snocN, setN, dropN, takeN, spliceN, flatN, flatN.appN, Value.cells, argsN, argN, atN, List.map_cons, List.map_nil, List.length_cons, List.length_nil] at hc ⊢)) | ((with_reducible apply wpc_box hc); rfl; rfl; (clear hc; (try clear w); intro g w hc; simp only [snocN, setN, dropN, takeN, spliceN, flatN, flatN.appN, Value.cells, argsN, argN, atN, List.map_cons, List.map_nil, List.length_cons, List.length_nil] at hc ⊢)) | ((with_reducible apply wpc_alloc hc); (first | exact tfRatio | exact tfGauss | exact tfRotor | exact tfTide | exact tfPort | exact tfFault | exact tfWay | exact tfUnit); (clear hc; (try clear w); intro g w hc; simp only [snocN, setN, dropN, takeN, spliceN, flatN, flatN.appN, Value.cells, argsN, argN, atN, List.map_cons, List.map_nil, List.length_cons, List.length_nil] at hc ⊢)) | ((with_reducible apply wpc_slice hc); (first | exact slGauss | exact slRatio | exact slWords | exact slTide); rfl; rfl; rfl; rfl; rfl; (clear hc; (try clear w); intro g w hc; simp only [snocN, setN, dropN, takeN, spliceN, flatN, flatN.appN, Value.cells, argsN, argN, atN, List.map_cons, List.map_nil, List.length_cons, List.length_nil] at hc ⊢)) | ((with_reducible apply wpl_wanted); rfl))
      go_ret
      exact ⟨ret_bool rfl, hc.old⟩
end Go.Proofs.Ytfmhfgjpbkmneaa
namespace Go.Proofs.Ytfmhfgjpbkmneaa
open Go.RowKit Go.ChangeShapes Go.WideShapes
set_option linter.unusedVariables false
set_option linter.unusedSimpArgs false
set_option maxHeartbeats 4000000
/-! ### from a reading to the plain data -/
theorem ex2 {α : Type} {l : List α} (h : l.length = 2) : ∃ a b, l = [a, b] := by
  match l, h with
  | [a, b], _ => exact ⟨a, b, rfl⟩
theorem ex3 {α : Type} {l : List α} (h : l.length = 3) : ∃ a b c, l = [a, b, c] := by
  match l, h with
  | [a, b, c], _ => exact ⟨a, b, c, rfl⟩
theorem ex5 {α : Type} {l : List α} (h : l.length = 5) : ∃ a b c d e, l = [a, b, c, d, e] := by
  match l, h with
  | [a, b, c, d, e], _ => exact ⟨a, b, c, d, e, rfl⟩
theorem ex6 {α : Type} {l : List α} (h : l.length = 6) : ∃ a b c d e f, l = [a, b, c, d, e, f] := by
  match l, h with
  | [a, b, c, d, e, f], _ => exact ⟨a, b, c, d, e, f, rfl⟩
theorem ex9 {α : Type} {l : List α} (h : l.length = 9) : ∃ a b c d e f g i j, l = [a, b, c, d, e, f, g, i, j] := by
  match l, h with
  | [a, b, c, d, e, f, g, i, j], _ => exact ⟨a, b, c, d, e, f, g, i, j, rfl⟩
section
variable {H : Type} {enc : TypeId × Value → H} {w : World} {sp : Nat → Bool} {held : Bool} {n : Nat} {cs : List Value} {x : DataW H × List MemPlace}
theorem words_rd (h : DataW.trod enc Try.prog w 0 sp held n 22 cs = some x) : ∃ A cap l, cs = [.slice A l.length cap] ∧ Rd w (.slice A l.length cap) l := by
  rcases open_ints Try.underlying22 Try.underlying100 (by kernel_rfl) h with ⟨rfl, _⟩ | ⟨a, len, cap, zs, rfl, _, hl, hm, hz, _, hcell, hwz⟩
  · exact ⟨none, 0, [], rfl, none, 0, rfl, Nat.le_refl _, fun hn => by simp at hn, by simp, Num.W_nil⟩
  · have hle : len ≤ zs.length := by rw [hz]; split <;> omega
    have hlen : (zs.take len).length = len := by rw [List.length_take]; omega
    refine ⟨some a, cap, zs.take len, by rw [hlen], some a, cap, rfl, by omega, fun hn => ⟨a, rfl, fun j hj => ?_⟩, by unfold maxLen at hm; omega, fun y hy => ?_⟩
    · rw [hlen] at hj
      rw [hcell j (by omega)]
      congr 2
      simp only [Num.at_, List.getD_eq_getElem?_getD, List.getElem?_take_of_lt hj]
    · have := hwz y (List.mem_of_mem_take hy)
      have := bounds_u32 this
      omega
theorem ratio_rd (h : DataW.trod enc Try.prog w 0 sp held n 24 cs = some x) : ∃ r A c A' c', cs = rcs r A c A' c' ∧ Rd w (.slice A r.num.length c) r.num ∧ Rd w (.slice A' r.den.length c') r.den := by
  obtain ⟨xs, m, -, -, hcl, hxl, hg⟩ := DataW.trod_struct Try.underlying24 h
  have hC : Try.prog.cellsOf 24 = 3 := by kernel_rfl
  have h1 : Try.prog.cellsOf 4 = 1 := by kernel_rfl
  have h2 : Try.prog.cellsOf 22 = 1 := by kernel_rfl
  replace hcl : cs.length = 3 := hcl.trans hC
  replace hxl : xs.length = 3 := hxl.trans (by kernel_rfl)
  clear h hC
  obtain ⟨a0, a1, a2, rfl⟩ := ex3 hcl
  obtain ⟨y0, y1, y2, rfl⟩ := ex3 hxl
  have g0 := hg 0 _ rfl
  have g1 := hg 1 _ rfl
  have g2 := hg 2 _ rfl
  simp [h1, h2] at g0 g1 g2
  obtain ⟨b, e0, -⟩ := DataW.trod_bool Try.underlying4 g0
  obtain ⟨A, c, l, e1, r1⟩ := words_rd g1
  obtain ⟨A', c', l', e2, r2⟩ := words_rd g2
  simp at e0 e1 e2
  subst e0 e1 e2
  exact ⟨⟨b, l, l'⟩, A, c, A', c', rfl, r1, r2⟩
theorem gauss_rd (h : DataW.trod enc Try.prog w 0 sp held n 47 cs = some x) : ∃ g A c A' c' B d B' d', cs = gcs g A c A' c' B d B' d' ∧ Rd4 w g A c A' c' B d B' d' := by
  obtain ⟨xs, m, -, -, hcl, hxl, hg⟩ := DataW.trod_struct Try.underlying47 h
  have hC : Try.prog.cellsOf 47 = 6 := by kernel_rfl
  have h1 : Try.prog.cellsOf 24 = 3 := by kernel_rfl
  replace hcl : cs.length = 6 := hcl.trans hC
  replace hxl : xs.length = 2 := hxl.trans (by kernel_rfl)
  clear h hC
  obtain ⟨a0, a1, a2, a3, a4, a5, rfl⟩ := ex6 hcl
  obtain ⟨y0, y1, rfl⟩ := ex2 hxl
  have g0 := hg 0 _ rfl
  have g1 := hg 1 _ rfl
  simp [h1] at g0 g1
  obtain ⟨r, A, c, A', c', e0, r1, r2⟩ := ratio_rd g0
  obtain ⟨r', B, d, B', d', e1, r3, r4⟩ := ratio_rd g1
  simp [rcs] at e0 e1
  obtain ⟨rfl, rfl, rfl⟩ := e0
  obtain ⟨rfl, rfl, rfl⟩ := e1
  exact ⟨⟨r, r'⟩, A, c, A', c', B, d, B', d', rfl, r1, r2, r3, r4⟩
theorem tide_rd (h : DataW.trod enc Try.prog w 0 sp held n 56 cs = some x) : ∃ t A c A' c' B d B' d', cs = tcs t A c A' c' B d B' d' ∧ Num.TiOK t ∧ Rd4 w t.num A c A' c' B d B' d' := by
  obtain ⟨xs, m, -, -, hcl, hxl, hg⟩ := DataW.trod_struct Try.underlying56 h
  have hC : Try.prog.cellsOf 56 = 9 := by kernel_rfl
  have h1 : Try.prog.cellsOf 9 = 1 := by kernel_rfl
  have h2 : Try.prog.cellsOf 54 = 2 := by kernel_rfl
  have h3 : Try.prog.cellsOf 47 = 6 := by kernel_rfl
  have h4 : Try.prog.cellsOf 21 = 1 := by kernel_rfl
  replace hcl : cs.length = 9 := hcl.trans hC
  replace hxl : xs.length = 3 := hxl.trans (by kernel_rfl)
  clear h hC
  obtain ⟨a0, a1, a2, a3, a4, a5, a6, a7, a8, rfl⟩ := ex9 hcl
  obtain ⟨y0, y1, y2, rfl⟩ := ex3 hxl
  have g0 := hg 0 _ rfl
  have g1 := hg 1 _ rfl
  have g2 := hg 2 _ rfl
  simp [h1, h2, h3] at g0 g1 g2
  obtain ⟨s, e0, -, hs⟩ := DataW.trod_string Try.underlying9 g0
  obtain ⟨ys, m', -, -, -, hyl, hk⟩ := DataW.trod_struct Try.underlying54 g1
  obtain ⟨z0, z1, rfl⟩ := ex2 (hyl : ys.length = 2)
  have k0 := hk 0 _ rfl
  have k1 := hk 1 _ rfl
  simp [h4] at k0 k1
  obtain ⟨f, e1, -, w1⟩ := DataW.trod_int Try.underlying21 k0
  obtain ⟨f', e2, -, w2⟩ := DataW.trod_int Try.underlying21 k1
  obtain ⟨g, A, c, A', c', B, d, B', d', e3, r⟩ := gauss_rd g2
  simp [gcs] at e0 e1 e2 e3
  obtain ⟨rfl, rfl, rfl, rfl, rfl, rfl⟩ := e3
  subst e0 e1 e2
  have b1 := bounds_i32 w1
  have b2 := bounds_i32 w2
  unfold maxLen at hs
  exact ⟨⟨s, f, f', g⟩, A, c, A', c', B, d, B', d', rfl, ⟨hs, b1.1, b1.2, b2.1, b2.2⟩, r⟩
theorem tides_rd (h : DataW.trod enc Try.prog w 0 sp held n 25 cs = some x) : ∃ A c l, cs = [.slice A l.length c] ∧ RdTs w (.slice A l.length c) l := by
  have hC : Try.prog.cellsOf 56 = 9 := by kernel_rfl
  rcases Deep.open_slice Try.underlying25 h with ⟨rfl, _⟩ | ⟨a, len, cap, m, k, D, Pl, rfl, -, hl, hm, hmm, -, hi⟩
  · exact ⟨none, 0, [], rfl, none, 0, rfl, Nat.le_refl _, by simp, fun hn => by simp at hn⟩
  · rw [hC] at hi
    have hle : len ≤ m := by rw [hmm]; split <;> omega
    have hall : ∀ i, i < len → ∃ t : Num.Ti, ∃ A c A' c' B d B' d', (∀ j v, (tcs t A c A' c' B d B' d')[j]? = some v → w.cell? (a.add (i * 9 + j)) = some v) ∧ Num.TiOK t ∧ Rd4 w t.num A c A' c' B d B' d' := fun i hlt => by
      obtain ⟨cs', hc, ht⟩ := hi i (by omega)
      obtain ⟨t, A, c, A', c', B, d, B', d', rfl, ok, r⟩ := tide_rd ht
      obtain ⟨-, -, hat⟩ := World.cells?_some hc
      refine ⟨t, A, c, A', c', B, d, B', d', fun j v hv => ?_, ok, r⟩
      have hj : j < 9 := (List.getElem?_eq_some_iff.1 hv).1
      rw [← Deep.add_add, hat j hj]
      exact hv
    have : Inhabited Num.Ti := ⟨⟨ByteArray.empty, 0, 0, ⟨⟨false, [], []⟩, ⟨false, [], []⟩⟩⟩⟩
    obtain ⟨f, hf⟩ := Deep.choose_lt hall
    have hlen : ((List.range len).map f).length = len := by simp
    refine ⟨some a, cap, (List.range len).map f, by rw [hlen], some a, cap, rfl, by omega, by unfold maxLen at hm; omega, fun hn => ?_⟩
    rw [hlen] at hn
    obtain ⟨b, o, s⟩ := a
    have hsp : s = none := by
      obtain ⟨A, c, A', c', B, d, B', d', e, -⟩ := hf 0 hn
      exact World.cell?_spot (e 0 _ rfl)
    subst hsp
    refine ⟨b, o, rfl, fun j hj => ?_⟩
    rw [hlen] at hj
    obtain ⟨A, c, A', c', B, d, B', d', e, ok, r⟩ := hf j hj
    have hfj : ((List.range len).map f)[j]'(by simpa using hj) = f j := by simp
    rw [hfj]
    refine ⟨A, c, A', c', B, d, B', d', fun i v hv => ?_, ok, r⟩
    have := e i v hv
    rw [Addr.add_mid, ← Nat.add_assoc] at this
    exact this
theorem port_rd (h : DataW.trod enc Try.prog w 0 sp held n 27 cs = some x) : ∃ p : Num.Po, RdP w (.agg cs.toArray) p := by
  obtain ⟨xs, m, -, -, hcl, hxl, hg⟩ := DataW.trod_struct Try.underlying27 h
  have hC : Try.prog.cellsOf 27 = 5 := by kernel_rfl
  have h1 : Try.prog.cellsOf 9 = 1 := by kernel_rfl
  have h2 : Try.prog.cellsOf 24 = 3 := by kernel_rfl
  have h3 : Try.prog.cellsOf 25 = 1 := by kernel_rfl
  replace hcl : cs.length = 5 := hcl.trans hC
  replace hxl : xs.length = 3 := hxl.trans (by kernel_rfl)
  clear h hC
  obtain ⟨a0, a1, a2, a3, a4, rfl⟩ := ex5 hcl
  obtain ⟨y0, y1, y2, rfl⟩ := ex3 hxl
  have g0 := hg 0 _ rfl
  have g1 := hg 1 _ rfl
  have g2 := hg 2 _ rfl
  simp [h1, h2, h3] at g0 g1 g2
  obtain ⟨s, e0, -, hs⟩ := DataW.trod_string Try.underlying9 g0
  obtain ⟨r, A, c, A', c', e1, r1, r2⟩ := ratio_rd g1
  obtain ⟨T, ct, l, e2, r3⟩ := tides_rd g2
  simp [rcs] at e0 e1 e2
  obtain ⟨rfl, rfl, rfl⟩ := e1
  subst e0 e2
  unfold maxLen at hs
  exact ⟨⟨s, r, l⟩, A, c, A', c', T, ct, rfl, hs, r1, r2, r3⟩
end
end Go.Proofs.Ytfmhfgjpbkmneaa
