import Derived.Test.YtfmhfgjpbkmneaaZf
import Derived.Deep.MidRow
namespace Go.Proofs.Ytfmhfgjpbkmneaa
open Go.RowKit
set_option linter.unusedVariables false
set_option linter.unusedSimpArgs false
/-! ### Worlds that are parts of one another, and the variables of a call -/
/-- what stands in u stands in w -/
structure Part (u w : World) : Prop where
  size : u.heap.size ≤ w.heap.size
  at_ : ∀ (k : Nat) (c : Array Value) (t : TypeId) (f : Nat × Nat), u.heap[k]? = some (Obj.cells c t f) → w.heap[k]? = some (Obj.cells c t f)
  map_ : ∀ (k : Nat) (es : Array MapEntry) (n : Nat), u.heap[k]? = some (Obj.map es n) → w.heap[k]? = some (Obj.map es n)
theorem Part.refl (w : World) : Part w w := ⟨Nat.le_refl _, fun _ _ _ _ h => h, fun _ _ _ h => h⟩
theorem Part.trans {a b c : World} (h : Part a b) (k : Part b c) : Part a c := ⟨Nat.le_trans h.size k.size, fun i x t f e => k.at_ i x t f (h.at_ i x t f e), fun i x n e => k.map_ i x n (h.map_ i x n e)⟩
theorem Part.below {a b c : World} (h : Part a b) (k : Below b.heap.size b c) : Part a c :=
  ⟨Nat.le_trans h.size k.size, fun i x t f e => (k.block i (by have := (Array.getElem?_eq_some_iff.1 (h.at_ i x t f e)).1; exact this)).trans (h.at_ i x t f e), fun i x n e => (k.block i (by have := (Array.getElem?_eq_some_iff.1 (h.map_ i x n e)).1; exact this)).trans (h.map_ i x n e)⟩
theorem Part.cell {u w : World} {p : Addr} {v : Value} (h : Part u w) (e : u.cell? p = some v) : w.cell? p = some v := by
  unfold World.cell? at *
  cases hb : u.heap[p.block]? with
  | none => rw [hb] at e; cases e
  | some o =>
    cases o with
    | cells c t f => rw [h.at_ _ c t f hb]; rw [hb] at e; exact e
    | _ => rw [hb] at e; cases e
theorem Sl.sub {u w : World} {A : Option Addr} {l : List Int} (h : Sl u A l) (s : Part u w) : Sl w A l := fun hn => by
  obtain ⟨ad, e, hc⟩ := h hn
  exact ⟨ad, e, fun j hj => s.cell (hc j hj)⟩
theorem Rd.sub {u w : World} {v : Value} {l : List Int} (h : Rd u v l) (s : Part u w) : Rd w v l := by
  obtain ⟨A, c, e, h1, h2, h3, h4⟩ := h
  exact ⟨A, c, e, h1, h2.sub s, h3, h4⟩
theorem RdR.sub {u w : World} {v : Value} {r : Num.Ra} (h : RdR u v r) (s : Part u w) : RdR w v r := by
  obtain ⟨vn, vd, e, h1, h2⟩ := h
  exact ⟨vn, vd, e, h1.sub s, h2.sub s⟩
theorem RdG.sub {u w : World} {v : Value} {x : Num.Ga} (h : RdG u v x) (s : Part u w) : RdG w v x := by
  obtain ⟨A, c, A', c', B, d, B', d', e, h1, h2, h3, h4⟩ := h
  exact ⟨A, c, A', c', B, d, B', d', e, h1.sub s, h2.sub s, h3.sub s, h4.sub s⟩
theorem Win.sub {u w : World} {g c o : Nat} {l : List Int} (h : Win u g c o l) (s : Part u w) : Win w g c o l := by
  obtain ⟨cur, hh, r⟩ := h
  exact ⟨cur, s.at_ _ _ _ _ hh, r⟩
theorem Own.sub {u w : World} {lo : Nat} {v : Value} {l : List Int} (h : Own u lo v l) (s : Part u w) : Own w lo v l := by
  rcases h with h | ⟨g, c, e, hg, hm, hw⟩
  · exact .inl h
  · exact .inr ⟨g, c, e, hg, hm, hw.sub s⟩
/-- the part of w from block lo on -/
def fresh (w : World) (lo : Nat) : World := { w with heap := w.heap.mapIdx fun i o => if i < lo then .coro none else o }
theorem fresh_size (w : World) (lo : Nat) : (fresh w lo).heap.size = w.heap.size := by simp [fresh]
theorem fresh_at (w : World) (lo k : Nat) : (fresh w lo).heap[k]? = if k < lo then (w.heap[k]?).map (fun _ => .coro none) else w.heap[k]? := by
  simp only [fresh, Array.getElem?_mapIdx]
  split <;> cases w.heap[k]? <;> simp_all
theorem fresh_sub (w : World) (lo : Nat) : Part (fresh w lo) w := ⟨Nat.le_of_eq (fresh_size w lo), fun k c t f h => by
  rw [fresh_at] at h
  split at h
  · cases hk : w.heap[k]? <;> rw [hk] at h <;> cases h
  · exact h, fun k es n h => by
  rw [fresh_at] at h
  split at h
  · cases hk : w.heap[k]? <;> rw [hk] at h <;> cases h
  · exact h⟩
/-- no cells at k -/
def Void (u : World) (k : Nat) : Prop := ∀ (c : Array Value) (t : TypeId) (f : Nat × Nat), u.heap[k]? ≠ some (Obj.cells c t f)
theorem void_past {u : World} {k : Nat} (h : u.heap.size ≤ k) : Void u k := fun c t f e => by rw [Array.getElem?_eq_none h] at e; cases e
theorem void_fresh {w : World} {lo k : Nat} (h : k < lo) : Void (fresh w lo) k := fun c t f e => by
  rw [fresh_at, if_pos h] at e
  cases hk : w.heap[k]? <;> rw [hk] at e <;> cases e
theorem Win.fresh {w : World} {lo g c o : Nat} {l : List Int} (h : Win w g c o l) (hg : lo ≤ g) : Win (fresh w lo) g c o l := h.block (by rw [fresh_at, if_neg (by omega)])
theorem Own.fresh {w : World} {lo : Nat} {v : Value} {l : List Int} (h : Own w lo v l) : Own (fresh w lo) lo v l := by
  rcases h with h | ⟨g, c, e, hg, hm, hw⟩
  · exact .inl h
  · exact .inr ⟨g, c, e, hg, hm, hw.fresh hg⟩

/-- a variable: its block, its type, what its cells hold -/
structure Bx where
  g : Nat
  t : TypeId
  cs : List Value
/-- The world in the middle of a call that began in W0: the call's own variables L, and parts of the world that stand and hold none of them. -/
structure Ctx (W0 : World) (og : Option Nat) (L : List Bx) (us : List World) (w : World) : Prop where
  below : W0.grownBy w og
  box : ∀ b ∈ L, (W0.heap.size ≤ b.g ∨ og = some b.g) ∧ w.heap[b.g]? = some (.cells b.cs.toArray b.t (0, 0))
  dis : (L.map (·.g)).Nodup
  sub : ∀ u ∈ us, Part u w
  void : ∀ u ∈ us, ∀ b ∈ L, Void u b.g
inductive Has : List Bx → Nat → TypeId → List Value → Nat → Prop
  | here {g t cs L} : Has (⟨g, t, cs⟩ :: L) g t cs 0
  | there {b g t cs L i} (h : Has L g t cs i) : Has (b :: L) g t cs (i + 1)
inductive Lies : List World → World → Prop
  | here {u us} : Lies (u :: us) u
  | there {u v us} (h : Lies us u) : Lies (v :: us) u
theorem Lies.mem {us : List World} {u : World} (h : Lies us u) : u ∈ us := by
  induction h with
  | here => exact List.mem_cons_self ..
  | there _ ih => exact List.mem_cons_of_mem _ ih
theorem Has.get {L : List Bx} {g : Nat} {t : TypeId} {cs : List Value} {i : Nat} (h : Has L g t cs i) : L[i]? = some ⟨g, t, cs⟩ := by
  induction h with
  | here => rfl
  | there _ ih => exact ih
theorem Has.mem {L : List Bx} {g : Nat} {t : TypeId} {cs : List Value} {i : Nat} (h : Has L g t cs i) : (⟨g, t, cs⟩ : Bx) ∈ L := List.mem_of_getElem? h.get
def setN {α : Type} : List α → Nat → α → List α
  | [], _, _ => []
  | _ :: l, 0, v => v :: l
  | x :: l, n + 1, v => x :: setN l n v
def getN {α : Type} : List α → Nat → Option α
  | [], _ => none
  | x :: _, 0 => some x
  | _ :: l, n + 1 => getN l n
def dropN {α : Type} : Nat → List α → List α
  | 0, l => l
  | _ + 1, [] => []
  | n + 1, _ :: l => dropN n l
def takeN {α : Type} : Nat → List α → List α
  | 0, _ => []
  | _ + 1, [] => []
  | n + 1, x :: l => x :: takeN n l
def spliceN : List Value → Nat → List Value → List Value
  | [], _, _ => []
  | c :: cs, o + 1, vs => c :: spliceN cs o vs
  | c :: cs, 0, [] => c :: cs
  | _ :: cs, 0, v :: vs => v :: spliceN cs 0 vs
def snocN {α : Type} : List α → α → List α
  | [], y => [y]
  | x :: l, y => x :: snocN l y
theorem setN_eq {α : Type} : ∀ (l : List α) (n : Nat) (v : α), setN l n v = l.set n v
  | [], _, _ => rfl
  | _ :: _, 0, _ => rfl
  | x :: l, n + 1, v => by simp [setN, setN_eq l n v]
theorem getN_eq {α : Type} : ∀ (l : List α) (n : Nat), getN l n = l[n]?
  | [], _ => rfl
  | _ :: _, 0 => rfl
  | x :: l, n + 1 => by simp [getN, getN_eq l n]
theorem dropN_eq {α : Type} : ∀ (n : Nat) (l : List α), dropN n l = l.drop n
  | 0, _ => rfl
  | _ + 1, [] => rfl
  | n + 1, _ :: l => by simp [dropN, dropN_eq n l]
theorem takeN_eq {α : Type} : ∀ (n : Nat) (l : List α), takeN n l = l.take n
  | 0, _ => by simp [takeN]
  | _ + 1, [] => rfl
  | n + 1, _ :: l => by simp [takeN, takeN_eq n l]
theorem snocN_eq {α : Type} : ∀ (l : List α) (y : α), snocN l y = l ++ [y]
  | [], _ => rfl
  | _ :: l, y => by simp [snocN, snocN_eq l y]
theorem spliceN_len : ∀ (cs : List Value) (o : Nat) (vs : List Value), (spliceN cs o vs).length = cs.length
  | [], _, _ => rfl
  | _ :: cs, o + 1, vs => by simp [spliceN, spliceN_len cs o vs]
  | _ :: _, 0, [] => rfl
  | _ :: cs, 0, _ :: vs => by simp [spliceN, spliceN_len cs 0 vs]
theorem spliceN_get : ∀ (cs : List Value) (o : Nat) (vs : List Value) (j : Nat), o + vs.length ≤ cs.length → (spliceN cs o vs)[j]? = if o ≤ j ∧ j < o + vs.length then vs[j - o]? else cs[j]?
  | [], o, vs, j, h => by simp at h; simp [spliceN, h]
  | c :: cs, o + 1, vs, 0, h => by simp [spliceN]
  | c :: cs, o + 1, vs, j + 1, h => by
    simp only [spliceN, List.getElem?_cons_succ, List.length_cons] at *
    rw [spliceN_get cs o vs j (by omega)]
    by_cases h1 : o ≤ j ∧ j < o + vs.length
    · rw [if_pos h1, if_pos (by omega), show j + 1 - (o + 1) = j - o by omega]
    · rw [if_neg h1, if_neg (by omega)]
  | c :: cs, 0, [], j, h => by simp [spliceN]
  | c :: cs, 0, v :: vs, 0, h => by simp [spliceN]
  | c :: cs, 0, v :: vs, j + 1, h => by
    simp only [spliceN, List.getElem?_cons_succ, List.length_cons] at *
    rw [spliceN_get cs 0 vs j (by omega)]
    by_cases h1 : 0 ≤ j ∧ j < 0 + vs.length
    · rw [if_pos h1, if_pos (by omega)]; simp
    · rw [if_neg h1, if_neg (by omega)]
theorem setCells_heap (g : Nat) : ∀ (vs : List Value) (o : Nat) (w : World) (cs : Array Value) (t : TypeId), w.heap[g]? = some (.cells cs t (0, 0)) → o + vs.length ≤ cs.size →
    (w.setCells g o vs).heap[g]? = some (.cells (spliceN cs.toList o vs).toArray t (0, 0))
  | [], o, w, cs, t, h, hl => by
    have : spliceN cs.toList o [] = cs.toList := by
      apply List.ext_getElem?
      intro j
      rw [spliceN_get _ _ _ _ (by simpa using hl), if_neg (by simp)]
    rw [this, World.setCells]; simpa using h
  | v :: vs, o, w, cs, t, h, hl => by
    simp only [List.length_cons] at hl
    rw [World.setCells, setCells_heap g vs (o + 1) _ (cs.setIfInBounds o v) t (by simp [World.setCell, Array.getElem?_modify, h]) (by simp; omega)]
    congr 3
    apply List.ext_getElem?
    intro j
    rw [spliceN_get _ _ _ _ (by simp; omega), spliceN_get _ _ _ _ (by simp; omega)]
    simp only [Array.toList_setIfInBounds, List.length_cons]
    by_cases h1 : j = o
    · subst h1
      rw [if_neg (by omega), if_pos (by omega)]
      have hj : j < cs.size := by omega
      simp [List.getElem?_set, hj]
    · by_cases h2 : o + 1 ≤ j ∧ j < o + 1 + vs.length
      · rw [if_pos h2, if_pos (by omega), show j - o = (j - (o + 1)) + 1 by omega]; simp
      · rw [if_neg h2, if_neg (by omega), List.getElem?_set, if_neg (by omega)]
theorem setCells_other (g : Nat) : ∀ (vs : List Value) (o : Nat) (w : World) (k : Nat), k ≠ g → (w.setCells g o vs).heap[k]? = w.heap[k]?
  | [], _, _, _, _ => rfl
  | v :: vs, o, w, k, h => by rw [World.setCells, setCells_other g vs (o + 1) _ k h, Below.heap_setCell _ _ _ _ h]
theorem setCells_rest (g : Nat) : ∀ (vs : List Value) (o : Nat) (w : World), (w.setCells g o vs).os = w.os ∧ (w.setCells g o vs).tape = w.tape ∧ (w.setCells g o vs).output = w.output ∧ (w.setCells g o vs).heap.size = w.heap.size
  | [], _, _ => ⟨rfl, rfl, rfl, rfl⟩
  | v :: vs, o, w => by
    obtain ⟨a, b, c, d⟩ := setCells_rest g vs (o + 1) (w.setCell ⟨g, o, none⟩ v)
    rw [World.setCells, a, b, c, d]
    exact ⟨rfl, rfl, rfl, by simp [World.setCell]⟩
theorem grown_below {W0 w w' : World} {og : Option Nat} (h : W0.grownBy w og) (hb : Below w.heap.size w w') : W0.grownBy w' og :=
  ⟨hb.os.trans h.os, hb.tape.trans h.tape, hb.output.trans h.output, Nat.le_trans h.size hb.size, fun k hk hn => (hb.block k (Nat.lt_of_lt_of_le hk h.size)).trans (h.block k hk hn)⟩
section
variable {W0 w w' : World} {og : Option Nat} {L : List Bx} {us : List World} {g : Nat} {t : TypeId} {cs : List Value} {i : Nat}
theorem Ctx.start (w : World) : Ctx w none [] [w] w := ⟨⟨rfl, rfl, rfl, Nat.le_refl _, fun _ _ _ => rfl⟩, fun _ h => by simp at h, by simp, fun u h => by simp at h; subst h; exact Part.refl _, fun _ _ _ h => by simp at h⟩
theorem Ctx.lt (h : Ctx W0 og L us w) (hb : Has L g t cs i) : g < w.heap.size := (Array.getElem?_eq_some_iff.1 (h.box _ hb.mem).2).1
theorem Ctx.grow (h : Ctx W0 og L us w) (hb : Below w.heap.size w w') : Ctx W0 og L us w' :=
  ⟨grown_below h.below hb, fun b m => ⟨(h.box b m).1, (hb.block _ (Array.getElem?_eq_some_iff.1 (h.box b m).2).1).trans (h.box b m).2⟩, h.dis, fun u m => (h.sub u m).below hb, h.void⟩
theorem Ctx.drew (h : Ctx W0 og L us w) : Ctx W0 og L us w.drew := h.grow ((Below.refl _ _).drew)
theorem Ctx.drewN (h : Ctx W0 og L us w) (n : Nat) : Ctx W0 og L us (w.drewN n) := h.grow ⟨rfl, rfl, rfl, Nat.le_refl _, fun _ _ => rfl⟩
/-- new memory of a call -/
theorem Ctx.call (h : Ctx W0 og L us w) (hb : Below w.heap.size w w') : Ctx W0 og L (fresh w' w.heap.size :: us) w' := by
  have k := h.grow hb
  refine ⟨k.below, k.box, k.dis, fun u m => ?_, fun u m b mb => ?_⟩
  · rcases List.mem_cons.1 m with rfl | m
    · exact fresh_sub _ _
    · exact k.sub u m
  · rcases List.mem_cons.1 m with rfl | m
    · exact void_fresh (Array.getElem?_eq_some_iff.1 (h.box b mb).2).1
    · exact k.void u m b mb
theorem Ctx.alloc (h : Ctx W0 og L us w) (t : TypeId) (cs : List Value) : Ctx W0 og (snocN L ⟨w.heap.size, t, cs⟩) us (w.alloc (.cells cs.toArray t)) := by
  have k := h.grow ((Below.refl _ w).alloc (Nat.le_refl _) (.cells cs.toArray t))
  rw [snocN_eq]
  refine ⟨k.below, fun b m => ?_, ?_, k.sub, fun u m b mb => ?_⟩
  · rcases List.mem_append.1 m with m | m
    · exact k.box b m
    · simp at m; subst m; exact ⟨.inl h.below.size, heap_alloc_new w _⟩
  · rw [List.map_append, List.nodup_append]
    refine ⟨k.dis, by simp, fun x hx y hy => ?_⟩
    obtain ⟨b, mb, rfl⟩ := List.mem_map.1 hx
    simp at hy; subst hy
    have := (Array.getElem?_eq_some_iff.1 (h.box b mb).2).1
    omega
  · rcases List.mem_append.1 mb with mb | mb
    · exact k.void u m b mb
    · simp at mb; subst mb; exact void_past (h.sub u m).size
/-- a variable that a call has made -/
theorem Ctx.adopt (h : Ctx W0 og L us w) (hb : Below w.heap.size w w') (hx : w'.heap[g]? = some (.cells cs.toArray t (0, 0))) (hg : w.heap.size ≤ g) : Ctx W0 og (snocN L ⟨g, t, cs⟩) us w' := by
  have k := h.grow hb
  rw [snocN_eq]
  refine ⟨k.below, fun b m => ?_, ?_, k.sub, fun u m b mb => ?_⟩
  · rcases List.mem_append.1 m with m | m
    · exact k.box b m
    · simp at m; subst m; exact ⟨.inl (Nat.le_trans h.below.size hg), hx⟩
  · rw [List.map_append, List.nodup_append]
    refine ⟨k.dis, by simp, fun x hx y hy => ?_⟩
    obtain ⟨b, mb, rfl⟩ := List.mem_map.1 hx
    simp at hy; subst hy
    have := (Array.getElem?_eq_some_iff.1 (h.box b mb).2).1
    omega
  · rcases List.mem_append.1 mb with mb | mb
    · exact k.void u m b mb
    · simp at mb; subst mb; exact void_past (Nat.le_trans (h.sub u m).size hg)
/-- a call that has changed one variable, and made memory -/
theorem Ctx.change (h : Ctx W0 og L us w) (hb : Has L g t cs i) (hw : Way g w w') {cs' : List Value} (hx : w'.heap[g]? = some (.cells cs'.toArray t (0, 0))) : Ctx W0 og (setN L i ⟨g, t, cs'⟩) (fresh w' w.heap.size :: us) w' := by
  have hi := hb.get
  have hlt := h.lt hb
  have hg : W0.heap.size ≤ g ∨ og = some g := (h.box _ hb.mem).1
  have hne : ∀ k, k < W0.heap.size → some k ≠ og → some k ≠ some g := fun k hk hn e => by
    injection e with e
    subst e
    rcases hg with hg | hg
    · omega
    · exact hn hg.symm
  have hmap : (setN L i ⟨g, t, cs'⟩).map (·.g) = L.map (·.g) := by
    rw [setN_eq, List.map_set]
    apply List.ext_getElem?
    intro j
    rw [List.getElem?_set]
    split
    · rename_i e; subst e
      have := (List.getElem?_eq_some_iff.1 hi)
      obtain ⟨q, e⟩ := this
      simp [q, e]
    · rfl
  have hgs : ∀ b ∈ setN L i ⟨g, t, cs'⟩, ∃ c ∈ L, c.g = b.g := fun b m => by
    have : b.g ∈ (setN L i ⟨g, t, cs'⟩).map (·.g) := List.mem_map.2 ⟨b, m, rfl⟩
    rw [hmap] at this
    obtain ⟨c, mc, e⟩ := List.mem_map.1 this
    exact ⟨c, mc, e⟩
  refine ⟨⟨hw.os.trans h.below.os, hw.tape.trans h.below.tape, hw.output.trans h.below.output, Nat.le_trans h.below.size hw.size, fun k hk hn => (hw.block k (Nat.lt_of_lt_of_le hk h.below.size) (hne k hk hn)).trans (h.below.block k hk hn)⟩, fun b m => ?_, by rw [hmap]; exact h.dis, fun u m => ?_, fun u m b mb => ?_⟩
  · rw [setN_eq] at m
    obtain ⟨j, hj⟩ := List.getElem?_of_mem m
    rw [List.getElem?_set] at hj
    split at hj
    · split at hj
      · injection hj with hj; subst hj; exact ⟨hg, hx⟩
      · cases hj
    · rename_i hne
      have mb := List.mem_of_getElem? hj
      have hb' := h.box b mb
      refine ⟨hb'.1, (hw.block _ (Array.getElem?_eq_some_iff.1 hb'.2).1 (fun e => ?_)).trans hb'.2⟩
      injection e with e
      have nd := h.dis
      have e1 : (L.map (·.g))[i]? = some g := by rw [List.getElem?_map, hi]; rfl
      have e2 : (L.map (·.g))[j]? = some g := by rw [List.getElem?_map, hj]; simp [e]
      exact hne ((List.getElem?_inj (List.getElem?_eq_some_iff.1 e1).1 nd).1 (e1.trans e2.symm))
  · rcases List.mem_cons.1 m with rfl | m
    · exact fresh_sub _ _
    · refine ⟨Nat.le_trans (h.sub u m).size hw.size, fun k c t' f e => ?_, fun k es n e => ?_⟩
      · have := (h.sub u m).at_ k c t' f e
        refine (hw.block k (Array.getElem?_eq_some_iff.1 this).1 (fun e' => ?_)).trans this
        injection e' with e'
        subst e'
        exact h.void u m _ hb.mem _ _ _ e
      · have := (h.sub u m).map_ k es n e
        refine (hw.block k (Array.getElem?_eq_some_iff.1 this).1 (fun e' => ?_)).trans this
        injection e' with e'
        subst e'
        have h2 := (h.box _ hb.mem).2
        rw [this] at h2
        cases h2
  · obtain ⟨c, mc, e⟩ := hgs b mb
    rcases List.mem_cons.1 m with rfl | m
    · rw [← e]; exact void_fresh (Array.getElem?_eq_some_iff.1 (h.box c mc).2).1
    · rw [← e]; exact h.void u m c mc
theorem Ctx.fewer (h : Ctx W0 og L us w) {us' : List World} (hs : ∀ u ∈ us', u ∈ us) : Ctx W0 og L us' w := ⟨h.below, h.box, h.dis, fun u m => h.sub u (hs u m), fun u m => h.void u (hs u m)⟩
theorem Ctx.tail (h : Ctx W0 og L us w) {u : World} (k : Ctx W0 og L (u :: us) w) : Ctx W0 og L us w := h
theorem Ctx.rest {u : World} (k : Ctx W0 og L (u :: us) w) : Ctx W0 og L us w := k.fewer fun v m => List.mem_cons_of_mem _ m
theorem Ctx.same (h : Ctx W0 og L us w) (hb : Has L g t cs i) (hw : Way g w w') {cs' : List Value} (hx : w'.heap[g]? = some (.cells cs'.toArray t (0, 0))) : Ctx W0 og (setN L i ⟨g, t, cs'⟩) us w' := (h.change hb hw hx).rest
theorem Ctx.store (h : Ctx W0 og L us w) (hb : Has L g t cs i) (o : Nat) (vs : List Value) (hl : o + vs.length ≤ cs.length) : Ctx W0 og (setN L i ⟨g, t, spliceN cs o vs⟩) us (w.setCells g o vs) := by
  obtain ⟨a, b, c, d⟩ := setCells_rest g vs o w
  refine h.same hb ⟨a, b, c, Nat.le_of_eq d.symm, fun k hk hn => setCells_other g vs o w k (fun e => hn (by rw [e]))⟩ ?_
  have := setCells_heap g vs o w cs.toArray t (h.box _ hb.mem).2 (by simpa using hl)
  simpa using this
theorem Ctx.cell (h : Ctx W0 og L us w) (hb : Has L g t cs i) (o : Nat) : w.cell? ⟨g, o, none⟩ = cs[o]? := by
  have := (h.box _ hb.mem).2
  simp [World.cell?, this]
theorem Ctx.free (h : Ctx W0 og L us w) (hb : Has L g t cs i) (o : Nat) : w.frozen? ⟨g, o, none⟩ = false := by
  have := (h.box _ hb.mem).2
  simp [World.frozen?, this]
theorem Ctx.has (h : Ctx W0 og L us w) (hb : Has L g t cs i) : Box w g t cs.toArray := (h.box _ hb.mem).2
theorem Ctx.old (h : Ctx W0 none L us w) : Below W0.heap.size W0 w := ⟨h.below.os, h.below.tape, h.below.output, h.below.size, fun k hk => h.below.block k hk (fun e => by cases e)⟩
/-- W0 without one block -/
def mask (w : World) (g : Nat) : World := { w with heap := w.heap.mapIdx fun i o => if i = g then .coro none else o }
theorem mask_at (w : World) (g k : Nat) : (mask w g).heap[k]? = if k = g then (w.heap[k]?).map (fun _ => .coro none) else w.heap[k]? := by
  simp only [mask, Array.getElem?_mapIdx]
  split <;> cases w.heap[k]? <;> simp_all
theorem mask_part (w : World) (g : Nat) : Part (mask w g) w := ⟨by simp [mask], fun k c t f h => by
  rw [mask_at] at h
  split at h
  · cases hk : w.heap[k]? <;> rw [hk] at h <;> cases h
  · exact h, fun k es n h => by
  rw [mask_at] at h
  split at h
  · cases hk : w.heap[k]? <;> rw [hk] at h <;> cases h
  · exact h⟩
theorem Ctx.startAt (w : World) {g : Nat} {t : TypeId} {cs : List Value} (hx : Box w g t cs.toArray) : Ctx w (some g) [⟨g, t, cs⟩] [mask w g] w :=
  ⟨⟨rfl, rfl, rfl, Nat.le_refl _, fun _ _ _ => rfl⟩, fun b m => by simp at m; subst m; exact ⟨.inr rfl, hx⟩, by simp, fun u m => by simp at m; subst m; exact mask_part _ _, fun u m b mb => by
    simp at m mb; subst m mb
    intro c t f e
    rw [mask_at, if_pos rfl] at e
    cases hk : w.heap[g]? <;> rw [hk] at e <;> cases e⟩
/-- one block alone -/
def single (w : World) (b : Nat) : World := { w with heap := w.heap.mapIdx fun i o => if i = b then o else .coro none }
theorem single_at (w : World) (g k : Nat) : (single w g).heap[k]? = if k = g then w.heap[k]? else (w.heap[k]?).map (fun _ => .coro none) := by
  simp only [single, Array.getElem?_mapIdx]
  split <;> cases w.heap[k]? <;> simp_all
theorem single_part (w : World) (g : Nat) : Part (single w g) w := by
  refine ⟨by simp [single], fun k c t f h => ?_, fun k es n h => ?_⟩
  all_goals
    rw [single_at] at h
    split at h
    · exact h
    · cases hk : w.heap[k]? <;> rw [hk] at h <;> cases h
/-- no map at b -/
def VoidM (u : World) (b : Nat) : Prop := ∀ (es : Array MapEntry) (n : Nat), u.heap[b]? ≠ some (Obj.map es n)
theorem voidM_past {u : World} {k : Nat} (h : u.heap.size ≤ k) : VoidM u k := fun es n e => by rw [Array.getElem?_eq_none h] at e; cases e
theorem voidM_single {w : World} {b k : Nat} (h : k ≠ b) : VoidM (single w b) k := fun es n e => by
  rw [single_at, if_neg h] at e
  cases hk : w.heap[k]? <;> rw [hk] at e <;> cases e
theorem Ctx.newMap (h : Ctx W0 og L us w) (es : Array MapEntry) (n : Nat) : Ctx W0 og L (single (w.alloc (.map es n)) w.heap.size :: us) (w.alloc (.map es n)) := by
  have k := h.grow ((Below.refl _ w).alloc (Nat.le_refl _) (.map es n))
  refine ⟨k.below, k.box, k.dis, fun u m => ?_, fun u m b mb => ?_⟩
  · rcases List.mem_cons.1 m with rfl | m
    · exact single_part _ _
    · exact k.sub u m
  · rcases List.mem_cons.1 m with rfl | m
    · intro c t f e
      rw [single_at] at e
      split at e
      · rename_i e1
        have := (Array.getElem?_eq_some_iff.1 (h.box b mb).2).1
        omega
      · cases hk : (w.alloc (.map es n)).heap[b.g]? <;> rw [hk] at e <;> cases e
    · exact k.void u m b mb
theorem Ctx.setMap (h : Ctx W0 og L us w) {us' : List World} (hs : ∀ u ∈ us', u ∈ us) {b : Nat} {es : Array MapEntry} {n : Nat} (hm : w.heap[b]? = some (.map es n)) (hb : W0.heap.size ≤ b) (hv : ∀ u ∈ us', VoidM u b) (es' : Array MapEntry) (n' : Nat) :
    Ctx W0 og L (single { w with heap := w.heap.setIfInBounds b (.map es' n') } b :: us') { w with heap := w.heap.setIfInBounds b (.map es' n') } := by
  have hlt : b < w.heap.size := (Array.getElem?_eq_some_iff.1 hm).1
  have hother : ∀ k, k ≠ b → (w.heap.setIfInBounds b (.map es' n'))[k]? = w.heap[k]? := fun k hk => by rw [Array.getElem?_setIfInBounds, if_neg (fun e => hk e.symm)]
  refine ⟨⟨h.below.os, h.below.tape, h.below.output, by simpa using h.below.size, fun k hk hn => (hother k (by omega)).trans (h.below.block k hk hn)⟩, fun c mc => ⟨(h.box c mc).1, ?_⟩, h.dis, fun u m => ?_, fun u m c mc => ?_⟩
  · refine (hother _ (fun e => ?_)).trans (h.box c mc).2
    have := (h.box c mc).2
    rw [e, hm] at this
    cases this
  · rcases List.mem_cons.1 m with rfl | m1
    · exact single_part _ _
    · have hu := h.sub u (hs u m1)
      refine ⟨by simpa using hu.size, fun k c t f e => ?_, fun k es0 n0 e => ?_⟩
      · have := hu.at_ k c t f e
        refine (hother k (fun e1 => ?_)).trans this
        subst e1
        rw [hm] at this
        cases this
      · have := hu.map_ k es0 n0 e
        refine (hother k (fun e1 => ?_)).trans this
        subst e1
        exact hv u m1 _ _ e
  · rcases List.mem_cons.1 m with rfl | m
    · intro cc t f e
      rw [single_at] at e
      split at e
      · rename_i e1
        have h2 := (h.box c mc).2
        rw [e1, hm] at h2
        cases h2
      · cases hk : ({ w with heap := w.heap.setIfInBounds b (.map es' n') } : World).heap[c.g]? <;> rw [hk] at e <;> cases e
    · exact h.void u (hs u m) c mc
theorem Ctx.at_ (h : Ctx W0 og L us w) {u : World} (m : Lies us u) : Part u w := h.sub u m.mem
end
/-! ### Operations on the call's variables -/
/-- a struct's type, with its zero -/
structure TF (e : TypeId) (z : List Value) : Prop where
  info : (Try.prog.info? e).map (fun i => (i.zero, i.size)) = some (some (.agg z.toArray), z.length)
  row : (Try.prog.underlying e).map (·.isRow) = some true
/-- the type of a variable of one cell -/
structure TS (e : TypeId) : Prop where
  size : (Try.prog.info? e).map (·.size) = some 1
  row : (Try.prog.underlying e).map (·.isRow) = some false
section
variable {W0 w : World} {og : Option Nat} {L : List Bx} {us : List World} {ops : Array Oper} {rest : List Oper} {Q : Exit → Act → World → Prop} {l : List Value} {ds : List Deferred}
theorem put_list (l : List Value) (ds : List Deferred) (d : Nat) (v : Value) : (⟨l.toArray, ds⟩ : Act).put (some d) v = ⟨(setN l d v).toArray, ds⟩ := by
  simp [Act.put, setN_eq]
theorem eval_list {l : List Value} {ds : List Deferred} {n : Nat} {v : Value} (h : getN l n = some v) : (⟨l.toArray, ds⟩ : Act).eval (.tmp n) = v := by
  rw [getN_eq] at h
  simp [Act.eval, h]
def atN : List Value → Nat → Value
  | [], _ => undef
  | x :: _, 0 => x
  | _ :: l, n + 1 => atN l n
def argN (l : List Value) : Operand → Value
  | .tmp n => atN l n
  | .const v => v
  | .global g => .pointer (some ⟨g, 0, none⟩)
  | .func f => .func (.func f) #[] #[]
def argsN (l : List Value) : List Operand → List Value
  | [] => []
  | x :: r => argN l x :: argsN l r
theorem atN_eq : ∀ (l : List Value) (n : Nat), (l.toArray).getD n undef = atN l n
  | [], n => rfl
  | x :: l, 0 => rfl
  | x :: l, n + 1 => by
    have := atN_eq l n
    simp only [atN, ← this, Array.getD_eq_getD_getElem?, List.getElem?_toArray, List.getElem?_cons_succ]
theorem argN_eq (l : List Value) (ds : List Deferred) (x : Operand) : (⟨l.toArray, ds⟩ : Act).eval x = argN l x := by
  cases x <;> first | exact atN_eq l _ | rfl
theorem argsN_map (l : List Value) (ds : List Deferred) : ∀ (xs : List Operand), xs.map (⟨l.toArray, ds⟩ : Act).eval = argsN l xs
  | [] => rfl
  | x :: r => by rw [List.map_cons, argsN_map l ds r, argN_eq]; rfl
theorem argsN_eq (l : List Value) (ds : List Deferred) (xs : List Operand) : xs.toArray.map (⟨l.toArray, ds⟩ : Act).eval = (argsN l xs).toArray := by
  rw [List.map_toArray, argsN_map]
theorem wpc_box (hc : Ctx W0 og L us w) {d e n : Nat} {ty : TypeId} {pos : String} {after : Array Edge} {v : Value} {cs : List Value} (hx : getN l n = some v) (hv : v.cells = cs.toArray)
    (h : ∀ g w', Ctx W0 og (snocN L ⟨g, e, cs⟩) us w' → wpList Try.prog ops Q rest ⟨(setN l d (.pointer (some ⟨g, 0, none⟩))).toArray, ds⟩ w') :
    wpList Try.prog ops Q (⟨some d, .box e (.tmp n), ty, pos, after, none⟩ :: rest) ⟨l.toArray, ds⟩ w :=
  wpList_plain rfl fun K hK => by
    unfold Oper.wp execOp
    simp only [Instr.box, newVar, newRow, eval_list hx, hv]
    have := h w.heap.size _ (hc.alloc e cs)
    rw [← put_list] at this
    exact hK _ _ this
theorem wpc_alloc (hc : Ctx W0 og L us w) {d e : Nat} {ty : TypeId} {pos : String} {after : Array Edge} {z : List Value} (ht : TF e z)
    (h : ∀ g w', Ctx W0 og (snocN L ⟨g, e, z⟩) us w' → wpList Try.prog ops Q rest ⟨(setN l d (.pointer (some ⟨g, 0, none⟩))).toArray, ds⟩ w') :
    wpList Try.prog ops Q (⟨some d, .alloc e, ty, pos, after, none⟩ :: rest) ⟨l.toArray, ds⟩ w :=
  wpList_plain rfl fun K hK => by
    have hi := ht.info
    cases hq : Try.prog.info? e with
    | none => rw [hq] at hi; cases hi
    | some i =>
      rw [hq] at hi
      simp only [Option.map_some, Option.some.injEq, Prod.mk.injEq] at hi
      unfold Oper.wp execOp
      simp only [Instr.alloc, zeroValue, typeInfo, program, Sem.run_bind, Sem.run, Result.andThen_ok, hq, hi.1, newVar, newRow, newObj, Value.cells, pure, Sem.bind, bind]
      have := h w.heap.size _ (hc.alloc e z)
      rw [← put_list] at this
      exact hK _ _ this
theorem wpc_load (hc : Ctx W0 og L us w) {d n : Nat} {e ty : TypeId} {pos : String} {after : Array Edge} {z : List Value} (ht : TF e z) {g o i : Nat} {t : TypeId} {cs : List Value} (hx : getN l n = some (.pointer (some ⟨g, o, none⟩)))
    (hb : Has L g t cs i) (hl : Nat.ble (o + z.length) cs.length = true)
    (h : wpList Try.prog ops Q rest ⟨(setN l d (.agg (takeN z.length (dropN o cs)).toArray)).toArray, ds⟩ w) :
    wpList Try.prog ops Q (⟨some d, .load e (.tmp n), ty, pos, after, none⟩ :: rest) ⟨l.toArray, ds⟩ w := by
  obtain ⟨dd, hu, hd⟩ := Option.map_eq_some_iff.1 ht.row
  have hl := Nat.le_of_ble_eq_true hl
  have hlen : (takeN z.length (dropN o cs)).length = z.length := by rw [takeN_eq, dropN_eq]; simp; omega
  refine wpList_load_mid rfl e _ rfl g o (eval_list hx) (takeN z.length (dropN o cs)) dd (fun j v hj => ?_) hu hd ?_ (by rw [put_list]; exact h)
  · rw [hc.cell hb, ← hj, takeN_eq, dropN_eq]
    have hj' := (List.getElem?_eq_some_iff.1 hj).1
    rw [hlen] at hj'
    rw [List.getElem?_take_of_lt hj', List.getElem?_drop]
  · have hi := ht.info
    cases hq : Try.prog.info? e with
    | none => rw [hq] at hi; cases hi
    | some i => rw [hq] at hi; simp at hi; simp [hi.2, hlen]
theorem run_load1 {e : TypeId} (ht : TS e) {g o : Nat} {v : Value} (hv : w.cell? ⟨g, o, none⟩ = some v) : (Instr.loadAt e (.pointer (some ⟨g, o, none⟩))).run Try.prog w = .ok v w := by
  obtain ⟨dd, hu, hd⟩ := Option.map_eq_some_iff.1 ht.row
  have hagg : (isAgg e).run Try.prog w = .ok false w := by
    unfold isAgg
    rw [Sem.run_bind, run_underlying hu w]
    cases dd <;> simp_all
  simp [Instr.loadAt, Instr.sureAddr, loadVar, Sem.run_bind, hagg, run_load, hv]
theorem wpc_load1 (hc : Ctx W0 og L us w) {d n : Nat} {e ty : TypeId} {pos : String} {after : Array Edge} (ht : TS e) {g o i : Nat} {t : TypeId} {cs : List Value} {v : Value} (hx : getN l n = some (.pointer (some ⟨g, o, none⟩)))
    (hb : Has L g t cs i) (hv : getN cs o = some v)
    (h : wpList Try.prog ops Q rest ⟨(setN l d v).toArray, ds⟩ w) :
    wpList Try.prog ops Q (⟨some d, .load e (.tmp n), ty, pos, after, none⟩ :: rest) ⟨l.toArray, ds⟩ w := by
  have hv' : w.cell? ⟨g, o, none⟩ = some v := by rw [hc.cell hb, ← getN_eq]; exact hv
  refine wpList_plain rfl fun K hK => ?_
  unfold Oper.wp execOp
  simp only [eval_list hx, Sem.run_bind, run_load1 ht hv', Result.andThen_ok, Sem.run_pure]
  rw [← put_list] at h
  exact hK _ _ h
theorem there_of (hc : Ctx W0 og L us w) {g o i n : Nat} {t : TypeId} {cs : List Value} (hb : Has L g t cs i) (hl : o + n ≤ cs.length) : w.there g o n := fun j hj => by
  refine ⟨?_, hc.free hb _⟩
  rw [hc.cell hb, List.getElem?_eq_getElem (by omega)]; rfl
theorem wpc_store (hc : Ctx W0 og L us w) {p x : Nat} {e ty : TypeId} {pos : String} {after : Array Edge} {z : List Value} (ht : TF e z) {g o i : Nat} {t : TypeId} {cs vs : List Value} (hx : getN l p = some (.pointer (some ⟨g, o, none⟩)))
    (hy : getN l x = some (.agg vs.toArray)) (hb : Has L g t cs i) (hz : Nat.beq vs.length z.length = true) (hl : Nat.ble (o + vs.length) cs.length = true) (h1 : vs.all (·.oneCell') = true)
    (h : ∀ w', Ctx W0 og (setN L i ⟨g, t, spliceN cs o vs⟩) us w' → wpList Try.prog ops Q rest ⟨l.toArray, ds⟩ w') :
    wpList Try.prog ops Q (⟨none, .store e (.tmp p) (.tmp x), ty, pos, after, none⟩ :: rest) ⟨l.toArray, ds⟩ w := by
  have hl := Nat.le_of_ble_eq_true hl
  have hz := Nat.eq_of_beq_eq_true hz
  refine wpList_store_mid rfl e _ _ rfl g o vs.toArray (eval_list hx) (eval_list hy) (there_of hc hb (by simpa using hl)) ?_ ?_ (h _ (by simpa using hc.store hb o vs hl))
  · have hi := ht.info
    cases hq : Try.prog.info? e with
    | none => rw [hq] at hi; cases hi
    | some i => rw [hq] at hi; simp at hi; simp [hi.2, hz]
  · simpa using h1
theorem wpc_store1 (hc : Ctx W0 og L us w) {p : Nat} {x : Operand} {e ty : TypeId} {pos : String} {after : Array Edge} (ht : TS e) {g o i : Nat} {t : TypeId} {cs : List Value} (hx : getN l p = some (.pointer (some ⟨g, o, none⟩)))
    (hb : Has L g t cs i) (hl : Nat.blt o cs.length = true) (h1 : (argN l x).oneCell' = true)
    (h : ∀ w', Ctx W0 og (setN L i ⟨g, t, setN cs o (argN l x)⟩) us w' → wpList Try.prog ops Q rest ⟨l.toArray, ds⟩ w') :
    wpList Try.prog ops Q (⟨none, .store e (.tmp p) x, ty, pos, after, none⟩ :: rest) ⟨l.toArray, ds⟩ w := by
  have hy := argN_eq l ds x
  generalize argN l x = v at *
  have hl : o < cs.length := Nat.lt_of_lt_of_le (Nat.lt_succ_self o) (Nat.le_of_ble_eq_true hl)
  have hsp : spliceN cs o [v] = setN cs o v := by
    apply List.ext_getElem?
    intro j
    rw [spliceN_get _ _ _ _ (by simp; omega), setN_eq, List.getElem?_set]
    by_cases hj : o = j
    · subst hj; simp [hl]
    · rw [if_neg (by simp; omega), if_neg hj]
  have hk := hc.store hb o [v] (by simp; omega)
  rw [hsp] at hk
  refine wpList_plain rfl fun K hK => ?_
  have hi := ht.size
  have hs : (sizeOf e).run Try.prog w = .ok 1 w := by
    cases hq : Try.prog.info? e with
    | none => rw [hq] at hi; cases hi
    | some i => rw [hq] at hi; simp at hi; simp [sizeOf, typeInfo, hq, hi]
  have hcell : ∃ y, w.cell? ⟨g, o, none⟩ = some y := ⟨_, by rw [hc.cell hb, List.getElem?_eq_getElem hl]⟩
  obtain ⟨y, hy'⟩ := hcell
  have hfr := hc.free hb o
  have hcs : v.cells = #[v] := by cases v <;> first | rfl | (simp [Value.oneCell'] at h1)
  have := run_storeCells_cells (P := Try.prog) g o [v] 0 w (fun j hj => by simp at hj; subst hj; simp [hy']) (fun j hj => by simp at hj; subst hj; simpa using hfr) (fun u hu => by simp at hu; subst hu; exact h1)
  simp only [Nat.add_zero] at this
  unfold Oper.wp execOp
  simp only [eval_list hx, hy, Instr.storeAt, Instr.sureAddr, storeVar, Sem.run_bind, Sem.run_pure, Result.andThen_ok, hs, hcs, List.size_toArray, List.length_cons, List.length_nil]
  simp [this]
  exact hK _ _ (h _ hk)
end
/-! ### A list that is written out -/
def flatN : List Value → List Value
  | [] => []
  | v :: r => appN v.cells.toList (flatN r)
where appN : List Value → List Value → List Value
  | [], b => b
  | x :: a, b => x :: appN a b
theorem appN_eq : ∀ (a b : List Value), flatN.appN a b = a ++ b
  | [], _ => rfl
  | x :: a, b => by simp [flatN.appN, appN_eq a b]
def enumN : Nat → List Value → List (Nat × Value)
  | _, [] => []
  | k, v :: r => (k, v) :: enumN (k + 1) r
theorem foldl_set (off : Nat) : ∀ (l : List Value) (k : Nat) (cells : Array Value), off + k + l.length ≤ cells.size →
    (((l.zipIdx k).toArray).foldl (fun cs (p : Value × Nat) => cs.setIfInBounds (off + p.2) p.1) cells) = (cells.toList.take (off + k) ++ l ++ cells.toList.drop (off + k + l.length)).toArray
  | [], k, cells, h => by simp
  | v :: l, k, cells, h => by
    simp only [List.length_cons] at h
    have ih := foldl_set off l (k + 1) (cells.setIfInBounds (off + k) v) (by simp; omega)
    simp only [List.zipIdx_cons, List.foldl_toArray, List.foldl_cons] at ih ⊢
    rw [ih]
    congr 1
    apply List.ext_getElem?
    intro j
    have hs : off + k < cells.size := by omega
    simp only [Array.toList_setIfInBounds, List.getElem?_append, List.length_append, List.length_take, List.length_set, Array.length_toList, List.getElem?_drop, List.length_cons]
    rw [show min (off + (k + 1)) cells.size = off + k + 1 by omega, show min (off + k) cells.size = off + k by omega]
    by_cases h1 : j < off + k
    · rw [if_pos (by omega), if_pos (by omega), if_pos (by omega), if_pos (by omega), List.getElem?_take_of_lt (by omega), List.getElem?_take_of_lt (by omega), List.getElem?_set, if_neg (by omega)]
    · by_cases h2 : j = off + k
      · subst h2
        rw [if_pos (by omega), if_pos (by omega), if_pos (by omega), if_neg (by omega), List.getElem?_take_of_lt (by omega), List.getElem?_set]
        simp [hs]
      · by_cases h3 : j < off + k + 1 + l.length
        · rw [if_pos (by omega), if_neg (by omega), if_pos (by omega), if_neg (by omega)]
          rw [show j - (off + k) = (j - (off + k + 1)) + 1 by omega]
          simp
        · rw [if_neg (by omega), if_neg (by omega), List.getElem?_set, if_neg (by omega)]
          congr 1
          omega
theorem fill_seq (size : Nat) : ∀ (vs : List Value) (k : Nat) (A B : List Value), A.length = k * size → B.length = vs.length * size → (∀ v ∈ vs, v.cells.size = size) →
    Instr.fill (fun i => some (i * size, size)) (A ++ B).toArray (enumN k vs) = some (A ++ flatN vs).toArray
  | [], k, A, B, hA, hB, _ => by
    have : B = [] := List.eq_nil_of_length_eq_zero (by simpa using hB)
    subst this
    simp [enumN, Instr.fill, flatN]
  | v :: vs, k, A, B, hA, hB, hv => by
    have h0 := hv v (List.mem_cons_self ..)
    simp only [List.length_cons, Nat.succ_mul] at hB
    have hg : ¬ (v.cells.size ≠ size ∨ k * size + v.cells.size > (A ++ B).toArray.size) := by simp; omega
    simp only [enumN, Instr.fill, Bool.or_eq_true, decide_eq_true_eq]
    rw [if_neg hg]
    have hz : v.cells.zipIdx = (v.cells.toList.zipIdx 0).toArray := Array.ext' (by simp)
    have hf := foldl_set (k * size) v.cells.toList 0 (A ++ B).toArray (by simp; omega)
    rw [hz]
    have e1 : ((v.cells.toList.zipIdx 0).toArray).foldl (fun cs (p : Value × Nat) => cs.setIfInBounds (k * size + p.2) p.1) (A ++ B).toArray = ((A ++ v.cells.toList) ++ B.drop size).toArray := by
      rw [hf]
      simp only [Nat.add_zero, Array.length_toList, h0]
      congr 1
      rw [List.take_append_of_le_length (by omega), List.take_of_length_le (by omega), List.drop_append, List.drop_eq_nil_of_le (by omega), hA]
      simp
    rw [e1]
    rw [fill_seq size vs (k + 1) (A ++ v.cells.toList) (B.drop size) (by simp [hA, h0, Nat.succ_mul]) (by simp; omega) (fun u m => hv u (List.mem_cons_of_mem _ m))]
    simp [flatN, appN_eq]
/-- a slice's type: of the elements e, each of so many cells -/
structure SL (t e : TypeId) (z : List Value) : Prop where
  und : Try.prog.underlying t = some (.slice e)
  info : (Try.prog.info? e).map (fun i => (i.zero.map (·.cells), i.size)) = some (some z.toArray, z.length)
section
variable {W0 w : World} {og : Option Nat} {L : List Bx} {us : List World} {ops : Array Oper} {rest : List Oper} {Q : Exit → Act → World → Prop} {l : List Value} {ds : List Deferred}
theorem SL.parts {t e : TypeId} {z : List Value} (h : SL t e z) : ∃ i zv, Try.prog.info? e = some i ∧ i.zero = some zv ∧ zv.cells = z.toArray ∧ i.size = z.length := by
  have hi := h.info
  cases hq : Try.prog.info? e with
  | none => rw [hq] at hi; cases hi
  | some i =>
    rw [hq] at hi
    simp only [Option.map_some, Option.some.injEq, Prod.mk.injEq] at hi
    obtain ⟨zv, hzv, hzc⟩ := Option.map_eq_some_iff.1 hi.1
    exact ⟨i, zv, rfl, hzv, hzc, hi.2⟩
theorem slice_run {t e n : Nat} {z : List Value} {parts : List (Nat × Operand)} (ht : SL t e z) (hz : Nat.blt 0 z.length = true)
    (hp : parts.map (fun p => (p.1, argN l p.2)) = enumN 0 (argsN l (parts.map (·.2)))) (hn : parts.length = n) (hs : (argsN l (parts.map (·.2))).all (fun v => v.cells.size == z.length) = true) (hb : Nat.ble (n * z.length) 200 = true) :
    (Instr.buildSlice t n (parts.toArray.map (fun (p : Nat × Operand) => (p.1, (⟨l.toArray, ds⟩ : Act).eval p.2)))).run Try.prog w = .ok (.slice (some ⟨w.heap.size, 0, none⟩) n n) (w.alloc (.cells (flatN (argsN l (parts.map (·.2)))).toArray e)) := by
  obtain ⟨i, zv, hq, hzv, hzc, hi2⟩ := ht.parts
  have hbb := Nat.le_of_ble_eq_true hb
  clear hb
  have hz : 0 < z.length := Nat.le_of_ble_eq_true hz
  have hlen : (argsN l (parts.map (·.2))).length = n := by
    rw [← hn, ← argsN_map l ds]; simp
  have hsz : ∀ v ∈ argsN l (parts.map (·.2)), v.cells.size = z.length := fun v m => by simpa using List.all_eq_true.1 hs v m
  have hfill := fill_seq z.length (argsN l (parts.map (·.2))) 0 [] (((Array.range (n * z.length)).map (fun x => z.toArray[x % z.toArray.size]!)).toList) (by simp) (by simp [hlen]) hsz
  have hparts : (parts.toArray.map (fun (p : Nat × Operand) => (p.1, (⟨l.toArray, ds⟩ : Act).eval p.2))).toList = enumN 0 (argsN l (parts.map (·.2))) := by
    rw [← hp]; simp [argN_eq]
  simp only [List.nil_append, Array.toArray_toList] at hfill
  have hn0 : n = 0 → parts = [] := fun e => List.eq_nil_of_length_eq_zero (by omega)
  have hsize : (sizeOf e).run Try.prog w = .ok z.length w := by simp [sizeOf, typeInfo, hq, hi2]
  have hzero : (zeroValue e).run Try.prog w = .ok zv w := by simp [zeroValue, typeInfo, hq, hzv]
  have h0 : ¬ (n * z.length > 2 ^ 24) := by
    have : 200 < 2 ^ 24 := by decide
    omega
  unfold Instr.buildSlice
  rw [Sem.run_bind, run_underlying ht.und w]
  simp only [Result.andThen_ok]
  rw [Sem.run_bind, hsize]
  simp only [Result.andThen_ok]
  rw [if_neg h0]
  by_cases hz0 : n = 0
  · have := hn0 hz0
    subst this
    subst hz0
    simp [Sem.run_bind, argsN, flatN, enumN, Instr.fill, newRow, newObj, Sem.run, show Array.range 0 = #[] from rfl]
  · have hne : ¬ n * z.length = 0 := Nat.mul_ne_zero hz0 (by omega)
    rw [if_neg hne]
    simp only [Sem.run_bind, hzero, Result.andThen_ok, Sem.run_pure, hzc, hparts]
    rw [show (fun x => (z.toArray)[x % z.toArray.size]!) = (fun x => z.toArray[x % z.toArray.size]!) from rfl] at hfill
    rw [hfill]
    simp only [Sem.run_bind, newRow, newObj, Sem.run, Result.andThen_ok, Sem.run_pure]
    rfl
theorem wpc_slice (hc : Ctx W0 og L us w) {d t e n : Nat} {ty : TypeId} {pos : String} {after : Array Edge} {z : List Value} {parts : List (Nat × Operand)} (ht : SL t e z) (hz : Nat.blt 0 z.length = true)
    (hp : parts.map (fun p => (p.1, argN l p.2)) = enumN 0 (argsN l (parts.map (·.2)))) (hn : parts.length = n) (hs : (argsN l (parts.map (·.2))).all (fun v => v.cells.size == z.length) = true) (hb : Nat.ble (n * z.length) 200 = true)
    (h : ∀ g w', Ctx W0 og (snocN L ⟨g, e, flatN (argsN l (parts.map (·.2)))⟩) us w' → wpList Try.prog ops Q rest ⟨(setN l d (.slice (some ⟨g, 0, none⟩) n n)).toArray, ds⟩ w') :
    wpList Try.prog ops Q (⟨some d, .buildSlice t n parts.toArray, ty, pos, after, none⟩ :: rest) ⟨l.toArray, ds⟩ w := by
  have hrun := slice_run (ds := ds) (w := w) ht hz hp hn hs hb
  have h := h w.heap.size _ (hc.alloc e _)
  rw [← put_list] at h
  refine wpList_plain rfl fun K hK => ?_
  unfold Oper.wp execOp
  simp only [Sem.run_bind]
  rw [show (parts.toArray.map fun x => match x with | (i, x) => (i, (⟨l.toArray, ds⟩ : Act).eval x)) = parts.toArray.map (fun (p : Nat × Operand) => (p.1, (⟨l.toArray, ds⟩ : Act).eval p.2)) from rfl, hrun]
  exact hK _ _ h
end
/-! ### A region that draws its order -/
def Boxes (Lm : List Bx) (w : World) : Prop := ∀ b ∈ Lm, w.heap[b.g]? = some (.cells b.cs.toArray b.t (0, 0))
inductive Among : List Bx → List Bx → Prop
  | nil {L} : Among [] L
  | cons {g t cs Lm L i} (h : Has L g t cs i) (k : Among Lm L) : Among (⟨g, t, cs⟩ :: Lm) L
theorem Among.mem {Lm L : List Bx} (h : Among Lm L) : ∀ b ∈ Lm, b ∈ L := by
  induction h with
  | nil => exact fun _ h => by simp at h
  | cons h _ ih => exact fun b m => by rcases List.mem_cons.1 m with rfl | m; · exact h.mem
                                       · exact ih b m
/-- a cut behind a piece of code -/
def Only (F : Act → World → Prop) (Q : Exit → Act → World → Prop) : Exit → Act → World → Prop
  | .normal, a, w => F a w
  | e, a, w => Q e a w
theorem dr_cut {c : Code} {l : List Value} {ds : List Deferred} {w : World} {Q : Exit → Act → World → Prop} (F : List Value → Act → World → Prop) (h : c.wp Try.prog (Only (F l) Q) ⟨l.toArray, ds⟩ w) (k : ∀ a w, F l a w → Q .normal a w) : c.wp Try.prog Q ⟨l.toArray, ds⟩ w :=
  Code.wp_mono (fun e a w h => by cases e <;> first | exact k _ _ h | exact h) h
theorem Ctx.sublist {W0 w : World} {og : Option Nat} {L L' : List Bx} {us : List World} (h : Ctx W0 og L us w) (p : L'.Sublist L) : Ctx W0 og L' us w :=
  ⟨h.below, fun b m => h.box b (p.mem m), (p.map _).nodup h.dis, h.sub, fun u m b mb => h.void u m b (p.mem mb)⟩
theorem Ctx.perm {W0 w : World} {og : Option Nat} {L L' : List Bx} {us : List World} (h : Ctx W0 og L us w) (p : L.Perm L') : Ctx W0 og L' us w :=
  ⟨h.below, fun b m => h.box b (p.mem_iff.2 m), (p.map _).nodup_iff.1 h.dis, h.sub, fun u m b mb => h.void u m b (p.mem_iff.2 mb)⟩
section
variable {W0 w : World} {og : Option Nat} {L Lm : List Bx} {us : List World} {ops : Array Oper} {Q : Exit → Act → World → Prop} {l : List Value} {ds : List Deferred} {fuel : Nat} {listed : Array Bool}
theorem Ctx.boxes (hc : Ctx W0 og L us w) (h : Among Lm L) : Boxes Lm w := fun b m => (hc.box b (h.mem b m)).2
theorem dr_start (hc : Ctx W0 og L us w) {id n : Nat} (hn : ops.size = n) (hm : Among Lm L) (h : ∀ w', Ctx W0 og L us w' → Boxes Lm w' → wpAnyH Try.prog .any ops Q (Boxes Lm) n (Array.replicate n false) ⟨l.toArray, ds⟩ w') :
    (Code.region id ops true).wp Try.prog Q ⟨l.toArray, ds⟩ w :=
  wp_region_held_drew (by kernel_rfl) (hc.drew.boxes hm) (fun hS => by rw [hn]; exact h _ hc.drew hS)
theorem dr_load (i : Nat) {d n : Nat} {e ty : TypeId} {pos : String} {after : Array Edge} (hi : ops[i]? = some ⟨some d, .load e (.tmp n), ty, pos, after, none⟩) (hs : Region.noSelect ops = true) (hf : Region.free .any ops listed i = true)
    (hr : (Region.ready .any ops listed).contains i = true) {z : List Value} (ht : TF e z) {g o j : Nat} {t : TypeId} {cs : List Value} (hx : getN l n = some (.pointer (some ⟨g, o, none⟩)))
    (hb : Has Lm g t cs j) (hl : Nat.ble (o + z.length) cs.length = true) (hS : Boxes Lm w)
    (hQ2 : ∀ v c a w, Q (.panic c) (a.put (some d) v) w → Q (.panic c) a w)
    (h : wpAnyH Try.prog .any ops Q (Boxes Lm) fuel (listed.setIfInBounds i true) ⟨(setN l d (.agg (takeN z.length (dropN o cs)).toArray)).toArray, ds⟩ w) :
    wpAnyH Try.prog .any ops Q (Boxes Lm) (fuel + 1) listed ⟨l.toArray, ds⟩ w := by
  obtain ⟨dd, hu, hd⟩ := Option.map_eq_some_iff.1 ht.row
  have hl := Nat.le_of_ble_eq_true hl
  have hlen : (takeN z.length (dropN o cs)).length = z.length := by rw [takeN_eq, dropN_eq]; simp; omega
  refine wpAnyH_take hi hs hf hr (hQ2 _) (yieldsIf_load_mid rfl e _ rfl g o (eval_list hx) (takeN z.length (dropN o cs)) dd (fun w' hw' j v hj => ?_) hu hd ?_) hS (by rw [put_list]; exact h)
  · have := hw' _ hb.mem
    have hj' := (List.getElem?_eq_some_iff.1 hj).1
    rw [hlen] at hj'
    rw [cell_of_row w' g (o + j) _ _ _ this, ← hj, takeN_eq, dropN_eq, List.getElem?_take_of_lt hj', List.getElem?_drop]
    simp
  · have hi := ht.info
    cases hq : Try.prog.info? e with
    | none => rw [hq] at hi; cases hi
    | some i => rw [hq] at hi; simp at hi; simp [hi.2, hlen]
theorem dr_load1 (i : Nat) {d n : Nat} {e ty : TypeId} {pos : String} {after : Array Edge} (hi : ops[i]? = some ⟨some d, .load e (.tmp n), ty, pos, after, none⟩) (hs : Region.noSelect ops = true) (hf : Region.free .any ops listed i = true)
    (hr : (Region.ready .any ops listed).contains i = true) (ht : TS e) {g o j : Nat} {t : TypeId} {cs : List Value} {v : Value} (hx : getN l n = some (.pointer (some ⟨g, o, none⟩)))
    (hb : Has Lm g t cs j) (hv : getN cs o = some v) (hS : Boxes Lm w)
    (hQ2 : ∀ v c a w, Q (.panic c) (a.put (some d) v) w → Q (.panic c) a w)
    (h : wpAnyH Try.prog .any ops Q (Boxes Lm) fuel (listed.setIfInBounds i true) ⟨(setN l d v).toArray, ds⟩ w) :
    wpAnyH Try.prog .any ops Q (Boxes Lm) (fuel + 1) listed ⟨l.toArray, ds⟩ w := by
  refine wpAnyH_take hi hs hf hr (hQ2 _) (.inl ⟨rfl, fun w' hw' => ?_⟩) hS (by rw [put_list]; exact h)
  have hv' : w'.cell? ⟨g, o, none⟩ = some v := by
    have := hw' _ hb.mem
    rw [cell_of_row w' g o _ _ _ this, ← hv, getN_eq]
    simp
  unfold execOp
  simp only [eval_list hx, Sem.run_bind, run_load1 ht hv', Result.andThen_ok, Sem.run_pure]
theorem dr_move (i : Nat) {d n : Nat} {ty : TypeId} {pos : String} {after : Array Edge} (hi : ops[i]? = some ⟨some d, .move (.tmp n), ty, pos, after, none⟩) (hs : Region.noSelect ops = true) (hf : Region.free .any ops listed i = true)
    (hr : (Region.ready .any ops listed).contains i = true) {v : Value} (hx : getN l n = some v) (hS : Boxes Lm w)
    (hQ2 : ∀ v c a w, Q (.panic c) (a.put (some d) v) w → Q (.panic c) a w)
    (h : wpAnyH Try.prog .any ops Q (Boxes Lm) fuel (listed.setIfInBounds i true) ⟨(setN l d v).toArray, ds⟩ w) :
    wpAnyH Try.prog .any ops Q (Boxes Lm) (fuel + 1) listed ⟨l.toArray, ds⟩ w := by
  refine wpAnyH_take hi hs hf hr (hQ2 _) (.inl ⟨rfl, fun w' hw' => ?_⟩) hS (by rw [put_list]; exact h)
  unfold execOp
  simp only [eval_list hx, Sem.run_pure]
/-- an operation that yields the same in every world -/
theorem dr_pure (i : Nat) {o : Oper} {d : Nat} (hi : ops[i]? = some o) (hd : o.dst = some d) (hs : Region.noSelect ops = true) (hf : Region.free .any ops listed i = true)
    (hr : (Region.ready .any ops listed).contains i = true) (hw : Region.wanted o (yielded ops (⟨l.toArray, ds⟩ : Act).tmps) = true) (hS : Boxes Lm w) {v : Value}
    (hv : ∀ w', (execOp (⟨l.toArray, ds⟩ : Act).eval o).run Try.prog w' = .ok (.value v) w')
    (hQ2 : ∀ v c a w, Q (.panic c) (a.put (some d) v) w → Q (.panic c) a w)
    (h : wpAnyH Try.prog .any ops Q (Boxes Lm) fuel (listed.setIfInBounds i true) ⟨(setN l d v).toArray, ds⟩ w) :
    wpAnyH Try.prog .any ops Q (Boxes Lm) (fuel + 1) listed ⟨l.toArray, ds⟩ w := by
  refine wpAnyH_take hi hs hf hr (by rw [hd]; exact hQ2 _) (.inl ⟨hw, fun w' hw' => hv w'⟩) hS (by rw [hd, put_list]; exact h)
theorem dr_skip (i : Nat) {o : Oper} {d : Nat} (hi : ops[i]? = some o) (hd : o.dst = some d) (hs : Region.noSelect ops = true) (hf : Region.free .any ops listed i = true)
    (hr : (Region.ready .any ops listed).contains i = true) (hw : Region.wanted o (yielded ops (⟨l.toArray, ds⟩ : Act).tmps) = false) (hS : Boxes Lm w)
    (hQ2 : ∀ v c a w, Q (.panic c) (a.put (some d) v) w → Q (.panic c) a w)
    (h : wpAnyH Try.prog .any ops Q (Boxes Lm) fuel (listed.setIfInBounds i true) ⟨(setN l d undef).toArray, ds⟩ w) :
    wpAnyH Try.prog .any ops Q (Boxes Lm) (fuel + 1) listed ⟨l.toArray, ds⟩ w := by
  refine wpAnyH_take hi hs hf hr (by rw [hd]; exact hQ2 _) (.inr ⟨hw, rfl⟩) hS (by rw [hd, put_list]; exact h)
/-- one of those that may come up now -/
def Turn (Lm : List Bx) (ops : Array Oper) (Q : Exit → Act → World → Prop) (fuel : Nat) (listed : Array Bool) (l : List Value) (ds : List Deferred) (w : World) (i : Nat) : Prop :=
  wpOp Try.prog ops Q i (fun a' w' => Boxes Lm w' ∧ wpAnyH Try.prog .any ops Q (Boxes Lm) fuel (listed.setIfInBounds i true) a' w') ⟨l.toArray, ds⟩ w
theorem dr_one (i : Nat) (hr : Region.ready .any ops listed = [i]) (h : Turn Lm ops Q fuel listed l ds w i) : wpAnyH Try.prog .any ops Q (Boxes Lm) (fuel + 1) listed ⟨l.toArray, ds⟩ w :=
  wpAnyH_all hr (by simp) (fun j hj => by simp at hj; subst hj; exact h)
theorem dr_two (i j : Nat) (hr : Region.ready .any ops listed = [i, j]) (h : Turn Lm ops Q fuel listed l ds w i) (h' : Turn Lm ops Q fuel listed l ds w j) : wpAnyH Try.prog .any ops Q (Boxes Lm) (fuel + 1) listed ⟨l.toArray, ds⟩ w :=
  wpAnyH_all hr (by simp) (fun k hk => by simp at hk; rcases hk with rfl | rfl; · exact h
                                          · exact h')
theorem dr_three (i j m : Nat) (hr : Region.ready .any ops listed = [i, j, m]) (h : Turn Lm ops Q fuel listed l ds w i) (h' : Turn Lm ops Q fuel listed l ds w j) (h'' : Turn Lm ops Q fuel listed l ds w m) : wpAnyH Try.prog .any ops Q (Boxes Lm) (fuel + 1) listed ⟨l.toArray, ds⟩ w :=
  wpAnyH_all hr (by simp) (fun k hk => by simp at hk; rcases hk with rfl | rfl | rfl; · exact h
                                          · exact h'
                                          · exact h'')
theorem dr_done (hr : Region.ready .any ops listed = []) (h : Q .normal ⟨l.toArray, ds⟩ w) : wpAnyH Try.prog .any ops Q (Boxes Lm) fuel listed ⟨l.toArray, ds⟩ w := wpAnyH_done hr h fuel
theorem turn_step {i : Nat} {o : Oper} (hi : ops[i]? = some o) (hg : o.guard = none) (h : ∀ K : Act → World → Prop, (∀ l' w', Boxes Lm w' → wpAnyH Try.prog .any ops Q (Boxes Lm) fuel (listed.setIfInBounds i true) ⟨l', ds⟩ w' → K ⟨l', ds⟩ w') → o.wp Try.prog ⟨l.toArray, ds⟩ w K Q) : Turn Lm ops Q fuel listed l ds w i :=
  wpOp_step hi fun K' hK => by
    rw [if_pos (by simp [Region.wanted, hg])]
    exact h K' fun l' w' hb hw => hK _ _ ⟨hb, hw⟩
theorem turn_call {i : Nat} {d f : Nat} {xs : List Operand} {ats : Array TypeId} {ty : TypeId} {pos : String} {after : Array Edge} (hi : ops[i]? = some ⟨some d, .call { callee := .value (.func f), args := xs.toArray, argTypes := ats }, ty, pos, after, none⟩)
    (hf : (Try.prog.funcs[f]?).map (fun fn => (fn.name == "runtime.NumGoroutine", fn.body.isNone)) = some (false, false)) 
    (h : ∀ K : Act → World → Prop, (∀ v w', Boxes Lm w' → wpAnyH Try.prog .any ops Q (Boxes Lm) fuel (listed.setIfInBounds i true) ⟨(setN l d v).toArray, ds⟩ w' → K ⟨(setN l d v).toArray, ds⟩ w') → Calls Try.prog f (argsN l xs).toArray w (fun | .returned v, w'' => K ⟨(setN l d v).toArray, ds⟩ w'' | .panicked chain, w'' => Q (.panic chain) ⟨l.toArray, ds⟩ w'' | .outgrown, _ => LetsOut Q)) :
    Turn Lm ops Q fuel listed l ds w i :=
  turn_step hi rfl fun K hK => by
    cases hq : Try.prog.funcs[f]? with
    | none => rw [hq] at hf; cases hf
    | some fn =>
      rw [hq] at hf
      simp only [Option.map_some, Option.some.injEq, Prod.mk.injEq] at hf
      unfold Oper.wp
      rw [execOp_call_go]
      have hcall : (callFunc f (#[] ++ xs.toArray.map (⟨l.toArray, ds⟩ : Act).eval ++ #[])).run Try.prog w = .ok (.enter f (argsN l xs).toArray) w := by
        have h1 : ¬ fn.name = "runtime.NumGoroutine" := by simpa using hf.1
        have h2 := hf.2
        revert h2
        cases hbd : fn.body with
        | none => intro h2; cases h2
        | some c => intro _; rw [argsN_eq]; simp [callFunc, program, Sem.run_bind, Sem.run, hq, h1, hbd]
      rw [hcall]
      refine (h (fun a w => K a w) (fun v w' hb hw => hK _ w' hb hw)).mono ?_
      intro e w'' he
      cases e with
      | returned v => simp only [put_list]; exact he
      | panicked c => exact he
      | outgrown => exact he
theorem turn_store {i : Nat} {p x : Nat} {e ty : TypeId} {pos : String} {after : Array Edge} (hi : ops[i]? = some ⟨none, .store e (.tmp p) (.tmp x), ty, pos, after, none⟩) (hc : Ctx W0 og L us w) {z : List Value} (ht : TF e z) {g o j : Nat} {t : TypeId} {cs vs : List Value} (hx : getN l p = some (.pointer (some ⟨g, o, none⟩)))
    (hy : getN l x = some (.agg vs.toArray)) (hb : Has L g t cs j) (hz : Nat.beq vs.length z.length = true) (hl : Nat.ble (o + vs.length) cs.length = true) (h1 : vs.all (·.oneCell') = true)
    (h : ∀ w', Ctx W0 og (setN L j ⟨g, t, spliceN cs o vs⟩) us w' → Boxes Lm w' ∧ (Boxes Lm w' → wpAnyH Try.prog .any ops Q (Boxes Lm) fuel (listed.setIfInBounds i true) ⟨l.toArray, ds⟩ w')) :
    Turn Lm ops Q fuel listed l ds w i :=
  turn_step hi rfl fun K hK => by
    have hl := Nat.le_of_ble_eq_true hl
    have hz := Nat.eq_of_beq_eq_true hz
    obtain ⟨h2, h3⟩ := h _ (by simpa using hc.store hb o vs hl)
    refine wp_store_mid e _ _ rfl g o vs.toArray (eval_list hx) (eval_list hy) (there_of hc hb (by simpa using hl)) ?_ ?_ ?_
    · have hi := ht.info
      cases hq : Try.prog.info? e with
      | none => rw [hq] at hi; cases hi
      | some i => rw [hq] at hi; simp at hi; simp [hi.2, hz]
    · simpa using h1
    · exact hK _ _ (by simpa using h2) (by simpa using h3 h2)
theorem turn_alloc {i : Nat} {d e : Nat} {ty : TypeId} {pos : String} {after : Array Edge} {z : List Value} (hi : ops[i]? = some ⟨some d, .alloc e, ty, pos, after, none⟩) (hc : Ctx W0 og L us w) (ht : TF e z)
    (h : ∀ g w', Ctx W0 og (snocN L ⟨g, e, z⟩) us w' → Boxes Lm w' ∧ (Boxes Lm w' → wpAnyH Try.prog .any ops Q (Boxes Lm) fuel (listed.setIfInBounds i true) ⟨(setN l d (.pointer (some ⟨g, 0, none⟩))).toArray, ds⟩ w')) :
    Turn Lm ops Q fuel listed l ds w i :=
  turn_step hi rfl fun K hK => by
    have hi := ht.info
    cases hq : Try.prog.info? e with
    | none => rw [hq] at hi; cases hi
    | some i =>
      rw [hq] at hi
      simp only [Option.map_some, Option.some.injEq, Prod.mk.injEq] at hi
      unfold Oper.wp execOp
      simp only [Instr.alloc, zeroValue, typeInfo, program, Sem.run_bind, Sem.run, Result.andThen_ok, hq, hi.1, newVar, newRow, newObj, Value.cells, pure, Sem.bind, bind]
      obtain ⟨h2, h3⟩ := h w.heap.size _ (hc.alloc e z)
      have := hK _ _ h2 (h3 h2)
      rw [← put_list] at this
      exact this
end
theorem tfRatio : TF 24 [.bool false, .slice none 0 0, .slice none 0 0] := ⟨by kernel_rfl, by kernel_rfl⟩
theorem tfGauss : TF 47 [.bool false, .slice none 0 0, .slice none 0 0, .bool false, .slice none 0 0, .slice none 0 0] := ⟨by kernel_rfl, by kernel_rfl⟩
theorem tfRotor : TF 54 [.int .i32 0, .int .i32 0] := ⟨by kernel_rfl, by kernel_rfl⟩
theorem tfFault : TF 41 [.int .i64 0, .int .i64 0] := ⟨by kernel_rfl, by kernel_rfl⟩
theorem tfTide : TF 56 [.string (ByteArray.mk #[]), .int .i32 0, .int .i32 0, .bool false, .slice none 0 0, .slice none 0 0, .bool false, .slice none 0 0, .slice none 0 0] := ⟨by kernel_rfl, by kernel_rfl⟩
theorem tfPort : TF 27 [.string (ByteArray.mk #[]), .bool false, .slice none 0 0, .slice none 0 0, .slice none 0 0] := ⟨by kernel_rfl, by kernel_rfl⟩
theorem slGauss : SL 114 47 [.bool false, .slice none 0 0, .slice none 0 0, .bool false, .slice none 0 0, .slice none 0 0] := ⟨by kernel_rfl, by kernel_rfl⟩
theorem slRatio : SL 30 24 [.bool false, .slice none 0 0, .slice none 0 0] := ⟨by kernel_rfl, by kernel_rfl⟩
theorem slWords : SL 22 100 [.int .u32 0] := ⟨by kernel_rfl, by kernel_rfl⟩
theorem tfUnit : TF 75 [] := ⟨by kernel_rfl, by kernel_rfl⟩
theorem tfWay : TF 87 [.int .i64 0] := ⟨by kernel_rfl, by kernel_rfl⟩
/-! ### Calls -/
section
variable {W0 w : World} {og : Option Nat} {L : List Bx} {us : List World} {f : FuncId} {args : Array Value} {K : Ending → World → Prop}
theorem Own.rdr {u : World} {lo : Nat} {r : Num.Ra} {v v' : Value} (h : Own u lo v r.num) (h' : Own u lo v' r.den) (hW : Num.RaW r) : RdR u (.agg #[.bool r.neg, v, v']) r := ⟨_, _, rfl, h.rd hW.1, h'.rd hW.2⟩
/-- a method of a way -/
theorem cc_way (hc : Ctx W0 og L us w) {r : Num.Ra × Int} {g i : Nat} {e0 : Int} (hb : Has L g 87 [.int .i64 e0] i) (h : Box w g 87 #[.int .i64 e0] → Calls Try.prog f args w (NewW w g r))
    (hk : ∀ lo u w' A c A' c', W0.heap.size ≤ lo → (∀ v ∈ us, v.heap.size ≤ lo) → Ctx W0 og (setN L i ⟨g, 87, [.int .i64 r.2]⟩) (u :: us) w' → Own u lo (.slice A r.1.num.length c) r.1.num → Own u lo (.slice A' r.1.den.length c') r.1.den → Ap (.slice A r.1.num.length c) (.slice A' r.1.den.length c') →
      K (.returned (.agg #[.bool r.1.neg, .slice A r.1.num.length c, .slice A' r.1.den.length c'])) w') : Calls Try.prog f args w K := by
  refine (h (hc.has hb)).mono ?_
  rintro e w' ⟨A, c, A', c', rfl, o1, o2, hap, hx, hw⟩
  exact hk _ _ _ A c A' c' hc.below.size (fun v m => (hc.sub v m).size) (hc.change hb hw hx) o1.fresh o2.fresh hap
end
end Go.Proofs.Ytfmhfgjpbkmneaa
namespace Go.Proofs.Ytfmhfgjpbkmneaa
open Go.RowKit
set_option linter.unusedVariables false
set_option linter.unusedSimpArgs false
set_option maxHeartbeats 4000000
/-- product: re, im and the error -/
def Num.gP1 (e : Int) (x y : Num.Ga) := Num.wMade e (Num.rMul x.re y.re)
def Num.gP2 (e : Int) (x y : Num.Ga) := Num.wMade (Num.gP1 e x y).2 (Num.rMul x.im y.im)
def Num.gP3 (e : Int) (x y : Num.Ga) := Num.wMade (Num.gP2 e x y).2 (Num.rSub (Num.gP1 e x y).1 (Num.gP2 e x y).1)
def Num.gP4 (e : Int) (x y : Num.Ga) := Num.wMade (Num.gP3 e x y).2 (Num.rMul x.re y.im)
def Num.gP5 (e : Int) (x y : Num.Ga) := Num.wMade (Num.gP4 e x y).2 (Num.rMul x.im y.re)
def Num.gP6 (e : Int) (x y : Num.Ga) := Num.wMade (Num.gP5 e x y).2 (Num.rAdd (Num.gP4 e x y).1 (Num.gP5 e x y).1)
/-- two fractions made on a way -/
def NewW2 (w : World) (g : Nat) (x : Num.Ga) (k : Int) (e : Ending) (w' : World) : Prop := ∃ A c A' c' B d B' d', e = .returned (.tuple #[.agg #[.bool x.re.neg, .slice A x.re.num.length c, .slice A' x.re.den.length c'], .agg #[.bool x.im.neg, .slice B x.im.num.length d, .slice B' x.im.den.length d']]) ∧
  Own4 w' w.heap.size (.slice A x.re.num.length c) (.slice A' x.re.den.length c') (.slice B x.im.num.length d) (.slice B' x.im.den.length d') x ∧ Box w' g 87 #[.int .i64 k] ∧ Way g w w'
theorem Sl.mask {w : World} {g : Nat} {e : Int} {A : Option Addr} {l : List Int} (h : Sl w A l) (hx : Box w g 87 #[.int .i64 e]) : Sl (mask w g) A l :=
  h.way hx ⟨rfl, rfl, rfl, by simp [Proofs.Ytfmhfgjpbkmneaa.mask], fun k hk hn => by rw [mask_at, if_neg (fun e => hn (by rw [e]))]⟩
theorem Rd.mask {w : World} {g : Nat} {e : Int} {v : Value} {l : List Int} (h : Rd w v l) (hx : Box w g 87 #[.int .i64 e]) : Rd (mask w g) v l := by
  obtain ⟨A, c, e, h1, h2, h3, h4⟩ := h
  exact ⟨A, c, e, h1, h2.mask hx, h3, h4⟩
theorem gauss_product {W : World} {k : Nat} {e0 : Int} {va vb : Value} {x y : Num.Ga} (hx : Box W k 87 #[.int .i64 e0]) (h : RdG W va x) (h' : RdG W vb y) :
    Calls Try.prog 66 #[.pointer (some ⟨k, 0, none⟩), va, vb] W (NewW2 W k ⟨(Num.gP3 e0 x y).1, (Num.gP6 e0 x y).1⟩ (Num.gP6 e0 x y).2) := by
  obtain ⟨A, c, A', c', B, d, B', d', rfl, r1, r2, r3, r4⟩ := h
  obtain ⟨P, p, P', p', Q, q, Q', q', rfl, s1, s2, s3, s4⟩ := h'
  have hc := Ctx.startAt W (cs := [.int .i64 e0]) hx
  have x1 : RdR (mask W k) _ x.re := ⟨_, _, rfl, r1.mask hx, r2.mask hx⟩
  have x2 : RdR (mask W k) _ x.im := ⟨_, _, rfl, r3.mask hx, r4.mask hx⟩
  have y1 : RdR (mask W k) _ y.re := ⟨_, _, rfl, s1.mask hx, s2.mask hx⟩
  have y2 : RdR (mask W k) _ y.im := ⟨_, _, rfl, s3.mask hx, s4.mask hx⟩
  have Q1 : Num.RaW (Num.gP1 e0 x y).1 := .made _ (.mul _ _)
  have Q2 : Num.RaW (Num.gP2 e0 x y).1 := .made _ (.mul _ _)
  have Q3 : Num.RaW (Num.gP3 e0 x y).1 := .made _ (.sub _ _)
  have Q4 : Num.RaW (Num.gP4 e0 x y).1 := .made _ (.mul _ _)
  have Q5 : Num.RaW (Num.gP5 e0 x y).1 := .made _ (.mul _ _)
  have Q6 : Num.RaW (Num.gP6 e0 x y).1 := .made _ (.add _ _)
  go_enter Try.func66, Try.ntmps66
  go_wp2_with (first | ((with_reducible apply wpc_load hc); (first | exact tfRatio | exact tfGauss | exact tfRotor | exact tfTide | exact tfPort | exact tfFault | exact tfWay | exact tfUnit); rfl; (repeat first | exact .here | apply Has.there); rfl; (simp only [snocN, setN, dropN, takeN, spliceN, List.length_cons, List.length_nil])) | ((with_reducible apply wpc_load1 hc); exact ⟨by kernel_rfl, by kernel_rfl⟩; rfl; (repeat first | exact .here | apply Has.there); rfl; (simp only [snocN, setN, dropN, takeN, spliceN, List.length_cons, List.length_nil])) | ((with_reducible apply wpc_store hc); (first | exact tfRatio | exact tfGauss | exact tfRotor | exact tfTide | exact tfPort | exact tfFault | exact tfWay | exact tfUnit); rfl; rfl; (repeat first | exact .here | apply Has.there); rfl; rfl; rfl; (clear hc; (try clear w); intro w hc; simp only [snocN, setN, dropN, takeN, spliceN, flatN, flatN.appN, Value.cells, argsN, argN, atN, List.map_cons, List.map_nil, List.length_cons, List.length_nil] at hc ⊢)) | ((with_reducible apply wpc_store1 hc); exact ⟨by kernel_rfl, by kernel_rfl⟩; rfl; (repeat first | exact .here | apply Has.there); rfl; rfl; (clear hc; (try clear w); intro w hc; simp only [snocN, setN, dropN, takeN, spliceN, flatN, flatN.appN, Value.cells, argsN, argN, atN, List.map_cons, List.map_nil, List.length_cons, List.length_nil] at hc ⊢)) | ((with_reducible apply wpc_box hc); rfl; rfl; (clear hc; (try clear w); intro g w hc; simp only [snocN, setN, dropN, takeN, spliceN, flatN, flatN.appN, Value.cells, argsN, argN, atN, List.map_cons, List.map_nil, List.length_cons, List.length_nil] at hc ⊢)) | ((with_reducible apply wpc_alloc hc); (first | exact tfRatio | exact tfGauss | exact tfRotor | exact tfTide | exact tfPort | exact tfFault | exact tfWay | exact tfUnit); (clear hc; (try clear w); intro g w hc; simp only [snocN, setN, dropN, takeN, spliceN, flatN, flatN.appN, Value.cells, argsN, argN, atN, List.map_cons, List.map_nil, List.length_cons, List.length_nil] at hc ⊢)) | ((with_reducible apply wpc_slice hc); (first | exact slGauss | exact slRatio | exact slWords); rfl; rfl; rfl; rfl; rfl; (clear hc; (try clear w); intro g w hc; simp only [snocN, setN, dropN, takeN, spliceN, flatN, flatN.appN, Value.cells, argsN, argN, atN, List.map_cons, List.map_nil, List.length_cons, List.length_nil] at hc ⊢)))
  refine cc_way hc (r := (Num.gP1 e0 x y)) (by (repeat first | exact .here | apply Has.there)) (fun hx => gauss_mul hx (x1.sub (hc.at_ (by repeat first | exact .here | apply Lies.there))) (y1.sub (hc.at_ (by repeat first | exact .here | apply Lies.there)))) ?_
  clear hc; (try clear w); rintro lo1 u1 w A1 c1 B1 d1 hl1 hs1 hc o1 p1 q1; simp only [snocN, setN, dropN, takeN, spliceN, flatN, flatN.appN, Value.cells, argsN, argN, atN, List.map_cons, List.map_nil, List.length_cons, List.length_nil] at hc ⊢
  have z1 : RdR u1 _ _ := o1.rdr p1 Q1
  go_wp2_with (first | ((with_reducible apply wpc_load hc); (first | exact tfRatio | exact tfGauss | exact tfRotor | exact tfTide | exact tfPort | exact tfFault | exact tfWay | exact tfUnit); rfl; (repeat first | exact .here | apply Has.there); rfl; (simp only [snocN, setN, dropN, takeN, spliceN, List.length_cons, List.length_nil])) | ((with_reducible apply wpc_load1 hc); exact ⟨by kernel_rfl, by kernel_rfl⟩; rfl; (repeat first | exact .here | apply Has.there); rfl; (simp only [snocN, setN, dropN, takeN, spliceN, List.length_cons, List.length_nil])) | ((with_reducible apply wpc_store hc); (first | exact tfRatio | exact tfGauss | exact tfRotor | exact tfTide | exact tfPort | exact tfFault | exact tfWay | exact tfUnit); rfl; rfl; (repeat first | exact .here | apply Has.there); rfl; rfl; rfl; (clear hc; (try clear w); intro w hc; simp only [snocN, setN, dropN, takeN, spliceN, flatN, flatN.appN, Value.cells, argsN, argN, atN, List.map_cons, List.map_nil, List.length_cons, List.length_nil] at hc ⊢)) | ((with_reducible apply wpc_store1 hc); exact ⟨by kernel_rfl, by kernel_rfl⟩; rfl; (repeat first | exact .here | apply Has.there); rfl; rfl; (clear hc; (try clear w); intro w hc; simp only [snocN, setN, dropN, takeN, spliceN, flatN, flatN.appN, Value.cells, argsN, argN, atN, List.map_cons, List.map_nil, List.length_cons, List.length_nil] at hc ⊢)) | ((with_reducible apply wpc_box hc); rfl; rfl; (clear hc; (try clear w); intro g w hc; simp only [snocN, setN, dropN, takeN, spliceN, flatN, flatN.appN, Value.cells, argsN, argN, atN, List.map_cons, List.map_nil, List.length_cons, List.length_nil] at hc ⊢)) | ((with_reducible apply wpc_alloc hc); (first | exact tfRatio | exact tfGauss | exact tfRotor | exact tfTide | exact tfPort | exact tfFault | exact tfWay | exact tfUnit); (clear hc; (try clear w); intro g w hc; simp only [snocN, setN, dropN, takeN, spliceN, flatN, flatN.appN, Value.cells, argsN, argN, atN, List.map_cons, List.map_nil, List.length_cons, List.length_nil] at hc ⊢)) | ((with_reducible apply wpc_slice hc); (first | exact slGauss | exact slRatio | exact slWords); rfl; rfl; rfl; rfl; rfl; (clear hc; (try clear w); intro g w hc; simp only [snocN, setN, dropN, takeN, spliceN, flatN, flatN.appN, Value.cells, argsN, argN, atN, List.map_cons, List.map_nil, List.length_cons, List.length_nil] at hc ⊢)))
  refine cc_way hc (r := (Num.gP2 e0 x y)) (by (repeat first | exact .here | apply Has.there)) (fun hx => gauss_mul hx (x2.sub (hc.at_ (by repeat first | exact .here | apply Lies.there))) (y2.sub (hc.at_ (by repeat first | exact .here | apply Lies.there)))) ?_
  clear hc; (try clear w); rintro lo2 u2 w A2 c2 B2 d2 hl2 hs2 hc o2 p2 q2; simp only [snocN, setN, dropN, takeN, spliceN, flatN, flatN.appN, Value.cells, argsN, argN, atN, List.map_cons, List.map_nil, List.length_cons, List.length_nil] at hc ⊢
  have z2 : RdR u2 _ _ := o2.rdr p2 Q2
  go_wp2_with (first | ((with_reducible apply wpc_load hc); (first | exact tfRatio | exact tfGauss | exact tfRotor | exact tfTide | exact tfPort | exact tfFault | exact tfWay | exact tfUnit); rfl; (repeat first | exact .here | apply Has.there); rfl; (simp only [snocN, setN, dropN, takeN, spliceN, List.length_cons, List.length_nil])) | ((with_reducible apply wpc_load1 hc); exact ⟨by kernel_rfl, by kernel_rfl⟩; rfl; (repeat first | exact .here | apply Has.there); rfl; (simp only [snocN, setN, dropN, takeN, spliceN, List.length_cons, List.length_nil])) | ((with_reducible apply wpc_store hc); (first | exact tfRatio | exact tfGauss | exact tfRotor | exact tfTide | exact tfPort | exact tfFault | exact tfWay | exact tfUnit); rfl; rfl; (repeat first | exact .here | apply Has.there); rfl; rfl; rfl; (clear hc; (try clear w); intro w hc; simp only [snocN, setN, dropN, takeN, spliceN, flatN, flatN.appN, Value.cells, argsN, argN, atN, List.map_cons, List.map_nil, List.length_cons, List.length_nil] at hc ⊢)) | ((with_reducible apply wpc_store1 hc); exact ⟨by kernel_rfl, by kernel_rfl⟩; rfl; (repeat first | exact .here | apply Has.there); rfl; rfl; (clear hc; (try clear w); intro w hc; simp only [snocN, setN, dropN, takeN, spliceN, flatN, flatN.appN, Value.cells, argsN, argN, atN, List.map_cons, List.map_nil, List.length_cons, List.length_nil] at hc ⊢)) | ((with_reducible apply wpc_box hc); rfl; rfl; (clear hc; (try clear w); intro g w hc; simp only [snocN, setN, dropN, takeN, spliceN, flatN, flatN.appN, Value.cells, argsN, argN, atN, List.map_cons, List.map_nil, List.length_cons, List.length_nil] at hc ⊢)) | ((with_reducible apply wpc_alloc hc); (first | exact tfRatio | exact tfGauss | exact tfRotor | exact tfTide | exact tfPort | exact tfFault | exact tfWay | exact tfUnit); (clear hc; (try clear w); intro g w hc; simp only [snocN, setN, dropN, takeN, spliceN, flatN, flatN.appN, Value.cells, argsN, argN, atN, List.map_cons, List.map_nil, List.length_cons, List.length_nil] at hc ⊢)) | ((with_reducible apply wpc_slice hc); (first | exact slGauss | exact slRatio | exact slWords); rfl; rfl; rfl; rfl; rfl; (clear hc; (try clear w); intro g w hc; simp only [snocN, setN, dropN, takeN, spliceN, flatN, flatN.appN, Value.cells, argsN, argN, atN, List.map_cons, List.map_nil, List.length_cons, List.length_nil] at hc ⊢)))
  refine cc_way hc (r := (Num.gP3 e0 x y)) (by (repeat first | exact .here | apply Has.there)) (fun hx => gauss_sub hx (z1.sub (hc.at_ (by repeat first | exact .here | apply Lies.there))) (z2.sub (hc.at_ (by repeat first | exact .here | apply Lies.there)))) ?_
  clear hc; (try clear w); rintro lo3 u3 w A3 c3 B3 d3 hl3 hs3 hc o3 p3 q3; simp only [snocN, setN, dropN, takeN, spliceN, flatN, flatN.appN, Value.cells, argsN, argN, atN, List.map_cons, List.map_nil, List.length_cons, List.length_nil] at hc ⊢
  have z3 : RdR u3 _ _ := o3.rdr p3 Q3
  go_wp2_with (first | ((with_reducible apply wpc_load hc); (first | exact tfRatio | exact tfGauss | exact tfRotor | exact tfTide | exact tfPort | exact tfFault | exact tfWay | exact tfUnit); rfl; (repeat first | exact .here | apply Has.there); rfl; (simp only [snocN, setN, dropN, takeN, spliceN, List.length_cons, List.length_nil])) | ((with_reducible apply wpc_load1 hc); exact ⟨by kernel_rfl, by kernel_rfl⟩; rfl; (repeat first | exact .here | apply Has.there); rfl; (simp only [snocN, setN, dropN, takeN, spliceN, List.length_cons, List.length_nil])) | ((with_reducible apply wpc_store hc); (first | exact tfRatio | exact tfGauss | exact tfRotor | exact tfTide | exact tfPort | exact tfFault | exact tfWay | exact tfUnit); rfl; rfl; (repeat first | exact .here | apply Has.there); rfl; rfl; rfl; (clear hc; (try clear w); intro w hc; simp only [snocN, setN, dropN, takeN, spliceN, flatN, flatN.appN, Value.cells, argsN, argN, atN, List.map_cons, List.map_nil, List.length_cons, List.length_nil] at hc ⊢)) | ((with_reducible apply wpc_store1 hc); exact ⟨by kernel_rfl, by kernel_rfl⟩; rfl; (repeat first | exact .here | apply Has.there); rfl; rfl; (clear hc; (try clear w); intro w hc; simp only [snocN, setN, dropN, takeN, spliceN, flatN, flatN.appN, Value.cells, argsN, argN, atN, List.map_cons, List.map_nil, List.length_cons, List.length_nil] at hc ⊢)) | ((with_reducible apply wpc_box hc); rfl; rfl; (clear hc; (try clear w); intro g w hc; simp only [snocN, setN, dropN, takeN, spliceN, flatN, flatN.appN, Value.cells, argsN, argN, atN, List.map_cons, List.map_nil, List.length_cons, List.length_nil] at hc ⊢)) | ((with_reducible apply wpc_alloc hc); (first | exact tfRatio | exact tfGauss | exact tfRotor | exact tfTide | exact tfPort | exact tfFault | exact tfWay | exact tfUnit); (clear hc; (try clear w); intro g w hc; simp only [snocN, setN, dropN, takeN, spliceN, flatN, flatN.appN, Value.cells, argsN, argN, atN, List.map_cons, List.map_nil, List.length_cons, List.length_nil] at hc ⊢)) | ((with_reducible apply wpc_slice hc); (first | exact slGauss | exact slRatio | exact slWords); rfl; rfl; rfl; rfl; rfl; (clear hc; (try clear w); intro g w hc; simp only [snocN, setN, dropN, takeN, spliceN, flatN, flatN.appN, Value.cells, argsN, argN, atN, List.map_cons, List.map_nil, List.length_cons, List.length_nil] at hc ⊢)))
  refine cc_way hc (r := (Num.gP4 e0 x y)) (by (repeat first | exact .here | apply Has.there)) (fun hx => gauss_mul hx (x1.sub (hc.at_ (by repeat first | exact .here | apply Lies.there))) (y2.sub (hc.at_ (by repeat first | exact .here | apply Lies.there)))) ?_
  clear hc; (try clear w); rintro lo4 u4 w A4 c4 B4 d4 hl4 hs4 hc o4 p4 q4; simp only [snocN, setN, dropN, takeN, spliceN, flatN, flatN.appN, Value.cells, argsN, argN, atN, List.map_cons, List.map_nil, List.length_cons, List.length_nil] at hc ⊢
  have z4 : RdR u4 _ _ := o4.rdr p4 Q4
  go_wp2_with (first | ((with_reducible apply wpc_load hc); (first | exact tfRatio | exact tfGauss | exact tfRotor | exact tfTide | exact tfPort | exact tfFault | exact tfWay | exact tfUnit); rfl; (repeat first | exact .here | apply Has.there); rfl; (simp only [snocN, setN, dropN, takeN, spliceN, List.length_cons, List.length_nil])) | ((with_reducible apply wpc_load1 hc); exact ⟨by kernel_rfl, by kernel_rfl⟩; rfl; (repeat first | exact .here | apply Has.there); rfl; (simp only [snocN, setN, dropN, takeN, spliceN, List.length_cons, List.length_nil])) | ((with_reducible apply wpc_store hc); (first | exact tfRatio | exact tfGauss | exact tfRotor | exact tfTide | exact tfPort | exact tfFault | exact tfWay | exact tfUnit); rfl; rfl; (repeat first | exact .here | apply Has.there); rfl; rfl; rfl; (clear hc; (try clear w); intro w hc; simp only [snocN, setN, dropN, takeN, spliceN, flatN, flatN.appN, Value.cells, argsN, argN, atN, List.map_cons, List.map_nil, List.length_cons, List.length_nil] at hc ⊢)) | ((with_reducible apply wpc_store1 hc); exact ⟨by kernel_rfl, by kernel_rfl⟩; rfl; (repeat first | exact .here | apply Has.there); rfl; rfl; (clear hc; (try clear w); intro w hc; simp only [snocN, setN, dropN, takeN, spliceN, flatN, flatN.appN, Value.cells, argsN, argN, atN, List.map_cons, List.map_nil, List.length_cons, List.length_nil] at hc ⊢)) | ((with_reducible apply wpc_box hc); rfl; rfl; (clear hc; (try clear w); intro g w hc; simp only [snocN, setN, dropN, takeN, spliceN, flatN, flatN.appN, Value.cells, argsN, argN, atN, List.map_cons, List.map_nil, List.length_cons, List.length_nil] at hc ⊢)) | ((with_reducible apply wpc_alloc hc); (first | exact tfRatio | exact tfGauss | exact tfRotor | exact tfTide | exact tfPort | exact tfFault | exact tfWay | exact tfUnit); (clear hc; (try clear w); intro g w hc; simp only [snocN, setN, dropN, takeN, spliceN, flatN, flatN.appN, Value.cells, argsN, argN, atN, List.map_cons, List.map_nil, List.length_cons, List.length_nil] at hc ⊢)) | ((with_reducible apply wpc_slice hc); (first | exact slGauss | exact slRatio | exact slWords); rfl; rfl; rfl; rfl; rfl; (clear hc; (try clear w); intro g w hc; simp only [snocN, setN, dropN, takeN, spliceN, flatN, flatN.appN, Value.cells, argsN, argN, atN, List.map_cons, List.map_nil, List.length_cons, List.length_nil] at hc ⊢)))
  refine cc_way hc (r := (Num.gP5 e0 x y)) (by (repeat first | exact .here | apply Has.there)) (fun hx => gauss_mul hx (x2.sub (hc.at_ (by repeat first | exact .here | apply Lies.there))) (y1.sub (hc.at_ (by repeat first | exact .here | apply Lies.there)))) ?_
  clear hc; (try clear w); rintro lo5 u5 w A5 c5 B5 d5 hl5 hs5 hc o5 p5 q5; simp only [snocN, setN, dropN, takeN, spliceN, flatN, flatN.appN, Value.cells, argsN, argN, atN, List.map_cons, List.map_nil, List.length_cons, List.length_nil] at hc ⊢
  have z5 : RdR u5 _ _ := o5.rdr p5 Q5
  go_wp2_with (first | ((with_reducible apply wpc_load hc); (first | exact tfRatio | exact tfGauss | exact tfRotor | exact tfTide | exact tfPort | exact tfFault | exact tfWay | exact tfUnit); rfl; (repeat first | exact .here | apply Has.there); rfl; (simp only [snocN, setN, dropN, takeN, spliceN, List.length_cons, List.length_nil])) | ((with_reducible apply wpc_load1 hc); exact ⟨by kernel_rfl, by kernel_rfl⟩; rfl; (repeat first | exact .here | apply Has.there); rfl; (simp only [snocN, setN, dropN, takeN, spliceN, List.length_cons, List.length_nil])) | ((with_reducible apply wpc_store hc); (first | exact tfRatio | exact tfGauss | exact tfRotor | exact tfTide | exact tfPort | exact tfFault | exact tfWay | exact tfUnit); rfl; rfl; (repeat first | exact .here | apply Has.there); rfl; rfl; rfl; (clear hc; (try clear w); intro w hc; simp only [snocN, setN, dropN, takeN, spliceN, flatN, flatN.appN, Value.cells, argsN, argN, atN, List.map_cons, List.map_nil, List.length_cons, List.length_nil] at hc ⊢)) | ((with_reducible apply wpc_store1 hc); exact ⟨by kernel_rfl, by kernel_rfl⟩; rfl; (repeat first | exact .here | apply Has.there); rfl; rfl; (clear hc; (try clear w); intro w hc; simp only [snocN, setN, dropN, takeN, spliceN, flatN, flatN.appN, Value.cells, argsN, argN, atN, List.map_cons, List.map_nil, List.length_cons, List.length_nil] at hc ⊢)) | ((with_reducible apply wpc_box hc); rfl; rfl; (clear hc; (try clear w); intro g w hc; simp only [snocN, setN, dropN, takeN, spliceN, flatN, flatN.appN, Value.cells, argsN, argN, atN, List.map_cons, List.map_nil, List.length_cons, List.length_nil] at hc ⊢)) | ((with_reducible apply wpc_alloc hc); (first | exact tfRatio | exact tfGauss | exact tfRotor | exact tfTide | exact tfPort | exact tfFault | exact tfWay | exact tfUnit); (clear hc; (try clear w); intro g w hc; simp only [snocN, setN, dropN, takeN, spliceN, flatN, flatN.appN, Value.cells, argsN, argN, atN, List.map_cons, List.map_nil, List.length_cons, List.length_nil] at hc ⊢)) | ((with_reducible apply wpc_slice hc); (first | exact slGauss | exact slRatio | exact slWords); rfl; rfl; rfl; rfl; rfl; (clear hc; (try clear w); intro g w hc; simp only [snocN, setN, dropN, takeN, spliceN, flatN, flatN.appN, Value.cells, argsN, argN, atN, List.map_cons, List.map_nil, List.length_cons, List.length_nil] at hc ⊢)))
  refine dr_start hc (n := 7) rfl (.cons (.there (.there (.there (.here)))) (.cons (.there (.there (.there (.there (.there (.here)))))) (.cons (.there (.there (.there (.there (.there (.there (.here))))))) .nil))) ?_
  clear hc; intro w hc hS
  ((with_reducible apply dr_load 0); rfl; kernel_rfl; kernel_rfl; kernel_rfl; (first | exact tfRatio | exact tfGauss | exact tfRotor | exact tfTide | exact tfPort | exact tfFault | exact tfWay | exact tfUnit); rfl; (repeat first | exact .here | apply Has.there); rfl; exact hS; exact (fun _ _ _ _ h => h); (simp only [snocN, setN, dropN, takeN, spliceN, List.length_cons, List.length_nil]))
  ((with_reducible apply dr_move 1); rfl; kernel_rfl; kernel_rfl; kernel_rfl; rfl; exact hS; exact (fun _ _ _ _ h => h); (simp only [snocN, setN, dropN, takeN, spliceN, List.length_cons, List.length_nil]))
  ((with_reducible apply dr_load 2); rfl; kernel_rfl; kernel_rfl; kernel_rfl; (first | exact tfRatio | exact tfGauss | exact tfRotor | exact tfTide | exact tfPort | exact tfFault | exact tfWay | exact tfUnit); rfl; (repeat first | exact .here | apply Has.there); rfl; exact hS; exact (fun _ _ _ _ h => h); (simp only [snocN, setN, dropN, takeN, spliceN, List.length_cons, List.length_nil]))
  ((with_reducible apply dr_load 3); rfl; kernel_rfl; kernel_rfl; kernel_rfl; (first | exact tfRatio | exact tfGauss | exact tfRotor | exact tfTide | exact tfPort | exact tfFault | exact tfWay | exact tfUnit); rfl; (repeat first | exact .here | apply Has.there); rfl; exact hS; exact (fun _ _ _ _ h => h); (simp only [snocN, setN, dropN, takeN, spliceN, List.length_cons, List.length_nil]))
  refine dr_one 4 (by kernel_rfl) (turn_call rfl (by kernel_rfl) fun K hK => ?_); simp only [argsN, argN, atN]
  refine cc_way hc (r := (Num.gP6 e0 x y)) (by (repeat first | exact .here | apply Has.there)) (fun hx => gauss_add hx (z4.sub (hc.at_ (by repeat first | exact .here | apply Lies.there))) (z5.sub (hc.at_ (by repeat first | exact .here | apply Lies.there)))) ?_
  clear hc; (try clear w); rintro lo6 u6 w A6 c6 B6 d6 hl6 hs6 hc o6 p6 q6; simp only [snocN, setN, dropN, takeN, spliceN, flatN, flatN.appN, Value.cells, argsN, argN, atN, List.map_cons, List.map_nil, List.length_cons, List.length_nil] at hc ⊢
  have z6 : RdR u6 _ _ := o6.rdr p6 Q6
  (try simp only []); refine hK _ _ (hc.boxes (by repeat (first | exact .nil | (apply Among.cons; (repeat first | exact .here | apply Has.there))))) ?_; clear hK K hS; have hS := hc.boxes (Lm := _) (by repeat (first | exact .nil | (apply Among.cons; (repeat first | exact .here | apply Has.there))))
  refine dr_one 5 (by kernel_rfl) ?_
  ((with_reducible apply turn_store); rfl; exact hc; (first | exact tfRatio | exact tfGauss | exact tfRotor | exact tfTide | exact tfPort | exact tfFault | exact tfWay | exact tfUnit); rfl; rfl; (repeat first | exact .here | apply Has.there); rfl; rfl; rfl; (clear hc; (try clear w); intro w hc; simp only [snocN, setN, dropN, takeN, spliceN, flatN, flatN.appN, Value.cells, argsN, argN, atN, List.map_cons, List.map_nil, List.length_cons, List.length_nil] at hc ⊢; refine ⟨hc.boxes (by repeat (first | exact .nil | (apply Among.cons; (repeat first | exact .here | apply Has.there)))), fun hS => ?_⟩))
  refine dr_one 6 (by kernel_rfl) ?_
  ((with_reducible apply turn_store); rfl; exact hc; (first | exact tfRatio | exact tfGauss | exact tfRotor | exact tfTide | exact tfPort | exact tfFault | exact tfWay | exact tfUnit); rfl; rfl; (repeat first | exact .here | apply Has.there); rfl; rfl; rfl; (clear hc; (try clear w); intro w hc; simp only [snocN, setN, dropN, takeN, spliceN, flatN, flatN.appN, Value.cells, argsN, argN, atN, List.map_cons, List.map_nil, List.length_cons, List.length_nil] at hc ⊢; refine ⟨hc.boxes (by repeat (first | exact .nil | (apply Among.cons; (repeat first | exact .here | apply Has.there)))), fun hS => ?_⟩))
  refine dr_done (by kernel_rfl) ?_; clear hS
  go_wp2
  have k2 := hc.cell (g := _) (.there (.there (.there (.here))))
  have k3 := hc.cell (g := _) (.there (.there (.there (.there (.here)))))
  refine bodyPost_ret (v := .tuple #[.agg #[.bool (Num.gP3 e0 x y).1.neg, .slice A3 (Num.gP3 e0 x y).1.num.length c3, .slice B3 (Num.gP3 e0 x y).1.den.length d3], .agg #[.bool (Num.gP6 e0 x y).1.neg, .slice A6 (Num.gP6 e0 x y).1.num.length c6, .slice B6 (Num.gP6 e0 x y).1.den.length d6]]) ?_ rfl ?_
  · simp [results, Try.results66, go_sem, k2, k3]
  · have s1 := hs6 u3 (by simp)
    refine ⟨_, _, _, _, _, _, _, _, rfl, ⟨(o3.sub (hc.at_ (by repeat first | exact .here | apply Lies.there))).lower hl3, (p3.sub (hc.at_ (by repeat first | exact .here | apply Lies.there))).lower hl3, (o6.sub (hc.at_ (by repeat first | exact .here | apply Lies.there))).lower hl6, (p6.sub (hc.at_ (by repeat first | exact .here | apply Lies.there))).lower hl6, q3, o3.ap o6 s1, o3.ap p6 s1, p3.ap o6 s1, p3.ap p6 s1, q6⟩, hc.has (.here), hc.below⟩
end Go.Proofs.Ytfmhfgjpbkmneaa
namespace Go.Proofs.Ytfmhfgjpbkmneaa
open Go.RowKit
set_option linter.unusedVariables false
set_option linter.unusedSimpArgs false
/-! ### Calls over Ctx -/
theorem Own4.sub {u w : World} {lo : Nat} {p q r s : Value} {x : Num.Ga} (h : Own4 u lo p q r s x) (k : Part u w) : Own4 w lo p q r s x := ⟨h.1.sub k, h.2.1.sub k, h.2.2.1.sub k, h.2.2.2.1.sub k, h.2.2.2.2⟩
theorem Own4.fresh {w : World} {lo : Nat} {p q r s : Value} {x : Num.Ga} (h : Own4 w lo p q r s x) : Own4 (fresh w lo) lo p q r s x := ⟨h.1.fresh, h.2.1.fresh, h.2.2.1.fresh, h.2.2.2.1.fresh, h.2.2.2.2⟩
def Num.GaW (x : Num.Ga) : Prop := Num.RaW x.re ∧ Num.RaW x.im
theorem Own4.rdg {u : World} {lo : Nat} {x : Num.Ga} {A A' B B' : Option Addr} {c c' d d' : Nat} (h : Own4 u lo (.slice A x.re.num.length c) (.slice A' x.re.den.length c') (.slice B x.im.num.length d) (.slice B' x.im.den.length d') x) (hW : Num.GaW x) :
    RdG u (.agg #[.bool x.re.neg, .slice A x.re.num.length c, .slice A' x.re.den.length c', .bool x.im.neg, .slice B x.im.num.length d, .slice B' x.im.den.length d']) x :=
  ⟨_, _, _, _, _, _, _, _, rfl, h.1.rd hW.1.1, h.2.1.rd hW.1.2, h.2.2.1.rd hW.2.1, h.2.2.2.1.rd hW.2.2⟩
theorem RdG.reR {u : World} {x : Num.Ga} {A A' B B' : Option Addr} {c c' d d' : Nat} {n m n' m' : Nat} {p q : Bool} (h : RdG u (.agg #[.bool p, .slice A n c, .slice A' m c', .bool q, .slice B n' d, .slice B' m' d']) x) : RdR u (.agg #[.bool p, .slice A n c, .slice A' m c']) x.re ∧ RdR u (.agg #[.bool q, .slice B n' d, .slice B' m' d']) x.im := by
  obtain ⟨A, c, A', c', B, d, B', d', e, h1, h2, h3, h4⟩ := h
  injection e with e
  injection e with e
  simp only [List.cons.injEq, Value.bool.injEq, Value.slice.injEq, and_true] at e
  obtain ⟨rfl, ⟨rfl, rfl, rfl⟩, ⟨rfl, rfl, rfl⟩, rfl, ⟨rfl, rfl, rfl⟩, ⟨rfl, rfl, rfl⟩⟩ := e
  exact ⟨⟨_, _, rfl, h1, h2⟩, ⟨_, _, rfl, h3, h4⟩⟩
section
variable {W0 w : World} {og : Option Nat} {L : List Bx} {us : List World} {f : FuncId} {args : Array Value} {K : Ending → World → Prop}
theorem cc_below (hc : Ctx W0 og L us w) {v : Value} (h : Calls Try.prog f args w fun e w' => e = .returned v ∧ Below w.heap.size w w') (hk : ∀ w', Ctx W0 og L us w' → K (.returned v) w') : Calls Try.prog f args w K :=
  h.mono fun e w' ⟨he, hb⟩ => by rw [he]; exact hk _ (hc.grow hb)
theorem cc_eq (hc : Ctx W0 og L us w) {v : Value} (h : Calls Try.prog f args w fun e w' => e = .returned v ∧ w = w') (hk : ∀ w', Ctx W0 og L us w' → K (.returned v) w') : Calls Try.prog f args w K :=
  h.mono fun e w' ⟨he, hb⟩ => by rw [he, ← hb]; exact hk _ hc
theorem cc_drewN (hc : Ctx W0 og L us w) {v : Value} (h : Calls Try.prog f args w fun e w' => e = .returned v ∧ ∃ n, w' = w.drewN n) (hk : ∀ w', Ctx W0 og L us w' → K (.returned v) w') : Calls Try.prog f args w K :=
  h.mono fun e w' ⟨he, n, hb⟩ => by rw [he, hb]; exact hk _ (hc.drewN n)
theorem cc_R (hc : Ctx W0 og L us w) {r : Num.Ra × Int} (h : Calls Try.prog f args w (NewR w r))
    (hk : ∀ lo u w' A c A' c', W0.heap.size ≤ lo → (∀ v ∈ us, v.heap.size ≤ lo) → Ctx W0 og L (u :: us) w' → Own u lo (.slice A r.1.num.length c) r.1.num → Own u lo (.slice A' r.1.den.length c') r.1.den → Ap (.slice A r.1.num.length c) (.slice A' r.1.den.length c') →
      K (.returned (.tuple #[.agg #[.bool r.1.neg, .slice A r.1.num.length c, .slice A' r.1.den.length c'], .int .i64 r.2])) w') : Calls Try.prog f args w K := by
  refine h.mono ?_
  rintro e w' hq
  obtain ⟨A, c, A', c', rfl, o1, o2, hap, hb⟩ := hq.parts
  exact hk _ _ _ A c A' c' (hc.below.size) (fun v m => (hc.sub v m).size) (hc.call hb) o1.fresh o2.fresh hap
theorem cc_A (hc : Ctx W0 og L us w) {r : Num.Ra} (h : Calls Try.prog f args w (NewA w r))
    (hk : ∀ lo u w' A c A' c', W0.heap.size ≤ lo → (∀ v ∈ us, v.heap.size ≤ lo) → Ctx W0 og L (u :: us) w' → Own u lo (.slice A r.num.length c) r.num → Own u lo (.slice A' r.den.length c') r.den → Ap (.slice A r.num.length c) (.slice A' r.den.length c') →
      K (.returned (.agg #[.bool r.neg, .slice A r.num.length c, .slice A' r.den.length c'])) w') : Calls Try.prog f args w K := by
  refine h.mono ?_
  rintro e w' ⟨v1, v2, rfl, o1, o2, hap, hb⟩
  obtain ⟨A, c, rfl, _⟩ := o1.slice
  obtain ⟨A', c', rfl, _⟩ := o2.slice
  exact hk _ _ _ A c A' c' (hc.below.size) (fun v m => (hc.sub v m).size) (hc.call hb) o1.fresh o2.fresh hap
theorem cc_G (hc : Ctx W0 og L us w) {x : Num.Ga} (h : Calls Try.prog f args w (NewG w x))
    (hk : ∀ lo u w' A c A' c' B d B' d', W0.heap.size ≤ lo → (∀ v ∈ us, v.heap.size ≤ lo) → Ctx W0 og L (u :: us) w' → Own4 u lo (.slice A x.re.num.length c) (.slice A' x.re.den.length c') (.slice B x.im.num.length d) (.slice B' x.im.den.length d') x →
      K (.returned (.agg #[.bool x.re.neg, .slice A x.re.num.length c, .slice A' x.re.den.length c', .bool x.im.neg, .slice B x.im.num.length d, .slice B' x.im.den.length d'])) w') : Calls Try.prog f args w K := by
  refine h.mono ?_
  rintro e w' ⟨A, c, A', c', B, d, B', d', rfl, o, hb⟩
  exact hk _ _ _ A c A' c' B d B' d' (hc.below.size) (fun v m => (hc.sub v m).size) (hc.call hb) o.fresh
theorem cc_GE (hc : Ctx W0 og L us w) {x : Num.Ga × Int} (h : Calls Try.prog f args w (NewGE w x))
    (hk : ∀ lo u w' A c A' c' B d B' d', W0.heap.size ≤ lo → (∀ v ∈ us, v.heap.size ≤ lo) → Ctx W0 og L (u :: us) w' → Own4 u lo (.slice A x.1.re.num.length c) (.slice A' x.1.re.den.length c') (.slice B x.1.im.num.length d) (.slice B' x.1.im.den.length d') x.1 →
      K (.returned (.tuple #[.agg #[.bool x.1.re.neg, .slice A x.1.re.num.length c, .slice A' x.1.re.den.length c', .bool x.1.im.neg, .slice B x.1.im.num.length d, .slice B' x.1.im.den.length d'], .int .i64 x.2])) w') : Calls Try.prog f args w K := by
  refine h.mono ?_
  rintro e w' ⟨A, c, A', c', B, d, B', d', rfl, o, hb⟩
  exact hk _ _ _ A c A' c' B d B' d' (hc.below.size) (fun v m => (hc.sub v m).size) (hc.call hb) o.fresh
theorem cc_W2 (hc : Ctx W0 og L us w) {x : Num.Ga} {k : Int} {g i : Nat} {e0 : Int} (hb : Has L g 87 [.int .i64 e0] i) (h : Box w g 87 #[.int .i64 e0] → Calls Try.prog f args w (NewW2 w g x k))
    (hk : ∀ lo u w' A c A' c' B d B' d', W0.heap.size ≤ lo → (∀ v ∈ us, v.heap.size ≤ lo) → Ctx W0 og (setN L i ⟨g, 87, [.int .i64 k]⟩) (u :: us) w' → Own4 u lo (.slice A x.re.num.length c) (.slice A' x.re.den.length c') (.slice B x.im.num.length d) (.slice B' x.im.den.length d') x →
      K (.returned (.tuple #[.agg #[.bool x.re.neg, .slice A x.re.num.length c, .slice A' x.re.den.length c'], .agg #[.bool x.im.neg, .slice B x.im.num.length d, .slice B' x.im.den.length d']])) w') : Calls Try.prog f args w K := by
  refine (h (hc.has hb)).mono ?_
  rintro e w' ⟨A, c, A', c', B, d, B', d', rfl, o, hx, hw⟩
  exact hk _ _ _ A c A' c' B d B' d' (hc.below.size) (fun v m => (hc.sub v m).size) (hc.change hb hw hx) o.fresh
theorem cc_asked (hc : Ctx W0 og L us w) {k : Int} (h : Calls Try.prog f args w fun e w' => ∃ g, e = .returned (.pointer (some ⟨g, 0, none⟩)) ∧ w.heap.size ≤ g ∧ Box w' g 87 #[.int .i64 k] ∧ Below w.heap.size w w')
    (hk : ∀ g w', Ctx W0 og (snocN L ⟨g, 87, [.int .i64 k]⟩) us w' → K (.returned (.pointer (some ⟨g, 0, none⟩))) w') : Calls Try.prog f args w K := by
  refine h.mono ?_
  rintro e w' ⟨g, rfl, hg, hx, hb⟩
  exact hk _ _ (hc.adopt hb hx hg)
/-- what a way tells -/
theorem cc_told (hc : Ctx W0 og L us w) {u : World} {lo : Nat} {re im : Num.Ra} {g i : Nat} {e0 : Int} {A A' B B' : Option Addr} {c c' d d' : Nat} (hb : Has L g 87 [.int .i64 e0] i)
    (O : Own4 u lo (.slice A re.num.length c) (.slice A' re.den.length c') (.slice B im.num.length d) (.slice B' im.den.length d') ⟨re, im⟩)
    (hk : ∀ w' P p P' p' Q q Q' q', Ctx W0 og L us w' → Own4 u lo (.slice P (Num.gTold re im e0).1.re.num.length p) (.slice P' (Num.gTold re im e0).1.re.den.length p') (.slice Q (Num.gTold re im e0).1.im.num.length q) (.slice Q' (Num.gTold re im e0).1.im.den.length q') (Num.gTold re im e0).1 →
      K (.returned (.tuple #[.agg #[.bool (Num.gTold re im e0).1.re.neg, .slice P (Num.gTold re im e0).1.re.num.length p, .slice P' (Num.gTold re im e0).1.re.den.length p', .bool (Num.gTold re im e0).1.im.neg, .slice Q (Num.gTold re im e0).1.im.num.length q, .slice Q' (Num.gTold re im e0).1.im.den.length q'], .int .i64 (Num.gTold re im e0).2])) w') :
    Calls Try.prog 46 #[.pointer (some ⟨g, 0, none⟩), .agg #[.bool re.neg, .slice A re.num.length c, .slice A' re.den.length c'], .agg #[.bool im.neg, .slice B im.num.length d, .slice B' im.den.length d']] w K := by
  by_cases h0 : e0 = 0
  · subst h0
    have e : Num.gTold re im 0 = (⟨re, im⟩, 0) := if_pos rfl
    rw [e] at hk
    refine (gauss_told_ok (hc.has hb)).mono ?_
    rintro e w' ⟨rfl, hb'⟩
    exact hk _ _ _ _ _ _ _ _ _ (hc.grow hb') O
  · have e : Num.gTold re im e0 = (Num.Ga.zero, e0) := if_neg h0
    rw [e] at hk
    refine (gauss_told_no (hc.has hb) h0).mono ?_
    rintro e w' ⟨rfl, hb'⟩
    exact hk _ _ _ _ _ _ _ _ _ (hc.grow hb') ⟨Own.nil_ _ _, Own.nil_ _ _, Own.nil_ _ _, Own.nil_ _ _, Ap.nil_l _, Ap.nil_l _, Ap.nil_l _, Ap.nil_l _, Ap.nil_l _, Ap.nil_l _⟩
theorem fin_GE {W w : World} (hc : Ctx W none L us w) {x : Num.Ga × Int} {lo : Nat} {A A' B B' : Option Addr} {c c' d d' : Nat} {u : World} (m : Lies us u) (O : Own4 u lo (.slice A x.1.re.num.length c) (.slice A' x.1.re.den.length c') (.slice B x.1.im.num.length d) (.slice B' x.1.im.den.length d') x.1) (hl : W.heap.size ≤ lo) :
    NewGE W x (.returned (.tuple #[.agg #[.bool x.1.re.neg, .slice A x.1.re.num.length c, .slice A' x.1.re.den.length c', .bool x.1.im.neg, .slice B x.1.im.num.length d, .slice B' x.1.im.den.length d'], .int .i64 x.2])) w :=
  ⟨A, c, A', c', B, d, B', d', rfl, (O.sub (hc.at_ m)).lower hl, hc.old⟩
end
theorem own4_two {u u' w : World} {lo lo' B : Nat} {x y : Num.Ra} {a b c d : Value} (k : Part u w) (k' : Part u' w) (o1 : Own u lo a x.num) (o2 : Own u lo b x.den) (p : Ap a b) (o3 : Own u' lo' c y.num) (o4 : Own u' lo' d y.den) (p' : Ap c d) (hl : B ≤ lo) (hl' : B ≤ lo') (hs : u.heap.size ≤ lo') : Own4 w B a b c d ⟨x, y⟩ :=
  ⟨(o1.sub k).lower hl, (o2.sub k).lower hl, (o3.sub k').lower hl', (o4.sub k').lower hl', p, o1.ap o3 hs, o1.ap o4 hs, o2.ap o3 hs, o2.ap o4 hs, p'⟩
end Go.Proofs.Ytfmhfgjpbkmneaa
namespace Go.Proofs.Ytfmhfgjpbkmneaa
open Go.RowKit
set_option linter.unusedVariables false
set_option linter.unusedSimpArgs false
set_option maxHeartbeats 4000000
def Num.gMul (x y : Num.Ga) : Num.Ga × Int := Num.gTold (Num.gP3 (Num.gAsked [x, y]) x y).1 (Num.gP6 (Num.gAsked [x, y]) x y).1 (Num.gP6 (Num.gAsked [x, y]) x y).2
theorem gauss_Mul {W : World} {va vb : Value} {x y : Num.Ga} (h : RdG W va x) (h' : RdG W vb y) : Calls Try.prog 39 #[va, vb] W (NewGE W (Num.gMul x y)) := by
  obtain ⟨A, c, A', c', B, d, B', d', rfl, r1, r2, r3, r4⟩ := h
  obtain ⟨P, p, P', p', Q, q, Q', q', rfl, s1, s2, s3, s4⟩ := h'
  have hc := Ctx.start W
  unfold Num.gMul
  go_enter Try.func39, Try.ntmps39
  go_wp2_with (first | ((with_reducible apply wpc_load hc); (first | exact tfRatio | exact tfGauss | exact tfRotor | exact tfTide | exact tfPort | exact tfFault | exact tfWay | exact tfUnit); rfl; (repeat first | exact .here | apply Has.there); rfl; (simp only [snocN, setN, dropN, takeN, spliceN, List.length_cons, List.length_nil])) | ((with_reducible apply wpc_load1 hc); exact ⟨by kernel_rfl, by kernel_rfl⟩; rfl; (repeat first | exact .here | apply Has.there); rfl; (simp only [snocN, setN, dropN, takeN, spliceN, List.length_cons, List.length_nil])) | ((with_reducible apply wpc_store hc); (first | exact tfRatio | exact tfGauss | exact tfRotor | exact tfTide | exact tfPort | exact tfFault | exact tfWay | exact tfUnit); rfl; rfl; (repeat first | exact .here | apply Has.there); rfl; rfl; rfl; (clear hc; (try clear w); intro w hc; simp only [snocN, setN, dropN, takeN, spliceN, flatN, flatN.appN, Value.cells, argsN, argN, atN, List.map_cons, List.map_nil, List.length_cons, List.length_nil] at hc ⊢)) | ((with_reducible apply wpc_store1 hc); exact ⟨by kernel_rfl, by kernel_rfl⟩; rfl; (repeat first | exact .here | apply Has.there); rfl; rfl; (clear hc; (try clear w); intro w hc; simp only [snocN, setN, dropN, takeN, spliceN, flatN, flatN.appN, Value.cells, argsN, argN, atN, List.map_cons, List.map_nil, List.length_cons, List.length_nil] at hc ⊢)) | ((with_reducible apply wpc_box hc); rfl; rfl; (clear hc; (try clear w); intro g w hc; simp only [snocN, setN, dropN, takeN, spliceN, flatN, flatN.appN, Value.cells, argsN, argN, atN, List.map_cons, List.map_nil, List.length_cons, List.length_nil] at hc ⊢)) | ((with_reducible apply wpc_alloc hc); (first | exact tfRatio | exact tfGauss | exact tfRotor | exact tfTide | exact tfPort | exact tfFault | exact tfWay | exact tfUnit); (clear hc; (try clear w); intro g w hc; simp only [snocN, setN, dropN, takeN, spliceN, flatN, flatN.appN, Value.cells, argsN, argN, atN, List.map_cons, List.map_nil, List.length_cons, List.length_nil] at hc ⊢)) | ((with_reducible apply wpc_slice hc); (first | exact slGauss | exact slRatio | exact slWords); rfl; rfl; rfl; rfl; rfl; (clear hc; (try clear w); intro g w hc; simp only [snocN, setN, dropN, takeN, spliceN, flatN, flatN.appN, Value.cells, argsN, argN, atN, List.map_cons, List.map_nil, List.length_cons, List.length_nil] at hc ⊢)))
  refine cc_asked hc (gauss_asked (l := [x, y]) (slg_two (hc.has (by (repeat first | exact .here | apply Has.there))) (r1.sub (hc.at_ (by repeat first | exact .here | apply Lies.there))) (r2.sub (hc.at_ (by repeat first | exact .here | apply Lies.there))) (r3.sub (hc.at_ (by repeat first | exact .here | apply Lies.there))) (r4.sub (hc.at_ (by repeat first | exact .here | apply Lies.there))) (s1.sub (hc.at_ (by repeat first | exact .here | apply Lies.there))) (s2.sub (hc.at_ (by repeat first | exact .here | apply Lies.there))) (s3.sub (hc.at_ (by repeat first | exact .here | apply Lies.there))) (s4.sub (hc.at_ (by repeat first | exact .here | apply Lies.there)))) (by simp)) ?_
  clear hc; intro g w hc; simp only [snocN, setN, dropN, takeN, spliceN, flatN, flatN.appN, Value.cells, argsN, argN, atN, List.map_cons, List.map_nil, List.length_cons, List.length_nil] at hc ⊢
  go_wp2_with (first | ((with_reducible apply wpc_load hc); (first | exact tfRatio | exact tfGauss | exact tfRotor | exact tfTide | exact tfPort | exact tfFault | exact tfWay | exact tfUnit); rfl; (repeat first | exact .here | apply Has.there); rfl; (simp only [snocN, setN, dropN, takeN, spliceN, List.length_cons, List.length_nil])) | ((with_reducible apply wpc_load1 hc); exact ⟨by kernel_rfl, by kernel_rfl⟩; rfl; (repeat first | exact .here | apply Has.there); rfl; (simp only [snocN, setN, dropN, takeN, spliceN, List.length_cons, List.length_nil])) | ((with_reducible apply wpc_store hc); (first | exact tfRatio | exact tfGauss | exact tfRotor | exact tfTide | exact tfPort | exact tfFault | exact tfWay | exact tfUnit); rfl; rfl; (repeat first | exact .here | apply Has.there); rfl; rfl; rfl; (clear hc; (try clear w); intro w hc; simp only [snocN, setN, dropN, takeN, spliceN, flatN, flatN.appN, Value.cells, argsN, argN, atN, List.map_cons, List.map_nil, List.length_cons, List.length_nil] at hc ⊢)) | ((with_reducible apply wpc_store1 hc); exact ⟨by kernel_rfl, by kernel_rfl⟩; rfl; (repeat first | exact .here | apply Has.there); rfl; rfl; (clear hc; (try clear w); intro w hc; simp only [snocN, setN, dropN, takeN, spliceN, flatN, flatN.appN, Value.cells, argsN, argN, atN, List.map_cons, List.map_nil, List.length_cons, List.length_nil] at hc ⊢)) | ((with_reducible apply wpc_box hc); rfl; rfl; (clear hc; (try clear w); intro g w hc; simp only [snocN, setN, dropN, takeN, spliceN, flatN, flatN.appN, Value.cells, argsN, argN, atN, List.map_cons, List.map_nil, List.length_cons, List.length_nil] at hc ⊢)) | ((with_reducible apply wpc_alloc hc); (first | exact tfRatio | exact tfGauss | exact tfRotor | exact tfTide | exact tfPort | exact tfFault | exact tfWay | exact tfUnit); (clear hc; (try clear w); intro g w hc; simp only [snocN, setN, dropN, takeN, spliceN, flatN, flatN.appN, Value.cells, argsN, argN, atN, List.map_cons, List.map_nil, List.length_cons, List.length_nil] at hc ⊢)) | ((with_reducible apply wpc_slice hc); (first | exact slGauss | exact slRatio | exact slWords); rfl; rfl; rfl; rfl; rfl; (clear hc; (try clear w); intro g w hc; simp only [snocN, setN, dropN, takeN, spliceN, flatN, flatN.appN, Value.cells, argsN, argN, atN, List.map_cons, List.map_nil, List.length_cons, List.length_nil] at hc ⊢)))
  refine cc_W2 hc (by (repeat first | exact .here | apply Has.there)) (fun hx => gauss_product hx ⟨_, _, _, _, _, _, _, _, rfl, r1.sub (hc.at_ (by repeat first | exact .here | apply Lies.there)), r2.sub (hc.at_ (by repeat first | exact .here | apply Lies.there)), r3.sub (hc.at_ (by repeat first | exact .here | apply Lies.there)), r4.sub (hc.at_ (by repeat first | exact .here | apply Lies.there))⟩ ⟨_, _, _, _, _, _, _, _, rfl, s1.sub (hc.at_ (by repeat first | exact .here | apply Lies.there)), s2.sub (hc.at_ (by repeat first | exact .here | apply Lies.there)), s3.sub (hc.at_ (by repeat first | exact .here | apply Lies.there)), s4.sub (hc.at_ (by repeat first | exact .here | apply Lies.there))⟩) ?_
  clear hc; rintro lo u w A1 c1 A2 c2 B1 d1 B2 d2 hl hs hc O; simp only [snocN, setN, dropN, takeN, spliceN, flatN, flatN.appN, Value.cells, argsN, argN, atN, List.map_cons, List.map_nil, List.length_cons, List.length_nil] at hc ⊢
  go_wp2_with (first | ((with_reducible apply wpc_load hc); (first | exact tfRatio | exact tfGauss | exact tfRotor | exact tfTide | exact tfPort | exact tfFault | exact tfWay | exact tfUnit); rfl; (repeat first | exact .here | apply Has.there); rfl; (simp only [snocN, setN, dropN, takeN, spliceN, List.length_cons, List.length_nil])) | ((with_reducible apply wpc_load1 hc); exact ⟨by kernel_rfl, by kernel_rfl⟩; rfl; (repeat first | exact .here | apply Has.there); rfl; (simp only [snocN, setN, dropN, takeN, spliceN, List.length_cons, List.length_nil])) | ((with_reducible apply wpc_store hc); (first | exact tfRatio | exact tfGauss | exact tfRotor | exact tfTide | exact tfPort | exact tfFault | exact tfWay | exact tfUnit); rfl; rfl; (repeat first | exact .here | apply Has.there); rfl; rfl; rfl; (clear hc; (try clear w); intro w hc; simp only [snocN, setN, dropN, takeN, spliceN, flatN, flatN.appN, Value.cells, argsN, argN, atN, List.map_cons, List.map_nil, List.length_cons, List.length_nil] at hc ⊢)) | ((with_reducible apply wpc_store1 hc); exact ⟨by kernel_rfl, by kernel_rfl⟩; rfl; (repeat first | exact .here | apply Has.there); rfl; rfl; (clear hc; (try clear w); intro w hc; simp only [snocN, setN, dropN, takeN, spliceN, flatN, flatN.appN, Value.cells, argsN, argN, atN, List.map_cons, List.map_nil, List.length_cons, List.length_nil] at hc ⊢)) | ((with_reducible apply wpc_box hc); rfl; rfl; (clear hc; (try clear w); intro g w hc; simp only [snocN, setN, dropN, takeN, spliceN, flatN, flatN.appN, Value.cells, argsN, argN, atN, List.map_cons, List.map_nil, List.length_cons, List.length_nil] at hc ⊢)) | ((with_reducible apply wpc_alloc hc); (first | exact tfRatio | exact tfGauss | exact tfRotor | exact tfTide | exact tfPort | exact tfFault | exact tfWay | exact tfUnit); (clear hc; (try clear w); intro g w hc; simp only [snocN, setN, dropN, takeN, spliceN, flatN, flatN.appN, Value.cells, argsN, argN, atN, List.map_cons, List.map_nil, List.length_cons, List.length_nil] at hc ⊢)) | ((with_reducible apply wpc_slice hc); (first | exact slGauss | exact slRatio | exact slWords); rfl; rfl; rfl; rfl; rfl; (clear hc; (try clear w); intro g w hc; simp only [snocN, setN, dropN, takeN, spliceN, flatN, flatN.appN, Value.cells, argsN, argN, atN, List.map_cons, List.map_nil, List.length_cons, List.length_nil] at hc ⊢)))
  refine cc_told hc (by (repeat first | exact .here | apply Has.there)) O ?_
  clear hc O; rintro w A1 c1 A2 c2 B1 d1 B2 d2 hc O; simp only [snocN, setN, dropN, takeN, spliceN, flatN, flatN.appN, Value.cells, argsN, argN, atN, List.map_cons, List.map_nil, List.length_cons, List.length_nil] at hc ⊢
  go_wp2_with (first | ((with_reducible apply wpc_load hc); (first | exact tfRatio | exact tfGauss | exact tfRotor | exact tfTide | exact tfPort | exact tfFault | exact tfWay | exact tfUnit); rfl; (repeat first | exact .here | apply Has.there); rfl; (simp only [snocN, setN, dropN, takeN, spliceN, List.length_cons, List.length_nil])) | ((with_reducible apply wpc_load1 hc); exact ⟨by kernel_rfl, by kernel_rfl⟩; rfl; (repeat first | exact .here | apply Has.there); rfl; (simp only [snocN, setN, dropN, takeN, spliceN, List.length_cons, List.length_nil])) | ((with_reducible apply wpc_store hc); (first | exact tfRatio | exact tfGauss | exact tfRotor | exact tfTide | exact tfPort | exact tfFault | exact tfWay | exact tfUnit); rfl; rfl; (repeat first | exact .here | apply Has.there); rfl; rfl; rfl; (clear hc; (try clear w); intro w hc; simp only [snocN, setN, dropN, takeN, spliceN, flatN, flatN.appN, Value.cells, argsN, argN, atN, List.map_cons, List.map_nil, List.length_cons, List.length_nil] at hc ⊢)) | ((with_reducible apply wpc_store1 hc); exact ⟨by kernel_rfl, by kernel_rfl⟩; rfl; (repeat first | exact .here | apply Has.there); rfl; rfl; (clear hc; (try clear w); intro w hc; simp only [snocN, setN, dropN, takeN, spliceN, flatN, flatN.appN, Value.cells, argsN, argN, atN, List.map_cons, List.map_nil, List.length_cons, List.length_nil] at hc ⊢)) | ((with_reducible apply wpc_box hc); rfl; rfl; (clear hc; (try clear w); intro g w hc; simp only [snocN, setN, dropN, takeN, spliceN, flatN, flatN.appN, Value.cells, argsN, argN, atN, List.map_cons, List.map_nil, List.length_cons, List.length_nil] at hc ⊢)) | ((with_reducible apply wpc_alloc hc); (first | exact tfRatio | exact tfGauss | exact tfRotor | exact tfTide | exact tfPort | exact tfFault | exact tfWay | exact tfUnit); (clear hc; (try clear w); intro g w hc; simp only [snocN, setN, dropN, takeN, spliceN, flatN, flatN.appN, Value.cells, argsN, argN, atN, List.map_cons, List.map_nil, List.length_cons, List.length_nil] at hc ⊢)) | ((with_reducible apply wpc_slice hc); (first | exact slGauss | exact slRatio | exact slWords); rfl; rfl; rfl; rfl; rfl; (clear hc; (try clear w); intro g w hc; simp only [snocN, setN, dropN, takeN, spliceN, flatN, flatN.appN, Value.cells, argsN, argN, atN, List.map_cons, List.map_nil, List.length_cons, List.length_nil] at hc ⊢)))
  have k2 := hc.cell (g := _) (.there (.there (.here)))
  refine bodyPost_ret ?_ rfl (fin_GE hc (u := u) (by repeat first | exact .here | apply Lies.there) O hl)
  simp [results, Try.results39, go_sem, k2]
end Go.Proofs.Ytfmhfgjpbkmneaa
