/- A row of one's own whose mark, if it has one, lies behind its last cell: what a text turned to bytes is. -/
import Derived.Test.YtmfgcdfemhaieaaReg
import Derived.Lib.ConvBytes
namespace Go.Proofs.Ytmfgcdfemhaieaa
open Go.RowKit

/-- A row of cells of one word; its mark is none, or behind all. -/
def ownsB (w : World) (base : Nat) (e : TypeId) (v : Value) (n : Nat) (xs : List Value) : Prop :=
  xs.length = n ∧
  ((v = .slice none 0 0 ∧ n = 0) ∨
   ∃ g cap cur fz, v = .slice (some ⟨g, 0, none⟩) n cap ∧ base ≤ g ∧ w.heap[g]? = some (.cells cur e fz) ∧ (fz.2 ≤ fz.1 ∨ cap ≤ fz.1) ∧ n ≤ cap ∧ cap ≤ maxLen ∧ cur.size = cap ∧ cur.toList.take n = xs)
theorem run_storeCells_atB (P : Program) (g o : Nat) (t : TypeId) (fz : Nat × Nat) : ∀ (vs : List Value) (i : Nat) (cur : Array Value) (w : World), w.heap[g]? = some (.cells cur t fz) → (fz.2 ≤ fz.1 ∨ cur.size ≤ fz.1) → o + i + vs.length ≤ cur.size → (∀ v ∈ vs, v.oneCell' = true) →
    (storeCells ⟨g, o, none⟩ vs i).run P w = .ok () (w.setRow g (cur.toList.take (o + i) ++ vs ++ cur.toList.drop (o + i + vs.length)).toArray)
  | [], i, cur, w, hg, _, _, _ => by
    simp only [storeCells, List.append_nil, List.length_nil, Nat.add_zero, List.take_append_drop, Array.toArray_toList]
    rw [setRow_self w g cur t fz hg]
    rfl
  | v :: rest, i, cur, w, hg, hfz, hl, h1 => by
    have hi : o + i < cur.size := by simp at hl; omega
    have hadd : (⟨g, o, none⟩ : Addr).add i = ⟨g, o + i, none⟩ := by unfold Addr.add; split <;> simp_all
    have hcell : w.cell? ⟨g, o + i, none⟩ = some cur[o + i] := by simp [World.cell?, hg, hi]
    have hfro : w.frozen? ⟨g, o + i, none⟩ = false := by
      obtain ⟨lo, hi'⟩ := fz
      simp only [World.frozen?, hg, Bool.and_eq_false_iff, decide_eq_false_iff_not]
      simp only at hfz
      omega
    have hst : (store ((⟨g, o, none⟩ : Addr).add i) v).run P w = .ok () (w.setRow g (cur.setIfInBounds (o + i) v)) := by
      rw [hadd, run_store P w _ v _ (h1 v (by simp)), hcell]
      simp [hfro, setCell_eq_setRow w g (o + i) cur t fz v hg]
    have ih := run_storeCells_atB P g o t fz rest (i + 1) (cur.setIfInBounds (o + i) v) (w.setRow g (cur.setIfInBounds (o + i) v)) (setRow_heap w g cur _ t _ hg) (by simpa using hfz) (by simp at hl ⊢; omega) (fun x hx => h1 x (by simp [hx]))
    simp only [storeCells, Sem.run_bind, hst, Result.andThen_ok, ih, setRow_setRow]
    congr 3
    have e := list_seg_step cur.toList (o + i) v rest (by simp at hl ⊢; omega)
    simpa [Array.toList_setIfInBounds, Nat.add_assoc] using e
/-- A row of the call's own, its numbers xs, its mark behind it. -/
structure OwnB (W : World) (base : Nat) (e : TypeId) (k : IntKind) (v : Value) (xs : List Int) : Prop where
  out : ownsB W base e v xs.length (ints k xs)
section
variable {w w' : World} {B base : Nat} {e : TypeId} {k : IntKind} {v : Value} {xs : List Int}
theorem OwnI.b (h : OwnI w base e k v xs) : OwnB w base e k v xs := ⟨by
  refine ⟨ints_length k xs, ?_⟩
  rcases h.out.2 with hn | ⟨g, cap, cur, hv, hb, hg, hnc, hcm, hcs, htk⟩
  · exact .inl hn
  · exact .inr ⟨g, cap, cur, (0, 0), hv, hb, hg, .inl (Nat.le_refl _), hnc, hcm, by simpa using hcs, by simpa using htk⟩⟩
theorem OwnB.none_ (W : World) (base : Nat) (e : TypeId) (k : IntKind) : OwnB W base e k (.slice none 0 0) [] := (OwnI.none_ W base e k).b
theorem OwnB.base_ (h : OwnB w base e k v xs) (g : Nat) (hk : v.ownBlock = some g) : base ≤ g := by
  rcases h.out.2 with ⟨rfl, _⟩ | ⟨g', cap, cur, fz, rfl, hb, _⟩
  · simp [Value.ownBlock] at hk
  · have : g' = g := by simpa [Value.ownBlock] using hk
    omega
theorem OwnB.lt_ (h : OwnB w base e k v xs) (g : Nat) (hk : v.ownBlock = some g) : g < w.heap.size := by
  rcases h.out.2 with ⟨rfl, _⟩ | ⟨g', cap, cur, fz, rfl, hb, hh, _⟩
  · simp [Value.ownBlock] at hk
  · have : g' = g := by simpa [Value.ownBlock] using hk
    subst this
    exact row_lt hh
theorem OwnB.cells (h : OwnB w base e k v xs) {g : Nat} (hg : v.ownBlock = some g) : ∀ j u, (ints k xs)[j]? = some u → w.cell? ((⟨g, 0, none⟩ : Addr).add j) = some u := by
  intro j u hu
  rcases h.out.2 with ⟨rfl, _⟩ | ⟨g', cap, cur, fz, rfl, _, hgg, _, _, _, _, htake⟩
  · simp [Value.ownBlock] at hg
  · simp [Value.ownBlock] at hg
    subst hg
    have hadd : (⟨g', 0, none⟩ : Addr).add j = ⟨g', j, none⟩ := by unfold Addr.add; split <;> simp_all
    rw [hadd, cell_of_row w g' j cur e fz hgg]
    rw [← htake, List.getElem?_take] at hu
    split at hu
    · simpa using hu
    · cases hu
theorem OwnB.slice (h : OwnB w base e k v xs) : ∃ A c, v = .slice A xs.length c ∧ xs.length ≤ c ∧ RdI w w.heap.size k A xs := by
  rcases h.out.2 with ⟨rfl, hn⟩ | ⟨g, cap, cur, fz, rfl, _, hh, _, hnc, _⟩
  · refine ⟨none, 0, by rw [hn], by omega, ?_⟩
    obtain rfl : xs = [] := List.eq_nil_of_length_eq_zero hn
    exact RdI.none_ _ _ _
  · exact ⟨_, cap, rfl, hnc, ⟨by rw [ints_length]; omega, fun _ => ⟨⟨g, 0, none⟩, rfl, row_lt hh, h.cells rfl⟩⟩⟩
theorem OwnB.grown (h : OwnB w base e k v xs) {row : Option Nat} (hg : w.grownBy w' row) (hr : v.ownBlock = none ∨ v.ownBlock ≠ row) : OwnB w' base e k v xs := ⟨by
  refine ⟨h.out.1, ?_⟩
  rcases h.out.2 with hn | ⟨g, cap, cur, fz, rfl, hb, hgg, rest⟩
  · exact .inl hn
  · refine .inr ⟨g, cap, cur, fz, rfl, hb, ?_, rest⟩
    rw [hg.block g (row_lt hgg) (by simpa [Value.ownBlock] using hr)]
    exact hgg⟩
theorem OwnB.below (h : OwnB w base e k v xs) (hb : Below w.heap.size w w') : OwnB w' base e k v xs :=
  h.grown ⟨hb.os, hb.tape, hb.output, hb.size, fun i hi _ => hb.block i hi⟩ (row := none) (by cases v.ownBlock <;> simp)
theorem OwnB.mono (h : OwnB w base e k v xs) (hb : B ≤ base) : OwnB w B e k v xs := ⟨⟨h.out.1, by
  rcases h.out.2 with h2 | ⟨g, cap, cur, fz, hv, hg, r⟩
  · exact .inl h2
  · exact .inr ⟨g, cap, cur, fz, hv, Nat.le_trans hb hg, r⟩⟩⟩
theorem OwnB.drew (h : OwnB w base e k v xs) : OwnB w.drew base e k v xs := h.grown ⟨rfl, rfl, rfl, Nat.le_refl _, fun _ _ _ => rfl⟩ (row := none) (by cases v.ownBlock <;> simp)
end
end Go.Proofs.Ytmfgcdfemhaieaa
