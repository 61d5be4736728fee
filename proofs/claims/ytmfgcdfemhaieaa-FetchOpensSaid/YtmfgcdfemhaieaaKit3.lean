/- Words on owned rows of one-cell values (strings), as the rows of integers have them. -/
import Derived.Test.YtmfgcdfemhaieaaKit2
namespace Go.Proofs.Ytmfgcdfemhaieaa
open Go.RowKit

/-- A row of one-cell values that the call owns. -/
structure OwnV (W : World) (base : Nat) (e : TypeId) (v : Value) (xs : List Value) : Prop where
  out : W.ownsRow base e 1 v xs.length xs
theorem OwnV.none_ (W : World) (base : Nat) (e : TypeId) : OwnV W base e (.slice none 0 0) [] := ⟨⟨by simp, .inl ⟨rfl, rfl⟩⟩⟩
theorem OwnV.grown {w w' : World} {base : Nat} {e : TypeId} {v : Value} {xs : List Value} (h : OwnV w base e v xs) {row : Option Nat} (hg : w.grownBy w' row) (hr : v.ownBlock = none ∨ v.ownBlock ≠ row) : OwnV w' base e v xs := ⟨h.out.kept hg hr⟩
theorem OwnV.slice {w : World} {base : Nat} {e : TypeId} {v : Value} {xs : List Value} (h : OwnV w base e v xs) : ∃ A c, v = .slice A xs.length c ∧ xs.length ≤ c ∧ Reads w w.heap.size 1 A xs.length xs := by
  obtain ⟨h1, h2⟩ := h.out
  rcases h2 with ⟨rfl, h3⟩ | ⟨g, cap, cur, rfl, _, _, hnc, _⟩
  · refine ⟨none, 0, ?_, ?_, ?_⟩
    · rw [h3]
    · omega
    · have : xs = [] := List.eq_nil_of_length_eq_zero h3
      subst this
      exact Reads.none_
  · exact ⟨_, cap, rfl, hnc, Reads.of_own h.out⟩
section
variable {P : Program} {ops : Array Oper} {rest : List Oper} {o : Oper} {a : Act} {Q : Exit → Act → World → Prop}
/-- append(v, y1, .., ym): what is appended lies in a block that was just made. -/
theorem wpList_append_vals {w0 W W' : World} (base : Nat) (hgd : o.guard = none) (s x : Operand) (t e : TypeId) (z : Value) (bytes : Nat)
    (ho : o.op = .call { callee := .builtin .append, args := #[s, x], argTypes := #[t, t] })
    (ht : P.underlying t = some (.slice e)) (hinfo : (P.info? e).map (fun i => (i.zero, i.size, i.bytes)) = some (some z, 1, bytes)) (hz : z.cells.size = 1)
    (v : Value) (xs ys : List Value) (m : Nat) (hW : W' = W.alloc (.cells ys.toArray e)) (hone : ∀ u ∈ ys, u.oneCell' = true) (hs : a.eval s = v) (hx : a.eval x = .slice (some ⟨W.heap.size, 0, none⟩) m m) (hm : ys.length = m)
    (HO : OwnV W base e v xs) (HB : Below base w0 W) (hbase : base ≤ W.heap.size) (hb0 : 0 < bytes) (hl : (xs.length + m) * bytes ≤ 140737488355328)
    (h : ∀ v1 w1, OwnV w1 base e v1 (xs ++ ys) → Below base w0 w1 → W.grownBy w1 v.ownBlock → (v1.ownBlock = v.ownBlock ∨ ∃ b, v1.ownBlock = some b ∧ W.heap.size ≤ b) → wpList P ops Q rest (a.put o.dst v1) w1) :
    wpList P ops Q (o :: rest) a W' := by
  subst hW
  obtain ⟨i0, hi, hzz⟩ := Option.map_eq_some_iff.1 hinfo
  simp only [Prod.mk.injEq] at hzz
  obtain ⟨hz0, hz1, hz2⟩ := hzz
  subst hm
  have hlen : xs.length + ys.length ≤ 140737488355328 := Nat.le_trans (Nat.le_mul_of_pos_right _ hb0) hl
  refine wpList_append_own_at (W.alloc (.cells ys.toArray e)) hgd s x t ho base e i0 z 1 bytes ht hi hz0 hz1 hz2 hz (by omega) v xs.length xs hs (HO.out.alloc _) ⟨W.heap.size, 0, none⟩ ys.length ys.length ys hx (by omega)
    (fun j u hu => ?_) hone (by simp only [maxLen]; omega) hl (by simp; omega) ?_
  · have hc := cell_of_row (W.alloc (.cells ys.toArray e)) W.heap.size j _ _ _ (heap_alloc_new W _)
    have hadd : (⟨W.heap.size, 0, none⟩ : Addr).add j = ⟨W.heap.size, j, none⟩ := by unfold Addr.add; split <;> simp_all
    rw [hadd, hc]
    simpa using hu
  intro v1 w1 hown hg _ hat
  refine h v1 w1 ⟨by rw [List.length_append]; exact hown⟩ ((HB.alloc hbase _).grown hg (by simp; omega) (own_base HO.out)) (World.grownBy.trans (World.grownBy_alloc W _ _) hg) ?_
  rcases hat with hat | hat
  · exact .inl hat
  · exact .inr ⟨_, hat, by simp⟩
end
end Go.Proofs.Ytmfgcdfemhaieaa
