/- More words on memory for this seat's walks: an append of what was just made, in a region that draws; an array of bytes by value; small bit laws. -/
import Derived.Test.YtmfgcdfemhaieaaKit
namespace Go.Proofs.Ytmfgcdfemhaieaa
open Go.RowKit

section
variable {P : Program} {ops : Array Oper} {o : Oper} {a : Act} {K : Act → World → Prop} {Q : Exit → Act → World → Prop} {E : Prop}
theorem step_append_made {w0 W W' : World} (base : Nat) (hgd : o.guard = none) (s x : Operand) (t e : TypeId) (k : IntKind) (bytes : Nat)
    (ho : o.op = .call { callee := .builtin .append, args := #[s, x], argTypes := #[t, t] })
    (ht : P.underlying t = some (.slice e)) (hinfo : (P.info? e).map (fun i => (i.zero, i.size, i.bytes)) = some (some (.int k 0), 1, bytes))
    (v : Value) (xs ys : List Int) (m : Nat) (hW : W' = W.alloc (.cells (ints k ys).toArray e)) (hs : a.eval s = v) (hx : a.eval x = .slice (some ⟨W.heap.size, 0, none⟩) m m) (hm : ys.length = m)
    (HO : OwnI W base e k v xs) (HB : Below base w0 W) (hbase : base ≤ W.heap.size) (hb0 : 0 < bytes) (hl : (xs.length + m) * bytes ≤ 140737488355328)
    (h : ∀ v1 w1, OwnI w1 base e k v1 (xs ++ ys) → Below base w0 w1 → W.grownBy w1 v.ownBlock → (v1.ownBlock = v.ownBlock ∨ ∃ b, v1.ownBlock = some b ∧ W.heap.size ≤ b) → K (a.put o.dst v1) w1) :
    if Region.wanted o (yielded ops a.tmps) = true then Oper.wp P o a W' K Q else E := by
  have hw : Region.wanted o (yielded ops a.tmps) = true := by simp [Region.wanted, hgd]
  rw [if_pos hw]
  subst hW
  obtain ⟨i0, hi, hzz⟩ := Option.map_eq_some_iff.1 hinfo
  simp only [Prod.mk.injEq] at hzz
  obtain ⟨hz0, hz1, hz2⟩ := hzz
  subst hm
  have hlen : xs.length + ys.length ≤ 140737488355328 := Nat.le_trans (Nat.le_mul_of_pos_right _ hb0) hl
  have hR : Reads (W.alloc (.cells (ints k ys).toArray e)) (W.heap.size + 1) 1 (some ⟨W.heap.size, 0, none⟩) ys.length (ints k ys) := by
    refine ⟨by rw [ints_length]; omega, fun _ => ⟨_, rfl, Nat.lt_succ_self _, fun j u hu => ?_⟩⟩
    have hc := cell_of_row (W.alloc (.cells (ints k ys).toArray e)) W.heap.size j _ _ _ (heap_alloc_new W _)
    have hadd : (⟨W.heap.size, 0, none⟩ : Addr).add j = ⟨W.heap.size, j, none⟩ := by unfold Addr.add; split <;> simp_all
    rw [hadd, hc]
    simpa using hu
  refine wp_append_any (W.alloc (.cells (ints k ys).toArray e)) s x t ho base e i0 (.int k 0) 1 bytes ht hi hz0 hz1 hz2 rfl (by omega) v xs.length (ints k xs) hs (HO.out.alloc _) (W.heap.size + 1) (some ⟨W.heap.size, 0, none⟩) ys.length ys.length (ints k ys) hx hR (ints_one k ys) (by simp only [maxLen]; omega) hl (by simp; omega) ?_
  intro v1 w1 hown hg hat
  refine h v1 w1 ⟨by rw [List.length_append]; simpa [ints] using hown⟩ ((HB.alloc hbase _).grown hg (by simp; omega) (own_base HO.out)) (World.grownBy.trans (World.grownBy_alloc W _ _) hg) ?_
  rcases hat with hat | hat
  · exact .inl hat
  · exact .inr ⟨_, hat, by simp⟩
end
theorem and15 : ∀ x : Fin 256, bits BinOp.and IntKind.u8 ((x.val : Nat) : Int) 15 = (x.val : Int) % 16 := by decide +kernel
theorem and15_range {x : Int} (h0 : 0 ≤ x) (h1 : x ≤ 255) : bits BinOp.and IntKind.u8 x 15 = x % 16 := by
  have h := and15 ⟨x.toNat, by omega⟩
  simp only at h
  have e : ((x.toNat : Nat) : Int) = x := by omega
  rwa [e] at h
end Go.Proofs.Ytmfgcdfemhaieaa
