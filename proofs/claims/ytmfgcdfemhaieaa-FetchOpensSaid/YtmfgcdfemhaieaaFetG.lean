/- A new fetch. -/
import Derived.Test.YtmfgcdfemhaieaaFetF
namespace Go.Proofs.Ytmfgcdfemhaieaa
open Go.RowKit

theorem fetch_built : ∀ (sum : List Int) (size : Int), sum.length = 32 → Try.prog.built 70 [(0, .agg (headL sum size).toArray)] = some (headL sum size ++ tailL (.slice none 0 0) 0 0 false false).toArray
  | [s0, s1, s2, s3, s4, s5, s6, s7, s8, s9, s10, s11, s12, s13, s14, s15, s16, s17, s18, s19, s20, s21, s22, s23, s24, s25, s26, s27, s28, s29, s30, s31], size, _ => by kernel_rfl
theorem headL_at4 {sum : List Int} (size : Int) : (headL sum size).toArray[4]? = some (.slice none 0 0) := by
  rw [List.getElem?_toArray]
  simp [headL]
theorem headL_at38 {sum : List Int} (size : Int) (h : sum.length = 32) : (headL sum size).toArray[38]? = some (.slice none 0 0) := by
  rw [List.getElem?_toArray]
  simp only [headL]
  rw [List.getElem?_append_right (by simp [h])]
  simp [h]
theorem set_same {cs : Array Value} {i : Nat} {v : Value} (h : cs[i]? = some v) : cs.setIfInBounds i v = cs := by
  apply Array.ext_getElem?
  intro j
  rw [Array.getElem?_setIfInBounds]
  by_cases e : i = j
  · subst e
    rw [if_pos rfl]
    split
    · exact h.symm
    · rename_i hh
      rw [Array.getElem?_eq_none (by omega)]
  · rw [if_neg e]
def NewPost (sum : List Int) (size : Int) (D : Bool) (w : World) (e : Ending) (w' : World) : Prop := ∃ g, e = .returned (.pointer (some ⟨g, 0, none⟩)) ∧ w.heap.size ≤ g ∧ Fet w' g sum size (.slice none 0 0) 0 0 D false ∧ Below w.heap.size w w'
set_option maxRecDepth 100000 in
set_option maxHeartbeats 2000000 in
theorem new_any (sum : List Int) (size : Int) (w : World) (hl : sum.length = 32) (D : Bool) (hD : (decide ((0 : Int) = max size 0) && decide (sumP [] = sum)) = D) :
    Calls Try.prog 9 #[.agg (headL sum size).toArray] w (NewPost sum size D w) := by
  have hcl := clone_nil
  have hrow : (w.alloc (.cells (headL sum size).toArray 33)).heap[w.heap.size]? = some (.cells (headL sum size).toArray 33 (0, 0)) := heap_alloc_new w _
  have hb : Below w.heap.size w (w.alloc (.cells (headL sum size).toArray 33)) := (Below.refl _ _).alloc (Nat.le_refl _) _
  go_enter Try.func9, Try.ntmps9
  have h4 := headL_at4 (sum := sum) size
  have h38 := headL_at38 size hl
  have h4' : (headL sum size)[4]? = some (.slice none 0 0) := by simpa using h4
  have h38' : (headL sum size)[38]? = some (.slice none 0 0) := by simpa using h38
  have e4 : (headL sum size).set 4 (.slice none 0 0) = headL sum size := by
    have := set_same h4
    simpa using this
  have e38 : (headL sum size).set 38 (.slice none 0 0) = headL sum size := by
    have := set_same h38
    simpa using this
  have Hsz : Keep ((headL sum size).toArray.size = 39) := ⟨headL_length hl⟩
  have HinF : Keep ((Try.prog.info? 33).map (·.size) = some (headL sum size).toArray.size) := ⟨by rw [Hsz.out]; kernel_rfl⟩
  have Hl := keep hl
  have HD := keep hD
  clear hl hrow hb hD
  go_wp2_with fail
  refine (hcl _).mono ?_
  rintro e w1 ⟨rfl, hw1⟩
  rw [hw1]
  clear hw1 hcl
  go_wp2_with (first | (refine wpList_load_row rfl 33 (.tmp 1) rfl w.heap.size rfl 33 (headL sum size).toArray (0, 0) _ (heap_alloc_new w _) Try.underlying33 rfl HinF.out ?_) | (refine wpList_ok rfl (ex_build _ _ 70 _ rfl _ (headL sum size ++ tailL (.slice none 0 0) 0 0 false false).toArray (by kernel_rfl) (fetch_built _ _ Hl.out) _) ?_))
  have hF : Fet ((w.alloc (.cells (headL sum size).toArray 33)).alloc (.cells (headL sum size ++ tailL (.slice none 0 0) 0 0 false false).toArray 70)) (w.heap.size + 1) sum size (.slice none 0 0) 0 0 false false := by
    refine ⟨Hl.out, ?_⟩
    have := heap_alloc_new (w.alloc (.cells (headL sum size).toArray 33)) (.cells (headL sum size ++ tailL (.slice none 0 0) 0 0 false false).toArray 70)
    have hz : (w.alloc (.cells (headL sum size).toArray 33)).heap.size = w.heap.size + 1 := by simp
    rw [hz] at this
    exact this
  have hb : Below w.heap.size w ((w.alloc (.cells (headL sum size).toArray 33)).alloc (.cells (headL sum size ++ tailL (.slice none 0 0) 0 0 false false).toArray 70)) := ((Below.refl _ _).alloc (Nat.le_refl _) _).alloc (by simp) _
  generalize (w.alloc (.cells (headL sum size).toArray 33)).alloc (.cells (headL sum size ++ tailL (.slice none 0 0) 0 0 false false).toArray 70) = w2 at hF hb ⊢
  have hst : Calls Try.prog 24 #[.pointer (some ⟨w.heap.size + 1, 0, none⟩)] w2 (SettlePost (w.heap.size + 1) sum size (.slice none 0 0) 0 0 false D w2) := by
    have hD := HD.out
    by_cases hs : (0 : Int) = max size 0
    · refine settle_is [] w2 hF (by simpa using hs) rfl (Nat.le_refl _) (by omega) (RdI.none_ _ _ _) D ?_
      rw [← hD]
      simp [← hs]
    · have : D = false := by rw [← hD]; simp [hs]
      subst this
      exact settle_not w2 hF (by simpa using hs)
  clear h4 h38 h4' h38' e4 e38
  have HF := keep hF
  clear hF
  refine hst.mono ?_
  rintro e w3 ⟨rfl, hF3, hG3⟩
  have HF3 := keep hF3
  have HG3 := keep hG3
  clear hF3 hG3 hst
  go_wp2
  go_ret
  exact ⟨w.heap.size + 1, rfl, Nat.le_succ _, HF3.out, hb.grown HG3.out hb.size (fun k hk => by cases hk; exact Nat.le_succ _)⟩
end Go.Proofs.Ytmfgcdfemhaieaa
