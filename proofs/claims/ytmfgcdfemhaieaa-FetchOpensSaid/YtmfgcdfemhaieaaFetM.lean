/- A reply to what was asked. -/
import Derived.Test.YtmfgcdfemhaieaaFetL
namespace Go.Proofs.Ytmfgcdfemhaieaa
open Go.RowKit

theorem cut_mid {P : Program} (t e : TypeId) (ht : P.underlying t = some (.slice e)) (hsz : (P.info? e).map (·.size) = some 1) (A : Option Addr) (n c : Nat) (m h : Int) (h0 : 0 ≤ m) (hm : m ≤ h) (hh : h ≤ n) (hnc : n ≤ c) :
    ∃ (A' : Option Addr) (c' : Nat), (h - m).toNat ≤ c' ∧ (∀ W : World, (Instr.slice t (.slice A n c) (some (.int .i64 m)) (some (.int .i64 h)) none).run P W = .ok (.slice A' (h - m).toNat c') W) ∧
      ∀ (w : World) (B : Nat) (k : IntKind) (xs : List Int), xs.length = n → RdI w B k A xs → RdI w B k A' ((xs.drop m.toNat).take (h - m).toNat) := by
  obtain ⟨i, hi, hs⟩ := Option.map_eq_some_iff.1 hsz
  refine ⟨if c = m.toNat then A else A.map (·.add m.toNat), c - m.toNat, by omega, fun W => ?_, fun w B k xs hl hR => ?_⟩
  · have hel : P.elem t = e := by simp [Program.elem, ht]
    have hu : P.underlying t = some (.slice (P.elem t)) := by rw [hel]; exact ht
    rw [run_slice_lh W t A n c hu .i64 .i64 m h h0 hm (by omega), hel]
    have e2 : h.toNat - m.toNat = (h - m).toNat := by omega
    simp [sizeOf, typeInfo, hi, hs, sliced, Result.andThen, e2]
  · refine RdI.take_ ⟨?_⟩ _
    have hmn : m.toNat ≤ n := by omega
    subst hl
    have h1 := hR.out.cut (k := m.toNat) (cap := c) hmn hnc
    simp only [Nat.mul_one] at h1
    have h2 : (ints k xs).drop m.toNat = ints k (xs.drop m.toNat) := by simp [ints, List.map_drop]
    rw [h2] at h1
    rw [List.length_drop]
    exact h1
theorem heap_alloc2 (w : World) (a b : Obj) : ((w.alloc a).alloc b).heap[w.heap.size + 1]? = some b := by
  have := heap_alloc_new (w.alloc a) b
  rwa [show (w.alloc a).heap.size = w.heap.size + 1 by simp] at this
theorem heap_alloc3 (w : World) (a b c : Obj) : (((w.alloc a).alloc b).alloc c).heap[w.heap.size + 1 + 1]? = some c := by
  have := heap_alloc_new ((w.alloc a).alloc b) c
  rwa [show ((w.alloc a).alloc b).heap.size = w.heap.size + 1 + 1 by simp] at this
theorem own_two {W : World} {g : Nat} {A : Option Addr} {c : Nat} {xs : List Int} (h : OwnI W (g + 1) 5 .u8 (.slice A xs.length c) xs) (x y : Value) : RdI ((W.setCell ⟨g, 0, none⟩ x).setCell ⟨g, 1, none⟩ y) ((W.setCell ⟨g, 0, none⟩ x).setCell ⟨g, 1, none⟩ y).heap.size .u8 A xs := by
  have h1 := (h.grown (grown_setCell W g 0 x) (own_ne h))
  have h2 := (h1.grown (grown_setCell _ g 1 y) (own_ne h1))
  obtain ⟨A', c', he, _, hR⟩ := h2.slice
  injection he with e1 e2 e3
  subst e1
  exact hR
def GotPost (k : Int) (zs : List Int) (w : World) (e : Ending) (w' : World) : Prop := ∃ A c, e = .returned (.agg #[.int .i64 k, .slice A zs.length c]) ∧ zs.length ≤ c ∧ RdI w' w'.heap.size .u8 A zs ∧ Below w.heap.size w w'
set_option maxRecDepth 100000 in
set_option maxHeartbeats 2000000 in
theorem got_any (mb L : Nat) (bs : List Int) (off N : Nat) (what xn : Int) (w : World) (hr : w.heap[mb]? = some (.cells (bys bs) 5 (0, 0))) (hL : bs.length = L) (hL2 : L ≤ 1099511627776) (ho : off + N ≤ L) (hx : 0 ≤ xn) (hx2 : xn ≤ 255) (h8 : what = 0 ∨ what = 5 ∨ what = 6) :
    Calls Try.prog 11 #[.slice (some ⟨mb, 0, none⟩) L L, .agg (askL off N).toArray, .agg #[.int .u8 what, .int .u8 xn, .int .i64 0, .slice none 0 0]] w
      (GotPost (if what = 6 then 1 else 0) (if what = 5 then ((bs.drop off).take N).take xn.toNat else (bs.drop off).take N) w) := by
  obtain ⟨A1, c1, hc1, hrun, hrd⟩ := cut_mid (P := Try.prog) 23 5 Try.underlying23 (by kernel_rfl) (some ⟨mb, 0, none⟩) L L (off : Int) ((off : Int) + N) (by omega) (by omega) (by omega) (by omega)
  have e1 : ((off : Int) + N - off).toNat = N := by omega
  rw [e1] at hc1 hrun hrd
  rw [Int.toNat_natCast] at hrd
  clear e1
  have hlt := row_lt hr
  have hR := hrd w w.heap.size .u8 bs hL (RdI.of_row hr hlt)
  have hyl : ((bs.drop off).take N).length = N := by rw [List.length_take, List.length_drop]; omega
  obtain ⟨ys, hys⟩ : ∃ ys, (bs.drop off).take N = ys := ⟨_, rfl⟩
  rw [hys] at hR hyl ⊢
  have HR := keep hR
  have Hyl := keep hyl
  clear hrd hys hR hyl hr
  unfold askL
  have hal : ∀ (W : World) (o : Obj), Below W.heap.size W (W.alloc o) := fun W o => (Below.refl _ _).alloc (Nat.le_refl _) o
  rcases h8 with h8 | h8 | h8
  all_goals subst h8
  · have hb3 : Below w.heap.size w (((w.alloc (.cells #[.string ⟨#[97]⟩, .int .i64 1, .int .i64 0, .int .i64 0, .slice none 0 0, .int .i64 off, .int .i64 N] 38)).alloc (.cells #[.int .u8 0, .int .u8 xn, .int .i64 0, .slice none 0 0] 44)).alloc (.cells #[.int .i64 0, .slice none 0 0] 42)) := (((Below.refl w.heap.size w).alloc (Nat.le_refl _) _).alloc (by simp) _).alloc (by simp; omega) _
    have HR3 : Keep (RdI (((w.alloc (.cells #[.string ⟨#[97]⟩, .int .i64 1, .int .i64 0, .int .i64 0, .slice none 0 0, .int .i64 off, .int .i64 N] 38)).alloc (.cells #[.int .u8 0, .int .u8 xn, .int .i64 0, .slice none 0 0] 44)).alloc (.cells #[.int .i64 0, .slice none 0 0] 42)) w.heap.size .u8 A1 ys) := ⟨HR.out.below hb3⟩
    have Hal := keep hal
    clear hal hlt
    go_enter Try.func11, Try.ntmps11
    go_wp2_with (at_builtin; refine wpList_append_ints (w0 := ((w.alloc (.cells #[.string ⟨#[97]⟩, .int .i64 1, .int .i64 0, .int .i64 0, .slice none 0 0, .int .i64 off, .int .i64 N] 38)).alloc (.cells #[.int .u8 0, .int .u8 xn, .int .i64 0, .slice none 0 0] 44)).alloc (.cells #[.int .i64 0, .slice none 0 0] 42)) (W := ((w.alloc (.cells #[.string ⟨#[97]⟩, .int .i64 1, .int .i64 0, .int .i64 0, .slice none 0 0, .int .i64 off, .int .i64 N] 38)).alloc (.cells #[.int .u8 0, .int .u8 xn, .int .i64 0, .slice none 0 0] 44)).alloc (.cells #[.int .i64 0, .slice none 0 0] 42)) (w.heap.size + 1 + 1 + 1) rfl (.const (.slice none 0 0)) (.tmp 24) 23 5 .u8 1 rfl Try.underlying23 info5 (.slice none 0 0) [] ys w.heap.size A1 N c1 rfl rfl Hyl.out (OwnI.none_ _ _ _ _) HR3.out (Below.refl _ _) (by simp) (by omega) (by simp; omega) ?_)
    rintro v1 w4 hO1 hB1 _ _
    obtain ⟨A2, c2, rfl, hc2, hR2⟩ := hO1.slice
    have HO1 := keep hO1
    rw [Hyl.out] at hc2 ⊢
    have hb4 : Below w.heap.size w w4 := hb3.trans (hB1.mono (by omega))
    have hq1 := (hB1.block (w.heap.size + 1) (by omega)).trans ((Below.heap_alloc _ _ _ (by simp)).trans (heap_alloc2 w _ _))
    have hq2 := (hB1.block (w.heap.size + 1 + 1) (by omega)).trans (heap_alloc3 w _ _ _)
    have hz4 := row_lt hq2
    have c10 := cell_of_row w4 (w.heap.size + 1) 0 _ _ _ hq1
    have c11 := cell_of_row w4 (w.heap.size + 1) 1 _ _ _ hq1
    have c20 := cell_of_row w4 (w.heap.size + 1 + 1) 0 _ _ _ hq2
    have c21 := cell_of_row w4 (w.heap.size + 1 + 1) 1 _ _ _ hq2
    have f20 := frozen_of_row w4 (w.heap.size + 1 + 1) 0 _ _ hq2
    have f21 := frozen_of_row w4 (w.heap.size + 1 + 1) 1 _ _ hq2
    simp only [List.getElem?_toArray, List.getElem?_cons_zero, List.getElem?_cons_succ] at c10 c11 c20 c21
    have hfin := fun k u => own_two HO1.out k u
    have Hfin := keep hfin
    clear hO1 hR2 hq1 hq2 hb3 hB1 hfin
    go_wp2_with fail
    refine bodyPost_ret (v := .agg #[.int .i64 0, .slice A2 N c2]) (by simp [results, Try.results11, go_sem, c20, c21]) rfl ⟨A2, c2, ?_, ?_, ?_, ?_⟩
    · rw [Hyl.out]
    · rw [Hyl.out]; exact hc2
    · exact Hfin.out _ _
    · exact (hb4.setCell (by simp; omega) _).setCell (by simp; omega) _
  · have hb3 : Below w.heap.size w (((w.alloc (.cells #[.string ⟨#[97]⟩, .int .i64 1, .int .i64 0, .int .i64 0, .slice none 0 0, .int .i64 off, .int .i64 N] 38)).alloc (.cells #[.int .u8 5, .int .u8 xn, .int .i64 0, .slice none 0 0] 44)).alloc (.cells #[.int .i64 0, .slice none 0 0] 42)) := (((Below.refl w.heap.size w).alloc (Nat.le_refl _) _).alloc (by simp) _).alloc (by simp; omega) _
    have HR3 : Keep (RdI (((w.alloc (.cells #[.string ⟨#[97]⟩, .int .i64 1, .int .i64 0, .int .i64 0, .slice none 0 0, .int .i64 off, .int .i64 N] 38)).alloc (.cells #[.int .u8 5, .int .u8 xn, .int .i64 0, .slice none 0 0] 44)).alloc (.cells #[.int .i64 0, .slice none 0 0] 42)) w.heap.size .u8 A1 ys) := ⟨HR.out.below hb3⟩
    have Hal := keep hal
    clear hal hlt
    go_enter Try.func11, Try.ntmps11
    go_wp2_with (at_builtin; refine wpList_append_ints (w0 := ((w.alloc (.cells #[.string ⟨#[97]⟩, .int .i64 1, .int .i64 0, .int .i64 0, .slice none 0 0, .int .i64 off, .int .i64 N] 38)).alloc (.cells #[.int .u8 5, .int .u8 xn, .int .i64 0, .slice none 0 0] 44)).alloc (.cells #[.int .i64 0, .slice none 0 0] 42)) (W := ((w.alloc (.cells #[.string ⟨#[97]⟩, .int .i64 1, .int .i64 0, .int .i64 0, .slice none 0 0, .int .i64 off, .int .i64 N] 38)).alloc (.cells #[.int .u8 5, .int .u8 xn, .int .i64 0, .slice none 0 0] 44)).alloc (.cells #[.int .i64 0, .slice none 0 0] 42)) (w.heap.size + 1 + 1 + 1) rfl (.const (.slice none 0 0)) (.tmp 24) 23 5 .u8 1 rfl Try.underlying23 info5 (.slice none 0 0) [] ys w.heap.size A1 N c1 rfl rfl Hyl.out (OwnI.none_ _ _ _ _) HR3.out (Below.refl _ _) (by simp) (by omega) (by simp; omega) ?_)
    rintro v1 w4 hO1 hB1 _ _
    obtain ⟨A2, c2, rfl, hc2, hR2⟩ := hO1.slice
    have HO1 := keep hO1
    rw [Hyl.out] at hc2 ⊢
    have hb4 : Below w.heap.size w w4 := hb3.trans (hB1.mono (by omega))
    have hq1 := (hB1.block (w.heap.size + 1) (by omega)).trans ((Below.heap_alloc _ _ _ (by simp)).trans (heap_alloc2 w _ _))
    have hq2 := (hB1.block (w.heap.size + 1 + 1) (by omega)).trans (heap_alloc3 w _ _ _)
    have hz4 := row_lt hq2
    have c10 := cell_of_row w4 (w.heap.size + 1) 0 _ _ _ hq1
    have c11 := cell_of_row w4 (w.heap.size + 1) 1 _ _ _ hq1
    have c20 := cell_of_row w4 (w.heap.size + 1 + 1) 0 _ _ _ hq2
    have c21 := cell_of_row w4 (w.heap.size + 1 + 1) 1 _ _ _ hq2
    have f20 := frozen_of_row w4 (w.heap.size + 1 + 1) 0 _ _ hq2
    have f21 := frozen_of_row w4 (w.heap.size + 1 + 1) 1 _ _ hq2
    simp only [List.getElem?_toArray, List.getElem?_cons_zero, List.getElem?_cons_succ] at c10 c11 c20 c21
    have hfin := fun k u => own_two HO1.out k u
    have Hfin := keep hfin
    clear hO1 hR2 hq1 hq2 hb3 hB1 hfin
    by_cases hlt5 : (N : Int) < xn
    · have hcut := cut_head (P := Try.prog) 23 5 Try.underlying23 (by kernel_rfl) A2 N c2 (N : Int) (by omega) (by omega)
      rw [Int.toNat_natCast] at hcut
      have e5 : ys.take xn.toNat = ys := List.take_of_length_le (by rw [Hyl.out]; omega)
      have He5 := keep e5
      clear e5
      go_wp2_with fail
      refine bodyPost_ret (v := .agg #[.int .i64 0, .slice A2 N c2]) (by simp [results, Try.results11, go_sem, c20, c21]) rfl ⟨A2, c2, ?_, ?_, ?_, ?_⟩
      · rw [He5.out, Hyl.out]
      · rw [He5.out, Hyl.out]; exact hc2
      · rw [He5.out]; exact Hfin.out _ _
      · exact (hb4.setCell (by simp; omega) _).setCell (by simp; omega) _
    · have hcut := cut_head (P := Try.prog) 23 5 Try.underlying23 (by kernel_rfl) A2 N c2 xn (by omega) (by omega)
      have hl5 : (ys.take xn.toNat).length = xn.toNat := by rw [List.length_take, Hyl.out]; omega
      have Hl5 := keep hl5
      clear hl5
      go_wp2_with fail
      refine bodyPost_ret (v := .agg #[.int .i64 0, .slice A2 xn.toNat c2]) (by simp [results, Try.results11, go_sem, c20, c21]) rfl ⟨A2, c2, ?_, ?_, ?_, ?_⟩
      · rw [Hl5.out]
      · rw [Hl5.out]; omega
      · exact (Hfin.out _ _).take_ _
      · exact (hb4.setCell (by simp; omega) _).setCell (by simp; omega) _
  · have hb3 : Below w.heap.size w (((w.alloc (.cells #[.string ⟨#[97]⟩, .int .i64 1, .int .i64 0, .int .i64 0, .slice none 0 0, .int .i64 off, .int .i64 N] 38)).alloc (.cells #[.int .u8 6, .int .u8 xn, .int .i64 0, .slice none 0 0] 44)).alloc (.cells #[.int .i64 0, .slice none 0 0] 42)) := (((Below.refl w.heap.size w).alloc (Nat.le_refl _) _).alloc (by simp) _).alloc (by simp; omega) _
    have HR3 : Keep (RdI (((w.alloc (.cells #[.string ⟨#[97]⟩, .int .i64 1, .int .i64 0, .int .i64 0, .slice none 0 0, .int .i64 off, .int .i64 N] 38)).alloc (.cells #[.int .u8 6, .int .u8 xn, .int .i64 0, .slice none 0 0] 44)).alloc (.cells #[.int .i64 0, .slice none 0 0] 42)) w.heap.size .u8 A1 ys) := ⟨HR.out.below hb3⟩
    have Hal := keep hal
    clear hal hlt
    go_enter Try.func11, Try.ntmps11
    go_wp2_with (at_builtin; refine wpList_append_ints (w0 := ((w.alloc (.cells #[.string ⟨#[97]⟩, .int .i64 1, .int .i64 0, .int .i64 0, .slice none 0 0, .int .i64 off, .int .i64 N] 38)).alloc (.cells #[.int .u8 6, .int .u8 xn, .int .i64 0, .slice none 0 0] 44)).alloc (.cells #[.int .i64 0, .slice none 0 0] 42)) (W := ((w.alloc (.cells #[.string ⟨#[97]⟩, .int .i64 1, .int .i64 0, .int .i64 0, .slice none 0 0, .int .i64 off, .int .i64 N] 38)).alloc (.cells #[.int .u8 6, .int .u8 xn, .int .i64 0, .slice none 0 0] 44)).alloc (.cells #[.int .i64 0, .slice none 0 0] 42)) (w.heap.size + 1 + 1 + 1) rfl (.const (.slice none 0 0)) (.tmp 24) 23 5 .u8 1 rfl Try.underlying23 info5 (.slice none 0 0) [] ys w.heap.size A1 N c1 rfl rfl Hyl.out (OwnI.none_ _ _ _ _) HR3.out (Below.refl _ _) (by simp) (by omega) (by simp; omega) ?_)
    rintro v1 w4 hO1 hB1 _ _
    obtain ⟨A2, c2, rfl, hc2, hR2⟩ := hO1.slice
    have HO1 := keep hO1
    rw [Hyl.out] at hc2 ⊢
    have hb4 : Below w.heap.size w w4 := hb3.trans (hB1.mono (by omega))
    have hq1 := (hB1.block (w.heap.size + 1) (by omega)).trans ((Below.heap_alloc _ _ _ (by simp)).trans (heap_alloc2 w _ _))
    have hq2 := (hB1.block (w.heap.size + 1 + 1) (by omega)).trans (heap_alloc3 w _ _ _)
    have hz4 := row_lt hq2
    have c10 := cell_of_row w4 (w.heap.size + 1) 0 _ _ _ hq1
    have c11 := cell_of_row w4 (w.heap.size + 1) 1 _ _ _ hq1
    have c20 := cell_of_row w4 (w.heap.size + 1 + 1) 0 _ _ _ hq2
    have c21 := cell_of_row w4 (w.heap.size + 1 + 1) 1 _ _ _ hq2
    have f20 := frozen_of_row w4 (w.heap.size + 1 + 1) 0 _ _ hq2
    have f21 := frozen_of_row w4 (w.heap.size + 1 + 1) 1 _ _ hq2
    simp only [List.getElem?_toArray, List.getElem?_cons_zero, List.getElem?_cons_succ] at c10 c11 c20 c21
    have hfin := fun k u => own_two HO1.out k u
    have Hfin := keep hfin
    clear hO1 hR2 hq1 hq2 hb3 hB1 hfin
    go_wp2_with fail
    refine bodyPost_ret (v := .agg #[.int .i64 1, .slice A2 N c2]) (by simp [results, Try.results11, go_sem, c20, c21]) rfl ⟨A2, c2, ?_, ?_, ?_, ?_⟩
    · rw [Hyl.out]
    · rw [Hyl.out]; exact hc2
    · exact Hfin.out _ _
    · exact (hb4.setCell (by simp; omega) _).setCell (by simp; omega) _
end Go.Proofs.Ytmfgcdfemhaieaa
