/- Two pieces: the example that each law begins with. -/
import Derived.Test.YtmfgcdfemhaieaaFetK
namespace Go.Proofs.Ytmfgcdfemhaieaa
open Go.RowKit

theorem conv_rd {P : Program} (W : World) (src e : TypeId) (hs : P.underlying src = some (.slice e)) (he : P.underlying e = some (.int .u8)) (A : Option Addr) (n c B : Nat) (xs : List Int) (hn : xs.length = n) (h : RdI W B .u8 A xs) (dst : TypeId) (hd : P.underlying dst = some .string) :
    (convert src dst (.slice A n c)).run P W = .ok (.string (strOfNums xs)) W := by
  subst hn
  rcases Nat.eq_zero_or_pos xs.length with h0 | h0
  · have : xs = [] := List.eq_nil_of_length_eq_zero h0
    subst this
    cases A with
    | none => exact run_convert_bytes_nil W src e hs he 0 c dst hd
    | some a =>
      have hl : (loadCells a 0).run P W = .ok #[] W := by simp [loadCells, loadCellsFrom]
      have h1 := run_convert_bytes_string W src dst e (some a) 0 c hs he hd
      have h2 := run_bytesToString W a 0 c [] hl
      show (convert src dst (.slice (some a) 0 c)).run P W = _
      rw [h1, h2, foldl_push_bytes]
      rfl
  · obtain ⟨b, off, rfl, _, hc⟩ := h.all_ h0
    exact run_convert_bytes_arg W src e hs he b off xs.length c xs rfl hc dst hd
theorem RdI.of_row {W : World} {g : Nat} {t : TypeId} {xs : List Int} (h : W.heap[g]? = some (.cells (bys xs) t (0, 0))) {B : Nat} (hB : g < B) : RdI W B .u8 (some ⟨g, 0, none⟩) xs := by
  refine ⟨⟨by rw [ints_length]; omega, fun _ => ⟨_, rfl, hB, fun j u hu => ?_⟩⟩⟩
  have hadd : (⟨g, 0, none⟩ : Addr).add j = ⟨g, j, none⟩ := by unfold Addr.add; split <;> simp_all
  rw [hadd, cell_of_row W g j _ _ _ h]
  simpa [bys, ints] using hu
theorem RdI.from_ {W : World} {g : Nat} {t : TypeId} {xs : List Int} (h : W.heap[g]? = some (.cells (bys xs) t (0, 0))) {B : Nat} (hB : g < B) (m : Nat) : RdI W B .u8 (some ⟨g, m, none⟩) (xs.drop m) := by
  refine ⟨⟨by rw [ints_length]; omega, fun _ => ⟨_, rfl, hB, fun j u hu => ?_⟩⟩⟩
  have hadd : (⟨g, m, none⟩ : Addr).add j = ⟨g, m + j, none⟩ := by unfold Addr.add; split <;> simp_all
  rw [hadd, cell_of_row W g (m + j) _ _ _ h]
  simpa [bys, ints, List.getElem?_drop] using hu

set_option maxRecDepth 100000 in
set_option maxHeartbeats 2000000 in
theorem known_any (w : World) : Calls Try.prog 6 #[] w fun e w' => e = .returned (.bool true) ∧ Below w.heap.size w w' := by
  obtain ⟨xs, hxs⟩ : ∃ xs, madeTo 100 100 = xs := ⟨_, rfl⟩
  have hlen : xs.length = 100 := by rw [← hxs, madeTo_length]
  have hmk := made_any 100 w (by omega)
  unfold MadePost at hmk
  rw [hxs] at hmk
  clear hxs
  go_enter Try.func6, Try.ntmps6
  go_wp2_with fail
  refine hmk.mono ?_
  rintro e w1 ⟨rfl, hr1, hB1⟩
  have Hlen := keep hlen
  have hrow := row_any (some ⟨w.heap.size, 0, none⟩) 100 100 xs 0 w1 (by omega) (by omega) (by omega) hlen (Nat.le_refl _) (RdI.of_row hr1 (row_lt hr1))
  have hz1 := row_lt hr1
  have Hr1 := keep hr1
  clear hr1 hlen hmk
  go_wp2_with fail
  refine hrow.mono ?_
  rintro e w2 ⟨rfl, hB2⟩
  have hl0 : lieSum (sumP xs) (0 % 6) = sumP xs := rfl
  have hs0 : lieSize (100 : Nat) (0 % 6) = 100 := rfl
  rw [hl0, hs0]
  have hnew := new_any (sumP xs) 100 w2 (sumP_len xs) false (by simp; omega)
  have hb2 := hB1.trans (hB2.mono hB1.size)
  clear hrow hl0 hs0
  go_wp2_with fail
  refine hnew.mono ?_
  rintro e w3 ⟨g, rfl, hg, hF3, hB3⟩
  have hS3 : St w3 g (sumP xs) 100 [] 0 0 false false := ⟨⟨_, hF3, OwnB.none_ _ _ _ _⟩⟩
  have hb3 := hb2.trans (hB3.mono hb2.size)
  have hr3 : w3.heap[w.heap.size]? = some (.cells (bys xs) 5 (0, 0)) := by rw [hB3.block _ (Nat.lt_of_lt_of_le hz1 hB2.size), hB2.block _ hz1]; exact Hr1.out
  have hgw : w.heap.size < g := by have := hB2.size; omega
  clear hnew hF3
  have ha3 := ask_st w3 hS3 (by simp) (by omega)
  have HS3 := keep hS3
  have Hr3 := keep hr3
  clear hS3 hr3
  simp only [List.length_nil] at ha3
  have hm3 : min (64 : Int) (max 100 0 - ((0 : Nat) : Int)) = 64 := by omega
  rw [hm3] at ha3
  clear hm3
  go_wp2_with fail
  refine ha3.mono ?_
  rintro e w4 ⟨rfl, hB4⟩
  have hS4 := HS3.out.below hB4 (Nat.le_refl _)
  have hr4 : w4.heap[w.heap.size]? = some (.cells (bys xs) 5 (0, 0)) := by rw [hB4.block _ (row_lt Hr3.out)]; exact Hr3.out
  have hb4 := hb3.trans (hB4.mono hb3.size)
  clear ha3
  unfold askL
  go_wp2_with fail
  have hal : ∀ (W : World) (o : Obj), Below W.heap.size W (W.alloc o) := fun W o => (Below.refl _ _).alloc (Nat.le_refl _) o
  have hS5 := hS4.below (hal w4 (.cells #[.string ⟨#[97]⟩, .int .i64 1, .int .i64 0, .int .i64 0, .slice none 0 0, .int .i64 0, .int .i64 64] 38)) (Nat.le_refl _)
  have hr5 : (w4.alloc (.cells #[.string ⟨#[97]⟩, .int .i64 1, .int .i64 0, .int .i64 0, .slice none 0 0, .int .i64 0, .int .i64 64] 38)).heap[w.heap.size]? = some (.cells (bys xs) 5 (0, 0)) := by rw [Below.heap_alloc _ _ _ (row_lt hr4)]; exact hr4
  have hb5 := hb4.trans ((hal w4 (.cells #[.string ⟨#[97]⟩, .int .i64 1, .int .i64 0, .int .i64 0, .slice none 0 0, .int .i64 0, .int .i64 64] 38)).mono hb4.size)
  have hk5 := heap_alloc_new w4 (.cells #[.string ⟨#[97]⟩, .int .i64 1, .int .i64 0, .int .i64 0, .slice none 0 0, .int .i64 0, .int .i64 64] 38)
  have hz4 := hS4.lt
  have hgq : g < w4.heap.size := hz4
  generalize w4.alloc (.cells #[.string ⟨#[97]⟩, .int .i64 1, .int .i64 0, .int .i64 0, .slice none 0 0, .int .i64 0, .int .i64 64] 38) = w5 at hS5 hr5 hb5 hk5 ⊢
  generalize w4.heap.size = k4 at hk5 hgq ⊢
  have ht6 := take_full (dn := false) w5 hS5 (by simp) (by omega) (some ⟨w.heap.size, 0, none⟩) 64 100 (xs.take 64) ((RdI.of_row hr5 (row_lt hr5)).take_ 64) (by rw [List.length_take, Hlen.out]; omega) (by omega) 64 (by simp; omega) (by omega) (.inl ⟨rfl, by simp [Hlen.out]; omega⟩)
  have e6 : [] ++ (xs.take 64).take 64 = xs.take 64 := by rw [List.take_take]; simp
  rw [e6] at ht6
  have HS5 := keep hS5
  have Hr5 := keep hr5
  have Hk5 := keep hk5
  clear hS4 hr4 hB4 hz4 hS5 hr5 hk5 e6
  refine ht6.mono ?_
  rintro e w6 ⟨rfl, hS6, hB6, hK6⟩
  have hr6 : w6.heap[w.heap.size]? = some (.cells (bys xs) 5 (0, 0)) := by rw [hB6.block _ hgw]; exact Hr5.out
  have hk6 := hK6.out k4 _ _ _ Hk5.out (by omega) (by decide)
  have hb6 : Below w.heap.size w w6 := hb5.trans (hB6.mono (Nat.le_of_lt hgw))
  have hl6 : (xs.take 64).length = 64 := by rw [List.length_take, Hlen.out]; omega
  have ha6 := ask_st w6 hS6 (by rw [hl6]; omega) (by omega)
  rw [hl6] at ha6
  have hm6 : min (64 : Int) (max 100 0 - ((64 : Nat) : Int)) = 36 := by omega
  rw [hm6] at ha6
  have HS6 := keep hS6
  have Hr6 := keep hr6
  have Hk6 := keep hk6
  have HK6 := keep hK6
  clear hm6 hS6 hr6 hk6 hl6 ht6 hK6
  go_wp2_with fail
  refine ha6.mono ?_
  rintro e w7 ⟨rfl, hB7⟩
  have hS7 := HS6.out.below hB7 (Nat.le_refl _)
  have hr7 := (hB7.block _ (row_lt Hr6.out)).trans Hr6.out
  have hk7 := (hB7.block _ (row_lt Hk6.out)).trans Hk6.out
  have hb7 := hb6.trans (hB7.mono hb6.size)
  clear ha6
  have Hr7 := keep hr7
  have Hk7 := keep hk7
  have HS7 := keep hS7
  clear hr7 hk7 hS7
  unfold askL
  go_wp2_with fail
  have hS8 := HS7.out.below (hal w7 (.cells #[.string ⟨#[97]⟩, .int .i64 1, .int .i64 0, .int .i64 0, .slice none 0 0, .int .i64 64, .int .i64 36] 38)) (Nat.le_refl _)
  have hr8 : (w7.alloc (.cells #[.string ⟨#[97]⟩, .int .i64 1, .int .i64 0, .int .i64 0, .slice none 0 0, .int .i64 64, .int .i64 36] 38)).heap[w.heap.size]? = some (.cells (bys xs) 5 (0, 0)) := by rw [Below.heap_alloc _ _ _ (row_lt Hr7.out)]; exact Hr7.out
  have hk8 : (w7.alloc (.cells #[.string ⟨#[97]⟩, .int .i64 1, .int .i64 0, .int .i64 0, .slice none 0 0, .int .i64 64, .int .i64 36] 38)).heap[k4]? = some (.cells #[.string ⟨#[97]⟩, .int .i64 1, .int .i64 0, .int .i64 0, .slice none 0 0, .int .i64 0, .int .i64 64] 38 (0, 0)) := by rw [Below.heap_alloc _ _ _ (row_lt Hk7.out)]; exact Hk7.out
  have hb8 := hb7.trans ((hal w7 (.cells #[.string ⟨#[97]⟩, .int .i64 1, .int .i64 0, .int .i64 0, .slice none 0 0, .int .i64 64, .int .i64 36] 38)).mono hb7.size)
  have hq8 := heap_alloc_new w7 (.cells #[.string ⟨#[97]⟩, .int .i64 1, .int .i64 0, .int .i64 0, .slice none 0 0, .int .i64 64, .int .i64 36] 38)
  have hgr : g < w7.heap.size := HS7.out.lt
  generalize w7.alloc (.cells #[.string ⟨#[97]⟩, .int .i64 1, .int .i64 0, .int .i64 0, .slice none 0 0, .int .i64 64, .int .i64 36] 38) = w8 at hS8 hr8 hk8 hb8 hq8 ⊢
  generalize w7.heap.size = k7 at hq8 hgr ⊢
  have hcat : (xs.take 64) ++ (xs.drop 64).take 36 = xs := by
    rw [List.take_of_length_le (l := xs.drop 64) (by rw [List.length_drop, Hlen.out]; omega), List.take_append_drop]
  have ht9 := take_full (dn := true) w8 hS8 (by rw [List.length_take, Hlen.out]; omega) (by omega) (some ⟨w.heap.size, 64, none⟩) 36 36 (xs.drop 64) (RdI.from_ hr8 (row_lt hr8) 64) (by rw [List.length_drop, Hlen.out]) (by omega) 36 (by rw [List.length_take, Hlen.out]; omega) (by omega) (.inr ⟨rfl, by rw [hcat, Hlen.out]; omega, by rw [hcat]⟩)
  rw [hcat] at ht9
  have Hr8 := keep hr8
  have Hk8 := keep hk8
  have Hq8 := keep hq8
  clear hS8 hr8 hk8 hq8 hcat
  refine ht9.mono ?_
  rintro e w9 ⟨rfl, hS9, hB9, hK9⟩
  have hr9 : w9.heap[w.heap.size]? = some (.cells (bys xs) 5 (0, 0)) := by rw [hB9.block _ hgw]; exact Hr8.out
  have hk9 := hK9.out k4 _ _ _ Hk8.out (by omega) (by decide)
  have hq9 := hK9.out k7 _ _ _ Hq8.out (by omega) (by decide)
  have hb9 : Below w.heap.size w w9 := hb8.trans (hB9.mono (Nat.le_of_lt hgw))
  have hdn := done_yes w9 hS9 (by rw [Hlen.out]; omega)
  have Hr9 := keep hr9
  have Hk9 := keep hk9
  have Hq9 := keep hq9
  have HK9 := keep hK9
  clear hS9 hr9 hk9 hq9 hK9 ht9
  go_wp2_with fail
  refine hdn.mono ?_
  rintro e w10 ⟨A1, c1, rfl, hc1, hR1, hB10⟩
  have hr10 := (hB10.block _ (row_lt Hr9.out)).trans Hr9.out
  have hk10 := (hB10.block _ (row_lt Hk9.out)).trans Hk9.out
  have hq10 := (hB10.block _ (row_lt Hq9.out)).trans Hq9.out
  have hb10 := hb9.trans (hB10.mono hb9.size)
  rw [Hlen.out] at hc1 ⊢
  have hv1 := conv_rd w10 23 5 Try.underlying23 Try.underlying5 A1 100 c1 w10.heap.size xs Hlen.out hR1 9 Try.underlying9
  have hv2 := conv_rd w10 23 5 Try.underlying23 Try.underlying5 (some ⟨w.heap.size, 0, none⟩) 100 100 w10.heap.size xs Hlen.out (RdI.of_row hr10 (row_lt hr10)) 9 Try.underlying9
  have c46 : w10.cell? ⟨k4, 6, none⟩ = some (.int .i64 64) := cell_of_row _ _ 6 _ _ _ hk10
  have c75 : w10.cell? ⟨k7, 5, none⟩ = some (.int .i64 64) := cell_of_row _ _ 5 _ _ _ hq10
  have c76 : w10.cell? ⟨k7, 6, none⟩ = some (.int .i64 36) := cell_of_row _ _ 6 _ _ _ hq10
  generalize strOfNums xs = S at hv1 hv2
  clear hr10 hk10 hq10 hR1 hdn
  go_wp2_with fail
  go_ret
  exact ⟨by simp, hb10⟩
end Go.Proofs.Ytmfgcdfemhaieaa
