/- What is known of the sum of nothing. -/
import Derived.Test.YtpgenmddanppoaaShaM
import Derived.Test.YtpgenmddanppoaaKeyEq
import Derived.Deep.RegionHeld3
namespace Go.Proofs.Ytpgenmddanppoaa
open Go.RowKit

def emptyP : List Int := [227, 176, 196, 66, 152, 252, 28, 20, 154, 251, 244, 200, 153, 111, 185, 36, 39, 174, 65, 228, 100, 155, 147, 76, 164, 149, 153, 27, 120, 82, 184, 85]
def emptyS : ByteArray := ⟨#[101, 51, 98, 48, 99, 52, 52, 50, 57, 56, 102, 99, 49, 99, 49, 52, 57, 97, 102, 98, 102, 52, 99, 56, 57, 57, 54, 102, 98, 57, 50, 52, 50, 55, 97, 101, 52, 49, 101, 52, 54, 52, 57, 98, 57, 51, 52, 99, 97, 52, 57, 53, 57, 57, 49, 98, 55, 56, 53, 50, 98, 56, 53, 53]⟩
set_option maxRecDepth 1000000 in
theorem sum_empty : sumP [] = emptyP := by decide +kernel
theorem hex_emptyP : strOfNums (hexTo emptyP 32) = emptyS := by decide +kernel
theorem parse_emptyP : parseP emptyS = (emptyP, true) := by decide +kernel
theorem parse_xyzP : parseP ⟨#[120, 121, 122]⟩ = (zerosP, false) := by decide +kernel
theorem empty_range (i : Nat) : 0 ≤ emptyP.getD i 0 ∧ emptyP.getD i 0 ≤ 255 := by
  rcases Nat.lt_or_ge i 32 with h | h
  · exact (by decide +kernel : ∀ i : Fin 32, 0 ≤ emptyP.getD i.val 0 ∧ emptyP.getD i.val 0 ≤ 255) ⟨i, h⟩
  · rw [List.getD_eq_getElem?_getD, List.getElem?_eq_none (by simpa [emptyP] using h)]
    simp
theorem RdP.none_ (w : World) (B : Nat) : RdP w B none [] := ⟨fun _ hj => absurd hj (by simp)⟩
theorem emptyS_list : (emptyS.toList == [101, 51, 98, 48, 99, 52, 52, 50, 57, 56, 102, 99, 49, 99, 49, 52, 57, 97, 102, 98, 102, 52, 99, 56, 57, 57, 54, 102, 98, 57, 50, 52, 50, 55, 97, 101, 52, 49, 101, 52, 54, 52, 57, 98, 57, 51, 52, 99, 97, 52, 57, 53, 57, 57, 49, 98, 55, 56, 53, 50, 98, 56, 53, 53]) = true := by decide +kernel
theorem sum_nil (w : World) : Calls Try.prog 8 #[.slice none 0 0] w fun e w' => e = .returned (.agg (bys emptyP)) ∧ Below w.heap.size w w' := by
  have h := ssum_any none 0 [] w (by simp) (RdP.none_ w w.heap.size) (by simp)
  refine h.mono ?_
  rintro e w' ⟨he, hB⟩
  exact ⟨by rw [he, List.flatten_nil, sum_empty], hB⟩
theorem hex_empty (w : World) : Calls Try.prog 9 #[.agg (bys emptyP)] w fun e w' => e = .returned (.string emptyS) ∧ Below w.heap.size w w' :=
  (hex_any emptyP w rfl empty_range).mono fun _ _ ⟨he, hB⟩ => ⟨by rw [he, hex_emptyP], hB⟩
theorem parse_empty (w : World) : Calls Try.prog 11 #[.string emptyS] w fun e w' => e = .returned (.tuple #[.agg (bys emptyP), .bool true]) ∧ Below w.heap.size w w' :=
  (parse_any emptyS w).mono fun _ _ ⟨he, hB⟩ => ⟨by rw [he, parse_emptyP], hB⟩
theorem parse_xyz (w : World) : Calls Try.prog 11 #[.string ⟨#[120, 121, 122]⟩] w fun e w' => e = .returned (.tuple #[.agg (bys zerosP), .bool false]) ∧ Below w.heap.size w w' :=
  (parse_any ⟨#[120, 121, 122]⟩ w).mono fun _ _ ⟨he, hB⟩ => ⟨by rw [he, parse_xyzP], hB⟩

theorem range_below {W w' : World} {g : Nat} {cs : List Value} (h : W.rangeAt g 0 cs) (hb : Below W.heap.size W w') : w'.rangeAt g 0 cs := fun j v hv =>
  (hb.cell (World.block_lt_of_cell? W ⟨g, 0 + j, none⟩ (h j v hv))).trans (h j v hv)

set_option maxRecDepth 100000 in
set_option maxHeartbeats 2000000 in
theorem known_any (w : World) : Calls Try.prog 6 #[] w fun e w' => e = .returned (.bool true) ∧ Below w.heap.size w w' := by
  have Hs := sum_nil
  have Hh := hex_empty
  have Hp := parse_empty
  have Hl : Keep (emptyP.length = 32) := ⟨rfl⟩
  have hDl := emptyS_list
  generalize emptyP = K at *
  generalize emptyS = D at *
  have Hinf : Keep ((Try.prog.info? 26).map (·.size) = some (bys K).size) := ⟨by rw [show (bys K).size = 32 by simp [bys, Hl.out]]; kernel_rfl⟩
  have Hsz : Keep ((bys K).size = 32) := ⟨by simp [bys, Hl.out]⟩
  have Hone : Keep ((bys K).all (·.oneCell') = true) := ⟨by simp [bys, Value.oneCell']⟩
  go_enter Try.func6, Try.ntmps6
  go_wp2_with fail
  refine (Hs _).mono ?_
  rintro e w1 ⟨rfl, hB1⟩
  go_wp2_with fail
  refine (Hh _).mono ?_
  rintro e w2 ⟨rfl, hB2⟩
  go_wp2_with fail
  refine (Hp _).mono ?_
  rintro e w3 ⟨rfl, hB3⟩
  go_wp2_with (refine wpList_store_row rfl 26 (.tmp 1) (.tmp 9) rfl w3.heap.size (bys K) rfl rfl 26 _ (heap_alloc_new w3 _) Hinf.out (by rw [Hsz.out]; rfl) Hone.out ?_)
  rw [setRow_alloc]
  have hr4 : (w3.alloc (.cells (bys K) 26)).heap[w3.heap.size]? = some (.cells (bys K) 26 (0, 0)) := heap_alloc_new w3 _
  have hB4 : Below w3.heap.size w3 (w3.alloc (.cells (bys K) 26)) := (Below.refl _ _).alloc (Nat.le_refl _) _
  generalize w3.alloc (.cells (bys K) 26) = w4 at *
  have hlt4 := row_lt hr4
  have Hr4 := keep hr4
  clear hr4
  go_wp2_with fail
  refine (parse_xyz _).mono ?_
  rintro e w5 ⟨rfl, hB5⟩
  go_wp2_with (refine wpList_store_row rfl 26 (.tmp 3) (.tmp 13) rfl w5.heap.size (bys zerosP) rfl rfl 26 _ (heap_alloc_new w5 _) (by kernel_rfl) rfl (by kernel_rfl) ?_)
  rw [setRow_alloc]
  have hB6 : Below w5.heap.size w5 (w5.alloc (.cells (bys zerosP) 26)) := (Below.refl _ _).alloc (Nat.le_refl _) _
  generalize w5.alloc (.cells (bys zerosP) 26) = w6 at *
  have hlt6 : w3.heap.size < w6.heap.size := Nat.lt_of_lt_of_le (Nat.lt_of_lt_of_le hlt4 hB5.size) hB6.size
  have hr6 : w6.heap[w3.heap.size]? = some (.cells (bys K) 26 (0, 0)) := by
    rw [hB6.block _ (Nat.lt_of_lt_of_le hlt4 hB5.size), hB5.block _ hlt4]; exact Hr4.out
  have hra : w6.drew.rangeAt w3.heap.size 0 (K.map (Value.int .u8)) := by
    rw [World.rangeAt_drew]
    intro j v hv
    rw [cell_of_row w6 _ _ _ _ _ hr6]
    simpa [bys] using hv
  have hbb : Below w.heap.size w w6.drew := by
    have h1 := hB1.trans (hB2.mono hB1.size)
    have h2 := h1.trans (hB3.mono h1.size)
    have h3 := h2.trans (hB4.mono h2.size)
    have h4 := h3.trans (hB5.mono h3.size)
    have h5 := h4.trans (hB6.mono h4.size)
    exact ⟨h5.os, h5.tape, h5.output, h5.size, h5.block⟩
  have Hs' : ∀ W, W.rangeAt w3.heap.size 0 (K.map (Value.int .u8)) → Below w.heap.size w W → Calls Try.prog 8 #[.slice none 0 0] W fun e w' => e = .returned (.agg (bys K)) ∧ w'.rangeAt w3.heap.size 0 (K.map (Value.int .u8)) ∧ Below w.heap.size w w' := by
    intro W h1 h2
    refine (Hs W).mono ?_
    rintro e w' ⟨he, hb⟩
    exact ⟨he, range_below h1 hb, h2.trans (hb.mono h2.size)⟩
  have Hh' : ∀ W, W.rangeAt w3.heap.size 0 (K.map (Value.int .u8)) → Below w.heap.size w W → Calls Try.prog 9 #[.agg (bys K)] W fun e w' => e = .returned (.string D) ∧ w'.rangeAt w3.heap.size 0 (K.map (Value.int .u8)) ∧ Below w.heap.size w w' := by
    intro W h1 h2
    refine (Hh W).mono ?_
    rintro e w' ⟨he, hb⟩
    exact ⟨he, range_below h1 hb, h2.trans (hb.mono h2.size)⟩
  have hke : ∀ W, (Op.equalIn 10000 26 (.agg (List.map (Value.int .u8) K).toArray) (.agg (bys K))).run Try.prog W = .ok true W := fun W => keys_same W Hl.out
  have hu := Try.underlying26
  have hi := Hinf.out
  have hln : (K.map (Value.int .u8)).length = 32 := by rw [List.length_map]; exact Hl.out
  have hi' : (Try.prog.info? 26).map (·.size) = some (K.map (Value.int .u8)).length := by rw [hln]; kernel_rfl
  clear hi Hs Hh Hp hr6 hB1 hB2 hB3 hB4 hB5 hB6 hlt4 hlt6
  go_wp2_with fail
  go_region_held3 (fun w' => w'.rangeAt w3.heap.size 0 (K.map (Value.int .u8)) ∧ Below w.heap.size w w') (first | assumption | exact ⟨by assumption, by assumption⟩) (first | (go_at_call 8; refine (Hs' _ (by assumption) (by assumption)).mono ?_; rintro e w' ⟨rfl, hr', hb'⟩) | (go_at_call 9; refine (Hh' _ (by assumption) (by assumption)).mono ?_; rintro e w' ⟨rfl, hr', hb'⟩))
  all_goals (
    go_wp2_with fail
    go_ret
    exact ⟨rfl, by assumption⟩)
end Go.Proofs.Ytpgenmddanppoaa
