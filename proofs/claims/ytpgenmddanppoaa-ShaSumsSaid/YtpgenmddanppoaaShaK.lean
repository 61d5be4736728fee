/- The texts of a sum. -/
import Derived.Test.YtpgenmddanppoaaShaH
import Derived.Test.YtpgenmddanppoaaKit2
namespace Go.Proofs.Ytpgenmddanppoaa
open Go.RowKit

/-- A hexadecimal digit. -/
def hexd (i : Int) : Int := if i < 10 then 48 + i else 87 + i
theorem dig_nat (n : Nat) (hn : n < 16) (W : World) : (Instr.index 9 (.string ⟨#[48, 49, 50, 51, 52, 53, 54, 55, 56, 57, 97, 98, 99, 100, 101, 102]⟩) (.int .u8 (n : Int))).run Try.prog W = .ok (.int .u8 (hexd n)) W := by
  rcases (by omega : n = 0 ∨ n = 1 ∨ n = 2 ∨ n = 3 ∨ n = 4 ∨ n = 5 ∨ n = 6 ∨ n = 7 ∨ n = 8 ∨ n = 9 ∨ n = 10 ∨ n = 11 ∨ n = 12 ∨ n = 13 ∨ n = 14 ∨ n = 15) with rfl | rfl | rfl | rfl | rfl | rfl | rfl | rfl | rfl | rfl | rfl | rfl | rfl | rfl | rfl | rfl
  all_goals kernel_rfl
theorem dig_int {x : Int} (h0 : 0 ≤ x) (h1 : x < 16) (W : World) : (Instr.index 9 (.string ⟨#[48, 49, 50, 51, 52, 53, 54, 55, 56, 57, 97, 98, 99, 100, 101, 102]⟩) (.int .u8 x)).run Try.prog W = .ok (.int .u8 (hexd x)) W := by
  obtain ⟨n, rfl⟩ := Int.eq_ofNat_of_zero_le h0
  exact dig_nat n (by omega) W
theorem idx_key (W : World) {key : List Int} (hk : key.length = 32) {j : Nat} (hj : j < 32) :
    (Instr.index 26 (.agg (bys key)) (.int .i64 (j : Int))).run Try.prog W = .ok (.int .u8 (key.getD j 0)) W := by
  have hs : (sizeOf 5).run Try.prog W = .ok 1 W := by kernel_rfl
  have ha : (isAgg 5).run Try.prog W = .ok false W := by kernel_rfl
  have hu : (underlying 26).run Try.prog W = .ok (.array 32 5) W := by kernel_rfl
  have hc : (bys key)[j]? = some (.int .u8 (key.getD j 0)) := by
    have : j < key.length := by omega
    simp [bys, List.getElem?_eq_getElem this, List.getD_eq_getElem?_getD]
  have hp : (part 5 (bys key) j).run Try.prog W = .ok (.int .u8 (key.getD j 0)) W := by
    simp [part, ha, hc, Result.andThen]
  have hjn : (j : Int) < 32 := by omega
  simp [Instr.index, asIntOf, hu, hs, hp, hj, Result.andThen]
/-- The first i bytes' text. -/
def hexTo (key : List Int) : Nat → List Int
  | 0 => []
  | i + 1 => hexTo key i ++ [hexd (key.getD i 0 / 16), hexd (key.getD i 0 % 16)]
theorem hexTo_length (key : List Int) (i : Nat) : (hexTo key i).length = 2 * i := by
  induction i with
  | zero => rfl
  | succ i ih => rw [hexTo, List.length_append, ih]; simp; omega
def HexPost (key : List Int) (w : World) (e : Ending) (w' : World) : Prop := e = .returned (.string (strOfNums (hexTo key 32))) ∧ Below w.heap.size w w'

theorem read_string {P : Program} {W : World} {B : Nat} {A : Option Addr} {xs : List Int} (h : RdI W B .u8 A xs) (hpos : 0 < xs.length) (c : Nat) {src e : TypeId} (hs : P.underlying src = some (.slice e)) (he : P.underlying e = some (.int .u8)) :
    ∀ dst, P.underlying dst = some .string → (convert src dst (.slice A xs.length c)).run P W = .ok (.string (strOfNums xs)) W := by
  obtain ⟨b, off, rfl, _, hc⟩ := h.all_ hpos
  exact run_convert_bytes_arg W src e hs he b off xs.length c xs rfl hc

set_option maxRecDepth 100000 in
set_option maxHeartbeats 2000000 in
theorem rhex_any (key : List Int) (w : World) (hk : key.length = 32) (hr : ∀ i, 0 ≤ key.getD i 0 ∧ key.getD i 0 ≤ 255) :
    Calls Try.prog 10 #[.agg (bys key)] w (HexPost key w) := by
  have Hk := keep hk
  have Hr := keep hr
  clear hk hr
  go_enter Try.func10, Try.ntmps10
  go_wp2
  have hr0 : (w.alloc (.cells (bys key) 26)).heap[w.heap.size]? = some (.cells (bys key) 26 (0, 0)) := heap_alloc_new w _
  have hb0 : Below w.heap.size w (w.alloc (.cells (bys key) 26)) := (Below.refl _ _).alloc (Nat.le_refl _) _
  generalize hw1 : w.alloc (.cells (bys key) 26) = w1 at hr0 hb0
  have hlt1 := row_lt hr0
  have Hw1 := keep hw1
  clear hw1
  go_loopw [3, 4] (fun v i wr => ∃ j : Nat, j ≤ 32 ∧ i = .int .i64 j ∧ OwnI wr (w.heap.size + 1) 5 .u8 v (hexTo key j) ∧ wr.heap[w.heap.size]? = some (.cells (bys key) 26 (0, 0)) ∧ Below w.heap.size w wr) (fun _ i _ => 32 - (intOf i).toNat)
  case atStart =>
    refine ⟨0, by omega, rfl, OwnI.none_ _ _ _ _, ?_, ?_⟩
    · have := Hw1.out; exact this ▸ hr0
    · have := Hw1.out; exact this ▸ hb0
  case round =>
    obtain ⟨j, hj, rfl, hO, hr, hB⟩ := hrel
    have hlt := row_lt hr
    by_cases hjl : j < 32
    · have hnx : hexTo key (j + 1) = hexTo key j ++ [hexd (key.getD j 0 / 16), hexd (key.getD j 0 % 16)] := rfl
      have hc := byte_cell hr (k := j) (by rw [Hk.out]; omega)
      have hlen := hexTo_length key j
      obtain ⟨x0, x1⟩ := Hr.out j
      generalize key.getD j 0 = x at *
      generalize hexTo key j = ys at *
      have Hnx := keep hnx
      have Hlen := keep hlen
      have Hr' := keep hr
      have hd1 := dig_int (x := x / 16) (by omega) (by omega) wr.drew
      have hd2 := dig_int (x := x % 16) (by omega) (by omega) wr.drew
      have ha := and15_range x0 x1
      have ht : decide ((j : Int) < 32) = true := by simp; omega
      have hj32 : (j : Int) < 32 := by omega
      clear hnx hlen hr
      go_wp2
      go_region_law ((refine step_append_made (w0 := wr) (W := wr.drew) (w.heap.size + 1) (by rfl) (.tmp 9) (.tmp 20) 24 5 .u8 1 (by rfl) Try.underlying24 info5 _ ys [hexd (x / 16), hexd (x % 16)] 2 (by rfl) (by simp [Act.eval]) (by simp [Act.eval]) rfl hO.drew ⟨rfl, rfl, rfl, Nat.le_refl _, fun _ _ => rfl⟩ (by exact hlt) (by omega) (by rw [Hlen.out]; omega) ?_; intro v1 w4 hO4 hB4 hg4 hat4))
      all_goals (
        simp only [Act.put, List.setIfInBounds_toArray, List.set_cons_succ, List.set_cons_zero, List.getElem_toArray, List.getElem_cons_succ, List.getElem_cons_zero]
        go_wp2
        go_roundw
        case rel =>
          refine ⟨j + 1, by omega, by go_num, by rw [Hnx.out]; exact hO4, ?_, hB.trans (hB4.mono (by omega))⟩
          rw [hB4.block _ (by omega)]
          exact Hr'.out
        case measure => simp [intOf]; omega)
    · obtain rfl : j = 32 := by omega
      have hlen := hexTo_length key 32
      obtain ⟨A3, c3, rfl, hc3, hR3⟩ := hO.slice
      have hcv := read_string hR3 (by omega) c3 Try.underlying24 Try.underlying5 9 Try.underlying9
      generalize hf : hexTo key 32 = fin at *
      have Hlen := keep hlen
      have Hf := keep hf
      clear hlen hf
      go_wp2
      go_ret
      exact ⟨by rw [Hf.out]; rfl, hB⟩
theorem hex_any (key : List Int) (w : World) (hk : key.length = 32) (hr : ∀ i, 0 ≤ key.getD i 0 ∧ key.getD i 0 ≤ 255) :
    Calls Try.prog 9 #[.agg (bys key)] w (HexPost key w) := by
  have Hk := keep hk
  have Hr := keep hr
  clear hk hr
  have hr0 : (w.alloc (.cells (bys key) 26)).heap[w.heap.size]? = some (.cells (bys key) 26 (0, 0)) := heap_alloc_new w _
  have hb0 : Below w.heap.size w (w.alloc (.cells (bys key) 26)) := (Below.refl _ _).alloc (Nat.le_refl _) _
  have Hinf : Keep ((Try.prog.info? 26).map (·.size) = some (bys key).size) := ⟨by rw [show (bys key).size = 32 by simp [bys, Hk.out]]; kernel_rfl⟩
  go_enter Try.func9, Try.ntmps9
  go_wp2_with (refine wpList_load_row rfl 26 (.tmp 1) rfl w.heap.size rfl 26 (bys key) (0, 0) _ hr0 Try.underlying26 rfl Hinf.out ?_)
  have hlt1 := row_lt hr0
  generalize hw1 : w.alloc (.cells (bys key) 26) = w1 at *
  have Hw1 := keep hw1
  clear hw1
  go_loopw [3, 7] (fun v i wr => ∃ j : Nat, j ≤ 32 ∧ i = .int .i64 j ∧ OwnI wr (w.heap.size + 1) 5 .u8 v (hexTo key j) ∧ Below w.heap.size w wr ∧ w.heap.size < wr.heap.size) (fun _ i _ => 32 - (intOf i).toNat)
  case atStart =>
    refine ⟨0, by omega, rfl, OwnI.none_ _ _ _ _, ?_, ?_⟩
    · have := Hw1.out; exact this ▸ hb0
    · have := Hw1.out; exact this ▸ hlt1
  case round =>
    obtain ⟨j, hj, rfl, hO, hB, hlt⟩ := hrel
    by_cases hjl : j < 32
    · have hnx : hexTo key (j + 1) = hexTo key j ++ [hexd (key.getD j 0 / 16), hexd (key.getD j 0 % 16)] := rfl
      have hc := idx_key wr Hk.out hjl
      have hlen := hexTo_length key j
      obtain ⟨x0, x1⟩ := Hr.out j
      generalize key.getD j 0 = x at *
      generalize hexTo key j = ys at *
      have Hnx := keep hnx
      have Hlen := keep hlen
      have hd1 := dig_int (x := x / 16) (by omega) (by omega) wr.drew
      have hd2 := dig_int (x := x % 16) (by omega) (by omega) wr.drew
      have ha := and15_range x0 x1
      have ht : decide ((j : Int) < 32) = true := by simp; omega
      have hj32 : (j : Int) < 32 := by omega
      clear hnx hlen
      go_wp2
      go_region_law ((refine step_append_made (w0 := wr) (W := wr.drew) (w.heap.size + 1) (by rfl) (.tmp 10) (.tmp 17) 24 5 .u8 1 (by rfl) Try.underlying24 info5 _ ys [hexd (x / 16), hexd (x % 16)] 2 (by rfl) (by simp [Act.eval]) (by simp [Act.eval]) rfl hO.drew ⟨rfl, rfl, rfl, Nat.le_refl _, fun _ _ => rfl⟩ (by exact hlt) (by omega) (by rw [Hlen.out]; omega) ?_; intro v1 w4 hO4 hB4 hg4 hat4))
      all_goals (
        simp only [Act.put, List.setIfInBounds_toArray, List.set_cons_succ, List.set_cons_zero, List.getElem_toArray, List.getElem_cons_succ, List.getElem_cons_zero]
        go_wp2
        go_roundw
        case rel =>
          exact ⟨j + 1, by omega, by go_num, by rw [Hnx.out]; exact hO4, hB.trans (hB4.mono (by omega)), Nat.lt_of_lt_of_le hlt hB4.size⟩
        case measure => simp [intOf]; omega)
    · obtain rfl : j = 32 := by omega
      have hlen := hexTo_length key 32
      obtain ⟨A3, c3, rfl, hc3, hR3⟩ := hO.slice
      have hcv := read_string hR3 (by omega) c3 Try.underlying24 Try.underlying5 9 Try.underlying9
      generalize hf : hexTo key 32 = fin at *
      have Hlen := keep hlen
      have Hf := keep hf
      clear hlen hf
      go_wp2
      go_ret
      exact ⟨by rw [Hf.out]; rfl, hB⟩
end Go.Proofs.Ytpgenmddanppoaa
