/- The bytes that are made for a fetch. -/
import Derived.Test.YtmfgcdfemhaieaaShaJ
namespace Go.Proofs.Ytmfgcdfemhaieaa
open Go.RowKit

theorem made_zeros (n : Nat) : madeCells (Value.int .u8 0).cells n = bys (List.replicate n 0) := by
  apply Array.ext
  · simp [madeCells, bys]
  · intro i h1 h2
    simp [madeCells, bys, Value.cells, Nat.mod_one]
/-- The byte at k; the row behind i rounds. -/
def madeAt (k : Nat) : Int := (k : Int) * 7 % 256
def madeTo (n i : Nat) : List Int := (List.range n).map fun k => if k < i then madeAt k else 0
theorem madeTo_length (n i : Nat) : (madeTo n i).length = n := by simp [madeTo]
theorem madeTo_zero (n : Nat) : madeTo n 0 = List.replicate n 0 := by
  apply List.ext_getElem
  · simp [madeTo]
  · intro k h1 h2
    simp [madeTo]
theorem madeTo_set {n i : Nat} : (madeTo n i).set i (madeAt i) = madeTo n (i + 1) := by
  apply List.ext_getElem
  · simp [madeTo]
  · intro k h1 h2
    rw [List.getElem_set]
    simp only [madeTo, List.getElem_map, List.getElem_range]
    by_cases e : i = k
    · subst e; simp
    · rw [if_neg e]
      by_cases hk : k < i
      · rw [if_pos hk, if_pos (by omega)]
      · rw [if_neg hk, if_neg (by omega)]
def MadePost (n : Nat) (w : World) (e : Ending) (w' : World) : Prop := e = .returned (.slice (some ⟨w.heap.size, 0, none⟩) n n) ∧ w'.heap[w.heap.size]? = some (.cells (bys (madeTo n n)) 5 (0, 0)) ∧ Below w.heap.size w w'

set_option maxRecDepth 100000 in
set_option maxHeartbeats 2000000 in
theorem made_any (n : Nat) (w : World) (hn7 : n ≤ 100000) : Calls Try.prog 7 #[.int .i64 (n : Int)] w (MadePost n w) := by
  have hmk : ∀ W, (Instr.makeSlice 23 (.int .i64 (n : Int)) (.int .i64 (n : Int))).run Try.prog W = .ok (.slice (some ⟨W.heap.size, 0, none⟩) n n) (W.alloc (.cells (bys (List.replicate n 0)) 5)) := by
    intro W
    obtain ⟨i0, hi, hz⟩ := Option.map_eq_some_iff.1 info5
    simp only [Prod.mk.injEq] at hz
    obtain ⟨z0, z1, z2⟩ := hz
    rw [run_make W 23 5 i0 _ Try.underlying23 hi z0 .i64 .i64 n n (by omega) (by omega) (by rw [z2]; omega) (by omega), z1]
    simp only [Int.toNat_natCast, Nat.mul_one]
    congr 3
    exact made_zeros n
  rw [← madeTo_zero n] at hmk
  go_enter Try.func7, Try.ntmps7
  go_wp2_with fail
  have hr0 : (w.alloc (.cells (bys (madeTo n 0)) 5)).heap[w.heap.size]? = some (.cells (bys (madeTo n 0)) 5 (0, 0)) := heap_alloc_new w _
  have hb0 : Below w.heap.size w (w.alloc (.cells (bys (madeTo n 0)) 5)) := (Below.refl _ _).alloc (Nat.le_refl _) _
  generalize hw1 : w.alloc (.cells (bys (madeTo n 0)) 5) = w1 at *
  clear hw1
  go_loopw [4] (fun i wr => ∃ j : Nat, j ≤ n ∧ i = .int .i64 j ∧ wr.heap[w.heap.size]? = some (.cells (bys (madeTo n j)) 5 (0, 0)) ∧ Below w.heap.size w wr) (fun i _ => n - (intOf i).toNat)
  case atStart => exact ⟨0, by omega, rfl, hr0, hb0⟩
  case round =>
    obtain ⟨j, hj, rfl, hr, hB⟩ := hrel
    by_cases hjl : j < n
    · have ht : decide ((j : Int) < (n : Int)) = true := by simp; omega
      have hjn : (j : Int) < (n : Int) := by omega
      have hc := byte_cell hr (k := j) (by rw [madeTo_length]; exact hjl)
      have hf := frozen_of_row wr w.heap.size j _ _ hr
      have hset := byte_set hr j (madeAt j)
      rw [madeTo_set] at hset
      unfold madeAt at hset
      have Hs := keep hset
      clear hset hr
      go_wp2_with fail
      go_roundw
      case rel => exact ⟨j + 1, by omega, by go_num, Hs.out, hB.setCell (Nat.le_refl _) _⟩
      case measure => simp [intOf]; omega
    · obtain rfl : j = n := by omega
      have ht : decide ((j : Int) < (j : Int)) = false := by simp
      have Hr := keep hr
      clear hr
      go_wp2_with fail
      go_ret
      exact ⟨rfl, Hr.out, hB⟩
end Go.Proofs.Ytmfgcdfemhaieaa
