/- The law of long texts: the walk. -/
import Derived.Test.YtpgenmddanppoaaShaO
import Derived.Test.YtpgenmddanppoaaShaJ
namespace Go.Proofs.Ytpgenmddanppoaa
open Go.RowKit

theorem made_bytes (n : Nat) : madeCells (Value.int .u8 0).cells n = bys (List.replicate n 0) := by
  apply Array.ext
  · simp [madeCells, bys]
  · intro i h1 h2
    simp [madeCells, bys, Value.cells, Nat.mod_one]
theorem sumP_length (t : List Int) : (sumP t).length = 32 := by simp [sumP, keyTo_length]
/-- A row of bytes is read as a slice. -/
theorem RdI.of_row {W : World} {g : Nat} {t : TypeId} {xs : List Int} (h : W.heap[g]? = some (.cells (bys xs) t (0, 0))) {B : Nat} (hB : g < B) : RdI W B .u8 (some ⟨g, 0, none⟩) xs := by
  refine ⟨⟨by rw [ints_length]; omega, fun _ => ⟨_, rfl, hB, fun j u hu => ?_⟩⟩⟩
  have hadd : (⟨g, 0, none⟩ : Addr).add j = ⟨g, j, none⟩ := by unfold Addr.add; split <;> simp_all
  rw [hadd, cell_of_row W g j _ _ _ h]
  simpa [bys, ints] using hu
theorem RdP.one {W : World} {p B : Nat} {A : Option Addr} {c : Nat} {xs : List Int} (hc : W.cell? ⟨p, 0, none⟩ = some (.slice A xs.length c)) (hB : p < B) (hl : xs.length ≤ c) (h : RdI W B .u8 A xs) : RdP W B (some ⟨p, 0, none⟩) [xs] :=
  ⟨fun j hj => by
    obtain rfl : j = 0 := by simpa using hj
    exact ⟨p, 0, A, c, rfl, hB, hc, hl, h⟩⟩

/-- A slice of one slice of bytes, just made. -/
theorem one_made {wr : World} {g n : Nat} {t t2 : TypeId} {xs : List Int} (hr : wr.heap[g]? = some (.cells (bys xs) t (0, 0))) (hn : xs.length = n) :
    RdP (wr.alloc (.cells #[.slice (some ⟨g, 0, none⟩) n n] t2)) (wr.alloc (.cells #[.slice (some ⟨g, 0, none⟩) n n] t2)).heap.size (some ⟨wr.heap.size, 0, none⟩) [xs] ∧ (wr.alloc (.cells #[.slice (some ⟨g, 0, none⟩) n n] t2)).heap[g]? = some (.cells (bys xs) t (0, 0)) := by
  have hlt := row_lt hr
  have hc1 : (wr.alloc (.cells #[.slice (some ⟨g, 0, none⟩) n n] t2)).cell? ⟨wr.heap.size, 0, none⟩ = some (.slice (some ⟨g, 0, none⟩) xs.length n) := by
    rw [hn, cell_of_row _ wr.heap.size 0 _ _ _ (heap_alloc_new wr _)]; rfl
  have hr1 : (wr.alloc (.cells #[.slice (some ⟨g, 0, none⟩) n n] t2)).heap[g]? = some (.cells (bys xs) t (0, 0)) := by
    rw [Below.heap_alloc _ _ _ hlt]; exact hr
  have hz1 : (wr.alloc (.cells #[.slice (some ⟨g, 0, none⟩) n n] t2)).heap.size = wr.heap.size + 1 := by simp
  exact ⟨RdP.one hc1 (by omega) (by omega) (RdI.of_row hr1 (by omega)), hr1⟩

set_option maxRecDepth 100000 in
set_option maxHeartbeats 2000000 in
theorem long_walk (a0 : Int) (a1 : Int) (w0 : (Lit.int .u16 a0).wf = true) (w : World) :
    Calls Try.prog 4 #[.int .u16 a0, .int .u8 a1] w fun e w' => e = .returned (.bool true) ∧ Below w.heap.size w w' := by
  obtain ⟨h0, h1⟩ : 0 ≤ a0 ∧ a0 ≤ 65535 := by simpa [Lit.wf, IntKind.min, IntKind.max, IntKind.signed, IntKind.bits] using w0
  clear w0
  have hk := known_any w
  go_enter Try.func4, Try.ntmps4
  go_wp2_with fail
  refine hk.mono ?_
  rintro e wk ⟨rfl, hBk⟩
  obtain ⟨n, hn⟩ : ∃ n : Nat, a0 % 700 = n := ⟨(a0 % 700).toNat, by omega⟩
  have hn7 : n < 700 := by omega
  have hn0 : 0 ≤ (n : Int) := by omega
  have hmk : ∀ W, (Instr.makeSlice 24 (.int .i64 (n : Int)) (.int .i64 (n : Int))).run Try.prog W = .ok (.slice (some ⟨W.heap.size, 0, none⟩) n n) (W.alloc (.cells (bys (List.replicate n 0)) 5)) := by
    intro W
    obtain ⟨i0, hi, hz⟩ := Option.map_eq_some_iff.1 info5
    simp only [Prod.mk.injEq] at hz
    obtain ⟨z0, z1, z2⟩ := hz
    rw [run_make W 24 5 i0 _ Try.underlying24 hi z0 .i64 .i64 n n (by omega) (by omega) (by rw [z2]; omega) (by omega), z1]
    simp only [Int.toNat_natCast, Nat.mul_one]
    congr 3
    exact made_bytes n
  go_wp2_with fail
  have hr0 : (wk.alloc (.cells (bys (List.replicate n 0)) 5)).heap[wk.heap.size]? = some (.cells (bys (List.replicate n 0)) 5 (0, 0)) := heap_alloc_new wk _
  have hb0 : Below w.heap.size w (wk.alloc (.cells (bys (List.replicate n 0)) 5)) := hBk.alloc hBk.size _
  have hlk := hBk.size
  generalize hw1 : wk.alloc (.cells (bys (List.replicate n 0)) 5) = w1 at *
  have Hw1 := keep hw1
  clear hw1
  go_loopw [6] (fun i wr => ∃ j : Nat, j ≤ n ∧ i = .int .i64 j ∧ (∃ xs : List Int, xs.length = n ∧ wr.heap[wk.heap.size]? = some (.cells (bys xs) 5 (0, 0))) ∧ Below w.heap.size w wr) (fun i _ => n - (intOf i).toNat)
  case atStart => exact ⟨0, by omega, rfl, ⟨List.replicate n 0, by simp, hr0⟩, hb0⟩
  case round =>
    obtain ⟨j, hj, rfl, ⟨xs, hx, hr⟩, hB⟩ := hrel
    have hlt := row_lt hr
    by_cases hjl : j < n
    · have ht : decide ((j : Int) < (n : Int)) = true := by simp; omega
      have hjn : (j : Int) < (n : Int) := by omega
      have hc := byte_cell hr (k := j) (by omega)
      have hf := frozen_of_row wr wk.heap.size j _ _ hr
      have Hx := keep hx
      have Hr := keep hr
      clear hx hr
      go_wp2_with fail
      go_roundw
      case rel => exact ⟨j + 1, by omega, by go_num, ⟨xs.set j _, by rw [List.length_set]; exact Hx.out, byte_set Hr.out j _⟩, hB.setCell hlk _⟩
      case measure => simp [intOf]; omega
    · have ht : decide ((j : Int) < (n : Int)) = false := by simp; omega
      have Hx := keep hx
      have Hr := keep hr
      clear hx hr
      have hb1 : Below w.heap.size w (wr.alloc (.cells #[.slice (some ⟨wk.heap.size, 0, none⟩) n n] 24)) := hB.alloc hB.size _
      obtain ⟨hP1, hr1⟩ := one_made (t2 := 24) Hr.out Hx.out
      generalize hw2 : wr.alloc (.cells #[.slice (some ⟨wk.heap.size, 0, none⟩) n n] 24) = w2 at *
      have hct := ssum_any (some ⟨wr.heap.size, 0, none⟩) 1 [xs] w2 (by simp [Hx.out]; omega) hP1 (by simp)
      have Hr1 := keep hr1
      have hlt1 := row_lt hr1
      clear hP1 hr1
      go_wp2_with fail
      refine hct.mono ?_
      rintro e w3 ⟨rfl, hB3⟩
      have hb3 := hb1.trans (hB3.mono hb1.size)
      have hr3 : w3.heap[wk.heap.size]? = some (.cells (bys xs) 5 (0, 0)) := by rw [hB3.block _ hlt1]; exact Hr1.out
      obtain ⟨hP4, hr4⟩ := one_made (t2 := 24) hr3 Hx.out
      have hb4 : Below w.heap.size w (w3.alloc (.cells #[.slice (some ⟨wk.heap.size, 0, none⟩) n n] 24)) := hb3.alloc hb3.size _
      generalize hw4 : w3.alloc (.cells #[.slice (some ⟨wk.heap.size, 0, none⟩) n n] 24) = w4 at *
      have hct4 := of_any (some ⟨w3.heap.size, 0, none⟩) 1 [xs] w4 (by simp [Hx.out]; omega) hP4 (by simp)
      have hlK := sumP_length [xs].flatten
      generalize hK : sumP [xs].flatten = K at *
      unfold SumPost at hct4
      rw [hK] at hct4
      have hke := fun W => keys_same W hlK
      clear hct hP4 hr4 hr3 hw2 hK hlK
      go_wp2_with fail
      refine hct4.mono ?_
      rintro e w5 ⟨rfl, hB5⟩
      go_wp2_with fail
      go_ret
      exact ⟨rfl, hb4.trans (hB5.mono hb4.size)⟩
end Go.Proofs.Ytpgenmddanppoaa
