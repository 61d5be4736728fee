/- A []int, a []bool that came in, opened. -/
import Derived.Test.YthamnnhpagllcaaDoorErrV
import Derived.Test.YthamnnhpagllcaaDoorErrM
import Derived.Deep.Grids
namespace Go.Proofs.YthamnnhpagllcaaDoor
open Go.ChangeShapes Go.WideShapes Go.ChangeAt Go.RowKit

theorem cellsI : Tryd.prog.cellsOf 3 = 1 := by kernel_rfl
theorem open_codes {H : Type} {enc : TypeId × Value → H} {W : World} {v : Value} {A : Option Addr} {n c : Nat} {d : DataW H} {ps : List MemPlace} (hv : v = .slice A n c) (hd : DataW.Trod enc Tryd.prog W 0 (fun _ => true) true 46 v d ps) :
    ∃ zs : List Int, zs.length = n ∧ RdI W W.heap.size .i64 A zs ∧ (∀ i, -9223372036854775808 ≤ zs.getD i 0 ∧ zs.getD i 0 ≤ 9223372036854775807) ∧ n ≤ maxLen := by
  obtain ⟨fuel, hf⟩ := hd
  rcases open_ints Tryd.underlying46 Tryd.underlying3 cellsI hf with ⟨hcs, _⟩ | ⟨a, len, cap, zs, hcs, _, hl, hml, hzl, _, hc, hw⟩
  · subst hv
    simp [Value.cells] at hcs
    obtain ⟨rfl, rfl, rfl⟩ := hcs
    exact ⟨[], rfl, RdI.none_ _ _ _, fun i => by simp, Nat.zero_le _⟩
  · subst hv
    simp [Value.cells] at hcs
    obtain ⟨rfl, rfl, rfl⟩ := hcs
    simp only [if_true] at hzl
    have hlen : (zs.take n).length = n := by rw [List.length_take, hzl]; omega
    refine ⟨zs.take n, hlen, ⟨by simp [ints], fun hp => ?_⟩, fun i => ?_, by omega⟩
    · rw [hlen] at hp
      have h0 := hc 0 (by omega)
      refine ⟨a, rfl, ?_, fun j u hu => ?_⟩
      · have := World.block_lt_of_cell? W (a.add 0) h0
        rwa [block_of_add] at this
      · have hj : j < n := by
          have := (List.getElem?_eq_some_iff.1 hu).1
          rwa [ints_length, hlen] at this
        rw [hc j (by omega)]
        have : (ints .i64 (zs.take n))[j]? = some (.int .i64 (zs.getD j 0)) := by
          simp only [ints, List.getElem?_map, List.getElem?_take, if_pos hj, List.getD_eq_getElem?_getD]
          rw [List.getElem?_eq_getElem (by omega)]
          rfl
        rw [← this]; exact hu
    · rcases Nat.lt_or_ge i (zs.take n).length with h | h
      · rw [List.getD_eq_getElem?_getD, List.getElem?_eq_getElem h]
        have hm : (zs.take n)[i] ∈ zs := List.mem_of_mem_take (List.getElem_mem h)
        simpa [Lit.wf, IntKind.min, IntKind.max, IntKind.signed, IntKind.bits] using hw _ hm
      · rw [List.getD_eq_getElem?_getD, List.getElem?_eq_none h]
        simp
theorem cellsB : Tryd.prog.cellsOf 4 = 1 := by kernel_rfl
theorem open_truths {H : Type} {enc : TypeId × Value → H} {W : World} {v : Value} {A : Option Addr} {n c : Nat} {d : DataW H} {ps : List MemPlace} (hv : v = .slice A n c) (hd : DataW.Trod enc Tryd.prog W 0 (fun _ => true) true 47 v d ps) :
    ∃ ys : Nat → Bool, RdT W W.heap.size A n ys ∧ n ≤ maxLen := by
  obtain ⟨fuel, hf⟩ := hd
  rcases Go.Deep.open_bools Tryd.underlying47 Tryd.underlying4 cellsB hf with ⟨hcs, _⟩ | ⟨a, len, cap, B, hcs, _, hl, hml, _, hc⟩
  · subst hv
    simp [Value.cells] at hcs
    obtain ⟨rfl, rfl, rfl⟩ := hcs
    exact ⟨fun _ => false, ⟨fun h => absurd h (by omega)⟩, Nat.zero_le _⟩
  · subst hv
    simp [Value.cells] at hcs
    obtain ⟨rfl, rfl, rfl⟩ := hcs
    refine ⟨B, ⟨fun hp => ?_⟩, by omega⟩
    have h0 := hc 0 (by omega)
    have hsp : a.spot = none := by
      have := World.cell?_spot h0
      simpa [Addr.add] using this
    obtain ⟨b, off, sp⟩ := a
    simp only at hsp
    subst hsp
    refine ⟨b, off, rfl, ?_, fun i hi => ?_⟩
    · have := World.block_lt_of_cell? W _ h0
      rwa [block_of_add] at this
    · have hadd : (⟨b, off, none⟩ : Addr).add i = ⟨b, off + i, none⟩ := by unfold Addr.add; split <;> simp_all
      rw [← hadd]
      exact hc i (by omega)
end Go.Proofs.YthamnnhpagllcaaDoor
