/- From the rows' condition to what the walks ask of the package variables; a world that meets it; a []Layer, opened. -/
import Derived.Test.YthamnnhpagllcaaDoorRows
import Derived.Test.YthamnnhpagllcaaDoorErrI
import Derived.ProofKit
import Derived.LaidMore
import Derived.LaidHandle
import Derived.LaidSub
import Derived.LaidLaws
import Derived.Stop.Joined
import Derived.Lib.LaidTab
import Derived.Deep.SlicePairs
namespace Go.Proofs.YthamnnhpagllcaaDoor
open Go.ChangeShapes Go.WideShapes Go.ChangeAt Go.RowKit

theorem laidOut : laidOutB Tryd.prog = true := by kernel_rfl
theorem own : ownKnob Tryd.prog.godebug = none := by kernel_rfl
/-- What every row of the seat lists. -/
def lst : List (String × DataW Unit) := [("math/bits.deBruijn32tab", Rows.laid_math_bits_deBruijn32tab), ("math/bits.deBruijn64tab", Rows.laid_math_bits_deBruijn64tab), ("internal/strconv.uint64pow10", Rows.laid_internal_strconv_uint64pow10), ("errors.errorType", Rows.laid_errors_errorType)]
theorem et : Tryd.prog.globalNamed "errors.errorType" = some 0 := by kernel_rfl
theorem rt : (Tryd.prog.cutTypes.find? (·.1 == "internal/reflectlite.rtype")).map (·.2) = some 79 := by kernel_rfl
theorem oneRow : ((List.range Tryd.prog.types.size).filter fun t => Tryd.prog.rowNamed t [101, 114, 114, 111, 114]) = [27] := by kernel_rfl
theorem p10ty : (Tryd.prog.globals[1]?).map (·.type) = some 111 := by kernel_rfl
theorem p10cells : Tryd.prog.cellsOf 111 = 20 := by kernel_rfl
theorem u64cells : Tryd.prog.cellsOf 102 = 1 := by kernel_rfl
theorem p10data : (lst.filter fun x => x.1 == "internal/strconv.uint64pow10") = [("internal/strconv.uint64pow10", Lib.tabData .u64 Lib.pow10Tab)] := by kernel_rfl
theorem env_of_laid {W : World} (h : laidMetH Tryd.prog lst W) : Env W := by
  have h' : laidMet Tryd.prog [("math/bits.deBruijn32tab", Rows.laid_math_bits_deBruijn32tab), ("math/bits.deBruijn64tab", Rows.laid_math_bits_deBruijn64tab), ("internal/strconv.uint64pow10", Rows.laid_internal_strconv_uint64pow10)] W ∧ handlesMet Tryd.prog [("errors.errorType", Rows.laid_errors_errorType)] W := h
  refine ⟨?_, ?_⟩
  · obtain ⟨name, u, ty, e1, e2, e3, e4, e5⟩ := h'.2 _ (List.mem_singleton.2 rfl)
    have en : name = [101, 114, 114, 111, 114] := (Option.some.inj e1).symm
    subst en
    obtain rfl := Option.some.inj (rt.symm.trans e2)
    have hm : ty ∈ (List.range Tryd.prog.types.size).filter fun t => Tryd.prog.rowNamed t [101, 114, 114, 111, 114] := List.mem_filter.2 ⟨List.mem_range.2 e3, e4⟩
    rw [oneRow] at hm
    obtain rfl := List.mem_singleton.1 hm
    have hh : typeHandle Tryd.prog 27 = .pointer (some ⟨5, 27, none⟩) := by kernel_rfl
    rw [hh] at e5
    simpa using World.var?_cell et e5 0
  · have h1 := h'.1.filter (fun x => x.1 == "internal/strconv.uint64pow10")
    have e : ([("math/bits.deBruijn32tab", Rows.laid_math_bits_deBruijn32tab), ("math/bits.deBruijn64tab", Rows.laid_math_bits_deBruijn64tab), ("internal/strconv.uint64pow10", Rows.laid_internal_strconv_uint64pow10)].filter fun x : String × DataW Unit => x.1 == "internal/strconv.uint64pow10") = [("internal/strconv.uint64pow10", Lib.tabData .u64 Lib.pow10Tab)] := by kernel_rfl
    rw [e] at h1
    exact Lib.tabIs_of_head pow10_at p10ty Tryd.underlying111 Tryd.underlying102 u64cells p10cells h1
theorem size_of_laid {W : World} (h : laidMetH Tryd.prog lst W) : 5 ≤ W.heap.size := by
  have h' : laidMet Tryd.prog [("math/bits.deBruijn32tab", Rows.laid_math_bits_deBruijn32tab), ("math/bits.deBruijn64tab", Rows.laid_math_bits_deBruijn64tab), ("internal/strconv.uint64pow10", Rows.laid_internal_strconv_uint64pow10)] W ∧ handlesMet Tryd.prog [("errors.errorType", Rows.laid_errors_errorType)] W := h
  obtain ⟨_, ⟨_, _, _, _, _, _, _, _, _, _, ⟨g, t, cs, _, _, _, e1, _, e3, _⟩, _⟩, _⟩ := h'.1
  have e2 : g = 4 := Option.some.inj (e1.symm.trans (by kernel_rfl))
  subst e2
  unfold World.var? at e3
  rw [e1] at e3
  simp only [Option.bind_some] at e3
  cases hw : W.heap[4]? with
  | none => simp [hw] at e3
  | some o => exact (Array.getElem?_eq_some_iff.1 hw).1
theorem door_met (os : Os) (args : Array Value) : laidMetH Tryd.prog lst ((World.doorLaid Tryd.prog 31 os).forCall (fun _ _ => 0) ⟨#[], args, []⟩).memory :=
  laidMetH_of_parts3 (fuel := 8) (laidMet_of_run' 8 (by kernel_rfl) (by kernel_rfl)) (by kernel_rfl) (by kernel_rfl)
theorem door_shaped (os : Os) (args : Array Value) : ((World.doorLaid Tryd.prog 31 os).forCall (fun _ _ => 0) ⟨#[], args, []⟩).Shaped Tryd.prog := World.shaped_of_RefB (by kernel_rfl) (by kernel_rfl)
theorem cellsL : Tryd.prog.cellsOf 32 = 2 := by kernel_rfl
theorem cellsS : Tryd.prog.cellsOf 9 = 1 := by kernel_rfl
/-- A []Layer that came in. -/
theorem open_layers {H : Type} {enc : TypeId × Value → H} {W : World} {v : Value} {A : Option Addr} {n c : Nat} {d : DataW H} {ps : List MemPlace} (hv : v = .slice A n c) (hd : DataW.Trod enc Tryd.prog W 0 (fun _ => true) true 22 v d ps) :
    ∃ op nm : Nat → ByteArray, RdL W W.heap.size A n op nm ∧ n ≤ maxLen ∧ ∀ i, i < n → (op i).size ≤ maxLen ∧ (nm i).size ≤ maxLen := by
  obtain ⟨fuel, hf⟩ := hd
  rcases Go.Deep.open_slice_pairs Tryd.underlying22 Tryd.underlying32 cellsL rfl rfl cellsS cellsS hf with ⟨hcs, _⟩ | ⟨a, len, cap, m, k, V0, V1, D0, D1, P0, P1, hcs, _, hl, hml, hm, _, hc⟩
  · subst hv
    simp [Value.cells] at hcs
    obtain ⟨rfl, rfl, rfl⟩ := hcs
    exact ⟨fun _ => ⟨#[]⟩, fun _ => ⟨#[]⟩, ⟨fun h => absurd h (by omega)⟩, Nat.zero_le _, fun i hi => absurd hi (by omega)⟩
  · subst hv
    simp [Value.cells] at hcs
    obtain ⟨rfl, rfl, rfl⟩ := hcs
    simp only [if_true] at hm
    subst hm
    have hstr : ∀ i, ∃ s t : ByteArray, i < n → W.cell? (a.add (i * 2)) = some (.string s) ∧ W.cell? (a.add (i * 2 + 1)) = some (.string t) ∧ s.size ≤ maxLen ∧ t.size ≤ maxLen := by
      intro i
      by_cases hi : i < n
      · obtain ⟨q0, q1, q2, q3⟩ := hc i (by omega)
        obtain ⟨s, hs, _, hs1⟩ := DataW.trod_string Tryd.underlying9 q2
        obtain ⟨t, ht, _, ht1⟩ := DataW.trod_string Tryd.underlying9 q3
        simp only [List.cons.injEq, and_true] at hs ht
        rw [hs] at q0
        rw [ht] at q1
        exact ⟨s, t, fun _ => ⟨q0, q1, hs1, ht1⟩⟩
      · exact ⟨⟨#[]⟩, ⟨#[]⟩, fun h => absurd h hi⟩
    obtain ⟨op, hop⟩ := Classical.axiomOfChoice hstr
    obtain ⟨nm, hnm⟩ := Classical.axiomOfChoice hop
    refine ⟨op, nm, ⟨fun hp => ?_⟩, by omega, fun i hi => (hnm i hi).2.2⟩
    have h0 := (hnm 0 hp).1
    have hsp : a.spot = none := by
      have := World.cell?_spot h0
      simpa [Addr.add] using this
    obtain ⟨b, off, sp⟩ := a
    simp only at hsp
    subst hsp
    have hadd : ∀ i, (⟨b, off, none⟩ : Addr).add i = ⟨b, off + i, none⟩ := fun i => by unfold Addr.add; split <;> simp_all
    refine ⟨b, off, rfl, ?_, fun i hi => ?_⟩
    · have := World.block_lt_of_cell? W _ h0
      rwa [block_of_add] at this
    · obtain ⟨x1, x2, _⟩ := hnm i hi
      rw [hadd] at x1 x2
      exact ⟨x1, x2⟩
end Go.Proofs.YthamnnhpagllcaaDoor
