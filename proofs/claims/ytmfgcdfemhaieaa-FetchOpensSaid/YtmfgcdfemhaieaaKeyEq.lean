/- Two equal sums are told to be equal. -/
import Derived.Test.YtmfgcdfemhaieaaShaG
import Derived.ChangeKeysEq
namespace Go.Proofs.Ytmfgcdfemhaieaa
open Go.RowKit

theorem part_key (W : World) {key : List Int} {j : Nat} (hj : j < key.length) : (part 5 (bys key) j).run Try.prog W = .ok (.int .u8 (key.getD j 0)) W := by
  have ha : (isAgg 5).run Try.prog W = .ok false W := by kernel_rfl
  have hc : (bys key)[j]? = some (.int .u8 (key.getD j 0)) := by
    simp [bys, List.getElem?_eq_getElem hj, List.getD_eq_getElem?_getD]
  simp [part, ha, hc, Result.andThen]
theorem items_same (W : World) {key : List Int} (is : List Nat) (h : ∀ i ∈ is, i < key.length) : (Op.eqItems 9999 5 1 (bys key) (bys key) is).run Try.prog W = .ok true W := by
  induction is with
  | nil => simp [Op.eqItems]
  | cons i is ih =>
    have h1 := part_key W (h i (by simp))
    have h2 := run_equalIn_int (P := Try.prog) W 9998 5 .u8 .u8 (key.getD i 0) (key.getD i 0) Try.underlying5
    simp only [beq_self_eq_true] at h2
    have h3 := ih (fun j hj => h j (by simp [hj]))
    simp only [Op.eqItems, Nat.mul_one, Sem.run_bind, h1, h2, Result.andThen_ok, Bool.not_true, Bool.false_eq_true, if_false, h3]
theorem keys_same (W : World) {key : List Int} (h : key.length = 32) : (Op.equalIn 10000 30 (.agg (bys key)) (.agg (bys key))).run Try.prog W = .ok true W := by
  obtain ⟨i, hi⟩ := info_of_underlying Try.underlying5
  rw [run_equalIn_array W 9999 (bys key) (bys key) Try.underlying30 hi]
  have hc : Try.prog.cellsOf 5 = 1 := by kernel_rfl
  rw [hc]
  exact items_same W (List.range 32) (fun i hi => by rw [h]; exact List.mem_range.1 hi)
theorem items_eq (W : World) {a b : List Int} (is : List Nat) (ha : ∀ i ∈ is, i < a.length) (hb : ∀ i ∈ is, i < b.length) : (Op.eqItems 9999 5 1 (bys a) (bys b) is).run Try.prog W = .ok (is.all fun i => a.getD i 0 == b.getD i 0) W := by
  induction is with
  | nil => simp [Op.eqItems]
  | cons i is ih =>
    have h1 := part_key W (ha i (by simp))
    have h1' := part_key W (hb i (by simp))
    have h2 := run_equalIn_int (P := Try.prog) W 9998 5 .u8 .u8 (a.getD i 0) (b.getD i 0) Try.underlying5
    have h3 := ih (fun j hj => ha j (by simp [hj])) (fun j hj => hb j (by simp [hj]))
    cases he : (a.getD i 0 == b.getD i 0) with
    | true =>
      rw [he] at h2
      simp only [Op.eqItems, Nat.mul_one, Sem.run_bind, h1, h1', h2, Result.andThen_ok, Bool.not_true, Bool.false_eq_true, if_false, h3, List.all_cons, he, Bool.true_and]
    | false =>
      rw [he] at h2
      simp only [Op.eqItems, Nat.mul_one, Sem.run_bind, h1, h1', h2, Result.andThen_ok, Bool.not_false, if_true, Sem.run_pure, List.all_cons, he, Bool.false_and]
theorem keys_all {a b : List Int} (ha : a.length = 32) (hb : b.length = 32) : ((List.range 32).all fun i => a.getD i 0 == b.getD i 0) = decide (a = b) := by
  rw [Bool.eq_iff_iff]
  simp only [List.all_eq_true, List.mem_range, beq_iff_eq, decide_eq_true_eq]
  constructor
  · intro h
    apply List.ext_getElem (by omega)
    intro i h1 h2
    have := h i (by omega)
    simpa [List.getD_eq_getElem?_getD, List.getElem?_eq_getElem h1, List.getElem?_eq_getElem h2] using this
  · rintro rfl i _
    rfl
theorem keys_eq (W : World) {a b : List Int} (ha : a.length = 32) (hb : b.length = 32) : (Op.equalIn 10000 30 (.agg (bys a)) (.agg (bys b))).run Try.prog W = .ok (decide (a = b)) W := by
  obtain ⟨i, hi⟩ := info_of_underlying Try.underlying5
  rw [run_equalIn_array W 9999 (bys a) (bys b) Try.underlying30 hi]
  have hc : Try.prog.cellsOf 5 = 1 := by kernel_rfl
  rw [hc, ← keys_all ha hb]
  exact items_eq W (List.range 32) (fun i hi => by rw [ha]; exact List.mem_range.1 hi) (fun i hi => by rw [hb]; exact List.mem_range.1 hi)
end Go.Proofs.Ytmfgcdfemhaieaa
