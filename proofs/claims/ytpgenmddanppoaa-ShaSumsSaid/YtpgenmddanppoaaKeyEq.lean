/- Two equal sums are told to be equal. -/
import Derived.Test.YtpgenmddanppoaaShaL
import Derived.ChangeKeysEq
namespace Go.Proofs.Ytpgenmddanppoaa
open Go.RowKit

theorem part_key (W : World) {key : List Int} {j : Nat} (hj : j < key.length) : (part 5 (bys key) j).run Try.prog W = .ok (.int .u8 (key.getD j 0)) W := by
  have ha : (isAgg 5).run Try.prog W = .ok false W := by kernel_rfl
  have hc : (bys key)[j]? = some (.int .u8 (key.getD j 0)) := by
    simp [bys, List.getElem?_eq_getElem hj, List.getD_eq_getElem?_getD]
  simp [part, ha, hc, Result.andThen]
theorem items_same (W : World) {key : List Int} (is : List Nat) (h : ∀ i ∈ is, i < key.length) : (Op.eqItems 9999 5 1 (bys key) (bys key) is).run Try.prog W = .ok true W := by
  induction is with
  | nil => simp [Op.eqItems]
  | cons i is ih =>
    have h1 := part_key W (h i (by simp))
    have h2 := run_equalIn_int (P := Try.prog) W 9998 5 .u8 .u8 (key.getD i 0) (key.getD i 0) Try.underlying5
    simp only [beq_self_eq_true] at h2
    have h3 := ih (fun j hj => h j (by simp [hj]))
    simp only [Op.eqItems, Nat.mul_one, Sem.run_bind, h1, h2, Result.andThen_ok, Bool.not_true, Bool.false_eq_true, if_false, h3]
theorem keys_same (W : World) {key : List Int} (h : key.length = 32) : (Op.equalIn 10000 26 (.agg (bys key)) (.agg (bys key))).run Try.prog W = .ok true W := by
  obtain ⟨i, hi⟩ := info_of_underlying Try.underlying5
  rw [run_equalIn_array W 9999 (bys key) (bys key) Try.underlying26 hi]
  have hc : Try.prog.cellsOf 5 = 1 := by kernel_rfl
  rw [hc]
  exact items_same W (List.range 32) (fun i hi => by rw [h]; exact List.mem_range.1 hi)
end Go.Proofs.Ytpgenmddanppoaa
