/- Plain: a number that was written is read again; what was kept of a fetch is what it was. -/
import Derived.Test.YtmfgcdfemhaieaaFetW
namespace Go.Proofs.Ytmfgcdfemhaieaa
open Go.RowKit

theorem numR_numP : ∀ (k n i m : Nat) (r : List Int), n < 128 ^ (k + 1) → i + k < 9 → (n ≠ 0 ∨ i = 0) → numR i m (numP n ++ r) = (some (m + n * 128 ^ i), r)
  | k, n, i, m, r, h, hi, h0 => by
    by_cases hn : n < 128
    · rw [numP_low hn]
      have h1 : i < 9 := by omega
      have h2 : (n : Int) < 128 := by omega
      have h3 : (n : Int) ≠ 0 ∨ i = 0 := by omega
      simp only [List.cons_append, List.nil_append, numR, h1, true_or, not_true_eq_false, if_false, h2, if_true, h3, Int.toNat_natCast]
    · rw [numP_high hn]
      match k, h, hi with
      | 0, h, _ => exact absurd (by simpa using h) hn
      | k + 1, h, hi =>
        have h1 : i < 9 := by omega
        have h2 : ¬ (((n % 128 : Nat) : Int) + 128 < 128) := by omega
        have ih := numR_numP k (n / 128) (i + 1) (m + (n % 128) * 128 ^ i) r (by rw [Nat.div_lt_iff_lt_mul (by omega)]; rw [Nat.pow_succ] at h; exact h) (by omega) (.inl (by omega))
        have e1 : (((n % 128 : Nat) : Int) + 128).toNat % 128 = n % 128 := by omega
        simp only [List.cons_append, numR, h1, true_or, not_true_eq_false, if_false, h2, e1, ih]
        have e2 : m + n % 128 * 128 ^ i + n / 128 * 128 ^ (i + 1) = m + n * 128 ^ i := by
          have e3 : n * 128 ^ i = (n % 128 + 128 * (n / 128)) * 128 ^ i := by rw [Nat.mod_add_div]
          rw [e3, Nat.pow_succ, Nat.add_mul]
          have e4 : n / 128 * (128 ^ i * 128) = 128 * (n / 128) * 128 ^ i := by
            rw [Nat.mul_comm (128 ^ i) 128, ← Nat.mul_assoc, Nat.mul_comm (n / 128) 128]
          omega
        rw [e2]
theorem numR_ok (n : Nat) (r : List Int) (h : n < 128 ^ 9) : numR 0 0 (numP n ++ r) = (some n, r) := by
  rw [numR_numP 8 n 0 0 r h (by omega) (.inr rfl)]
  simp
/-- What a text tells of a fetch of so many bytes: its bytes, faulty, spoilt. -/
def openR (bs : List Int) (size : Int) : Option (List Int × Nat × Nat) :=
  if (numF (numF (textF bs false).2.1 (textF bs false).2.2).2.1 (numF (textF bs false).2.1 (textF bs false).2.2).2.2).2.2 = true ∨
     (numF (numF (textF bs false).2.1 (textF bs false).2.2).2.1 (numF (textF bs false).2.1 (textF bs false).2.2).2.2).2.1 ≠ [] ∨
     max size 0 < ((textF bs false).1.length : Int) ∨ 4 ≤ (numF (textF bs false).2.1 (textF bs false).2.2).1 ∨
     2 ≤ (numF (numF (textF bs false).2.1 (textF bs false).2.2).2.1 (numF (textF bs false).2.1 (textF bs false).2.2).2.2).1
  then none
  else some ((textF bs false).1, (numF (textF bs false).2.1 (textF bs false).2.2).1, (numF (numF (textF bs false).2.1 (textF bs false).2.2).2.1 (numF (textF bs false).2.1 (textF bs false).2.2).2.2).1)
theorem openR_text (bytes : List Int) (fa sp : Nat) (size : Int) (hl : bytes.length < 128 ^ 9) (hs : (bytes.length : Int) ≤ max size 0) (hf : fa < 4) (hp : sp < 2) : openR (textOf bytes fa sp) size = some (bytes, fa, sp) := by
  have h1 : textR (textOf bytes fa sp) = (some bytes, numP fa ++ numP sp) := by
    unfold textR textOf
    rw [List.append_assoc, numR_ok _ _ hl]
    simp
  have h2 : textF (textOf bytes fa sp) false = (bytes, numP fa ++ numP sp, false) := by simp [textF, h1]
  have h3 : numF (numP fa ++ numP sp) false = (fa, numP sp, false) := by simp [numF, numR_ok fa _ (by omega)]
  have h4 : numF (numP sp) false = (sp, [], false) := by
    have := numR_ok sp [] (by omega)
    rw [List.append_nil] at this
    simp [numF, this]
  unfold openR
  rw [h2]
  simp only
  rw [h3]
  simp only
  rw [h4]
  simp only [Bool.false_eq_true, ne_eq, not_true_eq_false, false_or]
  rw [if_neg (by omega)]
end Go.Proofs.Ytmfgcdfemhaieaa
