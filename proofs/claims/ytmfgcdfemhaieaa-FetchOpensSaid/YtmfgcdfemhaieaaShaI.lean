/- The last block or two of the program's sum are the reference's padding: plain lists. -/
import Derived.Test.YtmfgcdfemhaieaaShaG
namespace Go.Proofs.Ytmfgcdfemhaieaa
open Go.RowKit

def restOf (p : List Int) (pos q : Nat) : List Int := (p.take pos).drop (64 * q)
theorem restOf_length {p : List Int} {pos q : Nat} (h : pos ≤ p.length) : (restOf p pos q).length = pos - 64 * q := by simp [restOf]; omega
theorem restOf_getD {p : List Int} {pos q i : Nat} (hi : 64 * q + i < pos) : (restOf p pos q).getD i 0 = blockAt p q i := by
  simp only [restOf, blockAt, List.getD_eq_getElem?_getD, List.getElem?_drop, List.getElem?_take]
  rw [if_pos (by omega)]
/-- Byte k of the length in bits, as the program writes it. -/
def lenAt (N k : Nat) : Int := (N : Int) * 8 / 2 ^ (56 - 8 * k) % 256
def lenTo (L : List Int) (at_ N : Nat) : Nat → List Int
  | 0 => L
  | k + 1 => (lenTo L at_ N k).set (at_ + k) (lenAt N k)
theorem lenTo_length (L : List Int) (at_ N k : Nat) : (lenTo L at_ N k).length = L.length := by
  induction k with
  | zero => rfl
  | succ k ih => rw [lenTo, List.length_set, ih]
/-- The last bytes, zeros behind. -/
def lastA (rest : List Int) : List Int := rest ++ List.replicate (128 - rest.length) 0

theorem getD_set (L : List Int) (i x : Nat) (v : Int) (hi : i < L.length) : (L.set i v).getD x 0 = if i = x then v else L.getD x 0 := by
  simp only [List.getD_eq_getElem?_getD, List.getElem?_set]
  by_cases h : i = x
  · subst h; simp [hi]
  · simp [h]
theorem lenTo_getD (L : List Int) (at_ N : Nat) : ∀ k x, at_ + k ≤ L.length → (lenTo L at_ N k).getD x 0 = if at_ ≤ x ∧ x < at_ + k then lenAt N (x - at_) else L.getD x 0 := by
  intro k
  induction k with
  | zero => intro x _; rw [if_neg (by omega)]; rfl
  | succ k ih =>
    intro x hk
    rw [lenTo, getD_set _ _ _ _ (by rw [lenTo_length]; omega), ih x (by omega)]
    by_cases h : at_ + k = x
    · rw [if_pos h, if_pos (by omega)]; congr 1; omega
    · rw [if_neg h]
      by_cases h2 : at_ ≤ x ∧ x < at_ + k
      · rw [if_pos h2, if_pos (by omega)]
      · rw [if_neg h2, if_neg (by omega)]
theorem getD_append (a b : List Int) (x : Nat) : (a ++ b).getD x 0 = if x < a.length then a.getD x 0 else b.getD (x - a.length) 0 := by
  simp only [List.getD_eq_getElem?_getD]
  by_cases h : x < a.length
  · rw [if_pos h, List.getElem?_append_left h]
  · rw [if_neg h, List.getElem?_append_right (by omega)]
theorem getD_replicate (n x : Nat) : (List.replicate n (0 : Int)).getD x 0 = 0 := by
  simp only [List.getD_eq_getElem?_getD, List.getElem?_replicate]
  split <;> rfl
theorem lastA_getD (rest : List Int) (x : Nat) : (lastA rest).getD x 0 = if x < rest.length then rest.getD x 0 else 0 := by
  rw [lastA, getD_append]
  by_cases h : x < rest.length
  · rw [if_pos h, if_pos h]
  · rw [if_neg h, if_neg h, getD_replicate]
theorem padP_at (t : List Int) (x : Nat) : (padP t).getD x 0 = if x < t.length then t.getD x 0 else if x = t.length then 128 else if x < t.length + 1 + padZ t.length then 0 else (beTo t.length 8).getD (x - (t.length + 1 + padZ t.length)) 0 := by
  rw [padP, getD_append, padTo_length]
  by_cases h1 : x < t.length
  · rw [if_pos (by omega), if_pos h1, padTo, List.append_assoc, getD_append, if_pos h1]
  · rw [if_neg h1]
    by_cases h2 : x = t.length
    · rw [if_pos h2, if_pos (by omega), padTo, List.append_assoc, getD_append, if_neg h1, getD_append, if_pos (by simp; omega), h2]
      simp
    · rw [if_neg h2]
      by_cases h3 : x < t.length + 1 + padZ t.length
      · rw [if_pos h3, if_pos h3, padTo, List.append_assoc, getD_append, if_neg h1, getD_append, if_neg (by simp; omega), getD_replicate]
      · rw [if_neg h3, if_neg h3]
theorem beTo_getD (N k : Nat) (hk : k < 8) : (beTo N 8).getD k 0 = lenAt N k := by
  have h : (beTo N 8)[k]? = some (beAt N k) := by simp [beTo, hk]
  rw [List.getD_eq_getElem?_getD, h, Option.getD_some, beAt, lenAt, show 8 * (7 - k) = 56 - 8 * k by omega]
theorem last_len (N : Nat) : 64 * (N / 64) + (if N - 64 * (N / 64) + 9 > 64 then 128 else 64) = N + 9 + padZ N := by
  unfold padZ
  split <;> omega
theorem last_is (t : List Int) (E : Nat) (hE : 64 * (t.length / 64) + E = (padP t).length) (hE2 : E ≤ 128) (x : Nat) (hx : x < E) :
    (lenTo ((lastA (restOf (padP t) t.length (t.length / 64))).set (t.length - 64 * (t.length / 64)) 128) (E - 8) t.length 8).getD x 0 = (padP t).getD (64 * (t.length / 64) + x) 0 := by
  have hl := padP_length t
  have hr : (restOf (padP t) t.length (t.length / 64)).length = t.length - 64 * (t.length / 64) := restOf_length (by omega)
  have hla : (lastA (restOf (padP t) t.length (t.length / 64))).length = 128 := by simp [lastA, hr]; omega
  rw [lenTo_getD _ _ _ _ _ (by rw [List.length_set, hla]; omega), getD_set _ _ _ _ (by omega), lastA_getD, hr, padP_at]
  by_cases h1 : E - 8 ≤ x
  · rw [if_pos (by omega), if_neg (by omega), if_neg (by omega), if_neg (by omega), beTo_getD _ _ (by omega)]
    congr 1; omega
  · rw [if_neg (by omega)]
    by_cases h2 : t.length - 64 * (t.length / 64) = x
    · rw [if_pos h2, if_neg (by omega), if_pos (by omega)]
    · rw [if_neg h2]
      by_cases h3 : x < t.length - 64 * (t.length / 64)
      · rw [if_pos h3, if_pos (by omega), restOf_getD (by omega), blockAt, padP_at, if_pos (by omega)]
      · rw [if_neg h3, if_neg (by omega), if_neg (by omega), if_pos (by omega)]
end Go.Proofs.Ytmfgcdfemhaieaa
