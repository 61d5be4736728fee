/- A number's text by the statements' own words. -/
import Derived.Test.YthamnnhpagllcaaDoorErrI
namespace Go.Proofs.YthamnnhpagllcaaDoor
open Go.RowKit Go.Extern.Stop Go.Stop Go.Extern

def StrQ (l : List UInt8) (w : World) (e : Ending) (w' : World) : Prop := e = .returned (.string ⟨l.toArray⟩) ∧ w' = w
theorem decDigits_low {u : Nat} (h : u < 10) : Lib.decDigits u = [UInt8.ofNat (48 + u)] := by rw [Lib.decDigits, dif_pos h]
theorem decDigits_high {u : Nat} (h : ¬ u < 10) : Lib.decDigits u = Lib.decDigits (u / 10) ++ Lib.decDigits (u % 10) := by
  rw [Lib.decDigits, dif_neg h, decDigits_low (Nat.mod_lt u (by omega))]
theorem dig_slice : ∀ u : Nat, u < 10 → (⟨#[48, 49, 50, 51, 52, 53, 54, 55, 56, 57]⟩ : ByteArray).extract u (u + 1) = ⟨(Lib.decDigits u).toArray⟩ := by
  intro u hu
  rw [decDigits_low hu]
  rcases (by omega : u = 0 ∨ u = 1 ∨ u = 2 ∨ u = 3 ∨ u = 4 ∨ u = 5 ∨ u = 6 ∨ u = 7 ∨ u = 8 ∨ u = 9) with rfl | rfl | rfl | rfl | rfl | rfl | rfl | rfl | rfl | rfl <;> rfl
theorem decDigits_len : ∀ (k u : Nat), u < 10 ^ (k + 1) → (Lib.decDigits u).length ≤ k + 1
  | 0, u, h => by rw [decDigits_low (by simpa using h)]; simp
  | k + 1, u, h => by
    by_cases hu : u < 10
    · rw [decDigits_low hu]; simp
    · rw [decDigits_high hu, List.length_append, decDigits_low (Nat.mod_lt u (by omega))]
      have := decDigits_len k (u / 10) (by rw [Nat.div_lt_iff_lt_mul (by omega)]; rw [Nat.pow_succ] at h; exact h)
      simp only [List.length_cons, List.length_nil]
      omega
set_option maxRecDepth 100000 in
set_option maxHeartbeats 2000000 in
theorem dec_nat (k : Nat) : ∀ (u : Nat) (w : World), u ≤ k → u < 9223372036854775808 → Calls Tryd.prog 9 #[.int .i64 (u : Int)] w (StrQ (Lib.decDigits u) w) := by
  induction k with
  | zero =>
    intro u w hk _
    obtain rfl : u = 0 := by omega
    have e0 : Lib.decDigits 0 = [48] := by rw [decDigits_low (by omega)]; rfl
    rw [e0]
    have hs : ∀ W : World, (Instr.slice 9 (.string ⟨#[48, 49, 50, 51, 52, 53, 54, 55, 56, 57]⟩) (some (.int .i64 0)) (some (.int .i64 1)) none).run Tryd.prog W = .ok (.string ⟨#[48]⟩) W := fun W => by kernel_rfl
    go_enter Tryd.func9, Tryd.ntmps9
    go_wp2_with fail
    go_ret
    exact ⟨rfl, rfl⟩
  | succ k ih =>
    intro u w hk hu
    have h0 : decide ((u : Int) < 0) = false := by simp
    by_cases hlow : u < 10
    · have t1 : decide ((u : Int) < 10) = true := by simp; omega
      have hs : ∀ W : World, (Instr.slice 9 (.string ⟨#[48, 49, 50, 51, 52, 53, 54, 55, 56, 57]⟩) (some (.int .i64 (u : Int))) (some (.int .i64 ((u : Int) + 1))) none).run Tryd.prog W = .ok (.string ⟨(Lib.decDigits u).toArray⟩) W := by
        intro W
        rw [← dig_slice u hlow]
        rcases (by omega : u = 0 ∨ u = 1 ∨ u = 2 ∨ u = 3 ∨ u = 4 ∨ u = 5 ∨ u = 6 ∨ u = 7 ∨ u = 8 ∨ u = 9) with rfl | rfl | rfl | rfl | rfl | rfl | rfl | rfl | rfl | rfl <;> kernel_rfl
      have hu0 : (0 : Int) ≤ (u : Int) := by omega
      have hu9 : (u : Int) ≤ 9 := by omega
      clear ih
      go_enter Tryd.func9, Tryd.ntmps9
      go_wp2_with fail
      go_ret
      exact ⟨rfl, rfl⟩
    · have t1 : decide ((u : Int) < 10) = false := by simp; omega
      have h1 := ih (u / 10) w (by omega) (by omega)
      have h2 := ih (u % 10) w (by omega) (by omega)
      have e1 : ((u / 10 : Nat) : Int) = (u : Int) / 10 := by omega
      have e2 : ((u % 10 : Nat) : Int) = (u : Int) % 10 := by omega
      rw [e1] at h1
      rw [e2] at h2
      have hl1 := decDigits_len 18 (u / 10) (by omega)
      have hl2 := decDigits_len 18 (u % 10) (by omega)
      have hadd := add_str (Lib.decDigits (u / 10)) (Lib.decDigits (u % 10)) (by omega) (by omega)
      rw [← decDigits_high hlow] at hadd
      have hu0 : (0 : Int) ≤ (u : Int) := by omega
      have hu9 : (u : Int) ≤ 9223372036854775807 := by omega
      have H1 := keep h1
      have H2 := keep h2
      clear ih h1 h2 e1 e2
      go_enter Tryd.func9, Tryd.ntmps9
      go_wp2_with fail
      refine H1.out.mono ?_
      rintro e w1 ⟨rfl, hw⟩
      rw [hw]
      clear hw
      go_wp2_with fail
      refine H2.out.mono ?_
      rintro e w2 ⟨rfl, hw⟩
      rw [hw]
      clear hw
      go_wp2_with fail
      go_ret
      exact ⟨rfl, rfl⟩
set_option maxRecDepth 100000 in
set_option maxHeartbeats 2000000 in
theorem dec_neg (k : Nat) : ∀ (u : Nat) (w : World), u ≤ k → 1 ≤ u → u ≤ 9223372036854775808 → Calls Tryd.prog 9 #[.int .i64 (-(u : Int))] w (StrQ (45 :: Lib.decDigits u) w) := by
  induction k with
  | zero => intro u w hk h1 _; omega
  | succ k ih =>
    intro u w hk hu1 hu
    have h0 : decide ((-(u : Int)) < 0) = true := by simp; omega
    by_cases hlow : u < 10
    · have t1 : decide ((-(u : Int)) < -9) = false := by simp; omega
      have h1 := dec_nat u u w (Nat.le_refl _) (by omega)
      have hl := decDigits_len 18 u (by omega)
      have hadd := add_str [45] (Lib.decDigits u) (by simp) (by omega)
      have e0 : ([45] : List UInt8).toArray = #[45] := rfl
      have e1 : [45] ++ Lib.decDigits u = 45 :: Lib.decDigits u := rfl
      rw [e0, e1] at hadd
      have hu0 : (0 : Int) ≤ (u : Int) := by omega
      have hu9 : (u : Int) ≤ 9 := by omega
      have H1 := keep h1
      clear ih h1 e0 e1
      go_enter Tryd.func9, Tryd.ntmps9
      go_wp2_with fail
      refine H1.out.mono ?_
      rintro e w1 ⟨rfl, hw⟩
      rw [hw]
      clear hw
      go_wp2_with fail
      go_ret
      exact ⟨rfl, rfl⟩
    · have t1 : decide ((-(u : Int)) < -9) = true := by simp; omega
      have h1 := ih (u / 10) w (by omega) (by omega) (by omega)
      have h2 := dec_nat (u % 10) (u % 10) w (Nat.le_refl _) (by omega)
      have hl1 := decDigits_len 18 (u / 10) (by omega)
      have hl2 := decDigits_len 18 (u % 10) (by omega)
      have hadd := add_str (45 :: Lib.decDigits (u / 10)) (Lib.decDigits (u % 10)) (by simp; omega) (by omega)
      have e3 : (45 :: Lib.decDigits (u / 10)) ++ Lib.decDigits (u % 10) = 45 :: Lib.decDigits u := by rw [decDigits_high hlow]; rfl
      rw [e3] at hadd
      have e1 : ((u / 10 : Nat) : Int) = (u : Int) / 10 := by omega
      have e2 : ((u % 10 : Nat) : Int) = (u : Int) % 10 := by omega
      rw [e1] at h1
      rw [e2] at h2
      have H1 := keep h1
      have H2 := keep h2
      clear ih h1 h2 e1 e2 e3
      go_enter Tryd.func9, Tryd.ntmps9
      go_wp2_with fail
      refine H1.out.mono ?_
      rintro e w1 ⟨rfl, hw⟩
      rw [hw]
      clear hw
      go_wp2_with fail
      refine H2.out.mono ?_
      rintro e w2 ⟨rfl, hw⟩
      rw [hw]
      clear hw
      go_wp2_with fail
      go_ret
      exact ⟨rfl, rfl⟩
theorem dec_any (n : Int) (h0 : -9223372036854775808 ≤ n) (h1 : n ≤ 9223372036854775807) (w : World) : Calls Tryd.prog 9 #[.int .i64 n] w (StrQ (Lib.itoa n) w) := by
  by_cases hn : n < 0
  · obtain ⟨u, rfl⟩ : ∃ u : Nat, n = -(u : Int) := ⟨n.natAbs, by omega⟩
    rw [Lib.itoa_neg u (by omega)]
    exact dec_neg u u w (Nat.le_refl _) (by omega) (by omega)
  · obtain ⟨u, rfl⟩ : ∃ u : Nat, n = (u : Int) := ⟨n.toNat, by omega⟩
    rw [Lib.itoa_nonneg u]
    exact dec_nat u u w (Nat.le_refl _) (by omega)
end Go.Proofs.YthamnnhpagllcaaDoor
