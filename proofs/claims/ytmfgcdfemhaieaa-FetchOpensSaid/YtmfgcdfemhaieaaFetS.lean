/- The reader's numbers. -/
import Derived.Test.YtmfgcdfemhaieaaFetR
namespace Go.Proofs.Ytmfgcdfemhaieaa
open Go.RowKit

/-- What reading a number comes to, and what is left. -/
def numR : Nat → Nat → List Int → Option Nat × List Int
  | _, _, [] => (none, [])
  | i, n, x :: t =>
    if ¬ (i < 9 ∨ x ≤ 1) then (none, t)
    else if x < 128 then (if x ≠ 0 ∨ i = 0 then (some (n + x.toNat * 128 ^ i), t) else (none, t))
    else numR (i + 1) (n + (x.toNat % 128) * 128 ^ i) t
theorem andNot128 : ∀ x : Fin 256, bits BinOp.andNot IntKind.u8 ((x.val : Nat) : Int) 128 = ((x.val % 128 : Nat) : Int) := by decide +kernel
theorem and128 : ∀ x : Fin 256, bits BinOp.and IntKind.u8 ((x.val : Nat) : Int) 128 = if x.val < 128 then 0 else 128 := by decide +kernel
theorem orAt {j m d : Nat} (hm : m < 128 ^ j) (hb : d * 128 ^ j + m < 2 ^ 64) : bits BinOp.or IntKind.u64 (m : Int) (IntKind.u64.wrap ((d : Int) * 2 ^ (7 * j))) = ((m + d * 128 ^ j : Nat) : Int) := by
  have e : (128 : Nat) ^ j = 2 ^ (7 * j) := by rw [Nat.pow_mul]
  rw [e] at hm hb ⊢
  generalize 7 * j = s at *
  have hw : ∀ n : Int, 0 ≤ n → n < 2 ^ 64 → IntKind.u64.wrap n = n := fun n h0 h1 => by
    unfold IntKind.wrap
    simp only [show IntKind.u64.signed = false from rfl, show IntKind.u64.bits = 64 from rfl, Bool.false_and, Bool.false_eq_true, if_false]
    exact Int.emod_eq_of_lt h0 h1
  have h2 : ((d : Int) * 2 ^ s) = ((d * 2 ^ s : Nat) : Int) := by push_cast; rfl
  rw [h2, hw _ (Int.natCast_nonneg _) (by have : d * 2 ^ s < 2 ^ 64 := by omega
                                          exact_mod_cast this)]
  rw [(bits_nat IntKind.u64 64 (Nat.le_refl _) hw m (d * 2 ^ s) (by omega) (by omega)).2]
  have h3 := Nat.two_pow_add_eq_or_of_lt hm d
  rw [Nat.or_comm, Nat.mul_comm d, ← h3, Nat.add_comm]
theorem small {j m d : Nat} (hm : m < 128 ^ j) (hj : j ≤ 9) (hd : d < 128) (h9 : j < 9 ∨ d ≤ 1) : d * 128 ^ j + m < 2 ^ 64 := by
  rcases h9 with h | h
  · have h1 : (d + 1) * 128 ^ j ≤ 128 ^ (j + 1) := by rw [Nat.pow_succ, Nat.mul_comm]; exact Nat.mul_le_mul_left _ hd
    have h2 : 128 ^ (j + 1) ≤ 128 ^ 9 := Nat.pow_le_pow_right (by omega) h
    rw [Nat.add_mul] at h1
    omega
  · have h2 : 128 ^ j ≤ 128 ^ 9 := Nat.pow_le_pow_right (by omega) hj
    have h1 : d * 128 ^ j ≤ 1 * 128 ^ j := Nat.mul_le_mul_right _ h
    omega
def NumPost (q : Nat) (bs : List Int) (w : World) (e : Ending) (w' : World) : Prop :=
  (∃ n r, numR 0 0 bs = (some n, r) ∧ n < 18446744073709551616 ∧ e = .returned (.int .u64 n) ∧ Rdr w' q r false ∧ Below q w w' ∧ KeptT q w w') ∨
  (∃ r, numR 0 0 bs = (none, r) ∧ e = .panicked [{ v := stoppedV, recovered := false }] ∧ Rdr w' q r false ∧ Below q w w' ∧ KeptT q w w')
set_option maxRecDepth 100000 in
set_option maxHeartbeats 2000000 in
theorem num_any (q : Nat) (bs : List Int) (w : World) (H : Rdr w q bs false) (hbs : ∀ x ∈ bs, 0 ≤ x ∧ x < 256) :
    Calls Try.prog 52 #[.pointer (some ⟨q, 0, none⟩)] w (NumPost q bs w) := by
  have HH := keep H
  have Hbs := keep hbs
  clear H hbs
  go_enter Try.func52, Try.ntmps52
  go_wp2
  go_loopw [3, 4] (fun n i wr => ∃ (j m : Nat) (b1 : List Int), i = .int .i64 j ∧ n = .int .u64 m ∧ j ≤ 9 ∧ m < 128 ^ j ∧ numR j m b1 = numR 0 0 bs ∧ b1.length ≤ bs.length ∧ (∀ x ∈ b1, 0 ≤ x ∧ x < 256) ∧ Rdr wr q b1 false ∧ Below q w wr ∧ KeptT q w wr) (fun _ i _ => 10 - (intOf i).toNat)
  case atStart => exact ⟨0, 0, bs, rfl, rfl, by omega, by omega, rfl, Nat.le_refl _, Hbs.out, HH.out, Below.refl _ _, KeptT.refl _ _⟩
  case round =>
    obtain ⟨j, m, b1, rfl, rfl, hj, hm, hnum, hbl, hb1, hR, hB, hK⟩ := hrel
    obtain ⟨A, c, hr, hc, hRd⟩ := hR.st
    have c0 : wr.cell? ⟨q, 0, none⟩ = some (.slice A b1.length c) := cell_of_row _ _ 0 _ _ _ hr
    have hfz := frozen_of_row wr q 0 _ _ hr
    have hlt := row_lt hr
    have Hnum := keep hnum
    have Hb1 := keep hb1
    have HB := keep hB
    have HK := keep hK
    have Hm := keep hm
    have Hr := keep hr
    have HR := keep hR
    have ht10 : decide ((j : Int) < 10) = true := by simp; omega
    clear hnum hb1 hB hK hm hr hR
    cases b1 with
    | nil =>
      have e0 : ([] : List Int).length = 0 := rfl
      rw [e0] at c0
      clear hRd hbl
      go_wp2_with fail
      refine (must_no _).mono ?_
      rintro e w2 ⟨rfl, rfl⟩
      refine ⟨rfl, .inr ⟨[], ?_, rfl, HR.out, HB.out, HK.out⟩⟩
      have e := Hnum.out
      rw [← e, numR]
    | cons x t =>
      obtain ⟨ab, ao, rfl, hab, hat⟩ := hRd.all_ (by simp)
      have cx := hat 0 (by simp)
      simp only [Nat.add_zero, List.getD_cons_zero] at cx
      obtain ⟨hx0, hx1⟩ := Hb1.out x (by simp)
      obtain ⟨A2, hcut, hrd⟩ := cut_tail (P := Try.prog) 23 5 Try.underlying23 (by kernel_rfl) (some ⟨ab, ao, none⟩) (x :: t).length c 1 (by omega) (by simp; omega)
      have hrd2 := hrd wr q .u8 (x :: t) hc rfl hRd
      have hpos : 0 < (x :: t).length := by simp
      have hn1 : (x :: t).length - (1 : Int).toNat = t.length := by simp
      rw [hn1] at hcut
      have hB1 : Below q w (wr.setCell ⟨q, 0, none⟩ (.slice A2 t.length (c - 1))) := HB.out.setCell (Nat.le_refl _) _
      have hK1 : KeptT q w (wr.setCell ⟨q, 0, none⟩ (.slice A2 t.length (c - 1))) := HK.out.cell 0 _
      have hR1 : Rdr (wr.setCell ⟨q, 0, none⟩ (.slice A2 t.length (c - 1))) q t false := by
        refine ⟨⟨A2, c - 1, by rw [heap_setCell_same wr q 0 _ _ _ Hr.out]; rfl, by simp at hc; omega, ?_⟩⟩
        have h2 : RdI wr q .u8 A2 t := by simpa using hrd2
        have hb : Below q wr (wr.setCell ⟨q, 0, none⟩ (.slice A2 t.length (c - 1))) := (Below.refl q wr).setCell (Nat.le_refl q) _
        exact h2.below hb
      have ht1 : ∀ y ∈ t, 0 ≤ y ∧ y < 256 := fun y hy => Hb1.out y (by simp [hy])
      have htl : t.length ≤ bs.length := by simp at hbl; omega
      have HB1 := keep hB1
      have HK1 := keep hK1
      have HR1 := keep hR1
      have Ht1 := keep ht1
      have Htl := keep htl
      clear hat hrd hrd2 hRd hn1 hB1 hK1 hR1 ht1 htl HR HK HB
      generalize hN : (x :: t).length = N at *
      by_cases h9 : j < 9 ∨ x ≤ 1
      · have h9a : (decide ((j : Int) < 9) = true) ∨ (decide ((j : Int) < 9) = false ∧ decide (x ≤ 1) = true) := by
          by_cases h : j < 9
          · exact .inl (by simp; omega)
          · exact .inr ⟨by simp; omega, by simp; omega⟩
        obtain ⟨X, rfl⟩ : ∃ X : Nat, x = (X : Int) := ⟨x.toNat, by omega⟩
        obtain ⟨d, hd⟩ : ∃ d, X % 128 = d := ⟨_, rfl⟩
        have hnot : bits BinOp.andNot IntKind.u8 (X : Int) 128 = (d : Int) := by
          have h := andNot128 ⟨X, by omega⟩
          simp only at h
          rw [h, hd]
        have hdl : d < 128 := by omega
        have hsm := small Hm.out hj hdl (by omega)
        obtain ⟨m2, hm2⟩ : ∃ m2, m + d * 128 ^ j = m2 := ⟨_, rfl⟩
        have hor := orAt Hm.out hsm
        rw [hm2] at hor
        have hm2' : m2 < 18446744073709551616 := by omega
        have Hm2 := keep hm2
        have Hm2' := keep hm2'
        have Hd := keep hd
        clear hm2 hm2' hsm hd
        by_cases hlow : X < 128
        · have hand : bits BinOp.and IntKind.u8 (X : Int) 128 = 0 := by
            have h := and128 ⟨X, by omega⟩
            simp only at h
            rw [h, if_pos hlow]
          have hres : numR 0 0 bs = if (X : Int) ≠ 0 ∨ j = 0 then (some m2, t) else (none, t) := by
            rw [← Hnum.out, numR, if_neg (by omega), if_pos (by omega)]
            have : ((X : Int)).toNat = d := by have := Hd.out; omega
            rw [this, Hm2.out]
          have Hres := keep hres
          clear hres
          by_cases hX : (X : Int) ≠ 0 ∨ j = 0
          · have hret : NumPost q bs w (.returned (.int .u64 m2)) (wr.setCell ⟨q, 0, none⟩ (.slice A2 t.length (c - 1))) :=
              .inl ⟨m2, t, by rw [Hres.out, if_pos hX], Hm2'.out, rfl, HR1.out, HB1.out, HK1.out⟩
            have Hret := keep hret
            clear hret
            rcases (show X ≠ 0 ∨ (X = 0 ∧ j = 0) by omega) with hXn | ⟨rfl, rfl⟩
            all_goals rcases h9a with h9a | ⟨h9a, h9b⟩
            case inr.inr => exact absurd h9a (by simp)
            case inr.inl =>
              obtain rfl : m = 0 := by have := Hm.out; omega
              obtain rfl : d = 0 := by have := Hd.out; omega
              obtain rfl : m2 = 0 := by have := Hm2.out; omega
              have Hret' : NumPost q bs w (.returned (.int .u64 (bits BinOp.or IntKind.u64 ((0 : Nat) : Int) (IntKind.u64.wrap (IntKind.u64.wrap (bits BinOp.andNot IntKind.u8 0 128)))))) (wr.setCell ⟨q, 0, none⟩ (.slice A2 t.length (c - 1))) := by
                have e : bits BinOp.or IntKind.u64 ((0 : Nat) : Int) (IntKind.u64.wrap (IntKind.u64.wrap (bits BinOp.andNot IntKind.u8 0 128))) = ((0 : Nat) : Int) := by decide +kernel
                rw [e]
                exact Hret.out
              have HRet' := keep Hret'
              clear Hret' hor hnot hand
              go_wp2_with fail
              refine (must_yes _).mono ?_
              rintro e w2 ⟨rfl, rfl⟩
              go_wp2_with fail
              refine (must_yes _).mono ?_
              rintro e w3 ⟨rfl, rfl⟩
              go_wp2_with fail
              refine (must_yes _).mono ?_
              rintro e w4 ⟨rfl, rfl⟩
              go_wp2_with fail
              go_ret
              exact HRet'.out
            all_goals
              go_wp2_with fail
              refine (must_yes _).mono ?_
              rintro e w2 ⟨rfl, rfl⟩
              go_wp2_with fail
              refine (must_yes _).mono ?_
              rintro e w3 ⟨rfl, rfl⟩
              go_wp2_with fail
              refine (must_yes _).mono ?_
              rintro e w4 ⟨rfl, rfl⟩
              go_wp2_with fail
              go_ret
              exact Hret.out
          · obtain ⟨hX0, hj0⟩ : X = 0 ∧ j ≠ 0 := by omega
            subst hX0
            have hjb : ((j : Int) == 0) = false := by simp; omega
            have hret : NumPost q bs w (.panicked [{ v := stoppedV, recovered := false }]) (wr.setCell ⟨q, 0, none⟩ (.slice A2 t.length (c - 1))) :=
              .inr ⟨t, by rw [Hres.out, if_neg hX], rfl, HR1.out, HB1.out, HK1.out⟩
            have Hret := keep hret
            clear hret
            rcases h9a with h9a | ⟨h9a, h9b⟩
            all_goals
              go_wp2_with fail
              refine (must_yes _).mono ?_
              rintro e w2 ⟨rfl, rfl⟩
              go_wp2_with fail
              refine (must_yes _).mono ?_
              rintro e w3 ⟨rfl, rfl⟩
              go_wp2_with fail
              refine (must_no _).mono ?_
              rintro e w4 ⟨rfl, rfl⟩
              exact ⟨rfl, Hret.out⟩
        · have hand : bits BinOp.and IntKind.u8 (X : Int) 128 = 128 := by
            have h := and128 ⟨X, by omega⟩
            simp only at h
            rw [h, if_neg hlow]
          have hj8 : j < 9 := by omega
          have hnext : numR (j + 1) m2 t = numR 0 0 bs := by
            rw [← Hnum.out, numR, if_neg (by omega), if_neg (by omega)]
            have : ((X : Int)).toNat % 128 = d := by have := Hd.out; omega
            rw [this, Hm2.out]
          have hm3 : m2 < 128 ^ (j + 1) := by
            rw [← Hm2.out]
            have h1 : (d + 1) * 128 ^ j ≤ 128 ^ (j + 1) := by rw [Nat.pow_succ, Nat.mul_comm]; exact Nat.mul_le_mul_left _ hdl
            rw [Nat.add_mul] at h1
            have := Hm.out
            omega
          have Hnext := keep hnext
          have Hm3 := keep hm3
          clear hnext hm3
          rcases h9a with h9a | ⟨h9a, h9b⟩
          · go_wp2_with fail
            refine (must_yes _).mono ?_
            rintro e w2 ⟨rfl, rfl⟩
            go_wp2_with fail
            refine (must_yes _).mono ?_
            rintro e w3 ⟨rfl, rfl⟩
            go_wp2_with fail
            go_roundw
            case rel => exact ⟨j + 1, m2, t, by go_num, rfl, by omega, Hm3.out, Hnext.out, Htl.out, Ht1.out, HR1.out, HB1.out, HK1.out⟩
            case measure => simp [intOf]; omega
          · exact absurd h9a (by simp; omega)
      · have h9a : decide ((j : Int) < 9) = false := by simp; omega
        have h9b : decide (x ≤ 1) = false := by simp; omega
        go_wp2_with fail
        refine (must_yes _).mono ?_
        rintro e w2 ⟨rfl, rfl⟩
        go_wp2_with fail
        refine (must_no _).mono ?_
        rintro e w3 ⟨rfl, rfl⟩
        refine ⟨rfl, .inr ⟨t, ?_, rfl, HR1.out, HB1.out, HK1.out⟩⟩
        have e := Hnum.out
        rw [← e, numR, if_pos h9]
end Go.Proofs.Ytmfgcdfemhaieaa
