/- The reference's reader: numbers, texts. -/
import Derived.Test.YtmfgcdfemhaieaaRefA
namespace Go.Proofs.Ytmfgcdfemhaieaa
open Go.RowKit

/-- A reader of the reference: bytes that are left, whether it is bad. -/
structure RRdr (W : World) (q : Nat) (bs : List Int) (bad : Bool) : Prop where
  st : ∃ A c, W.heap[q]? = some (.cells #[.slice A bs.length c, .bool bad] 84 (0, 0)) ∧ bs.length ≤ c ∧ RdI W q .u8 A bs
theorem RRdr.lt {W : World} {q : Nat} {bs : List Int} {bad : Bool} (H : RRdr W q bs bad) : q < W.heap.size := by
  obtain ⟨A, c, hr, _⟩ := H.st
  exact row_lt hr
theorem RRdr.below {W W' : World} {q B : Nat} {bs : List Int} {bad : Bool} (H : RRdr W q bs bad) (hb : Below B W W') (hB : q < B) : RRdr W' q bs bad := by
  obtain ⟨A, c, hr, hc, hR⟩ := H.st
  exact ⟨⟨A, c, by rw [hb.block _ hB]; exact hr, hc, hR.below (hb.mono (Nat.le_of_lt hB))⟩⟩
theorem RRdr.flag {W : World} {q : Nat} {bs : List Int} {bad : Bool} (H : RRdr W q bs bad) : RRdr (W.setCell ⟨q, 1, none⟩ (.bool true)) q bs true := by
  obtain ⟨A, c, hr, hc, hRd⟩ := H.st
  exact ⟨⟨A, c, by rw [heap_setCell_same W q 1 _ _ _ hr]; rfl, hc, hRd.below ((Below.refl q W).setCell (Nat.le_refl q) _)⟩⟩
/-- What reading a number comes to, and what is left. -/
def refF (bs : List Int) (bad : Bool) : Nat × List Int × Bool :=
  if bad then (0, bs, true) else match numR 0 0 bs with
    | (some n, r) => (n, r, false)
    | (none, _) => (0, bs, true)
def RRNum (q : Nat) (bs : List Int) (bad : Bool) (w : World) (e : Ending) (w' : World) : Prop :=
  e = .returned (.int .u64 (refF bs bad).1) ∧ (refF bs bad).1 < 18446744073709551616 ∧ RRdr w' q (refF bs bad).2.1 (refF bs bad).2.2 ∧ Below q w w'
theorem and127 : ∀ x : Fin 256, bits BinOp.and IntKind.u8 ((x.val : Nat) : Int) 127 = ((x.val % 128 : Nat) : Int) := by decide +kernel
theorem rrnum_bad {q : Nat} {bs : List Int} {bad : Bool} {w : World} (H : RRdr w q bs bad) (h : bad = true ∨ ∃ r, numR 0 0 bs = (none, r)) : RRNum q bs bad w (.returned (.int .u64 0)) (w.setCell ⟨q, 1, none⟩ (.bool true)) := by
  have e : refF bs bad = (0, bs, true) := by
    unfold refF
    rcases h with rfl | ⟨r, hr⟩
    · rfl
    · rw [hr]; cases bad <;> rfl
  unfold RRNum
  rw [e]
  exact ⟨rfl, by simp, H.flag, (Below.refl q w).setCell (Nat.le_refl q) _⟩
theorem drop_cons {bs : List Int} {j : Nat} (h : j < bs.length) : bs.drop j = bs.getD j 0 :: bs.drop (j + 1) := by
  rw [List.drop_eq_getElem_cons h, List.getD_eq_getElem?_getD, List.getElem?_eq_getElem h]
  rfl
--[REG
set_option maxRecDepth 100000 in
set_option maxHeartbeats 2000000 in
theorem rrnum_any (q : Nat) (bs : List Int) (bad : Bool) (w : World) (H : RRdr w q bs bad) (hbs : ∀ x ∈ bs, 0 ≤ x ∧ x < 256) (hL : bs.length ≤ 1099511627776) :
    Calls Try.prog 36 #[.pointer (some ⟨q, 0, none⟩)] w (RRNum q bs bad w) := by
  obtain ⟨A, c, hr, hc, hRd⟩ := H.st
  have c0 : w.cell? ⟨q, 0, none⟩ = some (.slice A bs.length c) := cell_of_row _ _ 0 _ _ _ hr
  have c1 : w.cell? ⟨q, 1, none⟩ = some (.bool bad) := cell_of_row _ _ 1 _ _ _ hr
  have hf0 := frozen_of_row w q 0 _ _ hr
  have hf1 := frozen_of_row w q 1 _ _ hr
  have hbad := fun h => rrnum_bad (q := q) (bs := bs) (bad := bad) (w := w) H h
  have Hbad := keep hbad
  have Hr := keep hr
  have Hbs := keep hbs
  have HRd := keep hRd
  clear hbad hr hbs hRd H
  cases bad with
  | true =>
    have Hb := keep (Hbad.out (.inl rfl))
    clear Hbad
    go_enter Try.func36, Try.ntmps36
    go_wp2
    refine wp_loop_rounds 1 ?_
    rw [rounds_succ]
    go_wp2
    go_ret
    exact Hb.out
  | false =>
    obtain ⟨n, hn⟩ : ∃ n, bs.length = n := ⟨_, rfl⟩
    rw [hn] at c0 hc hL
    have Hn := keep hn
    clear hn
    go_enter Try.func36, Try.ntmps36
    go_wp2
    go_loop [3, 4, 5] (fun m s i => ∃ j M : Nat, i = .int .i64 j ∧ s = .int .i64 (7 * (j : Int)) ∧ m = .int .u64 M ∧ j ≤ 9 ∧ j ≤ n ∧ M < 128 ^ j ∧ numR j M (bs.drop j) = numR 0 0 bs) (fun _ _ i => 10 - (intOf i).toNat)
    case atStart => exact ⟨0, 0, rfl, rfl, rfl, by omega, by omega, by omega, rfl⟩
    case round =>
      obtain ⟨j, M, rfl, rfl, rfl, hj9, hjn, hM, hnum⟩ := hrel
      have HM := keep hM
      have Hnum := keep hnum
      clear hM hnum
      by_cases hjl : j < n
      · have t1 : decide ((n : Int) ≤ (j : Int)) = false := by simp; omega
        have t2 : decide ((10 : Int) ≤ (j : Int)) = false := by simp; omega
        have hji : (0 : Int) ≤ (j : Int) := by omega
        have hjk : (j : Int) < (n : Int) := by omega
        have hdr := drop_cons (bs := bs) (j := j) (by rw [Hn.out]; exact hjl)
        obtain ⟨ab, ao, rfl, hab, hat⟩ := HRd.out.all_ (by rw [Hn.out]; omega)
        have cx := hat j (by rw [Hn.out]; exact hjl)
        have hmem : bs.getD j 0 ∈ bs := by
          rw [List.getD_eq_getElem?_getD, List.getElem?_eq_getElem (by rw [Hn.out]; exact hjl)]
          exact List.getElem_mem _
        obtain ⟨hx0, hx1⟩ := Hbs.out _ hmem
        obtain ⟨X, hX⟩ : ∃ X : Nat, bs.getD j 0 = (X : Int) := ⟨(bs.getD j 0).toNat, by omega⟩
        rw [hX] at cx hx0 hx1 hdr
        have Hdr := keep hdr
        clear hat hmem hX hdr
        obtain ⟨d, hd⟩ : ∃ d, X % 128 = d := ⟨_, rfl⟩
        have hand : bits BinOp.and IntKind.u8 (X : Int) 127 = (d : Int) := by
          have h := and127 ⟨X, by omega⟩
          simp only at h
          rw [h, hd]
        have hdl : d < 128 := by omega
        have Hd := keep hd
        clear hd
        by_cases h9 : j < 9 ∨ X ≤ 1
        · have h9a : (((j : Int) == 9) = false) ∨ (((j : Int) == 9) = true ∧ decide ((1 : Int) < (X : Int)) = false) := by
            by_cases h : j < 9
            · exact .inl (by simp; omega)
            · exact .inr ⟨by simp; omega, by simp; omega⟩
          have hsm := small HM.out hj9 hdl (by have := Hd.out; omega)
          obtain ⟨m2, hm2⟩ : ∃ m2, M + d * 128 ^ j = m2 := ⟨_, rfl⟩
          have hor := orAt HM.out hsm
          rw [hm2] at hor
          have hm2' : m2 < 18446744073709551616 := by omega
          have Hm2 := keep hm2
          have Hm2' := keep hm2'
          clear hm2 hm2' hsm
          by_cases hlow : X < 128
          · have t3 : decide ((X : Int) < 128) = true := by simp; omega
            obtain ⟨A2, hcut, hrd⟩ := cut_tail (P := Try.prog) 23 5 Try.underlying23 (by kernel_rfl) (some ⟨ab, ao, none⟩) n c ((j : Int) + 1) (by omega) (by omega)
            have e1 : ((j : Int) + 1).toNat = j + 1 := by omega
            rw [e1] at hcut hrd
            have hrd2 := hrd w q .u8 bs hc Hn.out HRd.out
            by_cases hX : X ≠ 0 ∨ j = 0
            · have hret : RRNum q bs false w (.returned (.int .u64 m2)) (w.setCell ⟨q, 0, none⟩ (.slice A2 (n - (j + 1)) (c - (j + 1)))) := by
                have e : refF bs false = (m2, bs.drop (j + 1), false) := by
                  have hnr : numR 0 0 bs = (some m2, bs.drop (j + 1)) := by
                    rw [← Hnum.out, Hdr.out, numR, if_neg (by omega), if_pos (by omega), if_pos (by omega)]
                    have : ((X : Int)).toNat = d := by have := Hd.out; omega
                    rw [this, Hm2.out]
                  simp [refF, hnr]
                unfold RRNum
                rw [e]
                refine ⟨rfl, Hm2'.out, ⟨⟨A2, c - (j + 1), ?_, ?_, ?_⟩⟩, (Below.refl q w).setCell (Nat.le_refl q) _⟩
                · rw [heap_setCell_same w q 0 _ _ _ Hr.out, List.length_drop, Hn.out]; rfl
                · rw [List.length_drop, Hn.out]; omega
                · exact hrd2.below ((Below.refl q w).setCell (Nat.le_refl q) _)
              have Hret := keep hret
              clear hret hrd hrd2
              rcases (show ((X : Int) == 0) = false ∨ (((X : Int) == 0) = true ∧ decide (0 < j) = false) by
                by_cases h : X = 0
                · exact .inr ⟨by simp [h], by simp; omega⟩
                · exact .inl (by simpa using h)) with t4 | ⟨t4, t5⟩
              all_goals rcases h9a with h9a | ⟨h9a, h9b⟩
              all_goals
                go_wp2
                go_ret
                exact Hret.out
            · have t4 : ((X : Int) == 0) = true := by simp; omega
              have t5 : decide (0 < j) = true := by simp; omega
              have Hb := keep (Hbad.out (.inr ⟨bs.drop (j + 1), by rw [← Hnum.out, Hdr.out, numR, if_neg (by omega), if_pos (by omega), if_neg (by omega)]⟩))
              clear hrd hrd2
              rcases h9a with h9a | ⟨h9a, h9b⟩
              all_goals
                go_wp2
                go_ret
                exact Hb.out
          · have t3 : decide ((X : Int) < 128) = false := by simp; omega
            have hj8 : j < 9 := by omega
            have h9n : ((j : Int) == 9) = false := by simp; omega
            have hnext : numR (j + 1) m2 (bs.drop (j + 1)) = numR 0 0 bs := by
              rw [← Hnum.out, Hdr.out, numR, if_neg (by omega), if_neg (by omega)]
              have : ((X : Int)).toNat % 128 = d := by have := Hd.out; omega
              rw [this, Hm2.out]
            have hm3 : m2 < 128 ^ (j + 1) := by
              rw [← Hm2.out]
              have h1 : (d + 1) * 128 ^ j ≤ 128 ^ (j + 1) := by rw [Nat.pow_succ, Nat.mul_comm]; exact Nat.mul_le_mul_left _ hdl
              rw [Nat.add_mul] at h1
              have := HM.out
              omega
            have Hnext := keep hnext
            have Hm3 := keep hm3
            clear hnext hm3 h9a
            go_wp2
            go_round
            case rel => exact ⟨j + 1, m2, by go_num, by go_num, rfl, by omega, by omega, Hm3.out, Hnext.out⟩
            case measure => simp [intOf]; omega
        · have h9a : ((j : Int) == 9) = true := by simp; omega
          have h9b : decide ((1 : Int) < (X : Int)) = true := by simp; omega
          have Hb := keep (Hbad.out (.inr ⟨bs.drop (j + 1), by rw [← Hnum.out, Hdr.out, numR, if_pos (by omega)]⟩))
          go_wp2
          go_ret
          exact Hb.out
      · have t1 : decide ((n : Int) ≤ (j : Int)) = true := by simp; omega
        have Hb := keep (Hbad.out (.inr ⟨[], by rw [← Hnum.out, List.drop_eq_nil_of_le (by rw [Hn.out]; omega), numR]⟩))
        go_wp2
        go_ret
        exact Hb.out
--]REG
end Go.Proofs.Ytmfgcdfemhaieaa
