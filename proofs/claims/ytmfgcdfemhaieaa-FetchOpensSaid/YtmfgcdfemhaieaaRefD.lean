/- The reference's reader: texts. -/
import Derived.Test.YtmfgcdfemhaieaaRefC
namespace Go.Proofs.Ytmfgcdfemhaieaa
open Go.RowKit

def rtextF (bs : List Int) (bad : Bool) : List Int × List Int × Bool :=
  if (refF bs bad).2.2 = true ∨ (refF bs bad).2.1.length < (refF bs bad).1 then ([], (refF bs bad).2.1, true)
  else ((refF bs bad).2.1.take (refF bs bad).1, (refF bs bad).2.1.drop (refF bs bad).1, false)
def RRText (q : Nat) (bs : List Int) (bad : Bool) (w : World) (e : Ending) (w' : World) : Prop :=
  e = .returned (.string (strOfNums (rtextF bs bad).1)) ∧ RRdr w' q (rtextF bs bad).2.1 (rtextF bs bad).2.2 ∧ Below q w w'
theorem refF_left (bs : List Int) (bad : Bool) : ∃ k, (refF bs bad).2.1 = bs.drop k := by
  obtain ⟨kk, hkk⟩ := numR_left bs 0 0
  unfold refF
  cases bad with
  | true => exact ⟨0, rfl⟩
  | false =>
    simp only [Bool.false_eq_true, if_false]
    rcases hq : numR 0 0 bs with ⟨o, r⟩
    rw [hq] at hkk
    simp only at hkk
    cases o with
    | none => exact ⟨0, rfl⟩
    | some n => exact ⟨kk, hkk⟩
set_option maxRecDepth 100000 in
set_option maxHeartbeats 1000000 in
theorem rrtext_any (q : Nat) (bs : List Int) (bad : Bool) (w : World) (H : RRdr w q bs bad) (hbs : ∀ x ∈ bs, 0 ≤ x ∧ x < 256) (hL : bs.length ≤ 1000) :
    Calls Try.prog 35 #[.pointer (some ⟨q, 0, none⟩)] w (RRText q bs bad w) := by
  have hnum := rrnum_any q bs bad w H hbs (by omega)
  obtain ⟨kk, hkk⟩ := refF_left bs bad
  rcases hE : refF bs bad with ⟨n, r, b2⟩
  have hrl : r.length ≤ 1000 := by
    rw [hE] at hkk
    simp only at hkk
    rw [hkk, List.length_drop]
    omega
  have hF : rtextF bs bad = if b2 = true ∨ r.length < n then ([], r, true) else (r.take n, r.drop n, false) := by
    unfold rtextF
    rw [hE]
  have Hnum := keep hnum
  have HE := keep hE
  have HF := keep hF
  clear H hbs hnum hkk hE hF
  go_enter Try.func35, Try.ntmps35
  go_wp2_with fail
  refine Hnum.out.mono ?_
  intro e w1 hx
  unfold RRNum at hx
  rw [HE.out] at hx
  obtain ⟨rfl, hn64, hR, hB⟩ := hx
  simp only at hR hn64
  simp only
  obtain ⟨A, c, hrow, hc, hRd⟩ := hR.st
  have c0 : w1.cell? ⟨q, 0, none⟩ = some (.slice A r.length c) := cell_of_row _ _ 0 _ _ _ hrow
  have c1 : w1.cell? ⟨q, 1, none⟩ = some (.bool b2) := cell_of_row _ _ 1 _ _ _ hrow
  have hf0 := frozen_of_row w1 q 0 _ _ hrow
  have hf1 := frozen_of_row w1 q 1 _ _ hrow
  have hlt := row_lt hrow
  have hw64 : IntKind.u64.wrap (r.length : Int) = r.length := wrap_u64' _ (by omega) (by omega)
  have hbad : b2 = true ∨ r.length < n → RRText q bs bad w (.returned (.string ⟨#[]⟩)) (w1.setCell ⟨q, 1, none⟩ (.bool true)) := by
    intro h
    unfold RRText
    rw [HF.out, if_pos h]
    exact ⟨rfl, hR.flag, hB.setCell (Nat.le_refl q) _⟩
  have Hbad := keep hbad
  have Hrow := keep hrow
  have HB := keep hB
  have HRd := keep hRd
  clear hrow hB hR hRd hn64 Hnum hbad
  cases b2 with
  | true =>
    have Hp := keep (Hbad.out (.inl rfl))
    clear Hbad
    generalize r.length = N at *
    go_wp2_with fail
    go_ret
    exact Hp.out
  | false =>
    by_cases hle : n ≤ r.length
    · obtain ⟨A2, hcut, hrd⟩ := cut_tail64 (P := Try.prog) 23 5 Try.underlying23 (by kernel_rfl) A r.length c n hle
      have hhead := cut_head64 (P := Try.prog) 23 5 Try.underlying23 (by kernel_rfl) A r.length c n (by omega)
      have hrd2 := hrd w1 q .u8 r hc rfl HRd.out
      have hcv := conv_rd w1 23 5 Try.underlying23 Try.underlying5 A n c q (r.take n) (by rw [List.length_take]; omega) (HRd.out.take_ n) 9 Try.underlying9
      have hb : Below q w1 (w1.setCell ⟨q, 0, none⟩ (.slice A2 (r.length - n) (c - n))) := (Below.refl q w1).setCell (Nat.le_refl q) _
      have hR2 : RRdr (w1.setCell ⟨q, 0, none⟩ (.slice A2 (r.length - n) (c - n))) q (r.drop n) false := by
        refine ⟨⟨A2, c - n, by rw [heap_setCell_same w1 q 0 _ _ _ Hrow.out, List.length_drop]; rfl, by rw [List.length_drop]; omega, hrd2.below hb⟩⟩
      have hpost : RRText q bs bad w (.returned (.string (strOfNums (r.take n)))) (w1.setCell ⟨q, 0, none⟩ (.slice A2 (r.length - n) (c - n))) := by
        unfold RRText
        rw [HF.out, if_neg (by simp; omega)]
        exact ⟨rfl, hR2, HB.out.trans hb⟩
      obtain ⟨S, hS⟩ : ∃ S, strOfNums (r.take n) = S := ⟨_, rfl⟩
      rw [hS] at hcv hpost
      have Hpost := keep hpost
      clear hpost hR2 hb hS hrd2 hrd Hrow HB HRd Hbad
      have hle' : decide ((r.length : Int) < (n : Int)) = false := by simp; omega
      have hle2 : decide (r.length < n) = false := by simp; omega
      generalize r.length = N at *
      go_wp2_with fail
      go_ret
      exact Hpost.out
    · have hle' : decide ((r.length : Int) < (n : Int)) = true := by simp; omega
      have hle2 : decide (r.length < n) = true := by simp; omega
      have Hp := keep (Hbad.out (.inr (by omega)))
      clear Hbad Hrow
      generalize r.length = N at *
      go_wp2_with fail
      go_ret
      exact Hp.out
end Go.Proofs.Ytmfgcdfemhaieaa
