/- The reader's texts. -/
import Derived.Test.YtmfgcdfemhaieaaFetS
import Derived.Test.YtmfgcdfemhaieaaFetQ
namespace Go.Proofs.Ytmfgcdfemhaieaa
open Go.RowKit

theorem cut_tail64 {P : Program} (t e : TypeId) (ht : P.underlying t = some (.slice e)) (hsz : (P.info? e).map (·.size) = some 1) (A : Option Addr) (n c : Nat) (m : Nat) (hm : m ≤ n) :
    ∃ A' : Option Addr, (∀ W : World, (Instr.slice t (.slice A n c) (some (.int .u64 m)) none none).run P W = .ok (.slice A' (n - m) (c - m)) W) ∧
      ∀ (w : World) (B : Nat) (k : IntKind) (xs : List Int), n ≤ c → xs.length = n → RdI w B k A xs → RdI w B k A' (xs.drop m) := by
  obtain ⟨i, hi, hs⟩ := Option.map_eq_some_iff.1 hsz
  refine ⟨if c = m then A else A.map (·.add m), fun W => ?_, fun w B k xs hc hl h => ⟨?_⟩⟩
  · have hel : P.elem t = e := by simp [Program.elem, ht]
    have hu : P.underlying t = some (.slice (P.elem t)) := by rw [hel]; exact ht
    rw [run_slice_l W t A n c hu .u64 m (Int.natCast_nonneg _) (by omega), hel]
    simp [sizeOf, typeInfo, hi, hs, sliced, Result.andThen]
  · subst hl
    have h1 := h.out.cut (k := m) (cap := c) hm hc
    simp only [Nat.mul_one] at h1
    have h2 : (ints k xs).drop m = ints k (xs.drop m) := by simp [ints, List.map_drop]
    rw [h2] at h1
    rw [List.length_drop]
    exact h1
theorem cut_head64 {P : Program} (t e : TypeId) (ht : P.underlying t = some (.slice e)) (hsz : (P.info? e).map (·.size) = some 1) (A : Option Addr) (n c : Nat) (m : Nat) (hm : m ≤ c) :
    ∀ W : World, (Instr.slice t (.slice A n c) none (some (.int .u64 m)) none).run P W = .ok (.slice A m c) W := by
  obtain ⟨i, hi, hs⟩ := Option.map_eq_some_iff.1 hsz
  intro W
  have hel : P.elem t = e := by simp [Program.elem, ht]
  have hu : P.underlying t = some (.slice (P.elem t)) := by rw [hel]; exact ht
  rw [run_slice_h W t A n c hu .u64 m (Int.natCast_nonneg _) (by omega), hel]
  have hadd : ∀ x : Addr, x.add 0 = x := fun x => by simp [Addr.add]
  simp [sizeOf, typeInfo, hi, hs, sliced, Result.andThen, hadd]
theorem wrap_u64' (n : Int) (h0 : 0 ≤ n) (h : n < 2 ^ 63) : IntKind.u64.wrap n = n := by
  unfold IntKind.wrap
  simp only [show IntKind.u64.signed = false from rfl, show IntKind.u64.bits = 64 from rfl, Bool.false_and, Bool.false_eq_true, if_false]
  exact Int.emod_eq_of_lt h0 (by omega)
theorem numR_left : ∀ (bs : List Int) (i n : Nat), ∃ k, (numR i n bs).2 = bs.drop k
  | [], _, _ => ⟨0, rfl⟩
  | x :: t, i, n => by
    rw [numR]
    split
    · exact ⟨1, rfl⟩
    · split
      · split
        · exact ⟨1, rfl⟩
        · exact ⟨1, rfl⟩
      · obtain ⟨k, hk⟩ := numR_left t (i + 1) (n + (x.toNat % 128) * 128 ^ i)
        exact ⟨k + 1, hk⟩
/-- What reading a text comes to, and what is left. -/
def textR (bs : List Int) : Option (List Int) × List Int :=
  match numR 0 0 bs with
  | (none, r) => (none, r)
  | (some n, r) => if n ≤ r.length then (some (r.take n), r.drop n) else (none, r)
def TextPost (q : Nat) (bs : List Int) (w : World) (e : Ending) (w' : World) : Prop :=
  (∃ s r, textR bs = (some s, r) ∧ e = .returned (.string (strOfNums s)) ∧ Rdr w' q r false ∧ Below q w w' ∧ KeptT q w w') ∨
  (∃ r, textR bs = (none, r) ∧ e = .panicked [{ v := stoppedV, recovered := false }] ∧ Rdr w' q r false ∧ Below q w w' ∧ KeptT q w w')
set_option maxRecDepth 100000 in
set_option maxHeartbeats 2000000 in
theorem text_any (q : Nat) (bs : List Int) (w : World) (H : Rdr w q bs false) (hbs : ∀ x ∈ bs, 0 ≤ x ∧ x < 256) (hL : bs.length ≤ 1000) :
    Calls Try.prog 50 #[.pointer (some ⟨q, 0, none⟩)] w (TextPost q bs w) := by
  have hnum := num_any q bs w H hbs
  obtain ⟨kk, hkk⟩ := numR_left bs 0 0
  have Hkk := keep hkk
  have Hnum := keep hnum
  have Hbs := keep hbs
  clear H hbs hnum hkk
  go_enter Try.func50, Try.ntmps50
  go_wp2_with fail
  refine Hnum.out.mono ?_
  rintro e w1 (⟨n, r, hr, hn64, rfl, hR, hB, hK⟩ | ⟨r, hr, rfl, hR, hB, hK⟩)
  · have hrl : r.length ≤ 1000 := by
      have h := Hkk.out
      rw [hr] at h
      simp only at h
      rw [h, List.length_drop]
      omega
    obtain ⟨A, c, hrow, hc, hRd⟩ := hR.st
    have c0 : w1.cell? ⟨q, 0, none⟩ = some (.slice A r.length c) := cell_of_row _ _ 0 _ _ _ hrow
    have hfz := frozen_of_row w1 q 0 _ _ hrow
    have hlt := row_lt hrow
    have hw64 : IntKind.u64.wrap (r.length : Int) = r.length := wrap_u64' _ (by omega) (by omega)
    have Hr := keep hr
    have Hrow := keep hrow
    have HB := keep hB
    have HK := keep hK
    have HR := keep hR
    have HRd := keep hRd
    clear hr hrow hB hK hR hRd hn64 Hnum Hkk Hbs
    by_cases hle : n ≤ r.length
    · obtain ⟨A2, hcut, hrd⟩ := cut_tail64 (P := Try.prog) 23 5 Try.underlying23 (by kernel_rfl) A r.length c n hle
      have hhead := cut_head64 (P := Try.prog) 23 5 Try.underlying23 (by kernel_rfl) A r.length c n (by omega)
      have hrd2 := hrd w1 q .u8 r hc rfl HRd.out
      have hcv := conv_rd w1 23 5 Try.underlying23 Try.underlying5 A n c q (r.take n) (by rw [List.length_take]; omega) (HRd.out.take_ n) 9 Try.underlying9
      obtain ⟨S, hS⟩ : ∃ S, strOfNums (r.take n) = S := ⟨_, rfl⟩
      rw [hS] at hcv
      have hb : Below q w1 (w1.setCell ⟨q, 0, none⟩ (.slice A2 (r.length - n) (c - n))) := (Below.refl q w1).setCell (Nat.le_refl q) _
      have hR2 : Rdr (w1.setCell ⟨q, 0, none⟩ (.slice A2 (r.length - n) (c - n))) q (r.drop n) false := by
        refine ⟨⟨A2, c - n, by rw [heap_setCell_same w1 q 0 _ _ _ Hrow.out, List.length_drop]; rfl, by rw [List.length_drop]; omega, hrd2.below hb⟩⟩
      have hpost : TextPost q bs w (.returned (.string S)) (w1.setCell ⟨q, 0, none⟩ (.slice A2 (r.length - n) (c - n))) := by
        refine .inl ⟨r.take n, r.drop n, ?_, by rw [hS], hR2, HB.out.trans hb, HK.out.cell 0 _⟩
        unfold textR
        rw [Hr.out]
        simp only [if_pos hle]
      have Hpost := keep hpost
      clear hpost hR2 hb hS hrd2 hrd Hr Hrow HB HK HR HRd
      have hle' : decide ((n : Int) ≤ (r.length : Int)) = true := by simp; omega
      generalize r.length = N at *
      go_wp2_with fail
      refine (must_yes _).mono ?_
      rintro e w2 ⟨rfl, rfl⟩
      go_wp2_with fail
      go_ret
      exact Hpost.out
    · have hle' : decide ((n : Int) ≤ (r.length : Int)) = false := by simp; omega
      have hpost : TextPost q bs w (.panicked [{ v := stoppedV, recovered := false }]) w1 := by
        refine .inr ⟨r, ?_, rfl, HR.out, HB.out, HK.out⟩
        unfold textR
        rw [Hr.out]
        simp only [if_neg hle]
      have Hpost := keep hpost
      clear hpost Hr Hrow HB HK HR HRd
      generalize r.length = N at *
      go_wp2_with fail
      refine (must_no _).mono ?_
      rintro e w2 ⟨rfl, rfl⟩
      exact ⟨rfl, Hpost.out⟩
  · refine ⟨rfl, .inr ⟨r, ?_, rfl, hR, hB, hK⟩⟩
    unfold textR
    rw [hr]
end Go.Proofs.Ytmfgcdfemhaieaa
