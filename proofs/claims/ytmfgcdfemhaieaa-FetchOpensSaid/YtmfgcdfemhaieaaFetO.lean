/- Numbers as bytes: the writer. -/
import Derived.Test.YtmfgcdfemhaieaaFetK
namespace Go.Proofs.Ytmfgcdfemhaieaa
open Go.RowKit

/-- A number's bytes. -/
def numP (n : Nat) : List Int := if _h : n < 128 then [(n : Int)] else (((n % 128 : Nat) : Int) + 128) :: numP (n / 128)
termination_by n
decreasing_by omega
theorem numP_low {n : Nat} (h : n < 128) : numP n = [(n : Int)] := by rw [numP, dif_pos h]
theorem numP_high {n : Nat} (h : ¬ n < 128) : numP n = (((n % 128 : Nat) : Int) + 128) :: numP (n / 128) := by rw [numP, dif_neg h]
theorem numP_len : ∀ (k n : Nat), n < 128 ^ (k + 1) → (numP n).length ≤ k + 1
  | 0, n, h => by rw [numP_low (by simpa using h)]; simp
  | k + 1, n, h => by
    by_cases hn : n < 128
    · rw [numP_low hn]; simp
    · rw [numP_high hn, List.length_cons]
      have := numP_len k (n / 128) (by rw [Nat.div_lt_iff_lt_mul (by omega)]; rw [Nat.pow_succ] at h; exact h)
      omega
theorem or128 : ∀ x : Fin 256, bits BinOp.or IntKind.u8 ((x.val : Nat) : Int) 128 = ((x.val % 128 : Nat) : Int) + 128 := by decide +kernel
theorem or128_of (n : Nat) : bits BinOp.or IntKind.u8 ((n : Int) % 256) 128 = ((n % 128 : Nat) : Int) + 128 := by
  have h := or128 ⟨n % 256, by omega⟩
  simp only at h
  have e : ((n % 256 : Nat) : Int) = (n : Int) % 256 := by omega
  rw [← e, h]
  congr 2
  omega
/-- A writer: one cell, bytes of its own. -/
structure Wr (W : World) (h : Nat) (bs : List Int) : Prop where
  st : ∃ v, W.heap[h]? = some (.cells #[v] 101 (0, 0)) ∧ OwnI W (h + 1) 5 .u8 v bs
theorem Wr.lt {W : World} {h : Nat} {bs : List Int} (H : Wr W h bs) : h < W.heap.size := by
  obtain ⟨v, hr, _⟩ := H.st
  exact row_lt hr
theorem Wr.below {W W' : World} {h B : Nat} {bs : List Int} (H : Wr W h bs) (hb : Below B W W') (hB : W.heap.size ≤ B) : Wr W' h bs := by
  obtain ⟨v, hr, hO⟩ := H.st
  have hb' := hb.mono hB
  exact ⟨⟨v, by rw [hb'.block _ (row_lt hr)]; exact hr, hO.below hb'⟩⟩
theorem Wr.put {W w1 : World} {h : Nat} {ys : List Int} {v v1 : Value} {t : TypeId} (hr : w1.heap[h]? = some (.cells #[v] t (0, 0))) (ht : t = 101) (hO : OwnI w1 (h + 1) 5 .u8 v1 ys) (_hW : W = w1.setCell ⟨h, 0, none⟩ v1) : Wr W h ys := by
  subst _hW ht
  exact ⟨⟨v1, by rw [heap_setCell_same w1 h 0 _ _ _ hr]; rfl, hO.grown (grown_setCell w1 h 0 v1) (own_ne hO)⟩⟩
set_option maxRecDepth 100000 in
theorem newWriter_any (w : World) : Calls Try.prog 38 #[] w fun e w' => e = .returned (.pointer (some ⟨w.heap.size, 0, none⟩)) ∧ Wr w' w.heap.size [] ∧ Below w.heap.size w w' := by
  go_enter Try.func38, Try.ntmps38
  go_wp2
  go_ret
  exact ⟨rfl, ⟨⟨_, heap_alloc_new w _, OwnI.none_ _ _ _ _⟩⟩, (Below.refl _ _).alloc (Nat.le_refl _) _⟩
def WrPost (h : Nat) (bs : List Int) (w : World) (e : Ending) (w' : World) : Prop := e = .returned (.tuple #[]) ∧ Wr w' h bs ∧ Below h w w' ∧ KeptT h w w'
def u64s (ns : List Nat) : Array Value := (ns.map fun (n : Nat) => Value.int .u64 (n : Int)).toArray
theorem u64s_cell {W : World} {rb : Nat} {t : TypeId} {ns : List Nat} (hr : W.heap[rb]? = some (.cells (u64s ns) t (0, 0))) {j : Nat} (hj : j < ns.length) : W.cell? ⟨rb, j, none⟩ = some (.int .u64 ((ns.getD j 0 : Nat) : Int)) := by
  rw [cell_of_row W rb j _ _ _ hr]
  simp [u64s, List.getD_eq_getElem?_getD, List.getElem?_eq_getElem hj]
theorem numP_take {ns : List Nat} {j : Nat} (hj : j < ns.length) : (ns.take (j + 1)).flatMap numP = (ns.take j).flatMap numP ++ numP (ns.getD j 0) := by
  rw [List.take_succ_eq_append_getElem hj, List.flatMap_append]
  simp [List.getD_eq_getElem?_getD, List.getElem?_eq_getElem hj]
theorem flat_len {ns : List Nat} (hns : ∀ x ∈ ns, x < 18446744073709551616) : (ns.flatMap numP).length ≤ 10 * ns.length := by
  induction ns with
  | nil => simp
  | cons x xs ih =>
    rw [List.flatMap_cons, List.length_append, List.length_cons]
    have h1 := numP_len 9 x (by have := hns x (by simp); omega)
    have h2 := ih (fun y hy => hns y (by simp [hy]))
    omega
theorem infoU8 : True := trivial
set_option maxRecDepth 100000 in
set_option maxHeartbeats 2000000 in
theorem wnum_any (h : Nat) (bs : List Int) (rb n : Nat) (ns : List Nat) (w : World) (hW : Wr w h bs) (hn : ns.length = n) (hr : w.heap[rb]? = some (.cells (u64s ns) 54 (0, 0))) (hne : rb ≠ h) (hns : ∀ x ∈ ns, x < 18446744073709551616) (hL : bs.length ≤ 1099511627776) (hn2 : n ≤ 100) :
    Calls Try.prog 40 #[.pointer (some ⟨h, 0, none⟩), .slice (some ⟨rb, 0, none⟩) n n] w (WrPost h (bs ++ ns.flatMap numP) w) := by
  have HW := keep hW
  have Hn := keep hn
  have Hr := keep hr
  have Hns := keep hns
  clear hW hn hr hns
  go_enter Try.func40, Try.ntmps40
  go_wp2
  go_loopw [8] (fun i wr => ∃ j : Nat, j ≤ n ∧ i = .int .i64 j ∧ Wr wr h (bs ++ (ns.take j).flatMap numP) ∧ Below h w wr ∧ KeptT h w wr) (fun i _ => n - (intOf i).toNat)
  case atStart => exact ⟨0, by omega, rfl, by simpa using HW.out, Below.refl _ _, KeptT.refl _ _⟩
  case round =>
    obtain ⟨j, hj, rfl, hWj, hBj, hKj⟩ := hrel
    by_cases hjn : j < n
    · have ht : decide ((j : Int) < (n : Int)) = true := by simp; omega
      have hrj := hKj.out rb _ _ _ Hr.out hne (by decide)
      have hcj := u64s_cell hrj (j := j) (by rw [Hn.out]; exact hjn)
      have hx64 : ns.getD j 0 < 18446744073709551616 := by
        rw [List.getD_eq_getElem?_getD, List.getElem?_eq_getElem (by rw [Hn.out]; exact hjn)]
        exact Hns.out _ (List.getElem_mem _)
      have hnx := numP_take (ns := ns) (j := j) (by rw [Hn.out]; exact hjn)
      have hfl : ((ns.take j).flatMap numP).length ≤ 10 * n := by
        have := flat_len (ns := ns.take j) (fun x hx => Hns.out x (List.mem_of_mem_take hx))
        rw [List.length_take] at this
        omega
      obtain ⟨b0, hb0⟩ : ∃ b0, bs ++ (ns.take j).flatMap numP = b0 := ⟨_, rfl⟩
      have hb0l : b0.length ≤ 1099511628776 := by rw [← hb0, List.length_append]; omega
      rw [hb0] at hWj
      have hnx' : bs ++ (ns.take (j + 1)).flatMap numP = b0 ++ numP (ns.getD j 0) := by rw [hnx, ← List.append_assoc, hb0]
      obtain ⟨X, hX⟩ : ∃ X, ns.getD j 0 = X := ⟨_, rfl⟩
      rw [hX] at hcj hx64 hnx'
      have hXl := numP_len 9 X (by omega)
      have Hnx := keep hnx'
      have Hx64 := keep hx64
      clear hx64
      have HWj := keep hWj
      have HBj := keep hBj
      have HKj := keep hKj
      clear hnx hnx' hX hrj hWj hBj hKj hb0 hfl
      obtain ⟨wo, rfl⟩ : ∃ wo : World, wo = wr := ⟨_, rfl⟩
      go_wp2_with fail
      go_loopw [5] (fun x wr => ∃ (y : Nat) (b1 : List Int), x = .int .u64 y ∧ y ≤ X ∧ b1 ++ numP y = b0 ++ numP X ∧ Wr wr h b1 ∧ Below h w wr ∧ KeptT h w wr) (fun x _ => (intOf x).toNat)
      case atStart => exact ⟨X, b0, rfl, Nat.le_refl _, rfl, HWj.out, HBj.out, HKj.out⟩
      case round =>
        obtain ⟨y, b1, rfl, hyX, hb1, hW1, hB1, hK1⟩ := hrel
        have hl1 := congrArg List.length hb1
        rw [List.length_append, List.length_append] at hl1
        have hl1' : b1.length ≤ 1099511628800 := by omega
        obtain ⟨v, hrv, hO⟩ := hW1.st
        have hcv : wr.cell? ⟨h, 0, none⟩ = some v := cell_of_row _ _ 0 _ _ _ hrv
        have hlt := row_lt hrv
        have Hb1 := keep hb1
        have HB1 := keep hB1
        have HK1 := keep hK1
        have HO := keep hO
        have Hrv := keep hrv
        clear hb1 hl1 hB1 hK1 hO hrv hW1
        by_cases hy : y < 128
        · have ht2 : decide ((128 : Int) ≤ (y : Int)) = false := by simp; omega
          go_wp2_with (at_builtin; refine wpList_append_made (w0 := wr) (W := wr) (h + 1) rfl (.tmp 32) (.tmp 35) 23 5 .u8 1 rfl Try.underlying23 info5 v b1 [(y : Int)] 1 rfl rfl rfl HO.out (Below.refl _ _) hlt (by omega) (by omega) ?_)
          rintro v2 w2 hO2 hB2 hg2 _
          have hr2 := (hB2.block _ (Nat.lt_succ_self h)).trans Hrv.out
          have hc2 : w2.cell? ⟨h, 0, none⟩ = some v := cell_of_row _ _ 0 _ _ _ hr2
          have hf2 := frozen_of_row w2 h 0 _ _ hr2
          have hK2 : KeptT h w w2 := HK1.out.trans (KeptT.own HO.out hg2)
          have Hr2 := keep hr2
          have HO2 := keep hO2
          have HK2 := keep hK2
          have HB2 := keep hB2
          obtain ⟨A2, c2, rfl, _, _⟩ := hO2.slice
          clear hr2 hO2 hK2 hB2 hg2
          go_wp2_with fail
          have el : (b1 ++ [(y : Int)]).length = b1.length + 1 := by simp
          have hWn : Wr (w2.setCell ⟨h, 0, none⟩ (.slice A2 (b1.length + 1) c2)) h (b1 ++ [(y : Int)]) := by rw [← el]; exact Wr.put Hr2.out rfl HO2.out rfl
          have hBn : Below h w (w2.setCell ⟨h, 0, none⟩ (.slice A2 (b1.length + 1) c2)) := (HB1.out.trans (HB2.out.mono (Nat.le_succ h))).setCell (Nat.le_refl _) _
          have hKn : KeptT h w (w2.setCell ⟨h, 0, none⟩ (.slice A2 (b1.length + 1) c2)) := HK2.out.cell 0 _
          go_roundw
          case rel =>
            have e := Hb1.out
            rw [numP_low hy] at e
            exact ⟨j + 1, by omega, by go_num, by rw [Hnx.out, ← e]; exact hWn, hBn, hKn⟩
          case measure => simp [intOf]; omega
        · have ht2 : decide ((128 : Int) ≤ (y : Int)) = true := by simp; omega
          have hor := or128_of y
          go_wp2_with (at_builtin; refine wpList_append_made (w0 := wr) (W := wr) (h + 1) rfl (.tmp 20) (.tmp 24) 23 5 .u8 1 rfl Try.underlying23 info5 v b1 [(y : Int) % 128 + 128] 1 rfl rfl rfl HO.out (Below.refl _ _) hlt (by omega) (by omega) ?_)
          rintro v2 w2 hO2 hB2 hg2 _
          have hr2 := (hB2.block _ (Nat.lt_succ_self h)).trans Hrv.out
          have hc2 : w2.cell? ⟨h, 0, none⟩ = some v := cell_of_row _ _ 0 _ _ _ hr2
          have hf2 := frozen_of_row w2 h 0 _ _ hr2
          have hK2 : KeptT h w w2 := HK1.out.trans (KeptT.own HO.out hg2)
          have Hr2 := keep hr2
          have HO2 := keep hO2
          have HK2 := keep hK2
          have HB2 := keep hB2
          obtain ⟨A2, c2, rfl, _, _⟩ := hO2.slice
          clear hr2 hO2 hK2 hB2 hg2 hor
          go_wp2_with fail
          have el : (b1 ++ [(y : Int) % 128 + 128]).length = b1.length + 1 := by simp
          have hWn : Wr (w2.setCell ⟨h, 0, none⟩ (.slice A2 (b1.length + 1) c2)) h (b1 ++ [(y : Int) % 128 + 128]) := by rw [← el]; exact Wr.put Hr2.out rfl HO2.out rfl
          have hBn : Below h w (w2.setCell ⟨h, 0, none⟩ (.slice A2 (b1.length + 1) c2)) := (HB1.out.trans (HB2.out.mono (Nat.le_succ h))).setCell (Nat.le_refl _) _
          have hKn : KeptT h w (w2.setCell ⟨h, 0, none⟩ (.slice A2 (b1.length + 1) c2)) := HK2.out.cell 0 _
          go_roundw
          case rel =>
            have e := Hb1.out
            rw [numP_high hy] at e
            have e2 : ((y % 128 : Nat) : Int) = (y : Int) % 128 := by omega
            rw [e2] at e
            exact ⟨y / 128, b1 ++ [(y : Int) % 128 + 128], by go_num, by omega, by rw [List.append_assoc]; exact e, hWn, hBn, hKn⟩
          case measure => simp [intOf]; omega
    · obtain rfl : j = n := by omega
      have ht : decide ((j : Int) < (j : Int)) = false := by simp
      have HWj := keep hWj
      clear hWj
      go_wp2
      go_end0
      refine ⟨rfl, ?_, hBj, hKj⟩
      have := HWj.out
      rwa [List.take_of_length_le (by rw [Hn.out]; omega)] at this
end Go.Proofs.Ytmfgcdfemhaieaa
