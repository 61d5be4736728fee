/- The reading of a sum's text: the walks. -/
import Derived.Test.YtpgenmddanppoaaShaL
namespace Go.Proofs.Ytpgenmddanppoaa
open Go.RowKit

set_option maxRecDepth 100000 in
set_option maxHeartbeats 2000000 in
theorem parse_any (s : ByteArray) (w : World) : Calls Try.prog 11 #[.string s] w (ParsePost s w) := by
  have hr2 : ((w.alloc (.cells (bys zerosP) 26)).alloc (.cells (bys zerosP) 26)).heap[w.heap.size]? = some (.cells (bys zerosP) 26 (0, 0)) := by
    have := Below.heap_alloc (w.alloc (.cells (bys zerosP) 26)) (.cells (bys zerosP) 26) w.heap.size (by simp)
    rw [this]; exact heap_alloc_new w _
  have hr4 : ((w.alloc (.cells (bys zerosP) 26)).alloc (.cells (bys zerosP) 26)).heap[w.heap.size + 1]? = some (.cells (bys zerosP) 26 (0, 0)) := by
    have := heap_alloc_new (w.alloc (.cells (bys zerosP) 26)) (.cells (bys zerosP) 26)
    simpa using this
  have hb2 : Below w.heap.size w ((w.alloc (.cells (bys zerosP) 26)).alloc (.cells (bys zerosP) 26)) := ((Below.refl _ _).alloc (Nat.le_refl _) _).alloc (by simp) _
  go_enter Try.func11, Try.ntmps11
  by_cases h64 : s.size = 64
  · have ht : decide ((s.size : Int) = 64) = true := by simp; omega
    go_wp2
    generalize hw1 : (w.alloc (.cells (bys zerosP) 26)).alloc (.cells (bys zerosP) 26) = w1 at hr2 hr4 hb2
    have Hw1 := keep hw1
    clear hw1
    go_loopw [13] (fun i wr => ∃ j : Nat, j ≤ 64 ∧ i = .int .i64 j ∧ okTo s j = true ∧ wr.heap[w.heap.size]? = some (.cells (bys zerosP) 26 (0, 0)) ∧ wr.heap[w.heap.size + 1]? = some (.cells (bys (parseTo s j)) 26 (0, 0)) ∧ Below w.heap.size w wr) (fun i _ => 64 - (intOf i).toNat)
    case atStart =>
      refine ⟨0, by omega, rfl, rfl, ?_, ?_, ?_⟩
      · have := Hw1.out; exact this ▸ hr2
      · have := Hw1.out; exact this ▸ hr4
      · have := Hw1.out; exact this ▸ hb2
    case round =>
      obtain ⟨j, hj, rfl, hok, hz, hk, hB⟩ := hrel
      have Hok := keep hok
      have Hh64 := keep h64
      by_cases hjl : j < 64
      · have ht2 : decide ((j : Int) < (s.size : Int)) = true := by simp; omega
        have hix := idx_str wr s (i := j) (by omega)
        obtain ⟨c0, c1⟩ := bAt_range s j
        obtain ⟨d0, d1⟩ := digP_range (bAt s j)
        have hcl := ixb_any c0 c1 wr
        generalize hc : bAt s j = c at *
        generalize hd : digP c = d at *
        have Hc := keep hc
        have Hd := keep hd
        have Hz := keep hz
        clear hc hd hok h64 hz
        by_cases hneg : d < 0
        · have ht3 : decide (d < 0) = true := by simpa using hneg
          have hbad := parse_odd (s := s) hjl (by rw [Hc.out, Hd.out]; exact hneg)
          go_wp2_with fail
          refine hcl.mono ?_
          rintro e w8 ⟨rfl, hw8⟩
          rw [hw8]
          clear hw8
          go_wp2_with (first | (refine wpList_build_as rfl 26 _ rfl (bys zerosP) (by kernel_rfl) ?_) | (refine wpList_store_row rfl 26 (.tmp 2) (.tmp 22) rfl w.heap.size (bys zerosP) rfl rfl 26 _ Hz.out (by kernel_rfl) rfl (by kernel_rfl) ?_))
          refine bodyPost_ret (results_cell_slot (p := 2) (q := 3) (ty := 26) rfl _ _ w.heap.size 26 (bys zerosP) (0, 0) _ rfl (setRow_heap _ _ _ _ _ _ Hz.out) Try.underlying26 rfl (by kernel_rfl)) rfl ⟨by rw [hbad]; rfl, ?_⟩
          exact below_setRow hB (Nat.le_refl _) _
        · have ht3 : decide (d < 0) = false := by simpa using hneg
          have hlen := parseTo_length s j
          have hnx : parseTo s (j + 1) = putP (parseTo s j) j d := by rw [← Hd.out, ← Hc.out]; rfl
          have hok1 : okTo s (j + 1) = true := by simp only [okTo, Hok.out, Hc.out, Hd.out, Bool.true_and, decide_eq_true_eq]; omega
          unfold putP at hnx
          obtain ⟨m, hm⟩ : ∃ m, j / 2 = m := ⟨_, rfl⟩
          rw [hm] at hnx
          have hmm : m < 32 := by omega
          have hmi : (m : Int) < 32 := by omega
          have hq : (j : Int) / 2 = (m : Int) := by omega
          have hdv : IntKind.u8.wrap d = d := by rw [IntKind.wrap_u8]; omega
          have hc2 := byte_cell hk (k := m) (by rw [hlen]; exact hmm)
          have hfz := frozen_of_row wr (w.heap.size + 1) m _ _ hk
          generalize parseTo s j = ks at *
          generalize ks.getD m 0 = x at *
          have Hnx := keep hnx
          have Hok1 := keep hok1
          have Hk := keep hk
          have Hm := keep hm
          clear hnx hok1 hk hm hlen hmm
          go_wp2_with fail
          refine hcl.mono ?_
          rintro e w8 ⟨rfl, hw8⟩
          rw [hw8]
          clear hw8
          go_wp2
          go_roundw
          case rel =>
            refine ⟨j + 1, by omega, by go_num, Hok1.out, (heap_setCell_other wr ⟨w.heap.size + 1, m, none⟩ w.heap.size _ (by simp)).trans Hz.out, ?_, hB.setCell (by simp) _⟩
            rw [Hnx.out]
            exact byte_set Hk.out m _
          case measure => simp [intOf]; omega
      · obtain rfl : j = 64 := by omega
        have ht2 : decide (((64 : Nat) : Int) < (s.size : Int)) = false := by simp; omega
        have hgood := parse_good h64 hok
        have hlen := parseTo_length s 64
        generalize parseTo s 64 = ks at *
        have Hgood := keep hgood
        have Hz := keep hz
        have Hk := keep hk
        have Hinf : Keep ((Try.prog.info? 26).map (·.size) = some (bys ks).size) := ⟨by rw [show (bys ks).size = 32 by simp [bys, hlen]]; kernel_rfl⟩
        have Hsz : Keep ((bys ks).size = 32) := ⟨by simp [bys, hlen]⟩
        have Hone : Keep ((bys ks).all (·.oneCell') = true) := ⟨by simp [bys, Value.oneCell']⟩
        clear hgood hlen hz hk hok
        go_wp2_with (first | (refine wpList_load_row rfl 26 (.tmp 4) rfl (w.heap.size + 1) rfl 26 (bys ks) (0, 0) _ Hk.out Try.underlying26 rfl Hinf.out ?_) | (refine wpList_store_row rfl 26 (.tmp 2) (.tmp 35) rfl w.heap.size (bys ks) rfl rfl 26 _ Hz.out Hinf.out (by rw [Hsz.out]; rfl) Hone.out ?_))
        refine bodyPost_ret (results_cell_slot (p := 2) (q := 3) (ty := 26) rfl _ _ w.heap.size 26 (bys ks) (0, 0) _ rfl (setRow_heap _ _ _ _ _ _ Hz.out) Try.underlying26 rfl Hinf.out) rfl ⟨by rw [Hgood.out]; rfl, ?_⟩
        exact below_setRow hB (Nat.le_refl _) _
  · have ht : decide ((s.size : Int) = 64) = false := by simp; omega
    have Hr2 := keep hr2
    have Hr4 := keep hr4
    clear hr2 hr4
    go_wp2_with (first | (refine wpList_build_as rfl 26 _ rfl (bys zerosP) (by kernel_rfl) ?_) | (refine wpList_store_row rfl 26 (.tmp 2) (.tmp 10) rfl w.heap.size (bys zerosP) rfl rfl 26 _ Hr2.out (by kernel_rfl) rfl (by kernel_rfl) ?_))
    have hbad := parse_short h64
    refine bodyPost_ret (results_cell_slot (p := 2) (q := 3) (ty := 26) rfl _ _ w.heap.size 26 (bys zerosP) (0, 0) _ rfl (setRow_heap _ _ _ _ _ _ Hr2.out) Try.underlying26 rfl (by kernel_rfl)) rfl ⟨by rw [hbad]; rfl, ?_⟩
    exact below_setRow hb2 (Nat.le_refl _) _
end Go.Proofs.Ytpgenmddanppoaa
