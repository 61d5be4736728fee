/- The reference's sum of parts. -/
import Derived.Test.YtmfgcdfemhaieaaShaH
namespace Go.Proofs.Ytmfgcdfemhaieaa
open Go.RowKit

set_option maxRecDepth 100000 in
set_option maxHeartbeats 2000000 in
theorem of_any (A : Option Addr) (c : Nat) (l : List (List Int)) (w : World) (hL : l.flatten.length ≤ 1099511627776) (HP : RdP w w.heap.size A l) (hl : l.length ≤ 1099511627776) :
    Calls Try.prog 22 #[.slice A l.length c] w (SumPost l.flatten w) := by
  go_enter Try.func22, Try.ntmps22
  go_wp2
  have hr0 : (w.alloc (.cells (bys (List.replicate 32 0)) 30)).heap[w.heap.size]? = some (.cells (bys (List.replicate 32 0)) 30 (0, 0)) := heap_alloc_new w _
  have hb0 : Below w.heap.size w (w.alloc (.cells (bys (List.replicate 32 0)) 30)) := (Below.refl _ _).alloc (Nat.le_refl _) _
  generalize hw1 : w.alloc (.cells (bys (List.replicate 32 0)) 30) = w1 at hr0 hb0
  have hlt1 := row_lt hr0
  have Hw1 := keep hw1
  clear hw1
  go_loopw [3, 4] (fun v i wr => ∃ j : Nat, j ≤ l.length ∧ i = .int .i64 j ∧ OwnI wr (w.heap.size + 1) 5 .u8 v (l.take j).flatten ∧ wr.heap[w.heap.size]? = some (.cells (bys (List.replicate 32 0)) 30 (0, 0)) ∧ Below w.heap.size w wr) (fun _ i _ => l.length - (intOf i).toNat)
  case atStart =>
    refine ⟨0, by omega, rfl, by simpa using OwnI.none_ _ _ _ _, ?_, ?_⟩
    · have := Hw1.out; exact this ▸ hr0
    · have := Hw1.out; exact this ▸ hb0
  case round =>
    obtain ⟨j, hj, rfl, hO, hr, hB⟩ := hrel
    have hlt := row_lt hr
    by_cases hjl : j < l.length
    · obtain ⟨pb, po, Aj, cj, rfl, hpb, hcell, hcj, hRj⟩ := HP.at_ j hjl
      have hnx : (l.take (j + 1)).flatten = (l.take j).flatten ++ l.getD j [] := by
        rw [List.take_succ_eq_append_getElem hjl, List.flatten_append]
        simp only [List.flatten_cons, List.flatten_nil, List.append_nil, List.getD_eq_getElem?_getD, List.getElem?_eq_getElem hjl, Option.getD_some]
      obtain ⟨hx1, _⟩ := flat_at l j hjl
      generalize l.getD j [] = xs at *
      have hcell' : wr.cell? ⟨pb, po + j, none⟩ = some (.slice Aj xs.length cj) := (hB.cell hpb).trans hcell
      obtain ⟨m, hm⟩ : ∃ m, xs.length = m := ⟨_, rfl⟩
      have Hm := keep hm
      rw [hm] at hcell' hcj hx1
      obtain ⟨ys, hys⟩ : ∃ ys, (l.take j).flatten = ys := ⟨_, rfl⟩
      rw [hys] at hnx hx1 hO
      obtain ⟨yl, hyl⟩ : ∃ yl, ys.length = yl := ⟨_, rfl⟩
      rw [hyl] at hx1
      have Hyl := keep hyl
      have Hnx := keep hnx
      have hRw := hRj.below hB
      have ht : decide ((j : Int) < (l.length : Int)) = true := by simp; omega
      clear hcell hm hys hyl hnx hRj
      go_wp2_with (at_builtin; refine wpList_append_ints (w0 := wr) (W := wr) (w.heap.size + 1) rfl (.tmp 11) (.tmp 15) 23 5 .u8 1 rfl Try.underlying23 info5 _ ys xs w.heap.size Aj m cj rfl rfl Hm.out hO hRw (Below.refl _ _) hlt (by omega) (by rw [Hyl.out]; omega) ?_)
      rintro v7 w7 hO7 hB7 hg7 _
      go_wp2
      go_roundw
      case rel =>
        refine ⟨j + 1, by omega, by go_num, by rw [Hnx.out]; exact hO7, ?_, hB.trans (hB7.mono (by omega))⟩
        rw [hB7.block _ (by omega)]
        exact hr
      case measure => simp [intOf]; omega
    · have hjl' : (l.take j).flatten = l.flatten := by rw [List.take_of_length_le (by omega)]
      have ht : decide ((j : Int) < (l.length : Int)) = false := by simp; omega
      rw [hjl'] at hO
      obtain ⟨A3, c3, rfl, hc3, hR3⟩ := hO.slice
      obtain ⟨fl, hfl⟩ : ∃ fl, l.flatten = fl := ⟨_, rfl⟩
      rw [hfl] at hL hO hR3 hc3 ⊢
      have Hr := keep hr
      have hsz : (bys (sumP fl)).size = 32 := by simp [bys, sumP, keyTo_length]
      have hone : (bys (sumP fl)).all (·.oneCell') = true := by simp [bys, Value.oneCell']
      have Hsz := keep hsz
      have Hone := keep hone
      have Hfl := keep hfl
      have Hinf : Keep ((Try.prog.info? 30).map (·.size) = some (bys (sumP fl)).size) := ⟨by rw [hsz]; kernel_rfl⟩
      obtain ⟨wo, rfl⟩ : ∃ w' : World, w' = wr := ⟨_, rfl⟩
      clear hjl' hr hsz hone hfl hr0
      go_wp2_with fail
      refine (rsum_any A3 c3 fl wo.heap.size wo hL hR3 (Nat.le_refl _)).mono ?_
      rintro e w8 ⟨rfl, hB8⟩
      have hr8 : w8.heap[w.heap.size]? = some (.cells (bys (List.replicate 32 0)) 30 (0, 0)) := by rw [hB8.block _ hlt]; exact Hr.out
      have Hr8 := keep hr8
      generalize hk : sumP fl = key at *
      have Hk := keep hk
      clear hr8 hk
      go_wp2_with (refine wpList_store_row rfl 30 (.tmp 2) (.tmp 18) rfl w.heap.size (bys key) rfl rfl 30 _ Hr8.out Hinf.out (by rw [Hsz.out]; rfl) Hone.out ?_)
      refine bodyPost_ret (results_cell_row (p := 2) (ty := 30) rfl _ _ w.heap.size 30 (bys key) (0, 0) _ rfl (setRow_heap _ _ _ _ _ _ Hr8.out) Try.underlying30 rfl Hinf.out) rfl ⟨by rw [Hfl.out, Hk.out], ?_⟩
      exact below_setRow (hB.trans (hB8.mono (by omega))) (Nat.le_refl _) _
end Go.Proofs.Ytmfgcdfemhaieaa
