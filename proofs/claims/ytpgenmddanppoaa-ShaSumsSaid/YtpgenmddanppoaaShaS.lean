/- The law of parts' sums: the walk. -/
import Derived.Test.YtpgenmddanppoaaShaP
import Derived.Deep.RegionHeld3
namespace Go.Proofs.Ytpgenmddanppoaa
open Go.RowKit

theorem held_alloc {g B : Nat} {cs : List Value} {wz W : World} (hB : B = wz.heap.size) (h : W.rangeAt g 0 cs ∧ Below B wz W) (ob : Obj) : (W.alloc ob).rangeAt g 0 cs ∧ Below B wz (W.alloc ob) :=
  ⟨World.rangeAt_alloc h.1 ob, h.2.alloc (by rw [hB]; exact h.2.size) ob⟩
theorem RdP.more {w : World} {B B' : Nat} {A : Option Addr} {l : List (List Int)} (h : RdP w B A l) (hB : B ≤ B') : RdP w B' A l :=
  ⟨fun j hj => by
    obtain ⟨b, off, Aj, cj, h1, h2, h3, h4, h5⟩ := h.at_ j hj
    exact ⟨b, off, Aj, cj, h1, Nat.lt_of_lt_of_le h2 hB, h3, h4, h5.more hB⟩⟩
theorem RdP.two {W : World} {p B : Nat} {A A' : Option Addr} {c c' : Nat} {xs ys : List Int} (hc : W.cell? ⟨p, 0, none⟩ = some (.slice A xs.length c)) (hc' : W.cell? ⟨p, 1, none⟩ = some (.slice A' ys.length c')) (hB : p < B) (hl : xs.length ≤ c) (hl' : ys.length ≤ c') (h : RdI W B .u8 A xs) (h' : RdI W B .u8 A' ys) : RdP W B (some ⟨p, 0, none⟩) [xs, ys] :=
  ⟨fun j hj => by
    rcases (by simp at hj; omega : j = 0 ∨ j = 1) with rfl | rfl
    · exact ⟨p, 0, A, c, rfl, hB, hc, hl, h⟩
    · exact ⟨p, 0, A', c', rfl, hB, hc', hl', h'⟩⟩

set_option maxRecDepth 100000 in
set_option linter.unusedSimpArgs false in
set_option linter.unusedVariables false in
set_option maxHeartbeats 4000000 in
theorem sums_walk (A : Option Addr) (c : Nat) (l : List (List Int)) (m : Int) (w : World) (HP : RdP w w.heap.size A l) :
    Calls Try.prog 3 #[.slice A l.length c, .int .i64 m] w fun e w' => e = .returned (.bool true) ∧ Below w.heap.size w w' := by
  have hkn := known_any w
  go_enter Try.func3, Try.ntmps3
  go_wp2_with fail
  refine hkn.mono ?_
  rintro e w1 ⟨rfl, hB1⟩
  by_cases hl10 : l.length ≤ 10
  · have ht : decide ((10 : Int) < (l.length : Int)) = false := by simp; omega
    go_wp2_with fail
    go_loopw [5, 6] (fun v i wr => ∃ j : Nat, j ≤ l.length ∧ i = .int .i64 j ∧ OwnI wr w.heap.size 5 .u8 v (l.take j).flatten ∧ (l.take j).flatten.length ≤ 300 * j ∧ Below w.heap.size w wr) (fun _ i _ => l.length - (intOf i).toNat)
    case atStart => exact ⟨0, by omega, rfl, by simpa using OwnI.none_ _ _ _ _, by simp, hB1⟩
    case round =>
      obtain ⟨j, hj, rfl, hO, hlen, hB⟩ := hrel
      by_cases hjl : j < l.length
      · obtain ⟨pb, po, Aj, cj, rfl, hpb, hcell, hcj, hRj⟩ := HP.at_ j hjl
        have hnx : (l.take (j + 1)).flatten = (l.take j).flatten ++ l.getD j [] := by
          rw [List.take_succ_eq_append_getElem hjl, List.flatten_append]
          simp only [List.flatten_cons, List.flatten_nil, List.append_nil, List.getD_eq_getElem?_getD, List.getElem?_eq_getElem hjl, Option.getD_some]
        generalize l.getD j [] = xs at *
        have hcell' : wr.cell? ⟨pb, po + j, none⟩ = some (.slice Aj xs.length cj) := (hB.cell hpb).trans hcell
        obtain ⟨mx, hm⟩ : ∃ mx, xs.length = mx := ⟨_, rfl⟩
        have Hm := keep hm
        rw [hm] at hcell' hcj
        obtain ⟨ys, hys⟩ : ∃ ys, (l.take j).flatten = ys := ⟨_, rfl⟩
        rw [hys] at hnx hO hlen
        have Hyl := keep hlen
        have Hnx := keep hnx
        have hRw := hRj.below hB
        have ht2 : decide ((j : Int) < (l.length : Int)) = true := by simp; omega
        have hji : (j : Int) < (l.length : Int) := by omega
        clear hcell hm hys hnx hRj hlen
        by_cases h300 : mx ≤ 300
        · have ht3 : decide ((300 : Int) < (mx : Int)) = false := by simp; omega
          go_wp2_with (at_builtin; refine wpList_append_ints (w0 := wr) (W := wr) w.heap.size rfl (.tmp 26) (.tmp 30) 24 5 .u8 1 rfl Try.underlying24 info5 _ ys xs w.heap.size Aj mx cj rfl rfl Hm.out hO hRw (Below.refl _ _) hB.size (by omega) (by have := Hyl.out; omega) ?_)
          rintro v7 w7 hO7 hB7 hg7 _
          go_wp2_with fail
          go_roundw
          case rel =>
            refine ⟨j + 1, by omega, by go_num, by rw [Hnx.out]; exact hO7, ?_, hB.trans hB7⟩
            have := Hyl.out
            rw [Hnx.out, List.length_append, Hm.out]
            omega
          case measure => simp [intOf]; omega
        · have ht3 : decide ((300 : Int) < (mx : Int)) = true := by simp; omega
          go_wp2_with fail
          go_ret
          exact ⟨rfl, hB⟩
      · have hjl' : (l.take j).flatten = l.flatten := by rw [List.take_of_length_le (by omega)]
        have ht2 : decide ((j : Int) < (l.length : Int)) = false := by simp; omega
        rw [hjl'] at hO hlen
        have hfl : l.flatten.length ≤ 3000 := by omega
        obtain ⟨A3, c3, rfl, hc3, hR3⟩ := hO.slice
        have HPr := HP.below hB
        clear hjl' hlen hO
        have hofz : ∀ W : World, Below w.heap.size w W → Calls Try.prog 7 #[.slice A l.length c] W (SumPost l.flatten W) := fun W hW => of_any A c l W (by omega) ((HP.below hW).more hW.size) (by omega)
        generalize hflat : l.flatten = fl at *
        have Hflat := keep hflat
        clear hflat
        obtain ⟨n, hn⟩ : ∃ n, fl.length = n := ⟨_, rfl⟩
        rw [hn] at hfl hc3
        obtain ⟨k, hkn, hq⟩ : ∃ k : Nat, k ≤ n ∧ (m.tmod ((n : Int) + 1) = k ∨ (m.tmod ((n : Int) + 1) = -(k : Int) ∧ 0 < k)) := by
          have h : (m.tmod ((n : Int) + 1)).natAbs = m.natAbs % ((n : Int) + 1).natAbs := Int.natAbs_tmod m _
          have h2 : ((n : Int) + 1).natAbs = n + 1 := by omega
          rw [h2] at h
          have h3 := Nat.mod_lt m.natAbs (show n + 1 > 0 by omega)
          exact ⟨(m.tmod ((n : Int) + 1)).natAbs, by omega, by omega⟩
        have hw : wrap64 (k : Int) = k := by rw [wrap64]; omega
        rw [hn]
        have Hn := keep hn
        clear hn
        rcases hq with hq | ⟨hq, hkp⟩
        · have hneg : decide ((k : Int) < 0) = false := by simp
          go_wp2_with fail
          refine (hofz wr hB).mono ?_
          rintro e w2 ⟨rfl, hB2⟩
          have hlK := sumP_length fl
          have hKd : Keep (sumP fl = sumP fl) := ⟨rfl⟩
          have hb2 := hB.trans (hB2.mono hB.size)
          have hS0 : ∀ (W : World) (A' : Option Addr) (c' : Nat) (l' : List (List Int)), l'.flatten = fl → l'.length ≤ 10 → RdP W W.heap.size A' l' → Calls Try.prog 8 #[.slice A' l'.length c'] W fun e w' => e = .returned (.agg (bys (sumP fl))) ∧ Below W.heap.size W w' := by
            intro W A' c' l' h1 h2 h3
            have h := ssum_any A' c' l' W (by rw [h1, Hn.out]; omega) h3 (by omega)
            rw [h1] at h
            exact h
          generalize sumP fl = K at *
          have Hinf : Keep ((Try.prog.info? 26).map (·.size) = some (bys K).size) := ⟨by rw [show (bys K).size = 32 by simp [bys, hlK]]; kernel_rfl⟩
          have Hsz : Keep ((bys K).size = 32) := ⟨by simp [bys, hlK]⟩
          have Hone : Keep ((bys K).all (·.oneCell') = true) := ⟨by simp [bys, Value.oneCell']⟩
          have HlK := keep hlK
          clear hlK
          go_wp2_with (refine wpList_store_row rfl 26 (.tmp 8) (.tmp 42) rfl w2.heap.size (bys K) rfl rfl 26 _ (heap_alloc_new w2 _) Hinf.out (by rw [Hsz.out]; rfl) Hone.out ?_; rw [setRow_alloc])
          have hr3 : (w2.alloc (.cells (bys K) 26)).heap[w2.heap.size]? = some (.cells (bys K) 26 (0, 0)) := heap_alloc_new w2 _
          have hb3 : Below w.heap.size w (w2.alloc (.cells (bys K) 26)) := hb2.alloc hb2.size _
          have hbr : Below wr.heap.size wr (w2.alloc (.cells (bys K) 26)) := hB2.alloc hB2.size _
          generalize w2.alloc (.cells (bys K) 26) = w3 at *
          have HP3 := (HP.below hb3).more hb3.size
          have hRt := (hR3.below hbr).more hbr.size
          obtain ⟨At, hcut, hrd⟩ := cut_tail (P := Try.prog) 24 5 Try.underlying24 (by kernel_rfl) A3 n c3 (k : Int) (by omega) (by omega)
          have hhead := cut_head (P := Try.prog) 24 5 Try.underlying24 (by kernel_rfl) A3 n c3 (k : Int) (by omega) (by omega)
          simp only [Int.toNat_natCast] at hcut hhead hrd
          have hRd := hrd w3 w3.heap.size .u8 fl hc3 Hn.out hRt
          have hRh := hRt.take_ k
          have hra : w3.drew.rangeAt w2.heap.size 0 (K.map (Value.int .u8)) := by
            rw [World.rangeAt_drew]
            intro j v hv
            rw [cell_of_row w3 _ _ _ _ _ hr3]
            simpa [bys] using hv
          have hbz : Below w3.heap.size w3 w3.drew := (Below.refl _ _).drew
          have hs0 := And.intro hra hbz
          have C0 : ∀ W : World, (W.rangeAt w2.heap.size 0 (K.map (Value.int .u8)) ∧ Below w3.heap.size w3 W) → Calls Try.prog 8 #[.slice A l.length c] W fun e w' => e = .returned (.agg (bys K)) ∧ (w'.rangeAt w2.heap.size 0 (K.map (Value.int .u8)) ∧ Below w3.heap.size w3 w') := by
            rintro W ⟨h1, h2⟩
            refine (hS0 W A c l Hflat.out hl10 ((HP3.below h2).more h2.size)).mono ?_
            rintro e w' ⟨he, hb⟩
            exact ⟨he, range_below h1 hb, h2.trans (hb.mono h2.size)⟩
          have C1 : ∀ W : World, ((W.alloc (.cells #[.slice A3 n c3] 24)).rangeAt w2.heap.size 0 (K.map (Value.int .u8)) ∧ Below w3.heap.size w3 (W.alloc (.cells #[.slice A3 n c3] 24))) → Calls Try.prog 8 #[.slice (some ⟨W.heap.size, 0, none⟩) 1 1] (W.alloc (.cells #[.slice A3 n c3] 24)) fun e w' => e = .returned (.agg (bys K)) ∧ (w'.rangeAt w2.heap.size 0 (K.map (Value.int .u8)) ∧ Below w3.heap.size w3 w') := by
            rintro W ⟨h1, h2⟩
            have hz1 : (W.alloc (.cells #[.slice A3 n c3] 24)).heap.size = W.heap.size + 1 := by simp
            have hc1 : (W.alloc (.cells #[.slice A3 n c3] 24)).cell? ⟨W.heap.size, 0, none⟩ = some (.slice A3 fl.length c3) := by
              rw [Hn.out, cell_of_row _ W.heap.size 0 _ _ _ (heap_alloc_new W _)]; rfl
            refine (hS0 _ (some ⟨W.heap.size, 0, none⟩) 1 [fl] (by simp) (by simp) (RdP.one hc1 (by omega) (by rw [Hn.out]; exact hc3) ((hRt.below h2).more h2.size))).mono ?_
            rintro e w' ⟨he, hb⟩
            exact ⟨he, range_below h1 hb, h2.trans (hb.mono h2.size)⟩
          have C2 : ∀ W : World, ((W.alloc (.cells #[.slice A3 k c3, .slice At (n - k) (c3 - k)] 24)).rangeAt w2.heap.size 0 (K.map (Value.int .u8)) ∧ Below w3.heap.size w3 (W.alloc (.cells #[.slice A3 k c3, .slice At (n - k) (c3 - k)] 24))) → Calls Try.prog 8 #[.slice (some ⟨W.heap.size, 0, none⟩) 2 2] (W.alloc (.cells #[.slice A3 k c3, .slice At (n - k) (c3 - k)] 24)) fun e w' => e = .returned (.agg (bys K)) ∧ (w'.rangeAt w2.heap.size 0 (K.map (Value.int .u8)) ∧ Below w3.heap.size w3 w') := by
            rintro W ⟨h1, h2⟩
            have hz1 : (W.alloc (.cells #[.slice A3 k c3, .slice At (n - k) (c3 - k)] 24)).heap.size = W.heap.size + 1 := by simp
            have lt : (fl.take k).length = k := by rw [List.length_take, Hn.out]; omega
            have ld : (fl.drop k).length = n - k := by rw [List.length_drop, Hn.out]
            have hc1 : (W.alloc (.cells #[.slice A3 k c3, .slice At (n - k) (c3 - k)] 24)).cell? ⟨W.heap.size, 0, none⟩ = some (.slice A3 (fl.take k).length c3) := by
              rw [lt, cell_of_row _ W.heap.size 0 _ _ _ (heap_alloc_new W _)]; rfl
            have hc2 : (W.alloc (.cells #[.slice A3 k c3, .slice At (n - k) (c3 - k)] 24)).cell? ⟨W.heap.size, 1, none⟩ = some (.slice At (fl.drop k).length (c3 - k)) := by
              rw [ld, cell_of_row _ W.heap.size 1 _ _ _ (heap_alloc_new W _)]; rfl
            refine (hS0 _ (some ⟨W.heap.size, 0, none⟩) 2 [fl.take k, fl.drop k] (by simp) (by simp) (RdP.two hc1 hc2 (by omega) (by omega) (by omega) ((hRh.below h2).more h2.size) ((hRd.below h2).more h2.size))).mono ?_
            rintro e w' ⟨he, hb⟩
            exact ⟨he, range_below h1 hb, h2.trans (hb.mono h2.size)⟩
          have hke : ∀ W, (Op.equalIn 10000 26 (.agg (bys K)) (.agg (List.map (Value.int .u8) K).toArray)).run Try.prog W = .ok true W := fun W => keys_same W HlK.out
          have hu := Try.underlying26
          have hln : (K.map (Value.int .u8)).length = 32 := by rw [List.length_map]; exact HlK.out
          have hi' : (Try.prog.info? 26).map (·.size) = some (K.map (Value.int .u8)).length := by rw [hln]; kernel_rfl
          clear hRd hRh hRt HP3 hbr hS0 hofz hR3 HPr hr3 hrd hB2 hb2 hra hbz hKd
          go_wp2_with fail
          refine wp_region_noPanic ?_
          refine wp_region_held_drew (S := fun w' => w'.rangeAt w2.heap.size 0 (K.map (Value.int .u8)) ∧ Below w3.heap.size w3 w') (by kernel_rfl) hs0 (fun hHeld => ?_)
          refine wpAnyH_take (i := 0) (v := ?_) rfl (by kernel_rfl) (by kernel_rfl) (by kernel_rfl) (fun _ _ _ h => h) (Or.inl ⟨by rfl, ?_⟩) (by assumption) ?_
          rotate_left
          · intro wq hSw
            go_simp
            try (with_reducible rfl)
          try simp only [Act.put, List.setIfInBounds_toArray, List.set_cons_zero, List.set_cons_succ, List.getElem_toArray, List.getElem_cons_succ, List.getElem_cons_zero]
          refine wpAnyH_take (i := 2) (v := _) rfl (by kernel_rfl) (by kernel_rfl) (by kernel_rfl) (fun _ _ _ h => h) (yieldsIf_load_mid (by rfl) _ _ rfl w2.heap.size 0 rfl (K.map (Value.int .u8)) _ (fun _ h => h.1) hu rfl hi') (by assumption) ?_
          try simp only [Act.put, List.setIfInBounds_toArray, List.set_cons_zero, List.set_cons_succ, List.getElem_toArray, List.getElem_cons_succ, List.getElem_cons_zero]
          refine wpAnyH_ready (rs := [1]) (by kernel_rfl) (by simp) ?_
          refine AllReadyH.cons rfl (fun Kq hKq => ?_) AllReadyH.nil
          go_simp
          go_at_call 8
          refine (C0 _ (by assumption)).mono ?_
          rintro e w' ⟨rfl, hs'⟩
          try simp only []
          refine hKq.out _ _ ?_ (fun hHeld => ?_)
          · exact hs'
          clear hKq Kq
          try simp only [Act.put, List.setIfInBounds_toArray, List.set_cons_zero, List.set_cons_succ, List.getElem_toArray, List.getElem_cons_succ, List.getElem_cons_zero]
          refine wpAnyH_take (i := 3) (v := ?_) rfl (by kernel_rfl) (by kernel_rfl) (by kernel_rfl) (fun _ _ _ h => h) (Or.inl ⟨by rfl, ?_⟩) (by assumption) ?_
          rotate_left
          · intro wq hSw
            go_simp
            try (with_reducible rfl)
          try simp only [Act.put, List.setIfInBounds_toArray, List.set_cons_zero, List.set_cons_succ, List.getElem_toArray, List.getElem_cons_succ, List.getElem_cons_zero]
          refine wpAnyH_take (i := 4) (v := ?_) rfl (by kernel_rfl) (by kernel_rfl) (by kernel_rfl) (fun _ _ _ h => h) (Or.inl ⟨by rfl, ?_⟩) (by assumption) ?_
          rotate_left
          · intro wq hSw
            go_simp
            try (with_reducible rfl)
          try simp only [Act.put, List.setIfInBounds_toArray, List.set_cons_zero, List.set_cons_succ, List.getElem_toArray, List.getElem_cons_succ, List.getElem_cons_zero]
          refine wpAnyH_take (i := 5) (v := ?_) rfl (by kernel_rfl) (by kernel_rfl) (by kernel_rfl) (fun _ _ _ h => h) (Or.inl ⟨by rfl, ?_⟩) (by assumption) ?_
          rotate_left
          · intro wq hSw
            go_simp
            try (with_reducible rfl)
          try simp only [Act.put, List.setIfInBounds_toArray, List.set_cons_zero, List.set_cons_succ, List.getElem_toArray, List.getElem_cons_succ, List.getElem_cons_zero]
          refine wpAnyH_take (i := 8) (v := _) rfl (by kernel_rfl) (by kernel_rfl) (by kernel_rfl) (fun _ _ _ h => h) (yieldsIf_load_mid (by rfl) _ _ rfl w2.heap.size 0 rfl (K.map (Value.int .u8)) _ (fun _ h => h.1) hu rfl hi') (by assumption) ?_
          try simp only [Act.put, List.setIfInBounds_toArray, List.set_cons_zero, List.set_cons_succ, List.getElem_toArray, List.getElem_cons_succ, List.getElem_cons_zero]
          refine wpAnyH_ready (rs := [6]) (by kernel_rfl) (by simp) ?_
          refine AllReadyH.cons rfl (fun Kq hKq => ?_) AllReadyH.nil
          go_simp
          refine hKq.out _ _ ?_ (fun hHeld => ?_)
          · exact held_alloc rfl (by assumption) _
          clear hKq Kq
          try simp only [Act.put, List.setIfInBounds_toArray, List.set_cons_zero, List.set_cons_succ, List.getElem_toArray, List.getElem_cons_succ, List.getElem_cons_zero]
          refine wpAnyH_ready (rs := [7]) (by kernel_rfl) (by simp) ?_
          refine AllReadyH.cons rfl (fun Kq hKq => ?_) AllReadyH.nil
          go_simp
          go_at_call 8
          refine (C1 _ (by assumption)).mono ?_
          rintro e w' ⟨rfl, hs'⟩
          try simp only []
          refine hKq.out _ _ ?_ (fun hHeld => ?_)
          · exact hs'
          clear hKq Kq
          try simp only [Act.put, List.setIfInBounds_toArray, List.set_cons_zero, List.set_cons_succ, List.getElem_toArray, List.getElem_cons_succ, List.getElem_cons_zero]
          refine wpAnyH_take (i := 9) (v := ?_) rfl (by kernel_rfl) (by kernel_rfl) (by kernel_rfl) (fun _ _ _ h => h) (Or.inl ⟨by rfl, ?_⟩) (by assumption) ?_
          rotate_left
          · intro wq hSw
            go_simp
            try (with_reducible rfl)
          try simp only [Act.put, List.setIfInBounds_toArray, List.set_cons_zero, List.set_cons_succ, List.getElem_toArray, List.getElem_cons_succ, List.getElem_cons_zero]
          refine wpAnyH_take (i := 10) (v := ?_) rfl (by kernel_rfl) (by kernel_rfl) (by kernel_rfl) (fun _ _ _ h => h) (Or.inl ⟨by rfl, ?_⟩) (by assumption) ?_
          rotate_left
          · intro wq hSw
            go_simp
            try (with_reducible rfl)
          try simp only [Act.put, List.setIfInBounds_toArray, List.set_cons_zero, List.set_cons_succ, List.getElem_toArray, List.getElem_cons_succ, List.getElem_cons_zero]
          refine wpAnyH_take (i := 11) (v := ?_) rfl (by kernel_rfl) (by kernel_rfl) (by kernel_rfl) (fun _ _ _ h => h) (Or.inl ⟨by rfl, ?_⟩) (by assumption) ?_
          rotate_left
          · intro wq hSw
            go_simp
            try (with_reducible rfl)
          try simp only [Act.put, List.setIfInBounds_toArray, List.set_cons_zero, List.set_cons_succ, List.getElem_toArray, List.getElem_cons_succ, List.getElem_cons_zero]
          refine wpAnyH_take (i := 12) (v := ?_) rfl (by kernel_rfl) (by kernel_rfl) (by kernel_rfl) (fun _ _ _ h => h) (Or.inl ⟨by rfl, ?_⟩) (by assumption) ?_
          rotate_left
          · intro wq hSw
            go_simp
            try (with_reducible rfl)
          try simp only [Act.put, List.setIfInBounds_toArray, List.set_cons_zero, List.set_cons_succ, List.getElem_toArray, List.getElem_cons_succ, List.getElem_cons_zero]
          refine wpAnyH_take (i := 13) (v := ?_) rfl (by kernel_rfl) (by kernel_rfl) (by kernel_rfl) (fun _ _ _ h => h) (Or.inl ⟨by rfl, ?_⟩) (by assumption) ?_
          rotate_left
          · intro wq hSw
            go_simp
            try (with_reducible rfl)
          try simp only [Act.put, List.setIfInBounds_toArray, List.set_cons_zero, List.set_cons_succ, List.getElem_toArray, List.getElem_cons_succ, List.getElem_cons_zero]
          refine wpAnyH_take (i := 14) (v := ?_) rfl (by kernel_rfl) (by kernel_rfl) (by kernel_rfl) (fun _ _ _ h => h) (Or.inl ⟨by rfl, ?_⟩) (by assumption) ?_
          rotate_left
          · intro wq hSw
            go_simp
            try (with_reducible rfl)
          try simp only [Act.put, List.setIfInBounds_toArray, List.set_cons_zero, List.set_cons_succ, List.getElem_toArray, List.getElem_cons_succ, List.getElem_cons_zero]
          refine wpAnyH_take (i := 15) (v := ?_) rfl (by kernel_rfl) (by kernel_rfl) (by kernel_rfl) (fun _ _ _ h => h) (Or.inl ⟨by rfl, ?_⟩) (by assumption) ?_
          rotate_left
          · intro wq hSw
            go_simp
            try (with_reducible rfl)
          try simp only [Act.put, List.setIfInBounds_toArray, List.set_cons_zero, List.set_cons_succ, List.getElem_toArray, List.getElem_cons_succ, List.getElem_cons_zero]
          refine wpAnyH_take (i := 16) (v := ?_) rfl (by kernel_rfl) (by kernel_rfl) (by kernel_rfl) (fun _ _ _ h => h) (Or.inl ⟨by rfl, ?_⟩) (by assumption) ?_
          rotate_left
          · intro wq hSw
            go_simp
            try (with_reducible rfl)
          try simp only [Act.put, List.setIfInBounds_toArray, List.set_cons_zero, List.set_cons_succ, List.getElem_toArray, List.getElem_cons_succ, List.getElem_cons_zero]
          refine wpAnyH_take (i := 17) (v := ?_) rfl (by kernel_rfl) (by kernel_rfl) (by kernel_rfl) (fun _ _ _ h => h) (Or.inl ⟨by rfl, ?_⟩) (by assumption) ?_
          rotate_left
          · intro wq hSw
            go_simp
            try (with_reducible rfl)
          try simp only [Act.put, List.setIfInBounds_toArray, List.set_cons_zero, List.set_cons_succ, List.getElem_toArray, List.getElem_cons_succ, List.getElem_cons_zero]
          refine wpAnyH_take (i := 20) (v := _) rfl (by kernel_rfl) (by kernel_rfl) (by kernel_rfl) (fun _ _ _ h => h) (yieldsIf_load_mid (by rfl) _ _ rfl w2.heap.size 0 rfl (K.map (Value.int .u8)) _ (fun _ h => h.1) hu rfl hi') (by assumption) ?_
          try simp only [Act.put, List.setIfInBounds_toArray, List.set_cons_zero, List.set_cons_succ, List.getElem_toArray, List.getElem_cons_succ, List.getElem_cons_zero]
          refine wpAnyH_ready (rs := [18]) (by kernel_rfl) (by simp) ?_
          refine AllReadyH.cons rfl (fun Kq hKq => ?_) AllReadyH.nil
          go_simp
          refine hKq.out _ _ ?_ (fun hHeld => ?_)
          · exact held_alloc rfl (by assumption) _
          clear hKq Kq
          try simp only [Act.put, List.setIfInBounds_toArray, List.set_cons_zero, List.set_cons_succ, List.getElem_toArray, List.getElem_cons_succ, List.getElem_cons_zero]
          refine wpAnyH_ready (rs := [19]) (by kernel_rfl) (by simp) ?_
          refine AllReadyH.cons rfl (fun Kq hKq => ?_) AllReadyH.nil
          go_simp
          go_at_call 8
          refine (C2 _ (by assumption)).mono ?_
          rintro e w' ⟨rfl, hs'⟩
          try simp only []
          refine hKq.out _ _ ?_ (fun hHeld => ?_)
          · exact hs'
          clear hKq Kq
          try simp only [Act.put, List.setIfInBounds_toArray, List.set_cons_zero, List.set_cons_succ, List.getElem_toArray, List.getElem_cons_succ, List.getElem_cons_zero]
          refine wpAnyH_take (i := 21) (v := ?_) rfl (by kernel_rfl) (by kernel_rfl) (by kernel_rfl) (fun _ _ _ h => h) (Or.inl ⟨by rfl, ?_⟩) (by assumption) ?_
          rotate_left
          · intro wq hSw
            go_simp
            try (with_reducible rfl)
          try simp only [Act.put, List.setIfInBounds_toArray, List.set_cons_zero, List.set_cons_succ, List.getElem_toArray, List.getElem_cons_succ, List.getElem_cons_zero]
          refine wpAnyH_take (i := 22) (v := ?_) rfl (by kernel_rfl) (by kernel_rfl) (by kernel_rfl) (fun _ _ _ h => h) (Or.inl ⟨by rfl, ?_⟩) (by assumption) ?_
          rotate_left
          · intro wq hSw
            go_simp
            try (with_reducible rfl)
          try simp only [Act.put, List.setIfInBounds_toArray, List.set_cons_zero, List.set_cons_succ, List.getElem_toArray, List.getElem_cons_succ, List.getElem_cons_zero]
          refine wpAnyH_take (i := 23) (v := ?_) rfl (by kernel_rfl) (by kernel_rfl) (by kernel_rfl) (fun _ _ _ h => h) (Or.inl ⟨by rfl, ?_⟩) (by assumption) ?_
          rotate_left
          · intro wq hSw
            go_simp
            try (with_reducible rfl)
          try simp only [Act.put, List.setIfInBounds_toArray, List.set_cons_zero, List.set_cons_succ, List.getElem_toArray, List.getElem_cons_succ, List.getElem_cons_zero]
          refine wpAnyH_done (by kernel_rfl) ?_ _
          refine NoPanic.normal ?_
          go_wp2_with fail
          go_ret
          exact ⟨rfl, hb3.trans (hHeld.2.mono hb3.size)⟩
        · have hneg : decide (-(k : Int) < 0) = true := by simp; omega
          go_wp2_with fail
          refine (hofz wr hB).mono ?_
          rintro e w2 ⟨rfl, hB2⟩
          have hlK := sumP_length fl
          have hKd : Keep (sumP fl = sumP fl) := ⟨rfl⟩
          have hb2 := hB.trans (hB2.mono hB.size)
          have hS0 : ∀ (W : World) (A' : Option Addr) (c' : Nat) (l' : List (List Int)), l'.flatten = fl → l'.length ≤ 10 → RdP W W.heap.size A' l' → Calls Try.prog 8 #[.slice A' l'.length c'] W fun e w' => e = .returned (.agg (bys (sumP fl))) ∧ Below W.heap.size W w' := by
            intro W A' c' l' h1 h2 h3
            have h := ssum_any A' c' l' W (by rw [h1, Hn.out]; omega) h3 (by omega)
            rw [h1] at h
            exact h
          generalize sumP fl = K at *
          have Hinf : Keep ((Try.prog.info? 26).map (·.size) = some (bys K).size) := ⟨by rw [show (bys K).size = 32 by simp [bys, hlK]]; kernel_rfl⟩
          have Hsz : Keep ((bys K).size = 32) := ⟨by simp [bys, hlK]⟩
          have Hone : Keep ((bys K).all (·.oneCell') = true) := ⟨by simp [bys, Value.oneCell']⟩
          have HlK := keep hlK
          clear hlK
          go_wp2_with (refine wpList_store_row rfl 26 (.tmp 8) (.tmp 42) rfl w2.heap.size (bys K) rfl rfl 26 _ (heap_alloc_new w2 _) Hinf.out (by rw [Hsz.out]; rfl) Hone.out ?_; rw [setRow_alloc])
          have hr3 : (w2.alloc (.cells (bys K) 26)).heap[w2.heap.size]? = some (.cells (bys K) 26 (0, 0)) := heap_alloc_new w2 _
          have hb3 : Below w.heap.size w (w2.alloc (.cells (bys K) 26)) := hb2.alloc hb2.size _
          have hbr : Below wr.heap.size wr (w2.alloc (.cells (bys K) 26)) := hB2.alloc hB2.size _
          generalize w2.alloc (.cells (bys K) 26) = w3 at *
          have HP3 := (HP.below hb3).more hb3.size
          have hRt := (hR3.below hbr).more hbr.size
          obtain ⟨At, hcut, hrd⟩ := cut_tail (P := Try.prog) 24 5 Try.underlying24 (by kernel_rfl) A3 n c3 (k : Int) (by omega) (by omega)
          have hhead := cut_head (P := Try.prog) 24 5 Try.underlying24 (by kernel_rfl) A3 n c3 (k : Int) (by omega) (by omega)
          simp only [Int.toNat_natCast] at hcut hhead hrd
          have hRd := hrd w3 w3.heap.size .u8 fl hc3 Hn.out hRt
          have hRh := hRt.take_ k
          have hra : w3.drew.rangeAt w2.heap.size 0 (K.map (Value.int .u8)) := by
            rw [World.rangeAt_drew]
            intro j v hv
            rw [cell_of_row w3 _ _ _ _ _ hr3]
            simpa [bys] using hv
          have hbz : Below w3.heap.size w3 w3.drew := (Below.refl _ _).drew
          have hs0 := And.intro hra hbz
          have C0 : ∀ W : World, (W.rangeAt w2.heap.size 0 (K.map (Value.int .u8)) ∧ Below w3.heap.size w3 W) → Calls Try.prog 8 #[.slice A l.length c] W fun e w' => e = .returned (.agg (bys K)) ∧ (w'.rangeAt w2.heap.size 0 (K.map (Value.int .u8)) ∧ Below w3.heap.size w3 w') := by
            rintro W ⟨h1, h2⟩
            refine (hS0 W A c l Hflat.out hl10 ((HP3.below h2).more h2.size)).mono ?_
            rintro e w' ⟨he, hb⟩
            exact ⟨he, range_below h1 hb, h2.trans (hb.mono h2.size)⟩
          have C1 : ∀ W : World, ((W.alloc (.cells #[.slice A3 n c3] 24)).rangeAt w2.heap.size 0 (K.map (Value.int .u8)) ∧ Below w3.heap.size w3 (W.alloc (.cells #[.slice A3 n c3] 24))) → Calls Try.prog 8 #[.slice (some ⟨W.heap.size, 0, none⟩) 1 1] (W.alloc (.cells #[.slice A3 n c3] 24)) fun e w' => e = .returned (.agg (bys K)) ∧ (w'.rangeAt w2.heap.size 0 (K.map (Value.int .u8)) ∧ Below w3.heap.size w3 w') := by
            rintro W ⟨h1, h2⟩
            have hz1 : (W.alloc (.cells #[.slice A3 n c3] 24)).heap.size = W.heap.size + 1 := by simp
            have hc1 : (W.alloc (.cells #[.slice A3 n c3] 24)).cell? ⟨W.heap.size, 0, none⟩ = some (.slice A3 fl.length c3) := by
              rw [Hn.out, cell_of_row _ W.heap.size 0 _ _ _ (heap_alloc_new W _)]; rfl
            refine (hS0 _ (some ⟨W.heap.size, 0, none⟩) 1 [fl] (by simp) (by simp) (RdP.one hc1 (by omega) (by rw [Hn.out]; exact hc3) ((hRt.below h2).more h2.size))).mono ?_
            rintro e w' ⟨he, hb⟩
            exact ⟨he, range_below h1 hb, h2.trans (hb.mono h2.size)⟩
          have C2 : ∀ W : World, ((W.alloc (.cells #[.slice A3 k c3, .slice At (n - k) (c3 - k)] 24)).rangeAt w2.heap.size 0 (K.map (Value.int .u8)) ∧ Below w3.heap.size w3 (W.alloc (.cells #[.slice A3 k c3, .slice At (n - k) (c3 - k)] 24))) → Calls Try.prog 8 #[.slice (some ⟨W.heap.size, 0, none⟩) 2 2] (W.alloc (.cells #[.slice A3 k c3, .slice At (n - k) (c3 - k)] 24)) fun e w' => e = .returned (.agg (bys K)) ∧ (w'.rangeAt w2.heap.size 0 (K.map (Value.int .u8)) ∧ Below w3.heap.size w3 w') := by
            rintro W ⟨h1, h2⟩
            have hz1 : (W.alloc (.cells #[.slice A3 k c3, .slice At (n - k) (c3 - k)] 24)).heap.size = W.heap.size + 1 := by simp
            have lt : (fl.take k).length = k := by rw [List.length_take, Hn.out]; omega
            have ld : (fl.drop k).length = n - k := by rw [List.length_drop, Hn.out]
            have hc1 : (W.alloc (.cells #[.slice A3 k c3, .slice At (n - k) (c3 - k)] 24)).cell? ⟨W.heap.size, 0, none⟩ = some (.slice A3 (fl.take k).length c3) := by
              rw [lt, cell_of_row _ W.heap.size 0 _ _ _ (heap_alloc_new W _)]; rfl
            have hc2 : (W.alloc (.cells #[.slice A3 k c3, .slice At (n - k) (c3 - k)] 24)).cell? ⟨W.heap.size, 1, none⟩ = some (.slice At (fl.drop k).length (c3 - k)) := by
              rw [ld, cell_of_row _ W.heap.size 1 _ _ _ (heap_alloc_new W _)]; rfl
            refine (hS0 _ (some ⟨W.heap.size, 0, none⟩) 2 [fl.take k, fl.drop k] (by simp) (by simp) (RdP.two hc1 hc2 (by omega) (by omega) (by omega) ((hRh.below h2).more h2.size) ((hRd.below h2).more h2.size))).mono ?_
            rintro e w' ⟨he, hb⟩
            exact ⟨he, range_below h1 hb, h2.trans (hb.mono h2.size)⟩
          have hke : ∀ W, (Op.equalIn 10000 26 (.agg (bys K)) (.agg (List.map (Value.int .u8) K).toArray)).run Try.prog W = .ok true W := fun W => keys_same W HlK.out
          have hu := Try.underlying26
          have hln : (K.map (Value.int .u8)).length = 32 := by rw [List.length_map]; exact HlK.out
          have hi' : (Try.prog.info? 26).map (·.size) = some (K.map (Value.int .u8)).length := by rw [hln]; kernel_rfl
          clear hRd hRh hRt HP3 hbr hS0 hofz hR3 HPr hr3 hrd hB2 hb2 hra hbz hKd
          go_wp2_with fail
          refine wp_region_noPanic ?_
          refine wp_region_held_drew (S := fun w' => w'.rangeAt w2.heap.size 0 (K.map (Value.int .u8)) ∧ Below w3.heap.size w3 w') (by kernel_rfl) hs0 (fun hHeld => ?_)
          refine wpAnyH_take (i := 0) (v := ?_) rfl (by kernel_rfl) (by kernel_rfl) (by kernel_rfl) (fun _ _ _ h => h) (Or.inl ⟨by rfl, ?_⟩) (by assumption) ?_
          rotate_left
          · intro wq hSw
            go_simp
            try (with_reducible rfl)
          try simp only [Act.put, List.setIfInBounds_toArray, List.set_cons_zero, List.set_cons_succ, List.getElem_toArray, List.getElem_cons_succ, List.getElem_cons_zero]
          refine wpAnyH_take (i := 2) (v := _) rfl (by kernel_rfl) (by kernel_rfl) (by kernel_rfl) (fun _ _ _ h => h) (yieldsIf_load_mid (by rfl) _ _ rfl w2.heap.size 0 rfl (K.map (Value.int .u8)) _ (fun _ h => h.1) hu rfl hi') (by assumption) ?_
          try simp only [Act.put, List.setIfInBounds_toArray, List.set_cons_zero, List.set_cons_succ, List.getElem_toArray, List.getElem_cons_succ, List.getElem_cons_zero]
          refine wpAnyH_ready (rs := [1]) (by kernel_rfl) (by simp) ?_
          refine AllReadyH.cons rfl (fun Kq hKq => ?_) AllReadyH.nil
          go_simp
          go_at_call 8
          refine (C0 _ (by assumption)).mono ?_
          rintro e w' ⟨rfl, hs'⟩
          try simp only []
          refine hKq.out _ _ ?_ (fun hHeld => ?_)
          · exact hs'
          clear hKq Kq
          try simp only [Act.put, List.setIfInBounds_toArray, List.set_cons_zero, List.set_cons_succ, List.getElem_toArray, List.getElem_cons_succ, List.getElem_cons_zero]
          refine wpAnyH_take (i := 3) (v := ?_) rfl (by kernel_rfl) (by kernel_rfl) (by kernel_rfl) (fun _ _ _ h => h) (Or.inl ⟨by rfl, ?_⟩) (by assumption) ?_
          rotate_left
          · intro wq hSw
            go_simp
            try (with_reducible rfl)
          try simp only [Act.put, List.setIfInBounds_toArray, List.set_cons_zero, List.set_cons_succ, List.getElem_toArray, List.getElem_cons_succ, List.getElem_cons_zero]
          refine wpAnyH_take (i := 4) (v := ?_) rfl (by kernel_rfl) (by kernel_rfl) (by kernel_rfl) (fun _ _ _ h => h) (Or.inl ⟨by rfl, ?_⟩) (by assumption) ?_
          rotate_left
          · intro wq hSw
            go_simp
            try (with_reducible rfl)
          try simp only [Act.put, List.setIfInBounds_toArray, List.set_cons_zero, List.set_cons_succ, List.getElem_toArray, List.getElem_cons_succ, List.getElem_cons_zero]
          refine wpAnyH_take (i := 5) (v := ?_) rfl (by kernel_rfl) (by kernel_rfl) (by kernel_rfl) (fun _ _ _ h => h) (Or.inl ⟨by rfl, ?_⟩) (by assumption) ?_
          rotate_left
          · intro wq hSw
            go_simp
            try (with_reducible rfl)
          try simp only [Act.put, List.setIfInBounds_toArray, List.set_cons_zero, List.set_cons_succ, List.getElem_toArray, List.getElem_cons_succ, List.getElem_cons_zero]
          refine wpAnyH_take (i := 8) (v := _) rfl (by kernel_rfl) (by kernel_rfl) (by kernel_rfl) (fun _ _ _ h => h) (yieldsIf_load_mid (by rfl) _ _ rfl w2.heap.size 0 rfl (K.map (Value.int .u8)) _ (fun _ h => h.1) hu rfl hi') (by assumption) ?_
          try simp only [Act.put, List.setIfInBounds_toArray, List.set_cons_zero, List.set_cons_succ, List.getElem_toArray, List.getElem_cons_succ, List.getElem_cons_zero]
          refine wpAnyH_ready (rs := [6]) (by kernel_rfl) (by simp) ?_
          refine AllReadyH.cons rfl (fun Kq hKq => ?_) AllReadyH.nil
          go_simp
          refine hKq.out _ _ ?_ (fun hHeld => ?_)
          · exact held_alloc rfl (by assumption) _
          clear hKq Kq
          try simp only [Act.put, List.setIfInBounds_toArray, List.set_cons_zero, List.set_cons_succ, List.getElem_toArray, List.getElem_cons_succ, List.getElem_cons_zero]
          refine wpAnyH_ready (rs := [7]) (by kernel_rfl) (by simp) ?_
          refine AllReadyH.cons rfl (fun Kq hKq => ?_) AllReadyH.nil
          go_simp
          go_at_call 8
          refine (C1 _ (by assumption)).mono ?_
          rintro e w' ⟨rfl, hs'⟩
          try simp only []
          refine hKq.out _ _ ?_ (fun hHeld => ?_)
          · exact hs'
          clear hKq Kq
          try simp only [Act.put, List.setIfInBounds_toArray, List.set_cons_zero, List.set_cons_succ, List.getElem_toArray, List.getElem_cons_succ, List.getElem_cons_zero]
          refine wpAnyH_take (i := 9) (v := ?_) rfl (by kernel_rfl) (by kernel_rfl) (by kernel_rfl) (fun _ _ _ h => h) (Or.inl ⟨by rfl, ?_⟩) (by assumption) ?_
          rotate_left
          · intro wq hSw
            go_simp
            try (with_reducible rfl)
          try simp only [Act.put, List.setIfInBounds_toArray, List.set_cons_zero, List.set_cons_succ, List.getElem_toArray, List.getElem_cons_succ, List.getElem_cons_zero]
          refine wpAnyH_take (i := 10) (v := ?_) rfl (by kernel_rfl) (by kernel_rfl) (by kernel_rfl) (fun _ _ _ h => h) (Or.inl ⟨by rfl, ?_⟩) (by assumption) ?_
          rotate_left
          · intro wq hSw
            go_simp
            try (with_reducible rfl)
          try simp only [Act.put, List.setIfInBounds_toArray, List.set_cons_zero, List.set_cons_succ, List.getElem_toArray, List.getElem_cons_succ, List.getElem_cons_zero]
          refine wpAnyH_take (i := 11) (v := ?_) rfl (by kernel_rfl) (by kernel_rfl) (by kernel_rfl) (fun _ _ _ h => h) (Or.inl ⟨by rfl, ?_⟩) (by assumption) ?_
          rotate_left
          · intro wq hSw
            go_simp
            try (with_reducible rfl)
          try simp only [Act.put, List.setIfInBounds_toArray, List.set_cons_zero, List.set_cons_succ, List.getElem_toArray, List.getElem_cons_succ, List.getElem_cons_zero]
          refine wpAnyH_take (i := 12) (v := ?_) rfl (by kernel_rfl) (by kernel_rfl) (by kernel_rfl) (fun _ _ _ h => h) (Or.inl ⟨by rfl, ?_⟩) (by assumption) ?_
          rotate_left
          · intro wq hSw
            go_simp
            try (with_reducible rfl)
          try simp only [Act.put, List.setIfInBounds_toArray, List.set_cons_zero, List.set_cons_succ, List.getElem_toArray, List.getElem_cons_succ, List.getElem_cons_zero]
          refine wpAnyH_take (i := 13) (v := ?_) rfl (by kernel_rfl) (by kernel_rfl) (by kernel_rfl) (fun _ _ _ h => h) (Or.inl ⟨by rfl, ?_⟩) (by assumption) ?_
          rotate_left
          · intro wq hSw
            go_simp
            try (with_reducible rfl)
          try simp only [Act.put, List.setIfInBounds_toArray, List.set_cons_zero, List.set_cons_succ, List.getElem_toArray, List.getElem_cons_succ, List.getElem_cons_zero]
          refine wpAnyH_take (i := 14) (v := ?_) rfl (by kernel_rfl) (by kernel_rfl) (by kernel_rfl) (fun _ _ _ h => h) (Or.inl ⟨by rfl, ?_⟩) (by assumption) ?_
          rotate_left
          · intro wq hSw
            go_simp
            try (with_reducible rfl)
          try simp only [Act.put, List.setIfInBounds_toArray, List.set_cons_zero, List.set_cons_succ, List.getElem_toArray, List.getElem_cons_succ, List.getElem_cons_zero]
          refine wpAnyH_take (i := 15) (v := ?_) rfl (by kernel_rfl) (by kernel_rfl) (by kernel_rfl) (fun _ _ _ h => h) (Or.inl ⟨by rfl, ?_⟩) (by assumption) ?_
          rotate_left
          · intro wq hSw
            go_simp
            try (with_reducible rfl)
          try simp only [Act.put, List.setIfInBounds_toArray, List.set_cons_zero, List.set_cons_succ, List.getElem_toArray, List.getElem_cons_succ, List.getElem_cons_zero]
          refine wpAnyH_take (i := 16) (v := ?_) rfl (by kernel_rfl) (by kernel_rfl) (by kernel_rfl) (fun _ _ _ h => h) (Or.inl ⟨by rfl, ?_⟩) (by assumption) ?_
          rotate_left
          · intro wq hSw
            go_simp
            try (with_reducible rfl)
          try simp only [Act.put, List.setIfInBounds_toArray, List.set_cons_zero, List.set_cons_succ, List.getElem_toArray, List.getElem_cons_succ, List.getElem_cons_zero]
          refine wpAnyH_take (i := 17) (v := ?_) rfl (by kernel_rfl) (by kernel_rfl) (by kernel_rfl) (fun _ _ _ h => h) (Or.inl ⟨by rfl, ?_⟩) (by assumption) ?_
          rotate_left
          · intro wq hSw
            go_simp
            try (with_reducible rfl)
          try simp only [Act.put, List.setIfInBounds_toArray, List.set_cons_zero, List.set_cons_succ, List.getElem_toArray, List.getElem_cons_succ, List.getElem_cons_zero]
          refine wpAnyH_take (i := 20) (v := _) rfl (by kernel_rfl) (by kernel_rfl) (by kernel_rfl) (fun _ _ _ h => h) (yieldsIf_load_mid (by rfl) _ _ rfl w2.heap.size 0 rfl (K.map (Value.int .u8)) _ (fun _ h => h.1) hu rfl hi') (by assumption) ?_
          try simp only [Act.put, List.setIfInBounds_toArray, List.set_cons_zero, List.set_cons_succ, List.getElem_toArray, List.getElem_cons_succ, List.getElem_cons_zero]
          refine wpAnyH_ready (rs := [18]) (by kernel_rfl) (by simp) ?_
          refine AllReadyH.cons rfl (fun Kq hKq => ?_) AllReadyH.nil
          go_simp
          refine hKq.out _ _ ?_ (fun hHeld => ?_)
          · exact held_alloc rfl (by assumption) _
          clear hKq Kq
          try simp only [Act.put, List.setIfInBounds_toArray, List.set_cons_zero, List.set_cons_succ, List.getElem_toArray, List.getElem_cons_succ, List.getElem_cons_zero]
          refine wpAnyH_ready (rs := [19]) (by kernel_rfl) (by simp) ?_
          refine AllReadyH.cons rfl (fun Kq hKq => ?_) AllReadyH.nil
          go_simp
          go_at_call 8
          refine (C2 _ (by assumption)).mono ?_
          rintro e w' ⟨rfl, hs'⟩
          try simp only []
          refine hKq.out _ _ ?_ (fun hHeld => ?_)
          · exact hs'
          clear hKq Kq
          try simp only [Act.put, List.setIfInBounds_toArray, List.set_cons_zero, List.set_cons_succ, List.getElem_toArray, List.getElem_cons_succ, List.getElem_cons_zero]
          refine wpAnyH_take (i := 21) (v := ?_) rfl (by kernel_rfl) (by kernel_rfl) (by kernel_rfl) (fun _ _ _ h => h) (Or.inl ⟨by rfl, ?_⟩) (by assumption) ?_
          rotate_left
          · intro wq hSw
            go_simp
            try (with_reducible rfl)
          try simp only [Act.put, List.setIfInBounds_toArray, List.set_cons_zero, List.set_cons_succ, List.getElem_toArray, List.getElem_cons_succ, List.getElem_cons_zero]
          refine wpAnyH_take (i := 22) (v := ?_) rfl (by kernel_rfl) (by kernel_rfl) (by kernel_rfl) (fun _ _ _ h => h) (Or.inl ⟨by rfl, ?_⟩) (by assumption) ?_
          rotate_left
          · intro wq hSw
            go_simp
            try (with_reducible rfl)
          try simp only [Act.put, List.setIfInBounds_toArray, List.set_cons_zero, List.set_cons_succ, List.getElem_toArray, List.getElem_cons_succ, List.getElem_cons_zero]
          refine wpAnyH_take (i := 23) (v := ?_) rfl (by kernel_rfl) (by kernel_rfl) (by kernel_rfl) (fun _ _ _ h => h) (Or.inl ⟨by rfl, ?_⟩) (by assumption) ?_
          rotate_left
          · intro wq hSw
            go_simp
            try (with_reducible rfl)
          try simp only [Act.put, List.setIfInBounds_toArray, List.set_cons_zero, List.set_cons_succ, List.getElem_toArray, List.getElem_cons_succ, List.getElem_cons_zero]
          refine wpAnyH_done (by kernel_rfl) ?_ _
          refine NoPanic.normal ?_
          go_wp2_with fail
          go_ret
          exact ⟨rfl, hb3.trans (hHeld.2.mono hb3.size)⟩
  · have ht : decide ((10 : Int) < (l.length : Int)) = true := by simp; omega
    go_wp2_with fail
    go_ret
    exact ⟨rfl, hB1⟩
end Go.Proofs.Ytpgenmddanppoaa
