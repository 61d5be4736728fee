/- In whatever pieces an archive comes, put by and taken up between, it is had: the walk. -/
import Derived.Test.YtmfgcdfemhaieaaFetN
import Derived.Test.YtmfgcdfemhaieaaRefE
import Derived.Test.YtmfgcdfemhaieaaFetX
namespace Go.Proofs.Ytmfgcdfemhaieaa
open Go.RowKit

/-- A slice of truths that is read: ys at each place. -/
structure RdT (W : World) (B : Nat) (A : Option Addr) (n : Nat) (ys : Nat → Bool) : Prop where
  out : 0 < n → ∃ b off, A = some ⟨b, off, none⟩ ∧ b < B ∧ ∀ i, i < n → W.cell? ⟨b, off + i, none⟩ = some (.bool (ys i))
/-- What holds at a round's head: p bytes are there, fa short ones came in a row, it is round K. -/
structure CutI (n p fa K : Nat) : Prop where
  pn : p ≤ n
  n5 : n < 500
  faK : fa ≤ K % 3
  Kp : K ≤ p
theorem made_bytes (n : Nat) : ∀ x ∈ madeTo n n, 0 ≤ x ∧ x ≤ 255 := by
  intro x hx
  simp only [madeTo, List.mem_map, List.mem_range] at hx
  obtain ⟨k, hk, rfl⟩ := hx
  rw [if_pos hk]
  unfold madeAt
  omega
theorem numP_byte : ∀ (k n : Nat), n < 128 ^ (k + 1) → ∀ x ∈ numP n, 0 ≤ x ∧ x ≤ 255
  | 0, n, h => by
    rw [numP_low (by simpa using h)]
    intro x hx
    simp only [List.mem_singleton] at hx
    simp at h
    omega
  | k + 1, n, h => by
    by_cases hn : n < 128
    · rw [numP_low hn]
      intro x hx
      simp only [List.mem_singleton] at hx
      omega
    · rw [numP_high hn]
      intro x hx
      rcases List.mem_cons.1 hx with rfl | hx
      · omega
      · exact numP_byte k (n / 128) (by rw [Nat.div_lt_iff_lt_mul (by omega)]; rw [Nat.pow_succ] at h; exact h) x hx
theorem textOf_byte {bytes : List Int} (h : ∀ x ∈ bytes, 0 ≤ x ∧ x ≤ 255) (fa sp : Nat) (hl : bytes.length < 100000 := by first | assumption | (rw [‹(List.take _ _).length = _›]; omega)) (hf : fa < 100000 := by omega) (hp : sp < 100000 := by omega) : ∀ x ∈ textOf bytes fa sp, 0 ≤ x ∧ x ≤ 255 := by
  intro x hx
  simp only [textOf, List.mem_append] at hx
  rcases hx with (hx | hx) | hx | hx
  · exact numP_byte 9 _ (by omega) x hx
  · exact h x hx
  · exact numP_byte 9 _ (by omega) x hx
  · exact numP_byte 9 _ (by omega) x hx
theorem st_drew {W : World} {g : Nat} {sum : List Int} {size : Int} {bytes : List Int} {fa sp : Int} {dn fl : Bool} (h : St W g sum size bytes fa sp dn fl) : St W.drew g sum size bytes fa sp dn fl := h.below (below_drew' W) (Nat.le_refl _)
/-- A piece comes: all that was asked for, or fewer. -/
theorem take_cut {g n p fa N kk : Nat} {xs : List Int} (W : World) (hS : St W g (sumP xs) n (xs.take p) fa 0 false false) (hx : xs.length = n) (hn : n < 500) (hN : min 64 (max (n : Int) 0 - (p : Int)) = N) (hk1 : 1 ≤ kk) (hkN : kk ≤ N) (hfa : fa < 3) (A : Option Addr) (c : Nat) (hc : kk ≤ c) (HR : RdI W W.heap.size .u8 A ((xs.drop p).take kk)) :
    Calls Try.prog 12 #[.pointer (some ⟨g, 0, none⟩), .agg #[.int .i64 0, .slice A kk c]] W (FullPost g (sumP xs) n (xs.take (p + kk)) (if kk = N then 0 else (fa : Int) + 1) 0 (decide (p + kk = n)) false W) := by
  have hpl : (xs.take p).length = p := by rw [List.length_take, hx]; omega
  have hyl : ((xs.drop p).take kk).length = kk := by rw [List.length_take, List.length_drop, hx]; omega
  have hlen2 : (xs.take (p + kk)).length = p + kk := by rw [List.length_take, hx]; omega
  by_cases hk : kk = N
  · subst hk
    have hcat : xs.take p ++ ((xs.drop p).take kk).take kk = xs.take (p + kk) := by rw [List.take_take, Nat.min_self]; exact take_more p kk
    have h := take_full (dn := decide (p + kk = n)) W hS (by rw [hpl]; omega) (by omega) A kk c ((xs.drop p).take kk) HR hyl hc kk (by rw [hpl]; exact hN) (Nat.le_refl _) (by
      rw [hcat, hlen2]
      by_cases e : p + kk = n
      · refine .inr ⟨by simp [e], by omega, ?_⟩
        rw [List.take_of_length_le (by rw [hx]; omega)]
      · exact .inl ⟨by simp [e], by omega⟩)
    rw [hcat] at h
    rw [if_pos rfl]
    exact h
  · have hcat : xs.take p ++ (xs.drop p).take kk = xs.take (p + kk) := take_more p kk
    have h := take_short W hS (by rw [hpl]; omega) (by omega) (by omega) (by omega) A kk c ((xs.drop p).take kk) HR hyl N (by rw [hpl]; exact hN) (by omega)
    rw [hcat] at h
    rw [if_neg hk, show decide (p + kk = n) = false by simp; omega]
    exact h
--[REG
set_option maxRecDepth 100000 in
set_option maxHeartbeats 4000000 in
theorem cuts_walk (a0 : Int) (A1 : Option Addr) (n1 c1 : Nat) (zs : List Int) (A2 : Option Addr) (n2 c2 : Nat) (ys : Nat → Bool) (w : World) (h0 : 0 ≤ a0) (h1 : a0 ≤ 65535) (hz : zs.length = n1) (HZ : RdI w w.heap.size .u8 A1 zs) (hzb : ∀ i, 0 ≤ zs.getD i 0 ∧ zs.getD i 0 ≤ 255) (HY : RdT w w.heap.size A2 n2 ys) (hm1 : n1 ≤ maxLen) (hm2 : n2 ≤ maxLen) :
    Calls Try.prog 5 #[.int .u16 a0, .slice A1 n1 c1, .slice A2 n2 c2] w fun e w' => e = .returned (.bool true) ∧ Below w.heap.size w w' := by
  have hk := known_any w
  unfold maxLen at hm1 hm2
  have Hz := keep hz
  have Hzb := keep hzb
  have HY := keep HY
  clear hz hzb
  go_enter Try.func5, Try.ntmps5
  go_wp2_with fail
  refine hk.mono ?_
  rintro e w1 ⟨rfl, hB1⟩
  clear hk
  by_cases hlen : 30 < n1
  · have ht : decide ((30 : Int) < (n1 : Int)) = true := by simp; omega
    go_wp2_with fail
    go_ret
    exact ⟨rfl, hB1⟩
  have ht : decide ((30 : Int) < (n1 : Int)) = false := by simp; omega
  by_cases hlen2 : n2 < n1
  · have ht2 : decide ((n2 : Int) < (n1 : Int)) = true := by simp; omega
    have ht2' : decide (n2 < n1) = true := by simp; omega
    go_wp2_with fail
    go_ret
    exact ⟨rfl, hB1⟩
  · have ht2 : decide ((n2 : Int) < (n1 : Int)) = false := by simp; omega
    have ht2' : decide (n2 < n1) = false := by simp; omega
    obtain ⟨n, hn⟩ : ∃ n : Nat, a0 % 500 = n := ⟨(a0 % 500).toNat, by omega⟩
    have hn7 : n < 500 := by omega
    have hn0 : 0 ≤ (n : Int) := by omega
    have hmk := made_any n w1 (by omega)
    unfold MadePost at hmk
    obtain ⟨xs, hxs⟩ : ∃ xs, madeTo n n = xs := ⟨_, rfl⟩
    have hxl : xs.length = n := by rw [← hxs, madeTo_length]
    rw [hxs] at hmk
    have Hxl := keep hxl
    have Hxb : Keep (∀ x ∈ xs, 0 ≤ x ∧ x ≤ 255) := ⟨by rw [← hxs]; exact made_bytes n⟩
    clear hxs hxl
    go_wp2_with fail
    refine hmk.mono ?_
    rintro e w2 ⟨rfl, hr2, hB2⟩
    have hb2 := hB1.trans (hB2.mono hB1.size)
    have hz2 := row_lt hr2
    have hmb : w.heap.size ≤ w1.heap.size := hB1.size
    generalize w1.heap.size = mb at hr2 hz2 hmb ⊢
    have hrow := row_any (some ⟨mb, 0, none⟩) n n xs 0 w2 (by omega) (by omega) (by omega) Hxl.out (Nat.le_refl _) (RdI.of_row hr2 hz2)
    have Hr2 := keep hr2
    clear hr2 hmk
    go_wp2_with fail
    refine hrow.mono ?_
    rintro e w3 ⟨rfl, hB3⟩
    have hl0 : lieSum (sumP xs) (0 % 6) = sumP xs := rfl
    have hs0 : lieSize n (0 % 6) = n := rfl
    rw [hl0, hs0]
    have hb3 := hb2.trans (hB3.mono hb2.size)
    have hr3 : w3.heap[mb]? = some (.cells (bys xs) 5 (0, 0)) := by rw [hB3.block _ hz2]; exact Hr2.out
    have Hsz : Keep ((headL (sumP xs) n).toArray.size = 39) := ⟨headL_length (sumP_len xs)⟩
    have HinF : Keep ((Try.prog.info? 33).map (·.size) = some (headL (sumP xs) n).toArray.size) := ⟨by rw [Hsz.out]; kernel_rfl⟩
    clear hrow hl0 hs0
    have hz3 := row_lt hr3
    have Hr3 := keep hr3
    clear hr3
    go_wp2_with (first | (refine wpList_store_row rfl 33 (.tmp 8) (.tmp 35) rfl w3.heap.size (headL (sumP xs) n).toArray rfl rfl 33 _ (heap_alloc_new w3 _) HinF.out (by rw [Hsz.out]; rfl) (headL_one _ _) ?_; rw [setRow_alloc]) | (refine wpList_load_row rfl 33 (.tmp 8) rfl w3.heap.size rfl 33 (headL (sumP xs) n).toArray (0, 0) _ (heap_alloc_new w3 _) Try.underlying33 rfl HinF.out ?_))
    have hb4 : Below w.heap.size w (w3.alloc (.cells (headL (sumP xs) n).toArray 33)) := hb3.alloc hb3.size _
    have hr4 : (w3.alloc (.cells (headL (sumP xs) n).toArray 33)).heap[mb]? = some (.cells (bys xs) 5 (0, 0)) := by rw [Below.heap_alloc _ _ _ hz3]; exact Hr3.out
    have hrr4 : (w3.alloc (.cells (headL (sumP xs) n).toArray 33)).heap[w3.heap.size]? = some (.cells (headL (sumP xs) n).toArray 33 (0, 0)) := heap_alloc_new w3 _
    generalize w3.alloc (.cells (headL (sumP xs) n).toArray 33) = w4 at hb4 hr4 hrr4 ⊢
    have hmbl : mb < w3.heap.size := hz3
    generalize w3.heap.size = rb at hrr4 hmbl ⊢
    have hnew := new_any (sumP xs) n w4 (sumP_len xs) (decide (0 = n)) (by
      by_cases e : 0 = n
      · subst e
        have : xs = [] := List.eq_nil_of_length_eq_zero Hxl.out
        subst this
        simp
      · have : ¬ ((0 : Int) = max (n : Int) 0) := by omega
        simp only [this, e, decide_false, Bool.false_and])
    refine hnew.mono ?_
    rintro e w5 ⟨g0, rfl, hg, hF5, hB5⟩
    have hb5 := hb4.trans (hB5.mono hb4.size)
    have hz4 := row_lt hr4
    have hr5 : w5.heap[mb]? = some (.cells (bys xs) 5 (0, 0)) := by rw [hB5.block _ hz4]; exact hr4
    have hrr5 := (hB5.block _ (row_lt hrr4)).trans hrr4
    have hrbl := row_lt hrr4
    have Hrr5 := keep hrr5
    have hmg : mb < w4.heap.size := hz4
    have hS5 : St w5 g0 (sumP xs) n (xs.take 0) 0 0 (decide (0 = n)) false := ⟨⟨_, hF5, by rw [List.take_zero]; exact OwnB.none_ _ _ _ _⟩⟩
    have Hr5 := keep hr5
    have HS5 := keep hS5
    have HZw := keep HZ
    clear hr4 hr5 hrr4 hrr5 hF5 hS5 hnew HZ
    go_wp2_with fail
    have hwz4 : w.heap.size ≤ w4.heap.size := hb4.size
    go_loopw [9, 10] (fun f i wr => ∃ g p fa K : Nat, f = .pointer (some ⟨g, 0, none⟩) ∧ i = .int .i64 K ∧ CutI n p fa K ∧ w4.heap.size ≤ g ∧ St wr g (sumP xs) n (xs.take p) fa 0 (decide (p = n)) false ∧ Below w4.heap.size w5 wr) (fun _ i _ => 600 - (intOf i).toNat)
    case atStart => exact ⟨g0, 0, 0, 0, rfl, rfl, ⟨by omega, by omega, by omega, by omega⟩, hg, by have := HS5.out; simpa [eq_comm] using this, Below.refl _ _⟩
    case round =>
      clear HS5 hg
      obtain ⟨g, p, fa, K, rfl, rfl, hR, hg, hS, hBr⟩ := hrel
      obtain ⟨r1, r2, r3, r4⟩ := hR
      have hal : ∀ (W : World) (o : Obj), Below W.heap.size W (W.alloc o) := fun W o => (Below.refl _ _).alloc (Nat.le_refl _) o
      have hbr : Below w.heap.size w wr := hb5.trans (hBr.mono hwz4)
      have hgr := hS.lt
      obtain ⟨wo, rfl⟩ : ∃ wo : World, wo = wr := ⟨_, rfl⟩
      have Hal := keep hal
      clear hal
      by_cases hpn : p = n
      · subst hpn
        have hxp : xs.take p = xs := List.take_of_length_le (by rw [Hxl.out]; omega)
        rw [hxp] at hS
        obtain ⟨v, hF, hO⟩ := hS.st
        have hov := ask_over wo hF (by simp)
        have hrm := (hBr.block _ hmg).trans Hr5.out
        have HS := keep hS
        have Hrm := keep hrm
        clear hS hF hO hrm hxp
        go_wp2_with fail
        refine hov.mono ?_
        rintro e w6 ⟨rfl, hB6⟩
        unfold askZ
        have hS6 := HS.out.below hB6 (Nat.le_refl _)
        have hr6 := (hB6.block _ (row_lt Hrm.out)).trans Hrm.out
        have hb6 := hbr.trans (hB6.mono hbr.size)
        have hS7 := hS6.below (Hal.out w6 (.cells #[.string ⟨#[]⟩, .int .i64 0, .int .i64 0, .int .i64 0, .slice none 0 0, .int .i64 0, .int .i64 0] 38)) (Nat.le_refl _)
        have hr7 : (w6.alloc (.cells #[.string ⟨#[]⟩, .int .i64 0, .int .i64 0, .int .i64 0, .slice none 0 0, .int .i64 0, .int .i64 0] 38)).heap[mb]? = some (.cells (bys xs) 5 (0, 0)) := by rw [Below.heap_alloc _ _ _ (row_lt hr6)]; exact hr6
        have hb7 := hb6.trans ((Hal.out w6 (.cells #[.string ⟨#[]⟩, .int .i64 0, .int .i64 0, .int .i64 0, .slice none 0 0, .int .i64 0, .int .i64 0] 38)).mono hb6.size)
        have HS7 := keep hS7
        have Hr7 := keep hr7
        have Hb7 := keep hb7
        clear hS6 hr6 hS7 hr7 hb7 hov hb6
        go_wp2_with fail
        generalize w6.alloc (.cells #[.string ⟨#[]⟩, .int .i64 0, .int .i64 0, .int .i64 0, .slice none 0 0, .int .i64 0, .int .i64 0] 38) = w7 at HS7 Hr7 Hb7 ⊢
        have hS7 : St w7 g (sumP xs) p xs fa 0 true false := by have := HS7.out; simpa using this
        refine (done_yes w7 hS7 (by rw [Hxl.out]; omega)).mono ?_
        rintro e w8 ⟨A8, c8, rfl, hc8, hR8, hB8⟩
        have hr8 := (hB8.block _ (row_lt Hr7.out)).trans Hr7.out
        have hb8 := Hb7.out.trans (hB8.mono Hb7.out.size)
        rw [Hxl.out] at hc8 ⊢
        have hv1 := conv_rd w8 23 5 Try.underlying23 Try.underlying5 A8 p c8 w8.heap.size xs Hxl.out hR8 9 Try.underlying9
        have hv2 := conv_rd w8 23 5 Try.underlying23 Try.underlying5 (some ⟨mb, 0, none⟩) p p w8.heap.size xs Hxl.out (RdI.of_row hr8 (row_lt hr8)) 9 Try.underlying9
        generalize strOfNums xs = S at hv1 hv2
        clear hr8 hR8 hS7
        go_wp2_with fail
        go_ret
        exact ⟨by simp, hb8⟩
      · have hplt : p < n := by omega
        have hdf0 : decide (p = n) = false := by simp [hpn]
        rw [hdf0] at hS
        have hpl : (xs.take p).length = p := by rw [List.length_take, Hxl.out]; omega
        have has := ask_st wo hS (by omega) (by omega)
        rw [hpl] at has
        obtain ⟨N, hN⟩ : ∃ N : Nat, min 64 (max (n : Int) 0 - (p : Int)) = N := ⟨min 64 (n - p), by omega⟩
        have hN1 : 1 ≤ N := by omega
        have hN64 : N ≤ 64 := by omega
        have hpN : p + N ≤ n := by omega
        rw [hN] at has
        have HN := keep hN
        have HS := keep hS
        clear hN hS hpl hdf0
        go_wp2_with fail
        refine has.mono ?_
        rintro e w6 ⟨rfl, hB6⟩
        unfold askL
        have hS6 := HS.out.below hB6 (Nat.le_refl _)
        have hb6 := hbr.trans (hB6.mono hbr.size)
        have hB6' : Below w4.heap.size w5 w6 := hBr.trans (hB6.mono (Nat.le_trans hg (Nat.le_of_lt hgr)))
        have HS7 := keep (hS6.below (Hal.out w6 (.cells #[.string ⟨#[97]⟩, .int .i64 1, .int .i64 0, .int .i64 0, .slice none 0 0, .int .i64 p, .int .i64 N] 38)) (Nat.le_refl _))
        have HB7 := keep (hB6'.trans ((Hal.out w6 (.cells #[.string ⟨#[97]⟩, .int .i64 1, .int .i64 0, .int .i64 0, .slice none 0 0, .int .i64 p, .int .i64 N] 38)).mono (Nat.le_trans hg (Nat.le_of_lt hS6.lt))))
        clear hS6 hB6' has hbr hBr hB6 HS hgr
        have hcellK : K < n1 → ∃ bz oz, A1 = some ⟨bz, oz, none⟩ ∧ bz < w.heap.size ∧ w6.cell? ⟨bz, oz + K, none⟩ = some (.int .u8 (zs.getD K 0)) := by
          intro hK
          obtain ⟨bz, oz, he, hb, hc⟩ := HZw.out.all_ (by rw [Hz.out]; omega)
          exact ⟨bz, oz, he, hb, (hb6.cell (p := ⟨bz, oz + K, none⟩) hb).trans (hc K (by rw [Hz.out]; exact hK))⟩
        have hb6z := hb6.size
        obtain ⟨z0, z1⟩ := Hzb.out K
        obtain ⟨C, hC⟩ : ∃ C : Nat, zs.getD K 0 = (C : Int) := ⟨(zs.getD K 0).toNat, by omega⟩
        rw [hC] at hcellK z0 z1
        clear hC hb6
        by_cases hK1 : K < n1
        · have tc : decide ((K : Int) < (n1 : Int)) = true := by simp; omega
          by_cases hK3 : K % 3 < 2
          · have td : decide ((K : Int) % 3 < 2) = true := by simp; omega
            obtain ⟨bz, oz, rfl, hbz, hcz⟩ := hcellK hK1
            have hbz6 : bz < w6.heap.size := Nat.lt_of_lt_of_le hbz hb6z
            have hbne : ¬ bz = w6.heap.size := by omega
            have hKi0 : (0 : Int) ≤ (K : Int) := by omega
            have hKj0 : (K : Int) < (n1 : Int) := by omega
            by_cases hcn : C + 1 < N
            · have hcn' : (C : Int) + 1 < (N : Int) := by omega
              obtain ⟨As, cs, hcs, hsl, hrd⟩ := cut_mid (P := Try.prog) 23 5 Try.underlying23 (by kernel_rfl) (some ⟨mb, 0, none⟩) n n (p : Int) ((p : Int) + ((C : Int) + 1)) (by omega) (by omega) (by omega) (by omega)
              have e1 : ((p : Int) + ((C : Int) + 1) - p).toNat = C + 1 := by omega
              rw [e1] at hcs hsl hrd
              rw [Int.toNat_natCast] at hrd
              have hrm7 := (HB7.out.block _ hmg).trans Hr5.out
              have HRs := keep (hrd (w6.alloc (.cells #[.string ⟨#[97]⟩, .int .i64 1, .int .i64 0, .int .i64 0, .slice none 0 0, .int .i64 p, .int .i64 N] 38)) (w6.alloc (.cells #[.string ⟨#[97]⟩, .int .i64 1, .int .i64 0, .int .i64 0, .slice none 0 0, .int .i64 p, .int .i64 N] 38)).heap.size .u8 xs Hxl.out (RdI.of_row hrm7 (row_lt hrm7)))
              clear hrd e1 hrm7
              go_wp2_with fail
              generalize w6.alloc (.cells #[.string ⟨#[97]⟩, .int .i64 1, .int .i64 0, .int .i64 0, .slice none 0 0, .int .i64 p, .int .i64 N] 38) = w7 at HS7 HB7 HRs ⊢
              refine (take_cut (fa := fa) w7 HS7.out Hxl.out (by omega) HN.out (kk := C + 1) (by omega) (by omega) (by omega) As cs (by omega) HRs.out).mono ?_
              rintro e w8 ⟨rfl, hS8, hB8, _⟩
              have hB8' : Below w4.heap.size w5 w8 := HB7.out.trans (hB8.mono hg)
              have HS8 := keep hS8
              have HB8 := keep hB8'
              clear hS8 hB8 hB8'
              obtain ⟨fb, hfb, hfbl⟩ : ∃ fb : Nat, (if C + 1 = N then 0 else (fa : Int) + 1) = (fb : Int) ∧ fb ≤ (K + 1) % 3 := by
                by_cases e : C + 1 = N
                · exact ⟨0, by rw [if_pos e]; rfl, by omega⟩
                · refine ⟨fa + 1, by rw [if_neg e]; rfl, ?_⟩
                  omega
              have Hfb := keep hfb
              clear hfb
              go_wp2_with fail
              by_cases hpe : p + (C + 1) = n
              · have hS8 := HS8.out
                rw [show decide (p + (C + 1) = n) = true by simpa using hpe] at hS8
                refine (done_yes w8 hS8 (by rw [List.length_take, Hxl.out]; omega)).mono ?_
                rintro e w9 ⟨A9, c9, rfl, hc9, hR9, hB9⟩
                have hS9 := hS8.below hB9 (Nat.le_refl _)
                have hB9' : Below w4.heap.size w5 w9 := HB8.out.trans (hB9.mono (Nat.le_trans hg (Nat.le_of_lt hS8.lt)))
                have HS9 := keep hS9
                have HB9 := keep hB9'
                clear hS8 hS9 hR9 hB9 hB9'
                go_wp2_with fail
                go_roundw
                case rel => exact ⟨g, p + (C + 1), fb, K + 1, rfl, by go_num, ⟨by omega, by omega, hfbl, by omega⟩, hg, by have := HS9.out; rw [Hfb.out] at this; rwa [show decide (p + (C + 1) = n) = true by simpa using hpe], HB9.out⟩
                case measure => simp [intOf]; omega
              · have hdf : decide (p + (C + 1) = n) = false := by simpa using hpe
                have hS8 := HS8.out
                rw [hdf, Hfb.out] at hS8
                obtain ⟨v8, hF8, hO8⟩ := hS8.st
                refine (done_no w8 hF8).mono ?_
                rintro e w9 ⟨rfl, hw9⟩
                rw [hw9]
                clear hw9 hO8 hF8
                have HS8' := keep hS8
                clear hS8
                by_cases hKa : K < n2
                · have ta : decide ((K : Int) < (n2 : Int)) = true := by simp; omega
                  obtain ⟨b2, o2, rfl, hb2l, hc2⟩ := HY.out.out (by omega)
                  have hcK := hc2 K hKa
                  have hb8w : Below w.heap.size w w8 := hb5.trans (HB8.out.mono hwz4)
                  have hcK8 : w8.cell? ⟨b2, o2 + K, none⟩ = some (.bool (ys K)) := (hb8w.cell (p := ⟨b2, o2 + K, none⟩) hb2l).trans hcK
                  have hKi : (0 : Int) ≤ (K : Int) := by omega
                  have hKj : (K : Int) < (n2 : Int) := by omega
                  clear hc2 hcK hb8w
                  cases hyk : ys K with
                  | false =>
                    rw [hyk] at hcK8
                    go_wp2_with fail
                    go_roundw
                    case rel => exact ⟨g, p + (C + 1), fb, K + 1, rfl, by go_num, ⟨by omega, by omega, hfbl, by omega⟩, hg, by rw [hdf]; exact HS8'.out, HB8.out⟩
                    case measure => simp [intOf]; omega
                  | true =>
                    rw [hyk] at hcK8
                    go_wp2_with fail
                    obtain ⟨TX, hTX⟩ : ∃ TX, strOfNums (textOf (xs.take (p + (C + 1))) fb 0) = TX := ⟨_, rfl⟩
                    have hxt : (xs.take (p + (C + 1))).length = p + (C + 1) := by rw [List.length_take, Hxl.out]; omega
                    have hxb : ∀ x ∈ xs.take (p + (C + 1)), 0 ≤ x ∧ x ≤ 255 := fun x hx => Hxb.out x (List.mem_of_mem_take hx)
                    have hby := fbytes_any (sp := 0) w8.drew (st_drew HS8'.out) hxb (by rw [hxt]; omega) (by omega) (by omega)
                    rw [hTX] at hby
                    have hTb : byteL TX = textOf (xs.take (p + (C + 1))) fb 0 := by rw [← hTX]; exact byteL_str (textOf_byte hxb fb 0)
                    have hTl : TX.size ≤ 1000 := by
                      have e1 := byteL_length TX
                      rw [hTb] at e1
                      have q1 := numP_len 9 (p + (C + 1)) (by omega)
                      have q2 := numP_len 9 fb (by omega)
                      have q3 := numP_len 9 0 (by omega)
                      simp only [textOf, List.length_append, hxt] at e1
                      omega
                    have hop : openF (byteL TX) (sumP xs) n = (xs.take (p + (C + 1)), fb, 0, false) := by
                      unfold openF
                      rw [hTb, openR_text _ _ _ _ (by rw [hxt]; omega) (by rw [hxt]; omega) (by omega) (by omega)]
                      simp only [hxt]
                      rw [show decide (((p + (C + 1) : Nat) : Int) = max (n : Int) 0) = false by simp; omega]
                      rfl
                    have hrr8 := (HB8.out.block _ hrbl).trans Hrr5.out
                    have hrb8 := row_lt hrr8
                    have hrg : w8.rangeAt rb 0 (headL (sumP xs) n) := by
                      intro j x hx
                      rw [cell_of_row _ _ _ _ _ _ hrr8]
                      simpa using hx
                    have Hby := keep hby
                    have Htx := keep hTl
                    have Hop := keep hop
                    have Hrg := keep hrg
                    clear hTX hxt hxb hby hTb hTl hop hrr8 hrg hcK8
                    refine rg_then (fun a' W => Below w8.heap.size w8 W ∧ ∃ g9, w8.heap.size ≤ g9 ∧ St W g9 (sumP xs) n (xs.take (p + (C + 1))) fb 0 false false ∧ a' = { tmps := #[.int .u16 a0, .slice (some ⟨bz, oz, none⟩) n1 c1, .slice (some ⟨b2, o2, none⟩) n2 c2, undef, undef, undef, u6, .slice (some ⟨mb, 0, none⟩) n n, .pointer (some ⟨rb, 0, none⟩), .pointer (some ⟨g9, 0, none⟩), .int .i64 ↑K, .pointer (some ⟨w6.heap.size, 0, none⟩), .bool true, .int .i64 (↑C + 1), .slice none 0 0, .bool false, undef, undef, .bool true, .bool false, .slice (some ⟨bz, oz, none⟩) n1 c1, .int .i64 ↑n1, .bool false, .bool false, .slice (some ⟨b2, o2, none⟩) n2 c2, .int .i64 ↑n2, .slice (some ⟨bz, oz, none⟩) n1 c1, .int .i64 ↑n1, .bool false, .bool false, .int .u16 a0, .int .u16 ↑n, .int .i64 ↑n, .slice (some ⟨mb, 0, none⟩) n n, .slice (some ⟨mb, 0, none⟩) n n, .agg (headL (sumP xs) ↑n).toArray, .agg (headL (sumP xs) ↑n).toArray, .pointer (some ⟨g0, 0, none⟩), u38, u39, .tuple #[.agg #[.string { data := #[97] }, .int .i64 1, .int .i64 0, .int .i64 0, .slice none 0 0, .int .i64 ↑p, .int .i64 ↑N], .bool true], .pointer (some ⟨g, 0, none⟩), .tuple #[.agg #[.string { data := #[97] }, .int .i64 1, .int .i64 0, .int .i64 0, .slice none 0 0, .int .i64 ↑p, .int .i64 ↑N], .bool true], .agg #[.string { data := #[97] }, .int .i64 1, .int .i64 0, .int .i64 0, .slice none 0 0, .int .i64 ↑p, .int .i64 ↑N], .bool true, .bool true, .bool false, .pointer (some ⟨w6.heap.size, 6, none⟩), .int .i64 ↑N, .int .i64 ↑K, .slice (some ⟨bz, oz, none⟩) n1 c1, .int .i64 ↑n1, .bool true, .bool true, .int .i64 ↑K, .int .i64 (↑K % 3), .bool true, .bool true, .int .i64 ↑N, .slice (some ⟨bz, oz, none⟩) n1 c1, .int .i64 ↑K, .pointer (some ⟨bz, oz + K, none⟩), .int .u8 ↑C, .int .i64 ↑C, .int .i64 (↑C + 1), .int .i64 (↑C + 1), .pointer (some ⟨g, 0, none⟩), .slice (some ⟨mb, 0, none⟩) n n, .pointer (some ⟨w6.heap.size, 5, none⟩), .int .i64 ↑p, .pointer (some ⟨w6.heap.size, 5, none⟩), .int .i64 ↑p, .int .i64 (↑C + 1), .int .i64 (↑p + (↑C + 1)), .slice As (C + 1) cs, .agg #[.int .i64 0, .slice As (C + 1) cs], .nilIface, .bool false, .tuple #[.slice none 0 0, .bool false], .pointer (some ⟨g, 0, none⟩), .tuple #[.slice none 0 0, .bool false], .slice none 0 0, .bool false, .bool false, .bool true, .bool true, .int .i64 ↑K, .slice (some ⟨b2, o2, none⟩) n2 c2, .int .i64 ↑n2, .bool true, .bool true, .bool true, .slice (some ⟨b2, o2, none⟩) n2 c2, .int .i64 ↑K, .pointer (some ⟨b2, o2 + K, none⟩), .bool true, .bool true, .agg (headL (sumP xs) n).toArray, .pointer (some ⟨g, 0, none⟩), .string TX, .pointer (some ⟨g9, 0, none⟩), undef, undef, undef, undef, undef, undef, undef, undef, undef, undef, undef, undef, undef], defers := [] }) ?_ ?_
                    · refine rg_start (Below w8.heap.size w8) (by kernel_rfl) (Below.refl _ _).drew (fun h0 => ?_)
                      refine rg_read 0 (oi := { dst := some 97, op := Op.load 33 (Operand.tmp 8), type := 33, pos := "more.go:34", after := #[], guard := none }) (.agg (headL (sumP xs) n).toArray) ({ tmps := #[.int .u16 a0, .slice (some ⟨bz, oz, none⟩) n1 c1, .slice (some ⟨b2, o2, none⟩) n2 c2, undef, undef, undef, u6, .slice (some ⟨mb, 0, none⟩) n n, .pointer (some ⟨rb, 0, none⟩), .pointer (some ⟨g, 0, none⟩), .int .i64 ↑K, .pointer (some ⟨w6.heap.size, 0, none⟩), .bool true, .int .i64 (↑C + 1), .slice none 0 0, .bool false, undef, undef, .bool true, .bool false, .slice (some ⟨bz, oz, none⟩) n1 c1, .int .i64 ↑n1, .bool false, .bool false, .slice (some ⟨b2, o2, none⟩) n2 c2, .int .i64 ↑n2, .slice (some ⟨bz, oz, none⟩) n1 c1, .int .i64 ↑n1, .bool false, .bool false, .int .u16 a0, .int .u16 ↑n, .int .i64 ↑n, .slice (some ⟨mb, 0, none⟩) n n, .slice (some ⟨mb, 0, none⟩) n n, .agg (headL (sumP xs) ↑n).toArray, .agg (headL (sumP xs) ↑n).toArray, .pointer (some ⟨g0, 0, none⟩), u38, u39, .tuple #[.agg #[.string { data := #[97] }, .int .i64 1, .int .i64 0, .int .i64 0, .slice none 0 0, .int .i64 ↑p, .int .i64 ↑N], .bool true], .pointer (some ⟨g, 0, none⟩), .tuple #[.agg #[.string { data := #[97] }, .int .i64 1, .int .i64 0, .int .i64 0, .slice none 0 0, .int .i64 ↑p, .int .i64 ↑N], .bool true], .agg #[.string { data := #[97] }, .int .i64 1, .int .i64 0, .int .i64 0, .slice none 0 0, .int .i64 ↑p, .int .i64 ↑N], .bool true, .bool true, .bool false, .pointer (some ⟨w6.heap.size, 6, none⟩), .int .i64 ↑N, .int .i64 ↑K, .slice (some ⟨bz, oz, none⟩) n1 c1, .int .i64 ↑n1, .bool true, .bool true, .int .i64 ↑K, .int .i64 (↑K % 3), .bool true, .bool true, .int .i64 ↑N, .slice (some ⟨bz, oz, none⟩) n1 c1, .int .i64 ↑K, .pointer (some ⟨bz, oz + K, none⟩), .int .u8 ↑C, .int .i64 ↑C, .int .i64 (↑C + 1), .int .i64 (↑C + 1), .pointer (some ⟨g, 0, none⟩), .slice (some ⟨mb, 0, none⟩) n n, .pointer (some ⟨w6.heap.size, 5, none⟩), .int .i64 ↑p, .pointer (some ⟨w6.heap.size, 5, none⟩), .int .i64 ↑p, .int .i64 (↑C + 1), .int .i64 (↑p + (↑C + 1)), .slice As (C + 1) cs, .agg #[.int .i64 0, .slice As (C + 1) cs], .nilIface, .bool false, .tuple #[.slice none 0 0, .bool false], .pointer (some ⟨g, 0, none⟩), .tuple #[.slice none 0 0, .bool false], .slice none 0 0, .bool false, .bool false, .bool true, .bool true, .int .i64 ↑K, .slice (some ⟨b2, o2, none⟩) n2 c2, .int .i64 ↑n2, .bool true, .bool true, .bool true, .slice (some ⟨b2, o2, none⟩) n2 c2, .int .i64 ↑K, .pointer (some ⟨b2, o2 + K, none⟩), .bool true, .bool true, .agg (headL (sumP xs) n).toArray, u98, u99, u100, undef, undef, undef, undef, undef, undef, undef, undef, undef, undef, undef, undef, undef], defers := [] }) rfl (by kernel_rfl) (by kernel_rfl) (by kernel_rfl) (by kernel_rfl) (fun W hW => ex_loadRow _ _ 33 (.tmp 8) rfl rb 0 (by kernel_rfl) (headL (sumP xs) n) _ Try.underlying33 rfl HinF.out W (range_below hW hrb8 Hrg.out)) (by kernel_rfl) h0 ?_
                      refine rg_pure 1 (oi := { dst := some 98, op := Op.move (Operand.tmp 9), type := 35, pos := "more.go:34", after := #[], guard := none }) (.pointer (some ⟨g, 0, none⟩)) ({ tmps := #[.int .u16 a0, .slice (some ⟨bz, oz, none⟩) n1 c1, .slice (some ⟨b2, o2, none⟩) n2 c2, undef, undef, undef, u6, .slice (some ⟨mb, 0, none⟩) n n, .pointer (some ⟨rb, 0, none⟩), .pointer (some ⟨g, 0, none⟩), .int .i64 ↑K, .pointer (some ⟨w6.heap.size, 0, none⟩), .bool true, .int .i64 (↑C + 1), .slice none 0 0, .bool false, undef, undef, .bool true, .bool false, .slice (some ⟨bz, oz, none⟩) n1 c1, .int .i64 ↑n1, .bool false, .bool false, .slice (some ⟨b2, o2, none⟩) n2 c2, .int .i64 ↑n2, .slice (some ⟨bz, oz, none⟩) n1 c1, .int .i64 ↑n1, .bool false, .bool false, .int .u16 a0, .int .u16 ↑n, .int .i64 ↑n, .slice (some ⟨mb, 0, none⟩) n n, .slice (some ⟨mb, 0, none⟩) n n, .agg (headL (sumP xs) ↑n).toArray, .agg (headL (sumP xs) ↑n).toArray, .pointer (some ⟨g0, 0, none⟩), u38, u39, .tuple #[.agg #[.string { data := #[97] }, .int .i64 1, .int .i64 0, .int .i64 0, .slice none 0 0, .int .i64 ↑p, .int .i64 ↑N], .bool true], .pointer (some ⟨g, 0, none⟩), .tuple #[.agg #[.string { data := #[97] }, .int .i64 1, .int .i64 0, .int .i64 0, .slice none 0 0, .int .i64 ↑p, .int .i64 ↑N], .bool true], .agg #[.string { data := #[97] }, .int .i64 1, .int .i64 0, .int .i64 0, .slice none 0 0, .int .i64 ↑p, .int .i64 ↑N], .bool true, .bool true, .bool false, .pointer (some ⟨w6.heap.size, 6, none⟩), .int .i64 ↑N, .int .i64 ↑K, .slice (some ⟨bz, oz, none⟩) n1 c1, .int .i64 ↑n1, .bool true, .bool true, .int .i64 ↑K, .int .i64 (↑K % 3), .bool true, .bool true, .int .i64 ↑N, .slice (some ⟨bz, oz, none⟩) n1 c1, .int .i64 ↑K, .pointer (some ⟨bz, oz + K, none⟩), .int .u8 ↑C, .int .i64 ↑C, .int .i64 (↑C + 1), .int .i64 (↑C + 1), .pointer (some ⟨g, 0, none⟩), .slice (some ⟨mb, 0, none⟩) n n, .pointer (some ⟨w6.heap.size, 5, none⟩), .int .i64 ↑p, .pointer (some ⟨w6.heap.size, 5, none⟩), .int .i64 ↑p, .int .i64 (↑C + 1), .int .i64 (↑p + (↑C + 1)), .slice As (C + 1) cs, .agg #[.int .i64 0, .slice As (C + 1) cs], .nilIface, .bool false, .tuple #[.slice none 0 0, .bool false], .pointer (some ⟨g, 0, none⟩), .tuple #[.slice none 0 0, .bool false], .slice none 0 0, .bool false, .bool false, .bool true, .bool true, .int .i64 ↑K, .slice (some ⟨b2, o2, none⟩) n2 c2, .int .i64 ↑n2, .bool true, .bool true, .bool true, .slice (some ⟨b2, o2, none⟩) n2 c2, .int .i64 ↑K, .pointer (some ⟨b2, o2 + K, none⟩), .bool true, .bool true, .agg (headL (sumP xs) n).toArray, .pointer (some ⟨g, 0, none⟩), u99, u100, undef, undef, undef, undef, undef, undef, undef, undef, undef, undef, undef, undef, undef], defers := [] }) rfl (by kernel_rfl) (by kernel_rfl) (by kernel_rfl) (by kernel_rfl) (fun _ => by kernel_rfl) (by kernel_rfl) h0 ?_
                      refine rg_one 2 (oi := { dst := some 99, op := Op.call { callee := Callee.value (Operand.func 19), args := #[Operand.tmp 98], argTypes := #[35] }, type := 9, pos := "more.go:34", after := #[{ on := 1, ground := Ground.data }], guard := none }) (by kernel_rfl) rfl (by kernel_rfl) ?_
                      refine op_call (v := .string TX) (f := 19) (args := #[.pointer (some ⟨g, 0, none⟩)]) ({ tmps := #[.int .u16 a0, .slice (some ⟨bz, oz, none⟩) n1 c1, .slice (some ⟨b2, o2, none⟩) n2 c2, undef, undef, undef, u6, .slice (some ⟨mb, 0, none⟩) n n, .pointer (some ⟨rb, 0, none⟩), .pointer (some ⟨g, 0, none⟩), .int .i64 ↑K, .pointer (some ⟨w6.heap.size, 0, none⟩), .bool true, .int .i64 (↑C + 1), .slice none 0 0, .bool false, undef, undef, .bool true, .bool false, .slice (some ⟨bz, oz, none⟩) n1 c1, .int .i64 ↑n1, .bool false, .bool false, .slice (some ⟨b2, o2, none⟩) n2 c2, .int .i64 ↑n2, .slice (some ⟨bz, oz, none⟩) n1 c1, .int .i64 ↑n1, .bool false, .bool false, .int .u16 a0, .int .u16 ↑n, .int .i64 ↑n, .slice (some ⟨mb, 0, none⟩) n n, .slice (some ⟨mb, 0, none⟩) n n, .agg (headL (sumP xs) ↑n).toArray, .agg (headL (sumP xs) ↑n).toArray, .pointer (some ⟨g0, 0, none⟩), u38, u39, .tuple #[.agg #[.string { data := #[97] }, .int .i64 1, .int .i64 0, .int .i64 0, .slice none 0 0, .int .i64 ↑p, .int .i64 ↑N], .bool true], .pointer (some ⟨g, 0, none⟩), .tuple #[.agg #[.string { data := #[97] }, .int .i64 1, .int .i64 0, .int .i64 0, .slice none 0 0, .int .i64 ↑p, .int .i64 ↑N], .bool true], .agg #[.string { data := #[97] }, .int .i64 1, .int .i64 0, .int .i64 0, .slice none 0 0, .int .i64 ↑p, .int .i64 ↑N], .bool true, .bool true, .bool false, .pointer (some ⟨w6.heap.size, 6, none⟩), .int .i64 ↑N, .int .i64 ↑K, .slice (some ⟨bz, oz, none⟩) n1 c1, .int .i64 ↑n1, .bool true, .bool true, .int .i64 ↑K, .int .i64 (↑K % 3), .bool true, .bool true, .int .i64 ↑N, .slice (some ⟨bz, oz, none⟩) n1 c1, .int .i64 ↑K, .pointer (some ⟨bz, oz + K, none⟩), .int .u8 ↑C, .int .i64 ↑C, .int .i64 (↑C + 1), .int .i64 (↑C + 1), .pointer (some ⟨g, 0, none⟩), .slice (some ⟨mb, 0, none⟩) n n, .pointer (some ⟨w6.heap.size, 5, none⟩), .int .i64 ↑p, .pointer (some ⟨w6.heap.size, 5, none⟩), .int .i64 ↑p, .int .i64 (↑C + 1), .int .i64 (↑p + (↑C + 1)), .slice As (C + 1) cs, .agg #[.int .i64 0, .slice As (C + 1) cs], .nilIface, .bool false, .tuple #[.slice none 0 0, .bool false], .pointer (some ⟨g, 0, none⟩), .tuple #[.slice none 0 0, .bool false], .slice none 0 0, .bool false, .bool false, .bool true, .bool true, .int .i64 ↑K, .slice (some ⟨b2, o2, none⟩) n2 c2, .int .i64 ↑n2, .bool true, .bool true, .bool true, .slice (some ⟨b2, o2, none⟩) n2 c2, .int .i64 ↑K, .pointer (some ⟨b2, o2 + K, none⟩), .bool true, .bool true, .agg (headL (sumP xs) n).toArray, .pointer (some ⟨g, 0, none⟩), .string TX, u100, undef, undef, undef, undef, undef, undef, undef, undef, undef, undef, undef, undef, undef], defers := [] }) (by kernel_rfl) Hby.out (by kernel_rfl) ?_
                      intro W2 h2
                      have g2 := h0.trans (h2.mono (Nat.le_refl _))
                      refine ⟨g2, ?_⟩
                      refine rg_one 3 (oi := { dst := some 100, op := Op.call { callee := Callee.value (Operand.func 16), args := #[Operand.tmp 97, Operand.tmp 99], argTypes := #[33, 9] }, type := 35, pos := "more.go:34", after := #[{ on := 0, ground := Ground.data }, { on := 2, ground := Ground.data }, { on := 2, ground := Ground.chain }], guard := none }) (by kernel_rfl) rfl (by kernel_rfl) ?_
                      refine op_callE (R := (fun v w' => ∃ g9, v = .pointer (some ⟨g9, 0, none⟩) ∧ W2.heap.size ≤ g9 ∧ St w' g9 (sumP xs) n (openF (byteL TX) (sumP xs) n).1 (openF (byteL TX) (sumP xs) n).2.1 (openF (byteL TX) (sumP xs) n).2.2.1 (openF (byteL TX) (sumP xs) n).2.2.2 false ∧ Below W2.heap.size W2 w')) (f := 16) (args := #[.agg (headL (sumP xs) n).toArray, .string TX]) (fun vp => { tmps := #[.int .u16 a0, .slice (some ⟨bz, oz, none⟩) n1 c1, .slice (some ⟨b2, o2, none⟩) n2 c2, undef, undef, undef, u6, .slice (some ⟨mb, 0, none⟩) n n, .pointer (some ⟨rb, 0, none⟩), .pointer (some ⟨g, 0, none⟩), .int .i64 ↑K, .pointer (some ⟨w6.heap.size, 0, none⟩), .bool true, .int .i64 (↑C + 1), .slice none 0 0, .bool false, undef, undef, .bool true, .bool false, .slice (some ⟨bz, oz, none⟩) n1 c1, .int .i64 ↑n1, .bool false, .bool false, .slice (some ⟨b2, o2, none⟩) n2 c2, .int .i64 ↑n2, .slice (some ⟨bz, oz, none⟩) n1 c1, .int .i64 ↑n1, .bool false, .bool false, .int .u16 a0, .int .u16 ↑n, .int .i64 ↑n, .slice (some ⟨mb, 0, none⟩) n n, .slice (some ⟨mb, 0, none⟩) n n, .agg (headL (sumP xs) ↑n).toArray, .agg (headL (sumP xs) ↑n).toArray, .pointer (some ⟨g0, 0, none⟩), u38, u39, .tuple #[.agg #[.string { data := #[97] }, .int .i64 1, .int .i64 0, .int .i64 0, .slice none 0 0, .int .i64 ↑p, .int .i64 ↑N], .bool true], .pointer (some ⟨g, 0, none⟩), .tuple #[.agg #[.string { data := #[97] }, .int .i64 1, .int .i64 0, .int .i64 0, .slice none 0 0, .int .i64 ↑p, .int .i64 ↑N], .bool true], .agg #[.string { data := #[97] }, .int .i64 1, .int .i64 0, .int .i64 0, .slice none 0 0, .int .i64 ↑p, .int .i64 ↑N], .bool true, .bool true, .bool false, .pointer (some ⟨w6.heap.size, 6, none⟩), .int .i64 ↑N, .int .i64 ↑K, .slice (some ⟨bz, oz, none⟩) n1 c1, .int .i64 ↑n1, .bool true, .bool true, .int .i64 ↑K, .int .i64 (↑K % 3), .bool true, .bool true, .int .i64 ↑N, .slice (some ⟨bz, oz, none⟩) n1 c1, .int .i64 ↑K, .pointer (some ⟨bz, oz + K, none⟩), .int .u8 ↑C, .int .i64 ↑C, .int .i64 (↑C + 1), .int .i64 (↑C + 1), .pointer (some ⟨g, 0, none⟩), .slice (some ⟨mb, 0, none⟩) n n, .pointer (some ⟨w6.heap.size, 5, none⟩), .int .i64 ↑p, .pointer (some ⟨w6.heap.size, 5, none⟩), .int .i64 ↑p, .int .i64 (↑C + 1), .int .i64 (↑p + (↑C + 1)), .slice As (C + 1) cs, .agg #[.int .i64 0, .slice As (C + 1) cs], .nilIface, .bool false, .tuple #[.slice none 0 0, .bool false], .pointer (some ⟨g, 0, none⟩), .tuple #[.slice none 0 0, .bool false], .slice none 0 0, .bool false, .bool false, .bool true, .bool true, .int .i64 ↑K, .slice (some ⟨b2, o2, none⟩) n2 c2, .int .i64 ↑n2, .bool true, .bool true, .bool true, .slice (some ⟨b2, o2, none⟩) n2 c2, .int .i64 ↑K, .pointer (some ⟨b2, o2 + K, none⟩), .bool true, .bool true, .agg (headL (sumP xs) n).toArray, .pointer (some ⟨g, 0, none⟩), .string TX, vp, undef, undef, undef, undef, undef, undef, undef, undef, undef, undef, undef, undef, undef], defers := [] }) (by kernel_rfl) ((open_any (sumP xs) n TX W2 (sumP_len xs) Htx.out).mono fun e w' h => by obtain ⟨g9, q1, q2⟩ := h; exact ⟨_, q1, g9, rfl, q2⟩) (fun _ => by kernel_rfl) ?_
                      intro vp W3 h3
                      obtain ⟨g9, rfl, hg9, hS9, hB9⟩ := h3
                      rw [Hop.out] at hS9
                      have g3 := g2.trans (hB9.mono g2.size)
                      refine ⟨g3, ?_⟩
                      refine rg_pure 4 (oi := { dst := some 9, op := Op.assign (Operand.tmp 100), type := 35, pos := "more.go:34", after := #[{ on := 3, ground := Ground.data }, { on := 3, ground := Ground.chain }, { on := 0, ground := Ground.phase }, { on := 1, ground := Ground.phase }, { on := 2, ground := Ground.phase }, { on := 3, ground := Ground.phase }], guard := none }) (.pointer (some ⟨g9, 0, none⟩)) ({ tmps := #[.int .u16 a0, .slice (some ⟨bz, oz, none⟩) n1 c1, .slice (some ⟨b2, o2, none⟩) n2 c2, undef, undef, undef, u6, .slice (some ⟨mb, 0, none⟩) n n, .pointer (some ⟨rb, 0, none⟩), .pointer (some ⟨g9, 0, none⟩), .int .i64 ↑K, .pointer (some ⟨w6.heap.size, 0, none⟩), .bool true, .int .i64 (↑C + 1), .slice none 0 0, .bool false, undef, undef, .bool true, .bool false, .slice (some ⟨bz, oz, none⟩) n1 c1, .int .i64 ↑n1, .bool false, .bool false, .slice (some ⟨b2, o2, none⟩) n2 c2, .int .i64 ↑n2, .slice (some ⟨bz, oz, none⟩) n1 c1, .int .i64 ↑n1, .bool false, .bool false, .int .u16 a0, .int .u16 ↑n, .int .i64 ↑n, .slice (some ⟨mb, 0, none⟩) n n, .slice (some ⟨mb, 0, none⟩) n n, .agg (headL (sumP xs) ↑n).toArray, .agg (headL (sumP xs) ↑n).toArray, .pointer (some ⟨g0, 0, none⟩), u38, u39, .tuple #[.agg #[.string { data := #[97] }, .int .i64 1, .int .i64 0, .int .i64 0, .slice none 0 0, .int .i64 ↑p, .int .i64 ↑N], .bool true], .pointer (some ⟨g, 0, none⟩), .tuple #[.agg #[.string { data := #[97] }, .int .i64 1, .int .i64 0, .int .i64 0, .slice none 0 0, .int .i64 ↑p, .int .i64 ↑N], .bool true], .agg #[.string { data := #[97] }, .int .i64 1, .int .i64 0, .int .i64 0, .slice none 0 0, .int .i64 ↑p, .int .i64 ↑N], .bool true, .bool true, .bool false, .pointer (some ⟨w6.heap.size, 6, none⟩), .int .i64 ↑N, .int .i64 ↑K, .slice (some ⟨bz, oz, none⟩) n1 c1, .int .i64 ↑n1, .bool true, .bool true, .int .i64 ↑K, .int .i64 (↑K % 3), .bool true, .bool true, .int .i64 ↑N, .slice (some ⟨bz, oz, none⟩) n1 c1, .int .i64 ↑K, .pointer (some ⟨bz, oz + K, none⟩), .int .u8 ↑C, .int .i64 ↑C, .int .i64 (↑C + 1), .int .i64 (↑C + 1), .pointer (some ⟨g, 0, none⟩), .slice (some ⟨mb, 0, none⟩) n n, .pointer (some ⟨w6.heap.size, 5, none⟩), .int .i64 ↑p, .pointer (some ⟨w6.heap.size, 5, none⟩), .int .i64 ↑p, .int .i64 (↑C + 1), .int .i64 (↑p + (↑C + 1)), .slice As (C + 1) cs, .agg #[.int .i64 0, .slice As (C + 1) cs], .nilIface, .bool false, .tuple #[.slice none 0 0, .bool false], .pointer (some ⟨g, 0, none⟩), .tuple #[.slice none 0 0, .bool false], .slice none 0 0, .bool false, .bool false, .bool true, .bool true, .int .i64 ↑K, .slice (some ⟨b2, o2, none⟩) n2 c2, .int .i64 ↑n2, .bool true, .bool true, .bool true, .slice (some ⟨b2, o2, none⟩) n2 c2, .int .i64 ↑K, .pointer (some ⟨b2, o2 + K, none⟩), .bool true, .bool true, .agg (headL (sumP xs) n).toArray, .pointer (some ⟨g, 0, none⟩), .string TX, .pointer (some ⟨g9, 0, none⟩), undef, undef, undef, undef, undef, undef, undef, undef, undef, undef, undef, undef, undef], defers := [] }) rfl (by kernel_rfl) (by kernel_rfl) (by kernel_rfl) (by kernel_rfl) (fun _ => by kernel_rfl) (by kernel_rfl) g3 ?_
                      refine rg_done (by kernel_rfl) ⟨rfl, ?_⟩ _
                      exact ⟨g3, g9, Nat.le_trans g2.size hg9, hS9, rfl⟩
                    · rintro a' W ⟨hBW, g9, hg9, hS9, rfl⟩
                      have hB9 : Below w4.heap.size w5 W := HB8.out.trans (hBW.mono (Nat.le_trans hg (Nat.le_of_lt HS8'.out.lt)))
                      have HS9 := keep hS9
                      have HB9 := keep hB9
                      clear hS9 hB9 hBW
                      go_wp2_with fail
                      go_roundw
                      case rel => exact ⟨g9, p + (C + 1), fb, K + 1, rfl, by go_num, ⟨by omega, by omega, hfbl, by omega⟩, Nat.le_trans hg (Nat.le_trans (Nat.le_of_lt HS8'.out.lt) hg9), by rw [hdf]; exact HS9.out, HB9.out⟩
                      case measure => simp [intOf]; omega
                · have ta : decide ((K : Int) < (n2 : Int)) = false := by simp; omega
                  go_wp2_with fail
                  go_roundw
                  case rel => exact ⟨g, p + (C + 1), fb, K + 1, rfl, by go_num, ⟨by omega, by omega, hfbl, by omega⟩, hg, by rw [hdf]; exact HS8'.out, HB8.out⟩
                  case measure => simp [intOf]; omega
            · have hcn' : ¬ ((C : Int) + 1 < (N : Int)) := by omega
              obtain ⟨As, cs, hcs, hsl, hrd⟩ := cut_mid (P := Try.prog) 23 5 Try.underlying23 (by kernel_rfl) (some ⟨mb, 0, none⟩) n n (p : Int) ((p : Int) + (N : Int)) (by omega) (by omega) (by omega) (by omega)
              have e1 : ((p : Int) + (N : Int) - p).toNat = N := by omega
              rw [e1] at hcs hsl hrd
              rw [Int.toNat_natCast] at hrd
              have hrm7 := (HB7.out.block _ hmg).trans Hr5.out
              have HRs := keep (hrd (w6.alloc (.cells #[.string ⟨#[97]⟩, .int .i64 1, .int .i64 0, .int .i64 0, .slice none 0 0, .int .i64 p, .int .i64 N] 38)) (w6.alloc (.cells #[.string ⟨#[97]⟩, .int .i64 1, .int .i64 0, .int .i64 0, .slice none 0 0, .int .i64 p, .int .i64 N] 38)).heap.size .u8 xs Hxl.out (RdI.of_row hrm7 (row_lt hrm7)))
              clear hrd e1 hrm7
              go_wp2_with fail
              generalize w6.alloc (.cells #[.string ⟨#[97]⟩, .int .i64 1, .int .i64 0, .int .i64 0, .slice none 0 0, .int .i64 p, .int .i64 N] 38) = w7 at HS7 HB7 HRs ⊢
              refine (take_cut (fa := fa) w7 HS7.out Hxl.out (by omega) HN.out (kk := N) (by omega) (by omega) (by omega) As cs (by omega) HRs.out).mono ?_
              rintro e w8 ⟨rfl, hS8, hB8, _⟩
              have hB8' : Below w4.heap.size w5 w8 := HB7.out.trans (hB8.mono hg)
              have HS8 := keep hS8
              have HB8 := keep hB8'
              clear hS8 hB8 hB8'
              obtain ⟨fb, hfb, hfbl⟩ : ∃ fb : Nat, (if N = N then 0 else (fa : Int) + 1) = (fb : Int) ∧ fb ≤ (K + 1) % 3 := by
                exact ⟨0, by rw [if_pos rfl]; rfl, by omega⟩
              have Hfb := keep hfb
              clear hfb
              go_wp2_with fail
              by_cases hpe : p + (N) = n
              · have hS8 := HS8.out
                rw [show decide (p + (N) = n) = true by simpa using hpe] at hS8
                refine (done_yes w8 hS8 (by rw [List.length_take, Hxl.out]; omega)).mono ?_
                rintro e w9 ⟨A9, c9, rfl, hc9, hR9, hB9⟩
                have hS9 := hS8.below hB9 (Nat.le_refl _)
                have hB9' : Below w4.heap.size w5 w9 := HB8.out.trans (hB9.mono (Nat.le_trans hg (Nat.le_of_lt hS8.lt)))
                have HS9 := keep hS9
                have HB9 := keep hB9'
                clear hS8 hS9 hR9 hB9 hB9'
                go_wp2_with fail
                go_roundw
                case rel => exact ⟨g, p + (N), fb, K + 1, rfl, by go_num, ⟨by omega, by omega, hfbl, by omega⟩, hg, by have := HS9.out; rw [Hfb.out] at this; rwa [show decide (p + (N) = n) = true by simpa using hpe], HB9.out⟩
                case measure => simp [intOf]; omega
              · have hdf : decide (p + (N) = n) = false := by simpa using hpe
                have hS8 := HS8.out
                rw [hdf, Hfb.out] at hS8
                obtain ⟨v8, hF8, hO8⟩ := hS8.st
                refine (done_no w8 hF8).mono ?_
                rintro e w9 ⟨rfl, hw9⟩
                rw [hw9]
                clear hw9 hO8 hF8
                have HS8' := keep hS8
                clear hS8
                by_cases hKa : K < n2
                · have ta : decide ((K : Int) < (n2 : Int)) = true := by simp; omega
                  obtain ⟨b2, o2, rfl, hb2l, hc2⟩ := HY.out.out (by omega)
                  have hcK := hc2 K hKa
                  have hb8w : Below w.heap.size w w8 := hb5.trans (HB8.out.mono hwz4)
                  have hcK8 : w8.cell? ⟨b2, o2 + K, none⟩ = some (.bool (ys K)) := (hb8w.cell (p := ⟨b2, o2 + K, none⟩) hb2l).trans hcK
                  have hKi : (0 : Int) ≤ (K : Int) := by omega
                  have hKj : (K : Int) < (n2 : Int) := by omega
                  clear hc2 hcK hb8w
                  cases hyk : ys K with
                  | false =>
                    rw [hyk] at hcK8
                    go_wp2_with fail
                    go_roundw
                    case rel => exact ⟨g, p + (N), fb, K + 1, rfl, by go_num, ⟨by omega, by omega, hfbl, by omega⟩, hg, by rw [hdf]; exact HS8'.out, HB8.out⟩
                    case measure => simp [intOf]; omega
                  | true =>
                    rw [hyk] at hcK8
                    go_wp2_with fail
                    obtain ⟨TX, hTX⟩ : ∃ TX, strOfNums (textOf (xs.take (p + (N))) fb 0) = TX := ⟨_, rfl⟩
                    have hxt : (xs.take (p + (N))).length = p + (N) := by rw [List.length_take, Hxl.out]; omega
                    have hxb : ∀ x ∈ xs.take (p + (N)), 0 ≤ x ∧ x ≤ 255 := fun x hx => Hxb.out x (List.mem_of_mem_take hx)
                    have hby := fbytes_any (sp := 0) w8.drew (st_drew HS8'.out) hxb (by rw [hxt]; omega) (by omega) (by omega)
                    rw [hTX] at hby
                    have hTb : byteL TX = textOf (xs.take (p + (N))) fb 0 := by rw [← hTX]; exact byteL_str (textOf_byte hxb fb 0)
                    have hTl : TX.size ≤ 1000 := by
                      have e1 := byteL_length TX
                      rw [hTb] at e1
                      have q1 := numP_len 9 (p + (N)) (by omega)
                      have q2 := numP_len 9 fb (by omega)
                      have q3 := numP_len 9 0 (by omega)
                      simp only [textOf, List.length_append, hxt] at e1
                      omega
                    have hop : openF (byteL TX) (sumP xs) n = (xs.take (p + (N)), fb, 0, false) := by
                      unfold openF
                      rw [hTb, openR_text _ _ _ _ (by rw [hxt]; omega) (by rw [hxt]; omega) (by omega) (by omega)]
                      simp only [hxt]
                      rw [show decide (((p + (N) : Nat) : Int) = max (n : Int) 0) = false by simp; omega]
                      rfl
                    have hrr8 := (HB8.out.block _ hrbl).trans Hrr5.out
                    have hrb8 := row_lt hrr8
                    have hrg : w8.rangeAt rb 0 (headL (sumP xs) n) := by
                      intro j x hx
                      rw [cell_of_row _ _ _ _ _ _ hrr8]
                      simpa using hx
                    have Hby := keep hby
                    have Htx := keep hTl
                    have Hop := keep hop
                    have Hrg := keep hrg
                    clear hTX hxt hxb hby hTb hTl hop hrr8 hrg hcK8
                    refine rg_then (fun a' W => Below w8.heap.size w8 W ∧ ∃ g9, w8.heap.size ≤ g9 ∧ St W g9 (sumP xs) n (xs.take (p + (N))) fb 0 false false ∧ a' = { tmps := #[.int .u16 a0, .slice (some ⟨bz, oz, none⟩) n1 c1, .slice (some ⟨b2, o2, none⟩) n2 c2, undef, undef, undef, u6, .slice (some ⟨mb, 0, none⟩) n n, .pointer (some ⟨rb, 0, none⟩), .pointer (some ⟨g9, 0, none⟩), .int .i64 ↑K, .pointer (some ⟨w6.heap.size, 0, none⟩), .bool true, .int .i64 ↑N, .slice none 0 0, .bool false, undef, undef, .bool true, .bool false, .slice (some ⟨bz, oz, none⟩) n1 c1, .int .i64 ↑n1, .bool false, .bool false, .slice (some ⟨b2, o2, none⟩) n2 c2, .int .i64 ↑n2, .slice (some ⟨bz, oz, none⟩) n1 c1, .int .i64 ↑n1, .bool false, .bool false, .int .u16 a0, .int .u16 ↑n, .int .i64 ↑n, .slice (some ⟨mb, 0, none⟩) n n, .slice (some ⟨mb, 0, none⟩) n n, .agg (headL (sumP xs) ↑n).toArray, .agg (headL (sumP xs) ↑n).toArray, .pointer (some ⟨g0, 0, none⟩), u38, u39, .tuple #[.agg #[.string { data := #[97] }, .int .i64 1, .int .i64 0, .int .i64 0, .slice none 0 0, .int .i64 ↑p, .int .i64 ↑N], .bool true], .pointer (some ⟨g, 0, none⟩), .tuple #[.agg #[.string { data := #[97] }, .int .i64 1, .int .i64 0, .int .i64 0, .slice none 0 0, .int .i64 ↑p, .int .i64 ↑N], .bool true], .agg #[.string { data := #[97] }, .int .i64 1, .int .i64 0, .int .i64 0, .slice none 0 0, .int .i64 ↑p, .int .i64 ↑N], .bool true, .bool true, .bool false, .pointer (some ⟨w6.heap.size, 6, none⟩), .int .i64 ↑N, .int .i64 ↑K, .slice (some ⟨bz, oz, none⟩) n1 c1, .int .i64 ↑n1, .bool true, .bool true, .int .i64 ↑K, .int .i64 (↑K % 3), .bool true, .bool true, .int .i64 ↑N, .slice (some ⟨bz, oz, none⟩) n1 c1, .int .i64 ↑K, .pointer (some ⟨bz, oz + K, none⟩), .int .u8 ↑C, .int .i64 ↑C, .int .i64 (↑C + 1), .int .i64 ↑N, .pointer (some ⟨g, 0, none⟩), .slice (some ⟨mb, 0, none⟩) n n, .pointer (some ⟨w6.heap.size, 5, none⟩), .int .i64 ↑p, .pointer (some ⟨w6.heap.size, 5, none⟩), .int .i64 ↑p, .int .i64 ↑N, .int .i64 (↑p + ↑N), .slice As N cs, .agg #[.int .i64 0, .slice As N cs], .nilIface, .bool false, .tuple #[.slice none 0 0, .bool false], .pointer (some ⟨g, 0, none⟩), .tuple #[.slice none 0 0, .bool false], .slice none 0 0, .bool false, .bool false, .bool true, .bool true, .int .i64 ↑K, .slice (some ⟨b2, o2, none⟩) n2 c2, .int .i64 ↑n2, .bool true, .bool true, .bool true, .slice (some ⟨b2, o2, none⟩) n2 c2, .int .i64 ↑K, .pointer (some ⟨b2, o2 + K, none⟩), .bool true, .bool true, .agg (headL (sumP xs) n).toArray, .pointer (some ⟨g, 0, none⟩), .string TX, .pointer (some ⟨g9, 0, none⟩), undef, undef, undef, undef, undef, undef, undef, undef, undef, undef, undef, undef, undef], defers := [] }) ?_ ?_
                    · refine rg_start (Below w8.heap.size w8) (by kernel_rfl) (Below.refl _ _).drew (fun h0 => ?_)
                      refine rg_read 0 (oi := { dst := some 97, op := Op.load 33 (Operand.tmp 8), type := 33, pos := "more.go:34", after := #[], guard := none }) (.agg (headL (sumP xs) n).toArray) ({ tmps := #[.int .u16 a0, .slice (some ⟨bz, oz, none⟩) n1 c1, .slice (some ⟨b2, o2, none⟩) n2 c2, undef, undef, undef, u6, .slice (some ⟨mb, 0, none⟩) n n, .pointer (some ⟨rb, 0, none⟩), .pointer (some ⟨g, 0, none⟩), .int .i64 ↑K, .pointer (some ⟨w6.heap.size, 0, none⟩), .bool true, .int .i64 ↑N, .slice none 0 0, .bool false, undef, undef, .bool true, .bool false, .slice (some ⟨bz, oz, none⟩) n1 c1, .int .i64 ↑n1, .bool false, .bool false, .slice (some ⟨b2, o2, none⟩) n2 c2, .int .i64 ↑n2, .slice (some ⟨bz, oz, none⟩) n1 c1, .int .i64 ↑n1, .bool false, .bool false, .int .u16 a0, .int .u16 ↑n, .int .i64 ↑n, .slice (some ⟨mb, 0, none⟩) n n, .slice (some ⟨mb, 0, none⟩) n n, .agg (headL (sumP xs) ↑n).toArray, .agg (headL (sumP xs) ↑n).toArray, .pointer (some ⟨g0, 0, none⟩), u38, u39, .tuple #[.agg #[.string { data := #[97] }, .int .i64 1, .int .i64 0, .int .i64 0, .slice none 0 0, .int .i64 ↑p, .int .i64 ↑N], .bool true], .pointer (some ⟨g, 0, none⟩), .tuple #[.agg #[.string { data := #[97] }, .int .i64 1, .int .i64 0, .int .i64 0, .slice none 0 0, .int .i64 ↑p, .int .i64 ↑N], .bool true], .agg #[.string { data := #[97] }, .int .i64 1, .int .i64 0, .int .i64 0, .slice none 0 0, .int .i64 ↑p, .int .i64 ↑N], .bool true, .bool true, .bool false, .pointer (some ⟨w6.heap.size, 6, none⟩), .int .i64 ↑N, .int .i64 ↑K, .slice (some ⟨bz, oz, none⟩) n1 c1, .int .i64 ↑n1, .bool true, .bool true, .int .i64 ↑K, .int .i64 (↑K % 3), .bool true, .bool true, .int .i64 ↑N, .slice (some ⟨bz, oz, none⟩) n1 c1, .int .i64 ↑K, .pointer (some ⟨bz, oz + K, none⟩), .int .u8 ↑C, .int .i64 ↑C, .int .i64 (↑C + 1), .int .i64 ↑N, .pointer (some ⟨g, 0, none⟩), .slice (some ⟨mb, 0, none⟩) n n, .pointer (some ⟨w6.heap.size, 5, none⟩), .int .i64 ↑p, .pointer (some ⟨w6.heap.size, 5, none⟩), .int .i64 ↑p, .int .i64 ↑N, .int .i64 (↑p + ↑N), .slice As N cs, .agg #[.int .i64 0, .slice As N cs], .nilIface, .bool false, .tuple #[.slice none 0 0, .bool false], .pointer (some ⟨g, 0, none⟩), .tuple #[.slice none 0 0, .bool false], .slice none 0 0, .bool false, .bool false, .bool true, .bool true, .int .i64 ↑K, .slice (some ⟨b2, o2, none⟩) n2 c2, .int .i64 ↑n2, .bool true, .bool true, .bool true, .slice (some ⟨b2, o2, none⟩) n2 c2, .int .i64 ↑K, .pointer (some ⟨b2, o2 + K, none⟩), .bool true, .bool true, .agg (headL (sumP xs) n).toArray, u98, u99, u100, undef, undef, undef, undef, undef, undef, undef, undef, undef, undef, undef, undef, undef], defers := [] }) rfl (by kernel_rfl) (by kernel_rfl) (by kernel_rfl) (by kernel_rfl) (fun W hW => ex_loadRow _ _ 33 (.tmp 8) rfl rb 0 (by kernel_rfl) (headL (sumP xs) n) _ Try.underlying33 rfl HinF.out W (range_below hW hrb8 Hrg.out)) (by kernel_rfl) h0 ?_
                      refine rg_pure 1 (oi := { dst := some 98, op := Op.move (Operand.tmp 9), type := 35, pos := "more.go:34", after := #[], guard := none }) (.pointer (some ⟨g, 0, none⟩)) ({ tmps := #[.int .u16 a0, .slice (some ⟨bz, oz, none⟩) n1 c1, .slice (some ⟨b2, o2, none⟩) n2 c2, undef, undef, undef, u6, .slice (some ⟨mb, 0, none⟩) n n, .pointer (some ⟨rb, 0, none⟩), .pointer (some ⟨g, 0, none⟩), .int .i64 ↑K, .pointer (some ⟨w6.heap.size, 0, none⟩), .bool true, .int .i64 ↑N, .slice none 0 0, .bool false, undef, undef, .bool true, .bool false, .slice (some ⟨bz, oz, none⟩) n1 c1, .int .i64 ↑n1, .bool false, .bool false, .slice (some ⟨b2, o2, none⟩) n2 c2, .int .i64 ↑n2, .slice (some ⟨bz, oz, none⟩) n1 c1, .int .i64 ↑n1, .bool false, .bool false, .int .u16 a0, .int .u16 ↑n, .int .i64 ↑n, .slice (some ⟨mb, 0, none⟩) n n, .slice (some ⟨mb, 0, none⟩) n n, .agg (headL (sumP xs) ↑n).toArray, .agg (headL (sumP xs) ↑n).toArray, .pointer (some ⟨g0, 0, none⟩), u38, u39, .tuple #[.agg #[.string { data := #[97] }, .int .i64 1, .int .i64 0, .int .i64 0, .slice none 0 0, .int .i64 ↑p, .int .i64 ↑N], .bool true], .pointer (some ⟨g, 0, none⟩), .tuple #[.agg #[.string { data := #[97] }, .int .i64 1, .int .i64 0, .int .i64 0, .slice none 0 0, .int .i64 ↑p, .int .i64 ↑N], .bool true], .agg #[.string { data := #[97] }, .int .i64 1, .int .i64 0, .int .i64 0, .slice none 0 0, .int .i64 ↑p, .int .i64 ↑N], .bool true, .bool true, .bool false, .pointer (some ⟨w6.heap.size, 6, none⟩), .int .i64 ↑N, .int .i64 ↑K, .slice (some ⟨bz, oz, none⟩) n1 c1, .int .i64 ↑n1, .bool true, .bool true, .int .i64 ↑K, .int .i64 (↑K % 3), .bool true, .bool true, .int .i64 ↑N, .slice (some ⟨bz, oz, none⟩) n1 c1, .int .i64 ↑K, .pointer (some ⟨bz, oz + K, none⟩), .int .u8 ↑C, .int .i64 ↑C, .int .i64 (↑C + 1), .int .i64 ↑N, .pointer (some ⟨g, 0, none⟩), .slice (some ⟨mb, 0, none⟩) n n, .pointer (some ⟨w6.heap.size, 5, none⟩), .int .i64 ↑p, .pointer (some ⟨w6.heap.size, 5, none⟩), .int .i64 ↑p, .int .i64 ↑N, .int .i64 (↑p + ↑N), .slice As N cs, .agg #[.int .i64 0, .slice As N cs], .nilIface, .bool false, .tuple #[.slice none 0 0, .bool false], .pointer (some ⟨g, 0, none⟩), .tuple #[.slice none 0 0, .bool false], .slice none 0 0, .bool false, .bool false, .bool true, .bool true, .int .i64 ↑K, .slice (some ⟨b2, o2, none⟩) n2 c2, .int .i64 ↑n2, .bool true, .bool true, .bool true, .slice (some ⟨b2, o2, none⟩) n2 c2, .int .i64 ↑K, .pointer (some ⟨b2, o2 + K, none⟩), .bool true, .bool true, .agg (headL (sumP xs) n).toArray, .pointer (some ⟨g, 0, none⟩), u99, u100, undef, undef, undef, undef, undef, undef, undef, undef, undef, undef, undef, undef, undef], defers := [] }) rfl (by kernel_rfl) (by kernel_rfl) (by kernel_rfl) (by kernel_rfl) (fun _ => by kernel_rfl) (by kernel_rfl) h0 ?_
                      refine rg_one 2 (oi := { dst := some 99, op := Op.call { callee := Callee.value (Operand.func 19), args := #[Operand.tmp 98], argTypes := #[35] }, type := 9, pos := "more.go:34", after := #[{ on := 1, ground := Ground.data }], guard := none }) (by kernel_rfl) rfl (by kernel_rfl) ?_
                      refine op_call (v := .string TX) (f := 19) (args := #[.pointer (some ⟨g, 0, none⟩)]) ({ tmps := #[.int .u16 a0, .slice (some ⟨bz, oz, none⟩) n1 c1, .slice (some ⟨b2, o2, none⟩) n2 c2, undef, undef, undef, u6, .slice (some ⟨mb, 0, none⟩) n n, .pointer (some ⟨rb, 0, none⟩), .pointer (some ⟨g, 0, none⟩), .int .i64 ↑K, .pointer (some ⟨w6.heap.size, 0, none⟩), .bool true, .int .i64 ↑N, .slice none 0 0, .bool false, undef, undef, .bool true, .bool false, .slice (some ⟨bz, oz, none⟩) n1 c1, .int .i64 ↑n1, .bool false, .bool false, .slice (some ⟨b2, o2, none⟩) n2 c2, .int .i64 ↑n2, .slice (some ⟨bz, oz, none⟩) n1 c1, .int .i64 ↑n1, .bool false, .bool false, .int .u16 a0, .int .u16 ↑n, .int .i64 ↑n, .slice (some ⟨mb, 0, none⟩) n n, .slice (some ⟨mb, 0, none⟩) n n, .agg (headL (sumP xs) ↑n).toArray, .agg (headL (sumP xs) ↑n).toArray, .pointer (some ⟨g0, 0, none⟩), u38, u39, .tuple #[.agg #[.string { data := #[97] }, .int .i64 1, .int .i64 0, .int .i64 0, .slice none 0 0, .int .i64 ↑p, .int .i64 ↑N], .bool true], .pointer (some ⟨g, 0, none⟩), .tuple #[.agg #[.string { data := #[97] }, .int .i64 1, .int .i64 0, .int .i64 0, .slice none 0 0, .int .i64 ↑p, .int .i64 ↑N], .bool true], .agg #[.string { data := #[97] }, .int .i64 1, .int .i64 0, .int .i64 0, .slice none 0 0, .int .i64 ↑p, .int .i64 ↑N], .bool true, .bool true, .bool false, .pointer (some ⟨w6.heap.size, 6, none⟩), .int .i64 ↑N, .int .i64 ↑K, .slice (some ⟨bz, oz, none⟩) n1 c1, .int .i64 ↑n1, .bool true, .bool true, .int .i64 ↑K, .int .i64 (↑K % 3), .bool true, .bool true, .int .i64 ↑N, .slice (some ⟨bz, oz, none⟩) n1 c1, .int .i64 ↑K, .pointer (some ⟨bz, oz + K, none⟩), .int .u8 ↑C, .int .i64 ↑C, .int .i64 (↑C + 1), .int .i64 ↑N, .pointer (some ⟨g, 0, none⟩), .slice (some ⟨mb, 0, none⟩) n n, .pointer (some ⟨w6.heap.size, 5, none⟩), .int .i64 ↑p, .pointer (some ⟨w6.heap.size, 5, none⟩), .int .i64 ↑p, .int .i64 ↑N, .int .i64 (↑p + ↑N), .slice As N cs, .agg #[.int .i64 0, .slice As N cs], .nilIface, .bool false, .tuple #[.slice none 0 0, .bool false], .pointer (some ⟨g, 0, none⟩), .tuple #[.slice none 0 0, .bool false], .slice none 0 0, .bool false, .bool false, .bool true, .bool true, .int .i64 ↑K, .slice (some ⟨b2, o2, none⟩) n2 c2, .int .i64 ↑n2, .bool true, .bool true, .bool true, .slice (some ⟨b2, o2, none⟩) n2 c2, .int .i64 ↑K, .pointer (some ⟨b2, o2 + K, none⟩), .bool true, .bool true, .agg (headL (sumP xs) n).toArray, .pointer (some ⟨g, 0, none⟩), .string TX, u100, undef, undef, undef, undef, undef, undef, undef, undef, undef, undef, undef, undef, undef], defers := [] }) (by kernel_rfl) Hby.out (by kernel_rfl) ?_
                      intro W2 h2
                      have g2 := h0.trans (h2.mono (Nat.le_refl _))
                      refine ⟨g2, ?_⟩
                      refine rg_one 3 (oi := { dst := some 100, op := Op.call { callee := Callee.value (Operand.func 16), args := #[Operand.tmp 97, Operand.tmp 99], argTypes := #[33, 9] }, type := 35, pos := "more.go:34", after := #[{ on := 0, ground := Ground.data }, { on := 2, ground := Ground.data }, { on := 2, ground := Ground.chain }], guard := none }) (by kernel_rfl) rfl (by kernel_rfl) ?_
                      refine op_callE (R := (fun v w' => ∃ g9, v = .pointer (some ⟨g9, 0, none⟩) ∧ W2.heap.size ≤ g9 ∧ St w' g9 (sumP xs) n (openF (byteL TX) (sumP xs) n).1 (openF (byteL TX) (sumP xs) n).2.1 (openF (byteL TX) (sumP xs) n).2.2.1 (openF (byteL TX) (sumP xs) n).2.2.2 false ∧ Below W2.heap.size W2 w')) (f := 16) (args := #[.agg (headL (sumP xs) n).toArray, .string TX]) (fun vp => { tmps := #[.int .u16 a0, .slice (some ⟨bz, oz, none⟩) n1 c1, .slice (some ⟨b2, o2, none⟩) n2 c2, undef, undef, undef, u6, .slice (some ⟨mb, 0, none⟩) n n, .pointer (some ⟨rb, 0, none⟩), .pointer (some ⟨g, 0, none⟩), .int .i64 ↑K, .pointer (some ⟨w6.heap.size, 0, none⟩), .bool true, .int .i64 ↑N, .slice none 0 0, .bool false, undef, undef, .bool true, .bool false, .slice (some ⟨bz, oz, none⟩) n1 c1, .int .i64 ↑n1, .bool false, .bool false, .slice (some ⟨b2, o2, none⟩) n2 c2, .int .i64 ↑n2, .slice (some ⟨bz, oz, none⟩) n1 c1, .int .i64 ↑n1, .bool false, .bool false, .int .u16 a0, .int .u16 ↑n, .int .i64 ↑n, .slice (some ⟨mb, 0, none⟩) n n, .slice (some ⟨mb, 0, none⟩) n n, .agg (headL (sumP xs) ↑n).toArray, .agg (headL (sumP xs) ↑n).toArray, .pointer (some ⟨g0, 0, none⟩), u38, u39, .tuple #[.agg #[.string { data := #[97] }, .int .i64 1, .int .i64 0, .int .i64 0, .slice none 0 0, .int .i64 ↑p, .int .i64 ↑N], .bool true], .pointer (some ⟨g, 0, none⟩), .tuple #[.agg #[.string { data := #[97] }, .int .i64 1, .int .i64 0, .int .i64 0, .slice none 0 0, .int .i64 ↑p, .int .i64 ↑N], .bool true], .agg #[.string { data := #[97] }, .int .i64 1, .int .i64 0, .int .i64 0, .slice none 0 0, .int .i64 ↑p, .int .i64 ↑N], .bool true, .bool true, .bool false, .pointer (some ⟨w6.heap.size, 6, none⟩), .int .i64 ↑N, .int .i64 ↑K, .slice (some ⟨bz, oz, none⟩) n1 c1, .int .i64 ↑n1, .bool true, .bool true, .int .i64 ↑K, .int .i64 (↑K % 3), .bool true, .bool true, .int .i64 ↑N, .slice (some ⟨bz, oz, none⟩) n1 c1, .int .i64 ↑K, .pointer (some ⟨bz, oz + K, none⟩), .int .u8 ↑C, .int .i64 ↑C, .int .i64 (↑C + 1), .int .i64 ↑N, .pointer (some ⟨g, 0, none⟩), .slice (some ⟨mb, 0, none⟩) n n, .pointer (some ⟨w6.heap.size, 5, none⟩), .int .i64 ↑p, .pointer (some ⟨w6.heap.size, 5, none⟩), .int .i64 ↑p, .int .i64 ↑N, .int .i64 (↑p + ↑N), .slice As N cs, .agg #[.int .i64 0, .slice As N cs], .nilIface, .bool false, .tuple #[.slice none 0 0, .bool false], .pointer (some ⟨g, 0, none⟩), .tuple #[.slice none 0 0, .bool false], .slice none 0 0, .bool false, .bool false, .bool true, .bool true, .int .i64 ↑K, .slice (some ⟨b2, o2, none⟩) n2 c2, .int .i64 ↑n2, .bool true, .bool true, .bool true, .slice (some ⟨b2, o2, none⟩) n2 c2, .int .i64 ↑K, .pointer (some ⟨b2, o2 + K, none⟩), .bool true, .bool true, .agg (headL (sumP xs) n).toArray, .pointer (some ⟨g, 0, none⟩), .string TX, vp, undef, undef, undef, undef, undef, undef, undef, undef, undef, undef, undef, undef, undef], defers := [] }) (by kernel_rfl) ((open_any (sumP xs) n TX W2 (sumP_len xs) Htx.out).mono fun e w' h => by obtain ⟨g9, q1, q2⟩ := h; exact ⟨_, q1, g9, rfl, q2⟩) (fun _ => by kernel_rfl) ?_
                      intro vp W3 h3
                      obtain ⟨g9, rfl, hg9, hS9, hB9⟩ := h3
                      rw [Hop.out] at hS9
                      have g3 := g2.trans (hB9.mono g2.size)
                      refine ⟨g3, ?_⟩
                      refine rg_pure 4 (oi := { dst := some 9, op := Op.assign (Operand.tmp 100), type := 35, pos := "more.go:34", after := #[{ on := 3, ground := Ground.data }, { on := 3, ground := Ground.chain }, { on := 0, ground := Ground.phase }, { on := 1, ground := Ground.phase }, { on := 2, ground := Ground.phase }, { on := 3, ground := Ground.phase }], guard := none }) (.pointer (some ⟨g9, 0, none⟩)) ({ tmps := #[.int .u16 a0, .slice (some ⟨bz, oz, none⟩) n1 c1, .slice (some ⟨b2, o2, none⟩) n2 c2, undef, undef, undef, u6, .slice (some ⟨mb, 0, none⟩) n n, .pointer (some ⟨rb, 0, none⟩), .pointer (some ⟨g9, 0, none⟩), .int .i64 ↑K, .pointer (some ⟨w6.heap.size, 0, none⟩), .bool true, .int .i64 ↑N, .slice none 0 0, .bool false, undef, undef, .bool true, .bool false, .slice (some ⟨bz, oz, none⟩) n1 c1, .int .i64 ↑n1, .bool false, .bool false, .slice (some ⟨b2, o2, none⟩) n2 c2, .int .i64 ↑n2, .slice (some ⟨bz, oz, none⟩) n1 c1, .int .i64 ↑n1, .bool false, .bool false, .int .u16 a0, .int .u16 ↑n, .int .i64 ↑n, .slice (some ⟨mb, 0, none⟩) n n, .slice (some ⟨mb, 0, none⟩) n n, .agg (headL (sumP xs) ↑n).toArray, .agg (headL (sumP xs) ↑n).toArray, .pointer (some ⟨g0, 0, none⟩), u38, u39, .tuple #[.agg #[.string { data := #[97] }, .int .i64 1, .int .i64 0, .int .i64 0, .slice none 0 0, .int .i64 ↑p, .int .i64 ↑N], .bool true], .pointer (some ⟨g, 0, none⟩), .tuple #[.agg #[.string { data := #[97] }, .int .i64 1, .int .i64 0, .int .i64 0, .slice none 0 0, .int .i64 ↑p, .int .i64 ↑N], .bool true], .agg #[.string { data := #[97] }, .int .i64 1, .int .i64 0, .int .i64 0, .slice none 0 0, .int .i64 ↑p, .int .i64 ↑N], .bool true, .bool true, .bool false, .pointer (some ⟨w6.heap.size, 6, none⟩), .int .i64 ↑N, .int .i64 ↑K, .slice (some ⟨bz, oz, none⟩) n1 c1, .int .i64 ↑n1, .bool true, .bool true, .int .i64 ↑K, .int .i64 (↑K % 3), .bool true, .bool true, .int .i64 ↑N, .slice (some ⟨bz, oz, none⟩) n1 c1, .int .i64 ↑K, .pointer (some ⟨bz, oz + K, none⟩), .int .u8 ↑C, .int .i64 ↑C, .int .i64 (↑C + 1), .int .i64 ↑N, .pointer (some ⟨g, 0, none⟩), .slice (some ⟨mb, 0, none⟩) n n, .pointer (some ⟨w6.heap.size, 5, none⟩), .int .i64 ↑p, .pointer (some ⟨w6.heap.size, 5, none⟩), .int .i64 ↑p, .int .i64 ↑N, .int .i64 (↑p + ↑N), .slice As N cs, .agg #[.int .i64 0, .slice As N cs], .nilIface, .bool false, .tuple #[.slice none 0 0, .bool false], .pointer (some ⟨g, 0, none⟩), .tuple #[.slice none 0 0, .bool false], .slice none 0 0, .bool false, .bool false, .bool true, .bool true, .int .i64 ↑K, .slice (some ⟨b2, o2, none⟩) n2 c2, .int .i64 ↑n2, .bool true, .bool true, .bool true, .slice (some ⟨b2, o2, none⟩) n2 c2, .int .i64 ↑K, .pointer (some ⟨b2, o2 + K, none⟩), .bool true, .bool true, .agg (headL (sumP xs) n).toArray, .pointer (some ⟨g, 0, none⟩), .string TX, .pointer (some ⟨g9, 0, none⟩), undef, undef, undef, undef, undef, undef, undef, undef, undef, undef, undef, undef, undef], defers := [] }) rfl (by kernel_rfl) (by kernel_rfl) (by kernel_rfl) (by kernel_rfl) (fun _ => by kernel_rfl) (by kernel_rfl) g3 ?_
                      refine rg_done (by kernel_rfl) ⟨rfl, ?_⟩ _
                      exact ⟨g3, g9, Nat.le_trans g2.size hg9, hS9, rfl⟩
                    · rintro a' W ⟨hBW, g9, hg9, hS9, rfl⟩
                      have hB9 : Below w4.heap.size w5 W := HB8.out.trans (hBW.mono (Nat.le_trans hg (Nat.le_of_lt HS8'.out.lt)))
                      have HS9 := keep hS9
                      have HB9 := keep hB9
                      clear hS9 hB9 hBW
                      go_wp2_with fail
                      go_roundw
                      case rel => exact ⟨g9, p + (N), fb, K + 1, rfl, by go_num, ⟨by omega, by omega, hfbl, by omega⟩, Nat.le_trans hg (Nat.le_trans (Nat.le_of_lt HS8'.out.lt) hg9), by rw [hdf]; exact HS9.out, HB9.out⟩
                      case measure => simp [intOf]; omega
                · have ta : decide ((K : Int) < (n2 : Int)) = false := by simp; omega
                  go_wp2_with fail
                  go_roundw
                  case rel => exact ⟨g, p + (N), fb, K + 1, rfl, by go_num, ⟨by omega, by omega, hfbl, by omega⟩, hg, by rw [hdf]; exact HS8'.out, HB8.out⟩
                  case measure => simp [intOf]; omega
          · have td : decide ((K : Int) % 3 < 2) = false := by simp; omega
            clear hcellK
            obtain ⟨As, cs, hcs, hsl, hrd⟩ := cut_mid (P := Try.prog) 23 5 Try.underlying23 (by kernel_rfl) (some ⟨mb, 0, none⟩) n n (p : Int) ((p : Int) + (N : Int)) (by omega) (by omega) (by omega) (by omega)
            have e1 : ((p : Int) + (N : Int) - p).toNat = N := by omega
            rw [e1] at hcs hsl hrd
            rw [Int.toNat_natCast] at hrd
            have hrm7 := (HB7.out.block _ hmg).trans Hr5.out
            have HRs := keep (hrd (w6.alloc (.cells #[.string ⟨#[97]⟩, .int .i64 1, .int .i64 0, .int .i64 0, .slice none 0 0, .int .i64 p, .int .i64 N] 38)) (w6.alloc (.cells #[.string ⟨#[97]⟩, .int .i64 1, .int .i64 0, .int .i64 0, .slice none 0 0, .int .i64 p, .int .i64 N] 38)).heap.size .u8 xs Hxl.out (RdI.of_row hrm7 (row_lt hrm7)))
            clear hrd e1 hrm7
            go_wp2_with fail
            generalize w6.alloc (.cells #[.string ⟨#[97]⟩, .int .i64 1, .int .i64 0, .int .i64 0, .slice none 0 0, .int .i64 p, .int .i64 N] 38) = w7 at HS7 HB7 HRs ⊢
            refine (take_cut (fa := fa) w7 HS7.out Hxl.out (by omega) HN.out (kk := N) (by omega) (by omega) (by omega) As cs (by omega) HRs.out).mono ?_
            rintro e w8 ⟨rfl, hS8, hB8, _⟩
            have hB8' : Below w4.heap.size w5 w8 := HB7.out.trans (hB8.mono hg)
            have HS8 := keep hS8
            have HB8 := keep hB8'
            clear hS8 hB8 hB8'
            obtain ⟨fb, hfb, hfbl⟩ : ∃ fb : Nat, (if N = N then 0 else (fa : Int) + 1) = (fb : Int) ∧ fb ≤ (K + 1) % 3 := by
              exact ⟨0, by rw [if_pos rfl]; rfl, by omega⟩
            have Hfb := keep hfb
            clear hfb
            go_wp2_with fail
            by_cases hpe : p + (N) = n
            · have hS8 := HS8.out
              rw [show decide (p + (N) = n) = true by simpa using hpe] at hS8
              refine (done_yes w8 hS8 (by rw [List.length_take, Hxl.out]; omega)).mono ?_
              rintro e w9 ⟨A9, c9, rfl, hc9, hR9, hB9⟩
              have hS9 := hS8.below hB9 (Nat.le_refl _)
              have hB9' : Below w4.heap.size w5 w9 := HB8.out.trans (hB9.mono (Nat.le_trans hg (Nat.le_of_lt hS8.lt)))
              have HS9 := keep hS9
              have HB9 := keep hB9'
              clear hS8 hS9 hR9 hB9 hB9'
              go_wp2_with fail
              go_roundw
              case rel => exact ⟨g, p + (N), fb, K + 1, rfl, by go_num, ⟨by omega, by omega, hfbl, by omega⟩, hg, by have := HS9.out; rw [Hfb.out] at this; rwa [show decide (p + (N) = n) = true by simpa using hpe], HB9.out⟩
              case measure => simp [intOf]; omega
            · have hdf : decide (p + (N) = n) = false := by simpa using hpe
              have hS8 := HS8.out
              rw [hdf, Hfb.out] at hS8
              obtain ⟨v8, hF8, hO8⟩ := hS8.st
              refine (done_no w8 hF8).mono ?_
              rintro e w9 ⟨rfl, hw9⟩
              rw [hw9]
              clear hw9 hO8 hF8
              have HS8' := keep hS8
              clear hS8
              by_cases hKa : K < n2
              · have ta : decide ((K : Int) < (n2 : Int)) = true := by simp; omega
                obtain ⟨b2, o2, rfl, hb2l, hc2⟩ := HY.out.out (by omega)
                have hcK := hc2 K hKa
                have hb8w : Below w.heap.size w w8 := hb5.trans (HB8.out.mono hwz4)
                have hcK8 : w8.cell? ⟨b2, o2 + K, none⟩ = some (.bool (ys K)) := (hb8w.cell (p := ⟨b2, o2 + K, none⟩) hb2l).trans hcK
                have hKi : (0 : Int) ≤ (K : Int) := by omega
                have hKj : (K : Int) < (n2 : Int) := by omega
                clear hc2 hcK hb8w
                cases hyk : ys K with
                | false =>
                  rw [hyk] at hcK8
                  go_wp2_with fail
                  go_roundw
                  case rel => exact ⟨g, p + (N), fb, K + 1, rfl, by go_num, ⟨by omega, by omega, hfbl, by omega⟩, hg, by rw [hdf]; exact HS8'.out, HB8.out⟩
                  case measure => simp [intOf]; omega
                | true =>
                  rw [hyk] at hcK8
                  go_wp2_with fail
                  obtain ⟨TX, hTX⟩ : ∃ TX, strOfNums (textOf (xs.take (p + (N))) fb 0) = TX := ⟨_, rfl⟩
                  have hxt : (xs.take (p + (N))).length = p + (N) := by rw [List.length_take, Hxl.out]; omega
                  have hxb : ∀ x ∈ xs.take (p + (N)), 0 ≤ x ∧ x ≤ 255 := fun x hx => Hxb.out x (List.mem_of_mem_take hx)
                  have hby := fbytes_any (sp := 0) w8.drew (st_drew HS8'.out) hxb (by rw [hxt]; omega) (by omega) (by omega)
                  rw [hTX] at hby
                  have hTb : byteL TX = textOf (xs.take (p + (N))) fb 0 := by rw [← hTX]; exact byteL_str (textOf_byte hxb fb 0)
                  have hTl : TX.size ≤ 1000 := by
                    have e1 := byteL_length TX
                    rw [hTb] at e1
                    have q1 := numP_len 9 (p + (N)) (by omega)
                    have q2 := numP_len 9 fb (by omega)
                    have q3 := numP_len 9 0 (by omega)
                    simp only [textOf, List.length_append, hxt] at e1
                    omega
                  have hop : openF (byteL TX) (sumP xs) n = (xs.take (p + (N)), fb, 0, false) := by
                    unfold openF
                    rw [hTb, openR_text _ _ _ _ (by rw [hxt]; omega) (by rw [hxt]; omega) (by omega) (by omega)]
                    simp only [hxt]
                    rw [show decide (((p + (N) : Nat) : Int) = max (n : Int) 0) = false by simp; omega]
                    rfl
                  have hrr8 := (HB8.out.block _ hrbl).trans Hrr5.out
                  have hrb8 := row_lt hrr8
                  have hrg : w8.rangeAt rb 0 (headL (sumP xs) n) := by
                    intro j x hx
                    rw [cell_of_row _ _ _ _ _ _ hrr8]
                    simpa using hx
                  have Hby := keep hby
                  have Htx := keep hTl
                  have Hop := keep hop
                  have Hrg := keep hrg
                  clear hTX hxt hxb hby hTb hTl hop hrr8 hrg hcK8
                  refine rg_then (fun a' W => Below w8.heap.size w8 W ∧ ∃ g9, w8.heap.size ≤ g9 ∧ St W g9 (sumP xs) n (xs.take (p + (N))) fb 0 false false ∧ a' = { tmps := #[.int .u16 a0, .slice A1 n1 c1, .slice (some ⟨b2, o2, none⟩) n2 c2, undef, undef, undef, u6, .slice (some ⟨mb, 0, none⟩) n n, .pointer (some ⟨rb, 0, none⟩), .pointer (some ⟨g9, 0, none⟩), .int .i64 ↑K, .pointer (some ⟨w6.heap.size, 0, none⟩), .bool true, .int .i64 ↑N, .slice none 0 0, .bool false, undef, undef, .bool true, .bool false, .slice A1 n1 c1, .int .i64 ↑n1, .bool false, .bool false, .slice (some ⟨b2, o2, none⟩) n2 c2, .int .i64 ↑n2, .slice A1 n1 c1, .int .i64 ↑n1, .bool false, .bool false, .int .u16 a0, .int .u16 ↑n, .int .i64 ↑n, .slice (some ⟨mb, 0, none⟩) n n, .slice (some ⟨mb, 0, none⟩) n n, .agg (headL (sumP xs) ↑n).toArray, .agg (headL (sumP xs) ↑n).toArray, .pointer (some ⟨g0, 0, none⟩), u38, u39, .tuple #[.agg #[.string { data := #[97] }, .int .i64 1, .int .i64 0, .int .i64 0, .slice none 0 0, .int .i64 ↑p, .int .i64 ↑N], .bool true], .pointer (some ⟨g, 0, none⟩), .tuple #[.agg #[.string { data := #[97] }, .int .i64 1, .int .i64 0, .int .i64 0, .slice none 0 0, .int .i64 ↑p, .int .i64 ↑N], .bool true], .agg #[.string { data := #[97] }, .int .i64 1, .int .i64 0, .int .i64 0, .slice none 0 0, .int .i64 ↑p, .int .i64 ↑N], .bool true, .bool true, .bool false, .pointer (some ⟨w6.heap.size, 6, none⟩), .int .i64 ↑N, .int .i64 ↑K, .slice A1 n1 c1, .int .i64 ↑n1, .bool true, .bool true, .int .i64 ↑K, .int .i64 (↑K % 3), .bool false, .bool false, u58, u59, u60, u61, u62, u63, u64, u65, .pointer (some ⟨g, 0, none⟩), .slice (some ⟨mb, 0, none⟩) n n, .pointer (some ⟨w6.heap.size, 5, none⟩), .int .i64 ↑p, .pointer (some ⟨w6.heap.size, 5, none⟩), .int .i64 ↑p, .int .i64 ↑N, .int .i64 (↑p + ↑N), .slice As N cs, .agg #[.int .i64 0, .slice As N cs], .nilIface, .bool false, .tuple #[.slice none 0 0, .bool false], .pointer (some ⟨g, 0, none⟩), .tuple #[.slice none 0 0, .bool false], .slice none 0 0, .bool false, .bool false, .bool true, .bool true, .int .i64 ↑K, .slice (some ⟨b2, o2, none⟩) n2 c2, .int .i64 ↑n2, .bool true, .bool true, .bool true, .slice (some ⟨b2, o2, none⟩) n2 c2, .int .i64 ↑K, .pointer (some ⟨b2, o2 + K, none⟩), .bool true, .bool true, .agg (headL (sumP xs) n).toArray, .pointer (some ⟨g, 0, none⟩), .string TX, .pointer (some ⟨g9, 0, none⟩), undef, undef, undef, undef, undef, undef, undef, undef, undef, undef, undef, undef, undef], defers := [] }) ?_ ?_
                  · refine rg_start (Below w8.heap.size w8) (by kernel_rfl) (Below.refl _ _).drew (fun h0 => ?_)
                    refine rg_read 0 (oi := { dst := some 97, op := Op.load 33 (Operand.tmp 8), type := 33, pos := "more.go:34", after := #[], guard := none }) (.agg (headL (sumP xs) n).toArray) ({ tmps := #[.int .u16 a0, .slice A1 n1 c1, .slice (some ⟨b2, o2, none⟩) n2 c2, undef, undef, undef, u6, .slice (some ⟨mb, 0, none⟩) n n, .pointer (some ⟨rb, 0, none⟩), .pointer (some ⟨g, 0, none⟩), .int .i64 ↑K, .pointer (some ⟨w6.heap.size, 0, none⟩), .bool true, .int .i64 ↑N, .slice none 0 0, .bool false, undef, undef, .bool true, .bool false, .slice A1 n1 c1, .int .i64 ↑n1, .bool false, .bool false, .slice (some ⟨b2, o2, none⟩) n2 c2, .int .i64 ↑n2, .slice A1 n1 c1, .int .i64 ↑n1, .bool false, .bool false, .int .u16 a0, .int .u16 ↑n, .int .i64 ↑n, .slice (some ⟨mb, 0, none⟩) n n, .slice (some ⟨mb, 0, none⟩) n n, .agg (headL (sumP xs) ↑n).toArray, .agg (headL (sumP xs) ↑n).toArray, .pointer (some ⟨g0, 0, none⟩), u38, u39, .tuple #[.agg #[.string { data := #[97] }, .int .i64 1, .int .i64 0, .int .i64 0, .slice none 0 0, .int .i64 ↑p, .int .i64 ↑N], .bool true], .pointer (some ⟨g, 0, none⟩), .tuple #[.agg #[.string { data := #[97] }, .int .i64 1, .int .i64 0, .int .i64 0, .slice none 0 0, .int .i64 ↑p, .int .i64 ↑N], .bool true], .agg #[.string { data := #[97] }, .int .i64 1, .int .i64 0, .int .i64 0, .slice none 0 0, .int .i64 ↑p, .int .i64 ↑N], .bool true, .bool true, .bool false, .pointer (some ⟨w6.heap.size, 6, none⟩), .int .i64 ↑N, .int .i64 ↑K, .slice A1 n1 c1, .int .i64 ↑n1, .bool true, .bool true, .int .i64 ↑K, .int .i64 (↑K % 3), .bool false, .bool false, u58, u59, u60, u61, u62, u63, u64, u65, .pointer (some ⟨g, 0, none⟩), .slice (some ⟨mb, 0, none⟩) n n, .pointer (some ⟨w6.heap.size, 5, none⟩), .int .i64 ↑p, .pointer (some ⟨w6.heap.size, 5, none⟩), .int .i64 ↑p, .int .i64 ↑N, .int .i64 (↑p + ↑N), .slice As N cs, .agg #[.int .i64 0, .slice As N cs], .nilIface, .bool false, .tuple #[.slice none 0 0, .bool false], .pointer (some ⟨g, 0, none⟩), .tuple #[.slice none 0 0, .bool false], .slice none 0 0, .bool false, .bool false, .bool true, .bool true, .int .i64 ↑K, .slice (some ⟨b2, o2, none⟩) n2 c2, .int .i64 ↑n2, .bool true, .bool true, .bool true, .slice (some ⟨b2, o2, none⟩) n2 c2, .int .i64 ↑K, .pointer (some ⟨b2, o2 + K, none⟩), .bool true, .bool true, .agg (headL (sumP xs) n).toArray, u98, u99, u100, undef, undef, undef, undef, undef, undef, undef, undef, undef, undef, undef, undef, undef], defers := [] }) rfl (by kernel_rfl) (by kernel_rfl) (by kernel_rfl) (by kernel_rfl) (fun W hW => ex_loadRow _ _ 33 (.tmp 8) rfl rb 0 (by kernel_rfl) (headL (sumP xs) n) _ Try.underlying33 rfl HinF.out W (range_below hW hrb8 Hrg.out)) (by kernel_rfl) h0 ?_
                    refine rg_pure 1 (oi := { dst := some 98, op := Op.move (Operand.tmp 9), type := 35, pos := "more.go:34", after := #[], guard := none }) (.pointer (some ⟨g, 0, none⟩)) ({ tmps := #[.int .u16 a0, .slice A1 n1 c1, .slice (some ⟨b2, o2, none⟩) n2 c2, undef, undef, undef, u6, .slice (some ⟨mb, 0, none⟩) n n, .pointer (some ⟨rb, 0, none⟩), .pointer (some ⟨g, 0, none⟩), .int .i64 ↑K, .pointer (some ⟨w6.heap.size, 0, none⟩), .bool true, .int .i64 ↑N, .slice none 0 0, .bool false, undef, undef, .bool true, .bool false, .slice A1 n1 c1, .int .i64 ↑n1, .bool false, .bool false, .slice (some ⟨b2, o2, none⟩) n2 c2, .int .i64 ↑n2, .slice A1 n1 c1, .int .i64 ↑n1, .bool false, .bool false, .int .u16 a0, .int .u16 ↑n, .int .i64 ↑n, .slice (some ⟨mb, 0, none⟩) n n, .slice (some ⟨mb, 0, none⟩) n n, .agg (headL (sumP xs) ↑n).toArray, .agg (headL (sumP xs) ↑n).toArray, .pointer (some ⟨g0, 0, none⟩), u38, u39, .tuple #[.agg #[.string { data := #[97] }, .int .i64 1, .int .i64 0, .int .i64 0, .slice none 0 0, .int .i64 ↑p, .int .i64 ↑N], .bool true], .pointer (some ⟨g, 0, none⟩), .tuple #[.agg #[.string { data := #[97] }, .int .i64 1, .int .i64 0, .int .i64 0, .slice none 0 0, .int .i64 ↑p, .int .i64 ↑N], .bool true], .agg #[.string { data := #[97] }, .int .i64 1, .int .i64 0, .int .i64 0, .slice none 0 0, .int .i64 ↑p, .int .i64 ↑N], .bool true, .bool true, .bool false, .pointer (some ⟨w6.heap.size, 6, none⟩), .int .i64 ↑N, .int .i64 ↑K, .slice A1 n1 c1, .int .i64 ↑n1, .bool true, .bool true, .int .i64 ↑K, .int .i64 (↑K % 3), .bool false, .bool false, u58, u59, u60, u61, u62, u63, u64, u65, .pointer (some ⟨g, 0, none⟩), .slice (some ⟨mb, 0, none⟩) n n, .pointer (some ⟨w6.heap.size, 5, none⟩), .int .i64 ↑p, .pointer (some ⟨w6.heap.size, 5, none⟩), .int .i64 ↑p, .int .i64 ↑N, .int .i64 (↑p + ↑N), .slice As N cs, .agg #[.int .i64 0, .slice As N cs], .nilIface, .bool false, .tuple #[.slice none 0 0, .bool false], .pointer (some ⟨g, 0, none⟩), .tuple #[.slice none 0 0, .bool false], .slice none 0 0, .bool false, .bool false, .bool true, .bool true, .int .i64 ↑K, .slice (some ⟨b2, o2, none⟩) n2 c2, .int .i64 ↑n2, .bool true, .bool true, .bool true, .slice (some ⟨b2, o2, none⟩) n2 c2, .int .i64 ↑K, .pointer (some ⟨b2, o2 + K, none⟩), .bool true, .bool true, .agg (headL (sumP xs) n).toArray, .pointer (some ⟨g, 0, none⟩), u99, u100, undef, undef, undef, undef, undef, undef, undef, undef, undef, undef, undef, undef, undef], defers := [] }) rfl (by kernel_rfl) (by kernel_rfl) (by kernel_rfl) (by kernel_rfl) (fun _ => by kernel_rfl) (by kernel_rfl) h0 ?_
                    refine rg_one 2 (oi := { dst := some 99, op := Op.call { callee := Callee.value (Operand.func 19), args := #[Operand.tmp 98], argTypes := #[35] }, type := 9, pos := "more.go:34", after := #[{ on := 1, ground := Ground.data }], guard := none }) (by kernel_rfl) rfl (by kernel_rfl) ?_
                    refine op_call (v := .string TX) (f := 19) (args := #[.pointer (some ⟨g, 0, none⟩)]) ({ tmps := #[.int .u16 a0, .slice A1 n1 c1, .slice (some ⟨b2, o2, none⟩) n2 c2, undef, undef, undef, u6, .slice (some ⟨mb, 0, none⟩) n n, .pointer (some ⟨rb, 0, none⟩), .pointer (some ⟨g, 0, none⟩), .int .i64 ↑K, .pointer (some ⟨w6.heap.size, 0, none⟩), .bool true, .int .i64 ↑N, .slice none 0 0, .bool false, undef, undef, .bool true, .bool false, .slice A1 n1 c1, .int .i64 ↑n1, .bool false, .bool false, .slice (some ⟨b2, o2, none⟩) n2 c2, .int .i64 ↑n2, .slice A1 n1 c1, .int .i64 ↑n1, .bool false, .bool false, .int .u16 a0, .int .u16 ↑n, .int .i64 ↑n, .slice (some ⟨mb, 0, none⟩) n n, .slice (some ⟨mb, 0, none⟩) n n, .agg (headL (sumP xs) ↑n).toArray, .agg (headL (sumP xs) ↑n).toArray, .pointer (some ⟨g0, 0, none⟩), u38, u39, .tuple #[.agg #[.string { data := #[97] }, .int .i64 1, .int .i64 0, .int .i64 0, .slice none 0 0, .int .i64 ↑p, .int .i64 ↑N], .bool true], .pointer (some ⟨g, 0, none⟩), .tuple #[.agg #[.string { data := #[97] }, .int .i64 1, .int .i64 0, .int .i64 0, .slice none 0 0, .int .i64 ↑p, .int .i64 ↑N], .bool true], .agg #[.string { data := #[97] }, .int .i64 1, .int .i64 0, .int .i64 0, .slice none 0 0, .int .i64 ↑p, .int .i64 ↑N], .bool true, .bool true, .bool false, .pointer (some ⟨w6.heap.size, 6, none⟩), .int .i64 ↑N, .int .i64 ↑K, .slice A1 n1 c1, .int .i64 ↑n1, .bool true, .bool true, .int .i64 ↑K, .int .i64 (↑K % 3), .bool false, .bool false, u58, u59, u60, u61, u62, u63, u64, u65, .pointer (some ⟨g, 0, none⟩), .slice (some ⟨mb, 0, none⟩) n n, .pointer (some ⟨w6.heap.size, 5, none⟩), .int .i64 ↑p, .pointer (some ⟨w6.heap.size, 5, none⟩), .int .i64 ↑p, .int .i64 ↑N, .int .i64 (↑p + ↑N), .slice As N cs, .agg #[.int .i64 0, .slice As N cs], .nilIface, .bool false, .tuple #[.slice none 0 0, .bool false], .pointer (some ⟨g, 0, none⟩), .tuple #[.slice none 0 0, .bool false], .slice none 0 0, .bool false, .bool false, .bool true, .bool true, .int .i64 ↑K, .slice (some ⟨b2, o2, none⟩) n2 c2, .int .i64 ↑n2, .bool true, .bool true, .bool true, .slice (some ⟨b2, o2, none⟩) n2 c2, .int .i64 ↑K, .pointer (some ⟨b2, o2 + K, none⟩), .bool true, .bool true, .agg (headL (sumP xs) n).toArray, .pointer (some ⟨g, 0, none⟩), .string TX, u100, undef, undef, undef, undef, undef, undef, undef, undef, undef, undef, undef, undef, undef], defers := [] }) (by kernel_rfl) Hby.out (by kernel_rfl) ?_
                    intro W2 h2
                    have g2 := h0.trans (h2.mono (Nat.le_refl _))
                    refine ⟨g2, ?_⟩
                    refine rg_one 3 (oi := { dst := some 100, op := Op.call { callee := Callee.value (Operand.func 16), args := #[Operand.tmp 97, Operand.tmp 99], argTypes := #[33, 9] }, type := 35, pos := "more.go:34", after := #[{ on := 0, ground := Ground.data }, { on := 2, ground := Ground.data }, { on := 2, ground := Ground.chain }], guard := none }) (by kernel_rfl) rfl (by kernel_rfl) ?_
                    refine op_callE (R := (fun v w' => ∃ g9, v = .pointer (some ⟨g9, 0, none⟩) ∧ W2.heap.size ≤ g9 ∧ St w' g9 (sumP xs) n (openF (byteL TX) (sumP xs) n).1 (openF (byteL TX) (sumP xs) n).2.1 (openF (byteL TX) (sumP xs) n).2.2.1 (openF (byteL TX) (sumP xs) n).2.2.2 false ∧ Below W2.heap.size W2 w')) (f := 16) (args := #[.agg (headL (sumP xs) n).toArray, .string TX]) (fun vp => { tmps := #[.int .u16 a0, .slice A1 n1 c1, .slice (some ⟨b2, o2, none⟩) n2 c2, undef, undef, undef, u6, .slice (some ⟨mb, 0, none⟩) n n, .pointer (some ⟨rb, 0, none⟩), .pointer (some ⟨g, 0, none⟩), .int .i64 ↑K, .pointer (some ⟨w6.heap.size, 0, none⟩), .bool true, .int .i64 ↑N, .slice none 0 0, .bool false, undef, undef, .bool true, .bool false, .slice A1 n1 c1, .int .i64 ↑n1, .bool false, .bool false, .slice (some ⟨b2, o2, none⟩) n2 c2, .int .i64 ↑n2, .slice A1 n1 c1, .int .i64 ↑n1, .bool false, .bool false, .int .u16 a0, .int .u16 ↑n, .int .i64 ↑n, .slice (some ⟨mb, 0, none⟩) n n, .slice (some ⟨mb, 0, none⟩) n n, .agg (headL (sumP xs) ↑n).toArray, .agg (headL (sumP xs) ↑n).toArray, .pointer (some ⟨g0, 0, none⟩), u38, u39, .tuple #[.agg #[.string { data := #[97] }, .int .i64 1, .int .i64 0, .int .i64 0, .slice none 0 0, .int .i64 ↑p, .int .i64 ↑N], .bool true], .pointer (some ⟨g, 0, none⟩), .tuple #[.agg #[.string { data := #[97] }, .int .i64 1, .int .i64 0, .int .i64 0, .slice none 0 0, .int .i64 ↑p, .int .i64 ↑N], .bool true], .agg #[.string { data := #[97] }, .int .i64 1, .int .i64 0, .int .i64 0, .slice none 0 0, .int .i64 ↑p, .int .i64 ↑N], .bool true, .bool true, .bool false, .pointer (some ⟨w6.heap.size, 6, none⟩), .int .i64 ↑N, .int .i64 ↑K, .slice A1 n1 c1, .int .i64 ↑n1, .bool true, .bool true, .int .i64 ↑K, .int .i64 (↑K % 3), .bool false, .bool false, u58, u59, u60, u61, u62, u63, u64, u65, .pointer (some ⟨g, 0, none⟩), .slice (some ⟨mb, 0, none⟩) n n, .pointer (some ⟨w6.heap.size, 5, none⟩), .int .i64 ↑p, .pointer (some ⟨w6.heap.size, 5, none⟩), .int .i64 ↑p, .int .i64 ↑N, .int .i64 (↑p + ↑N), .slice As N cs, .agg #[.int .i64 0, .slice As N cs], .nilIface, .bool false, .tuple #[.slice none 0 0, .bool false], .pointer (some ⟨g, 0, none⟩), .tuple #[.slice none 0 0, .bool false], .slice none 0 0, .bool false, .bool false, .bool true, .bool true, .int .i64 ↑K, .slice (some ⟨b2, o2, none⟩) n2 c2, .int .i64 ↑n2, .bool true, .bool true, .bool true, .slice (some ⟨b2, o2, none⟩) n2 c2, .int .i64 ↑K, .pointer (some ⟨b2, o2 + K, none⟩), .bool true, .bool true, .agg (headL (sumP xs) n).toArray, .pointer (some ⟨g, 0, none⟩), .string TX, vp, undef, undef, undef, undef, undef, undef, undef, undef, undef, undef, undef, undef, undef], defers := [] }) (by kernel_rfl) ((open_any (sumP xs) n TX W2 (sumP_len xs) Htx.out).mono fun e w' h => by obtain ⟨g9, q1, q2⟩ := h; exact ⟨_, q1, g9, rfl, q2⟩) (fun _ => by kernel_rfl) ?_
                    intro vp W3 h3
                    obtain ⟨g9, rfl, hg9, hS9, hB9⟩ := h3
                    rw [Hop.out] at hS9
                    have g3 := g2.trans (hB9.mono g2.size)
                    refine ⟨g3, ?_⟩
                    refine rg_pure 4 (oi := { dst := some 9, op := Op.assign (Operand.tmp 100), type := 35, pos := "more.go:34", after := #[{ on := 3, ground := Ground.data }, { on := 3, ground := Ground.chain }, { on := 0, ground := Ground.phase }, { on := 1, ground := Ground.phase }, { on := 2, ground := Ground.phase }, { on := 3, ground := Ground.phase }], guard := none }) (.pointer (some ⟨g9, 0, none⟩)) ({ tmps := #[.int .u16 a0, .slice A1 n1 c1, .slice (some ⟨b2, o2, none⟩) n2 c2, undef, undef, undef, u6, .slice (some ⟨mb, 0, none⟩) n n, .pointer (some ⟨rb, 0, none⟩), .pointer (some ⟨g9, 0, none⟩), .int .i64 ↑K, .pointer (some ⟨w6.heap.size, 0, none⟩), .bool true, .int .i64 ↑N, .slice none 0 0, .bool false, undef, undef, .bool true, .bool false, .slice A1 n1 c1, .int .i64 ↑n1, .bool false, .bool false, .slice (some ⟨b2, o2, none⟩) n2 c2, .int .i64 ↑n2, .slice A1 n1 c1, .int .i64 ↑n1, .bool false, .bool false, .int .u16 a0, .int .u16 ↑n, .int .i64 ↑n, .slice (some ⟨mb, 0, none⟩) n n, .slice (some ⟨mb, 0, none⟩) n n, .agg (headL (sumP xs) ↑n).toArray, .agg (headL (sumP xs) ↑n).toArray, .pointer (some ⟨g0, 0, none⟩), u38, u39, .tuple #[.agg #[.string { data := #[97] }, .int .i64 1, .int .i64 0, .int .i64 0, .slice none 0 0, .int .i64 ↑p, .int .i64 ↑N], .bool true], .pointer (some ⟨g, 0, none⟩), .tuple #[.agg #[.string { data := #[97] }, .int .i64 1, .int .i64 0, .int .i64 0, .slice none 0 0, .int .i64 ↑p, .int .i64 ↑N], .bool true], .agg #[.string { data := #[97] }, .int .i64 1, .int .i64 0, .int .i64 0, .slice none 0 0, .int .i64 ↑p, .int .i64 ↑N], .bool true, .bool true, .bool false, .pointer (some ⟨w6.heap.size, 6, none⟩), .int .i64 ↑N, .int .i64 ↑K, .slice A1 n1 c1, .int .i64 ↑n1, .bool true, .bool true, .int .i64 ↑K, .int .i64 (↑K % 3), .bool false, .bool false, u58, u59, u60, u61, u62, u63, u64, u65, .pointer (some ⟨g, 0, none⟩), .slice (some ⟨mb, 0, none⟩) n n, .pointer (some ⟨w6.heap.size, 5, none⟩), .int .i64 ↑p, .pointer (some ⟨w6.heap.size, 5, none⟩), .int .i64 ↑p, .int .i64 ↑N, .int .i64 (↑p + ↑N), .slice As N cs, .agg #[.int .i64 0, .slice As N cs], .nilIface, .bool false, .tuple #[.slice none 0 0, .bool false], .pointer (some ⟨g, 0, none⟩), .tuple #[.slice none 0 0, .bool false], .slice none 0 0, .bool false, .bool false, .bool true, .bool true, .int .i64 ↑K, .slice (some ⟨b2, o2, none⟩) n2 c2, .int .i64 ↑n2, .bool true, .bool true, .bool true, .slice (some ⟨b2, o2, none⟩) n2 c2, .int .i64 ↑K, .pointer (some ⟨b2, o2 + K, none⟩), .bool true, .bool true, .agg (headL (sumP xs) n).toArray, .pointer (some ⟨g, 0, none⟩), .string TX, .pointer (some ⟨g9, 0, none⟩), undef, undef, undef, undef, undef, undef, undef, undef, undef, undef, undef, undef, undef], defers := [] }) rfl (by kernel_rfl) (by kernel_rfl) (by kernel_rfl) (by kernel_rfl) (fun _ => by kernel_rfl) (by kernel_rfl) g3 ?_
                    refine rg_done (by kernel_rfl) ⟨rfl, ?_⟩ _
                    exact ⟨g3, g9, Nat.le_trans g2.size hg9, hS9, rfl⟩
                  · rintro a' W ⟨hBW, g9, hg9, hS9, rfl⟩
                    have hB9 : Below w4.heap.size w5 W := HB8.out.trans (hBW.mono (Nat.le_trans hg (Nat.le_of_lt HS8'.out.lt)))
                    have HS9 := keep hS9
                    have HB9 := keep hB9
                    clear hS9 hB9 hBW
                    go_wp2_with fail
                    go_roundw
                    case rel => exact ⟨g9, p + (N), fb, K + 1, rfl, by go_num, ⟨by omega, by omega, hfbl, by omega⟩, Nat.le_trans hg (Nat.le_trans (Nat.le_of_lt HS8'.out.lt) hg9), by rw [hdf]; exact HS9.out, HB9.out⟩
                    case measure => simp [intOf]; omega
              · have ta : decide ((K : Int) < (n2 : Int)) = false := by simp; omega
                go_wp2_with fail
                go_roundw
                case rel => exact ⟨g, p + (N), fb, K + 1, rfl, by go_num, ⟨by omega, by omega, hfbl, by omega⟩, hg, by rw [hdf]; exact HS8'.out, HB8.out⟩
                case measure => simp [intOf]; omega
        · have tc : decide ((K : Int) < (n1 : Int)) = false := by simp; omega
          clear hcellK
          obtain ⟨As, cs, hcs, hsl, hrd⟩ := cut_mid (P := Try.prog) 23 5 Try.underlying23 (by kernel_rfl) (some ⟨mb, 0, none⟩) n n (p : Int) ((p : Int) + (N : Int)) (by omega) (by omega) (by omega) (by omega)
          have e1 : ((p : Int) + (N : Int) - p).toNat = N := by omega
          rw [e1] at hcs hsl hrd
          rw [Int.toNat_natCast] at hrd
          have hrm7 := (HB7.out.block _ hmg).trans Hr5.out
          have HRs := keep (hrd (w6.alloc (.cells #[.string ⟨#[97]⟩, .int .i64 1, .int .i64 0, .int .i64 0, .slice none 0 0, .int .i64 p, .int .i64 N] 38)) (w6.alloc (.cells #[.string ⟨#[97]⟩, .int .i64 1, .int .i64 0, .int .i64 0, .slice none 0 0, .int .i64 p, .int .i64 N] 38)).heap.size .u8 xs Hxl.out (RdI.of_row hrm7 (row_lt hrm7)))
          clear hrd e1 hrm7
          go_wp2_with fail
          generalize w6.alloc (.cells #[.string ⟨#[97]⟩, .int .i64 1, .int .i64 0, .int .i64 0, .slice none 0 0, .int .i64 p, .int .i64 N] 38) = w7 at HS7 HB7 HRs ⊢
          refine (take_cut (fa := fa) w7 HS7.out Hxl.out (by omega) HN.out (kk := N) (by omega) (by omega) (by omega) As cs (by omega) HRs.out).mono ?_
          rintro e w8 ⟨rfl, hS8, hB8, _⟩
          have hB8' : Below w4.heap.size w5 w8 := HB7.out.trans (hB8.mono hg)
          have HS8 := keep hS8
          have HB8 := keep hB8'
          clear hS8 hB8 hB8'
          obtain ⟨fb, hfb, hfbl⟩ : ∃ fb : Nat, (if N = N then 0 else (fa : Int) + 1) = (fb : Int) ∧ fb ≤ (K + 1) % 3 := by
            exact ⟨0, by rw [if_pos rfl]; rfl, by omega⟩
          have Hfb := keep hfb
          clear hfb
          go_wp2_with fail
          by_cases hpe : p + (N) = n
          · have hS8 := HS8.out
            rw [show decide (p + (N) = n) = true by simpa using hpe] at hS8
            refine (done_yes w8 hS8 (by rw [List.length_take, Hxl.out]; omega)).mono ?_
            rintro e w9 ⟨A9, c9, rfl, hc9, hR9, hB9⟩
            have hS9 := hS8.below hB9 (Nat.le_refl _)
            have hB9' : Below w4.heap.size w5 w9 := HB8.out.trans (hB9.mono (Nat.le_trans hg (Nat.le_of_lt hS8.lt)))
            have HS9 := keep hS9
            have HB9 := keep hB9'
            clear hS8 hS9 hR9 hB9 hB9'
            go_wp2_with fail
            go_roundw
            case rel => exact ⟨g, p + (N), fb, K + 1, rfl, by go_num, ⟨by omega, by omega, hfbl, by omega⟩, hg, by have := HS9.out; rw [Hfb.out] at this; rwa [show decide (p + (N) = n) = true by simpa using hpe], HB9.out⟩
            case measure => simp [intOf]; omega
          · have hdf : decide (p + (N) = n) = false := by simpa using hpe
            have hS8 := HS8.out
            rw [hdf, Hfb.out] at hS8
            obtain ⟨v8, hF8, hO8⟩ := hS8.st
            refine (done_no w8 hF8).mono ?_
            rintro e w9 ⟨rfl, hw9⟩
            rw [hw9]
            clear hw9 hO8 hF8
            have HS8' := keep hS8
            clear hS8
            by_cases hKa : K < n2
            · have ta : decide ((K : Int) < (n2 : Int)) = true := by simp; omega
              obtain ⟨b2, o2, rfl, hb2l, hc2⟩ := HY.out.out (by omega)
              have hcK := hc2 K hKa
              have hb8w : Below w.heap.size w w8 := hb5.trans (HB8.out.mono hwz4)
              have hcK8 : w8.cell? ⟨b2, o2 + K, none⟩ = some (.bool (ys K)) := (hb8w.cell (p := ⟨b2, o2 + K, none⟩) hb2l).trans hcK
              have hKi : (0 : Int) ≤ (K : Int) := by omega
              have hKj : (K : Int) < (n2 : Int) := by omega
              clear hc2 hcK hb8w
              cases hyk : ys K with
              | false =>
                rw [hyk] at hcK8
                go_wp2_with fail
                go_roundw
                case rel => exact ⟨g, p + (N), fb, K + 1, rfl, by go_num, ⟨by omega, by omega, hfbl, by omega⟩, hg, by rw [hdf]; exact HS8'.out, HB8.out⟩
                case measure => simp [intOf]; omega
              | true =>
                rw [hyk] at hcK8
                go_wp2_with fail
                obtain ⟨TX, hTX⟩ : ∃ TX, strOfNums (textOf (xs.take (p + (N))) fb 0) = TX := ⟨_, rfl⟩
                have hxt : (xs.take (p + (N))).length = p + (N) := by rw [List.length_take, Hxl.out]; omega
                have hxb : ∀ x ∈ xs.take (p + (N)), 0 ≤ x ∧ x ≤ 255 := fun x hx => Hxb.out x (List.mem_of_mem_take hx)
                have hby := fbytes_any (sp := 0) w8.drew (st_drew HS8'.out) hxb (by rw [hxt]; omega) (by omega) (by omega)
                rw [hTX] at hby
                have hTb : byteL TX = textOf (xs.take (p + (N))) fb 0 := by rw [← hTX]; exact byteL_str (textOf_byte hxb fb 0)
                have hTl : TX.size ≤ 1000 := by
                  have e1 := byteL_length TX
                  rw [hTb] at e1
                  have q1 := numP_len 9 (p + (N)) (by omega)
                  have q2 := numP_len 9 fb (by omega)
                  have q3 := numP_len 9 0 (by omega)
                  simp only [textOf, List.length_append, hxt] at e1
                  omega
                have hop : openF (byteL TX) (sumP xs) n = (xs.take (p + (N)), fb, 0, false) := by
                  unfold openF
                  rw [hTb, openR_text _ _ _ _ (by rw [hxt]; omega) (by rw [hxt]; omega) (by omega) (by omega)]
                  simp only [hxt]
                  rw [show decide (((p + (N) : Nat) : Int) = max (n : Int) 0) = false by simp; omega]
                  rfl
                have hrr8 := (HB8.out.block _ hrbl).trans Hrr5.out
                have hrb8 := row_lt hrr8
                have hrg : w8.rangeAt rb 0 (headL (sumP xs) n) := by
                  intro j x hx
                  rw [cell_of_row _ _ _ _ _ _ hrr8]
                  simpa using hx
                have Hby := keep hby
                have Htx := keep hTl
                have Hop := keep hop
                have Hrg := keep hrg
                clear hTX hxt hxb hby hTb hTl hop hrr8 hrg hcK8
                refine rg_then (fun a' W => Below w8.heap.size w8 W ∧ ∃ g9, w8.heap.size ≤ g9 ∧ St W g9 (sumP xs) n (xs.take (p + (N))) fb 0 false false ∧ a' = { tmps := #[.int .u16 a0, .slice A1 n1 c1, .slice (some ⟨b2, o2, none⟩) n2 c2, undef, undef, undef, u6, .slice (some ⟨mb, 0, none⟩) n n, .pointer (some ⟨rb, 0, none⟩), .pointer (some ⟨g9, 0, none⟩), .int .i64 ↑K, .pointer (some ⟨w6.heap.size, 0, none⟩), .bool true, .int .i64 ↑N, .slice none 0 0, .bool false, undef, undef, .bool true, .bool false, .slice A1 n1 c1, .int .i64 ↑n1, .bool false, .bool false, .slice (some ⟨b2, o2, none⟩) n2 c2, .int .i64 ↑n2, .slice A1 n1 c1, .int .i64 ↑n1, .bool false, .bool false, .int .u16 a0, .int .u16 ↑n, .int .i64 ↑n, .slice (some ⟨mb, 0, none⟩) n n, .slice (some ⟨mb, 0, none⟩) n n, .agg (headL (sumP xs) ↑n).toArray, .agg (headL (sumP xs) ↑n).toArray, .pointer (some ⟨g0, 0, none⟩), u38, u39, .tuple #[.agg #[.string { data := #[97] }, .int .i64 1, .int .i64 0, .int .i64 0, .slice none 0 0, .int .i64 ↑p, .int .i64 ↑N], .bool true], .pointer (some ⟨g, 0, none⟩), .tuple #[.agg #[.string { data := #[97] }, .int .i64 1, .int .i64 0, .int .i64 0, .slice none 0 0, .int .i64 ↑p, .int .i64 ↑N], .bool true], .agg #[.string { data := #[97] }, .int .i64 1, .int .i64 0, .int .i64 0, .slice none 0 0, .int .i64 ↑p, .int .i64 ↑N], .bool true, .bool true, .bool false, .pointer (some ⟨w6.heap.size, 6, none⟩), .int .i64 ↑N, .int .i64 ↑K, .slice A1 n1 c1, .int .i64 ↑n1, .bool false, .bool false, undef, undef, undef, .bool false, u58, u59, u60, u61, u62, u63, u64, u65, .pointer (some ⟨g, 0, none⟩), .slice (some ⟨mb, 0, none⟩) n n, .pointer (some ⟨w6.heap.size, 5, none⟩), .int .i64 ↑p, .pointer (some ⟨w6.heap.size, 5, none⟩), .int .i64 ↑p, .int .i64 ↑N, .int .i64 (↑p + ↑N), .slice As N cs, .agg #[.int .i64 0, .slice As N cs], .nilIface, .bool false, .tuple #[.slice none 0 0, .bool false], .pointer (some ⟨g, 0, none⟩), .tuple #[.slice none 0 0, .bool false], .slice none 0 0, .bool false, .bool false, .bool true, .bool true, .int .i64 ↑K, .slice (some ⟨b2, o2, none⟩) n2 c2, .int .i64 ↑n2, .bool true, .bool true, .bool true, .slice (some ⟨b2, o2, none⟩) n2 c2, .int .i64 ↑K, .pointer (some ⟨b2, o2 + K, none⟩), .bool true, .bool true, .agg (headL (sumP xs) n).toArray, .pointer (some ⟨g, 0, none⟩), .string TX, .pointer (some ⟨g9, 0, none⟩), undef, undef, undef, undef, undef, undef, undef, undef, undef, undef, undef, undef, undef], defers := [] }) ?_ ?_
                · refine rg_start (Below w8.heap.size w8) (by kernel_rfl) (Below.refl _ _).drew (fun h0 => ?_)
                  refine rg_read 0 (oi := { dst := some 97, op := Op.load 33 (Operand.tmp 8), type := 33, pos := "more.go:34", after := #[], guard := none }) (.agg (headL (sumP xs) n).toArray) ({ tmps := #[.int .u16 a0, .slice A1 n1 c1, .slice (some ⟨b2, o2, none⟩) n2 c2, undef, undef, undef, u6, .slice (some ⟨mb, 0, none⟩) n n, .pointer (some ⟨rb, 0, none⟩), .pointer (some ⟨g, 0, none⟩), .int .i64 ↑K, .pointer (some ⟨w6.heap.size, 0, none⟩), .bool true, .int .i64 ↑N, .slice none 0 0, .bool false, undef, undef, .bool true, .bool false, .slice A1 n1 c1, .int .i64 ↑n1, .bool false, .bool false, .slice (some ⟨b2, o2, none⟩) n2 c2, .int .i64 ↑n2, .slice A1 n1 c1, .int .i64 ↑n1, .bool false, .bool false, .int .u16 a0, .int .u16 ↑n, .int .i64 ↑n, .slice (some ⟨mb, 0, none⟩) n n, .slice (some ⟨mb, 0, none⟩) n n, .agg (headL (sumP xs) ↑n).toArray, .agg (headL (sumP xs) ↑n).toArray, .pointer (some ⟨g0, 0, none⟩), u38, u39, .tuple #[.agg #[.string { data := #[97] }, .int .i64 1, .int .i64 0, .int .i64 0, .slice none 0 0, .int .i64 ↑p, .int .i64 ↑N], .bool true], .pointer (some ⟨g, 0, none⟩), .tuple #[.agg #[.string { data := #[97] }, .int .i64 1, .int .i64 0, .int .i64 0, .slice none 0 0, .int .i64 ↑p, .int .i64 ↑N], .bool true], .agg #[.string { data := #[97] }, .int .i64 1, .int .i64 0, .int .i64 0, .slice none 0 0, .int .i64 ↑p, .int .i64 ↑N], .bool true, .bool true, .bool false, .pointer (some ⟨w6.heap.size, 6, none⟩), .int .i64 ↑N, .int .i64 ↑K, .slice A1 n1 c1, .int .i64 ↑n1, .bool false, .bool false, undef, undef, undef, .bool false, u58, u59, u60, u61, u62, u63, u64, u65, .pointer (some ⟨g, 0, none⟩), .slice (some ⟨mb, 0, none⟩) n n, .pointer (some ⟨w6.heap.size, 5, none⟩), .int .i64 ↑p, .pointer (some ⟨w6.heap.size, 5, none⟩), .int .i64 ↑p, .int .i64 ↑N, .int .i64 (↑p + ↑N), .slice As N cs, .agg #[.int .i64 0, .slice As N cs], .nilIface, .bool false, .tuple #[.slice none 0 0, .bool false], .pointer (some ⟨g, 0, none⟩), .tuple #[.slice none 0 0, .bool false], .slice none 0 0, .bool false, .bool false, .bool true, .bool true, .int .i64 ↑K, .slice (some ⟨b2, o2, none⟩) n2 c2, .int .i64 ↑n2, .bool true, .bool true, .bool true, .slice (some ⟨b2, o2, none⟩) n2 c2, .int .i64 ↑K, .pointer (some ⟨b2, o2 + K, none⟩), .bool true, .bool true, .agg (headL (sumP xs) n).toArray, u98, u99, u100, undef, undef, undef, undef, undef, undef, undef, undef, undef, undef, undef, undef, undef], defers := [] }) rfl (by kernel_rfl) (by kernel_rfl) (by kernel_rfl) (by kernel_rfl) (fun W hW => ex_loadRow _ _ 33 (.tmp 8) rfl rb 0 (by kernel_rfl) (headL (sumP xs) n) _ Try.underlying33 rfl HinF.out W (range_below hW hrb8 Hrg.out)) (by kernel_rfl) h0 ?_
                  refine rg_pure 1 (oi := { dst := some 98, op := Op.move (Operand.tmp 9), type := 35, pos := "more.go:34", after := #[], guard := none }) (.pointer (some ⟨g, 0, none⟩)) ({ tmps := #[.int .u16 a0, .slice A1 n1 c1, .slice (some ⟨b2, o2, none⟩) n2 c2, undef, undef, undef, u6, .slice (some ⟨mb, 0, none⟩) n n, .pointer (some ⟨rb, 0, none⟩), .pointer (some ⟨g, 0, none⟩), .int .i64 ↑K, .pointer (some ⟨w6.heap.size, 0, none⟩), .bool true, .int .i64 ↑N, .slice none 0 0, .bool false, undef, undef, .bool true, .bool false, .slice A1 n1 c1, .int .i64 ↑n1, .bool false, .bool false, .slice (some ⟨b2, o2, none⟩) n2 c2, .int .i64 ↑n2, .slice A1 n1 c1, .int .i64 ↑n1, .bool false, .bool false, .int .u16 a0, .int .u16 ↑n, .int .i64 ↑n, .slice (some ⟨mb, 0, none⟩) n n, .slice (some ⟨mb, 0, none⟩) n n, .agg (headL (sumP xs) ↑n).toArray, .agg (headL (sumP xs) ↑n).toArray, .pointer (some ⟨g0, 0, none⟩), u38, u39, .tuple #[.agg #[.string { data := #[97] }, .int .i64 1, .int .i64 0, .int .i64 0, .slice none 0 0, .int .i64 ↑p, .int .i64 ↑N], .bool true], .pointer (some ⟨g, 0, none⟩), .tuple #[.agg #[.string { data := #[97] }, .int .i64 1, .int .i64 0, .int .i64 0, .slice none 0 0, .int .i64 ↑p, .int .i64 ↑N], .bool true], .agg #[.string { data := #[97] }, .int .i64 1, .int .i64 0, .int .i64 0, .slice none 0 0, .int .i64 ↑p, .int .i64 ↑N], .bool true, .bool true, .bool false, .pointer (some ⟨w6.heap.size, 6, none⟩), .int .i64 ↑N, .int .i64 ↑K, .slice A1 n1 c1, .int .i64 ↑n1, .bool false, .bool false, undef, undef, undef, .bool false, u58, u59, u60, u61, u62, u63, u64, u65, .pointer (some ⟨g, 0, none⟩), .slice (some ⟨mb, 0, none⟩) n n, .pointer (some ⟨w6.heap.size, 5, none⟩), .int .i64 ↑p, .pointer (some ⟨w6.heap.size, 5, none⟩), .int .i64 ↑p, .int .i64 ↑N, .int .i64 (↑p + ↑N), .slice As N cs, .agg #[.int .i64 0, .slice As N cs], .nilIface, .bool false, .tuple #[.slice none 0 0, .bool false], .pointer (some ⟨g, 0, none⟩), .tuple #[.slice none 0 0, .bool false], .slice none 0 0, .bool false, .bool false, .bool true, .bool true, .int .i64 ↑K, .slice (some ⟨b2, o2, none⟩) n2 c2, .int .i64 ↑n2, .bool true, .bool true, .bool true, .slice (some ⟨b2, o2, none⟩) n2 c2, .int .i64 ↑K, .pointer (some ⟨b2, o2 + K, none⟩), .bool true, .bool true, .agg (headL (sumP xs) n).toArray, .pointer (some ⟨g, 0, none⟩), u99, u100, undef, undef, undef, undef, undef, undef, undef, undef, undef, undef, undef, undef, undef], defers := [] }) rfl (by kernel_rfl) (by kernel_rfl) (by kernel_rfl) (by kernel_rfl) (fun _ => by kernel_rfl) (by kernel_rfl) h0 ?_
                  refine rg_one 2 (oi := { dst := some 99, op := Op.call { callee := Callee.value (Operand.func 19), args := #[Operand.tmp 98], argTypes := #[35] }, type := 9, pos := "more.go:34", after := #[{ on := 1, ground := Ground.data }], guard := none }) (by kernel_rfl) rfl (by kernel_rfl) ?_
                  refine op_call (v := .string TX) (f := 19) (args := #[.pointer (some ⟨g, 0, none⟩)]) ({ tmps := #[.int .u16 a0, .slice A1 n1 c1, .slice (some ⟨b2, o2, none⟩) n2 c2, undef, undef, undef, u6, .slice (some ⟨mb, 0, none⟩) n n, .pointer (some ⟨rb, 0, none⟩), .pointer (some ⟨g, 0, none⟩), .int .i64 ↑K, .pointer (some ⟨w6.heap.size, 0, none⟩), .bool true, .int .i64 ↑N, .slice none 0 0, .bool false, undef, undef, .bool true, .bool false, .slice A1 n1 c1, .int .i64 ↑n1, .bool false, .bool false, .slice (some ⟨b2, o2, none⟩) n2 c2, .int .i64 ↑n2, .slice A1 n1 c1, .int .i64 ↑n1, .bool false, .bool false, .int .u16 a0, .int .u16 ↑n, .int .i64 ↑n, .slice (some ⟨mb, 0, none⟩) n n, .slice (some ⟨mb, 0, none⟩) n n, .agg (headL (sumP xs) ↑n).toArray, .agg (headL (sumP xs) ↑n).toArray, .pointer (some ⟨g0, 0, none⟩), u38, u39, .tuple #[.agg #[.string { data := #[97] }, .int .i64 1, .int .i64 0, .int .i64 0, .slice none 0 0, .int .i64 ↑p, .int .i64 ↑N], .bool true], .pointer (some ⟨g, 0, none⟩), .tuple #[.agg #[.string { data := #[97] }, .int .i64 1, .int .i64 0, .int .i64 0, .slice none 0 0, .int .i64 ↑p, .int .i64 ↑N], .bool true], .agg #[.string { data := #[97] }, .int .i64 1, .int .i64 0, .int .i64 0, .slice none 0 0, .int .i64 ↑p, .int .i64 ↑N], .bool true, .bool true, .bool false, .pointer (some ⟨w6.heap.size, 6, none⟩), .int .i64 ↑N, .int .i64 ↑K, .slice A1 n1 c1, .int .i64 ↑n1, .bool false, .bool false, undef, undef, undef, .bool false, u58, u59, u60, u61, u62, u63, u64, u65, .pointer (some ⟨g, 0, none⟩), .slice (some ⟨mb, 0, none⟩) n n, .pointer (some ⟨w6.heap.size, 5, none⟩), .int .i64 ↑p, .pointer (some ⟨w6.heap.size, 5, none⟩), .int .i64 ↑p, .int .i64 ↑N, .int .i64 (↑p + ↑N), .slice As N cs, .agg #[.int .i64 0, .slice As N cs], .nilIface, .bool false, .tuple #[.slice none 0 0, .bool false], .pointer (some ⟨g, 0, none⟩), .tuple #[.slice none 0 0, .bool false], .slice none 0 0, .bool false, .bool false, .bool true, .bool true, .int .i64 ↑K, .slice (some ⟨b2, o2, none⟩) n2 c2, .int .i64 ↑n2, .bool true, .bool true, .bool true, .slice (some ⟨b2, o2, none⟩) n2 c2, .int .i64 ↑K, .pointer (some ⟨b2, o2 + K, none⟩), .bool true, .bool true, .agg (headL (sumP xs) n).toArray, .pointer (some ⟨g, 0, none⟩), .string TX, u100, undef, undef, undef, undef, undef, undef, undef, undef, undef, undef, undef, undef, undef], defers := [] }) (by kernel_rfl) Hby.out (by kernel_rfl) ?_
                  intro W2 h2
                  have g2 := h0.trans (h2.mono (Nat.le_refl _))
                  refine ⟨g2, ?_⟩
                  refine rg_one 3 (oi := { dst := some 100, op := Op.call { callee := Callee.value (Operand.func 16), args := #[Operand.tmp 97, Operand.tmp 99], argTypes := #[33, 9] }, type := 35, pos := "more.go:34", after := #[{ on := 0, ground := Ground.data }, { on := 2, ground := Ground.data }, { on := 2, ground := Ground.chain }], guard := none }) (by kernel_rfl) rfl (by kernel_rfl) ?_
                  refine op_callE (R := (fun v w' => ∃ g9, v = .pointer (some ⟨g9, 0, none⟩) ∧ W2.heap.size ≤ g9 ∧ St w' g9 (sumP xs) n (openF (byteL TX) (sumP xs) n).1 (openF (byteL TX) (sumP xs) n).2.1 (openF (byteL TX) (sumP xs) n).2.2.1 (openF (byteL TX) (sumP xs) n).2.2.2 false ∧ Below W2.heap.size W2 w')) (f := 16) (args := #[.agg (headL (sumP xs) n).toArray, .string TX]) (fun vp => { tmps := #[.int .u16 a0, .slice A1 n1 c1, .slice (some ⟨b2, o2, none⟩) n2 c2, undef, undef, undef, u6, .slice (some ⟨mb, 0, none⟩) n n, .pointer (some ⟨rb, 0, none⟩), .pointer (some ⟨g, 0, none⟩), .int .i64 ↑K, .pointer (some ⟨w6.heap.size, 0, none⟩), .bool true, .int .i64 ↑N, .slice none 0 0, .bool false, undef, undef, .bool true, .bool false, .slice A1 n1 c1, .int .i64 ↑n1, .bool false, .bool false, .slice (some ⟨b2, o2, none⟩) n2 c2, .int .i64 ↑n2, .slice A1 n1 c1, .int .i64 ↑n1, .bool false, .bool false, .int .u16 a0, .int .u16 ↑n, .int .i64 ↑n, .slice (some ⟨mb, 0, none⟩) n n, .slice (some ⟨mb, 0, none⟩) n n, .agg (headL (sumP xs) ↑n).toArray, .agg (headL (sumP xs) ↑n).toArray, .pointer (some ⟨g0, 0, none⟩), u38, u39, .tuple #[.agg #[.string { data := #[97] }, .int .i64 1, .int .i64 0, .int .i64 0, .slice none 0 0, .int .i64 ↑p, .int .i64 ↑N], .bool true], .pointer (some ⟨g, 0, none⟩), .tuple #[.agg #[.string { data := #[97] }, .int .i64 1, .int .i64 0, .int .i64 0, .slice none 0 0, .int .i64 ↑p, .int .i64 ↑N], .bool true], .agg #[.string { data := #[97] }, .int .i64 1, .int .i64 0, .int .i64 0, .slice none 0 0, .int .i64 ↑p, .int .i64 ↑N], .bool true, .bool true, .bool false, .pointer (some ⟨w6.heap.size, 6, none⟩), .int .i64 ↑N, .int .i64 ↑K, .slice A1 n1 c1, .int .i64 ↑n1, .bool false, .bool false, undef, undef, undef, .bool false, u58, u59, u60, u61, u62, u63, u64, u65, .pointer (some ⟨g, 0, none⟩), .slice (some ⟨mb, 0, none⟩) n n, .pointer (some ⟨w6.heap.size, 5, none⟩), .int .i64 ↑p, .pointer (some ⟨w6.heap.size, 5, none⟩), .int .i64 ↑p, .int .i64 ↑N, .int .i64 (↑p + ↑N), .slice As N cs, .agg #[.int .i64 0, .slice As N cs], .nilIface, .bool false, .tuple #[.slice none 0 0, .bool false], .pointer (some ⟨g, 0, none⟩), .tuple #[.slice none 0 0, .bool false], .slice none 0 0, .bool false, .bool false, .bool true, .bool true, .int .i64 ↑K, .slice (some ⟨b2, o2, none⟩) n2 c2, .int .i64 ↑n2, .bool true, .bool true, .bool true, .slice (some ⟨b2, o2, none⟩) n2 c2, .int .i64 ↑K, .pointer (some ⟨b2, o2 + K, none⟩), .bool true, .bool true, .agg (headL (sumP xs) n).toArray, .pointer (some ⟨g, 0, none⟩), .string TX, vp, undef, undef, undef, undef, undef, undef, undef, undef, undef, undef, undef, undef, undef], defers := [] }) (by kernel_rfl) ((open_any (sumP xs) n TX W2 (sumP_len xs) Htx.out).mono fun e w' h => by obtain ⟨g9, q1, q2⟩ := h; exact ⟨_, q1, g9, rfl, q2⟩) (fun _ => by kernel_rfl) ?_
                  intro vp W3 h3
                  obtain ⟨g9, rfl, hg9, hS9, hB9⟩ := h3
                  rw [Hop.out] at hS9
                  have g3 := g2.trans (hB9.mono g2.size)
                  refine ⟨g3, ?_⟩
                  refine rg_pure 4 (oi := { dst := some 9, op := Op.assign (Operand.tmp 100), type := 35, pos := "more.go:34", after := #[{ on := 3, ground := Ground.data }, { on := 3, ground := Ground.chain }, { on := 0, ground := Ground.phase }, { on := 1, ground := Ground.phase }, { on := 2, ground := Ground.phase }, { on := 3, ground := Ground.phase }], guard := none }) (.pointer (some ⟨g9, 0, none⟩)) ({ tmps := #[.int .u16 a0, .slice A1 n1 c1, .slice (some ⟨b2, o2, none⟩) n2 c2, undef, undef, undef, u6, .slice (some ⟨mb, 0, none⟩) n n, .pointer (some ⟨rb, 0, none⟩), .pointer (some ⟨g9, 0, none⟩), .int .i64 ↑K, .pointer (some ⟨w6.heap.size, 0, none⟩), .bool true, .int .i64 ↑N, .slice none 0 0, .bool false, undef, undef, .bool true, .bool false, .slice A1 n1 c1, .int .i64 ↑n1, .bool false, .bool false, .slice (some ⟨b2, o2, none⟩) n2 c2, .int .i64 ↑n2, .slice A1 n1 c1, .int .i64 ↑n1, .bool false, .bool false, .int .u16 a0, .int .u16 ↑n, .int .i64 ↑n, .slice (some ⟨mb, 0, none⟩) n n, .slice (some ⟨mb, 0, none⟩) n n, .agg (headL (sumP xs) ↑n).toArray, .agg (headL (sumP xs) ↑n).toArray, .pointer (some ⟨g0, 0, none⟩), u38, u39, .tuple #[.agg #[.string { data := #[97] }, .int .i64 1, .int .i64 0, .int .i64 0, .slice none 0 0, .int .i64 ↑p, .int .i64 ↑N], .bool true], .pointer (some ⟨g, 0, none⟩), .tuple #[.agg #[.string { data := #[97] }, .int .i64 1, .int .i64 0, .int .i64 0, .slice none 0 0, .int .i64 ↑p, .int .i64 ↑N], .bool true], .agg #[.string { data := #[97] }, .int .i64 1, .int .i64 0, .int .i64 0, .slice none 0 0, .int .i64 ↑p, .int .i64 ↑N], .bool true, .bool true, .bool false, .pointer (some ⟨w6.heap.size, 6, none⟩), .int .i64 ↑N, .int .i64 ↑K, .slice A1 n1 c1, .int .i64 ↑n1, .bool false, .bool false, undef, undef, undef, .bool false, u58, u59, u60, u61, u62, u63, u64, u65, .pointer (some ⟨g, 0, none⟩), .slice (some ⟨mb, 0, none⟩) n n, .pointer (some ⟨w6.heap.size, 5, none⟩), .int .i64 ↑p, .pointer (some ⟨w6.heap.size, 5, none⟩), .int .i64 ↑p, .int .i64 ↑N, .int .i64 (↑p + ↑N), .slice As N cs, .agg #[.int .i64 0, .slice As N cs], .nilIface, .bool false, .tuple #[.slice none 0 0, .bool false], .pointer (some ⟨g, 0, none⟩), .tuple #[.slice none 0 0, .bool false], .slice none 0 0, .bool false, .bool false, .bool true, .bool true, .int .i64 ↑K, .slice (some ⟨b2, o2, none⟩) n2 c2, .int .i64 ↑n2, .bool true, .bool true, .bool true, .slice (some ⟨b2, o2, none⟩) n2 c2, .int .i64 ↑K, .pointer (some ⟨b2, o2 + K, none⟩), .bool true, .bool true, .agg (headL (sumP xs) n).toArray, .pointer (some ⟨g, 0, none⟩), .string TX, .pointer (some ⟨g9, 0, none⟩), undef, undef, undef, undef, undef, undef, undef, undef, undef, undef, undef, undef, undef], defers := [] }) rfl (by kernel_rfl) (by kernel_rfl) (by kernel_rfl) (by kernel_rfl) (fun _ => by kernel_rfl) (by kernel_rfl) g3 ?_
                  refine rg_done (by kernel_rfl) ⟨rfl, ?_⟩ _
                  exact ⟨g3, g9, Nat.le_trans g2.size hg9, hS9, rfl⟩
                · rintro a' W ⟨hBW, g9, hg9, hS9, rfl⟩
                  have hB9 : Below w4.heap.size w5 W := HB8.out.trans (hBW.mono (Nat.le_trans hg (Nat.le_of_lt HS8'.out.lt)))
                  have HS9 := keep hS9
                  have HB9 := keep hB9
                  clear hS9 hB9 hBW
                  go_wp2_with fail
                  go_roundw
                  case rel => exact ⟨g9, p + (N), fb, K + 1, rfl, by go_num, ⟨by omega, by omega, hfbl, by omega⟩, Nat.le_trans hg (Nat.le_trans (Nat.le_of_lt HS8'.out.lt) hg9), by rw [hdf]; exact HS9.out, HB9.out⟩
                  case measure => simp [intOf]; omega
            · have ta : decide ((K : Int) < (n2 : Int)) = false := by simp; omega
              go_wp2_with fail
              go_roundw
              case rel => exact ⟨g, p + (N), fb, K + 1, rfl, by go_num, ⟨by omega, by omega, hfbl, by omega⟩, hg, by rw [hdf]; exact HS8'.out, HB8.out⟩
              case measure => simp [intOf]; omega
--]REG
end Go.Proofs.Ytmfgcdfemhaieaa
