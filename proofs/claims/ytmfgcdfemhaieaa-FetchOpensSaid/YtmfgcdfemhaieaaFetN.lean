/- An archive is had, with fewer faulty replies in a row than Retries: the walk. -/
import Derived.Test.YtmfgcdfemhaieaaFetM
import Derived.StillTailTactics
namespace Go.Proofs.Ytmfgcdfemhaieaa
open Go.RowKit

theorem ex_index {P : Program} {a : Act} {o : Oper} (t : TypeId) (x y : Operand) (ho : o.op = .indexAddr t x y) (b off n c k : Nat) (hx : a.eval x = .slice (some ⟨b, off, none⟩) n c) (hy : a.eval y = .int .i64 (k : Int)) (hk : k < n) (hsz : ∃ e, P.underlying t = some (.slice e) ∧ (P.info? e).map (·.size) = some 1) (W : World) :
    (execOp a.eval o).run P W = .ok (.value (.pointer (some ⟨b, off + k, none⟩))) W := by
  obtain ⟨e, ht, hsz⟩ := hsz
  obtain ⟨i, hi, hs⟩ := Option.map_eq_some_iff.1 hsz
  have hel : P.elem t = e := by simp [Program.elem, ht]
  have hk' : (k : Int) < (n : Int) := by omega
  unfold execOp
  simp only [ho, hx, hy, Sem.run_bind]
  rw [run_indexAt_slice (h := by rw [hel]; exact ht), if_pos ⟨by omega, hk'⟩, hel]
  have hadd : ∀ x : Addr, x.spot = none → x.add k = ⟨x.block, x.off + k, none⟩ := fun x hx => by
    obtain ⟨b, o, s⟩ := x
    simp only at hx
    subst hx
    unfold Addr.add
    split <;> simp_all
  simp [sizeOf, typeInfo, hi, hs, Result.andThen, hadd]
theorem setRow_other' {w : World} {g k : Nat} (cs : Array Value) (h : k ≠ g) : (w.setRow g cs).heap[k]? = w.heap[k]? := setRow_other _ _ _ _ h
theorem setRow_st {w : World} {g k : Nat} {sum : List Int} {size : Int} {bytes : List Int} {fa sp : Int} {dn fl : Bool} {old cs : Array Value} {t : TypeId} (h : St w g sum size bytes fa sp dn fl) (hk : k ≠ g) (hr : w.drew.heap[k]? = some (.cells old t (0, 0))) (ht : t ≠ 5) : St (w.drew.setRow k cs) g sum size bytes fa sp dn fl := by
  obtain ⟨v, hF, hO⟩ := h.st
  refine ⟨⟨v, hF.kept ?_, ?_⟩⟩
  · rw [setRow_other _ _ _ _ (fun e => hk e.symm)]
    rfl
  · refine hO.drew.grown (row := some k) ⟨rfl, rfl, rfl, by simp, fun j _ hj => setRow_other _ _ _ _ (fun e => hj (by rw [e]))⟩ ?_
    rcases hO.out.2 with ⟨rfl, _⟩ | ⟨b, cap, cur, fz, rfl, _, hh, _⟩
    · exact .inl rfl
    · right
      intro e
      have : b = k := by simpa [Value.ownBlock] using e
      subst this
      have hh' : w.drew.heap[b]? = some (.cells cur 5 fz) := hh
      rw [hr] at hh'
      injection hh' with hh'
      injection hh' with _ h2 _
      exact ht h2
/-- What holds at a round's head: p bytes are there. -/
structure Rnd (n p fa I B F K : Nat) : Prop where
  pn : p ≤ n
  n7 : n < 700
  faI : fa ≤ I
  I3 : I ≤ 3
  B60 : B ≤ 60
  BK : B ≤ K
  FB : K = F + B
  F64 : 64 * F ≤ p + 63
  F0 : p < n → 64 * F ≤ p
theorem take_more {xs : List Int} (p N : Nat) : xs.take p ++ (xs.drop p).take N = xs.take (p + N) := by rw [List.take_add]
--[REG
set_option maxRecDepth 100000 in
set_option maxHeartbeats 2000000 in
theorem served_walk (a0 : Int) (A1 : Option Addr) (n1 c1 : Nat) (zs : List Int) (w : World) (h0 : 0 ≤ a0) (h1 : a0 ≤ 65535) (hz : zs.length = n1) (HZ : RdI w w.heap.size .u8 A1 zs) (hzb : ∀ i, 0 ≤ zs.getD i 0 ∧ zs.getD i 0 ≤ 255) :
    Calls Try.prog 3 #[.int .u16 a0, .slice A1 n1 c1] w fun e w' => e = .returned (.bool true) ∧ Below w.heap.size w w' := by
  have hk := known_any w
  have Hz := keep hz
  have Hzb := keep hzb
  clear hz hzb
  go_enter Try.func3, Try.ntmps3
  go_wp2_with fail
  refine hk.mono ?_
  rintro e w1 ⟨rfl, hB1⟩
  clear hk
  by_cases hlen : 60 < n1
  · have ht : decide ((60 : Int) < (n1 : Int)) = true := by simp; omega
    go_wp2_with fail
    go_ret
    exact ⟨rfl, hB1⟩
  · have ht : decide ((60 : Int) < (n1 : Int)) = false := by simp; omega
    obtain ⟨n, hn⟩ : ∃ n : Nat, a0 % 700 = n := ⟨(a0 % 700).toNat, by omega⟩
    have hn7 : n < 700 := by omega
    have hn0 : 0 ≤ (n : Int) := by omega
    have hmk := made_any n w1 (by omega)
    unfold MadePost at hmk
    obtain ⟨xs, hxs⟩ : ∃ xs, madeTo n n = xs := ⟨_, rfl⟩
    have hxl : xs.length = n := by rw [← hxs, madeTo_length]
    rw [hxs] at hmk
    have Hxl := keep hxl
    clear hxs hxl
    go_wp2_with fail
    refine hmk.mono ?_
    rintro e w2 ⟨rfl, hr2, hB2⟩
    have hb2 := hB1.trans (hB2.mono hB1.size)
    have hz2 := row_lt hr2
    have hmb : w.heap.size ≤ w1.heap.size := hB1.size
    generalize w1.heap.size = mb at hr2 hz2 hmb ⊢
    have hrow := row_any (some ⟨mb, 0, none⟩) n n xs 0 w2 (by omega) (by omega) (by omega) Hxl.out (Nat.le_refl _) (RdI.of_row hr2 hz2)
    have Hr2 := keep hr2
    clear hr2 hmk
    go_wp2_with fail
    refine hrow.mono ?_
    rintro e w3 ⟨rfl, hB3⟩
    have hl0 : lieSum (sumP xs) (0 % 6) = sumP xs := rfl
    have hs0 : lieSize n (0 % 6) = n := rfl
    rw [hl0, hs0]
    have hb3 := hb2.trans (hB3.mono hb2.size)
    have hr3 : w3.heap[mb]? = some (.cells (bys xs) 5 (0, 0)) := by rw [hB3.block _ hz2]; exact Hr2.out
    have Hsz : Keep ((headL (sumP xs) n).toArray.size = 39) := ⟨headL_length (sumP_len xs)⟩
    have HinF : Keep ((Try.prog.info? 33).map (·.size) = some (headL (sumP xs) n).toArray.size) := ⟨by rw [Hsz.out]; kernel_rfl⟩
    clear hrow hl0 hs0
    have hz3 := row_lt hr3
    have Hr3 := keep hr3
    clear hr3
    go_wp2_with (first | (refine wpList_store_row rfl 33 (.tmp 6) (.tmp 28) rfl w3.heap.size (headL (sumP xs) n).toArray rfl rfl 33 _ (heap_alloc_new w3 _) HinF.out (by rw [Hsz.out]; rfl) (headL_one _ _) ?_; rw [setRow_alloc]) | (refine wpList_load_row rfl 33 (.tmp 6) rfl w3.heap.size rfl 33 (headL (sumP xs) n).toArray (0, 0) _ (heap_alloc_new w3 _) Try.underlying33 rfl HinF.out ?_))
    have hb4 : Below w.heap.size w (w3.alloc (.cells (headL (sumP xs) n).toArray 33)) := hb3.alloc hb3.size _
    have hr4 : (w3.alloc (.cells (headL (sumP xs) n).toArray 33)).heap[mb]? = some (.cells (bys xs) 5 (0, 0)) := by rw [Below.heap_alloc _ _ _ hz3]; exact Hr3.out
    generalize w3.alloc (.cells (headL (sumP xs) n).toArray 33) = w4 at hb4 hr4 ⊢
    have hnew := new_any (sumP xs) n w4 (sumP_len xs) (decide (0 = n)) (by
      by_cases e : 0 = n
      · subst e
        have : xs = [] := List.eq_nil_of_length_eq_zero Hxl.out
        subst this
        simp
      · have : ¬ ((0 : Int) = max (n : Int) 0) := by omega
        simp only [this, e, decide_false, Bool.false_and])
    refine hnew.mono ?_
    rintro e w5 ⟨g, rfl, hg, hF5, hB5⟩
    have hb5 := hb4.trans (hB5.mono hb4.size)
    have hz4 := row_lt hr4
    have hr5 : w5.heap[mb]? = some (.cells (bys xs) 5 (0, 0)) := by rw [hB5.block _ hz4]; exact hr4
    have hmg : mb < g := by omega
    have hS5 : St w5 g (sumP xs) n (xs.take 0) 0 0 (decide (0 = n)) false := ⟨⟨_, hF5, by rw [List.take_zero]; exact OwnB.none_ _ _ _ _⟩⟩
    have Hr5 := keep hr5
    have HS5 := keep hS5
    have HZw := keep HZ
    clear hr4 hr5 hF5 hS5 hnew HZ
    go_wp2_with fail
    go_loopw [8, 9, 10, 11] (fun bad asks k i wr => ∃ p fa I B F K : Nat, Rnd n p fa I B F K ∧ bad = .int .i64 B ∧ asks = .int .i64 K ∧ k = .int .i64 K ∧ i = .int .i64 I ∧ St wr g (sumP xs) n (xs.take p) fa 0 (decide (p = n)) false ∧ Below g w5 wr) (fun _ asks _ _ _ => 100 - (intOf asks).toNat)
    case atStart => exact ⟨0, 0, 0, 0, 0, 0, ⟨by omega, by omega, by omega, by omega, by omega, by omega, rfl, by omega, fun _ => by omega⟩, rfl, rfl, rfl, rfl, by have := HS5.out; simpa [eq_comm] using this, Below.refl _ _⟩
    case round =>
      obtain ⟨p, fa, I, B, F, K, hR, rfl, rfl, rfl, rfl, hS, hBr⟩ := hrel
      obtain ⟨r1, r2, r3, r4, r5, r6, r7, r8, r9⟩ := hR
      have hal : ∀ (W : World) (o : Obj), Below W.heap.size W (W.alloc o) := fun W o => (Below.refl _ _).alloc (Nat.le_refl _) o
      have hrm : wr.heap[mb]? = some (.cells (bys xs) 5 (0, 0)) := by rw [hBr.block _ hmg]; exact Hr5.out
      have hbr : Below w.heap.size w wr := hb5.trans (hBr.mono (by omega))
      have hgr := hS.lt
      obtain ⟨wo, rfl⟩ : ∃ wo : World, wo = wr := ⟨_, rfl⟩
      have Hal := keep hal
      clear hal
      by_cases hpn : p = n
      · subst hpn
        have hxp : xs.take p = xs := List.take_of_length_le (by rw [Hxl.out]; omega)
        rw [hxp] at hS
        obtain ⟨v, hF, hO⟩ := hS.st
        have hov := ask_over wo hF (by simp)
        have HS := keep hS
        have Hrm := keep hrm
        clear hS hF hO hrm hxp
        go_wp2_with fail
        refine hov.mono ?_
        rintro e w6 ⟨rfl, hB6⟩
        unfold askZ
        have hS6 := HS.out.below hB6 (Nat.le_refl _)
        have hr6 := (hB6.block _ (row_lt Hrm.out)).trans Hrm.out
        have hb6 := hbr.trans (hB6.mono hbr.size)
        have hS7 := hS6.below (Hal.out w6 (.cells #[.string ⟨#[]⟩, .int .i64 0, .int .i64 0, .int .i64 0, .slice none 0 0, .int .i64 0, .int .i64 0] 38)) (Nat.le_refl _)
        have hr7 : (w6.alloc (.cells #[.string ⟨#[]⟩, .int .i64 0, .int .i64 0, .int .i64 0, .slice none 0 0, .int .i64 0, .int .i64 0] 38)).heap[mb]? = some (.cells (bys xs) 5 (0, 0)) := by rw [Below.heap_alloc _ _ _ (row_lt hr6)]; exact hr6
        have hb7 := hb6.trans ((Hal.out w6 (.cells #[.string ⟨#[]⟩, .int .i64 0, .int .i64 0, .int .i64 0, .slice none 0 0, .int .i64 0, .int .i64 0] 38)).mono hb6.size)
        have HS7 := keep hS7
        have Hr7 := keep hr7
        have Hb7 := keep hb7
        clear hS6 hr6 hS7 hr7 hb7 hov hb6
        go_wp2_with fail
        generalize w6.alloc (.cells #[.string ⟨#[]⟩, .int .i64 0, .int .i64 0, .int .i64 0, .slice none 0 0, .int .i64 0, .int .i64 0] 38) = w7 at HS7 Hr7 Hb7 ⊢
        have hS7 : St w7 g (sumP xs) p xs fa 0 true false := by have := HS7.out; simpa using this
        refine (done_yes w7 hS7 (by rw [Hxl.out]; omega)).mono ?_
        rintro e w8 ⟨A8, c8, rfl, hc8, hR8, hB8⟩
        have hr8 := (hB8.block _ (row_lt Hr7.out)).trans Hr7.out
        have hb8 := Hb7.out.trans (hB8.mono Hb7.out.size)
        rw [Hxl.out] at hc8 ⊢
        have hv1 := conv_rd w8 23 5 Try.underlying23 Try.underlying5 A8 p c8 w8.heap.size xs Hxl.out hR8 9 Try.underlying9
        have hv2 := conv_rd w8 23 5 Try.underlying23 Try.underlying5 (some ⟨mb, 0, none⟩) p p w8.heap.size xs Hxl.out (RdI.of_row hr8 (row_lt hr8)) 9 Try.underlying9
        generalize strOfNums xs = S at hv1 hv2
        clear hr8 hR8 hS7
        have hcmp : (K : Int) ≤ ((p : Int) + 64 - 1) / 64 + 2 * (B : Int) := by omega
        go_wp2_with fail
        go_ret
        exact ⟨by simp; omega, hb8⟩
      · have hplt : p < n := by omega
        have hdf : decide (p = n) = false := by simp [hpn]
        rw [hdf] at hS
        have hpl : (xs.take p).length = p := by rw [List.length_take, Hxl.out]; omega
        have has := ask_st wo hS (by omega) (by omega)
        rw [hpl] at has
        obtain ⟨N, hN⟩ : ∃ N : Nat, min 64 (max (n : Int) 0 - (p : Int)) = N := ⟨min 64 (n - p), by omega⟩
        have hN1 : 1 ≤ N := by omega
        have hN64 : N ≤ 64 := by omega
        have hpN : p + N ≤ n := by omega
        have hNe : N = 64 ∨ p + N = n := by omega
        rw [hN] at has
        have HN := keep hN
        have HNe := keep hNe
        have Hr7 := keep r7
        have HS := keep hS
        have Hrm := keep hrm
        have Hpl := keep hpl
        have Hpn := keep hpn
        have Hr9 := keep r9
        clear hN hNe r7 hS hrm hpl hdf r9
        have hKb : K ≤ 73 := by have := Hr7.out; omega
        go_wp2_with fail
        refine has.mono ?_
        rintro e w6 ⟨rfl, hB6⟩
        unfold askL
        have hS6 := HS.out.below hB6 (Nat.le_refl _)
        have hr6 := (hB6.block _ (row_lt Hrm.out)).trans Hrm.out
        have hb6 := hbr.trans (hB6.mono hbr.size)
        have hG6 : Below g w5 w6 := hBr.trans (hB6.mono (by omega))
        have HS6 := keep hS6
        have Hr6 := keep hr6
        clear hS6 hr6 has
        have hcellK : K < n1 → ∃ bz oz, A1 = some ⟨bz, oz, none⟩ ∧ bz < w.heap.size ∧ w6.cell? ⟨bz, oz + K, none⟩ = some (.int .u8 (zs.getD K 0)) := by
          intro hK
          obtain ⟨bz, oz, he, hb, hc⟩ := HZw.out.all_ (by rw [Hz.out]; omega)
          exact ⟨bz, oz, he, hb, (hb6.cell (p := ⟨bz, oz + K, none⟩) hb).trans (hc K (by rw [Hz.out]; exact hK))⟩
        obtain ⟨z0, z1⟩ := Hzb.out K
        obtain ⟨f, hf⟩ : ∃ f, zs.getD K 0 = f := ⟨_, rfl⟩
        rw [hf] at hcellK z0 z1
        clear hf
        have hf3 : 0 ≤ f % 3 ∧ f % 3 < 3 := by omega
        by_cases hfault : K < n1 ∧ 0 < f % 3 ∧ I < 3
        · --[FAULT
          obtain ⟨h1, h2, h3⟩ := hfault
          obtain ⟨bz, oz, rfl, hbz, hcz⟩ := hcellK h1
          have hbz6 : bz < w6.heap.size := Nat.lt_of_lt_of_le hbz hb6.size
          have hbz7 : bz < w6.heap.size + 1 := by omega
          have hbne : ¬ bz = w6.heap.size := by omega
          have hbne1 : ¬ bz = w6.heap.size + 1 := by omega
          have t1 : decide ((K : Int) < (n1 : Int)) = true := by simp; omega
          have hr8 : (((w6.alloc (.cells #[.string ⟨#[97]⟩, .int .i64 1, .int .i64 0, .int .i64 0, .slice none 0 0, .int .i64 p, .int .i64 N] 38)).alloc (.cells #[.int .u8 0, .int .u8 0, .int .i64 0, .slice none 0 0] 44))).heap[mb]? = some (.cells (bys xs) 5 (0, 0)) := by
            rw [Below.heap_alloc _ _ _ (by have := row_lt Hr6.out; simp; omega), Below.heap_alloc _ _ _ (row_lt Hr6.out)]
            exact Hr6.out
          have hb8 : Below w.heap.size w (((w6.alloc (.cells #[.string ⟨#[97]⟩, .int .i64 1, .int .i64 0, .int .i64 0, .slice none 0 0, .int .i64 p, .int .i64 N] 38)).alloc (.cells #[.int .u8 0, .int .u8 0, .int .i64 0, .slice none 0 0] 44))) := (hb6.alloc hb6.size _).alloc (by have := hb6.size; simp; omega) _
          have hS8 := (HS6.out.below (Hal.out w6 (.cells #[.string ⟨#[97]⟩, .int .i64 1, .int .i64 0, .int .i64 0, .slice none 0 0, .int .i64 p, .int .i64 N] 38)) (Nat.le_refl _)).below (Hal.out (w6.alloc (.cells #[.string ⟨#[97]⟩, .int .i64 1, .int .i64 0, .int .i64 0, .slice none 0 0, .int .i64 p, .int .i64 N] 38)) (.cells #[.int .u8 0, .int .u8 0, .int .i64 0, .slice none 0 0] 44)) (Nat.le_refl _)
          have hG8 : Below g w5 (((w6.alloc (.cells #[.string ⟨#[97]⟩, .int .i64 1, .int .i64 0, .int .i64 0, .slice none 0 0, .int .i64 p, .int .i64 N] 38)).alloc (.cells #[.int .u8 0, .int .u8 0, .int .i64 0, .slice none 0 0] 44))) := (hG6.alloc (by have := HS6.out.lt; omega) _).alloc (by have := HS6.out.lt; simp; omega) _
          have hk8 : (((w6.alloc (.cells #[.string ⟨#[97]⟩, .int .i64 1, .int .i64 0, .int .i64 0, .slice none 0 0, .int .i64 p, .int .i64 N] 38)).alloc (.cells #[.int .u8 0, .int .u8 0, .int .i64 0, .slice none 0 0] 44))).heap[w6.heap.size + 1]? = some (.cells #[.int .u8 0, .int .u8 0, .int .i64 0, .slice none 0 0] 44 (0, 0)) := heap_alloc2 w6 _ _
          have hj8 : (((w6.alloc (.cells #[.string ⟨#[97]⟩, .int .i64 1, .int .i64 0, .int .i64 0, .slice none 0 0, .int .i64 p, .int .i64 N] 38)).alloc (.cells #[.int .u8 0, .int .u8 0, .int .i64 0, .slice none 0 0] 44))).heap[w6.heap.size]? = some (.cells #[.string ⟨#[97]⟩, .int .i64 1, .int .i64 0, .int .i64 0, .slice none 0 0, .int .i64 p, .int .i64 N] 38 (0, 0)) := (Below.heap_alloc _ _ _ (by simp)).trans (heap_alloc_new w6 _)
          have hc8 : (((w6.alloc (.cells #[.string ⟨#[97]⟩, .int .i64 1, .int .i64 0, .int .i64 0, .slice none 0 0, .int .i64 p, .int .i64 N] 38)).alloc (.cells #[.int .u8 0, .int .u8 0, .int .i64 0, .slice none 0 0] 44))).cell? ⟨bz, oz + K, none⟩ = some (.int .u8 f) := (((Hal.out w6 (.cells #[.string ⟨#[97]⟩, .int .i64 1, .int .i64 0, .int .i64 0, .slice none 0 0, .int .i64 p, .int .i64 N] 38)).trans ((Hal.out (w6.alloc (.cells #[.string ⟨#[97]⟩, .int .i64 1, .int .i64 0, .int .i64 0, .slice none 0 0, .int .i64 p, .int .i64 N] 38)) (.cells #[.int .u8 0, .int .u8 0, .int .i64 0, .slice none 0 0] 44)).mono (by simp))).cell (p := ⟨bz, oz + K, none⟩) hbz6).trans hcz
          have Hr8 := keep hr8
          have Hb8 := keep hb8
          have HS8 := keep hS8
          have HG8 := keep hG8
          have Hk8 := keep hk8
          have Hj8 := keep hj8
          have Hc8 := keep hc8
          clear hr8 hb8 hS8 hG8 hk8 hj8 hc8 hBr hB6
          have hKi : (0 : Int) ≤ (K : Int) := by omega
          have hKj : (K : Int) < (n1 : Int) := by omega
          have Hw5 : Keep (IntKind.u8.wrap (4 + f % 3) = 4 + f % 3) := ⟨by rw [IntKind.wrap_u8]; omega⟩
          have Htm : Keep (Int.tmod f 3 = f % 3) := ⟨Int.tmod_eq_emod_of_nonneg z0⟩
          have Htm2 : Keep (Int.tmod f 40 = f % 40) := ⟨Int.tmod_eq_emod_of_nonneg z0⟩
          go_wp2_with fail
          have hKn : K < n1 := by omega
          have hnm : mb < w6.heap.size := row_lt Hr6.out
          have hgm : g < w6.heap.size := HS6.out.lt
          have hwm := hb6.size
          generalize ((w6.alloc (.cells #[.string ⟨#[97]⟩, .int .i64 1, .int .i64 0, .int .i64 0, .slice none 0 0, .int .i64 p, .int .i64 N] 38)).alloc (.cells #[.int .u8 0, .int .u8 0, .int .i64 0, .slice none 0 0] 44)) = w8 at Hr8 Hb8 HS8 HG8 Hk8 Hj8 Hc8 ⊢
          have hk8d : w8.drew.heap[w6.heap.size + 1]? = some (.cells #[.int .u8 0, .int .u8 0, .int .i64 0, .slice none 0 0] 44 (0, 0)) := Hk8.out
          refine rg_start (fun W => W.cell? ⟨bz, oz + K, none⟩ = some (.int .u8 f)) (by kernel_rfl) Hc8.out (fun h0 => ?_)
          refine rg_pure 0 (oi := { dst := some 59, op := Op.move (Operand.tmp 1), type := 23, pos := "law.go:168", after := #[], guard := none }) (.slice (some ⟨bz, oz, none⟩) n1 c1) _ rfl (by kernel_rfl) (by kernel_rfl) (by kernel_rfl) (by kernel_rfl) (fun _ => by kernel_rfl) rfl h0 ?_
          refine rg_pure 1 (oi := { dst := some 60, op := Op.move (Operand.tmp 10), type := 3, pos := "law.go:168", after := #[], guard := none }) (.int .i64 (K : Int)) _ rfl (by kernel_rfl) (by kernel_rfl) (by kernel_rfl) (by kernel_rfl) (fun _ => by kernel_rfl) rfl h0 ?_
          refine rg_pure 2 (oi := { dst := some 61, op := Op.indexAddr 23 (Operand.tmp 59) (Operand.tmp 60), type := 0, pos := "law.go:168", after := #[{ on := 0, ground := Ground.data }, { on := 1, ground := Ground.data }], guard := none }) (.pointer (some ⟨bz, oz + K, none⟩)) _ rfl (by kernel_rfl) (by kernel_rfl) (by kernel_rfl) (by kernel_rfl) (fun W => ex_index (a := _) (o := _) 23 (.tmp 59) (.tmp 60) rfl bz oz n1 c1 K (by kernel_rfl) (by kernel_rfl) hKn ⟨5, Try.underlying23, by kernel_rfl⟩ W) rfl h0 ?_
          refine rg_read 3 (oi := { dst := some 62, op := Op.load 5 (Operand.tmp 61), type := 5, pos := "law.go:168", after := #[{ on := 2, ground := Ground.data }], guard := none }) (.int .u8 f) _ rfl (by kernel_rfl) (by kernel_rfl) (by kernel_rfl) (by kernel_rfl) (fun W hW => ex_load1 _ _ 5 (.tmp 61) rfl ⟨bz, oz + K, none⟩ (by kernel_rfl) W (by kernel_rfl) _ hW) rfl h0 ?_
          refine rg_pure 4 (oi := { dst := some 63, op := Op.binOp BinOp.rem 5 (Operand.tmp 62) (Operand.const (Value.int IntKind.u8 3)) 5, type := 5, pos := "law.go:168", after := #[{ on := 3, ground := Ground.data }], guard := none }) (.int .u8 (f % 3)) _ rfl (by kernel_rfl) (by kernel_rfl) (by kernel_rfl) (by kernel_rfl) (fun _ => eq_int (a := Int.tmod f 3) Htm.out (by kernel_rfl)) rfl h0 ?_
          refine rg_pure 5 (oi := { dst := some 64, op := Op.binOp BinOp.add 5 (Operand.const (Value.int IntKind.u8 4)) (Operand.tmp 63) 5, type := 5, pos := "law.go:168", after := #[{ on := 4, ground := Ground.data }], guard := none }) (.int .u8 (4 + f % 3)) _ rfl (by kernel_rfl) (by kernel_rfl) (by kernel_rfl) (by kernel_rfl) (fun _ => eq_int (a := IntKind.u8.wrap (4 + f % 3)) Hw5.out (by kernel_rfl)) rfl h0 ?_
          refine rg_pure 6 (oi := { dst := some 65, op := Op.move (Operand.tmp 1), type := 23, pos := "law.go:168", after := #[], guard := none }) (.slice (some ⟨bz, oz, none⟩) n1 c1) _ rfl (by kernel_rfl) (by kernel_rfl) (by kernel_rfl) (by kernel_rfl) (fun _ => by kernel_rfl) rfl h0 ?_
          refine rg_pure 7 (oi := { dst := some 66, op := Op.move (Operand.tmp 10), type := 3, pos := "law.go:168", after := #[], guard := none }) (.int .i64 (K : Int)) _ rfl (by kernel_rfl) (by kernel_rfl) (by kernel_rfl) (by kernel_rfl) (fun _ => by kernel_rfl) rfl h0 ?_
          refine rg_pure 8 (oi := { dst := some 67, op := Op.indexAddr 23 (Operand.tmp 65) (Operand.tmp 66), type := 0, pos := "law.go:168", after := #[{ on := 6, ground := Ground.data }, { on := 7, ground := Ground.data }], guard := none }) (.pointer (some ⟨bz, oz + K, none⟩)) _ rfl (by kernel_rfl) (by kernel_rfl) (by kernel_rfl) (by kernel_rfl) (fun W => ex_index (a := _) (o := _) 23 (.tmp 65) (.tmp 66) rfl bz oz n1 c1 K (by kernel_rfl) (by kernel_rfl) hKn ⟨5, Try.underlying23, by kernel_rfl⟩ W) rfl h0 ?_
          refine rg_read 9 (oi := { dst := some 68, op := Op.load 5 (Operand.tmp 67), type := 5, pos := "law.go:168", after := #[{ on := 8, ground := Ground.data }], guard := none }) (.int .u8 f) _ rfl (by kernel_rfl) (by kernel_rfl) (by kernel_rfl) (by kernel_rfl) (fun W hW => ex_load1 _ _ 5 (.tmp 67) rfl ⟨bz, oz + K, none⟩ (by kernel_rfl) W (by kernel_rfl) _ hW) rfl h0 ?_
          refine rg_pure 10 (oi := { dst := some 69, op := Op.binOp BinOp.rem 5 (Operand.tmp 68) (Operand.const (Value.int IntKind.u8 40)) 5, type := 5, pos := "law.go:168", after := #[{ on := 9, ground := Ground.data }], guard := none }) (.int .u8 (f % 40)) _ rfl (by kernel_rfl) (by kernel_rfl) (by kernel_rfl) (by kernel_rfl) (fun _ => eq_int (a := Int.tmod f 40) Htm2.out (by kernel_rfl)) rfl h0 ?_
          refine rg_pure 11 (oi := { dst := some 70, op := Op.build 44 #[(0, Operand.tmp 64), (1, Operand.tmp 69)], type := 44, pos := "law.go:168", after := #[{ on := 5, ground := Ground.data }, { on := 10, ground := Ground.data }], guard := none }) (.agg #[.int .u8 (4 + f % 3), .int .u8 (f % 40), .int .i64 0, .slice none 0 0]) _ rfl (by kernel_rfl) (by kernel_rfl) (by kernel_rfl) (by kernel_rfl) (fun _ => by kernel_rfl) rfl h0 ?_
          refine rg_one 12 (oi := { dst := none, op := Op.store 44 (Operand.tmp 14) (Operand.tmp 70), type := 0, pos := "law.go:168", after := #[{ on := 11, ground := Ground.data }, { on := 0, ground := Ground.phase }, { on := 1, ground := Ground.phase }, { on := 2, ground := Ground.phase }, { on := 3, ground := Ground.phase }, { on := 4, ground := Ground.phase }, { on := 5, ground := Ground.phase }, { on := 6, ground := Ground.phase }, { on := 7, ground := Ground.phase }, { on := 8, ground := Ground.phase }, { on := 9, ground := Ground.phase }, { on := 10, ground := Ground.phase }, { on := 11, ground := Ground.phase }], guard := none }) (by kernel_rfl) rfl (by kernel_rfl) ?_
          with_reducible refine op_storeAll (ty := 44) (x := .tmp 14) (y := .tmp 70) ?_ ?_ (w6.heap.size + 1) #[.int .u8 (4 + f % 3), .int .u8 (f % 40), .int .i64 0, .slice none 0 0] ?_ ?_ hk8d ?_ ?_ ?_ ?_
          · rfl
          · rfl
          · kernel_rfl
          · kernel_rfl
          · kernel_rfl
          · rfl
          · kernel_rfl
          intro W9 hW9
          have hc9 : W9.cell? ⟨bz, oz + K, none⟩ = some (.int .u8 f) := by rw [hW9, cell_setRow_other _ _ _ _ (by simp; omega)]; exact Hc8.out
          refine ⟨hc9, ?_⟩
          refine rg_done (by kernel_rfl) ?_ _
          simp only [Act.put, List.setIfInBounds_toArray, List.set_cons_zero, List.set_cons_succ]
          have hk9 : W9.heap[w6.heap.size + 1]? = some (.cells #[.int .u8 (4 + f % 3), .int .u8 (f % 40), .int .i64 0, .slice none 0 0] 44 (0, 0)) := by rw [hW9]; exact setRow_heap _ _ _ _ _ _ hk8d
          have hot : ∀ k, k ≠ w6.heap.size + 1 → W9.heap[k]? = w8.heap[k]? := fun k hk => by rw [hW9, setRow_other _ _ _ _ hk]; rfl
          have hj9 := (hot w6.heap.size (by omega)).trans Hj8.out
          have hr9 := (hot mb (by omega)).trans Hr8.out
          have hS9 : St W9 g (sumP xs) n (xs.take p) fa 0 false false := by
            rw [hW9]
            exact setRow_st HS8.out (by omega) hk8d (by decide)
          have hG9 : Below g w5 W9 := by rw [hW9]; exact below_setRow HG8.out.drew (by omega) _
          have hb9 : Below w.heap.size w W9 := by rw [hW9]; exact below_setRow Hb8.out.drew (by omega) _
          have k0 : W9.cell? ⟨w6.heap.size + 1, 0, none⟩ = some (.int .u8 (4 + f % 3)) := cell_of_row _ _ 0 _ _ _ hk9
          have k1 : W9.cell? ⟨w6.heap.size + 1, 1, none⟩ = some (.int .u8 (f % 40)) := cell_of_row _ _ 1 _ _ _ hk9
          have k2 : W9.cell? ⟨w6.heap.size + 1, 2, none⟩ = some (.int .i64 0) := cell_of_row _ _ 2 _ _ _ hk9
          have k3 : W9.cell? ⟨w6.heap.size + 1, 3, none⟩ = some (.slice none 0 0) := cell_of_row _ _ 3 _ _ _ hk9
          have j0 : W9.cell? ⟨w6.heap.size, 0, none⟩ = some (.string ⟨#[97]⟩) := cell_of_row _ _ 0 _ _ _ hj9
          have j1 : W9.cell? ⟨w6.heap.size, 1, none⟩ = some (.int .i64 1) := cell_of_row _ _ 1 _ _ _ hj9
          have j2 : W9.cell? ⟨w6.heap.size, 2, none⟩ = some (.int .i64 0) := cell_of_row _ _ 2 _ _ _ hj9
          have j3 : W9.cell? ⟨w6.heap.size, 3, none⟩ = some (.int .i64 0) := cell_of_row _ _ 3 _ _ _ hj9
          have j4 : W9.cell? ⟨w6.heap.size, 4, none⟩ = some (.slice none 0 0) := cell_of_row _ _ 4 _ _ _ hj9
          have j5 : W9.cell? ⟨w6.heap.size, 5, none⟩ = some (.int .i64 p) := cell_of_row _ _ 5 _ _ _ hj9
          have j6 : W9.cell? ⟨w6.heap.size, 6, none⟩ = some (.int .i64 N) := cell_of_row _ _ 6 _ _ _ hj9
          have hyl : ((xs.drop p).take N).length = N := by rw [List.length_take, List.length_drop, Hxl.out]; omega
          have hgot : Calls Try.prog 11 #[.slice (some ⟨mb, 0, none⟩) n n, .agg #[.string ⟨#[97]⟩, .int .i64 1, .int .i64 0, .int .i64 0, .slice none 0 0, .int .i64 p, .int .i64 N], .agg #[.int .u8 (4 + f % 3), .int .u8 (f % 40), .int .i64 0, .slice none 0 0]] W9 (GotPost (if 4 + f % 3 = 6 then 1 else 0) (if 4 + f % 3 = 5 then ((xs.drop p).take N).take (f % 40).toNat else (xs.drop p).take N) W9) := got_any mb n xs p N (4 + f % 3) (f % 40) W9 hr9 Hxl.out (by omega) hpN (by omega) (by omega) (by omega)
          have Hk9 := keep hk9
          have Hj9 := keep hj9
          have HS9 := keep hS9
          have HG9 := keep hG9
          have Hgot := keep hgot
          have Hyl := keep hyl
          have hz9 := row_lt hk9
          have hgz : g < W9.heap.size := hS9.lt
          have tp : decide ((0 : Int) < 4 + f % 3) = true := by simp; omega
          clear hk9 hj9 hS9 hG9 hgot hyl hW9 hc9 hr9 hot hk8d
          go_wp2_with fail
          rcases (by omega : (f % 3 = 1 ∧ (N : Int) ≤ f % 40) ∨ (f % 3 = 1 ∧ f % 40 < (N : Int)) ∨ f % 3 = 2) with ⟨d1, d2⟩ | ⟨d1, d2⟩ | d1
          · have hys : ((xs.drop p).take N).take (f % 40).toNat = (xs.drop p).take N := List.take_of_length_le (by rw [Hyl.out]; omega)
            have hgt := Hgot.out
            rw [if_neg (by omega), if_pos (by omega), hys] at hgt
            have Hys := Hyl
            have Hgt := keep hgt
            clear hgt hys Hgot
            refine Hgt.out.mono ?_
            rintro e w10 ⟨Ag, cg, rfl, hcg, hRg, hB10⟩
            rw [Hys.out] at hcg ⊢
            have hk10 := (hB10.block _ (row_lt Hk9.out)).trans Hk9.out
            have hj10 := (hB10.block _ (row_lt Hj9.out)).trans Hj9.out
            have hS10 := HS9.out.below hB10 (Nat.le_refl _)
            have hG10 : Below g w5 w10 := HG9.out.trans (hB10.mono (Nat.le_of_lt hgz))
            have q0 : w10.cell? ⟨w6.heap.size + 1, 0, none⟩ = some (.int .u8 (4 + f % 3)) := cell_of_row _ _ 0 _ _ _ hk10
            have q6 : w10.cell? ⟨w6.heap.size, 6, none⟩ = some (.int .i64 N) := cell_of_row _ _ 6 _ _ _ hj10
            have hz10 := row_lt hk10; have hz10b := row_lt hj10
            have HRg := keep hRg
            have HS10 := keep hS10
            have HG10 := keep hG10
            clear hRg hS10 hG10 hk10 hj10 hB10 k0 k1 k2 k3 j0 j1 j2 j3 j4 j5 j6
            have tq : decide ((N : Int) ≤ (N : Int)) = true := by simp
            go_wp2_with fail
            have hS11 := HS10.out.below (Hal.out w10 (.cells #[.int .i64 0, .slice Ag N cg] 42)) (Nat.le_refl _)
            have hG11 := HG10.out.trans ((Hal.out w10 (.cells #[.int .i64 0, .slice Ag N cg] 42)).mono (Nat.le_of_lt HS10.out.lt))
            have hR11 := (HRg.out.below (Hal.out w10 (.cells #[.int .i64 0, .slice Ag N cg] 42))).more (Hal.out w10 (.cells #[.int .i64 0, .slice Ag N cg] 42)).size
            generalize w10.alloc (.cells #[.int .i64 0, .slice Ag N cg] 42) = w11 at hS11 hG11 hR11 ⊢
            have HG11 := keep hG11
            have hcat : xs.take p ++ ((xs.drop p).take N).take N = xs.take (p + N) := by rw [List.take_take, Nat.min_self]; exact take_more p N
            have hlen2 : (xs.take (p + N)).length = p + N := by rw [List.length_take, Hxl.out]; omega
            have htk := take_full (dn := decide (p + N = n)) w11 hS11 (by rw [Hpl.out]; omega) (by omega) Ag N cg ((xs.drop p).take N) hR11 Hyl.out hcg N (by rw [Hpl.out]; exact HN.out) (Nat.le_refl _) (by
              rw [hcat, hlen2]
              by_cases e : p + N = n
              · refine .inr ⟨by simp [e], by omega, ?_⟩
                rw [List.take_of_length_le (by rw [Hxl.out]; omega)]
              · exact .inl ⟨by simp [e], by omega⟩)
            rw [hcat] at htk
            clear hcat hlen2
            clear hS11 hG11 hR11
            refine htk.mono ?_
            rintro e w12 ⟨rfl, hS12, hB12, _⟩
            have HS12 := keep hS12
            have HB12 := keep hB12
            clear hS12 hB12 htk
            go_wp2_with fail
            go_roundw
            case rel =>
              have h7 := Hr7.out
              have h9 := Hr9.out hplt
              have hNe := HNe.out
              exact ⟨p + N, 0, I, B, F + 1, K + 1, ⟨by omega, by omega, by omega, by omega, by omega, by omega, by omega, by omega, by omega⟩, by go_num, by go_num, by go_num, by go_num, HS12.out, HG11.out.trans HB12.out⟩
            case measure => simp [intOf]; omega
          · obtain ⟨m, hm⟩ : ∃ m : Nat, (f % 40).toNat = m := ⟨_, rfl⟩
            have hmN : m < N := by omega
            have hgt := Hgot.out
            rw [if_neg (by omega), if_pos (by omega), hm] at hgt
            have hys : (((xs.drop p).take N).take m).length = m := by rw [List.length_take, Hyl.out]; omega
            have Hys := keep hys
            have Hgt := keep hgt
            have Hm := keep hm
            clear hgt hys Hgot hm
            refine Hgt.out.mono ?_
            rintro e w10 ⟨Ag, cg, rfl, hcg, hRg, hB10⟩
            rw [Hys.out] at hcg ⊢
            have hk10 := (hB10.block _ (row_lt Hk9.out)).trans Hk9.out
            have hj10 := (hB10.block _ (row_lt Hj9.out)).trans Hj9.out
            have hS10 := HS9.out.below hB10 (Nat.le_refl _)
            have hG10 : Below g w5 w10 := HG9.out.trans (hB10.mono (Nat.le_of_lt hgz))
            have q0 : w10.cell? ⟨w6.heap.size + 1, 0, none⟩ = some (.int .u8 (4 + f % 3)) := cell_of_row _ _ 0 _ _ _ hk10
            have q6 : w10.cell? ⟨w6.heap.size, 6, none⟩ = some (.int .i64 N) := cell_of_row _ _ 6 _ _ _ hj10
            have hz10 := row_lt hk10; have hz10b := row_lt hj10
            have HRg := keep hRg
            have HS10 := keep hS10
            have HG10 := keep hG10
            clear hRg hS10 hG10 hk10 hj10 hB10 k0 k1 k2 k3 j0 j1 j2 j3 j4 j5 j6
            have tq : decide ((N : Int) ≤ (m : Int)) = false := by simp; omega
            go_wp2_with fail
            have hS11 := HS10.out.below (Hal.out w10 (.cells #[.int .i64 0, .slice Ag m cg] 42)) (Nat.le_refl _)
            have hG11 := HG10.out.trans ((Hal.out w10 (.cells #[.int .i64 0, .slice Ag m cg] 42)).mono (Nat.le_of_lt HS10.out.lt))
            have hR11 := (HRg.out.below (Hal.out w10 (.cells #[.int .i64 0, .slice Ag m cg] 42))).more (Hal.out w10 (.cells #[.int .i64 0, .slice Ag m cg] 42)).size
            generalize w10.alloc (.cells #[.int .i64 0, .slice Ag m cg] 42) = w11 at hS11 hG11 hR11 ⊢
            have HG11 := keep hG11
            have hcat : xs.take p ++ ((xs.drop p).take N).take m = xs.take (p + m) := by rw [List.take_take, Nat.min_eq_left (by omega)]; exact take_more p m
            have htk := take_short w11 hS11 (by rw [Hpl.out]; omega) (by omega) (by omega) (by omega) Ag m cg (((xs.drop p).take N).take m) hR11 Hys.out N (by rw [Hpl.out]; exact HN.out) hmN
            rw [hcat] at htk
            clear hcat
            clear hS11 hG11 hR11
            refine htk.mono ?_
            rintro e w12 ⟨rfl, hS12, hB12, _⟩
            have HS12 := keep hS12
            have HB12 := keep hB12
            clear hS12 hB12 htk
            go_wp2_with fail
            go_roundw
            case rel =>
              have h7 := Hr7.out
              have h9 := Hr9.out hplt
              have hNe := HNe.out
              exact ⟨p + m, fa + 1, I + 1, B + 1, F, K + 1, ⟨by omega, by omega, by omega, by omega, by omega, by omega, by omega, by omega, by omega⟩, by go_num, by go_num, by go_num, by go_num, by have := HS12.out; rw [show decide (p + m = n) = false by simp; omega]; exact this, HG11.out.trans HB12.out⟩
            case measure => simp [intOf]; omega
          · have hgt := Hgot.out
            rw [if_pos (by omega), if_neg (by omega)] at hgt
            have Hys := Hyl
            have Hgt := keep hgt
            clear hgt Hgot
            refine Hgt.out.mono ?_
            rintro e w10 ⟨Ag, cg, rfl, hcg, hRg, hB10⟩
            rw [Hys.out] at hcg ⊢
            have hk10 := (hB10.block _ (row_lt Hk9.out)).trans Hk9.out
            have hj10 := (hB10.block _ (row_lt Hj9.out)).trans Hj9.out
            have hS10 := HS9.out.below hB10 (Nat.le_refl _)
            have hG10 : Below g w5 w10 := HG9.out.trans (hB10.mono (Nat.le_of_lt hgz))
            have q0 : w10.cell? ⟨w6.heap.size + 1, 0, none⟩ = some (.int .u8 (4 + f % 3)) := cell_of_row _ _ 0 _ _ _ hk10
            have q6 : w10.cell? ⟨w6.heap.size, 6, none⟩ = some (.int .i64 N) := cell_of_row _ _ 6 _ _ _ hj10
            have hz10 := row_lt hk10; have hz10b := row_lt hj10
            have HRg := keep hRg
            have HS10 := keep hS10
            have HG10 := keep hG10
            clear hRg hS10 hG10 hk10 hj10 hB10 k0 k1 k2 k3 j0 j1 j2 j3 j4 j5 j6
            go_wp2_with fail
            have hS11 := HS10.out.below (Hal.out w10 (.cells #[.int .i64 1, .slice Ag N cg] 42)) (Nat.le_refl _)
            have hG11 := HG10.out.trans ((Hal.out w10 (.cells #[.int .i64 1, .slice Ag N cg] 42)).mono (Nat.le_of_lt HS10.out.lt))
            have hR11 := (HRg.out.below (Hal.out w10 (.cells #[.int .i64 1, .slice Ag N cg] 42))).more (Hal.out w10 (.cells #[.int .i64 1, .slice Ag N cg] 42)).size
            generalize w10.alloc (.cells #[.int .i64 1, .slice Ag N cg] 42) = w11 at hS11 hG11 hR11 ⊢
            have HG11 := keep hG11
            have htk := take_lost w11 hS11 (by rw [Hpl.out]; omega) (by omega) (by omega) (by omega) Ag N cg
            clear hS11 hG11 hR11
            refine htk.mono ?_
            rintro e w12 ⟨rfl, hS12, hB12, _⟩
            have HS12 := keep hS12
            have HB12 := keep hB12
            clear hS12 hB12 htk
            go_wp2_with fail
            go_roundw
            case rel =>
              have h7 := Hr7.out
              have h9 := Hr9.out hplt
              have hNe := HNe.out
              exact ⟨p, fa + 1, I + 1, B + 1, F, K + 1, ⟨by omega, by omega, by omega, by omega, by omega, by omega, by omega, by omega, by omega⟩, by go_num, by go_num, by go_num, by go_num, by have := HS12.out; rw [show decide (p = n) = false by simp; omega]; exact this, HG11.out.trans HB12.out⟩
            case measure => simp [intOf]; omega
          --]FAULT
        · have hr8 : (((w6.alloc (.cells #[.string ⟨#[97]⟩, .int .i64 1, .int .i64 0, .int .i64 0, .slice none 0 0, .int .i64 p, .int .i64 N] 38)).alloc (.cells #[.int .u8 0, .int .u8 0, .int .i64 0, .slice none 0 0] 44))).heap[mb]? = some (.cells (bys xs) 5 (0, 0)) := by
            rw [Below.heap_alloc _ _ _ (by have := row_lt Hr6.out; simp; omega), Below.heap_alloc _ _ _ (row_lt Hr6.out)]
            exact Hr6.out
          have hb8 : Below w.heap.size w (((w6.alloc (.cells #[.string ⟨#[97]⟩, .int .i64 1, .int .i64 0, .int .i64 0, .slice none 0 0, .int .i64 p, .int .i64 N] 38)).alloc (.cells #[.int .u8 0, .int .u8 0, .int .i64 0, .slice none 0 0] 44))) := (hb6.alloc hb6.size _).alloc (by have := hb6.size; simp; omega) _
          have hS8 := (HS6.out.below (Hal.out w6 (.cells #[.string ⟨#[97]⟩, .int .i64 1, .int .i64 0, .int .i64 0, .slice none 0 0, .int .i64 p, .int .i64 N] 38)) (Nat.le_refl _)).below (Hal.out (w6.alloc (.cells #[.string ⟨#[97]⟩, .int .i64 1, .int .i64 0, .int .i64 0, .slice none 0 0, .int .i64 p, .int .i64 N] 38)) (.cells #[.int .u8 0, .int .u8 0, .int .i64 0, .slice none 0 0] 44)) (Nat.le_refl _)
          have hG8 : Below g w5 (((w6.alloc (.cells #[.string ⟨#[97]⟩, .int .i64 1, .int .i64 0, .int .i64 0, .slice none 0 0, .int .i64 p, .int .i64 N] 38)).alloc (.cells #[.int .u8 0, .int .u8 0, .int .i64 0, .slice none 0 0] 44))) := (hG6.alloc (by have := HS6.out.lt; omega) _).alloc (by have := HS6.out.lt; simp; omega) _
          have hk8 : (((w6.alloc (.cells #[.string ⟨#[97]⟩, .int .i64 1, .int .i64 0, .int .i64 0, .slice none 0 0, .int .i64 p, .int .i64 N] 38)).alloc (.cells #[.int .u8 0, .int .u8 0, .int .i64 0, .slice none 0 0] 44))).heap[w6.heap.size + 1]? = some (.cells #[.int .u8 0, .int .u8 0, .int .i64 0, .slice none 0 0] 44 (0, 0)) := heap_alloc2 w6 _ _
          have hgot : Calls Try.prog 11 #[.slice (some ⟨mb, 0, none⟩) n n, .agg #[.string ⟨#[97]⟩, .int .i64 1, .int .i64 0, .int .i64 0, .slice none 0 0, .int .i64 p, .int .i64 N], .agg #[.int .u8 0, .int .u8 0, .int .i64 0, .slice none 0 0]] (((w6.alloc (.cells #[.string ⟨#[97]⟩, .int .i64 1, .int .i64 0, .int .i64 0, .slice none 0 0, .int .i64 p, .int .i64 N] 38)).alloc (.cells #[.int .u8 0, .int .u8 0, .int .i64 0, .slice none 0 0] 44))) (GotPost 0 ((xs.drop p).take N) (((w6.alloc (.cells #[.string ⟨#[97]⟩, .int .i64 1, .int .i64 0, .int .i64 0, .slice none 0 0, .int .i64 p, .int .i64 N] 38)).alloc (.cells #[.int .u8 0, .int .u8 0, .int .i64 0, .slice none 0 0] 44)))) := got_any mb n xs p N 0 0 _ hr8 Hxl.out (by omega) hpN (by omega) (by omega) (.inl rfl)
          have Hgot := keep hgot
          have Hr8 := keep hr8
          have Hb8 := keep hb8
          have HS8 := keep hS8
          have HG8 := keep hG8
          have Hk8 := keep hk8
          clear hgot hr8 hb8 hS8 hG8 hk8 hBr hB6
          rcases (by omega : ¬ K < n1 ∨ (K < n1 ∧ f % 3 = 0) ∨ (K < n1 ∧ 0 < f % 3 ∧ 3 ≤ I)) with h1 | ⟨h1, h2⟩ | ⟨h1, h2, h3⟩
          · have t1 : decide ((K : Int) < (n1 : Int)) = false := by simp; omega
            have Hf := keep hfault
            clear hfault
            go_wp2_with fail
            refine Hgot.out.mono ?_
            rintro e w9 ⟨Ag, cg, rfl, hcg, hRg, hB9⟩
            have hyl : ((xs.drop p).take N).length = N := by rw [List.length_take, List.length_drop, Hxl.out]; omega
            rw [hyl] at hcg ⊢
            have Hyl := keep hyl
            have hk9 := (hB9.block _ (row_lt Hk8.out)).trans Hk8.out
            have hS9 := HS8.out.below hB9 (Nat.le_refl _)
            have hG9 : Below g w5 w9 := HG8.out.trans (hB9.mono (Nat.le_of_lt HS8.out.lt))
            have hq0 : w9.cell? ⟨w6.heap.size + 1, 0, none⟩ = some (.int .u8 0) := cell_of_row _ _ 0 _ _ _ hk9
            have hqz := row_lt hk9
            have HRg := keep hRg
            have HS9 := keep hS9
            have HG9 := keep hG9
            clear hyl hRg hS9 hG9 hk9 hB9
            go_wp2_with fail
            have hS10 := HS9.out.below (Hal.out w9 (.cells #[.int .i64 0, .slice Ag N cg] 42)) (Nat.le_refl _)
            have hG10 := HG9.out.trans ((Hal.out w9 (.cells #[.int .i64 0, .slice Ag N cg] 42)).mono (Nat.le_of_lt HS9.out.lt))
            have hR10 := (HRg.out.below (Hal.out w9 (.cells #[.int .i64 0, .slice Ag N cg] 42))).more (Hal.out w9 (.cells #[.int .i64 0, .slice Ag N cg] 42)).size
            generalize w9.alloc (.cells #[.int .i64 0, .slice Ag N cg] 42) = w10 at hS10 hG10 hR10 ⊢
            have hcat : xs.take p ++ ((xs.drop p).take N).take N = xs.take (p + N) := by rw [List.take_take, Nat.min_self]; exact take_more p N
            have hlen2 : (xs.take (p + N)).length = p + N := by rw [List.length_take, Hxl.out]; omega
            have htk := take_full (dn := decide (p + N = n)) w10 hS10 (by rw [Hpl.out]; omega) (by omega) Ag N cg ((xs.drop p).take N) hR10 Hyl.out hcg N (by rw [Hpl.out]; exact HN.out) (Nat.le_refl _) (by
              rw [hcat, hlen2]
              by_cases e : p + N = n
              · refine .inr ⟨by simp [e], by omega, ?_⟩
                rw [List.take_of_length_le (by rw [Hxl.out]; omega)]
              · exact .inl ⟨by simp [e], by omega⟩)
            rw [hcat] at htk
            have HG10 := keep hG10
            clear hS10 hG10 hR10 hcat hlen2
            refine htk.mono ?_
            rintro e w11 ⟨rfl, hS11, hB11, _⟩
            have HS11 := keep hS11
            have HB11 := keep hB11
            clear hS11 hB11 htk
            go_wp2_with fail
            go_roundw
            case rel =>
              have h7 := Hr7.out
              have h9 := Hr9.out hplt
              have hNe := HNe.out
              exact ⟨p + N, 0, 0, B, F + 1, K + 1, ⟨by omega, by omega, by omega, by omega, by omega, by omega, by omega, by omega, by omega⟩, rfl, by go_num, by go_num, rfl, HS11.out, HG10.out.trans HB11.out⟩
            case measure => simp [intOf]; omega
          · obtain ⟨bz, oz, rfl, hbz, hcz⟩ := hcellK h1
            have hbz6 : bz < w6.heap.size := Nat.lt_of_lt_of_le hbz hb6.size
            have hbz7 : bz < w6.heap.size + 1 := by omega
            have hbne : ¬ bz = w6.heap.size := by omega
            have hbne1 : ¬ bz = w6.heap.size + 1 := by omega
            have t1 : decide ((K : Int) < (n1 : Int)) = true := by simp; omega
            have Hf := keep hfault
            clear hfault
            go_wp2_with fail
            refine Hgot.out.mono ?_
            rintro e w9 ⟨Ag, cg, rfl, hcg, hRg, hB9⟩
            have hyl : ((xs.drop p).take N).length = N := by rw [List.length_take, List.length_drop, Hxl.out]; omega
            rw [hyl] at hcg ⊢
            have Hyl := keep hyl
            have hk9 := (hB9.block _ (row_lt Hk8.out)).trans Hk8.out
            have hS9 := HS8.out.below hB9 (Nat.le_refl _)
            have hG9 : Below g w5 w9 := HG8.out.trans (hB9.mono (Nat.le_of_lt HS8.out.lt))
            have hq0 : w9.cell? ⟨w6.heap.size + 1, 0, none⟩ = some (.int .u8 0) := cell_of_row _ _ 0 _ _ _ hk9
            have hqz := row_lt hk9
            have HRg := keep hRg
            have HS9 := keep hS9
            have HG9 := keep hG9
            clear hyl hRg hS9 hG9 hk9 hB9
            go_wp2_with fail
            have hS10 := HS9.out.below (Hal.out w9 (.cells #[.int .i64 0, .slice Ag N cg] 42)) (Nat.le_refl _)
            have hG10 := HG9.out.trans ((Hal.out w9 (.cells #[.int .i64 0, .slice Ag N cg] 42)).mono (Nat.le_of_lt HS9.out.lt))
            have hR10 := (HRg.out.below (Hal.out w9 (.cells #[.int .i64 0, .slice Ag N cg] 42))).more (Hal.out w9 (.cells #[.int .i64 0, .slice Ag N cg] 42)).size
            generalize w9.alloc (.cells #[.int .i64 0, .slice Ag N cg] 42) = w10 at hS10 hG10 hR10 ⊢
            have hcat : xs.take p ++ ((xs.drop p).take N).take N = xs.take (p + N) := by rw [List.take_take, Nat.min_self]; exact take_more p N
            have hlen2 : (xs.take (p + N)).length = p + N := by rw [List.length_take, Hxl.out]; omega
            have htk := take_full (dn := decide (p + N = n)) w10 hS10 (by rw [Hpl.out]; omega) (by omega) Ag N cg ((xs.drop p).take N) hR10 Hyl.out hcg N (by rw [Hpl.out]; exact HN.out) (Nat.le_refl _) (by
              rw [hcat, hlen2]
              by_cases e : p + N = n
              · refine .inr ⟨by simp [e], by omega, ?_⟩
                rw [List.take_of_length_le (by rw [Hxl.out]; omega)]
              · exact .inl ⟨by simp [e], by omega⟩)
            rw [hcat] at htk
            have HG10 := keep hG10
            clear hS10 hG10 hR10 hcat hlen2
            refine htk.mono ?_
            rintro e w11 ⟨rfl, hS11, hB11, _⟩
            have HS11 := keep hS11
            have HB11 := keep hB11
            clear hS11 hB11 htk
            go_wp2_with fail
            go_roundw
            case rel =>
              have h7 := Hr7.out
              have h9 := Hr9.out hplt
              have hNe := HNe.out
              exact ⟨p + N, 0, 0, B, F + 1, K + 1, ⟨by omega, by omega, by omega, by omega, by omega, by omega, by omega, by omega, by omega⟩, rfl, by go_num, by go_num, rfl, HS11.out, HG10.out.trans HB11.out⟩
            case measure => simp [intOf]; omega
          · obtain ⟨bz, oz, rfl, hbz, hcz⟩ := hcellK h1
            have hbz6 : bz < w6.heap.size := Nat.lt_of_lt_of_le hbz hb6.size
            have hbz7 : bz < w6.heap.size + 1 := by omega
            have hbne : ¬ bz = w6.heap.size := by omega
            have hbne1 : ¬ bz = w6.heap.size + 1 := by omega
            have t1 : decide ((K : Int) < (n1 : Int)) = true := by simp; omega
            have Hf := keep hfault
            clear hfault
            go_wp2_with fail
            refine Hgot.out.mono ?_
            rintro e w9 ⟨Ag, cg, rfl, hcg, hRg, hB9⟩
            have hyl : ((xs.drop p).take N).length = N := by rw [List.length_take, List.length_drop, Hxl.out]; omega
            rw [hyl] at hcg ⊢
            have Hyl := keep hyl
            have hk9 := (hB9.block _ (row_lt Hk8.out)).trans Hk8.out
            have hS9 := HS8.out.below hB9 (Nat.le_refl _)
            have hG9 : Below g w5 w9 := HG8.out.trans (hB9.mono (Nat.le_of_lt HS8.out.lt))
            have hq0 : w9.cell? ⟨w6.heap.size + 1, 0, none⟩ = some (.int .u8 0) := cell_of_row _ _ 0 _ _ _ hk9
            have hqz := row_lt hk9
            have HRg := keep hRg
            have HS9 := keep hS9
            have HG9 := keep hG9
            clear hyl hRg hS9 hG9 hk9 hB9
            go_wp2_with fail
            have hS10 := HS9.out.below (Hal.out w9 (.cells #[.int .i64 0, .slice Ag N cg] 42)) (Nat.le_refl _)
            have hG10 := HG9.out.trans ((Hal.out w9 (.cells #[.int .i64 0, .slice Ag N cg] 42)).mono (Nat.le_of_lt HS9.out.lt))
            have hR10 := (HRg.out.below (Hal.out w9 (.cells #[.int .i64 0, .slice Ag N cg] 42))).more (Hal.out w9 (.cells #[.int .i64 0, .slice Ag N cg] 42)).size
            generalize w9.alloc (.cells #[.int .i64 0, .slice Ag N cg] 42) = w10 at hS10 hG10 hR10 ⊢
            have hcat : xs.take p ++ ((xs.drop p).take N).take N = xs.take (p + N) := by rw [List.take_take, Nat.min_self]; exact take_more p N
            have hlen2 : (xs.take (p + N)).length = p + N := by rw [List.length_take, Hxl.out]; omega
            have htk := take_full (dn := decide (p + N = n)) w10 hS10 (by rw [Hpl.out]; omega) (by omega) Ag N cg ((xs.drop p).take N) hR10 Hyl.out hcg N (by rw [Hpl.out]; exact HN.out) (Nat.le_refl _) (by
              rw [hcat, hlen2]
              by_cases e : p + N = n
              · refine .inr ⟨by simp [e], by omega, ?_⟩
                rw [List.take_of_length_le (by rw [Hxl.out]; omega)]
              · exact .inl ⟨by simp [e], by omega⟩)
            rw [hcat] at htk
            have HG10 := keep hG10
            clear hS10 hG10 hR10 hcat hlen2
            refine htk.mono ?_
            rintro e w11 ⟨rfl, hS11, hB11, _⟩
            have HS11 := keep hS11
            have HB11 := keep hB11
            clear hS11 hB11 htk
            go_wp2_with fail
            go_roundw
            case rel =>
              have h7 := Hr7.out
              have h9 := Hr9.out hplt
              have hNe := HNe.out
              exact ⟨p + N, 0, 0, B, F + 1, K + 1, ⟨by omega, by omega, by omega, by omega, by omega, by omega, by omega, by omega, by omega⟩, rfl, by go_num, by go_num, rfl, HS11.out, HG10.out.trans HB11.out⟩
            case measure => simp [intOf]; omega
--]REG
end Go.Proofs.Ytmfgcdfemhaieaa
