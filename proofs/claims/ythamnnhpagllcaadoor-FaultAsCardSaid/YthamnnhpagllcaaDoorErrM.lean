/- Errors that are joined: the walk. -/
import Derived.Test.YthamnnhpagllcaaDoorErrL
namespace Go.Proofs.YthamnnhpagllcaaDoor
open Go.RowKit Go.Extern.Stop Go.Stop Go.Extern

/-- A slice of truths that is read: ys at each place. -/
structure RdT (W : World) (B : Nat) (A : Option Addr) (n : Nat) (ys : Nat → Bool) : Prop where
  out : 0 < n → ∃ b off, A = some ⟨b, off, none⟩ ∧ b < B ∧ ∀ i, i < n → W.cell? ⟨b, off + i, none⟩ = some (.bool (ys i))
theorem join_none {w : World} {z : Nat → Int} {y : Nat → Bool} {j : Nat} {xs : List Value} (h : LAt w z y j xs) (h0 : (csAt z y j).length = 0) {e : Ending} {w' : World} (hp : JoinPost (xs.filter live) w e w') : e = .returned .nilIface ∧ Below w.heap.size w w' := by
  obtain ⟨es, h1, _, h3⟩ := h.es
  have : es = [] := by
    rw [← h3, List.length_map] at h0
    exact List.eq_nil_of_length_eq_zero h0
  subst this
  rw [h1] at hp
  obtain ⟨hB, ⟨_, he⟩ | ⟨x, h4, _⟩ | ⟨h4, _⟩⟩ := hp
  · exact ⟨he, hB⟩
  · simp at h4
  · simp at h4
--[REG
set_option maxRecDepth 100000 in
set_option maxHeartbeats 4000000 in
theorem joins_walk (A1 : Option Addr) (n c1 : Nat) (zs : List Int) (A2 : Option Addr) (n2 c2 : Nat) (ys : Nat → Bool) (w : World) (he : Env w) (hN : 5 ≤ w.heap.size) (hzl : zs.length = n) (hC : RdI w w.heap.size .i64 A1 zs) (hzb0 : ∀ i, -9223372036854775808 ≤ zs.getD i 0 ∧ zs.getD i 0 ≤ 9223372036854775807) (hY : RdT w w.heap.size A2 n2 ys) :
    Calls Tryd.prog 5 #[.slice A1 n c1, .slice A2 n2 c2] w (PB true w) := by
  have hk := known_any w he hN
  have Hk := keep hk
  have He := keep he
  obtain ⟨z, hzz⟩ : ∃ z : Nat → Int, z = fun i => zs.getD i 0 := ⟨_, rfl⟩
  have hzb : ∀ i, -9223372036854775808 ≤ z i ∧ z i ≤ 9223372036854775807 := by rw [hzz]; exact hzb0
  have HC0 := keep hC
  have HC : Keep (∀ hp : 0 < zs.length, ∃ b off, A1 = some ⟨b, off, none⟩ ∧ b < w.heap.size ∧ ∀ i, i < zs.length → w.cell? ⟨b, off + i, none⟩ = some (.int .i64 (z i))) := ⟨fun hp => by rw [hzz]; exact hC.all_ hp⟩
  have HY := keep hY
  have Hzl := keep hzl
  clear hk he hC hY hzl hzb0 hzz HC0
  go_enter Tryd.func5, Tryd.ntmps5
  go_wp2_with fail
  refine Hk.out.mono ?_
  rintro e w1 ⟨rfl, hB1⟩
  have HB1 := keep hB1
  have hz1 := hB1.size
  clear hB1 Hk
  by_cases hn : n ≤ 10
  case neg =>
    have t1 : decide ((n : Int) > 10) = true := by simp; omega
    go_wp2_with fail
    go_ret
    exact ⟨rfl, HB1.out⟩
  case pos =>
  have t1 : decide ((n : Int) > 10) = false := by simp; omega
  by_cases hn2 : n2 < n
  · have t2 : decide ((n2 : Int) < (n : Int)) = true := by simp; omega
    go_wp2_with fail
    go_ret
    exact ⟨rfl, HB1.out⟩
  have t2 : decide ((n2 : Int) < (n : Int)) = false := by simp; omega
  go_wp2_with fail
  go_loopw [5, 6, 7, 8, 9] (fun l t f k i wr => ∃ (j : Nat) (v1 : Value) (tx : List UInt8) (f1 : Int) (kk : Nat) (xs : List Value), v1 = l ∧ t = .string ⟨tx.toArray⟩ ∧ f = .int .i64 f1 ∧ k = .int .i64 kk ∧ i = .int .i64 j ∧ j ≤ n ∧ Keep (LAt wr z ys j xs) ∧ Keep (wr.ownsRow w.heap.size 27 1 v1 j xs) ∧ Keep (jtxt z ys j = tx) ∧ Keep (jfirst z ys j = f1) ∧ Keep ((csAt z ys j).length = kk) ∧ Keep (Below w.heap.size w wr)) (fun _ _ _ _ i _ => n - (intOf i).toNat)
  case atStart => exact ⟨0, .slice none 0 0, [], 0, 0, [], rfl, rfl, rfl, rfl, rfl, Nat.zero_le _, ⟨LAt.nil _ _ _⟩, ⟨⟨rfl, .inl ⟨rfl, rfl⟩⟩⟩, ⟨rfl⟩, ⟨rfl⟩, ⟨rfl⟩, HB1⟩
  case round =>
    obtain ⟨j, v1, tx, f1, kk, xs, rfl, rfl, rfl, rfl, rfl, hj, HL, HO, Htx, Hf1, Hn1, HBr⟩ := hrel
    have hzr := HBr.out.size
    have htl := jtxt_length (y := ys) hzb j
    rw [Htx.out] at htl
    have hkj := csAt_length z ys j
    rw [Hn1.out] at hkj
    by_cases hjl : j < n
    · obtain ⟨b, off, rfl, hbw, hc⟩ := HC.out (by rw [Hzl.out]; omega)
      obtain ⟨b2, off2, rfl, hbw2, hc2⟩ := HY.out.out (by omega)
      obtain ⟨c0, hc0⟩ : ∃ c, z j = c := ⟨_, rfl⟩
      have d0 : w.cell? ⟨b, off + j, none⟩ = some (.int .i64 (z j)) := hc j (by rw [Hzl.out]; omega)
      have d2 := hc2 j (by omega)
      rw [hc0] at d0
      have Hd := keep d0
      have Hd2 := keep d2
      have Hzj := keep hc0
      have hb0 := hzb j
      rw [hc0] at hb0
      obtain ⟨hl0, hl1⟩ := hb0
      have cc := (HBr.out.cell (p := ⟨b, off + j, none⟩) hbw).trans d0
      have cc2 := (HBr.out.cell (p := ⟨b2, off2 + j, none⟩) hbw2).trans d2
      have hbl : b < wr.heap.size := Nat.lt_of_lt_of_le hbw hzr
      have hbl2 : b2 < wr.heap.size := Nat.lt_of_lt_of_le hbw2 hzr
      have hk0 : (0 : Int) ≤ (j : Int) := by omega
      have hk1 : (j : Int) < (n : Int) := by omega
      have hk2 : (j : Int) < (n2 : Int) := by omega
      have tl : decide ((j : Int) < (n : Int)) = true := by simp; omega
      have hdec := dec_any c0 hl0 hl1 wr
      have Hdec := keep hdec
      have hadd := add_str [101, 114, 114, 32] (Lib.itoa c0) (by simp) (by have := Lib.itoa_length_le c0 hl0 hl1; omega)
      have e0 : ([101, 114, 114, 32] : List UInt8).toArray = #[101, 114, 114, 32] := rfl
      have e1 : [101, 114, 114, 32] ++ Lib.itoa c0 = elt c0 false := rfl
      rw [e0, e1] at hadd
      have hel := elt_length hl0 hl1 false
      obtain ⟨t0, ht0⟩ : ∃ t0, elt c0 false = t0 := ⟨_, rfl⟩
      rw [ht0] at hadd hel
      have Ht0 := keep ht0
      have hjn := hjl
      clear hdec e0 e1 ht0 hc hc2 d0 d2 hc0 hjl
      go_wp2_with fail
      refine Hdec.out.mono ?_
      rintro e w2 ⟨rfl, hw2⟩
      rw [hw2]
      clear hw2 Hdec
      cases hy : ys j with
      | false =>
        rw [hy] at cc2
        have hEq : EAt wr opC nmC (z j) (lev (ys j)) (.iface 25 (.int .i64 c0)) := by
          rw [hy, Hzj.out]
          exact .inr ⟨by simp [lev], .num 0 c0 hl0 hl1⟩
        have htt : elt (z j) (ys j) = t0 := by rw [hy, Hzj.out]; exact Ht0.out
        have hOq := HO.out
        have hBq := HBr.out
        have hLq := HL.out
        have hzq := hBq.size
        have HBq := keep hBq
        have HOq := keep hOq
        have HLq := keep hLq
        have HEq := keep hEq
        have Htt := keep htt
        have htl9 : t0.length ≤ 40 := by rw [← htt]; exact elt_length (hzb j).1 (hzb j).2 _
        have hlv := hEq.live_eq
        clear hBq hOq hLq hEq htt
        by_cases hcz : c0 = 0
        · have HZ : Keep (z j = 0) := ⟨Hzj.out.trans hcz⟩
          have tz : (c0 == 0) = true := by simpa using hcz
          clear hcz
          go_wp2_with (at_builtin; refine wpList_append_val (w0 := w) (W := wr) w.heap.size rfl (.tmp 51) (.tmp 53) 48 27 .nilIface 16 rfl Tryd.underlying48 (by kernel_rfl) rfl v1 j xs (.iface 25 (.int .i64 c0)) rfl rfl rfl HOq.out HBq.out hzq (by omega) (by omega) ?_)
          intro v3 w3 hO3 hb3 hg3 _
          have hL3 : LAt w3 z ys (j + 1) (xs ++ [.iface 25 (.int .i64 c0)]) := ((HLq.out).step HEq.out).grown hg3 (own_typed HOq.out)
          have HO3 := keep hO3
          have HL3 := keep hL3
          have Hb3 := keep hb3
          have hz3 := hb3.size
          have Hc3 := keep ((hb3.cell (p := ⟨b, off + j, none⟩) hbw).trans Hd.out)
          have hbl3 : b < w3.heap.size := Nat.lt_of_lt_of_le hbw hz3
          have c3 := Hc3.out
          clear hO3 hL3 hb3 hg3
          go_wp2_with fail
          go_roundw
          case rel => exact ⟨j + 1, v3, tx, f1, kk, _, rfl, rfl, rfl, rfl, by go_num, by omega, HL3, HO3, ⟨by rw [jtxt_zero HZ.out]; exact Htx.out⟩, ⟨by rw [jfirst_zero HZ.out]; exact Hf1.out⟩, ⟨by rw [jlen_zero HZ.out]; exact Hn1.out⟩, Hb3⟩
          case measure => simp [intOf]; omega
        · have HZ : Keep (z j ≠ 0) := ⟨fun h => hcz (Hzj.out.symm.trans h)⟩
          have tz : (c0 == 0) = false := by simpa using hcz
          clear hcz
          go_wp2_with (at_builtin; refine wpList_append_val (w0 := w) (W := wr) w.heap.size rfl (.tmp 51) (.tmp 53) 48 27 .nilIface 16 rfl Tryd.underlying48 (by kernel_rfl) rfl v1 j xs (.iface 25 (.int .i64 c0)) rfl rfl rfl HOq.out HBq.out hzq (by omega) (by omega) ?_)
          intro v3 w3 hO3 hb3 hg3 _
          have hL3 : LAt w3 z ys (j + 1) (xs ++ [.iface 25 (.int .i64 c0)]) := ((HLq.out).step HEq.out).grown hg3 (own_typed HOq.out)
          have HO3 := keep hO3
          have HL3 := keep hL3
          have Hb3 := keep hb3
          have hz3 := hb3.size
          have Hc3 := keep ((hb3.cell (p := ⟨b, off + j, none⟩) hbw).trans Hd.out)
          have hbl3 : b < w3.heap.size := Nat.lt_of_lt_of_le hbw hz3
          have c3 := Hc3.out
          clear hO3 hL3 hb3 hg3
          by_cases hk : kk = 0
          · have tk : ((kk : Int) == 0) = true := by simp [hk]
            have hkk : (csAt z ys j).length = 0 := Hn1.out.trans hk
            obtain ⟨q1, q2⟩ := jtxt_head HZ.out hkk
            rw [Htx.out] at q2
            have q3 := jfirst_head HZ.out hkk
            have had := add_str tx t0 (by omega) (by omega)
            have Hq1 := keep q1
            have Hq2 := keep q2
            have Hq3 := keep q3
            have Hk0 := keep hk
            clear q1 q2 q3 hk hkk
            go_wp2_with fail
            go_roundw
            case rel => exact ⟨j + 1, v3, _, c0, kk + 1, _, rfl, rfl, rfl, by go_num, by go_num, by omega, HL3, HO3, ⟨by rw [Hq1.out, Htt.out, Hq2.out]; rfl⟩, ⟨Hq3.out.trans Hzj.out⟩, ⟨by rw [jlen_one HZ.out, Hn1.out]⟩, Hb3⟩
            case measure => simp [intOf]; omega
          · have tk : ((kk : Int) == 0) = false := by simp; omega
            have hkk : (csAt z ys j).length ≠ 0 := by rw [Hn1.out]; exact hk
            have Hq1 := keep (jtxt_more HZ.out hkk)
            have Hq3 := keep (jfirst_more HZ.out hkk)
            have ha1 := add_str tx [10] (by omega) (by simp)
            have ha2 := add_str (tx ++ [10]) t0 (by simp; omega) (by omega)
            have e10 : ([10] : List UInt8).toArray = #[10] := rfl
            rw [e10] at ha1
            have Hk0 := keep hk
            clear hkk hk
            go_wp2_with fail
            go_roundw
            case rel => exact ⟨j + 1, v3, _, f1, kk + 1, _, rfl, rfl, rfl, by go_num, by go_num, by omega, HL3, HO3, ⟨by rw [Hq1.out, Htx.out, Htt.out]; simp⟩, ⟨Hq3.out.trans Hf1.out⟩, ⟨by rw [jlen_one HZ.out, Hn1.out]⟩, Hb3⟩
            case measure => simp [intOf]; omega
      | true =>
        rw [hy] at cc2
        have hws := wrap_step opC nmC c0 0 (.iface 25 (.int .i64 c0)) wr (.inr ⟨by simp, .num 0 c0 hl0 hl1⟩)
        have Hws := keep hws
        have ho := add_str [111, 112, 32, 110, 58, 32] t0 (by simp) (by omega)
        have e0 : ([111, 112, 32, 110, 58, 32] : List UInt8).toArray = #[111, 112, 32, 110, 58, 32] := rfl
        have e1 : [111, 112, 32, 110, 58, 32] ++ t0 = elt c0 true := by rw [← Ht0.out]; rfl
        rw [e0, e1] at ho
        obtain ⟨t1, ht1⟩ : ∃ t1, elt c0 true = t1 := ⟨_, rfl⟩
        rw [ht1] at ho
        have Ht1 := keep ht1
        clear hws e0 e1 ht1
        go_wp2_with fail
        refine Hws.out.mono ?_
        rintro e w2 ⟨v9, rfl, hE2, hB2⟩
        have hEq : EAt w2 opC nmC (z j) (lev (ys j)) v9 := by rw [hy, Hzj.out]; exact hE2
        have htt : elt (z j) (ys j) = t1 := by rw [hy, Hzj.out]; exact Ht1.out
        have hOq := (HO.out).kept (below_grownBy hB2 none) (by cases v1.ownBlock <;> simp)
        have hBq := HBr.out.trans (hB2.mono hzr)
        have hLq := HL.out.below hB2
        clear hE2 hB2 Hws
        have hzq := hBq.size
        have HBq := keep hBq
        have HOq := keep hOq
        have HLq := keep hLq
        have HEq := keep hEq
        have Htt := keep htt
        have htl9 : t1.length ≤ 40 := by rw [← htt]; exact elt_length (hzb j).1 (hzb j).2 _
        have hlv := hEq.live_eq
        clear hBq hOq hLq hEq htt
        by_cases hcz : c0 = 0
        · have HZ : Keep (z j = 0) := ⟨Hzj.out.trans hcz⟩
          rcases HEq.out.elE with hv9 | ⟨k9, a9, hv9⟩
          · subst hv9
            have tz : (c0 == 0) = true := by simpa using hcz
            clear hcz
            go_wp2_with (at_builtin; refine wpList_append_val (w0 := w) (W := w2) w.heap.size rfl (.tmp 51) (.tmp 53) 48 27 .nilIface 16 rfl Tryd.underlying48 (by kernel_rfl) rfl v1 j xs (.nilIface) rfl rfl rfl HOq.out HBq.out hzq (by omega) (by omega) ?_)
            intro v3 w3 hO3 hb3 hg3 _
            have hL3 : LAt w3 z ys (j + 1) (xs ++ [.nilIface]) := ((HLq.out).step HEq.out).grown hg3 (own_typed HOq.out)
            have HO3 := keep hO3
            have HL3 := keep hL3
            have Hb3 := keep hb3
            have hz3 := hb3.size
            have Hc3 := keep ((hb3.cell (p := ⟨b, off + j, none⟩) hbw).trans Hd.out)
            have hbl3 : b < w3.heap.size := Nat.lt_of_lt_of_le hbw hz3
            have c3 := Hc3.out
            clear hO3 hL3 hb3 hg3
            go_wp2_with fail
            go_roundw
            case rel => exact ⟨j + 1, v3, tx, f1, kk, _, rfl, rfl, rfl, rfl, by go_num, by omega, HL3, HO3, ⟨by rw [jtxt_zero HZ.out]; exact Htx.out⟩, ⟨by rw [jfirst_zero HZ.out]; exact Hf1.out⟩, ⟨by rw [jlen_zero HZ.out]; exact Hn1.out⟩, Hb3⟩
            case measure => simp [intOf]; omega
          · obtain ⟨T9, x9, hx9⟩ := hv9.iface
            subst hx9
            clear hv9
            have tz : (c0 == 0) = true := by simpa using hcz
            clear hcz
            go_wp2_with (at_builtin; refine wpList_append_val (w0 := w) (W := w2) w.heap.size rfl (.tmp 51) (.tmp 53) 48 27 .nilIface 16 rfl Tryd.underlying48 (by kernel_rfl) rfl v1 j xs (.iface T9 x9) rfl rfl rfl HOq.out HBq.out hzq (by omega) (by omega) ?_)
            intro v3 w3 hO3 hb3 hg3 _
            have hL3 : LAt w3 z ys (j + 1) (xs ++ [.iface T9 x9]) := ((HLq.out).step HEq.out).grown hg3 (own_typed HOq.out)
            have HO3 := keep hO3
            have HL3 := keep hL3
            have Hb3 := keep hb3
            have hz3 := hb3.size
            have Hc3 := keep ((hb3.cell (p := ⟨b, off + j, none⟩) hbw).trans Hd.out)
            have hbl3 : b < w3.heap.size := Nat.lt_of_lt_of_le hbw hz3
            have c3 := Hc3.out
            clear hO3 hL3 hb3 hg3
            go_wp2_with fail
            go_roundw
            case rel => exact ⟨j + 1, v3, tx, f1, kk, _, rfl, rfl, rfl, rfl, by go_num, by omega, HL3, HO3, ⟨by rw [jtxt_zero HZ.out]; exact Htx.out⟩, ⟨by rw [jfirst_zero HZ.out]; exact Hf1.out⟩, ⟨by rw [jlen_zero HZ.out]; exact Hn1.out⟩, Hb3⟩
            case measure => simp [intOf]; omega
        · have HZ : Keep (z j ≠ 0) := ⟨fun h => hcz (Hzj.out.symm.trans h)⟩
          obtain ⟨T9, x9, hx9⟩ : ∃ T x, v9 = .iface T x := by
            rcases HEq.out.elE with hv9 | ⟨k9, a9, hv9⟩
            · rw [hv9] at hlv
              have : (z j != 0) = false := hlv.symm
              exact absurd (by simpa using this) HZ.out
            · exact hv9.iface
          subst hx9
          have tz : (c0 == 0) = false := by simpa using hcz
          clear hcz
          go_wp2_with (at_builtin; refine wpList_append_val (w0 := w) (W := w2) w.heap.size rfl (.tmp 51) (.tmp 53) 48 27 .nilIface 16 rfl Tryd.underlying48 (by kernel_rfl) rfl v1 j xs (.iface T9 x9) rfl rfl rfl HOq.out HBq.out hzq (by omega) (by omega) ?_)
          intro v3 w3 hO3 hb3 hg3 _
          have hL3 : LAt w3 z ys (j + 1) (xs ++ [.iface T9 x9]) := ((HLq.out).step HEq.out).grown hg3 (own_typed HOq.out)
          have HO3 := keep hO3
          have HL3 := keep hL3
          have Hb3 := keep hb3
          have hz3 := hb3.size
          have Hc3 := keep ((hb3.cell (p := ⟨b, off + j, none⟩) hbw).trans Hd.out)
          have hbl3 : b < w3.heap.size := Nat.lt_of_lt_of_le hbw hz3
          have c3 := Hc3.out
          clear hO3 hL3 hb3 hg3
          by_cases hk : kk = 0
          · have tk : ((kk : Int) == 0) = true := by simp [hk]
            have hkk : (csAt z ys j).length = 0 := Hn1.out.trans hk
            obtain ⟨q1, q2⟩ := jtxt_head HZ.out hkk
            rw [Htx.out] at q2
            have q3 := jfirst_head HZ.out hkk
            have had := add_str tx t1 (by omega) (by omega)
            have Hq1 := keep q1
            have Hq2 := keep q2
            have Hq3 := keep q3
            have Hk0 := keep hk
            clear q1 q2 q3 hk hkk
            go_wp2_with fail
            go_roundw
            case rel => exact ⟨j + 1, v3, _, c0, kk + 1, _, rfl, rfl, rfl, by go_num, by go_num, by omega, HL3, HO3, ⟨by rw [Hq1.out, Htt.out, Hq2.out]; rfl⟩, ⟨Hq3.out.trans Hzj.out⟩, ⟨by rw [jlen_one HZ.out, Hn1.out]⟩, Hb3⟩
            case measure => simp [intOf]; omega
          · have tk : ((kk : Int) == 0) = false := by simp; omega
            have hkk : (csAt z ys j).length ≠ 0 := by rw [Hn1.out]; exact hk
            have Hq1 := keep (jtxt_more HZ.out hkk)
            have Hq3 := keep (jfirst_more HZ.out hkk)
            have ha1 := add_str tx [10] (by omega) (by simp)
            have ha2 := add_str (tx ++ [10]) t1 (by simp; omega) (by omega)
            have e10 : ([10] : List UInt8).toArray = #[10] := rfl
            rw [e10] at ha1
            have Hk0 := keep hk
            clear hkk hk
            go_wp2_with fail
            go_roundw
            case rel => exact ⟨j + 1, v3, _, f1, kk + 1, _, rfl, rfl, rfl, by go_num, by go_num, by omega, HL3, HO3, ⟨by rw [Hq1.out, Htx.out, Htt.out]; simp⟩, ⟨Hq3.out.trans Hf1.out⟩, ⟨by rw [jlen_one HZ.out, Hn1.out]⟩, Hb3⟩
            case measure => simp [intOf]; omega
    · obtain rfl : j = n := by omega
      have tl : decide ((j : Int) < (j : Int)) = false := by simp
      obtain ⟨A9, c9, rfl, hR9⟩ := own_slice HO.out
      have hjn := join_any wr wr.heap.size A9 j c9 xs wr HL.out.len (by omega) hR9 (fun v hv => (HL.out.el v hv).elE)
      have Hjn := keep hjn
      have he1 := He.out.below HBr.out hN
      have hNr := Nat.le_trans hN hzr
      have He1 := keep he1
      have HZb := keep hzb
      clear hR9 hjn he1 hzb
      go_wp2_with fail
      refine Hjn.out.mono ?_
      intro e w2 hp2
      by_cases hk : kk = 0
      · obtain ⟨rfl, hB2⟩ := join_none HL.out (Hn1.out.trans hk) hp2
        have tk : ((kk : Int) == 0) = true := by simp [hk]
        have HB2 := keep (HBr.out.trans (hB2.mono hzr))
        have hnn := nilNil
        clear hp2 hB2 hk Hjn
        go_wp2_with fail
        go_ret
        exact ⟨rfl, HB2.out⟩
      · have tk : ((kk : Int) == 0) = false := by simp; omega
        obtain ⟨v5, d5, k5, a5, rfl, hE5, hok5, ho5, hf5, htx5, hnu5, hB2⟩ := joint_of HL.out (by omega) (by rw [Hn1.out]; exact hk) hp2
        obtain ⟨T5, x5, hx5⟩ := hE5.iface
        subst hx5
        rw [Hf1.out] at hf5
        rw [Htx.out] at htx5
        have hz2 := hB2.size
        have he2 := He1.out.below hB2 hNr
        have hN2 := Nat.le_trans hNr hz2
        have htxt := text_any hE5 hN2 w2 (Below.refl _ _) (Nat.le_refl _) he2 (by rw [htx5]; omega)
        rw [htx5] at htxt
        have hnil := ifaceNil T5 x5
        have tf : (f1 != f1) = false := by simp
        have HE5 := keep hE5
        have Hf5 := keep hf5
        have Ho5 := keep ho5
        have Hnu5 := keep hnu5
        have Htxt := keep htxt
        have HB2 := keep hB2
        have He2 := keep he2
        clear hp2 hB2 hk Hjn hE5 hf5 ho5 hnu5 htxt htx5 he2 hok5
        go_wp2_with fail
        refine Htxt.out.mono ?_
        rintro e w3 ⟨rfl, hB3⟩
        have HB3 := keep hB3
        have hz3 := hB3.size
        have he3 := He2.out.below hB3 hN2
        have hcod := code_any HE5.out hN2 w3 hB3 hz3 he3 (by have := Ho5.out; omega)
        rw [Hf5.out] at hcod
        have Hcod := keep hcod
        clear hB3 he3 hcod
        go_wp2_with fail
        refine Hcod.out.mono ?_
        rintro e w4 ⟨rfl, hB4⟩
        have HB4 := keep (HB3.out.trans (hB4.mono hz3))
        have hz4 := HB4.out.size
        clear hB4 Hcod Htxt
        go_wp2_with fail
        go_loopw [13] (fun i wr => ∃ j2 : Nat, i = .int .i64 j2 ∧ j2 ≤ j ∧ Keep (Below w2.heap.size w2 wr)) (fun i _ => j - (intOf i).toNat)
        case atStart => exact ⟨0, rfl, Nat.zero_le _, HB4⟩
        case round =>
          obtain ⟨j2, rfl, hj2, HB6⟩ := hrel
          have hz6 := HB6.out.size
          by_cases hjl : j2 < j
          · have tl2 : decide ((j2 : Int) < (j : Int)) = true := by simp; omega
            obtain ⟨b, off, rfl, hbw, hc⟩ := HC.out (by rw [Hzl.out]; omega)
            obtain ⟨c0, hc0⟩ : ∃ c, z j2 = c := ⟨_, rfl⟩
            have d0 : w.cell? ⟨b, off + j2, none⟩ = some (.int .i64 (z j2)) := hc j2 (by rw [Hzl.out]; omega)
            rw [hc0] at d0
            have hwa := HBr.out.trans (HB2.out.mono hzr)
            have hza := hwa.size
            have hwb := hwa.trans (HB6.out.mono hza)
            have cc := (hwb.cell (p := ⟨b, off + j2, none⟩) hbw).trans d0
            have hbl := Nat.lt_of_lt_of_le hbw hwb.size
            have hk0 : (0 : Int) ≤ (j2 : Int) := by omega
            have hk1 : (j2 : Int) < (j : Int) := by omega
            have Hzj := keep hc0
            clear hc hc0 d0 hwa hwb
            by_cases hcz : c0 = 0
            · have tz : (c0 != 0) = false := by simp [hcz]
              clear hcz
              go_wp2_with fail
              go_roundw
              case rel => exact ⟨j2 + 1, by go_num, by omega, HB6⟩
              case measure => simp [intOf]; omega
            · have tz : (c0 != 0) = true := by simpa using hcz
              have hmem : c0 ∈ a5.nums := by
                rw [Hnu5.out, ← Hzj.out]
                exact csAt_mem (by rw [Hzj.out]; exact hcz) hjl
              have his := faultIs_any HE5.out c0 hcz wr HB6.out hz6
              rw [decide_eq_true hmem] at his
              have His := keep his
              clear hcz hmem his
              go_wp2_with fail
              refine His.out.mono ?_
              rintro e w7 ⟨rfl, hB7⟩
              have HB7 : Keep (Below w2.heap.size w2 w7) := ⟨HB6.out.trans (hB7.mono hz6)⟩
              clear hB7
              go_wp2_with fail
              go_roundw
              case rel => exact ⟨j2 + 1, by go_num, by omega, HB7⟩
              case measure => simp [intOf]; omega
          · obtain rfl : j2 = j := by omega
            have tl2 : decide ((j2 : Int) < (j2 : Int)) = false := by simp
            have hp := HBr.out.trans ((HB2.out.trans (HB6.out.mono hz2)).mono hzr)
            have Hp := keep hp
            clear hp
            go_wp2_with fail
            go_ret
            exact ⟨rfl, Hp.out⟩
--]REG
end Go.Proofs.YthamnnhpagllcaaDoor
