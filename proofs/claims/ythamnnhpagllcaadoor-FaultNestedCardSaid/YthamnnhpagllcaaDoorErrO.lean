/- Errors, joined, wrapped on: the walk. -/
import Derived.Test.YthamnnhpagllcaaDoorErrN
namespace Go.Proofs.YthamnnhpagllcaaDoor
open Go.RowKit Go.Extern.Stop Go.Stop Go.Extern

theorem inList : ((opN 0).toList == [105, 110]) = true := by first | decide | kernel_rfl | simp [opN]
--[REG


set_option maxRecDepth 100000 in
set_option maxHeartbeats 4000000 in
theorem nested_walk (A1 : Option Addr) (n c1 : Nat) (zs : List Int) (op : ByteArray) (dp : Int) (w : World) (he : Env w) (hN : 5 ≤ w.heap.size) (hzl : zs.length = n) (hC : RdI w w.heap.size .i64 A1 zs) (hzb0 : ∀ i, -9223372036854775808 ≤ zs.getD i 0 ∧ zs.getD i 0 ≤ 9223372036854775807) (hop : op.size ≤ maxLen) (hd0 : 0 ≤ dp) :
    Calls Tryd.prog 6 #[.slice A1 n c1, .string op, .int .u8 dp] w (PB true w) := by
  have hk := known_any w he hN
  have Hk := keep hk
  have He := keep he
  obtain ⟨z, hzz⟩ : ∃ z : Nat → Int, z = fun i => zs.getD i 0 := ⟨_, rfl⟩
  have hzb : ∀ i, -9223372036854775808 ≤ z i ∧ z i ≤ 9223372036854775807 := by rw [hzz]; exact hzb0
  have HC0 := keep hC
  have HC : Keep (∀ hp : 0 < zs.length, ∃ b off, A1 = some ⟨b, off, none⟩ ∧ b < w.heap.size ∧ ∀ i, i < zs.length → w.cell? ⟨b, off + i, none⟩ = some (.int .i64 (z i))) := ⟨fun hp => by rw [hzz]; exact hC.all_ hp⟩
  have Hzl := keep hzl
  unfold maxLen at hop
  obtain ⟨D, hD, hD4⟩ : ∃ D : Nat, Int.tmod dp 4 = D ∧ D < 4 := ⟨(Int.tmod dp 4).toNat, by rw [Int.tmod_eq_emod_of_nonneg hd0]; omega, by rw [Int.tmod_eq_emod_of_nonneg hd0]; omega⟩
  clear hk he hC hzl hzb0 hzz HC0
  go_enter Tryd.func6, Tryd.ntmps6
  go_wp2_with fail
  refine Hk.out.mono ?_
  rintro e w1 ⟨rfl, hB1⟩
  have HB1 := keep hB1
  have hz1 := hB1.size
  clear hB1 Hk
  by_cases hn : n ≤ 8
  case neg =>
    have t1 : decide ((n : Int) > 8) = true := by simp; omega
    go_wp2_with fail
    go_ret
    exact ⟨rfl, HB1.out⟩
  case pos =>
  have t1 : decide ((n : Int) > 8) = false := by simp; omega
  by_cases hn2 : 30 < op.size
  · have t2 : decide ((op.size : Int) > 30) = true := by simp; omega
    go_wp2_with fail
    go_ret
    exact ⟨rfl, HB1.out⟩
  have t2 : decide ((op.size : Int) > 30) = false := by simp; omega
  go_wp2_with fail
  go_loopw [7, 8, 9, 10] (fun l t f i wr => ∃ (j : Nat) (v1 : Value) (tx : List UInt8) (f1 : Int) (xs : List Value), v1 = l ∧ t = .string ⟨tx.toArray⟩ ∧ f = .int .i64 f1 ∧ i = .int .i64 j ∧ j ≤ n ∧ Keep (MAt wr (nz z j) xs) ∧ Keep (wr.ownsRow w.heap.size 27 1 v1 xs.length xs) ∧ Keep (ctxt (nz z j) = tx) ∧ Keep (cfirst (nz z j) = f1) ∧ Keep (Below w.heap.size w wr)) (fun _ _ _ i _ => n - (intOf i).toNat)
  case atStart => exact ⟨0, .slice none 0 0, [], 0, [], rfl, rfl, rfl, rfl, Nat.zero_le _, ⟨MAt.nil _⟩, ⟨⟨rfl, .inl ⟨rfl, rfl⟩⟩⟩, ⟨rfl⟩, ⟨rfl⟩, HB1⟩
  case round =>
    obtain ⟨j, v1, tx, f1, xs, rfl, rfl, rfl, rfl, hj, HL, HO, Htx, Hf1, HBr⟩ := hrel
    have hzr := HBr.out.size
    have htl := ctxt_length hzb j
    have htl0 := htl
    rw [Htx.out] at htl
    have hkj := nz_length z j
    have hxl : xs.length ≤ 8 := by have := HL.out.len; omega
    by_cases hjl : j < n
    · obtain ⟨b, off, rfl, hbw, hc⟩ := HC.out (by rw [Hzl.out]; omega)
      obtain ⟨c0, hc0⟩ : ∃ c, z j = c := ⟨_, rfl⟩
      have d0 : w.cell? ⟨b, off + j, none⟩ = some (.int .i64 (z j)) := hc j (by rw [Hzl.out]; omega)
      rw [hc0] at d0
      have Hd := keep d0
      have Hzj := keep hc0
      have hb0 := hzb j
      rw [hc0] at hb0
      obtain ⟨hl0, hl1⟩ := hb0
      have cc := (HBr.out.cell (p := ⟨b, off + j, none⟩) hbw).trans d0
      have hbl : b < wr.heap.size := Nat.lt_of_lt_of_le hbw hzr
      have hk0 : (0 : Int) ≤ (j : Int) := by omega
      have hk1 : (j : Int) < (n : Int) := by omega
      have tl : decide ((j : Int) < (n : Int)) = true := by simp; omega
      have hjn := hjl
      clear hc d0 hc0 hjl
      by_cases hcz : c0 = 0
      · have tz : (c0 == 0) = true := by simpa using hcz
        have HZ := nz_zero (Hzj.out.trans hcz)
        have HZ' := keep HZ
        clear hcz HZ
        go_wp2_with fail
        go_roundw
        case rel => exact ⟨j + 1, v1, tx, f1, xs, rfl, rfl, rfl, by go_num, by omega, ⟨by rw [HZ'.out]; exact HL.out⟩, HO, ⟨by rw [HZ'.out]; exact Htx.out⟩, ⟨by rw [HZ'.out]; exact Hf1.out⟩, HBr⟩
        case measure => simp [intOf]; omega
      · have tz : (c0 == 0) = false := by simpa using hcz
        have Hcz := keep hcz
        have HZ := keep (nz_one (z := z) (j := j) (fun h => hcz (Hzj.out.symm.trans h)))
        have hws := wrap_step opN nmN c0 0 (.iface 25 (.int .i64 c0)) wr (.inr ⟨by simp, .num 0 c0 hl0 hl1⟩)
        have Hws := keep hws
        clear hcz hws
        by_cases hk : f1 = 0
        · have tk : (f1 == 0) = true := by simp [hk]
          have he : nz z j = [] := cfirst_zero (Hf1.out.trans hk)
          have htx0 : tx = [] := by rw [← Htx.out, he]; rfl
          have He0 := keep he
          have Htx0 := keep htx0
          have htl0 : tx.length ≤ 400 := by omega
          clear he htx0 hk
          go_wp2_with fail
          refine Hws.out.mono ?_
          rintro e w2 ⟨v9, rfl, hE2, hB2⟩
          have hE9 : IsE w2 w2.heap.size 0 1 v9 (eN c0) := by
            rcases hE2 with ⟨h, _⟩ | ⟨_, h⟩
            · exact absurd h Hcz.out
            · exact h
          obtain ⟨T9, x9, hx9⟩ := hE9.iface
          subst hx9
          have HOq := keep ((HO.out).kept (below_grownBy hB2 none) (by cases v1.ownBlock <;> simp))
          have HBq := keep (HBr.out.trans (hB2.mono hzr))
          have HLq := keep ((HL.out.below hB2).step Hcz.out hE9)
          have hzq := HBq.out.size
          clear hE2 hB2 hE9 Hws
          go_wp2_with (at_builtin; refine wpList_append_val (w0 := w) (W := w2) w.heap.size rfl (.tmp 44) (.tmp 51) 48 27 .nilIface 16 rfl Tryd.underlying48 (by kernel_rfl) rfl v1 xs.length xs (.iface T9 x9) rfl rfl rfl HOq.out HBq.out hzq (by omega) (by omega) ?_)
          intro v3 w3 hO3 hb3 hg3 _
          have hL3 := (HLq.out).grown hg3 (own_typed HOq.out)
          have HO3 := keep hO3
          have HL3 := keep hL3
          have Hb3 := keep hb3
          have hz3 := hb3.size
          have Hc3 := keep ((hb3.cell (p := ⟨b, off + j, none⟩) hbw).trans Hd.out)
          have hbl3 : b < w3.heap.size := Nat.lt_of_lt_of_le hbw hz3
          have c3 := Hc3.out
          have hdec := dec_any c0 hl0 hl1 w3
          have Hdec := keep hdec
          have ha1 := add_str tx [105, 110, 32, 120, 58, 32, 101, 114, 114, 32] (by omega) (by simp)
          have ha2 := add_str (tx ++ [105, 110, 32, 120, 58, 32, 101, 114, 114, 32]) (Lib.itoa c0) (by simp only [List.length_append, List.length_cons, List.length_nil]; omega) (by have := Lib.itoa_length_le c0 hl0 hl1; omega)
          have e10 : ([105, 110, 32, 120, 58, 32, 101, 114, 114, 32] : List UInt8).toArray = #[105, 110, 32, 120, 58, 32, 101, 114, 114, 32] := rfl
          rw [e10] at ha1
          clear hO3 hL3 hb3 hg3 hdec
          go_wp2_with fail
          refine Hdec.out.mono ?_
          rintro e w4 ⟨rfl, hw4⟩
          rw [hw4]
          clear hw4
          go_wp2_with fail
          go_roundw
          case rel => exact ⟨j + 1, v3, _, c0, _, rfl, rfl, rfl, by go_num, by omega, ⟨by rw [HZ.out, Hzj.out]; exact HL3.out⟩, ⟨by rw [List.length_append]; exact HO3.out⟩, ⟨by rw [HZ.out, Hzj.out, He0.out, ctxt_one, Htx0.out, eN_txt]; rfl⟩, ⟨by rw [HZ.out, Hzj.out, He0.out]; rfl⟩, Hb3⟩
          case measure => simp [intOf]; omega
        · have tk : (f1 == 0) = false := by simpa using hk
          have he : nz z j ≠ [] := cfirst_ne (by rw [Hf1.out]; exact hk)
          have He0 := keep he
          have htl0 : tx.length ≤ 400 := by omega
          have ha0 := add_str tx [10] (by omega) (by simp)
          have e10' : ([10] : List UInt8).toArray = #[10] := rfl
          rw [e10'] at ha0
          clear he hk
          go_wp2_with fail
          refine Hws.out.mono ?_
          rintro e w2 ⟨v9, rfl, hE2, hB2⟩
          have hE9 : IsE w2 w2.heap.size 0 1 v9 (eN c0) := by
            rcases hE2 with ⟨h, _⟩ | ⟨_, h⟩
            · exact absurd h Hcz.out
            · exact h
          obtain ⟨T9, x9, hx9⟩ := hE9.iface
          subst hx9
          have HOq := keep ((HO.out).kept (below_grownBy hB2 none) (by cases v1.ownBlock <;> simp))
          have HBq := keep (HBr.out.trans (hB2.mono hzr))
          have HLq := keep ((HL.out.below hB2).step Hcz.out hE9)
          have hzq := HBq.out.size
          clear hE2 hB2 hE9 Hws
          go_wp2_with (at_builtin; refine wpList_append_val (w0 := w) (W := w2) w.heap.size rfl (.tmp 44) (.tmp 51) 48 27 .nilIface 16 rfl Tryd.underlying48 (by kernel_rfl) rfl v1 xs.length xs (.iface T9 x9) rfl rfl rfl HOq.out HBq.out hzq (by omega) (by omega) ?_)
          intro v3 w3 hO3 hb3 hg3 _
          have hL3 := (HLq.out).grown hg3 (own_typed HOq.out)
          have HO3 := keep hO3
          have HL3 := keep hL3
          have Hb3 := keep hb3
          have hz3 := hb3.size
          have Hc3 := keep ((hb3.cell (p := ⟨b, off + j, none⟩) hbw).trans Hd.out)
          have hbl3 : b < w3.heap.size := Nat.lt_of_lt_of_le hbw hz3
          have c3 := Hc3.out
          have hdec := dec_any c0 hl0 hl1 w3
          have Hdec := keep hdec
          have ha1 := add_str (tx ++ [10]) [105, 110, 32, 120, 58, 32, 101, 114, 114, 32] (by simp only [List.length_append, List.length_cons, List.length_nil]; omega) (by simp)
          have ha2 := add_str (tx ++ [10, 105, 110, 32, 120, 58, 32, 101, 114, 114, 32]) (Lib.itoa c0) (by simp only [List.length_append, List.length_cons, List.length_nil]; omega) (by have := Lib.itoa_length_le c0 hl0 hl1; omega)
          have e10 : ([105, 110, 32, 120, 58, 32, 101, 114, 114, 32] : List UInt8).toArray = #[105, 110, 32, 120, 58, 32, 101, 114, 114, 32] := rfl
          rw [e10] at ha1
          clear hO3 hL3 hb3 hg3 hdec
          go_wp2_with fail
          refine Hdec.out.mono ?_
          rintro e w4 ⟨rfl, hw4⟩
          rw [hw4]
          clear hw4
          go_wp2_with fail
          go_roundw
          case rel => exact ⟨j + 1, v3, _, f1, _, rfl, rfl, rfl, by go_num, by omega, ⟨by rw [HZ.out, Hzj.out]; exact HL3.out⟩, ⟨by rw [List.length_append]; exact HO3.out⟩, ⟨by rw [HZ.out, Hzj.out, ctxt_more _ He0.out, Htx.out, eN_txt]; simp⟩, ⟨by rw [HZ.out, Hzj.out, cfirst_more _ He0.out]; exact Hf1.out⟩, Hb3⟩
          case measure => simp [intOf]; omega
    · obtain rfl : j = n := by omega
      have tl : decide ((j : Int) < (j : Int)) = false := by simp
      obtain ⟨L, hLx⟩ : ∃ L, xs.length = L := ⟨_, rfl⟩
      have hO' := HO.out
      rw [hLx] at hO'
      obtain ⟨A9, c9, rfl, hR9⟩ := own_slice hO'
      have hjn := join_any wr wr.heap.size A9 L c9 xs wr hLx (by omega) hR9 HL.out.elE
      have Hjn := keep hjn
      have he1 := He.out.below HBr.out hN
      have hNr := Nat.le_trans hN hzr
      have He1 := keep he1
      have HZb := keep hzb
      have hnest := fun e w' (hp : JoinPost (xs.filter live) wr e w') => nest_of HL.out (by omega) hp
      obtain ⟨cs, hcs⟩ : ∃ cs, nz z j = cs := ⟨_, rfl⟩
      have hne0 : cs ≠ [] → cfirst cs ≠ 0 := fun h h' => h (by rw [← hcs] at h' ⊢; exact cfirst_zero h')
      have Hne0 := keep hne0
      rw [hcs] at hnest htl0 hkj
      have Hnest := keep hnest
      have Hf := keep (Hf1.out)
      have Ht := keep (Htx.out)
      rw [hcs] at Hf Ht
      have Hcs := keep hcs
      clear hR9 hjn he1 hzb hO' HO hnest hcs hne0 Hf1 Htx hLx
      go_wp2_with fail
      refine Hjn.out.mono ?_
      intro e w2 hp2
      obtain ⟨hB2, hcase⟩ := Hnest.out e w2 hp2
      have hv0 : ∃ v, e = .returned v ∧ WAt w2 cs op 0 v := by
        rcases hcase with ⟨h1, he⟩ | ⟨h1, v, d, k, he, hE⟩
        · exact ⟨_, he, ⟨.inl ⟨h1, rfl⟩⟩⟩
        · exact ⟨v, he, ⟨.inr ⟨h1, d, k, hE⟩⟩⟩
      obtain ⟨v0, rfl, hv0⟩ := hv0
      have Hv0 := keep hv0
      have HB2 := keep hB2
      clear hv0 hB2 hcase hp2 Hjn Hnest
      go_wp2_with fail
      go_loopw [8, 11, 12] (fun t e i wq => ∃ (m : Nat) (v : Value) (tx : List UInt8), v = e ∧ t = .string ⟨tx.toArray⟩ ∧ i = .int .i64 m ∧ m ≤ D ∧ Keep (WAt wq cs op m v) ∧ Keep (wtx op.data.toList (ctxt cs) m = tx) ∧ Keep (Below wr.heap.size wr wq)) (fun _ _ i _ => D - (intOf i).toNat)
      case atStart => exact ⟨0, _, _, rfl, rfl, rfl, Nat.zero_le _, Hv0, Ht, HB2⟩
      case round =>
        obtain ⟨m, v5, tx, rfl, rfl, rfl, hm, HW, Hw, HBq⟩ := hrel
        have hzq := HBq.out.size
        by_cases hml : m < D
        · have tm : decide (m < D) = true := by simpa using hml
          have hm' := hml
          have hol : op.data.toList.length ≤ 30 := by rw [Array.length_toList]; show op.size ≤ 30; omega
          have hil := Lib.itoa_length_le (m : Int) (by omega) (by omega)
          have hwl := wtx_length op.data.toList (ctxt cs) hol m (by omega)
          rw [Hw.out] at hwl
          have hdec := dec_any (m : Int) (by omega) (by omega) wr
          have Hdec := keep hdec
          have hwr := HW.out.wrap Hne0.out
          have Hwr := keep hwr
          clear hdec hwr hml
          go_wp2_with fail
          refine Hdec.out.mono ?_
          rintro e w3 ⟨rfl, hw3⟩
          rw [hw3]
          clear hw3 Hdec
          go_wp2_with fail
          refine Hwr.out.mono ?_
          rintro e w4 ⟨v6, rfl, hW4, hB4⟩
          have HW4 := keep hW4
          have HB4 := keep (HBq.out.trans (hB4.mono hzq))
          have hz4 := hB4.size
          have hdec := dec_any (m : Int) (by omega) (by omega) w4
          have Hdec := keep hdec
          have ha1 : ∀ W : World, (Op.stringOp .add op ⟨#[32]⟩).run Tryd.prog W = .ok (.string ⟨(op.data.toList ++ [32]).toArray⟩) W := add_str op.data.toList [32] (by omega) (by simp)
          have ha2 := add_str (op.data.toList ++ [32]) (Lib.itoa (m : Int)) (by simp only [List.length_append, List.length_cons, List.length_nil]; omega) (by omega)
          have ha3 := add_str (op.data.toList ++ 32 :: Lib.itoa (m : Int)) [58, 32] (by simp only [List.length_append, List.length_cons]; omega) (by simp)
          have ha4 := add_str (op.data.toList ++ 32 :: (Lib.itoa (m : Int) ++ [58, 32])) tx (by simp only [List.length_append, List.length_cons, List.length_nil]; omega) (by omega)
          have e58 : ([58, 32] : List UInt8).toArray = #[58, 32] := rfl
          rw [e58] at ha3
          clear hdec hW4 hB4 Hwr
          go_wp2_with fail
          refine Hdec.out.mono ?_
          rintro e w5 ⟨rfl, hw5⟩
          rw [hw5]
          clear hw5 Hdec
          go_wp2_with fail
          go_roundw
          case rel => exact ⟨m + 1, v6, _, rfl, rfl, by go_num, by omega, HW4, ⟨by rw [wtx, Hw.out]; simp⟩, HB4⟩
          case measure => simp [intOf]; omega
        · obtain rfl : m = D := by omega
          have tm : decide (m < m) = false := by simp
          have hwl := wtx_length op.data.toList (ctxt cs) (by rw [Array.length_toList]; show op.size ≤ 30; omega) m (by omega)
          rw [Hw.out] at hwl
          have HB5 := keep (HBr.out.trans (HBq.out.mono hzr))
          have hz5 := HB5.out.size
          by_cases hf : f1 = 0
          · have tk : (f1 == 0) = true := by simp [hf]
            have he : cs = [] := by rw [← Hcs.out]; exact cfirst_zero (by rw [Hcs.out]; exact Hf.out.trans hf)
            have hv : v5 = .nilIface := by
              rcases HW.out.out with ⟨_, h⟩ | ⟨h, _⟩
              · exact h
              · exact absurd he h
            subst hv
            have hnn := nilNil
            clear hf he
            go_wp2_with fail
            go_ret
            exact ⟨rfl, HB5.out⟩
          · have tk : (f1 == 0) = false := by simpa using hf
            have hcn : cs ≠ [] := fun h => hf (by rw [← Hf.out, h]; rfl)
            obtain ⟨d5, k5, hE5⟩ : ∃ d k, IsE wr wr.heap.size d k v5 (aN cs op m) := by
              rcases HW.out.out with ⟨h, _⟩ | ⟨_, h⟩
              · exact absurd h hcn
              · exact h
            obtain ⟨T5, x5, hx5⟩ := hE5.iface
            subst hx5
            have hN5 := Nat.le_trans hN hz5
            have he5 := He.out.below HB5.out hN
            have hops := ops_any hE5 hN5 wr (Below.refl _ _) (Nat.le_refl _) he5 (by show (List.replicate m op ++ [opN 0]).length ≤ _; rw [List.length_append, List.length_replicate]; simp; omega)
            have Hops := keep hops
            have HE5 := keep hE5
            have He5 := keep he5
            have hnil := ifaceNil T5 x5
            have tf : (f1 != f1) = false := by simp
            clear hops hE5 he5 hf hcn
            go_wp2_with fail
            refine Hops.out.mono ?_
            rintro e w6 ⟨u6, rfl, hS6, hB6⟩
            have HB6 := keep hB6
            have hz6 := hB6.size
            have he6 := He5.out.below hB6 hN5
            have htxt := text_any HE5.out hN5 w6 hB6 hz6 he6 (by show (wtx op.data.toList (ctxt cs) m).length ≤ _; rw [Hw.out]; omega)
            have e2 : (aN cs op m).txt = tx := Hw.out
            rw [e2] at htxt
            have Htxt := keep htxt
            have hall : (aN cs op m).ops.length = m + 1 := by show (List.replicate m op ++ [opN 0]).length = _; rw [List.length_append, List.length_replicate]; rfl
            obtain ⟨g6, c6, hu6, hg6, hcs6⟩ := hS6.at_ (by omega)
            rw [hall] at hu6
            subst hu6
            have hlast := hcs6 m (opN 0) (by show (List.replicate m op ++ [opN 0])[m]? = _; rw [List.getElem?_append_right (by simp)]; simp)
            have Hlast := keep hlast
            clear hB6 he6 htxt e2 hall hcs6 hlast hS6 Hops
            go_wp2_with fail
            refine Htxt.out.mono ?_
            rintro e w7 ⟨rfl, hB7⟩
            have HB7 := keep (HB6.out.trans (hB7.mono hz6))
            have hz7 := HB7.out.size
            have hl7 := (hB7.cell (p := ⟨g6, 0 + m, none⟩) hg6).trans Hlast.out
            have hg7 := Nat.lt_of_lt_of_le hg6 hB7.size
            have he7 := He5.out.below HB7.out hN5
            have hcod := code_any HE5.out hN5 w7 HB7.out hz7 he7 (by show (List.replicate m op ++ [opN 0]).length ≤ _; rw [List.length_append, List.length_replicate]; simp; omega)
            have e2 : (aN cs op m).first = f1 := Hf.out
            rw [e2] at hcod
            have Hcod := keep hcod
            have Hl7 := keep hl7
            clear hB7 hl7 he7 hcod e2 Htxt Hlast
            go_wp2_with fail
            refine Hcod.out.mono ?_
            rintro e w8 ⟨rfl, hB8⟩
            have HB8 := keep (HB7.out.trans (hB8.mono hz7))
            have hz8 := HB8.out.size
            have hl8 := (hB8.cell (p := ⟨g6, 0 + m, none⟩) hg7).trans Hl7.out
            rw [Nat.zero_add] at hl8
            have hg8 := Nat.lt_of_lt_of_le hg7 hB8.size
            have hm0 : (0 : Int) ≤ (m : Int) := by omega
            have hm1 : (m : Int) < (m : Int) + 1 := by omega
            have tin : ((opN 0).toList == [105, 110]) = true := inList
            clear hB8 Hcod
            go_wp2_with fail
            go_loopw [14] (fun i wq => ∃ j2 : Nat, i = .int .i64 j2 ∧ j2 ≤ j ∧ Keep (Below wr.heap.size wr wq)) (fun i _ => j - (intOf i).toNat)
            case atStart => exact ⟨0, rfl, Nat.zero_le _, HB8⟩
            case round =>
              obtain ⟨j2, rfl, hj2, HB9⟩ := hrel
              have hz9 := HB9.out.size
              by_cases hjl : j2 < j
              · have tl2 : decide ((j2 : Int) < (j : Int)) = true := by simp; omega
                obtain ⟨b, off, rfl, hbw, hc⟩ := HC.out (by rw [Hzl.out]; omega)
                obtain ⟨c0, hc0⟩ : ∃ c, z j2 = c := ⟨_, rfl⟩
                have d0 : w.cell? ⟨b, off + j2, none⟩ = some (.int .i64 (z j2)) := hc j2 (by rw [Hzl.out]; omega)
                rw [hc0] at d0
                have Hd := keep d0
                have hwb := HB5.out.trans (HB9.out.mono hz5)
                have cc := (hwb.cell (p := ⟨b, off + j2, none⟩) hbw).trans d0
                have hbl := Nat.lt_of_lt_of_le hbw hwb.size
                have Hwb := keep hwb
                have hk0 : (0 : Int) ≤ (j2 : Int) := by omega
                have hk1 : (j2 : Int) < (j : Int) := by omega
                have Hzj := keep hc0
                clear hc hc0 d0 hwb
                by_cases hcz : c0 = 0
                · have tz : (c0 != 0) = false := by simp [hcz]
                  clear hcz
                  go_wp2_with fail
                  go_roundw
                  case rel => exact ⟨j2 + 1, by go_num, by omega, HB9⟩
                  case measure => simp [intOf]; omega
                · have tz : (c0 != 0) = true := by simpa using hcz
                  have hmem : c0 ∈ (aN cs op m).nums := by
                    show c0 ∈ cs
                    rw [← Hcs.out, ← Hzj.out]
                    exact nz_mem (by rw [Hzj.out]; exact hcz) hjl
                  have hM := keep hmem
                  have his := faultIs_any HE5.out c0 hcz wr HB9.out hz9
                  rw [decide_eq_true hmem] at his
                  have His := keep his
                  clear hcz hmem his
                  go_wp2_with fail
                  refine His.out.mono ?_
                  rintro e w10 ⟨rfl, hB10⟩
                  have HB10 := keep (HB9.out.trans (hB10.mono hz9))
                  have hz10 := HB10.out.size
                  have c10 := (hB10.cell (p := ⟨b, off + j2, none⟩) hbl).trans cc
                  have hbl10 := Nat.lt_of_lt_of_le hbl hB10.size
                  have hi2 := isLaw_any HE5.out c0 w10 HB10.out hz10
                  rw [decide_eq_true hM.out] at hi2
                  have Hi2 := keep hi2
                  clear hB10 hi2 His
                  go_wp2_with fail
                  refine Hi2.out.mono ?_
                  rintro e w11 ⟨rfl, hB11⟩
                  have HB11 := keep (HB10.out.trans (hB11.mono hz10))
                  clear hB11 Hi2
                  go_wp2_with fail
                  go_roundw
                  case rel => exact ⟨j2 + 1, by go_num, by omega, HB11⟩
                  case measure => simp [intOf]; omega
              · obtain rfl : j2 = j := by omega
                have tl2 : decide ((j2 : Int) < (j2 : Int)) = false := by simp
                have hp := HB5.out.trans (HB9.out.mono hz5)
                have Hp := keep hp
                clear hp
                go_wp2_with fail
                go_ret
                exact ⟨rfl, Hp.out⟩
--]REG
end Go.Proofs.YthamnnhpagllcaaDoor
