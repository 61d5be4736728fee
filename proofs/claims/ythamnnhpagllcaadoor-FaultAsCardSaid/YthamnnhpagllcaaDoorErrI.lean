/- The chapter's example; light layers; a number's text by the statements' own words. -/
import Derived.Test.YthamnnhpagllcaaDoorErrH
import Derived.IntWalk
namespace Go.Proofs.YthamnnhpagllcaaDoor
open Go.RowKit Go.Extern.Stop Go.Stop Go.Extern

theorem IsE.here {W : World} {B d k : Nat} {v : Value} {a : EA} (h : IsE W B d k v a) (hB : B ≤ W.heap.size) : IsE W W.heap.size d k v a := h.more hB
/-- A wrapped error, in the world behind. -/
theorem IsE.wrapped {W W' : World} {d k b : Nat} {v : Value} {a : EA} {op nm : ByteArray} (h : IsE W W.heap.size d k v a) (hb : Below W.heap.size W W') (hr : W'.heap[b]? = some (.cells #[.string op, .string nm, v] 43 (0, 0))) :
    IsE W' W'.heap.size d (k + 1) (.iface 39 (.pointer (some ⟨b, 0, none⟩))) ⟨a.first, op :: a.ops, op.data.toList ++ [32] ++ nm.data.toList ++ [58, 32] ++ a.txt, a.nums⟩ :=
  .fault d k b op nm v a (row_lt hr) hr ((h.under hb).more hb.size)
theorem itoa52 : Lib.itoa 52 = [53, 50] := by simp [Lib.itoa, Lib.decDigits]
set_option maxRecDepth 100000 in
set_option maxHeartbeats 4000000 in
theorem known_any (w : World) (he : Env w) (hN : 5 ≤ w.heap.size) : Calls Tryd.prog 7 #[] w (PB true w) := by
  have hn0 : Calls Tryd.prog 20 #[.iface 25 (.int .i64 52)] w (QB false w) := none_num 52 w
  have hw := wrap_some ⟨#[103, 101, 116]⟩ ⟨#[97]⟩ _ _ w hn0
  have hneq := ifaceNeq
  have hnn := nilNil
  have Hw := keep hw
  have He := keep he
  clear hn0 hw he
  go_enter Tryd.func7, Tryd.ntmps7
  go_wp2_with fail
  refine Hw.out.mono ?_
  rintro e w1 ⟨b, rfl, hb, hr, hB1⟩
  have he1 := He.out.below hB1 hN
  have hN1 := Nat.le_trans hN hB1.size
  have hE0 := (IsE.num (W := w) (B := w.heap.size) 0 52 (by omega) (by omega)).wrapped hB1 hr
  have htx := text_any hE0 hN1 w1 (Below.refl _ _) (Nat.le_refl _) he1 (by simp [errTxt, itoa52])
  have e1 : (⟨#[103, 101, 116]⟩ : ByteArray).data.toList ++ [32] ++ (⟨#[97]⟩ : ByteArray).data.toList ++ [58, 32] ++ errTxt 52 = [103, 101, 116, 32, 97, 58, 32, 101, 114, 114, 32, 53, 50] := by simp [errTxt, itoa52]
  simp only [e1] at htx
  have HE := keep hE0
  have Htx := keep htx
  have He1 := keep he1
  have HB1 := keep hB1
  clear hE0 htx he1 hB1 hr e1
  go_wp2_with fail
  refine Htx.out.mono ?_
  rintro e w2 ⟨rfl, hB2⟩
  have HB2 := keep hB2
  have hz2 := hB2.size
  refine ?_
  go_wp2_with fail
  have he2 := He1.out.below HB2.out hN1
  refine (code_any HE.out hN1 w2 HB2.out hz2 he2 (by simp)).mono ?_
  rintro e w3 ⟨rfl, hB3⟩
  have HB3 := keep (HB2.out.trans (hB3.mono hz2))
  have hz3 := HB3.out.size
  clear hB3 he2
  go_wp2_with fail
  refine (faultIs_any HE.out 52 (by omega) w3 HB3.out hz3).mono ?_
  rintro e w4 ⟨rfl, hB4⟩
  have HB4 := keep (HB3.out.trans (hB4.mono hz3))
  have hz4 := HB4.out.size
  have d1 : decide ((52 : Int) ∈ [(52 : Int)]) = true := by decide
  have d2 : decide ((53 : Int) ∈ [(52 : Int)]) = false := by decide
  simp only [d1]
  clear hB4
  go_wp2_with fail
  refine (faultIs_any HE.out 53 (by omega) w4 HB4.out hz4).mono ?_
  rintro e w5 ⟨rfl, hB5⟩
  have HB5 := keep (HB4.out.trans (hB5.mono hz4))
  have hz5 := HB5.out.size
  simp only [d2]
  clear hB5
  go_wp2_with fail
  refine (wrap_none ⟨#[120]⟩ ⟨#[121]⟩ .nilIface w5 (none_nil w5)).mono ?_
  rintro e w6 ⟨rfl, hw6⟩
  rw [hw6]
  clear hw6
  go_wp2_with fail
  refine (join_any w5 w5.heap.size none 0 0 [] w5 rfl (by omega) Reads.none_ (by simp)).mono ?_
  rintro e w7 ⟨hB7, ⟨_, rfl⟩ | ⟨x, hx, _⟩ | ⟨hx, _⟩⟩
  · have HB7 := keep (HB5.out.trans (hB7.mono hz5))
    have hz7 := HB7.out.size
    clear hB7
    have hE7 : IsE w7 w7.heap.size 0 1 (.iface 39 (.pointer (some ⟨b, 0, none⟩))) _ := (HE.out.under HB7.out).more hz7
    have hno : Calls Tryd.prog 20 #[.iface 39 (.pointer (some ⟨b, 0, none⟩))] w7 (QB false w7) := none_ptr _ (.inl rfl) _ w7
    have hw8 := wrap_some ⟨#[98]⟩ ⟨#[99]⟩ _ _ w7 hno
    have HE7 := keep hE7
    have Hw8 := keep hw8
    clear hE7 hno hw8
    go_wp2_with fail
    refine Hw8.out.mono ?_
    rintro e w8 ⟨b8, rfl, hb8, hr8, hB8⟩
    have hE8 := HE7.out.wrapped hB8 hr8
    have HB8 := keep (HB7.out.trans (hB8.mono hz7))
    have hz8 := HB8.out.size
    have he8 := He1.out.below HB8.out hN1
    have hop := ops_any hE8 (Nat.le_trans hN1 hz8) w8 (Below.refl _ _) (Nat.le_refl _) he8 (by simp)
    have Hop := keep hop
    clear hE8 hr8 hB8 he8 hop
    go_wp2_with fail
    refine Hop.out.mono ?_
    rintro e w9 ⟨u, rfl, hS9, hB9⟩
    have HB9 := keep (HB8.out.trans (hB9.mono hz8))
    have hal : Below w9.heap.size w9 (w9.alloc (.cells #[.string ⟨#[98]⟩, .string ⟨#[103, 101, 116]⟩] 9)) := (Below.refl _ _).alloc (Nat.le_refl _) _
    have hS10 := hS9.below hal
    have hS2 : SO (w9.alloc (.cells #[.string ⟨#[98]⟩, .string ⟨#[103, 101, 116]⟩] 9)) (.slice (some ⟨w9.heap.size, 0, none⟩) 2 2) [⟨#[98]⟩, ⟨#[103, 101, 116]⟩] :=
      ⟨⟨rfl, .inr ⟨w9.heap.size, 2, _, rfl, Nat.zero_le _, heap_alloc_new w9 _, Nat.le_refl _, by decide, rfl, rfl⟩⟩⟩
    have hst := strings_any _ _ _ _ _ hS10 hS2 (by simp) (by simp)
    simp only at hst
    have Hst := keep hst
    have Hal := keep hal
    have HB10 := keep (HB1.out.trans (HB9.out.mono HB1.out.size))
    clear hS9 hB9 hal hS10 hS2 hst
    go_wp2_with fail
    refine Hst.out.mono ?_
    rintro e w11 ⟨rfl, hB11⟩
    have hp := HB10.out.trans ((Hal.out.trans (hB11.mono Hal.out.size)).mono HB10.out.size)
    clear hB11
    go_wp2_with fail
    go_ret
    exact ⟨rfl, hp⟩
  · simp at hx
  · simp at hx
/-! ### Layers -/
structure RdL (W : World) (B : Nat) (A : Option Addr) (n : Nat) (op nm : Nat → ByteArray) : Prop where
  out : 0 < n → ∃ b off, A = some ⟨b, off, none⟩ ∧ b < B ∧ ∀ i, i < n → W.cell? ⟨b, off + i * 2, none⟩ = some (.string (op i)) ∧ W.cell? ⟨b, off + i * 2 + 1, none⟩ = some (.string (nm i))
def LightPost (n : Nat) (op nm : Nat → ByteArray) (w : World) (e : Ending) (w' : World) : Prop := ∃ r, e = .returned (.bool r) ∧ w' = w ∧ (r = true → n ≤ 12 ∧ ∀ i, i < n → (op i).size ≤ 30 ∧ (nm i).size ≤ 30)
set_option maxRecDepth 100000 in
set_option maxHeartbeats 2000000 in
theorem light_any (A : Option Addr) (n c : Nat) (op nm : Nat → ByteArray) (w : World) (hR : RdL w w.heap.size A n op nm) (hn : n ≤ maxLen) (hs : ∀ i, i < n → (op i).size ≤ maxLen ∧ (nm i).size ≤ maxLen) :
    Calls Tryd.prog 8 #[.slice A n c] w (LightPost n op nm w) := by
  unfold maxLen at hn hs
  have HR := keep hR
  have Hs := keep hs
  clear hR hs
  go_enter Tryd.func8, Tryd.ntmps8
  by_cases h12 : 12 < n
  · have ht : decide ((12 : Int) < (n : Int)) = true := by simp; omega
    go_wp2_with fail
    go_ret
    exact ⟨false, rfl, rfl, fun h => by cases h⟩
  · have ht : decide ((12 : Int) < (n : Int)) = false := by simp; omega
    go_wp2_with fail
    go_loop [3] (fun i => ∃ j : Nat, i = .int .i64 j ∧ j ≤ n ∧ Keep (∀ q, q < j → (op q).size ≤ 30 ∧ (nm q).size ≤ 30)) (fun i => n - (intOf i).toNat)
    case atStart => exact ⟨0, rfl, Nat.zero_le _, ⟨fun q hq => absurd hq (by omega)⟩⟩
    case round =>
      obtain ⟨j, rfl, hj, Hq⟩ := hrel
      by_cases hjn : j < n
      · have hl : decide ((j : Int) < (n : Int)) = true := by simp; omega
        obtain ⟨b, off, rfl, hb, hc⟩ := HR.out.out (by omega)
        obtain ⟨c0, c1⟩ := hc j hjn
        obtain ⟨s0, s1⟩ := Hs.out j hjn
        have hk0 : (0 : Int) ≤ (j : Int) := by omega
        have hk1 : (j : Int) < (n : Int) := by omega
        clear hc
        by_cases h0 : 30 < (op j).size
        · have t0 : decide ((30 : Int) < ((op j).size : Int)) = true := by simp; omega
          go_wp2_with fail
          go_ret
          exact ⟨false, rfl, rfl, fun h => by cases h⟩
        · have t0 : decide ((30 : Int) < ((op j).size : Int)) = false := by simp; omega
          by_cases h1 : 30 < (nm j).size
          · have t1 : decide ((30 : Int) < ((nm j).size : Int)) = true := by simp; omega
            go_wp2_with fail
            go_ret
            exact ⟨false, rfl, rfl, fun h => by cases h⟩
          · have t1 : decide ((30 : Int) < ((nm j).size : Int)) = false := by simp; omega
            go_wp2_with fail
            go_round
            case rel =>
              refine ⟨j + 1, by go_num, by omega, ⟨fun q hq => ?_⟩⟩
              rcases Nat.lt_or_ge q j with h | h
              · exact Hq.out q h
              · obtain rfl : q = j := by omega
                exact ⟨by omega, by omega⟩
            case measure => simp [intOf]; omega
      · obtain rfl : j = n := by omega
        have hl : decide ((j : Int) < (j : Int)) = false := by simp
        go_wp2_with fail
        go_ret
        exact ⟨true, rfl, rfl, fun _ => ⟨by omega, Hq.out⟩⟩
end Go.Proofs.YthamnnhpagllcaaDoor
