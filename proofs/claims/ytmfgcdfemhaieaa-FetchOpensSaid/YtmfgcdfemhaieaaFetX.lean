/- Bytes of a text; what was kept of a fetch is taken up. -/
import Derived.Test.YtmfgcdfemhaieaaRound
namespace Go.Proofs.Ytmfgcdfemhaieaa
open Go.RowKit

/-- The bytes of a text: a row of one's own. -/
theorem conv_bytes {P : Program} (W : World) (src dst e : TypeId) {u : TypeDesc} (hs : P.underlying src = some u) (hd : P.underlying dst = some (.slice e)) (he : P.underlying e = some (.int .u8)) (s : ByteArray) (hl : s.size ≤ maxLen) :
    ∃ A c W', (convert src dst (.string s)).run P W = .ok (.slice A s.size c) W' ∧ OwnB W' W.heap.size e .u8 (.slice A s.size c) (byteL s) ∧ s.size ≤ c ∧ Below W.heap.size W W' := by
  have hge := grownCap_ge W s.size 0 e
  have hle : grownCap W s.size 0 e ≤ maxLen := grownCap_le_maxLen W _ 0 e hl
  have hcs : (Lib.bytesCells W e s).size = grownCap W s.size 0 e := by
    unfold Lib.bytesCells
    rw [Array.size_append, Array.size_map, Array.size_replicate]
    show s.size + _ = _
    omega
  refine ⟨_, _, _, Lib.run_convert_string_bytes W src dst e s hs hd he, ⟨⟨ints_length _ _, .inr ⟨W.heap.size, _, _, _, by rw [byteL_length], Nat.le_refl _, Lib.bytesWorld_at_new W e s, .inr (by rw [hcs]; exact Nat.le_refl _), by rw [byteL_length]; exact hge, hle, hcs, ?_⟩⟩⟩, hge, ⟨rfl, rfl, rfl, by rw [Lib.bytesWorld_size]; omega, fun k hk => Lib.bytesWorld_at_old W e s k hk⟩⟩
  rw [byteL_length]
  unfold Lib.bytesCells
  rw [Array.toList_append]
  have h1 : (s.data.map fun b => Value.int .u8 b.toNat).toList = ints .u8 (byteL s) := by
    rw [Array.toList_map, ints, byteL, List.map_map]
    rfl
  rw [h1]
  have h2 : s.size = (ints .u8 (byteL s)).length := by rw [ints_length, byteL_length]
  rw [h2]
  exact List.take_left
theorem byteL_byte (s : ByteArray) : ∀ x ∈ byteL s, 0 ≤ x ∧ x < 256 := by
  intro x hx
  simp only [byteL, List.mem_map] at hx
  obtain ⟨b, _, rfl⟩ := hx
  have := b.toNat_lt
  omega
/-- What a fetch that is taken up holds. -/
def openF (bs sum : List Int) (size : Int) : List Int × Nat × Nat × Bool :=
  match openR bs size with
  | none => ([], 0, 0, decide ((0 : Int) = max size 0) && decide (sumP [] = sum))
  | some (t, n, m) => (t, n, m, decide ((t.length : Int) = max size 0) && decide (sumP t = sum))
def OpenPost (bs sum : List Int) (size : Int) (w : World) (e : Ending) (w' : World) : Prop :=
  ∃ g, e = .returned (.pointer (some ⟨g, 0, none⟩)) ∧ w.heap.size ≤ g ∧ St w' g sum size (openF bs sum size).1 (openF bs sum size).2.1 (openF bs sum size).2.2.1 (openF bs sum size).2.2.2 false ∧ Below w.heap.size w w'
theorem open_none {bs sum : List Int} {size : Int} (h : openR bs size = none) {w w' : World} {g : Nat} (hg : w.heap.size ≤ g) (hF : Fet w' g sum size (.slice none 0 0) 0 0 (decide ((0 : Int) = max size 0) && decide (sumP [] = sum)) false) (hb : Below w.heap.size w w') : OpenPost bs sum size w (.returned (.pointer (some ⟨g, 0, none⟩))) w' := by
  refine ⟨g, rfl, hg, ?_, hb⟩
  unfold openF
  rw [h]
  exact ⟨⟨_, hF, OwnB.none_ _ _ _ _⟩⟩
theorem textF_byte {bs : List Int} (h : ∀ x ∈ bs, 0 ≤ x ∧ x < 256) (hl : bs.length ≤ 1000) : (∀ x ∈ (textF bs false).1, 0 ≤ x ∧ x < 256) ∧ (∀ x ∈ (textF bs false).2.1, 0 ≤ x ∧ x < 256) ∧ (textF bs false).1.length ≤ 1000 ∧ (textF bs false).2.1.length ≤ 1000 := by
  obtain ⟨kk, hkk⟩ := numR_left bs 0 0
  unfold textF textR
  simp only [Bool.false_eq_true, if_false]
  rcases hq : numR 0 0 bs with ⟨o, r⟩
  rw [hq] at hkk
  simp only at hkk
  have hr : ∀ x ∈ r, 0 ≤ x ∧ x < 256 := fun x hx => h x (by rw [hkk] at hx; exact List.mem_of_mem_drop hx)
  have hrl : r.length ≤ 1000 := by rw [hkk, List.length_drop]; omega
  cases o with
  | none => exact ⟨by simp, hr, by simp, hrl⟩
  | some n =>
    by_cases hn : n ≤ r.length
    · simp only [hn, if_true]
      exact ⟨fun x hx => hr x (List.mem_of_mem_take hx), fun x hx => hr x (List.mem_of_mem_drop hx), by rw [List.length_take]; omega, by rw [List.length_drop]; omega⟩
    · simp only [hn, if_false]
      exact ⟨by simp, hr, by simp, hrl⟩
theorem numF_byte {bs : List Int} {fl : Bool} (h : ∀ x ∈ bs, 0 ≤ x ∧ x < 256) : ∀ x ∈ (numF bs fl).2.1, 0 ≤ x ∧ x < 256 := by
  obtain ⟨kk, hkk⟩ := numR_left bs 0 0
  unfold numF
  cases fl with
  | true => simpa using h
  | false =>
    simp only [Bool.false_eq_true, if_false]
    rcases hq : numR 0 0 bs with ⟨o, r⟩
    rw [hq] at hkk
    simp only at hkk
    have hr : ∀ x ∈ r, 0 ≤ x ∧ x < 256 := fun x hx => h x (by rw [hkk] at hx; exact List.mem_of_mem_drop hx)
    cases o with
    | none => exact hr
    | some n => exact hr
--[REG
set_option maxRecDepth 100000 in
set_option maxHeartbeats 2000000 in
theorem open_any (sum : List Int) (size : Int) (s : ByteArray) (w : World) (hl : sum.length = 32) (hs : s.size ≤ 1000) :
    Calls Try.prog 16 #[.agg (headL sum size).toArray, .string s] w (OpenPost (byteL s) sum size w) := by
  have hra := heap_alloc_new w (.cells (headL sum size).toArray 33)
  have hba : Below w.heap.size w (w.alloc (.cells (headL sum size).toArray 33)) := (Below.refl _ _).alloc (Nat.le_refl _) _
  obtain ⟨A0, c0, w0, hcv, hO0, hc0, hB0⟩ := conv_bytes (P := Try.prog) (w.alloc (.cells (headL sum size).toArray 33)) 9 23 5 Try.underlying9 Try.underlying23 Try.underlying5 s (by unfold maxLen; omega)
  have hr0 := (hB0.block _ (row_lt hra)).trans hra
  have hb0 := hba.trans (hB0.mono hba.size)
  have hR0 : RdI w0 w0.heap.size .u8 A0 (byteL s) := by
    obtain ⟨A, c, he, _, hR⟩ := hO0.slice
    injection he with h1 h2 h3
    subst h1
    exact hR
  have hby := byteL_byte s
  have hbl := byteL_length s
  have hnr := newReader_any A0 s.size c0 (byteL s) w0.heap.size w0 hbl hR0 (Nat.le_refl _) (by omega)
  obtain ⟨bs, hbs⟩ : ∃ bs, byteL s = bs := ⟨_, rfl⟩
  rw [hbs] at hnr hby hbl ⊢
  have Hby := keep hby
  have Hbl := keep hbl
  have Hr0 := keep hr0
  have Hb0 := keep hb0
  have Hnr := keep hnr
  have Hl := keep hl
  clear hra hba hO0 hB0 hR0 hby hbl hr0 hb0 hnr hbs hl
  go_enter Try.func16, Try.ntmps16
  go_wp2_with fail
  refine Hnr.out.mono ?_
  rintro e w1 ⟨q, rfl, hq, hR1, hB1⟩
  have hbsl : bs.length ≤ 1000 := by rw [Hbl.out]; exact hs
  obtain ⟨y1, y2, y3, y4⟩ := textF_byte Hby.out hbsl
  rcases hT : textF bs false with ⟨t1, r1, f1⟩
  rcases hN : numF r1 f1 with ⟨n1, r2, f2⟩
  rcases hM : numF r2 f2 with ⟨m1, r3, f3⟩
  rw [hT] at y1 y2 y3 y4
  simp only at y1 y2 y3 y4
  have y5 := numF_byte (fl := f1) y2
  rw [hN] at y5
  have hOp : openR bs size = if f3 = true ∨ r3 ≠ [] ∨ max size 0 < (t1.length : Int) ∨ 4 ≤ n1 ∨ 2 ≤ m1 then none else some (t1, n1, m1) := by
    unfold openR
    rw [hT]
    simp only
    rw [hN]
    simp only
    rw [hM]
  have HT := keep hT
  have HN := keep hN
  have HM := keep hM
  have HOp := keep hOp
  have Y1 := keep y1
  have Y2 := keep y2
  have Y5 := keep y5
  have Hz1 := keep hB1.size
  have Hba := keep (hB1.mono (Nat.le_refl _))
  have HR1 := keep hR1
  clear hT hN hM hOp y1 y2 y5 hR1 hB1 y4
  have hql : w.heap.size < q := Nat.lt_of_lt_of_le (row_lt Hr0.out) hq
  go_wp2_with fail
  refine (rtext_any q bs false w1 HR1.out Hby.out hbsl).mono ?_
  intro e w2 hx
  unfold RText at hx
  rw [HT.out] at hx
  obtain ⟨rfl, hR2, hB2⟩ := hx
  obtain ⟨S, hS⟩ : ∃ S, strOfNums t1 = S := ⟨_, rfl⟩
  have hSz : S.size = t1.length := by rw [← hS, strOfNums_size]
  have hSb : byteL S = t1 := by rw [← hS, byteL_str (fun x hx => ⟨(Y1.out x hx).1, by have := (Y1.out x hx).2; omega⟩)]
  simp only at hR2
  have HR2 := keep hR2
  have HB2 := keep hB2
  simp only [hS]
  have HSz := keep hSz
  have HSb := keep hSb
  clear hR2 hB2 hS hSz hSb
  go_wp2_with fail
  refine (rnum_any q r1 f1 w2 HR2.out Y2.out).mono ?_
  intro e w3 hx
  unfold RNum at hx
  rw [HN.out] at hx
  obtain ⟨rfl, hn64, hR3, hB3⟩ := hx
  simp only at hR3 hn64
  simp only
  have HR3 := keep hR3
  have HB3 := keep hB3
  have Hn64 := keep hn64
  clear hR3 hB3 hn64
  go_wp2_with fail
  refine (rnum_any q r2 f2 w3 HR3.out Y5.out).mono ?_
  intro e w4 hx
  unfold RNum at hx
  rw [HM.out] at hx
  obtain ⟨rfl, hm64, hR4, hB4⟩ := hx
  simp only at hR4 hm64
  simp only
  have hB14 : Below q w1 w4 := (HB2.out.trans HB3.out).trans hB4
  have hb4 : Below w.heap.size w w4 := (Hb0.out.trans (Hba.out.mono Hb0.out.size)).trans (hB14.mono (Nat.le_of_lt hql))
  have hr4 : w4.heap[w.heap.size]? = some (.cells (headL sum size).toArray 33 (0, 0)) := by
    rw [hB14.block _ hql, Hba.out.block _ (row_lt Hr0.out)]
    exact Hr0.out
  have HR4 := keep hR4
  have Hm64 := keep hm64
  have Hb4 := keep hb4
  have Hr4 := keep hr4
  have Hsz : Keep ((headL sum size).toArray.size = 39) := ⟨headL_length Hl.out⟩
  have HinF : Keep ((Try.prog.info? 33).map (·.size) = some (headL sum size).toArray.size) := ⟨by rw [Hsz.out]; kernel_rfl⟩
  clear hR4 hB4 hm64 hB14 hb4 hr4
  go_wp2_with (refine wpList_load_row rfl 33 (.tmp 2) rfl w.heap.size rfl 33 (headL sum size).toArray (0, 0) _ Hr4.out Try.underlying33 rfl HinF.out ?_)
  refine (new_any sum size w4 Hl.out _ rfl).mono ?_
  rintro e w5 ⟨g, rfl, hg, hF5, hB5⟩
  have hR5 := HR4.out.below hB5 HR4.out.lt
  have hb5 := Hb4.out.trans (hB5.mono Hb4.out.size)
  have hgw : w.heap.size ≤ g := Nat.le_trans Hb4.out.size hg
  have hsize := size_any w5 hF5
  have HR5 := keep hR5
  have HF5 := keep hF5
  have Hb5 := keep hb5
  have Hsize := keep hsize
  have hn5 : ∀ P : Prop, openR bs size = none → OpenPost bs sum size w (.returned (.pointer (some ⟨g, 0, none⟩))) w5 := fun _ h => open_none h hgw hF5 hb5
  have Hn5 := keep hn5
  clear hR5 hF5 hB5 hb5 hsize hn5
  go_wp2_with fail
  refine (rdone_any w5 HR5.out).mono ?_
  rintro e w6 ⟨rfl, hw6⟩
  rw [hw6]
  clear hw6
  by_cases hd : f3 = true ∨ r3 ≠ []
  · have hp := Hn5.out True (by rw [HOp.out, if_pos (by rcases hd with h | h; exact .inl h; exact .inr (.inl h))])
    rw [if_pos hd]
    have Hp := keep hp
    clear hp hd
    go_wp2_with fail
    go_ret
    exact Hp.out
  · rw [if_neg hd]
    have Hd := keep hd
    clear hd
    go_wp2_with fail
    refine Hsize.out.mono ?_
    rintro e w7 ⟨rfl, hw7⟩
    rw [hw7]
    clear hw7
    by_cases h2 : max size 0 < (t1.length : Int)
    · have hp := Hn5.out True (by rw [HOp.out, if_pos (.inr (.inr (.inl h2)))])
      have ht : decide (max size 0 < (S.size : Int)) = true := by rw [HSz.out]; simpa using h2
      have Hp := keep hp
      clear hp h2
      go_wp2_with fail
      go_ret
      exact Hp.out
    · have ht : decide (max size 0 < (S.size : Int)) = false := by rw [HSz.out]; simpa using h2
      have H2 := keep h2
      clear h2
      by_cases h3 : 4 ≤ n1
      · have hp := Hn5.out True (by rw [HOp.out, if_pos (.inr (.inr (.inr (.inl h3))))])
        have ht3 : decide ((4 : Int) ≤ (n1 : Int)) = true := by simp; omega
        have Hp := keep hp
        clear hp h3
        go_wp2_with fail
        go_ret
        exact Hp.out
      · have ht3 : decide ((4 : Int) ≤ (n1 : Int)) = false := by simp; omega
        by_cases h4 : 2 ≤ m1
        · have hp := Hn5.out True (by rw [HOp.out, if_pos (.inr (.inr (.inr (.inr h4))))])
          have ht4 : decide ((2 : Int) ≤ (m1 : Int)) = true := by simp; omega
          have Hp := keep hp
          clear hp h3 h4
          go_wp2_with fail
          go_ret
          exact Hp.out
        · have ht4 : decide ((2 : Int) ≤ (m1 : Int)) = false := by simp; omega
          have hsome : openR bs size = some (t1, n1, m1) := by
            have h2 := H2.out
            have hd := Hd.out
            rw [HOp.out, if_neg]
            rintro (h | h | h | h | h)
            · exact hd (.inl h)
            · exact hd (.inr h)
            · exact h2 h
            · exact h3 h
            · exact h4 h
          obtain ⟨A6, c6, w6, hcv6, hO6, hc6, hB6⟩ := conv_bytes (P := Try.prog) w5 9 23 5 Try.underlying9 Try.underlying23 Try.underlying5 S (by rw [HSz.out]; unfold maxLen; omega)
          rw [HSb.out] at hO6
          have hF6 := HF5.out.below hB6 HF5.out.lt
          have k39 := hF6.b
          have k40 := hF6.fa_
          have k41 := hF6.sp_
          have z39 := hF6.free 39
          have z40 := hF6.free 40
          have z41 := hF6.free 41
          have hgl := hF6.lt
          have hF9 := ((hF6.set_b (.slice A6 S.size c6)).set_fa n1).set_sp m1
          have hg9 : w6.grownBy (((w6.setCell ⟨g, 39, none⟩ (.slice A6 S.size c6)).setCell ⟨g, 40, none⟩ (.int .i64 n1)).setCell ⟨g, 41, none⟩ (.int .i64 m1)) (some g) := World.grownBy.trans (World.grownBy.trans (grown_setCell w6 g 39 _) (grown_setCell _ g 40 _)) (grown_setCell _ g 41 _)
          have hgw5 : g < w5.heap.size := HF5.out.lt
          have hO9 := (hO6.mono (B := g + 1) hgw5).grown hg9 (own_neB (hO6.mono (B := g + 1) hgw5))
          have hb9 : Below w.heap.size w (((w6.setCell ⟨g, 39, none⟩ (.slice A6 S.size c6)).setCell ⟨g, 40, none⟩ (.int .i64 n1)).setCell ⟨g, 41, none⟩ (.int .i64 m1)) := (((Hb5.out.trans (hB6.mono Hb5.out.size)).setCell (p := ⟨g, 39, none⟩) hgw _).setCell (p := ⟨g, 40, none⟩) hgw _).setCell (p := ⟨g, 41, none⟩) hgw _
          have HF9 := keep hF9
          have HO9 := keep hO9
          have Hb9 := keep hb9
          have Hsome := keep hsome
          clear hO6 hB6 hF6 hF9 hg9 hO9 hb9 hsome
          have hn3 : (n1 : Int) ≤ 3 := by omega
          have hm1 : (m1 : Int) ≤ 1 := by omega
          go_wp2_with fail
          generalize ((w6.setCell ⟨g, 39, none⟩ (.slice A6 S.size c6)).setCell ⟨g, 40, none⟩ (.int .i64 n1)).setCell ⟨g, 41, none⟩ (.int .i64 m1) = w9 at HF9 HO9 Hb9 ⊢
          obtain ⟨A9, c9, he9, hc9, hR9⟩ := HO9.out.slice
          injection he9 with e1 e2 e3
          subst e1 e3
          have hst : Calls Try.prog 24 #[.pointer (some ⟨g, 0, none⟩)] w9 (SettlePost g sum size (.slice A6 S.size c6) n1 m1 false (decide ((t1.length : Int) = max size 0) && decide (sumP t1 = sum)) w9) := by
            by_cases hs : (t1.length : Int) = max size 0
            · refine settle_is t1 w9 HF9.out (by rw [HSz.out]; exact hs) HSz.out.symm hc6 (by rw [HSz.out]; omega) hR9 _ ?_
              simp [hs]
            · have e : (decide ((t1.length : Int) = max size 0) && decide (sumP t1 = sum)) = false := by simp [hs]
              rw [e]
              exact settle_not w9 HF9.out (by rw [HSz.out]; exact hs)
          clear hR9
          refine hst.mono ?_
          rintro e w10 ⟨rfl, hF10, hg10⟩
          have hO10 := HO9.out.grown hg10 (own_neB HO9.out)
          have hb10 : Below w.heap.size w w10 := Hb9.out.grown hg10 Hb9.out.size (fun k hk => by cases hk; exact hgw)
          have HF10 := keep hF10
          have HO10 := keep hO10
          clear hF10 hO10 hg10 hst
          go_wp2_with fail
          go_ret
          refine ⟨g, rfl, hgw, ?_, hb10⟩
          unfold openF
          rw [Hsome.out]
          exact ⟨⟨_, HF10.out, HO10.out⟩⟩
--]REG
end Go.Proofs.Ytmfgcdfemhaieaa
