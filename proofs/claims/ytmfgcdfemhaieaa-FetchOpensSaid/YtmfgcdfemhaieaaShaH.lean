/- The program's sum. -/
import Derived.Test.YtmfgcdfemhaieaaShaC
import Derived.Test.YtmfgcdfemhaieaaShaI
namespace Go.Proofs.Ytmfgcdfemhaieaa
open Go.RowKit

/-- A slice of slices of bytes that is read. -/
structure RdP (w : World) (B : Nat) (A : Option Addr) (l : List (List Int)) : Prop where
  at_ : ∀ j, j < l.length → ∃ b off Aj cj, A = some ⟨b, off, none⟩ ∧ b < B ∧ w.cell? ⟨b, off + j, none⟩ = some (.slice Aj (l.getD j []).length cj) ∧ (l.getD j []).length ≤ cj ∧ RdI w B .u8 Aj (l.getD j [])
theorem RdP.below {w w' : World} {B : Nat} {A : Option Addr} {l : List (List Int)} (h : RdP w B A l) (hb : Below B w w') : RdP w' B A l :=
  ⟨fun j hj => by
    obtain ⟨b, off, Aj, cj, h1, h2, h3, h4, h5⟩ := h.at_ j hj
    exact ⟨b, off, Aj, cj, h1, h2, (hb.cell h2).trans h3, h4, h5.below hb⟩⟩

theorem take_flat (l : List (List Int)) : ∀ j, j < l.length → (l.take (j + 1)).flatten.length = (l.take j).flatten.length + (l.getD j []).length := by
  intro j hj
  rw [List.take_succ_eq_append_getElem hj, List.flatten_append, List.length_append]
  simp only [List.flatten_cons, List.flatten_nil, List.append_nil, List.getD_eq_getElem?_getD, List.getElem?_eq_getElem hj, Option.getD_some]
/-- The bytes of part j, as they stand in the whole. -/
theorem flat_at (l : List (List Int)) : ∀ j, j < l.length → (l.take j).flatten.length + (l.getD j []).length ≤ l.flatten.length ∧ ∀ i, i < (l.getD j []).length → l.flatten.getD ((l.take j).flatten.length + i) 0 = (l.getD j []).getD i 0 := by
  intro j hj
  have h : l.flatten = (l.take j).flatten ++ ((l.getD j []) ++ (l.drop (j + 1)).flatten) := by
    conv => lhs; rw [← List.take_append_drop j l, List.flatten_append, List.drop_eq_getElem_cons hj, List.flatten_cons]
    simp [List.getD_eq_getElem?_getD, List.getElem?_eq_getElem hj]
  have hlen : l.flatten.length = (l.take j).flatten.length + ((l.getD j []).length + (l.drop (j + 1)).flatten.length) := by
    have := congrArg List.length h
    rwa [List.length_append, List.length_append] at this
  refine ⟨by omega, fun i hi => ?_⟩
  have h2 : l.flatten[(l.take j).flatten.length + i]? = ((l.take j).flatten ++ ((l.getD j []) ++ (l.drop (j + 1)).flatten))[(l.take j).flatten.length + i]? := congrArg (fun x : List Int => x[(l.take j).flatten.length + i]?) h
  rw [List.getElem?_append_right (by omega), Nat.add_sub_cancel_left, List.getElem?_append_left hi] at h2
  rw [List.getD_eq_getElem?_getD, h2, ← List.getD_eq_getElem?_getD]

theorem restOf_nil (p : List Int) (q : Nat) : restOf p (64 * q) q = [] := by simp [restOf]
theorem seg_eq {p xs : List Int} {pos : Nat} (hl : pos + xs.length ≤ p.length) (hx : ∀ i, i < xs.length → p.getD (pos + i) 0 = xs.getD i 0) : xs = (p.drop pos).take xs.length := by
  apply List.ext_getElem
  · simp; omega
  · intro i h1 h2
    have := hx i h1
    rw [List.getD_eq_getElem?_getD, List.getD_eq_getElem?_getD, List.getElem?_eq_getElem h1, List.getElem?_eq_getElem (by omega)] at this
    simpa using this.symm
theorem restOf_append {p xs : List Int} {pos q k : Nat} (hl : pos + xs.length ≤ p.length) (hx : ∀ i, i < xs.length → p.getD (pos + i) 0 = xs.getD i 0) (hk : k ≤ xs.length) (hq : 64 * q ≤ pos) : restOf p pos q ++ xs.take k = restOf p (pos + k) q := by
  have h1 : xs.take k = (p.drop pos).take k := by rw [seg_eq hl hx, List.take_take, Nat.min_eq_left hk]
  have h2 : p.take (pos + k) = p.take pos ++ (p.drop pos).take k := List.take_add
  rw [h1, restOf, restOf, h2, List.drop_append_of_le_length (by rw [List.length_take]; omega)]
theorem padP_getD (t : List Int) {i : Nat} (h : i < t.length) : (padP t).getD i 0 = t.getD i 0 := by
  simp only [padP, padTo, List.getD_eq_getElem?_getD, List.append_assoc]
  rw [List.getElem?_append_left h]

/-- What the loop over the parts holds: pos bytes are consumed, q blocks are turned; the rest is in v. -/
structure StR (w : World) (gr gt bp : Nat) (p : List Int) (pos q : Nat) (v : Value) (wr : World) : Prop where
  r : wr.heap[gr]? = some (.cells (bys (List.replicate 32 0)) 30 (0, 0))
  t : wr.heap[gt]? = some (.cells (vals (hashTo p q ++ ksP)) 111 (0, 0))
  v : OwnI wr bp 5 .u8 v (restOf p pos q)
  b : Below w.heap.size w wr
theorem StR.turned {w wr w' : World} {gr gt : Nat} {p : List Int} {pos q : Nat} {v : Value} (h : StR w gr gt (gt + 1) p pos q v wr) (ht : w'.heap[gt]? = some (.cells (vals (turnP ksP (blockAt p q) (hashTo p q) ++ ksP)) 111 (0, 0))) (hg : wr.grownBy w' (some gt)) (h1 : gr ≠ gt) (h2 : w.heap.size ≤ gt) :
    w'.heap[gr]? = some (.cells (bys (List.replicate 32 0)) 30 (0, 0)) ∧ w'.heap[gt]? = some (.cells (vals (hashTo p (q + 1) ++ ksP)) 111 (0, 0)) ∧ OwnI w' (gt + 1) 5 .u8 v (restOf p pos q) ∧ Below w.heap.size w w' := by
  refine ⟨?_, ht, h.v.grown hg (.inr fun e => by have := own_base h.v.out _ e; omega), h.b.grown hg h.b.size (fun k hk => by injection hk with hk; omega)⟩
  rw [hg.block _ (row_lt h.r) (fun e => h1 (by injection e))]
  exact h.r
theorem StR.other {w wr w' : World} {gr gt bp : Nat} {p : List Int} {pos q pos' : Nat} {v v' : Value} {row : Option Nat} (h : StR w gr gt bp p pos q v wr) (hg : wr.grownBy w' row) (hr : ∀ k, row = some k → bp ≤ k) (h1 : gr < bp) (h2 : gt < bp) (hO : OwnI w' bp 5 .u8 v' (restOf p pos' q)) (hB : Below w.heap.size w w') : StR w gr gt bp p pos' q v' w' := by
  refine ⟨?_, ?_, hO, hB⟩
  · rw [hg.block _ (row_lt h.r) (fun e => by have := hr _ e.symm; omega)]; exact h.r
  · rw [hg.block _ (row_lt h.t) (fun e => by have := hr _ e.symm; omega)]; exact h.t
structure FinR (w : World) (gr gt : Nat) (p : List Int) (q : Nat) (wr : World) : Prop where
  r : wr.heap[gr]? = some (.cells (bys (List.replicate 32 0)) 30 (0, 0))
  t : wr.heap[gt]? = some (.cells (vals (hashTo p q ++ ksP)) 111 (0, 0))
  b : Below w.heap.size w wr
theorem slice_block {g b : Nat} (hb : 64 * b + 64 ≤ 128) : ∀ W : World, (Instr.sliceAt 113 (.pointer (some ⟨g, 0, none⟩)) (some (.int .i64 (64 * (b : Int)))) (some (.int .i64 (64 * (b : Int) + 64))) none).run Try.prog W = .ok (.slice (some ⟨g, 64 * b, none⟩) 64 (128 - 64 * b)) W := by
  intro W
  have hn : Try.prog.arrayLen 113 = 128 := by kernel_rfl
  have hs : (sizeOf (Try.prog.elem 113)).run Try.prog W = .ok 1 W := by kernel_rfl
  rw [run_sliceAt_array_lh W 113 ⟨g, 0, none⟩ (by kernel_rfl) .i64 .i64 _ _ (by omega) (by omega) (by rw [hn]; omega), hs, hn]
  have h1 : (64 * (b : Int)).toNat = 64 * b := by omega
  have h2 : (64 * (b : Int) + 64).toNat = 64 * b + 64 := by omega
  have hadd : (⟨g, 0, none⟩ : Addr).add (64 * b * 1) = ⟨g, 64 * b, none⟩ := by unfold Addr.add; split <;> simp_all
  simp only [Result.andThen, slicedAt, h1, h2, hadd, if_neg (show ¬ 128 = 64 * b by omega), show 64 * b + 64 - 64 * b = 64 by omega]
theorem FinR.far {w wr : World} {gr gt : Nat} {p : List Int} {q : Nat} (h : FinR w gr gt p q wr) {G : Nat} (h1 : G ≠ gr) (h2 : G ≠ gt) (h3 : w.heap.size ≤ G) (i : Nat) (v : Value) : FinR w gr gt p q (wr.setCell ⟨G, i, none⟩ v) :=
  ⟨by rw [Below.heap_setCell _ _ _ _ (by simpa using Ne.symm h1)]; exact h.r, by rw [Below.heap_setCell _ _ _ _ (by simpa using Ne.symm h2)]; exact h.t, h.b.setCell h3 _⟩
theorem FinR.turned {w wr w' : World} {gr gt : Nat} {p : List Int} {q : Nat} (h : FinR w gr gt p q wr) (ht : w'.heap[gt]? = some (.cells (vals (turnP ksP (blockAt p q) (hashTo p q) ++ ksP)) 111 (0, 0))) (hg : wr.grownBy w' (some gt)) (h1 : gr ≠ gt) (h2 : w.heap.size ≤ gt) : FinR w gr gt p (q + 1) w' :=
  ⟨by rw [hg.block _ (row_lt h.r) (fun e => h1 (by injection e))]; exact h.r, ht, h.b.grown hg h.b.size (fun k hk => by injection hk with hk; omega)⟩
structure KeyR (w : World) (gr gt : Nat) (hs : List Int) (wr : World) : Prop where
  r : wr.heap[gr]? = some (.cells (bys (List.replicate 32 0)) 30 (0, 0))
  t : wr.heap[gt]? = some (.cells (vals (hs ++ ksP)) 111 (0, 0))
  b : Below w.heap.size w wr
theorem KeyR.far {w wr : World} {gr gt : Nat} {hs : List Int} (h : KeyR w gr gt hs wr) {G : Nat} (h1 : G ≠ gr) (h2 : G ≠ gt) (h3 : w.heap.size ≤ G) (i : Nat) (v : Value) : KeyR w gr gt hs (wr.setCell ⟨G, i, none⟩ v) :=
  ⟨by rw [Below.heap_setCell _ _ _ _ (by simpa using Ne.symm h1)]; exact h.r, by rw [Below.heap_setCell _ _ _ _ (by simpa using Ne.symm h2)]; exact h.t, h.b.setCell h3 _⟩
def z128 : List Int := List.replicate 128 0
theorem lastA_splice (rest : List Int) : (splice (ints .u8 z128) 0 (ints .u8 rest)).toArray = bys (lastA rest) := by
  have : splice (ints .u8 z128) 0 (ints .u8 rest) = ints .u8 (lastA rest) := by
    simp only [splice, List.take_zero, List.nil_append, Nat.zero_add, ints_length]
    simp only [ints, lastA, List.map_append, z128, ← List.map_drop, List.drop_replicate]
  rw [this]
  rfl

/-- What the loop over a part's blocks holds: d of its m bytes are consumed, mb are left, at A. -/
structure PartR (w : World) (gt : Nat) (p : List Int) (pos m : Nat) (xs : List Int) (v : Value) (d mb : Nat) (A : Option Addr) (wr : World) : Prop where
  len : mb = m - d
  al : (pos + d) % 64 = 0
  rd : RdI w w.heap.size .u8 A (xs.drop d)
  s : StR w w.heap.size gt (gt + 1) p (pos + d) ((pos + d) / 64) v wr

set_option maxRecDepth 100000 in
set_option maxHeartbeats 4000000 in
theorem ssum_any (A : Option Addr) (c : Nat) (l : List (List Int)) (w : World) (hL : l.flatten.length ≤ 1099511627776) (HP : RdP w w.heap.size A l) (hl : l.length ≤ 1099511627776) :
    Calls Try.prog 46 #[.slice A l.length c] w (SumPost l.flatten w) := by
  go_enter Try.func46, Try.ntmps46
  go_wp2_with (first | (go_at_call 57; refine (begin_any _).mono ?_; rintro e w1 ⟨rfl, hb1⟩) | (go_at_call 58; refine (round_any _).mono ?_; rintro e w2 ⟨rfl, hb2⟩) | (refine wpList_build_as rfl 111 _ rfl (vals (h0P ++ ksP)) (by kernel_rfl) ?_))
  have hr0 : (w.alloc (.cells (bys (List.replicate 32 0)) 30)).heap[w.heap.size]? = some (.cells (bys (List.replicate 32 0)) 30 (0, 0)) := heap_alloc_new w _
  have hb0 : Below w.heap.size w (w.alloc (.cells (bys (List.replicate 32 0)) 30)) := (Below.refl _ _).alloc (Nat.le_refl _) _
  have hr1 : w1.heap[w.heap.size]? = some (.cells (bys (List.replicate 32 0)) 30 (0, 0)) := by rw [hb1.block _ (row_lt hr0)]; exact hr0
  have hb1' : Below w.heap.size w w1 := hb0.trans (hb1.mono hb0.size)
  have hlt1 := row_lt hr1
  have hb2' : Below w.heap.size w w2 := hb1'.trans (hb2.mono (by omega))
  have hr2 : w2.heap[w.heap.size]? = some (.cells (bys (List.replicate 32 0)) 30 (0, 0)) := by rw [hb2.block _ hlt1]; exact hr1
  have hlt2 := row_lt hr2
  have hS0 : StR w w.heap.size w2.heap.size (w2.heap.size + 1) (padP l.flatten) 0 0 (.slice none 0 0) (w2.alloc (.cells (vals (h0P ++ ksP)) 111)) :=
    ⟨by rw [Below.heap_alloc _ _ _ hlt2]; exact hr2, heap_alloc_new _ _, by simpa [restOf] using OwnI.none_ _ _ _ _, hb2'.alloc (by omega) _⟩
  generalize w2.alloc (.cells (vals (h0P ++ ksP)) 111) = w3 at *
  have hbp : w2.heap.size + 1 ≤ w3.heap.size := row_lt hS0.t
  clear hr0 hb0 hb1 hr1 hb1' hlt1 hb2 hb2' hr2
  generalize w2.heap.size = gt at *
  have hpl := padP_bound l.flatten
  have hpl' := padP_length l.flatten
  have Hpx : Keep (∀ i, i < l.flatten.length → (padP l.flatten).getD i 0 = l.flatten.getD i 0) := ⟨fun i hi => padP_getD _ hi⟩
  have Hpe : Keep (padP l.flatten = padP l.flatten) := ⟨rfl⟩
  generalize hpp : padP l.flatten = p at hS0 hpl hpl' Hpx
  have hpl2 : l.flatten.length ≤ p.length := by omega
  have Hpp := keep hpp
  have Hpl' := keep hpl'
  clear hpp Hpe hpl'
  go_loopw [4, 5, 22] (fun v nn i wr => ∃ j : Nat, j ≤ l.length ∧ i = .int .i64 j ∧ nn = .int .u64 (((l.take j).flatten.length : Int) * 8) ∧ StR w w.heap.size gt (gt + 1) p (l.take j).flatten.length ((l.take j).flatten.length / 64) v wr) (fun _ _ i _ => l.length - (intOf i).toNat)
  case atStart => exact ⟨0, by omega, rfl, rfl, by simpa using hS0⟩
  case round =>
    clear hS0
    obtain ⟨j, hj, rfl, rfl, hS⟩ := hrel
    by_cases hlt : j < l.length
    · obtain ⟨pb, po, Aj, cj, rfl, hpb, hcell, hcj, hRj⟩ := HP.at_ j hlt
      have hpos := take_flat l j hlt
      obtain ⟨hx1, hx2⟩ := flat_at l j hlt
      generalize l.getD j [] = xs at *
      obtain ⟨pos, hposv⟩ : ∃ pos, (l.take j).flatten.length = pos := ⟨_, rfl⟩
      rw [hposv] at hpos hx1 hx2 hS ⊢
      have HX : Keep (∀ i, i < xs.length → p.getD (pos + i) 0 = xs.getD i 0) := ⟨fun i hi => by rw [Hpx.out _ (by omega)]; exact hx2 i hi⟩
      have hcell' : wr.cell? ⟨pb, po + j, none⟩ = some (.slice Aj xs.length cj) := (hS.b.cell hpb).trans hcell
      have ht : decide ((j : Int) < (l.length : Int)) = true := by simp; omega
      have hpp2 : pos + xs.length ≤ p.length := by omega
      have hRw := hRj.below hS.b
      obtain ⟨m, hm⟩ : ∃ m, xs.length = m := ⟨_, rfl⟩
      have Hpos := keep hpos
      have Hm := keep hm
      rw [hm] at hcell' hcj hx1 hpp2
      have hrl := restOf_length (p := p) (pos := pos) (q := pos / 64) (by omega)
      obtain ⟨A0, c0, rfl, hc0, _⟩ := hS.v.slice
      rw [hrl] at hS hc0 ⊢
      clear hposv hx2 hcell hpos hm hrl
      have hr64 : pos - 64 * (pos / 64) < 64 := by omega
      obtain ⟨r0, hr0⟩ : ∃ r0, pos - 64 * (pos / 64) = r0 := ⟨_, rfl⟩
      rw [hr0] at hS hc0 hr64 ⊢
      have Hr0 := keep hr0
      clear hr0
      have hm40 : m ≤ 1099511627776 := by omega
      have hp40 : pos ≤ 1099511627776 := by omega
      by_cases hz : r0 = 0
      · have hzt : decide ((r0 : Int) > 0) = false := by simp; omega
        have hne : ((r0 : Int) == 64) = false := by rw [beq_eq_false_iff_ne]; omega
        have hPart : PartR w gt p pos m xs (.slice A0 0 c0) 0 m Aj wr := ⟨by omega, by have := Hr0.out; omega, by simpa using hRj, by rw [hz] at hS; exact hS⟩
        clear hRw hS
        subst hz
        obtain ⟨A5, hA5⟩ : ∃ A5, A0 = A5 := ⟨_, rfl⟩
        obtain ⟨c5, hc5⟩ : ∃ c5, c0 = c5 := ⟨_, rfl⟩
        subst hA5 hc5
        go_wp2
        refine wp_loop_once ?_
        go_wp2
        go_loopw [7] (fun b wr => ∃ (d mb cb : Nat) (Ab : Option Addr), d ≤ m ∧ b = .slice Ab mb cb ∧ mb ≤ cb ∧ mb ≤ m ∧ PartR w gt p pos m xs (.slice A0 0 c0) d mb Ab wr) (fun b _ => lenOf b)
        case atStart => exact ⟨0, m, cj, Aj, by omega, rfl, by omega, by omega, hPart⟩
        case round =>
          clear hPart
          obtain ⟨d, mb, cb, Ab, hd, rfl, hcb, hmbm, hQ⟩ := hrel
          have hlx : (xs.drop d).length = mb := by rw [List.length_drop, hQ.len, Hm.out]
          have Hlx := keep hlx
          have HQ := keep hQ.len
          have HQ64 := keep hQ.al
          have hSq := hQ.s
          have hRq := hQ.rd.below hQ.s.b
          have hgq := row_lt hSq.t
          by_cases hge : 64 ≤ mb
          · obtain ⟨bb, bo, rfl, hbb, hbc⟩ := hRq.all_ (by rw [hlx]; omega)
            have hbc' : ∀ i, i < 64 → wr.cell? ⟨bb, bo + i, none⟩ = some (.int .u8 (blockAt p ((pos + d) / 64) i)) := fun i hi => by
              rw [hbc i (by rw [Hlx.out]; omega)]
              have h1 : (xs.drop d).getD i 0 = xs.getD (d + i) 0 := by simp [List.getD_eq_getElem?_getD]
              have h2 := HX.out (d + i) (by rw [Hm.out]; have := HQ.out; omega)
              rw [h1, ← h2, blockAt]
              congr 3
              have := HQ64.out; omega
            have Hbc := keep hbc'
            have hPr := hQ.rd
            obtain ⟨A6, hcut6, hrd6⟩ := cut_tail (P := Try.prog) 23 5 Try.underlying23 (by kernel_rfl) (some ⟨bb, bo, none⟩) mb cb 64 (by omega) (by omega)
            have Hrd6 := keep hrd6
            have ht64 : decide ((mb : Int) ≥ 64) = true := by simp; omega
            clear hQ hlx hbc hbc' hrd6
            go_wp2_with (go_at_call 59; refine (st_turn gt bb bo mb cb (hashTo p ((pos + d) / 64)) ksP (blockAt p ((pos + d) / 64)) wr (hashTo_length _ _) rfl hge (by omega) hSq.t Hbc.out).mono ?_; rintro e w6 ⟨rfl, hT1, hT2⟩)
            obtain ⟨h1, h2, h3, h4⟩ := hSq.turned hT1 hT2 (by omega) (by omega)
            clear hT1 hT2
            go_wp2
            go_roundw
            case rel =>
              have hq1 : (pos + (d + 64)) / 64 = (pos + d) / 64 + 1 := by omega
              have hmb : mb = m - d := HQ.out
              refine ⟨d + 64, mb - 64, cb - 64, A6, by omega, by simp, by omega, by omega, ⟨by omega, by have := HQ64.out; omega, ?_, ?_⟩⟩
              · have hr := Hrd6.out w w.heap.size .u8 (xs.drop d) hcb Hlx.out hPr
                rw [List.drop_drop] at hr
                exact hr
              · rw [hq1]
                refine ⟨h1, h2, ?_, h4⟩
                have e1 : restOf p (pos + (d + 64)) ((pos + d) / 64 + 1) = [] := by
                  have : pos + (d + 64) = 64 * ((pos + d) / 64 + 1) := by have := HQ64.out; omega
                  rw [this]; exact restOf_nil _ _
                have e2 : restOf p (pos + d) ((pos + d) / 64) = [] := by
                  have : pos + d = 64 * ((pos + d) / 64) := by have := HQ64.out; omega
                  conv => lhs; rw [this]
                  rw [show 64 * ((pos + d) / 64) / 64 = (pos + d) / 64 by omega]
                  exact restOf_nil _ _
                rw [e1, ← e2]
                exact h3
            case measure => simp [lenOf]; omega
          · have hq1 : (pos + m) / 64 = (pos + d) / 64 := by have := HQ64.out; have := HQ.out; omega
            have e2 : restOf p (pos + d) ((pos + d) / 64) = [] := by
              have : pos + d = 64 * ((pos + d) / 64) := by have := HQ64.out; omega
              conv => lhs; rw [this]
              rw [show 64 * ((pos + d) / 64) / 64 = (pos + d) / 64 by omega]
              exact restOf_nil _ _
            have He2 := keep e2
            have Hq1 := keep hq1
            have hPr := hQ.rd
            have ht64 : decide ((mb : Int) ≥ 64) = false := by simp; omega
            clear hQ hlx e2 hq1
            by_cases hm0 : mb = 0
            · have ht0 : ¬ 0 < mb := by omega
              have ht0' : decide (0 < mb) = false := by simp; omega
              have hdm : d = m := by have := HQ.out; omega
              clear hm0
              go_wp2
              go_roundw
              case rel =>
                refine ⟨j + 1, by omega, by go_num, by rw [Hpos.out, Hm.out]; go_num, ?_⟩
                rw [Hpos.out, Hm.out, ← hdm]
                exact hSq
              case measure => simp [intOf]; omega
            · have ht0 : 0 < mb := by omega
              have ht0' : decide (0 < mb) = true := by simp; omega
              have hov := hSq.v
              rw [He2.out] at hov
              go_wp2_with (at_builtin; go_must (refine wpList_append_ints (w0 := wr) (W := wr) (gt + 1) rfl (.tmp 68) (.tmp 69) 23 5 .u8 1 rfl Try.underlying23 info5 (.slice A0 0 c0) [] (xs.drop d) w.heap.size Ab mb cb rfl rfl Hlx.out hov hRq (Below.refl _ _) hgq (by omega) (by simp; omega) ?_))
              rintro v7 w7 hO7 hB7 hg7 _
              go_wp2
              go_roundw
              case rel =>
                refine ⟨j + 1, by omega, by go_num, by rw [Hpos.out, Hm.out]; go_num, ?_⟩
                rw [Hpos.out, Hm.out, Hq1.out]
                have he := restOf_append (p := p) (xs := xs.drop d) (pos := pos + d) (q := (pos + d) / 64) (k := mb) (by rw [Hlx.out]; have := HQ.out; omega) (fun i hi => by
                  have h1 : (xs.drop d).getD i 0 = xs.getD (d + i) 0 := by simp [List.getD_eq_getElem?_getD]
                  rw [h1, ← HX.out (d + i) (by rw [Hm.out]; rw [Hlx.out] at hi; have := HQ.out; omega), Nat.add_assoc]) (by rw [Hlx.out]; exact Nat.le_refl _) (by omega)
                rw [List.take_of_length_le (by rw [Hlx.out]; exact Nat.le_refl _), He2.out, show pos + d + mb = pos + m by have := HQ.out; omega] at he
                rw [List.nil_append] at he
                rw [he] at hO7
                exact hSq.other hg7 (fun k hk => own_base hSq.v.out _ hk) (by omega) (by omega) hO7 (hSq.b.trans (hB7.mono (by omega)))
              case measure => simp [intOf]; omega
      · have hzt : decide ((r0 : Int) > 0) = true := by simp; omega
        by_cases hA : r0 + m < 64
        · have hmin : ((m : Int) ≤ 64 - (r0 : Int)) := by omega
          obtain ⟨Ab, hcut, _⟩ := cut_tail (P := Try.prog) 23 5 Try.underlying23 (by kernel_rfl) Aj m cj (m : Int) (by omega) (by omega)
          have hhead := cut_head (P := Try.prog) 23 5 Try.underlying23 (by kernel_rfl) Aj m cj (m : Int) (by omega) (by omega)
          simp only [Int.toNat_natCast, Nat.sub_self] at hcut hhead
          have hO1 := hS.v.drew
          have hR1 := hRw.drew
          have hB1 : Below (gt + 1) wr wr.drew := ((Below.refl _ _).drew)
          have hgt := row_lt hS.t
          have hrl : (restOf p pos (pos / 64)).length = r0 := by rw [restOf_length (by omega)]; exact Hr0.out
          have Hrl := keep hrl
          clear hrl
          go_wp2
          go_region_law ((refine step_append_ints (w0 := wr) (gt + 1) (by rfl) (.tmp 41) (.tmp 44) 23 5 .u8 1 (by rfl) Try.underlying23 info5 (.slice A0 r0 c0) (restOf p pos (pos / 64)) xs w.heap.size Aj m cj (by simp [Act.eval, Act.put]) (by simp [Act.eval, Act.put]) Hm.out (by exact hO1) (by exact hR1) (by exact hB1) (by exact hgt) (by omega) (by rw [Hrl.out]; omega) ?_; intro v1 w4 hO4 hB4 hg4 hat4))
          have he4 : restOf p pos (pos / 64) ++ xs = restOf p (pos + m) (pos / 64) := by
            have := restOf_append (p := p) (xs := xs) (pos := pos) (q := pos / 64) (k := m) (by rw [Hm.out]; omega) HX.out (by rw [Hm.out]; exact Nat.le_refl _) (by omega)
            rwa [List.take_of_length_le (by rw [Hm.out]; exact Nat.le_refl _)] at this
          rw [he4] at hO4
          have hS4 : StR w w.heap.size gt (gt + 1) p (pos + m) (pos / 64) v1 w4 := hS.other (row := (Value.slice A0 r0 c0).ownBlock) ⟨hg4.os, hg4.tape, hg4.output, hg4.size, hg4.block⟩ (fun k hk => own_base hS.v.out _ hk) (by omega) (by omega) hO4 (hS.b.trans (hB4.mono (by omega)))
          have hq4 : (pos + m) / 64 = pos / 64 := by have := Hr0.out; omega
          obtain ⟨A4, c4, hv4, hc4, _⟩ := hO4.slice
          have hl4 : (restOf p (pos + m) (pos / 64)).length = r0 + m := by rw [restOf_length (by omega)]; have := Hr0.out; omega
          rw [hl4] at hv4 hc4
          subst hv4
          have Hq4 := keep hq4
          have hne : (((r0 : Int) + (m : Int)) == 64) = false := by rw [beq_eq_false_iff_ne]; omega
          have hne' : (((r0 + m : Nat) : Int) == 64) = false := by rw [beq_eq_false_iff_ne]; omega
          clear hq4 hl4 he4 hO4 hO1 hR1 hB1 hcut hhead hat4 hg4 hB4
          go_wp2
          refine wp_loop_once ?_
          go_wp2
          refine wp_loop_once ?_
          go_wp2
          go_roundw
          case rel =>
            refine ⟨j + 1, by omega, by go_num, by rw [Hpos.out, Hm.out]; go_num, ?_⟩
            rw [Hpos.out, Hm.out, Hq4.out]
            exact hS4
          case measure => simp [intOf]; omega
        · have hmin : (64 - (r0 : Int)) ≤ (m : Int) := by omega
          have htn : ((64 : Int) - (r0 : Int)).toNat = 64 - r0 := by omega
          obtain ⟨Ab, hcut, hrd⟩ := cut_tail (P := Try.prog) 23 5 Try.underlying23 (by kernel_rfl) Aj m cj (64 - (r0 : Int)) (by omega) (by omega)
          have hhead := cut_head (P := Try.prog) 23 5 Try.underlying23 (by kernel_rfl) Aj m cj (64 - (r0 : Int)) (by omega) (by omega)
          rw [htn] at hcut hhead
          obtain ⟨kk, hkk⟩ : ∃ kk, 64 - r0 = kk := ⟨_, rfl⟩
          rw [hkk] at hcut hhead
          obtain ⟨mk, hmk⟩ : ∃ mk, m - kk = mk := ⟨_, rfl⟩
          obtain ⟨ck, hck⟩ : ∃ ck, cj - kk = ck := ⟨_, rfl⟩
          rw [hmk, hck] at hcut
          have hRb : RdI w w.heap.size .u8 Ab (xs.drop kk) := by
            have := hrd w w.heap.size .u8 xs hcj Hm.out hRj
            rwa [htn, hkk] at this
          have hmkc : mk ≤ ck := by omega
          have hmkm : mk ≤ m := by omega
          have hkm : kk ≤ m := by omega
          have hkr : kk ≤ 64 := by omega
          have Hkk := keep hkk
          have Hmk := keep hmk
          have hyl : (xs.take kk).length = kk := by rw [List.length_take, Hm.out]; omega
          have Hyl := keep hyl
          clear htn hkk hmk hck hrd hyl
          have hO1 := hS.v.drew
          have hR1 := (hRw.take_ kk).drew
          have hB1 : Below (gt + 1) wr wr.drew := ((Below.refl _ _).drew)
          have hgt := row_lt hS.t
          have hrl : (restOf p pos (pos / 64)).length = r0 := by rw [restOf_length (by omega)]; exact Hr0.out
          have Hrl := keep hrl
          clear hrl
          go_wp2
          go_region_law ((refine step_append_ints (w0 := wr) (gt + 1) (by rfl) (.tmp 41) (.tmp 44) 23 5 .u8 1 (by rfl) Try.underlying23 info5 (.slice A0 r0 c0) (restOf p pos (pos / 64)) (xs.take kk) w.heap.size Aj kk cj (by simp [Act.eval, Act.put]) (by simp [Act.eval, Act.put]) Hyl.out (by exact hO1) (by exact hR1) (by exact hB1) (by exact hgt) (by omega) (by rw [Hrl.out]; omega) ?_; intro v1 w4 hO4 hB4 hg4 hat4))
          have he4 : restOf p pos (pos / 64) ++ xs.take kk = restOf p (pos + kk) (pos / 64) :=
            restOf_append (p := p) (xs := xs) (pos := pos) (q := pos / 64) (k := kk) (by rw [Hm.out]; omega) HX.out (by rw [Hm.out]; exact hkm) (by omega)
          rw [he4] at hO4
          have hS4 : StR w w.heap.size gt (gt + 1) p (pos + kk) (pos / 64) v1 w4 := hS.other (row := (Value.slice A0 r0 c0).ownBlock) ⟨hg4.os, hg4.tape, hg4.output, hg4.size, hg4.block⟩ (fun k hk => own_base hS.v.out _ hk) (by omega) (by omega) hO4 (hS.b.trans (hB4.mono (by omega)))
          have hq4 : (pos + kk) / 64 = pos / 64 + 1 := by have := Hr0.out; have := Hkk.out; omega
          have hm4 : pos + kk = 64 * (pos / 64 + 1) := by have := Hr0.out; have := Hkk.out; omega
          obtain ⟨A4, c4, hv4, hc4, _⟩ := hO4.slice
          have hl4 : (restOf p (pos + kk) (pos / 64)).length = 64 := by rw [restOf_length (by omega)]; omega
          rw [hl4] at hv4 hc4
          subst hv4
          have Hq4 := keep hq4
          have Hm4 := keep hm4
          have Hl4 := keep hl4
          clear hq4 hm4 hl4 he4 hO4 hO1 hR1 hB1 hcut hhead hat4 hg4 hB4 hS hRw
          go_wp2
          simp only [Act.put, List.setIfInBounds_toArray, List.set_cons_succ, List.set_cons_zero, List.getElem_toArray, List.getElem_cons_succ, List.getElem_cons_zero]
          go_loopw [4] (fun v wr => (v = .slice A4 64 c4 ∧ StR w w.heap.size gt (gt + 1) p (pos + kk) (pos / 64) (.slice A4 64 c4) wr) ∨ (v = .slice A4 0 c4 ∧ StR w w.heap.size gt (gt + 1) p (pos + kk) (pos / 64 + 1) (.slice A4 0 c4) wr)) (fun v _ => lenOf v)
          case atStart => exact .inl ⟨rfl, hS4⟩
          case round =>
            clear hS4
            rcases hrel with ⟨rfl, hSr⟩ | ⟨rfl, hSr⟩
            · obtain ⟨_, _, hv5, _, hrd5⟩ := hSr.v.slice
              injection hv5 with hv5 he6 he7
              subst hv5
              clear he6 he7
              obtain ⟨bb, bo, rfl, hbb, hbc⟩ := hrd5.all_ (by rw [Hl4.out]; omega)
              have hbc' : ∀ i, i < 64 → wr.cell? ⟨bb, bo + i, none⟩ = some (.int .u8 (blockAt p (pos / 64) i)) := fun i hi => by
                rw [hbc i (by rw [Hl4.out]; exact hi), restOf_getD (by have := Hm4.out; omega)]
              have Hbc := keep hbc'
              have hh0 := cut_head (P := Try.prog) 23 5 Try.underlying23 (by kernel_rfl) (some ⟨bb, bo, none⟩) 64 c4 0 (by omega) (by omega)
              simp only [Int.toNat_zero] at hh0
              have hgq := row_lt hSr.t
              clear hbc hbc' hrd5
              go_wp2_with (go_at_call 59; refine (st_turn gt bb bo 64 c4 (hashTo p (pos / 64)) ksP (blockAt p (pos / 64)) wr (hashTo_length _ _) rfl (by omega) (by omega) hSr.t Hbc.out).mono ?_; rintro e w6 ⟨rfl, hT1, hT2⟩)
              obtain ⟨h1, h2, h3, h4⟩ := hSr.turned hT1 hT2 (by omega) (by omega)
              clear hT1 hT2
              go_wp2
              go_roundw
              case rel =>
                refine .inr ⟨rfl, h1, h2, ?_, h4⟩
                have := h3.take 0 (by omega)
                rw [List.take_zero] at this
                rw [Hm4.out, restOf_nil]
                exact this
              case measure => simp [lenOf]
            · have hPart : PartR w gt p pos m xs (.slice A4 0 c4) kk mk Ab wr := ⟨Hmk.out.symm, by have := Hm4.out; omega, hRb, by rw [Hq4.out]; exact hSr⟩
              clear hSr
              go_wp2
              go_loopw [7] (fun b wr => ∃ (d mb cb : Nat) (Ab : Option Addr), d ≤ m ∧ b = .slice Ab mb cb ∧ mb ≤ cb ∧ mb ≤ m ∧ PartR w gt p pos m xs (.slice A4 0 c4) d mb Ab wr) (fun b _ => lenOf b)
              case atStart => exact ⟨kk, mk, ck, Ab, by omega, rfl, by omega, by omega, hPart⟩
              case round =>
                clear hPart
                obtain ⟨d, mb, cb, Ab, hd, rfl, hcb, hmbm, hQ⟩ := hrel
                have hlx : (xs.drop d).length = mb := by rw [List.length_drop, hQ.len, Hm.out]
                have Hlx := keep hlx
                have HQ := keep hQ.len
                have HQ64 := keep hQ.al
                have hSq := hQ.s
                have hRq := hQ.rd.below hQ.s.b
                have hgq := row_lt hSq.t
                by_cases hge : 64 ≤ mb
                · obtain ⟨bb, bo, rfl, hbb, hbc⟩ := hRq.all_ (by rw [hlx]; omega)
                  have hbc' : ∀ i, i < 64 → wr.cell? ⟨bb, bo + i, none⟩ = some (.int .u8 (blockAt p ((pos + d) / 64) i)) := fun i hi => by
                    rw [hbc i (by rw [Hlx.out]; omega)]
                    have h1 : (xs.drop d).getD i 0 = xs.getD (d + i) 0 := by simp [List.getD_eq_getElem?_getD]
                    have h2 := HX.out (d + i) (by rw [Hm.out]; have := HQ.out; omega)
                    rw [h1, ← h2, blockAt]
                    congr 3
                    have := HQ64.out; omega
                  have Hbc := keep hbc'
                  have hPr := hQ.rd
                  obtain ⟨A6, hcut6, hrd6⟩ := cut_tail (P := Try.prog) 23 5 Try.underlying23 (by kernel_rfl) (some ⟨bb, bo, none⟩) mb cb 64 (by omega) (by omega)
                  have Hrd6 := keep hrd6
                  have ht64 : decide ((mb : Int) ≥ 64) = true := by simp; omega
                  clear hQ hlx hbc hbc' hrd6
                  go_wp2_with (go_at_call 59; refine (st_turn gt bb bo mb cb (hashTo p ((pos + d) / 64)) ksP (blockAt p ((pos + d) / 64)) wr (hashTo_length _ _) rfl hge (by omega) hSq.t Hbc.out).mono ?_; rintro e w6 ⟨rfl, hT1, hT2⟩)
                  obtain ⟨h1, h2, h3, h4⟩ := hSq.turned hT1 hT2 (by omega) (by omega)
                  clear hT1 hT2
                  go_wp2
                  go_roundw
                  case rel =>
                    have hq1 : (pos + (d + 64)) / 64 = (pos + d) / 64 + 1 := by omega
                    have hmb : mb = m - d := HQ.out
                    refine ⟨d + 64, mb - 64, cb - 64, A6, by omega, by simp, by omega, by omega, ⟨by omega, by have := HQ64.out; omega, ?_, ?_⟩⟩
                    · have hr := Hrd6.out w w.heap.size .u8 (xs.drop d) hcb Hlx.out hPr
                      rw [List.drop_drop] at hr
                      exact hr
                    · rw [hq1]
                      refine ⟨h1, h2, ?_, h4⟩
                      have e1 : restOf p (pos + (d + 64)) ((pos + d) / 64 + 1) = [] := by
                        have : pos + (d + 64) = 64 * ((pos + d) / 64 + 1) := by have := HQ64.out; omega
                        rw [this]; exact restOf_nil _ _
                      have e2 : restOf p (pos + d) ((pos + d) / 64) = [] := by
                        have : pos + d = 64 * ((pos + d) / 64) := by have := HQ64.out; omega
                        conv => lhs; rw [this]
                        rw [show 64 * ((pos + d) / 64) / 64 = (pos + d) / 64 by omega]
                        exact restOf_nil _ _
                      rw [e1, ← e2]
                      exact h3
                  case measure => simp [lenOf]; omega
                · have hq1 : (pos + m) / 64 = (pos + d) / 64 := by have := HQ64.out; have := HQ.out; omega
                  have e2 : restOf p (pos + d) ((pos + d) / 64) = [] := by
                    have : pos + d = 64 * ((pos + d) / 64) := by have := HQ64.out; omega
                    conv => lhs; rw [this]
                    rw [show 64 * ((pos + d) / 64) / 64 = (pos + d) / 64 by omega]
                    exact restOf_nil _ _
                  have He2 := keep e2
                  have Hq1 := keep hq1
                  have hPr := hQ.rd
                  have ht64 : decide ((mb : Int) ≥ 64) = false := by simp; omega
                  clear hQ hlx e2 hq1
                  by_cases hm0 : mb = 0
                  · have ht0 : ¬ 0 < mb := by omega
                    have ht0' : decide (0 < mb) = false := by simp; omega
                    have hdm : d = m := by have := HQ.out; omega
                    clear hm0
                    go_wp2
                    go_roundw
                    case rel =>
                      refine ⟨j + 1, by omega, by go_num, by rw [Hpos.out, Hm.out]; go_num, ?_⟩
                      rw [Hpos.out, Hm.out, ← hdm]
                      exact hSq
                    case measure => simp [intOf]; omega
                  · have ht0 : 0 < mb := by omega
                    have ht0' : decide (0 < mb) = true := by simp; omega
                    have hov := hSq.v
                    rw [He2.out] at hov
                    go_wp2_with (at_builtin; go_must (refine wpList_append_ints (w0 := wr) (W := wr) (gt + 1) rfl (.tmp 68) (.tmp 69) 23 5 .u8 1 rfl Try.underlying23 info5 (.slice A4 0 c4) [] (xs.drop d) w.heap.size Ab mb cb rfl rfl Hlx.out hov hRq (Below.refl _ _) hgq (by omega) (by simp; omega) ?_))
                    rintro v7 w7 hO7 hB7 hg7 _
                    go_wp2
                    go_roundw
                    case rel =>
                      refine ⟨j + 1, by omega, by go_num, by rw [Hpos.out, Hm.out]; go_num, ?_⟩
                      rw [Hpos.out, Hm.out, Hq1.out]
                      have he := restOf_append (p := p) (xs := xs.drop d) (pos := pos + d) (q := (pos + d) / 64) (k := mb) (by rw [Hlx.out]; have := HQ.out; omega) (fun i hi => by
                        have h1 : (xs.drop d).getD i 0 = xs.getD (d + i) 0 := by simp [List.getD_eq_getElem?_getD]
                        rw [h1, ← HX.out (d + i) (by rw [Hm.out]; rw [Hlx.out] at hi; have := HQ.out; omega), Nat.add_assoc]) (by rw [Hlx.out]; exact Nat.le_refl _) (by omega)
                      rw [List.take_of_length_le (by rw [Hlx.out]; exact Nat.le_refl _), He2.out, show pos + d + mb = pos + m by have := HQ.out; omega] at he
                      rw [List.nil_append] at he
                      rw [he] at hO7
                      exact hSq.other hg7 (fun k hk => own_base hSq.v.out _ hk) (by omega) (by omega) hO7 (hSq.b.trans (hB7.mono (by omega)))
                    case measure => simp [intOf]; omega
    · have hjl : j = l.length := by omega
      have hpos : (l.take j).flatten.length = l.flatten.length := by rw [hjl, List.take_length]
      rw [hpos] at hS ⊢
      obtain ⟨N, hN⟩ : ∃ N, l.flatten.length = N := ⟨_, rfl⟩
      rw [hN] at hS hL hpl2 hpl ⊢
      have Hpl2 := Hpl'.out
      rw [hN] at Hpl2
      have HN := keep hN
      have HPL := keep Hpl2
      have hrl := restOf_length (p := p) (pos := N) (q := N / 64) hpl2
      have hr64 : N - 64 * (N / 64) < 64 := by omega
      obtain ⟨A0, c0, rfl, hc0, hR0⟩ := hS.v.slice
      rw [hrl] at hS hc0 ⊢
      obtain ⟨r0, hr0⟩ : ∃ r0, N - 64 * (N / 64) = r0 := ⟨_, rfl⟩
      rw [hr0] at hS hc0 hr64 hrl ⊢
      have Hr0 := keep hr0
      have Hrl := keep hrl
      have ht : decide ((j : Int) < (l.length : Int)) = false := by simp; omega
      obtain ⟨wo, rfl⟩ : ∃ wo : World, wo = wr := ⟨_, rfl⟩
      clear hjl hpos hN hrl hr0 Hpl2
      have hzv : ∀ W : World, (zeroValue 113).run Try.prog W = .ok (.agg (bys z128)) W := fun W => by kernel_rfl
      have hc2 : (ints .u8 (restOf p N (N / 64))).length = Nat.min r0 128 := by rw [ints_length, Hrl.out]; exact (Nat.min_eq_left (by omega)).symm
      have hc3 : 0 < (ints .u8 (restOf p N (N / 64))).length → (some (⟨wo.heap.size, 0, none⟩ : Addr)) = some ⟨wo.heap.size, 0, none⟩ ∧ ∃ ad, A0 = some ad ∧ ∀ j v, (ints .u8 (restOf p N (N / 64)))[j]? = some v → (wo.alloc (.cells (bys z128) 113)).cell? (ad.add j) = some v := fun hp => by
        obtain ⟨ad, he, hb, hc⟩ := hR0.out.2 (by rw [ints_length] at hp; exact hp)
        exact ⟨rfl, ad, he, fun j v hv => by rw [World.cell?_alloc_lt wo _ (ad.add j) (by rw [block_of_add]; exact hb)]; exact hc j v hv⟩
      have hc4 : 0 + (ints .u8 (restOf p N (N / 64))).length ≤ (ints .u8 z128).length := by rw [ints_length, ints_length, Hrl.out]; simp [z128]; omega
      have Hc2 := keep hc2
      have Hc3 := keep hc3
      have Hc4 := keep hc4
      clear hc2 hc3 hc4
      go_wp2_with (refine wpList_copy_splice rfl (.tmp 72) (.tmp 73) 23 23 rfl 5 Try.underlying23 (by kernel_rfl) (some ⟨wo.heap.size, 0, none⟩) A0 128 128 r0 c0 rfl rfl wo.heap.size 0 (ints .u8 z128) 113 (heap_alloc_new wo _) (ints .u8 (restOf p N (N / 64))) Hc2.out Hc3.out Hc4.out (ints_one _ _) wo.heap.size wo ((Below.refl _ _).alloc (Nat.le_refl _) _) (Nat.le_refl _) ?_)
      intro w4 hs4 hb4
      have hl4 : w4.heap[wo.heap.size]? = some (.cells (bys (lastA (restOf p N (N / 64)))) 113 (0, 0)) := by
        have := hs4.out
        rw [lastA_splice] at this
        exact this
      have hS4 : StR w w.heap.size gt (gt + 1) p N (N / 64) (.slice A0 r0 c0) w4 := hS.other (row := none) (below_grownBy hb4 none) (fun k hk => by cases hk) (by omega) (by omega) (hS.v.below hb4) (hS.b.trans (hb4.mono hS.b.size))
      have hwl : gt < wo.heap.size := row_lt hS.t
      have hgl : w.heap.size < wo.heap.size := by omega
      have hil : (ints .u8 (restOf p N (N / 64))).length = r0 := by rw [ints_length, Hrl.out]
      have hll : (lastA (restOf p N (N / 64))).length = 128 := by simp [lastA, Hrl.out]; omega
      have hk4 := byte_cell hl4 (k := r0) (by omega)
      have hf4 := frozen_of_row w4 wo.heap.size r0 _ _ hl4
      have Hll := keep hll
      have HLA : Keep (lastA (restOf p N (N / 64)) = lastA (restOf p N (N / 64))) := ⟨rfl⟩
      generalize hla : lastA (restOf p N (N / 64)) = la at hl4 hk4 Hll
      have Hla := keep hla
      have Hl4 := keep hl4
      clear hs4 hb4 hS hR0 hll hla hl4 HLA Hc2 Hc3 Hc4 hzv
      have Hl0 : Keep ((w4.setCell ⟨wo.heap.size, r0, none⟩ (.int .u8 128)).heap[wo.heap.size]? = some (.cells (bys (la.set r0 128)) 113 (0, 0))) := ⟨byte_set Hl4.out r0 128⟩
      have hS5 : FinR w w.heap.size gt p (N / 64) (w4.setCell ⟨wo.heap.size, r0, none⟩ (.int .u8 128)) := ⟨by rw [Below.heap_setCell _ _ _ _ (by simp; omega)]; exact hS4.r, by rw [Below.heap_setCell _ _ _ _ (by simp; omega)]; exact hS4.t, hS4.b.setCell (by simp; omega) _⟩
      by_cases h56 : r0 + 9 > 64
      · have hb56 : (64 : Int) < (r0 : Int) + 9 := by omega
        go_wp2
        clear hk4 hf4 hil
        generalize w4.setCell ⟨wo.heap.size, r0, none⟩ (.int .u8 128) = w5 at *
        have hE : 64 * (N / 64) + 128 = p.length := by
          have h1 := last_len N
          rw [Hr0.out, if_pos h56] at h1
          rw [HPL.out]; exact h1
        have HE := keep hE
        clear hE
        go_loopw [80] (fun i wr => ∃ k : Nat, k ≤ 8 ∧ i = .int .i64 k ∧ wr.heap[wo.heap.size]? = some (.cells (bys (lenTo (la.set r0 128) 120 N k)) 113 (0, 0)) ∧ FinR w w.heap.size gt p (N / 64) wr) (fun i _ => 8 - (intOf i).toNat)
        case atStart => exact ⟨0, by omega, rfl, Hl0.out, hS5⟩
        case round =>
          clear hS5
          obtain ⟨k, hk, rfl, hL5, hF⟩ := hrel
          have hlk := lenTo_length (la.set r0 128) 120 N k
          rw [List.length_set, Hll.out] at hlk
          by_cases hk8 : k < 8
          · have hnext : lenTo (la.set r0 128) 120 N (k + 1) = (lenTo (la.set r0 128) 120 N k).set (120 + k) (lenAt N k) := rfl
            have hdef : lenAt N k = (N : Int) * 8 / 2 ^ (56 - 8 * k) % 256 := rfl
            generalize lenTo (la.set r0 128) 120 N k = lk at *
            have pc := byte_cell hL5 (k := 120 + k) (by omega)
            have pf := frozen_of_row wr wo.heap.size (120 + k) _ _ hL5
            have Hnext := keep hnext
            have Hdef := keep hdef
            have HL5 := keep hL5
            clear hnext hdef hL5 hlk
            go_wp2
            go_roundw
            case rel =>
              refine ⟨k + 1, by omega, by go_num, ?_, hF.far (by omega) (by omega) (by omega) _ _⟩
              rw [Hnext.out, Hdef.out]
              exact byte_set HL5.out _ _
            case measure => simp [intOf]; omega
          · have hk8' : k = 8 := by omega
            rw [hk8'] at hL5 hlk
            clear hk8'
            obtain ⟨lf, hlf⟩ : ∃ lf, lenTo (la.set r0 128) 120 N 8 = lf := ⟨_, rfl⟩
            rw [hlf] at hL5 hlk
            have HLF : Keep (∀ x, x < 128 → lf.getD x 0 = p.getD (64 * (N / 64) + x) 0) := ⟨fun x hx => by
              have hle := last_is l.flatten 128 (by rw [Hpp.out, HN.out]; exact HE.out) (by omega) x hx
              rw [Hpp.out, HN.out, Hr0.out, Hla.out] at hle
              rw [← hlf]
              exact hle⟩
            have Hlk := keep hlk
            clear hlf hlk
            obtain ⟨wo2, rfl⟩ : ∃ w' : World, w' = wr := ⟨_, rfl⟩
            go_wp2
            go_loopw [13] (fun i wr => ∃ b : Nat, b ≤ 2 ∧ i = .int .i64 (64 * (b : Int)) ∧ wr.heap[wo.heap.size]? = some (.cells (bys lf) 113 (0, 0)) ∧ FinR w w.heap.size gt p (N / 64 + b) wr) (fun i _ => 128 - (intOf i).toNat)
            case atStart => exact ⟨0, by omega, rfl, hL5, hF⟩
            case round =>
              clear hF hL5
              obtain ⟨b, hb, rfl, hL5, hF⟩ := hrel
              have HL5 := keep hL5
              by_cases hbn : b < 2
              · have hbc : ∀ i, i < 64 → wr.cell? ⟨wo.heap.size, 64 * b + i, none⟩ = some (.int .u8 (blockAt p (N / 64 + b) i)) := fun i hi => by
                  rw [byte_cell hL5 (by rw [Hlk.out]; omega), HLF.out _ (by omega), blockAt]
                  congr 3; omega
                have Hbc := keep hbc
                have h1b : ¬ (128 : Int) = 64 * (b : Int) := by omega
                have h2b : ¬ 128 = 64 * b := by omega
                have hsl := slice_block (g := wo.heap.size) (b := b) (by omega)
                clear hbc hL5
                go_wp2_with (go_at_call 59; refine (st_turn gt wo.heap.size (64 * b) 64 (128 - 64 * b) (hashTo p (N / 64 + b)) ksP (blockAt p (N / 64 + b)) wr (hashTo_length _ _) rfl (by omega) (by omega) hF.t Hbc.out).mono ?_; rintro e w6 ⟨rfl, hT1, hT2⟩)
                have hF6 := hF.turned hT1 hT2 (by omega) (by omega)
                have hL6 : w6.heap[wo.heap.size]? = some (.cells (bys lf) 113 (0, 0)) := by rw [hT2.block _ (row_lt HL5.out) (fun e => by injection e with e; omega)]; exact HL5.out
                clear hT1 hT2
                go_wp2
                go_roundw
                case rel => exact ⟨b + 1, by omega, by go_num, hL6, hF6⟩
                case measure => simp [intOf]; omega
              · have hbn' : b = 2 := by omega
                rw [hbn'] at hF
                have hqq : N / 64 + 2 = p.length / 64 := by have := HE.out; omega
                rw [hqq] at hF
                clear hbn' hqq hL5
                obtain ⟨hs, hhs⟩ : ∃ hs, hashTo p (p.length / 64) = hs := ⟨_, rfl⟩
                have hl8 := hashTo_length p (p.length / 64)
                rw [hhs] at hl8
                have hK0 : KeyR w w.heap.size gt hs wr := ⟨hF.r, by rw [← hhs]; exact hF.t, hF.b⟩
                have Hfin : Keep (sumP l.flatten = keyTo hs 32) := ⟨by rw [sumP, Hpp.out, hhs]⟩
                have Hl8 := keep hl8
                obtain ⟨wo3, rfl⟩ : ∃ w' : World, w' = wr := ⟨_, rfl⟩
                clear hhs hl8 hF
                go_wp2
                go_loopw [107] (fun i wr => ∃ m : Nat, m ≤ 32 ∧ i = .int .i64 m ∧ KeyR w w.heap.size gt hs wr ∧ wr.heap[wo3.heap.size]? = some (.cells (bys (keyTo hs m)) 30 (0, 0))) (fun i _ => 32 - (intOf i).toNat)
                case atStart =>
                  refine ⟨0, by omega, rfl, ⟨?_, ?_, hK0.b.alloc hK0.b.size _⟩, heap_alloc_new _ _⟩
                  · rw [Below.heap_alloc _ _ _ (row_lt hK0.r)]; exact hK0.r
                  · rw [Below.heap_alloc _ _ _ (row_lt hK0.t)]; exact hK0.t
                case round =>
                  have hgl3 := row_lt hK0.t
                  clear hK0
                  obtain ⟨m, hm, rfl, hK, hO⟩ := hrel
                  by_cases hm32 : m < 32
                  · have hnext : keyTo hs (m + 1) = (keyTo hs m).set m (keyAt hs m) := rfl
                    have hlk := keyTo_length hs m
                    have hka : keyAt hs m = hs.getD (m / 4) 0 / 2 ^ (24 - 8 * (m % 4)) % 256 := rfl
                    have ps := row_cell hK.t (k := m / 4) (by rw [List.length_append]; have := Hl8.out; omega)
                    rw [List.getD_eq_getElem?_getD, List.getElem?_append_left (by have := Hl8.out; omega), ← List.getD_eq_getElem?_getD] at ps
                    have po := byte_cell hO (k := m) (by omega)
                    have pf := frozen_of_row wr wo3.heap.size m _ _ hO
                    generalize hs.getD (m / 4) 0 = x at *
                    generalize keyTo hs m = ks at *
                    have Hnext := keep hnext
                    have Hka := keep hka
                    have HO := keep hO
                    clear hnext hka hO hlk
                    go_wp2
                    go_roundw
                    case rel =>
                      refine ⟨m + 1, by omega, by go_num, hK.far (by omega) (by omega) (by omega) _ _, ?_⟩
                      rw [Hnext.out, Hka.out]
                      exact byte_set HO.out m _
                    case measure => simp [intOf]; omega
                  · have hm32' : m = 32 := by omega
                    rw [hm32', ← Hfin.out] at hO
                    have hr := hK.r
                    have Hb := hK.b
                    have hsz : (bys (sumP l.flatten)).size = 32 := by simp [bys, sumP, keyTo_length]
                    have hone : (bys (sumP l.flatten)).all (·.oneCell') = true := by simp [bys, Value.oneCell']
                    obtain ⟨key, hkey⟩ : ∃ key, sumP l.flatten = key := ⟨_, rfl⟩
                    rw [hkey] at hO hsz hone
                    have Hkey := keep hkey
                    have Hr := keep hr
                    have HO := keep hO
                    have Hsz := keep hsz
                    have Hone := keep hone
                    have Hinf : Keep ((Try.prog.info? 30).map (·.size) = some (bys key).size) := ⟨by rw [hsz]; kernel_rfl⟩
                    clear hm32' hr hO hsz hone hkey
                    go_wp2_with (first | (refine wpList_load_row rfl 30 (.tmp 14) rfl wo3.heap.size rfl 30 (bys key) (0, 0) _ HO.out Try.underlying30 rfl Hinf.out ?_) | (refine wpList_store_row rfl 30 (.tmp 2) (.tmp 127) rfl w.heap.size (bys key) rfl rfl 30 _ Hr.out Hinf.out (by rw [Hsz.out]; rfl) Hone.out ?_))
                    refine bodyPost_ret (results_cell_row (p := 2) (ty := 30) rfl _ _ w.heap.size 30 (bys key) (0, 0) _ rfl (setRow_heap _ _ _ _ _ _ Hr.out) Try.underlying30 rfl Hinf.out) rfl ⟨by rw [Hkey.out], ?_⟩
                    exact below_setRow Hb (Nat.le_refl _) _
      · have hb56 : (r0 : Int) + 9 ≤ 64 := by omega
        go_wp2
        clear hk4 hf4 hil
        generalize w4.setCell ⟨wo.heap.size, r0, none⟩ (.int .u8 128) = w5 at *
        have hE : 64 * (N / 64) + 64 = p.length := by
          have h1 := last_len N
          rw [Hr0.out, if_neg h56] at h1
          rw [HPL.out]; exact h1
        have HE := keep hE
        clear hE
        go_loopw [80] (fun i wr => ∃ k : Nat, k ≤ 8 ∧ i = .int .i64 k ∧ wr.heap[wo.heap.size]? = some (.cells (bys (lenTo (la.set r0 128) 56 N k)) 113 (0, 0)) ∧ FinR w w.heap.size gt p (N / 64) wr) (fun i _ => 8 - (intOf i).toNat)
        case atStart => exact ⟨0, by omega, rfl, Hl0.out, hS5⟩
        case round =>
          clear hS5
          obtain ⟨k, hk, rfl, hL5, hF⟩ := hrel
          have hlk := lenTo_length (la.set r0 128) 56 N k
          rw [List.length_set, Hll.out] at hlk
          by_cases hk8 : k < 8
          · have hnext : lenTo (la.set r0 128) 56 N (k + 1) = (lenTo (la.set r0 128) 56 N k).set (56 + k) (lenAt N k) := rfl
            have hdef : lenAt N k = (N : Int) * 8 / 2 ^ (56 - 8 * k) % 256 := rfl
            generalize lenTo (la.set r0 128) 56 N k = lk at *
            have pc := byte_cell hL5 (k := 56 + k) (by omega)
            have pf := frozen_of_row wr wo.heap.size (56 + k) _ _ hL5
            have Hnext := keep hnext
            have Hdef := keep hdef
            have HL5 := keep hL5
            clear hnext hdef hL5 hlk
            go_wp2
            go_roundw
            case rel =>
              refine ⟨k + 1, by omega, by go_num, ?_, hF.far (by omega) (by omega) (by omega) _ _⟩
              rw [Hnext.out, Hdef.out]
              exact byte_set HL5.out _ _
            case measure => simp [intOf]; omega
          · have hk8' : k = 8 := by omega
            rw [hk8'] at hL5 hlk
            clear hk8'
            obtain ⟨lf, hlf⟩ : ∃ lf, lenTo (la.set r0 128) 56 N 8 = lf := ⟨_, rfl⟩
            rw [hlf] at hL5 hlk
            have HLF : Keep (∀ x, x < 64 → lf.getD x 0 = p.getD (64 * (N / 64) + x) 0) := ⟨fun x hx => by
              have hle := last_is l.flatten 64 (by rw [Hpp.out, HN.out]; exact HE.out) (by omega) x hx
              rw [Hpp.out, HN.out, Hr0.out, Hla.out] at hle
              rw [← hlf]
              exact hle⟩
            have Hlk := keep hlk
            clear hlf hlk
            obtain ⟨wo2, rfl⟩ : ∃ w' : World, w' = wr := ⟨_, rfl⟩
            go_wp2
            go_loopw [13] (fun i wr => ∃ b : Nat, b ≤ 1 ∧ i = .int .i64 (64 * (b : Int)) ∧ wr.heap[wo.heap.size]? = some (.cells (bys lf) 113 (0, 0)) ∧ FinR w w.heap.size gt p (N / 64 + b) wr) (fun i _ => 64 - (intOf i).toNat)
            case atStart => exact ⟨0, by omega, rfl, hL5, hF⟩
            case round =>
              clear hF hL5
              obtain ⟨b, hb, rfl, hL5, hF⟩ := hrel
              have HL5 := keep hL5
              by_cases hbn : b < 1
              · have hbc : ∀ i, i < 64 → wr.cell? ⟨wo.heap.size, 64 * b + i, none⟩ = some (.int .u8 (blockAt p (N / 64 + b) i)) := fun i hi => by
                  rw [byte_cell hL5 (by rw [Hlk.out]; omega), HLF.out _ (by omega), blockAt]
                  congr 3; omega
                have Hbc := keep hbc
                have h1b : ¬ (128 : Int) = 64 * (b : Int) := by omega
                have h2b : ¬ 128 = 64 * b := by omega
                have hsl := slice_block (g := wo.heap.size) (b := b) (by omega)
                clear hbc hL5
                go_wp2_with (go_at_call 59; refine (st_turn gt wo.heap.size (64 * b) 64 (128 - 64 * b) (hashTo p (N / 64 + b)) ksP (blockAt p (N / 64 + b)) wr (hashTo_length _ _) rfl (by omega) (by omega) hF.t Hbc.out).mono ?_; rintro e w6 ⟨rfl, hT1, hT2⟩)
                have hF6 := hF.turned hT1 hT2 (by omega) (by omega)
                have hL6 : w6.heap[wo.heap.size]? = some (.cells (bys lf) 113 (0, 0)) := by rw [hT2.block _ (row_lt HL5.out) (fun e => by injection e with e; omega)]; exact HL5.out
                clear hT1 hT2
                go_wp2
                go_roundw
                case rel => exact ⟨b + 1, by omega, by go_num, hL6, hF6⟩
                case measure => simp [intOf]; omega
              · have hbn' : b = 1 := by omega
                rw [hbn'] at hF
                have hqq : N / 64 + 1 = p.length / 64 := by have := HE.out; omega
                rw [hqq] at hF
                clear hbn' hqq hL5
                obtain ⟨hs, hhs⟩ : ∃ hs, hashTo p (p.length / 64) = hs := ⟨_, rfl⟩
                have hl8 := hashTo_length p (p.length / 64)
                rw [hhs] at hl8
                have hK0 : KeyR w w.heap.size gt hs wr := ⟨hF.r, by rw [← hhs]; exact hF.t, hF.b⟩
                have Hfin : Keep (sumP l.flatten = keyTo hs 32) := ⟨by rw [sumP, Hpp.out, hhs]⟩
                have Hl8 := keep hl8
                obtain ⟨wo3, rfl⟩ : ∃ w' : World, w' = wr := ⟨_, rfl⟩
                clear hhs hl8 hF
                go_wp2
                go_loopw [107] (fun i wr => ∃ m : Nat, m ≤ 32 ∧ i = .int .i64 m ∧ KeyR w w.heap.size gt hs wr ∧ wr.heap[wo3.heap.size]? = some (.cells (bys (keyTo hs m)) 30 (0, 0))) (fun i _ => 32 - (intOf i).toNat)
                case atStart =>
                  refine ⟨0, by omega, rfl, ⟨?_, ?_, hK0.b.alloc hK0.b.size _⟩, heap_alloc_new _ _⟩
                  · rw [Below.heap_alloc _ _ _ (row_lt hK0.r)]; exact hK0.r
                  · rw [Below.heap_alloc _ _ _ (row_lt hK0.t)]; exact hK0.t
                case round =>
                  have hgl3 := row_lt hK0.t
                  clear hK0
                  obtain ⟨m, hm, rfl, hK, hO⟩ := hrel
                  by_cases hm32 : m < 32
                  · have hnext : keyTo hs (m + 1) = (keyTo hs m).set m (keyAt hs m) := rfl
                    have hlk := keyTo_length hs m
                    have hka : keyAt hs m = hs.getD (m / 4) 0 / 2 ^ (24 - 8 * (m % 4)) % 256 := rfl
                    have ps := row_cell hK.t (k := m / 4) (by rw [List.length_append]; have := Hl8.out; omega)
                    rw [List.getD_eq_getElem?_getD, List.getElem?_append_left (by have := Hl8.out; omega), ← List.getD_eq_getElem?_getD] at ps
                    have po := byte_cell hO (k := m) (by omega)
                    have pf := frozen_of_row wr wo3.heap.size m _ _ hO
                    generalize hs.getD (m / 4) 0 = x at *
                    generalize keyTo hs m = ks at *
                    have Hnext := keep hnext
                    have Hka := keep hka
                    have HO := keep hO
                    clear hnext hka hO hlk
                    go_wp2
                    go_roundw
                    case rel =>
                      refine ⟨m + 1, by omega, by go_num, hK.far (by omega) (by omega) (by omega) _ _, ?_⟩
                      rw [Hnext.out, Hka.out]
                      exact byte_set HO.out m _
                    case measure => simp [intOf]; omega
                  · have hm32' : m = 32 := by omega
                    rw [hm32', ← Hfin.out] at hO
                    have hr := hK.r
                    have Hb := hK.b
                    have hsz : (bys (sumP l.flatten)).size = 32 := by simp [bys, sumP, keyTo_length]
                    have hone : (bys (sumP l.flatten)).all (·.oneCell') = true := by simp [bys, Value.oneCell']
                    obtain ⟨key, hkey⟩ : ∃ key, sumP l.flatten = key := ⟨_, rfl⟩
                    rw [hkey] at hO hsz hone
                    have Hkey := keep hkey
                    have Hr := keep hr
                    have HO := keep hO
                    have Hsz := keep hsz
                    have Hone := keep hone
                    have Hinf : Keep ((Try.prog.info? 30).map (·.size) = some (bys key).size) := ⟨by rw [hsz]; kernel_rfl⟩
                    clear hm32' hr hO hsz hone hkey
                    go_wp2_with (first | (refine wpList_load_row rfl 30 (.tmp 14) rfl wo3.heap.size rfl 30 (bys key) (0, 0) _ HO.out Try.underlying30 rfl Hinf.out ?_) | (refine wpList_store_row rfl 30 (.tmp 2) (.tmp 127) rfl w.heap.size (bys key) rfl rfl 30 _ Hr.out Hinf.out (by rw [Hsz.out]; rfl) Hone.out ?_))
                    refine bodyPost_ret (results_cell_row (p := 2) (ty := 30) rfl _ _ w.heap.size 30 (bys key) (0, 0) _ rfl (setRow_heap _ _ _ _ _ _ Hr.out) Try.underlying30 rfl Hinf.out) rfl ⟨by rw [Hkey.out], ?_⟩
                    exact below_setRow Hb (Nat.le_refl _) _
end Go.Proofs.Ytmfgcdfemhaieaa
