/- Lists of texts held against one another; errors joined. -/
import Derived.Test.YthamnnhpagllcaaDoorErrG
namespace Go.Proofs.YthamnnhpagllcaaDoor
open Go.RowKit Go.Extern.Stop Go.Stop Go.Extern

theorem eq_bool {b c : Bool} {W : World} {r : Result Next} (h : b = c) (hx : r = .ok (.value (.bool b)) W) : r = .ok (.value (.bool c)) W := h ▸ hx
theorem eq_int {k : IntKind} {a b : Int} {W : World} {r : Result Next} (h : a = b) (hx : r = .ok (.value (.int k a)) W) : r = .ok (.value (.int k b)) W := h ▸ hx
theorem ex_index {P : Program} {a : Act} {o : Oper} (t : TypeId) (x y : Operand) (ho : o.op = .indexAddr t x y) (b off n c k : Nat) (hx : a.eval x = .slice (some ⟨b, off, none⟩) n c) (hy : a.eval y = .int .i64 (k : Int)) (hk : k < n) (hsz : ∃ e, P.underlying t = some (.slice e) ∧ (P.info? e).map (·.size) = some 1) (W : World) :
    (execOp a.eval o).run P W = .ok (.value (.pointer (some ⟨b, off + k, none⟩))) W := by
  obtain ⟨e, ht, hsz⟩ := hsz
  obtain ⟨i, hi, hs⟩ := Option.map_eq_some_iff.1 hsz
  have hel : P.elem t = e := by simp [Program.elem, ht]
  have hk' : (k : Int) < (n : Int) := by omega
  unfold execOp
  simp only [ho, hx, hy, Sem.run_bind]
  rw [run_indexAt_slice (h := by rw [hel]; exact ht), if_pos ⟨by omega, hk'⟩, hel]
  have hadd : ∀ x : Addr, x.spot = none → x.add k = ⟨x.block, x.off + k, none⟩ := fun x hx => by
    obtain ⟨b, o, s⟩ := x
    simp only at hx
    subst hx
    unfold Addr.add
    split <;> simp_all
  simp [sizeOf, typeInfo, hi, hs, Result.andThen, hadd]
/-- The texts of a list, one by one. -/
theorem SO.at_ {W : World} {v : Value} {l : List ByteArray} (h : SO W v l) (hl : 0 < l.length) : ∃ g c, v = .slice (some ⟨g, 0, none⟩) l.length c ∧ g < W.heap.size ∧ ∀ j x, l[j]? = some x → W.cell? ⟨g, 0 + j, none⟩ = some (.string x) := by
  obtain ⟨g, c, hv, _, hlt⟩ := h.out.form hl
  refine ⟨g, c, hv, hlt, fun j x hx => ?_⟩
  have hc := h.out.cells (g := g) (by rw [hv]; rfl) j (.string x) (by rw [List.getElem?_map, hx]; rfl)
  have hadd : (⟨g, 0, none⟩ : Addr).add j = ⟨g, 0 + j, none⟩ := by unfold Addr.add; split <;> simp_all
  rwa [hadd] at hc
theorem SO.len {W : World} {v : Value} {l : List ByteArray} (h : SO W v l) : ∃ A c, v = .slice A l.length c := by
  obtain ⟨A, c, hv, _⟩ := h.slice
  exact ⟨A, c, hv⟩
theorem bytes_toList {x y : Array UInt8} (h : (⟨x⟩ : ByteArray).toList = (⟨y⟩ : ByteArray).toList) : x = y := by
  rw [ByteArray.toList_eq, ByteArray.toList_eq] at h
  exact Array.ext' h
--[REG
set_option maxRecDepth 100000 in
set_option maxHeartbeats 2000000 in
theorem strings_any (u v : Value) (l1 l2 : List ByteArray) (w : World) (h1 : SO w u l1) (h2 : SO w v l2) (hs : l1.length ≤ 100000) (hs2 : l2.length ≤ 100000) : Calls Tryd.prog 15 #[u, v] w (PB (decide (l1 = l2)) w) := by
  by_cases hl : l1.length = l2.length
  · rcases Nat.eq_zero_or_pos l1.length with h0 | h0
    · obtain ⟨A1, c1, rfl⟩ := h1.len
      obtain ⟨A2, c2, rfl⟩ := h2.len
      have e1 : l1 = [] := List.eq_nil_of_length_eq_zero h0
      have e2 : l2 = [] := List.eq_nil_of_length_eq_zero (by omega)
      subst e1 e2
      clear h1 h2
      have e0 : ([] : List ByteArray).length = 0 := rfl
      simp only [e0]
      go_enter Tryd.func15, Tryd.ntmps15
      go_wp2_with fail
      refine wp_loop_rounds 1 ?_
      rw [rounds_succ]
      go_wp2_with fail
      go_ret
      exact ⟨by simp, Below.refl _ _⟩
    · obtain ⟨g1, c1, rfl, hg1, hc1⟩ := h1.at_ h0
      obtain ⟨g2, c2, rfl, hg2, hc2⟩ := h2.at_ (by omega)
      obtain ⟨n, hn⟩ : ∃ n, l1.length = n := ⟨_, rfl⟩
      have hn2 : l2.length = n := by omega
      simp only [hn, hn2]
      have Hn1 := keep hn
      have Hn2 := keep hn2
      have Hc1 := keep hc1
      have Hc2 := keep hc2
      rw [hn] at hs
      clear h1 h2 hc1 hc2 hl h0 hn hn2 hs2
      have hne : ((n : Int) != (n : Int)) = false := by simp
      go_enter Tryd.func15, Tryd.ntmps15
      go_wp2_with fail
      go_loopw [5] (fun i wr => ∃ j : Nat, i = .int .i64 j ∧ j ≤ n ∧ (∀ q, q < j → l1[q]? = l2[q]?) ∧ Below w.heap.size w wr) (fun i _ => n - (intOf i).toNat)
      case atStart => exact ⟨0, rfl, Nat.zero_le _, fun q hq => absurd hq (by omega), Below.refl _ _⟩
      case round =>
        obtain ⟨j, rfl, hj, hq, hB⟩ := hrel
        have Hq := keep hq
        have HB := keep hB
        have hzB := hB.size
        clear hq hB
        by_cases hjl : j < n
        · have ht : decide ((j : Int) < (n : Int)) = true := by simp; omega
          obtain ⟨x, hx⟩ : ∃ x, l1[j]? = some x := ⟨_, List.getElem?_eq_getElem (by rw [Hn1.out]; exact hjl)⟩
          obtain ⟨y, hy⟩ : ∃ y, l2[j]? = some y := ⟨_, List.getElem?_eq_getElem (by rw [Hn2.out]; exact hjl)⟩
          have Hx := keep ((HB.out.cell (p := ⟨g1, 0 + j, none⟩) hg1).trans (Hc1.out j x hx))
          have Hy := keep ((HB.out.cell (p := ⟨g2, 0 + j, none⟩) hg2).trans (Hc2.out j y hy))
          have hl1 : g1 < wr.heap.size := Nat.lt_of_lt_of_le hg1 hzB
          have hl2 : g2 < wr.heap.size := Nat.lt_of_lt_of_le hg2 hzB
          by_cases hxy : x = y
          · subst hxy
            have Hne : Keep ((!(x.toList == x.toList)) = false) := ⟨by simp⟩
            have Hn : Keep (∀ q, q < j + 1 → l1[q]? = l2[q]?) := ⟨fun q hq => by
              rcases Nat.lt_or_ge q j with h | h
              · exact Hq.out q h
              · obtain rfl : q = j := by omega
                rw [hx, hy]⟩
            clear hx hy
            go_wp2_with fail
            refine rg_then (fun a' W => Below wr.heap.size wr W ∧ a' = { tmps := #[.slice (some ⟨g1, 0, none⟩) n c1, .slice (some ⟨g2, 0, none⟩) n c2, undef, undef, u4, .int .i64 ↑j, .slice (some ⟨g1, 0, none⟩) n c1, .int .i64 ↑n, .slice (some ⟨g2, 0, none⟩) n c2, .int .i64 ↑n, .bool false, .int .i64 ↑j, .slice (some ⟨g1, 0, none⟩) n c1, .int .i64 ↑n, .bool true, u15, u16, .slice (some ⟨g1, 0, none⟩) n c1, .int .i64 ↑j, .pointer (some ⟨g1, 0 + j, none⟩), .string x, .slice (some ⟨g2, 0, none⟩) n c2, .int .i64 ↑j, .pointer (some ⟨g2, 0 + j, none⟩), .string x, .bool false], defers := [] }) ?_ ?_
            · refine rg_start (Below wr.heap.size wr) (by kernel_rfl) (Below.refl _ _).drew (fun h0 => ?_)
              refine rg_pure 0 (oi := { dst := some 17, op := Op.move (Operand.tmp 0), type := 29, pos := "haversackhelp.go:23", after := #[], guard := none }) (.slice (some ⟨g1, 0, none⟩) n c1) ({ tmps := #[.slice (some ⟨g1, 0, none⟩) n c1, .slice (some ⟨g2, 0, none⟩) n c2, undef, undef, u4, .int .i64 ↑j, .slice (some ⟨g1, 0, none⟩) n c1, .int .i64 ↑n, .slice (some ⟨g2, 0, none⟩) n c2, .int .i64 ↑n, .bool false, .int .i64 ↑j, .slice (some ⟨g1, 0, none⟩) n c1, .int .i64 ↑n, .bool true, u15, u16, .slice (some ⟨g1, 0, none⟩) n c1, u18, u19, u20, u21, u22, u23, u24, u25], defers := [] }) rfl (by kernel_rfl) (by kernel_rfl) (by kernel_rfl) (by kernel_rfl) (fun _ => by kernel_rfl) (by kernel_rfl) h0 ?_
              refine rg_pure 1 (oi := { dst := some 18, op := Op.move (Operand.tmp 5), type := 3, pos := "haversackhelp.go:23", after := #[], guard := none }) (.int .i64 ↑j) ({ tmps := #[.slice (some ⟨g1, 0, none⟩) n c1, .slice (some ⟨g2, 0, none⟩) n c2, undef, undef, u4, .int .i64 ↑j, .slice (some ⟨g1, 0, none⟩) n c1, .int .i64 ↑n, .slice (some ⟨g2, 0, none⟩) n c2, .int .i64 ↑n, .bool false, .int .i64 ↑j, .slice (some ⟨g1, 0, none⟩) n c1, .int .i64 ↑n, .bool true, u15, u16, .slice (some ⟨g1, 0, none⟩) n c1, .int .i64 ↑j, u19, u20, u21, u22, u23, u24, u25], defers := [] }) rfl (by kernel_rfl) (by kernel_rfl) (by kernel_rfl) (by kernel_rfl) (fun _ => by kernel_rfl) (by kernel_rfl) h0 ?_
              refine rg_pure 2 (oi := { dst := some 19, op := Op.indexAddr 29 (Operand.tmp 17) (Operand.tmp 18), type := 0, pos := "haversackhelp.go:23", after := #[{ on := 0, ground := Ground.data }, { on := 1, ground := Ground.data }], guard := none }) (.pointer (some ⟨g1, 0 + j, none⟩)) ({ tmps := #[.slice (some ⟨g1, 0, none⟩) n c1, .slice (some ⟨g2, 0, none⟩) n c2, undef, undef, u4, .int .i64 ↑j, .slice (some ⟨g1, 0, none⟩) n c1, .int .i64 ↑n, .slice (some ⟨g2, 0, none⟩) n c2, .int .i64 ↑n, .bool false, .int .i64 ↑j, .slice (some ⟨g1, 0, none⟩) n c1, .int .i64 ↑n, .bool true, u15, u16, .slice (some ⟨g1, 0, none⟩) n c1, .int .i64 ↑j, .pointer (some ⟨g1, 0 + j, none⟩), u20, u21, u22, u23, u24, u25], defers := [] }) rfl (by kernel_rfl) (by kernel_rfl) (by kernel_rfl) (by kernel_rfl) (fun W => ex_index 29 (.tmp 17) (.tmp 18) rfl g1 0 n c1 j (by kernel_rfl) (by kernel_rfl) hjl ⟨9, Tryd.underlying29, by kernel_rfl⟩ W) (by kernel_rfl) h0 ?_
              refine rg_read 3 (oi := { dst := some 20, op := Op.load 9 (Operand.tmp 19), type := 9, pos := "haversackhelp.go:23", after := #[{ on := 2, ground := Ground.data }], guard := none }) (.string x) ({ tmps := #[.slice (some ⟨g1, 0, none⟩) n c1, .slice (some ⟨g2, 0, none⟩) n c2, undef, undef, u4, .int .i64 ↑j, .slice (some ⟨g1, 0, none⟩) n c1, .int .i64 ↑n, .slice (some ⟨g2, 0, none⟩) n c2, .int .i64 ↑n, .bool false, .int .i64 ↑j, .slice (some ⟨g1, 0, none⟩) n c1, .int .i64 ↑n, .bool true, u15, u16, .slice (some ⟨g1, 0, none⟩) n c1, .int .i64 ↑j, .pointer (some ⟨g1, 0 + j, none⟩), .string x, u21, u22, u23, u24, u25], defers := [] }) rfl (by kernel_rfl) (by kernel_rfl) (by kernel_rfl) (by kernel_rfl) (fun W hW => ex_load1 _ _ 9 (.tmp 19) rfl ⟨g1, 0 + j, none⟩ (by kernel_rfl) W (by kernel_rfl) _ ((hW.cell (p := ⟨g1, 0 + j, none⟩) hl1).trans Hx.out)) (by kernel_rfl) h0 ?_
              refine rg_pure 4 (oi := { dst := some 21, op := Op.move (Operand.tmp 1), type := 29, pos := "haversackhelp.go:23", after := #[], guard := none }) (.slice (some ⟨g2, 0, none⟩) n c2) ({ tmps := #[.slice (some ⟨g1, 0, none⟩) n c1, .slice (some ⟨g2, 0, none⟩) n c2, undef, undef, u4, .int .i64 ↑j, .slice (some ⟨g1, 0, none⟩) n c1, .int .i64 ↑n, .slice (some ⟨g2, 0, none⟩) n c2, .int .i64 ↑n, .bool false, .int .i64 ↑j, .slice (some ⟨g1, 0, none⟩) n c1, .int .i64 ↑n, .bool true, u15, u16, .slice (some ⟨g1, 0, none⟩) n c1, .int .i64 ↑j, .pointer (some ⟨g1, 0 + j, none⟩), .string x, .slice (some ⟨g2, 0, none⟩) n c2, u22, u23, u24, u25], defers := [] }) rfl (by kernel_rfl) (by kernel_rfl) (by kernel_rfl) (by kernel_rfl) (fun _ => by kernel_rfl) (by kernel_rfl) h0 ?_
              refine rg_pure 5 (oi := { dst := some 22, op := Op.move (Operand.tmp 5), type := 3, pos := "haversackhelp.go:23", after := #[], guard := none }) (.int .i64 ↑j) ({ tmps := #[.slice (some ⟨g1, 0, none⟩) n c1, .slice (some ⟨g2, 0, none⟩) n c2, undef, undef, u4, .int .i64 ↑j, .slice (some ⟨g1, 0, none⟩) n c1, .int .i64 ↑n, .slice (some ⟨g2, 0, none⟩) n c2, .int .i64 ↑n, .bool false, .int .i64 ↑j, .slice (some ⟨g1, 0, none⟩) n c1, .int .i64 ↑n, .bool true, u15, u16, .slice (some ⟨g1, 0, none⟩) n c1, .int .i64 ↑j, .pointer (some ⟨g1, 0 + j, none⟩), .string x, .slice (some ⟨g2, 0, none⟩) n c2, .int .i64 ↑j, u23, u24, u25], defers := [] }) rfl (by kernel_rfl) (by kernel_rfl) (by kernel_rfl) (by kernel_rfl) (fun _ => by kernel_rfl) (by kernel_rfl) h0 ?_
              refine rg_pure 6 (oi := { dst := some 23, op := Op.indexAddr 29 (Operand.tmp 21) (Operand.tmp 22), type := 0, pos := "haversackhelp.go:23", after := #[{ on := 4, ground := Ground.data }, { on := 5, ground := Ground.data }], guard := none }) (.pointer (some ⟨g2, 0 + j, none⟩)) ({ tmps := #[.slice (some ⟨g1, 0, none⟩) n c1, .slice (some ⟨g2, 0, none⟩) n c2, undef, undef, u4, .int .i64 ↑j, .slice (some ⟨g1, 0, none⟩) n c1, .int .i64 ↑n, .slice (some ⟨g2, 0, none⟩) n c2, .int .i64 ↑n, .bool false, .int .i64 ↑j, .slice (some ⟨g1, 0, none⟩) n c1, .int .i64 ↑n, .bool true, u15, u16, .slice (some ⟨g1, 0, none⟩) n c1, .int .i64 ↑j, .pointer (some ⟨g1, 0 + j, none⟩), .string x, .slice (some ⟨g2, 0, none⟩) n c2, .int .i64 ↑j, .pointer (some ⟨g2, 0 + j, none⟩), u24, u25], defers := [] }) rfl (by kernel_rfl) (by kernel_rfl) (by kernel_rfl) (by kernel_rfl) (fun W => ex_index 29 (.tmp 21) (.tmp 22) rfl g2 0 n c2 j (by kernel_rfl) (by kernel_rfl) hjl ⟨9, Tryd.underlying29, by kernel_rfl⟩ W) (by kernel_rfl) h0 ?_
              refine rg_read 7 (oi := { dst := some 24, op := Op.load 9 (Operand.tmp 23), type := 9, pos := "haversackhelp.go:23", after := #[{ on := 6, ground := Ground.data }], guard := none }) (.string x) ({ tmps := #[.slice (some ⟨g1, 0, none⟩) n c1, .slice (some ⟨g2, 0, none⟩) n c2, undef, undef, u4, .int .i64 ↑j, .slice (some ⟨g1, 0, none⟩) n c1, .int .i64 ↑n, .slice (some ⟨g2, 0, none⟩) n c2, .int .i64 ↑n, .bool false, .int .i64 ↑j, .slice (some ⟨g1, 0, none⟩) n c1, .int .i64 ↑n, .bool true, u15, u16, .slice (some ⟨g1, 0, none⟩) n c1, .int .i64 ↑j, .pointer (some ⟨g1, 0 + j, none⟩), .string x, .slice (some ⟨g2, 0, none⟩) n c2, .int .i64 ↑j, .pointer (some ⟨g2, 0 + j, none⟩), .string x, u25], defers := [] }) rfl (by kernel_rfl) (by kernel_rfl) (by kernel_rfl) (by kernel_rfl) (fun W hW => ex_load1 _ _ 9 (.tmp 23) rfl ⟨g2, 0 + j, none⟩ (by kernel_rfl) W (by kernel_rfl) _ ((hW.cell (p := ⟨g2, 0 + j, none⟩) hl2).trans Hy.out)) (by kernel_rfl) h0 ?_
              refine rg_pure 8 (oi := { dst := some 25, op := Op.binOp BinOp.neq 9 (Operand.tmp 20) (Operand.tmp 24) 9, type := 4, pos := "haversackhelp.go:23", after := #[{ on := 3, ground := Ground.data }, { on := 7, ground := Ground.data }], guard := none }) (.bool false) ({ tmps := #[.slice (some ⟨g1, 0, none⟩) n c1, .slice (some ⟨g2, 0, none⟩) n c2, undef, undef, u4, .int .i64 ↑j, .slice (some ⟨g1, 0, none⟩) n c1, .int .i64 ↑n, .slice (some ⟨g2, 0, none⟩) n c2, .int .i64 ↑n, .bool false, .int .i64 ↑j, .slice (some ⟨g1, 0, none⟩) n c1, .int .i64 ↑n, .bool true, u15, u16, .slice (some ⟨g1, 0, none⟩) n c1, .int .i64 ↑j, .pointer (some ⟨g1, 0 + j, none⟩), .string x, .slice (some ⟨g2, 0, none⟩) n c2, .int .i64 ↑j, .pointer (some ⟨g2, 0 + j, none⟩), .string x, .bool false], defers := [] }) rfl (by kernel_rfl) (by kernel_rfl) (by kernel_rfl) (by kernel_rfl) (fun _ => eq_bool (b := !(x.toList == x.toList)) Hne.out (by kernel_rfl)) (by kernel_rfl) h0 ?_
              refine rg_done (by kernel_rfl) ⟨rfl, ?_⟩ _
              exact ⟨h0, rfl⟩
            · rintro a' W ⟨hBW, rfl⟩
              have hp := HB.out.trans (hBW.mono HB.out.size)
              have Hp := keep hp
              clear hBW hp
              go_wp2_with fail
              go_roundw
              case rel => exact ⟨j + 1, by go_num, by omega, Hn.out, Hp.out⟩
              case measure => simp [intOf]; omega
          · have Hne : Keep ((!(x.toList == y.toList)) = true) := ⟨by
              simp only [Bool.not_eq_true', beq_eq_false_iff_ne]
              intro e
              refine hxy ?_
              obtain ⟨dx⟩ := x
              obtain ⟨dy⟩ := y
              congr 1
              exact bytes_toList e⟩
            have Hd : Keep (decide (l1 = l2) = false) := ⟨by
              simp only [decide_eq_false_iff_not]
              rintro rfl
              rw [hx] at hy
              injection hy with hy
              exact hxy hy⟩
            clear hx hy hxy
            go_wp2_with fail
            refine rg_then (fun a' W => Below wr.heap.size wr W ∧ a' = { tmps := #[.slice (some ⟨g1, 0, none⟩) n c1, .slice (some ⟨g2, 0, none⟩) n c2, undef, undef, u4, .int .i64 ↑j, .slice (some ⟨g1, 0, none⟩) n c1, .int .i64 ↑n, .slice (some ⟨g2, 0, none⟩) n c2, .int .i64 ↑n, .bool false, .int .i64 ↑j, .slice (some ⟨g1, 0, none⟩) n c1, .int .i64 ↑n, .bool true, u15, u16, .slice (some ⟨g1, 0, none⟩) n c1, .int .i64 ↑j, .pointer (some ⟨g1, 0 + j, none⟩), .string x, .slice (some ⟨g2, 0, none⟩) n c2, .int .i64 ↑j, .pointer (some ⟨g2, 0 + j, none⟩), .string y, .bool true], defers := [] }) ?_ ?_
            · refine rg_start (Below wr.heap.size wr) (by kernel_rfl) (Below.refl _ _).drew (fun h0 => ?_)
              refine rg_pure 0 (oi := { dst := some 17, op := Op.move (Operand.tmp 0), type := 29, pos := "haversackhelp.go:23", after := #[], guard := none }) (.slice (some ⟨g1, 0, none⟩) n c1) ({ tmps := #[.slice (some ⟨g1, 0, none⟩) n c1, .slice (some ⟨g2, 0, none⟩) n c2, undef, undef, u4, .int .i64 ↑j, .slice (some ⟨g1, 0, none⟩) n c1, .int .i64 ↑n, .slice (some ⟨g2, 0, none⟩) n c2, .int .i64 ↑n, .bool false, .int .i64 ↑j, .slice (some ⟨g1, 0, none⟩) n c1, .int .i64 ↑n, .bool true, u15, u16, .slice (some ⟨g1, 0, none⟩) n c1, u18, u19, u20, u21, u22, u23, u24, u25], defers := [] }) rfl (by kernel_rfl) (by kernel_rfl) (by kernel_rfl) (by kernel_rfl) (fun _ => by kernel_rfl) (by kernel_rfl) h0 ?_
              refine rg_pure 1 (oi := { dst := some 18, op := Op.move (Operand.tmp 5), type := 3, pos := "haversackhelp.go:23", after := #[], guard := none }) (.int .i64 ↑j) ({ tmps := #[.slice (some ⟨g1, 0, none⟩) n c1, .slice (some ⟨g2, 0, none⟩) n c2, undef, undef, u4, .int .i64 ↑j, .slice (some ⟨g1, 0, none⟩) n c1, .int .i64 ↑n, .slice (some ⟨g2, 0, none⟩) n c2, .int .i64 ↑n, .bool false, .int .i64 ↑j, .slice (some ⟨g1, 0, none⟩) n c1, .int .i64 ↑n, .bool true, u15, u16, .slice (some ⟨g1, 0, none⟩) n c1, .int .i64 ↑j, u19, u20, u21, u22, u23, u24, u25], defers := [] }) rfl (by kernel_rfl) (by kernel_rfl) (by kernel_rfl) (by kernel_rfl) (fun _ => by kernel_rfl) (by kernel_rfl) h0 ?_
              refine rg_pure 2 (oi := { dst := some 19, op := Op.indexAddr 29 (Operand.tmp 17) (Operand.tmp 18), type := 0, pos := "haversackhelp.go:23", after := #[{ on := 0, ground := Ground.data }, { on := 1, ground := Ground.data }], guard := none }) (.pointer (some ⟨g1, 0 + j, none⟩)) ({ tmps := #[.slice (some ⟨g1, 0, none⟩) n c1, .slice (some ⟨g2, 0, none⟩) n c2, undef, undef, u4, .int .i64 ↑j, .slice (some ⟨g1, 0, none⟩) n c1, .int .i64 ↑n, .slice (some ⟨g2, 0, none⟩) n c2, .int .i64 ↑n, .bool false, .int .i64 ↑j, .slice (some ⟨g1, 0, none⟩) n c1, .int .i64 ↑n, .bool true, u15, u16, .slice (some ⟨g1, 0, none⟩) n c1, .int .i64 ↑j, .pointer (some ⟨g1, 0 + j, none⟩), u20, u21, u22, u23, u24, u25], defers := [] }) rfl (by kernel_rfl) (by kernel_rfl) (by kernel_rfl) (by kernel_rfl) (fun W => ex_index 29 (.tmp 17) (.tmp 18) rfl g1 0 n c1 j (by kernel_rfl) (by kernel_rfl) hjl ⟨9, Tryd.underlying29, by kernel_rfl⟩ W) (by kernel_rfl) h0 ?_
              refine rg_read 3 (oi := { dst := some 20, op := Op.load 9 (Operand.tmp 19), type := 9, pos := "haversackhelp.go:23", after := #[{ on := 2, ground := Ground.data }], guard := none }) (.string x) ({ tmps := #[.slice (some ⟨g1, 0, none⟩) n c1, .slice (some ⟨g2, 0, none⟩) n c2, undef, undef, u4, .int .i64 ↑j, .slice (some ⟨g1, 0, none⟩) n c1, .int .i64 ↑n, .slice (some ⟨g2, 0, none⟩) n c2, .int .i64 ↑n, .bool false, .int .i64 ↑j, .slice (some ⟨g1, 0, none⟩) n c1, .int .i64 ↑n, .bool true, u15, u16, .slice (some ⟨g1, 0, none⟩) n c1, .int .i64 ↑j, .pointer (some ⟨g1, 0 + j, none⟩), .string x, u21, u22, u23, u24, u25], defers := [] }) rfl (by kernel_rfl) (by kernel_rfl) (by kernel_rfl) (by kernel_rfl) (fun W hW => ex_load1 _ _ 9 (.tmp 19) rfl ⟨g1, 0 + j, none⟩ (by kernel_rfl) W (by kernel_rfl) _ ((hW.cell (p := ⟨g1, 0 + j, none⟩) hl1).trans Hx.out)) (by kernel_rfl) h0 ?_
              refine rg_pure 4 (oi := { dst := some 21, op := Op.move (Operand.tmp 1), type := 29, pos := "haversackhelp.go:23", after := #[], guard := none }) (.slice (some ⟨g2, 0, none⟩) n c2) ({ tmps := #[.slice (some ⟨g1, 0, none⟩) n c1, .slice (some ⟨g2, 0, none⟩) n c2, undef, undef, u4, .int .i64 ↑j, .slice (some ⟨g1, 0, none⟩) n c1, .int .i64 ↑n, .slice (some ⟨g2, 0, none⟩) n c2, .int .i64 ↑n, .bool false, .int .i64 ↑j, .slice (some ⟨g1, 0, none⟩) n c1, .int .i64 ↑n, .bool true, u15, u16, .slice (some ⟨g1, 0, none⟩) n c1, .int .i64 ↑j, .pointer (some ⟨g1, 0 + j, none⟩), .string x, .slice (some ⟨g2, 0, none⟩) n c2, u22, u23, u24, u25], defers := [] }) rfl (by kernel_rfl) (by kernel_rfl) (by kernel_rfl) (by kernel_rfl) (fun _ => by kernel_rfl) (by kernel_rfl) h0 ?_
              refine rg_pure 5 (oi := { dst := some 22, op := Op.move (Operand.tmp 5), type := 3, pos := "haversackhelp.go:23", after := #[], guard := none }) (.int .i64 ↑j) ({ tmps := #[.slice (some ⟨g1, 0, none⟩) n c1, .slice (some ⟨g2, 0, none⟩) n c2, undef, undef, u4, .int .i64 ↑j, .slice (some ⟨g1, 0, none⟩) n c1, .int .i64 ↑n, .slice (some ⟨g2, 0, none⟩) n c2, .int .i64 ↑n, .bool false, .int .i64 ↑j, .slice (some ⟨g1, 0, none⟩) n c1, .int .i64 ↑n, .bool true, u15, u16, .slice (some ⟨g1, 0, none⟩) n c1, .int .i64 ↑j, .pointer (some ⟨g1, 0 + j, none⟩), .string x, .slice (some ⟨g2, 0, none⟩) n c2, .int .i64 ↑j, u23, u24, u25], defers := [] }) rfl (by kernel_rfl) (by kernel_rfl) (by kernel_rfl) (by kernel_rfl) (fun _ => by kernel_rfl) (by kernel_rfl) h0 ?_
              refine rg_pure 6 (oi := { dst := some 23, op := Op.indexAddr 29 (Operand.tmp 21) (Operand.tmp 22), type := 0, pos := "haversackhelp.go:23", after := #[{ on := 4, ground := Ground.data }, { on := 5, ground := Ground.data }], guard := none }) (.pointer (some ⟨g2, 0 + j, none⟩)) ({ tmps := #[.slice (some ⟨g1, 0, none⟩) n c1, .slice (some ⟨g2, 0, none⟩) n c2, undef, undef, u4, .int .i64 ↑j, .slice (some ⟨g1, 0, none⟩) n c1, .int .i64 ↑n, .slice (some ⟨g2, 0, none⟩) n c2, .int .i64 ↑n, .bool false, .int .i64 ↑j, .slice (some ⟨g1, 0, none⟩) n c1, .int .i64 ↑n, .bool true, u15, u16, .slice (some ⟨g1, 0, none⟩) n c1, .int .i64 ↑j, .pointer (some ⟨g1, 0 + j, none⟩), .string x, .slice (some ⟨g2, 0, none⟩) n c2, .int .i64 ↑j, .pointer (some ⟨g2, 0 + j, none⟩), u24, u25], defers := [] }) rfl (by kernel_rfl) (by kernel_rfl) (by kernel_rfl) (by kernel_rfl) (fun W => ex_index 29 (.tmp 21) (.tmp 22) rfl g2 0 n c2 j (by kernel_rfl) (by kernel_rfl) hjl ⟨9, Tryd.underlying29, by kernel_rfl⟩ W) (by kernel_rfl) h0 ?_
              refine rg_read 7 (oi := { dst := some 24, op := Op.load 9 (Operand.tmp 23), type := 9, pos := "haversackhelp.go:23", after := #[{ on := 6, ground := Ground.data }], guard := none }) (.string y) ({ tmps := #[.slice (some ⟨g1, 0, none⟩) n c1, .slice (some ⟨g2, 0, none⟩) n c2, undef, undef, u4, .int .i64 ↑j, .slice (some ⟨g1, 0, none⟩) n c1, .int .i64 ↑n, .slice (some ⟨g2, 0, none⟩) n c2, .int .i64 ↑n, .bool false, .int .i64 ↑j, .slice (some ⟨g1, 0, none⟩) n c1, .int .i64 ↑n, .bool true, u15, u16, .slice (some ⟨g1, 0, none⟩) n c1, .int .i64 ↑j, .pointer (some ⟨g1, 0 + j, none⟩), .string x, .slice (some ⟨g2, 0, none⟩) n c2, .int .i64 ↑j, .pointer (some ⟨g2, 0 + j, none⟩), .string y, u25], defers := [] }) rfl (by kernel_rfl) (by kernel_rfl) (by kernel_rfl) (by kernel_rfl) (fun W hW => ex_load1 _ _ 9 (.tmp 23) rfl ⟨g2, 0 + j, none⟩ (by kernel_rfl) W (by kernel_rfl) _ ((hW.cell (p := ⟨g2, 0 + j, none⟩) hl2).trans Hy.out)) (by kernel_rfl) h0 ?_
              refine rg_pure 8 (oi := { dst := some 25, op := Op.binOp BinOp.neq 9 (Operand.tmp 20) (Operand.tmp 24) 9, type := 4, pos := "haversackhelp.go:23", after := #[{ on := 3, ground := Ground.data }, { on := 7, ground := Ground.data }], guard := none }) (.bool true) ({ tmps := #[.slice (some ⟨g1, 0, none⟩) n c1, .slice (some ⟨g2, 0, none⟩) n c2, undef, undef, u4, .int .i64 ↑j, .slice (some ⟨g1, 0, none⟩) n c1, .int .i64 ↑n, .slice (some ⟨g2, 0, none⟩) n c2, .int .i64 ↑n, .bool false, .int .i64 ↑j, .slice (some ⟨g1, 0, none⟩) n c1, .int .i64 ↑n, .bool true, u15, u16, .slice (some ⟨g1, 0, none⟩) n c1, .int .i64 ↑j, .pointer (some ⟨g1, 0 + j, none⟩), .string x, .slice (some ⟨g2, 0, none⟩) n c2, .int .i64 ↑j, .pointer (some ⟨g2, 0 + j, none⟩), .string y, .bool true], defers := [] }) rfl (by kernel_rfl) (by kernel_rfl) (by kernel_rfl) (by kernel_rfl) (fun _ => eq_bool (b := !(x.toList == y.toList)) Hne.out (by kernel_rfl)) (by kernel_rfl) h0 ?_
              refine rg_done (by kernel_rfl) ⟨rfl, ?_⟩ _
              exact ⟨h0, rfl⟩
            · rintro a' W ⟨hBW, rfl⟩
              have hp := HB.out.trans (hBW.mono HB.out.size)
              clear hBW
              go_wp2_with fail
              go_ret
              exact ⟨by rw [Hd.out]; rfl, hp⟩
        · obtain rfl : j = n := by omega
          have ht : decide ((j : Int) < (j : Int)) = false := by simp
          have Hd : Keep (decide (l1 = l2) = true) := ⟨by
            simp only [decide_eq_true_eq]
            apply List.ext_getElem?
            intro q
            rcases Nat.lt_or_ge q j with h | h
            · exact Hq.out q h
            · rw [List.getElem?_eq_none (by rw [Hn1.out]; exact h), List.getElem?_eq_none (by rw [Hn2.out]; exact h)]⟩
          go_wp2_with fail
          go_ret
          exact ⟨by rw [Hd.out]; rfl, HB.out⟩
  · obtain ⟨A1, c1, rfl⟩ := h1.len
    obtain ⟨A2, c2, rfl⟩ := h2.len
    have Hd : Keep (decide (l1 = l2) = false) := ⟨by
      simp only [decide_eq_false_iff_not]
      rintro rfl
      exact hl rfl⟩
    have hne : ((l1.length : Int) != (l2.length : Int)) = true := by simp; omega
    generalize l1.length = n1 at *
    generalize l2.length = n2 at *
    clear h1 h2
    go_enter Tryd.func15, Tryd.ntmps15
    go_wp2_with fail
    go_ret
    exact ⟨by rw [Hd.out]; rfl, Below.refl _ _⟩
--]REG
/-- What is an error: neither nil nor the number 0. -/
def live : Value → Bool
  | .nilIface => false
  | v => !okV v
/-- An element of a list of errors: nil, or an error. -/
def ElE (W : World) (B : Nat) (v : Value) : Prop := v = .nilIface ∨ ∃ d k a, IsE W B d k v a
theorem ElE.none_ {W : World} {B : Nat} {v : Value} (h : ElE W B v) (w : World) : Calls Tryd.prog 20 #[v] w (QB (!live v) w) := by
  rcases h with rfl | ⟨d, k, a, h⟩
  · exact none_nil w
  · have := h.none_any w
    obtain ⟨T, x, rfl⟩ := h.iface
    have e : (!live (.iface T x)) = okV (.iface T x) := by simp [live]
    rw [e]
    exact this
theorem ElE.one {W : World} {B : Nat} {v : Value} (h : ElE W B v) : v.oneCell' = true := by
  rcases h with rfl | ⟨d, k, a, h⟩
  · rfl
  · exact iface_one h
theorem ElE.form {W : World} {B : Nat} {v : Value} (h : ElE W B v) (hl : live v = true) : ∃ T y, v = .iface T y := by
  rcases h with rfl | ⟨d, k, a, h⟩
  · cases hl
  · exact h.iface
theorem reads_cells {w : World} {B n : Nat} {A : Option Addr} {xs : List Value} (h : Reads w B 1 A n xs) (hn : 0 < n) : ∃ b off, A = some ⟨b, off, none⟩ ∧ b < B ∧ ∀ j x, xs[j]? = some x → w.cell? ⟨b, off + j, none⟩ = some x := by
  obtain ⟨⟨b, off, sp⟩, hA, hb, hc⟩ := h.2 hn
  have hl : 0 < xs.length := by have := h.1; omega
  have h0 := hc 0 _ (List.getElem?_eq_getElem hl)
  have hsp : sp = none := by simpa [Addr.add] using World.cell?_spot h0
  subst hsp
  refine ⟨b, off, hA, hb, fun j x hx => ?_⟩
  have hadd : (⟨b, off, none⟩ : Addr).add j = ⟨b, off + j, none⟩ := by unfold Addr.add; split <;> simp_all
  rw [← hadd]
  exact hc j x hx
def JoinPost (L : List Value) (w : World) (e : Ending) (w' : World) : Prop :=
  Below w.heap.size w w' ∧ ((L = [] ∧ e = .returned .nilIface) ∨ (∃ x, L = [x] ∧ e = .returned x) ∨
    (1 < L.length ∧ ∃ b r c, e = .returned (.iface 58 (.pointer (some ⟨b, 0, none⟩))) ∧ w.heap.size ≤ b ∧ w'.heap[b]? = some (.cells #[.slice (some ⟨r, 0, none⟩) L.length c] 60 (0, 0)) ∧ r < w'.heap.size ∧ w.heap.size ≤ r ∧ L.length ≤ c ∧ ∀ j u, L[j]? = some u → w'.cell? ⟨r, 0 + j, none⟩ = some u))
set_option maxRecDepth 100000 in
set_option maxHeartbeats 2000000 in
theorem join_any (W : World) (B : Nat) (A : Option Addr) (n c : Nat) (xs : List Value) (w : World) (hn : xs.length = n) (hm : n ≤ 1000) (hR : Reads w w.heap.size 1 A n xs) (hE : ∀ v ∈ xs, ElE W B v) :
    Calls Tryd.prog 19 #[.slice A n c] w (JoinPost (xs.filter live) w) := by
  have Hn := keep hn
  have HR := keep hR
  have HE := keep hE
  clear hn hR hE
  go_enter Tryd.func19, Tryd.ntmps19
  go_wp2_with fail
  go_loopw [3, 8] (fun v i wr => ∃ (j : Nat) (v1 : Value), v1 = v ∧ i = .int .i64 j ∧ j ≤ n ∧ wr.ownsRow w.heap.size 27 1 v1 ((xs.take j).filter live).length ((xs.take j).filter live) ∧ Below w.heap.size w wr) (fun _ i _ => n - (intOf i).toNat)
  case atStart => exact ⟨0, .slice none 0 0, rfl, rfl, Nat.zero_le _, ⟨rfl, .inl ⟨rfl, rfl⟩⟩, Below.refl _ _⟩
  case round =>
    obtain ⟨j, v1, rfl, rfl, hj, hO, hB⟩ := hrel
    by_cases hjn : j < n
    · have ht : decide ((j : Int) < (n : Int)) = true := by simp; omega
      obtain ⟨b, off, hA, hab, hcs⟩ := reads_cells HR.out (by omega)
      obtain ⟨x, hxj⟩ : ∃ x, xs[j]? = some x := ⟨_, List.getElem?_eq_getElem (by rw [Hn.out]; exact hjn)⟩
      have hcx := hcs j x hxj
      subst hA
      clear hcs
      have hcw : wr.cell? ⟨b, off + j, none⟩ = some x := (hB.cell (p := ⟨b, off + j, none⟩) hab).trans hcx
      have hk0 : (0 : Int) ≤ (j : Int) := by omega
      have hk1 : (j : Int) < (n : Int) := by omega
      have hxm : x ∈ xs := List.mem_of_getElem? hxj
      have hel := HE.out x hxm
      have hno := hel.none_ wr
      have hone := hel.one
      have hform := hel.form
      have htk : xs.take (j + 1) = xs.take j ++ [x] := by rw [List.take_add_one, hxj]; rfl
      have Hno := keep hno
      have HO := keep hO
      have HB := keep hB
      have hzB := hB.size
      have Htk := keep htk
      have hfl : ((xs.take j).filter live).length ≤ 1000 := by
        have h1 := List.length_filter_le live (xs.take j)
        rw [List.length_take] at h1
        omega
      clear hno hO hB htk hel hxm hxj hcx
      cases hlv : live x with
      | false =>
        rw [hlv] at Hno
        go_wp2_with fail
        refine Hno.out.mono ?_
        rintro e w2 ⟨rfl, hw2⟩
        rw [hw2]
        clear hw2
        have hft : (xs.take (j + 1)).filter live = (xs.take j).filter live := by rw [Htk.out, List.filter_append]; simp [hlv]
        have Hft := keep hft
        clear hft
        go_wp2_with fail
        go_roundw
        case rel => exact ⟨j + 1, v1, rfl, by go_num, by omega, by rw [Hft.out]; exact HO.out, HB.out⟩
        case measure => simp [intOf]; omega
      | true =>
        obtain ⟨T0, y0, rfl⟩ := hform hlv
        clear hform hone
        rw [hlv] at Hno
        go_wp2_with fail
        refine Hno.out.mono ?_
        rintro e w2 ⟨rfl, hw2⟩
        rw [hw2]
        clear hw2
        have hft : (xs.take (j + 1)).filter live = (xs.take j).filter live ++ [.iface T0 y0] := by rw [Htk.out, List.filter_append]; simp [hlv]
        have Hft := keep hft
        clear hft
        go_wp2_with (at_builtin; refine wpList_append_val (w0 := w) (W := wr) w.heap.size rfl (.tmp 15) (.tmp 17) 48 27 .nilIface 16 rfl Tryd.underlying48 (by kernel_rfl) rfl v1 ((xs.take j).filter live).length ((xs.take j).filter live) (.iface T0 y0) rfl rfl rfl HO.out HB.out hzB (by omega) (by omega) ?_)
        intro v3 w3 hO3 hb3 _ _
        have hO3' : w3.ownsRow w.heap.size 27 1 v3 ((xs.take (j + 1)).filter live).length ((xs.take (j + 1)).filter live) := by
          rw [Hft.out, List.length_append]
          exact hO3
        have HO3 := keep hO3'
        have Hb3 := keep hb3
        clear hO3 hO3' hb3
        go_wp2_with fail
        go_roundw
        case rel => exact ⟨j + 1, v3, rfl, by go_num, by omega, HO3.out, Hb3.out⟩
        case measure => simp [intOf]; omega
    · obtain rfl : j = n := by omega
      have ht : decide ((j : Int) < (j : Int)) = false := by simp
      have hall : xs.take j = xs := List.take_of_length_le (by rw [Hn.out]; omega)
      rw [hall] at hO
      have hln : (xs.filter live).length ≤ 1000 := by
        have := List.length_filter_le live xs
        have := Hn.out
        omega
      obtain ⟨L, hL⟩ : ∃ L, xs.filter live = L := ⟨_, rfl⟩
      rw [hL] at hO hln
      have HL := keep hL
      have HB := keep hB
      clear hL hall hB
      match L, hO, hln, HL with
      | [], hO, hln, HL =>
        obtain ⟨rfl, _⟩ | ⟨g, cap, cur, hv, _⟩ := hO.2
        · have hp : JoinPost (xs.filter live) w (.returned .nilIface) wr := by rw [HL.out]; exact ⟨HB.out, .inl ⟨rfl, rfl⟩⟩
          have Hp := keep hp
          clear hp hO
          go_wp2_with fail
          go_ret
          exact Hp.out
        · subst hv
          have hp : JoinPost (xs.filter live) w (.returned .nilIface) wr := by rw [HL.out]; exact ⟨HB.out, .inl ⟨rfl, rfl⟩⟩
          have Hp := keep hp
          clear hp hO
          simp only [List.length_nil]
          go_wp2_with fail
          go_ret
          exact Hp.out
      | [x], hO, hln, HL =>
        obtain ⟨g, cap, rfl, _, hlt⟩ := hO.form (by simp)
        have hc := hO.cells (g := g) rfl 0 x rfl
        have hc' : wr.cell? ⟨g, 0, none⟩ = some x := by simpa [Addr.add] using hc
        have hp : JoinPost (xs.filter live) w (.returned x) wr := by rw [HL.out]; exact ⟨HB.out, .inr (.inl ⟨x, rfl, rfl⟩)⟩
        have Hp := keep hp
        clear hp hO hc
        simp only [List.length_cons, List.length_nil, Nat.zero_add]
        go_wp2_with fail
        go_ret
        exact Hp.out
      | x :: y :: r, hO, hln, HL =>
        obtain ⟨g, cap, hv, hgb, hlt⟩ := hO.form (by simp)
        have hcap : (x :: y :: r).length ≤ cap := by
          rcases hO.2 with ⟨_, h2⟩ | ⟨g', cap', cur, h1, _, hh, hnc, _⟩
          · simp at h2
          · rw [hv] at h1
            injection h1 with _ _ h1
            omega
        subst hv
        have hcs := hO.cells (g := g) rfl
        have hal : Below wr.heap.size wr (wr.alloc (.cells #[.slice (some ⟨g, 0, none⟩) (x :: y :: r).length cap] 60)) := (Below.refl _ _).alloc (Nat.le_refl _) _
        have hp : JoinPost (xs.filter live) w (.returned (.iface 58 (.pointer (some ⟨wr.heap.size, 0, none⟩)))) (wr.alloc (.cells #[.slice (some ⟨g, 0, none⟩) (x :: y :: r).length cap] 60)) := by
          rw [HL.out]
          refine ⟨HB.out.trans (hal.mono HB.out.size), .inr (.inr ⟨by simp, wr.heap.size, g, cap, rfl, HB.out.size, heap_alloc_new wr _, Nat.lt_of_lt_of_le hlt hal.size, hgb, hcap, fun j u hu => ?_⟩)⟩
          have h1 := hcs j u hu
          have hadd : (⟨g, 0, none⟩ : Addr).add j = ⟨g, 0 + j, none⟩ := by unfold Addr.add; split <;> simp_all
          rw [hadd] at h1
          exact (hal.cell (p := ⟨g, 0 + j, none⟩) hlt).trans h1
        have hN0 : ((((x :: y :: r).length : Nat) : Int) == 0) = false := by simp; omega
        have hN1 : ((((x :: y :: r).length : Nat) : Int) == 1) = false := by simp; omega
        have Hp := keep hp
        clear hp hO hcs hal
        generalize (x :: y :: r).length = N at *
        go_wp2_with fail
        go_ret
        exact Hp.out
end Go.Proofs.YthamnnhpagllcaaDoor
