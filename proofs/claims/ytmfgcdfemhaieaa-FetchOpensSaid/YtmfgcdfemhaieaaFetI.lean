/- A reply that has all that was asked for. -/
import Derived.Test.YtmfgcdfemhaieaaFetH
import Derived.Test.YtmfgcdfemhaieaaOwnC
namespace Go.Proofs.Ytmfgcdfemhaieaa
open Go.RowKit

/-- A fetch: its struct, and the bytes that are its own. -/
structure St (W : World) (g : Nat) (sum : List Int) (size : Int) (bytes : List Int) (fa sp : Int) (dn fl : Bool) : Prop where
  st : ∃ v, Fet W g sum size v fa sp dn fl ∧ OwnB W (g + 1) 5 .u8 v bytes
theorem own_ne {W : World} {g : Nat} {e : TypeId} {v : Value} {xs : List Int} (h : OwnI W (g + 1) e .u8 v xs) : v.ownBlock = none ∨ v.ownBlock ≠ some g := by
  right
  intro hk
  have := own_base h.out g hk
  omega
theorem own_neB {W : World} {g : Nat} {e : TypeId} {v : Value} {xs : List Int} (h : OwnB W (g + 1) e .u8 v xs) : v.ownBlock = none ∨ v.ownBlock ≠ some g := by
  right
  intro hk
  have := h.base_ g hk
  omega
/-- What lies in other blocks than the struct's and those of bytes is as it was. -/
structure KeptT (g : Nat) (w w' : World) : Prop where
  out : ∀ k cs t fr, w.heap[k]? = some (.cells cs t fr) → k ≠ g → t ≠ 5 → w'.heap[k]? = some (.cells cs t fr)
section
variable {g : Nat} {w w1 w2 : World}
theorem KeptT.refl (g : Nat) (w : World) : KeptT g w w := ⟨fun _ _ _ _ h _ _ => h⟩
theorem KeptT.trans (h : KeptT g w w1) (h' : KeptT g w1 w2) : KeptT g w w2 := ⟨fun k cs t fr hk hg ht => h'.out k cs t fr (h.out k cs t fr hk hg ht) hg ht⟩
theorem KeptT.below (hb : Below w.heap.size w w1) : KeptT g w w1 := ⟨fun k cs t fr hk _ _ => by rw [hb.block _ (row_lt hk)]; exact hk⟩
theorem KeptT.grown (hg : w.grownBy w1 (some g)) : KeptT g w w1 := ⟨fun k cs t fr hk hne _ => by
  rw [hg.block k (row_lt hk) (by simpa using hne)]; exact hk⟩
theorem KeptT.own {B : Nat} {v : Value} {xs : List Int} (hO : OwnI w B 5 .u8 v xs) (hg : w.grownBy w1 v.ownBlock) : KeptT g w w1 := ⟨fun k cs t fr hk _ ht => by
  rw [hg.block k (row_lt hk) (fun e => ?_)]
  · exact hk
  · rcases hO.out.2 with ⟨rfl, _⟩ | ⟨b, cap, cur, rfl, _, hh, _⟩
    · simp [Value.ownBlock] at e
    · have : k = b := by simpa [Value.ownBlock] using e
      subst this
      rw [hh] at hk
      injection hk with hk
      injection hk with _ h2 _
      exact ht h2.symm⟩
theorem KeptT.ownB {B : Nat} {v : Value} {xs : List Int} (hO : OwnB w B 5 .u8 v xs) (hg : w.grownBy w1 v.ownBlock) : KeptT g w w1 := ⟨fun k cs t fr hk _ ht => by
  rw [hg.block k (row_lt hk) (fun e => ?_)]
  · exact hk
  · rcases hO.out.2 with ⟨rfl, _⟩ | ⟨b, cap, cur, fz, rfl, _, hh, _⟩
    · simp [Value.ownBlock] at e
    · have : k = b := by simpa [Value.ownBlock] using e
      subst this
      rw [hh] at hk
      injection hk with hk
      injection hk with _ h2 _
      exact ht h2.symm⟩
theorem KeptT.cell (h : KeptT g w w1) (i : Nat) (x : Value) : KeptT g w (w1.setCell ⟨g, i, none⟩ x) := h.trans (KeptT.grown (grown_setCell w1 g i x))
theorem KeptT.drew (h : KeptT g w w1) : KeptT g w w1.drew := ⟨fun k cs t fr hk hg ht => h.out k cs t fr hk hg ht⟩
end
def FullPost (g : Nat) (sum : List Int) (size : Int) (bytes : List Int) (fa sp : Int) (dn fl : Bool) (w : World) (e : Ending) (w' : World) : Prop := e = .returned .nilIface ∧ St w' g sum size bytes fa sp dn fl ∧ Below g w w' ∧ KeptT g w w'
theorem St.below {W W' : World} {g B : Nat} {sum : List Int} {size : Int} {bytes : List Int} {fa sp : Int} {dn fl : Bool} (h : St W g sum size bytes fa sp dn fl) (hb : Below B W W') (hB : W.heap.size ≤ B) : St W' g sum size bytes fa sp dn fl := by
  obtain ⟨v, hF, hO⟩ := h.st
  have hb' : Below W.heap.size W W' := hb.mono hB
  exact ⟨⟨v, hF.below hb' hF.lt, hO.below hb'⟩⟩
theorem St.lt {W : World} {g : Nat} {sum : List Int} {size : Int} {bytes : List Int} {fa sp : Int} {dn fl : Bool} (h : St W g sum size bytes fa sp dn fl) : g < W.heap.size := by
  obtain ⟨v, hF, hO⟩ := h.st
  exact hF.lt
--[REG
set_option maxRecDepth 100000 in
set_option maxHeartbeats 2000000 in
theorem full_less {g : Nat} {sum : List Int} {size : Int} {bytes : List Int} {fa sp : Int} (w : World) (h : St w g sum size bytes fa sp false false) (Ab : Option Addr) (m cb : Nat) (ys : List Int) (B : Nat) (HR : RdI w B .u8 Ab ys) (hm : ys.length = m) (hlen : bytes.length + m ≤ 1099511627776) (hd : ((bytes ++ ys).length : Int) < max size 0) :
    Calls Try.prog 28 #[.pointer (some ⟨g, 0, none⟩), .slice Ab m cb] w (FullPost g sum size (bytes ++ ys) 0 sp false false w) := by
  obtain ⟨v, hF, hO⟩ := h.st
  have hc := hF.b
  have hlt := hF.lt
  have HF := keep hF
  have Hm := keep hm
  have Hh := keep hd
  clear hF hm hd h
  go_enter Try.func28, Try.ntmps28
  go_wp2_with (at_builtin; refine wpList_append_intsB (w0 := w) (W := w) (g + 1) rfl (.tmp 9) (.tmp 10) 23 5 .u8 1 rfl Try.underlying23 info5 v bytes ys B Ab m cb rfl rfl Hm.out hO HR (Below.refl _ _) hlt (by omega) (by omega) ?_)
  rintro v1 w1 hO1 hB1 hg1 _
  have hK1 : KeptT g w w1 := KeptT.ownB hO hg1
  have hF1 := HF.out.below hB1 (Nat.lt_succ_self g)
  have hlen1 : (bytes ++ ys).length ≤ 1099511627776 := by rw [List.length_append, Hm.out]; exact hlen
  have hd := Hh.out
  obtain ⟨zs, hzs⟩ : ∃ zs, bytes ++ ys = zs := ⟨_, rfl⟩
  rw [hzs] at hO1 hd hlen1
  have Hzs := keep hzs
  obtain ⟨A1, c1, rfl, hc1, hR1⟩ := hO1.slice
  obtain ⟨n1, hn1⟩ : ∃ n1, zs.length = n1 := ⟨_, rfl⟩
  have Hn1 := keep hn1
  have HO1 := keep hO1
  have HR1 := keep hR1
  rw [hn1] at hd hlen1 hc1 ⊢
  have hc39 := hF1.b
  have hc40 := hF1.fa_
  have hf39 := hF1.free 39
  have hf40 := hF1.free 40
  have HF1 := keep hF1
  clear hzs hn1 hO1 hR1 hF1 hO HR
  go_wp2_with fail
  have hF2 : Fet ((w1.setCell ⟨g, 39, none⟩ (.slice A1 n1 c1)).setCell ⟨g, 40, none⟩ (.int .i64 0)) g sum size (.slice A1 n1 c1) 0 sp false false := Fet.set_fa (HF1.out.set_b _) 0
  have hg2 : w1.grownBy ((w1.setCell ⟨g, 39, none⟩ (.slice A1 n1 c1)).setCell ⟨g, 40, none⟩ (.int .i64 0)) (some g) := World.grownBy.trans (grown_setCell w1 g 39 _) (grown_setCell _ g 40 _)
  have hB2 : Below g w ((w1.setCell ⟨g, 39, none⟩ (.slice A1 n1 c1)).setCell ⟨g, 40, none⟩ (.int .i64 0)) := ((hB1.mono (Nat.le_succ g)).setCell (Nat.le_refl _) _).setCell (Nat.le_refl _) _
  have HF2 := keep hF2
  have HG2 := keep hg2
  have HB2 := keep hB2
  have hK2 := (hK1.cell 39 (.slice A1 n1 c1)).cell 40 (.int .i64 0)
  have HK2 := keep hK2
  clear hK1 hK2
  clear hF2 hg2 hB2 hB1 hc39 hc40 hf39 hf40
  generalize (w1.setCell ⟨g, 39, none⟩ (.slice A1 n1 c1)).setCell ⟨g, 40, none⟩ (.int .i64 0) = w2 at HF2 HG2 HB2 HK2 ⊢
  have Hq : Keep (decide ((n1 : Int) < max size 0) = true) := ⟨by simpa using hd⟩
  refine rg_then (fun a' W => W = w2.drew ∧ a' = { tmps := #[.pointer (some ⟨g, 0, none⟩), .slice Ab m cb, undef, undef, .nilIface, .pointer (some ⟨g, 0, none⟩), .pointer (some ⟨g, 0, none⟩), .pointer (some ⟨g, 0, none⟩), .pointer (some ⟨g, 39, none⟩), v, .slice Ab m cb, .slice A1 n1 c1, .pointer (some ⟨g, 0, none⟩), .pointer (some ⟨g, 39, none⟩), .pointer (some ⟨g, 0, none⟩), .pointer (some ⟨g, 0, none⟩), .pointer (some ⟨g, 40, none⟩), .pointer (some ⟨g, 0, none⟩), .pointer (some ⟨g, 0, none⟩), .pointer (some ⟨g, 39, none⟩), .slice A1 n1 c1, .int .i64 (n1 : Int), .pointer (some ⟨g, 0, none⟩), .int .i64 (max size 0), .bool true, .bool true, undef, undef, .bool true, undef, undef, undef, undef, undef, undef, undef, undef, undef, undef, undef, undef, undef, undef, undef, undef, undef], defers := [] }) ?_ ?_
  · refine rg_start (fun W => W = w2.drew ∧ Fet W g sum size (.slice A1 n1 c1) 0 sp false false) (by kernel_rfl) ⟨rfl, HF2.out.kept rfl⟩ (fun h0 => ?_)
    refine rg_pure 0 (oi := { dst := some 17, op := Op.move (Operand.tmp 0), type := 35, pos := "fetch.go:64", after := #[], guard := none }) (.pointer (some ⟨g, 0, none⟩)) ({ tmps := #[.pointer (some ⟨g, 0, none⟩), .slice Ab m cb, undef, undef, .nilIface, .pointer (some ⟨g, 0, none⟩), .pointer (some ⟨g, 0, none⟩), .pointer (some ⟨g, 0, none⟩), .pointer (some ⟨g, 39, none⟩), v, .slice Ab m cb, .slice A1 n1 c1, .pointer (some ⟨g, 0, none⟩), .pointer (some ⟨g, 39, none⟩), .pointer (some ⟨g, 0, none⟩), .pointer (some ⟨g, 0, none⟩), .pointer (some ⟨g, 40, none⟩), .pointer (some ⟨g, 0, none⟩), undef, undef, undef, undef, undef, undef, undef, undef, undef, undef, undef, undef, undef, undef, undef, undef, undef, undef, undef, undef, undef, undef, undef, undef, undef, undef, undef, undef], defers := [] }) rfl (by kernel_rfl) (by kernel_rfl) (by kernel_rfl) (by kernel_rfl) (fun _ => by kernel_rfl) (by kernel_rfl) h0 ?_
    refine rg_pure 1 (oi := { dst := some 18, op := Op.nilCheck (Operand.tmp 17), type := 0, pos := "fetch.go:64", after := #[{ on := 0, ground := Ground.data }], guard := none }) (.pointer (some ⟨g, 0, none⟩)) ({ tmps := #[.pointer (some ⟨g, 0, none⟩), .slice Ab m cb, undef, undef, .nilIface, .pointer (some ⟨g, 0, none⟩), .pointer (some ⟨g, 0, none⟩), .pointer (some ⟨g, 0, none⟩), .pointer (some ⟨g, 39, none⟩), v, .slice Ab m cb, .slice A1 n1 c1, .pointer (some ⟨g, 0, none⟩), .pointer (some ⟨g, 39, none⟩), .pointer (some ⟨g, 0, none⟩), .pointer (some ⟨g, 0, none⟩), .pointer (some ⟨g, 40, none⟩), .pointer (some ⟨g, 0, none⟩), .pointer (some ⟨g, 0, none⟩), undef, undef, undef, undef, undef, undef, undef, undef, undef, undef, undef, undef, undef, undef, undef, undef, undef, undef, undef, undef, undef, undef, undef, undef, undef, undef, undef], defers := [] }) rfl (by kernel_rfl) (by kernel_rfl) (by kernel_rfl) (by kernel_rfl) (fun _ => by kernel_rfl) (by kernel_rfl) h0 ?_
    refine rg_pure 2 (oi := { dst := some 19, op := Op.fieldAddr 70 (Operand.tmp 18) 1, type := 0, pos := "fetch.go:64", after := #[{ on := 1, ground := Ground.data }], guard := none }) (.pointer (some ⟨g, 39, none⟩)) ({ tmps := #[.pointer (some ⟨g, 0, none⟩), .slice Ab m cb, undef, undef, .nilIface, .pointer (some ⟨g, 0, none⟩), .pointer (some ⟨g, 0, none⟩), .pointer (some ⟨g, 0, none⟩), .pointer (some ⟨g, 39, none⟩), v, .slice Ab m cb, .slice A1 n1 c1, .pointer (some ⟨g, 0, none⟩), .pointer (some ⟨g, 39, none⟩), .pointer (some ⟨g, 0, none⟩), .pointer (some ⟨g, 0, none⟩), .pointer (some ⟨g, 40, none⟩), .pointer (some ⟨g, 0, none⟩), .pointer (some ⟨g, 0, none⟩), .pointer (some ⟨g, 39, none⟩), undef, undef, undef, undef, undef, undef, undef, undef, undef, undef, undef, undef, undef, undef, undef, undef, undef, undef, undef, undef, undef, undef, undef, undef, undef, undef], defers := [] }) rfl (by kernel_rfl) (by kernel_rfl) (by kernel_rfl) (by kernel_rfl) (fun _ => by kernel_rfl) (by kernel_rfl) h0 ?_
    refine rg_read 3 (oi := { dst := some 20, op := Op.load 23 (Operand.tmp 19), type := 23, pos := "fetch.go:64", after := #[{ on := 2, ground := Ground.data }], guard := none }) (.slice A1 n1 c1) ({ tmps := #[.pointer (some ⟨g, 0, none⟩), .slice Ab m cb, undef, undef, .nilIface, .pointer (some ⟨g, 0, none⟩), .pointer (some ⟨g, 0, none⟩), .pointer (some ⟨g, 0, none⟩), .pointer (some ⟨g, 39, none⟩), v, .slice Ab m cb, .slice A1 n1 c1, .pointer (some ⟨g, 0, none⟩), .pointer (some ⟨g, 39, none⟩), .pointer (some ⟨g, 0, none⟩), .pointer (some ⟨g, 0, none⟩), .pointer (some ⟨g, 40, none⟩), .pointer (some ⟨g, 0, none⟩), .pointer (some ⟨g, 0, none⟩), .pointer (some ⟨g, 39, none⟩), .slice A1 n1 c1, undef, undef, undef, undef, undef, undef, undef, undef, undef, undef, undef, undef, undef, undef, undef, undef, undef, undef, undef, undef, undef, undef, undef, undef, undef], defers := [] }) rfl (by kernel_rfl) (by kernel_rfl) (by kernel_rfl) (by kernel_rfl) (fun W hW => ex_load1 _ _ 23 (.tmp 19) rfl ⟨g, 39, none⟩ (by kernel_rfl) W (by kernel_rfl) _ hW.2.b) (by kernel_rfl) h0 ?_
    refine rg_pure 4 (oi := { dst := some 21, op := Op.call { callee := Callee.builtin Builtin.len, args := #[Operand.tmp 20], argTypes := #[23] }, type := 3, pos := "fetch.go:64", after := #[{ on := 3, ground := Ground.data }], guard := none }) (.int .i64 (n1 : Int)) ({ tmps := #[.pointer (some ⟨g, 0, none⟩), .slice Ab m cb, undef, undef, .nilIface, .pointer (some ⟨g, 0, none⟩), .pointer (some ⟨g, 0, none⟩), .pointer (some ⟨g, 0, none⟩), .pointer (some ⟨g, 39, none⟩), v, .slice Ab m cb, .slice A1 n1 c1, .pointer (some ⟨g, 0, none⟩), .pointer (some ⟨g, 39, none⟩), .pointer (some ⟨g, 0, none⟩), .pointer (some ⟨g, 0, none⟩), .pointer (some ⟨g, 40, none⟩), .pointer (some ⟨g, 0, none⟩), .pointer (some ⟨g, 0, none⟩), .pointer (some ⟨g, 39, none⟩), .slice A1 n1 c1, .int .i64 (n1 : Int), undef, undef, undef, undef, undef, undef, undef, undef, undef, undef, undef, undef, undef, undef, undef, undef, undef, undef, undef, undef, undef, undef, undef, undef], defers := [] }) rfl (by kernel_rfl) (by kernel_rfl) (by kernel_rfl) (by kernel_rfl) (fun _ => by kernel_rfl) (by kernel_rfl) h0 ?_
    refine rg_pure 5 (oi := { dst := some 22, op := Op.move (Operand.tmp 0), type := 35, pos := "fetch.go:64", after := #[], guard := none }) (.pointer (some ⟨g, 0, none⟩)) ({ tmps := #[.pointer (some ⟨g, 0, none⟩), .slice Ab m cb, undef, undef, .nilIface, .pointer (some ⟨g, 0, none⟩), .pointer (some ⟨g, 0, none⟩), .pointer (some ⟨g, 0, none⟩), .pointer (some ⟨g, 39, none⟩), v, .slice Ab m cb, .slice A1 n1 c1, .pointer (some ⟨g, 0, none⟩), .pointer (some ⟨g, 39, none⟩), .pointer (some ⟨g, 0, none⟩), .pointer (some ⟨g, 0, none⟩), .pointer (some ⟨g, 40, none⟩), .pointer (some ⟨g, 0, none⟩), .pointer (some ⟨g, 0, none⟩), .pointer (some ⟨g, 39, none⟩), .slice A1 n1 c1, .int .i64 (n1 : Int), .pointer (some ⟨g, 0, none⟩), undef, undef, undef, undef, undef, undef, undef, undef, undef, undef, undef, undef, undef, undef, undef, undef, undef, undef, undef, undef, undef, undef, undef], defers := [] }) rfl (by kernel_rfl) (by kernel_rfl) (by kernel_rfl) (by kernel_rfl) (fun _ => by kernel_rfl) (by kernel_rfl) h0 ?_
    refine rg_one 6 (oi := { dst := some 23, op := Op.call { callee := Callee.value (Operand.func 26), args := #[Operand.tmp 22], argTypes := #[35] }, type := 3, pos := "fetch.go:64", after := #[{ on := 5, ground := Ground.data }], guard := none }) (by kernel_rfl) rfl (by kernel_rfl) ?_
    refine op_call (v := .int .i64 (max size 0)) (f := 26) (args := #[.pointer (some ⟨g, 0, none⟩)]) ({ tmps := #[.pointer (some ⟨g, 0, none⟩), .slice Ab m cb, undef, undef, .nilIface, .pointer (some ⟨g, 0, none⟩), .pointer (some ⟨g, 0, none⟩), .pointer (some ⟨g, 0, none⟩), .pointer (some ⟨g, 39, none⟩), v, .slice Ab m cb, .slice A1 n1 c1, .pointer (some ⟨g, 0, none⟩), .pointer (some ⟨g, 39, none⟩), .pointer (some ⟨g, 0, none⟩), .pointer (some ⟨g, 0, none⟩), .pointer (some ⟨g, 40, none⟩), .pointer (some ⟨g, 0, none⟩), .pointer (some ⟨g, 0, none⟩), .pointer (some ⟨g, 39, none⟩), .slice A1 n1 c1, .int .i64 (n1 : Int), .pointer (some ⟨g, 0, none⟩), .int .i64 (max size 0), undef, undef, undef, undef, undef, undef, undef, undef, undef, undef, undef, undef, undef, undef, undef, undef, undef, undef, undef, undef, undef, undef], defers := [] }) (by kernel_rfl) (size_any w2.drew h0.2) (by kernel_rfl) ?_
    intro W3 hW3
    subst hW3
    refine ⟨h0, ?_⟩
    refine rg_pure 7 (oi := { dst := some 24, op := Op.binOp BinOp.lss 3 (Operand.tmp 21) (Operand.tmp 23) 3, type := 4, pos := "fetch.go:64", after := #[{ on := 4, ground := Ground.data }, { on := 6, ground := Ground.data }], guard := none }) (.bool true) ({ tmps := #[.pointer (some ⟨g, 0, none⟩), .slice Ab m cb, undef, undef, .nilIface, .pointer (some ⟨g, 0, none⟩), .pointer (some ⟨g, 0, none⟩), .pointer (some ⟨g, 0, none⟩), .pointer (some ⟨g, 39, none⟩), v, .slice Ab m cb, .slice A1 n1 c1, .pointer (some ⟨g, 0, none⟩), .pointer (some ⟨g, 39, none⟩), .pointer (some ⟨g, 0, none⟩), .pointer (some ⟨g, 0, none⟩), .pointer (some ⟨g, 40, none⟩), .pointer (some ⟨g, 0, none⟩), .pointer (some ⟨g, 0, none⟩), .pointer (some ⟨g, 39, none⟩), .slice A1 n1 c1, .int .i64 (n1 : Int), .pointer (some ⟨g, 0, none⟩), .int .i64 (max size 0), .bool true, undef, undef, undef, undef, undef, undef, undef, undef, undef, undef, undef, undef, undef, undef, undef, undef, undef, undef, undef, undef, undef], defers := [] }) rfl (by kernel_rfl) (by kernel_rfl) (by kernel_rfl) (by kernel_rfl) (fun _ => eq_bool (b := decide ((n1 : Int) < max size 0)) Hq.out (by kernel_rfl)) (by kernel_rfl) h0 ?_
    refine rg_pure 8 (oi := { dst := some 25, op := Op.move (Operand.tmp 24), type := 4, pos := "fetch.go:64", after := #[{ on := 7, ground := Ground.data }, { on := 6, ground := Ground.chain }], guard := none }) (.bool true) ({ tmps := #[.pointer (some ⟨g, 0, none⟩), .slice Ab m cb, undef, undef, .nilIface, .pointer (some ⟨g, 0, none⟩), .pointer (some ⟨g, 0, none⟩), .pointer (some ⟨g, 0, none⟩), .pointer (some ⟨g, 39, none⟩), v, .slice Ab m cb, .slice A1 n1 c1, .pointer (some ⟨g, 0, none⟩), .pointer (some ⟨g, 39, none⟩), .pointer (some ⟨g, 0, none⟩), .pointer (some ⟨g, 0, none⟩), .pointer (some ⟨g, 40, none⟩), .pointer (some ⟨g, 0, none⟩), .pointer (some ⟨g, 0, none⟩), .pointer (some ⟨g, 39, none⟩), .slice A1 n1 c1, .int .i64 (n1 : Int), .pointer (some ⟨g, 0, none⟩), .int .i64 (max size 0), .bool true, .bool true, undef, undef, undef, undef, undef, undef, undef, undef, undef, undef, undef, undef, undef, undef, undef, undef, undef, undef, undef, undef], defers := [] }) rfl (by kernel_rfl) (by kernel_rfl) (by kernel_rfl) (by kernel_rfl) (fun _ => by kernel_rfl) (by kernel_rfl) h0 ?_
    refine rg_idle 9 (oi := { dst := some 26, op := Op.move (Operand.tmp 0), type := 35, pos := "fetch.go:64", after := #[{ on := 8, ground := Ground.guard }], guard := some (8, false) }) ({ tmps := #[.pointer (some ⟨g, 0, none⟩), .slice Ab m cb, undef, undef, .nilIface, .pointer (some ⟨g, 0, none⟩), .pointer (some ⟨g, 0, none⟩), .pointer (some ⟨g, 0, none⟩), .pointer (some ⟨g, 39, none⟩), v, .slice Ab m cb, .slice A1 n1 c1, .pointer (some ⟨g, 0, none⟩), .pointer (some ⟨g, 39, none⟩), .pointer (some ⟨g, 0, none⟩), .pointer (some ⟨g, 0, none⟩), .pointer (some ⟨g, 40, none⟩), .pointer (some ⟨g, 0, none⟩), .pointer (some ⟨g, 0, none⟩), .pointer (some ⟨g, 39, none⟩), .slice A1 n1 c1, .int .i64 (n1 : Int), .pointer (some ⟨g, 0, none⟩), .int .i64 (max size 0), .bool true, .bool true, undef, undef, undef, undef, undef, undef, undef, undef, undef, undef, undef, undef, undef, undef, undef, undef, undef, undef, undef, undef], defers := [] }) rfl (by kernel_rfl) (by kernel_rfl) (by kernel_rfl) (by kernel_rfl) (by kernel_rfl) h0 ?_
    refine rg_idle 10 (oi := { dst := some 27, op := Op.call { callee := Callee.value (Operand.func 24), args := #[Operand.tmp 26], argTypes := #[35] }, type := 4, pos := "fetch.go:64", after := #[{ on := 9, ground := Ground.data }, { on := 8, ground := Ground.chain }, { on := 8, ground := Ground.guard }], guard := some (8, false) }) ({ tmps := #[.pointer (some ⟨g, 0, none⟩), .slice Ab m cb, undef, undef, .nilIface, .pointer (some ⟨g, 0, none⟩), .pointer (some ⟨g, 0, none⟩), .pointer (some ⟨g, 0, none⟩), .pointer (some ⟨g, 39, none⟩), v, .slice Ab m cb, .slice A1 n1 c1, .pointer (some ⟨g, 0, none⟩), .pointer (some ⟨g, 39, none⟩), .pointer (some ⟨g, 0, none⟩), .pointer (some ⟨g, 0, none⟩), .pointer (some ⟨g, 40, none⟩), .pointer (some ⟨g, 0, none⟩), .pointer (some ⟨g, 0, none⟩), .pointer (some ⟨g, 39, none⟩), .slice A1 n1 c1, .int .i64 (n1 : Int), .pointer (some ⟨g, 0, none⟩), .int .i64 (max size 0), .bool true, .bool true, undef, undef, undef, undef, undef, undef, undef, undef, undef, undef, undef, undef, undef, undef, undef, undef, undef, undef, undef, undef], defers := [] }) rfl (by kernel_rfl) (by kernel_rfl) (by kernel_rfl) (by kernel_rfl) (by kernel_rfl) h0 ?_
    refine rg_pure 11 (oi := { dst := some 28, op := Op.pick (Operand.tmp 25) (Operand.const (Value.bool true)) (Operand.tmp 27), type := 4, pos := "fetch.go:64", after := #[{ on := 8, ground := Ground.data }, { on := 10, ground := Ground.data }], guard := none }) (.bool true) ({ tmps := #[.pointer (some ⟨g, 0, none⟩), .slice Ab m cb, undef, undef, .nilIface, .pointer (some ⟨g, 0, none⟩), .pointer (some ⟨g, 0, none⟩), .pointer (some ⟨g, 0, none⟩), .pointer (some ⟨g, 39, none⟩), v, .slice Ab m cb, .slice A1 n1 c1, .pointer (some ⟨g, 0, none⟩), .pointer (some ⟨g, 39, none⟩), .pointer (some ⟨g, 0, none⟩), .pointer (some ⟨g, 0, none⟩), .pointer (some ⟨g, 40, none⟩), .pointer (some ⟨g, 0, none⟩), .pointer (some ⟨g, 0, none⟩), .pointer (some ⟨g, 39, none⟩), .slice A1 n1 c1, .int .i64 (n1 : Int), .pointer (some ⟨g, 0, none⟩), .int .i64 (max size 0), .bool true, .bool true, undef, undef, .bool true, undef, undef, undef, undef, undef, undef, undef, undef, undef, undef, undef, undef, undef, undef, undef, undef, undef], defers := [] }) rfl (by kernel_rfl) (by kernel_rfl) (by kernel_rfl) (by kernel_rfl) (fun _ => by kernel_rfl) (by kernel_rfl) h0 ?_
    refine rg_done (by kernel_rfl) ⟨rfl, ?_⟩ _
    exact ⟨rfl, rfl⟩
  · rintro a' W ⟨rfl, rfl⟩
    go_wp2
    go_ret
    refine ⟨rfl, ⟨⟨.slice A1 n1 c1, HF2.out.kept rfl, ?_⟩⟩, HB2.out.drew, HK2.out.drew⟩
    rw [Hzs.out]
    have := HO1.out.grown HG2.out (own_neB HO1.out)
    rw [Hn1.out] at this
    exact this.drew
set_option maxRecDepth 100000 in
set_option maxHeartbeats 2000000 in
theorem full_done {g : Nat} {sum : List Int} {size : Int} {bytes : List Int} {fa sp : Int} (w : World) (h : St w g sum size bytes fa sp false false) (Ab : Option Addr) (m cb : Nat) (ys : List Int) (B : Nat) (HR : RdI w B .u8 Ab ys) (hm : ys.length = m) (hlen : bytes.length + m ≤ 1099511627776) (hd : ((bytes ++ ys).length : Int) = max size 0 ∧ sumP (bytes ++ ys) = sum) :
    Calls Try.prog 28 #[.pointer (some ⟨g, 0, none⟩), .slice Ab m cb] w (FullPost g sum size (bytes ++ ys) 0 sp true false w) := by
  obtain ⟨v, hF, hO⟩ := h.st
  have hc := hF.b
  have hlt := hF.lt
  have HF := keep hF
  have Hm := keep hm
  have Hh := keep hd
  clear hF hm hd h
  go_enter Try.func28, Try.ntmps28
  go_wp2_with (at_builtin; refine wpList_append_intsB (w0 := w) (W := w) (g + 1) rfl (.tmp 9) (.tmp 10) 23 5 .u8 1 rfl Try.underlying23 info5 v bytes ys B Ab m cb rfl rfl Hm.out hO HR (Below.refl _ _) hlt (by omega) (by omega) ?_)
  rintro v1 w1 hO1 hB1 hg1 _
  have hK1 : KeptT g w w1 := KeptT.ownB hO hg1
  have hF1 := HF.out.below hB1 (Nat.lt_succ_self g)
  have hlen1 : (bytes ++ ys).length ≤ 1099511627776 := by rw [List.length_append, Hm.out]; exact hlen
  have hd := Hh.out
  obtain ⟨zs, hzs⟩ : ∃ zs, bytes ++ ys = zs := ⟨_, rfl⟩
  rw [hzs] at hO1 hd hlen1
  have Hzs := keep hzs
  obtain ⟨A1, c1, rfl, hc1, hR1⟩ := hO1.slice
  obtain ⟨n1, hn1⟩ : ∃ n1, zs.length = n1 := ⟨_, rfl⟩
  have Hn1 := keep hn1
  have HO1 := keep hO1
  have HR1 := keep hR1
  rw [hn1] at hd hlen1 hc1 ⊢
  have hc39 := hF1.b
  have hc40 := hF1.fa_
  have hf39 := hF1.free 39
  have hf40 := hF1.free 40
  have HF1 := keep hF1
  clear hzs hn1 hO1 hR1 hF1 hO HR
  go_wp2_with fail
  have hF2 : Fet ((w1.setCell ⟨g, 39, none⟩ (.slice A1 n1 c1)).setCell ⟨g, 40, none⟩ (.int .i64 0)) g sum size (.slice A1 n1 c1) 0 sp false false := Fet.set_fa (HF1.out.set_b _) 0
  have hg2 : w1.grownBy ((w1.setCell ⟨g, 39, none⟩ (.slice A1 n1 c1)).setCell ⟨g, 40, none⟩ (.int .i64 0)) (some g) := World.grownBy.trans (grown_setCell w1 g 39 _) (grown_setCell _ g 40 _)
  have hB2 : Below g w ((w1.setCell ⟨g, 39, none⟩ (.slice A1 n1 c1)).setCell ⟨g, 40, none⟩ (.int .i64 0)) := ((hB1.mono (Nat.le_succ g)).setCell (Nat.le_refl _) _).setCell (Nat.le_refl _) _
  have HF2 := keep hF2
  have HG2 := keep hg2
  have HB2 := keep hB2
  have hK2 := (hK1.cell 39 (.slice A1 n1 c1)).cell 40 (.int .i64 0)
  have HK2 := keep hK2
  clear hK1 hK2
  clear hF2 hg2 hB2 hB1 hc39 hc40 hf39 hf40
  generalize (w1.setCell ⟨g, 39, none⟩ (.slice A1 n1 c1)).setCell ⟨g, 40, none⟩ (.int .i64 0) = w2 at HF2 HG2 HB2 HK2 ⊢
  have Hq : Keep (decide ((n1 : Int) < max size 0) = false) := ⟨by simp only [decide_eq_false_iff_not]; omega⟩
  have hO2 := HO1.out.grown HG2.out (own_neB HO1.out)
  have hR2 : RdI w2 w2.heap.size .u8 A1 zs := by
    obtain ⟨A', c', he, _, hR⟩ := hO2.slice
    injection he with e1 e2 e3
    subst e1
    exact hR
  have hset := settle_is zs w2.drew (HF2.out.kept rfl) hd.1 Hn1.out hc1 hlen1 hR2.drew true (by simpa using hd.2)
  have Hset := keep hset
  have HO2 := keep hO2
  clear hset hR2 hO2
  refine rg_then (fun a' W => (Fet W g sum size (.slice A1 n1 c1) 0 sp true false ∧ w2.drew.grownBy W (some g)) ∧ a' = { tmps := #[.pointer (some ⟨g, 0, none⟩), .slice Ab m cb, undef, undef, .nilIface, .pointer (some ⟨g, 0, none⟩), .pointer (some ⟨g, 0, none⟩), .pointer (some ⟨g, 0, none⟩), .pointer (some ⟨g, 39, none⟩), v, .slice Ab m cb, .slice A1 n1 c1, .pointer (some ⟨g, 0, none⟩), .pointer (some ⟨g, 39, none⟩), .pointer (some ⟨g, 0, none⟩), .pointer (some ⟨g, 0, none⟩), .pointer (some ⟨g, 40, none⟩), .pointer (some ⟨g, 0, none⟩), .pointer (some ⟨g, 0, none⟩), .pointer (some ⟨g, 39, none⟩), .slice A1 n1 c1, .int .i64 (n1 : Int), .pointer (some ⟨g, 0, none⟩), .int .i64 (max size 0), .bool false, .bool false, .pointer (some ⟨g, 0, none⟩), .bool true, .bool true, undef, undef, undef, undef, undef, undef, undef, undef, undef, undef, undef, undef, undef, undef, undef, undef, undef], defers := [] }) ?_ ?_
  · refine rg_start (fun W => W = w2.drew ∨ SettlePost g sum size (.slice A1 n1 c1) 0 sp false true w2.drew (.returned (.bool true)) W) (by kernel_rfl) (.inl rfl) (fun h0 => ?_)
    refine rg_pure 0 (oi := { dst := some 17, op := Op.move (Operand.tmp 0), type := 35, pos := "fetch.go:64", after := #[], guard := none }) (.pointer (some ⟨g, 0, none⟩)) ({ tmps := #[.pointer (some ⟨g, 0, none⟩), .slice Ab m cb, undef, undef, .nilIface, .pointer (some ⟨g, 0, none⟩), .pointer (some ⟨g, 0, none⟩), .pointer (some ⟨g, 0, none⟩), .pointer (some ⟨g, 39, none⟩), v, .slice Ab m cb, .slice A1 n1 c1, .pointer (some ⟨g, 0, none⟩), .pointer (some ⟨g, 39, none⟩), .pointer (some ⟨g, 0, none⟩), .pointer (some ⟨g, 0, none⟩), .pointer (some ⟨g, 40, none⟩), .pointer (some ⟨g, 0, none⟩), undef, undef, undef, undef, undef, undef, undef, undef, undef, undef, undef, undef, undef, undef, undef, undef, undef, undef, undef, undef, undef, undef, undef, undef, undef, undef, undef, undef], defers := [] }) rfl (by kernel_rfl) (by kernel_rfl) (by kernel_rfl) (by kernel_rfl) (fun _ => by kernel_rfl) (by kernel_rfl) h0 ?_
    refine rg_pure 1 (oi := { dst := some 18, op := Op.nilCheck (Operand.tmp 17), type := 0, pos := "fetch.go:64", after := #[{ on := 0, ground := Ground.data }], guard := none }) (.pointer (some ⟨g, 0, none⟩)) ({ tmps := #[.pointer (some ⟨g, 0, none⟩), .slice Ab m cb, undef, undef, .nilIface, .pointer (some ⟨g, 0, none⟩), .pointer (some ⟨g, 0, none⟩), .pointer (some ⟨g, 0, none⟩), .pointer (some ⟨g, 39, none⟩), v, .slice Ab m cb, .slice A1 n1 c1, .pointer (some ⟨g, 0, none⟩), .pointer (some ⟨g, 39, none⟩), .pointer (some ⟨g, 0, none⟩), .pointer (some ⟨g, 0, none⟩), .pointer (some ⟨g, 40, none⟩), .pointer (some ⟨g, 0, none⟩), .pointer (some ⟨g, 0, none⟩), undef, undef, undef, undef, undef, undef, undef, undef, undef, undef, undef, undef, undef, undef, undef, undef, undef, undef, undef, undef, undef, undef, undef, undef, undef, undef, undef], defers := [] }) rfl (by kernel_rfl) (by kernel_rfl) (by kernel_rfl) (by kernel_rfl) (fun _ => by kernel_rfl) (by kernel_rfl) h0 ?_
    refine rg_pure 2 (oi := { dst := some 19, op := Op.fieldAddr 70 (Operand.tmp 18) 1, type := 0, pos := "fetch.go:64", after := #[{ on := 1, ground := Ground.data }], guard := none }) (.pointer (some ⟨g, 39, none⟩)) ({ tmps := #[.pointer (some ⟨g, 0, none⟩), .slice Ab m cb, undef, undef, .nilIface, .pointer (some ⟨g, 0, none⟩), .pointer (some ⟨g, 0, none⟩), .pointer (some ⟨g, 0, none⟩), .pointer (some ⟨g, 39, none⟩), v, .slice Ab m cb, .slice A1 n1 c1, .pointer (some ⟨g, 0, none⟩), .pointer (some ⟨g, 39, none⟩), .pointer (some ⟨g, 0, none⟩), .pointer (some ⟨g, 0, none⟩), .pointer (some ⟨g, 40, none⟩), .pointer (some ⟨g, 0, none⟩), .pointer (some ⟨g, 0, none⟩), .pointer (some ⟨g, 39, none⟩), undef, undef, undef, undef, undef, undef, undef, undef, undef, undef, undef, undef, undef, undef, undef, undef, undef, undef, undef, undef, undef, undef, undef, undef, undef, undef], defers := [] }) rfl (by kernel_rfl) (by kernel_rfl) (by kernel_rfl) (by kernel_rfl) (fun _ => by kernel_rfl) (by kernel_rfl) h0 ?_
    refine rg_read 3 (oi := { dst := some 20, op := Op.load 23 (Operand.tmp 19), type := 23, pos := "fetch.go:64", after := #[{ on := 2, ground := Ground.data }], guard := none }) (.slice A1 n1 c1) ({ tmps := #[.pointer (some ⟨g, 0, none⟩), .slice Ab m cb, undef, undef, .nilIface, .pointer (some ⟨g, 0, none⟩), .pointer (some ⟨g, 0, none⟩), .pointer (some ⟨g, 0, none⟩), .pointer (some ⟨g, 39, none⟩), v, .slice Ab m cb, .slice A1 n1 c1, .pointer (some ⟨g, 0, none⟩), .pointer (some ⟨g, 39, none⟩), .pointer (some ⟨g, 0, none⟩), .pointer (some ⟨g, 0, none⟩), .pointer (some ⟨g, 40, none⟩), .pointer (some ⟨g, 0, none⟩), .pointer (some ⟨g, 0, none⟩), .pointer (some ⟨g, 39, none⟩), .slice A1 n1 c1, undef, undef, undef, undef, undef, undef, undef, undef, undef, undef, undef, undef, undef, undef, undef, undef, undef, undef, undef, undef, undef, undef, undef, undef, undef], defers := [] }) rfl (by kernel_rfl) (by kernel_rfl) (by kernel_rfl) (by kernel_rfl) (fun W hW => ex_load1 _ _ 23 (.tmp 19) rfl ⟨g, 39, none⟩ (by kernel_rfl) W (by kernel_rfl) _ (by rcases hW with rfl | hW; exact (HF2.out.kept rfl : Fet w2.drew g sum size (.slice A1 n1 c1) 0 sp false false).b; exact hW.2.1.b)) (by kernel_rfl) h0 ?_
    refine rg_pure 4 (oi := { dst := some 21, op := Op.call { callee := Callee.builtin Builtin.len, args := #[Operand.tmp 20], argTypes := #[23] }, type := 3, pos := "fetch.go:64", after := #[{ on := 3, ground := Ground.data }], guard := none }) (.int .i64 (n1 : Int)) ({ tmps := #[.pointer (some ⟨g, 0, none⟩), .slice Ab m cb, undef, undef, .nilIface, .pointer (some ⟨g, 0, none⟩), .pointer (some ⟨g, 0, none⟩), .pointer (some ⟨g, 0, none⟩), .pointer (some ⟨g, 39, none⟩), v, .slice Ab m cb, .slice A1 n1 c1, .pointer (some ⟨g, 0, none⟩), .pointer (some ⟨g, 39, none⟩), .pointer (some ⟨g, 0, none⟩), .pointer (some ⟨g, 0, none⟩), .pointer (some ⟨g, 40, none⟩), .pointer (some ⟨g, 0, none⟩), .pointer (some ⟨g, 0, none⟩), .pointer (some ⟨g, 39, none⟩), .slice A1 n1 c1, .int .i64 (n1 : Int), undef, undef, undef, undef, undef, undef, undef, undef, undef, undef, undef, undef, undef, undef, undef, undef, undef, undef, undef, undef, undef, undef, undef, undef], defers := [] }) rfl (by kernel_rfl) (by kernel_rfl) (by kernel_rfl) (by kernel_rfl) (fun _ => by kernel_rfl) (by kernel_rfl) h0 ?_
    refine rg_pure 5 (oi := { dst := some 22, op := Op.move (Operand.tmp 0), type := 35, pos := "fetch.go:64", after := #[], guard := none }) (.pointer (some ⟨g, 0, none⟩)) ({ tmps := #[.pointer (some ⟨g, 0, none⟩), .slice Ab m cb, undef, undef, .nilIface, .pointer (some ⟨g, 0, none⟩), .pointer (some ⟨g, 0, none⟩), .pointer (some ⟨g, 0, none⟩), .pointer (some ⟨g, 39, none⟩), v, .slice Ab m cb, .slice A1 n1 c1, .pointer (some ⟨g, 0, none⟩), .pointer (some ⟨g, 39, none⟩), .pointer (some ⟨g, 0, none⟩), .pointer (some ⟨g, 0, none⟩), .pointer (some ⟨g, 40, none⟩), .pointer (some ⟨g, 0, none⟩), .pointer (some ⟨g, 0, none⟩), .pointer (some ⟨g, 39, none⟩), .slice A1 n1 c1, .int .i64 (n1 : Int), .pointer (some ⟨g, 0, none⟩), undef, undef, undef, undef, undef, undef, undef, undef, undef, undef, undef, undef, undef, undef, undef, undef, undef, undef, undef, undef, undef, undef, undef], defers := [] }) rfl (by kernel_rfl) (by kernel_rfl) (by kernel_rfl) (by kernel_rfl) (fun _ => by kernel_rfl) (by kernel_rfl) h0 ?_
    refine rg_one 6 (oi := { dst := some 23, op := Op.call { callee := Callee.value (Operand.func 26), args := #[Operand.tmp 22], argTypes := #[35] }, type := 3, pos := "fetch.go:64", after := #[{ on := 5, ground := Ground.data }], guard := none }) (by kernel_rfl) rfl (by kernel_rfl) ?_
    refine op_call (v := .int .i64 (max size 0)) (f := 26) (args := #[.pointer (some ⟨g, 0, none⟩)]) ({ tmps := #[.pointer (some ⟨g, 0, none⟩), .slice Ab m cb, undef, undef, .nilIface, .pointer (some ⟨g, 0, none⟩), .pointer (some ⟨g, 0, none⟩), .pointer (some ⟨g, 0, none⟩), .pointer (some ⟨g, 39, none⟩), v, .slice Ab m cb, .slice A1 n1 c1, .pointer (some ⟨g, 0, none⟩), .pointer (some ⟨g, 39, none⟩), .pointer (some ⟨g, 0, none⟩), .pointer (some ⟨g, 0, none⟩), .pointer (some ⟨g, 40, none⟩), .pointer (some ⟨g, 0, none⟩), .pointer (some ⟨g, 0, none⟩), .pointer (some ⟨g, 39, none⟩), .slice A1 n1 c1, .int .i64 (n1 : Int), .pointer (some ⟨g, 0, none⟩), .int .i64 (max size 0), undef, undef, undef, undef, undef, undef, undef, undef, undef, undef, undef, undef, undef, undef, undef, undef, undef, undef, undef, undef, undef, undef], defers := [] }) (by kernel_rfl) (size_any w2.drew (HF2.out.kept rfl)) (by kernel_rfl) ?_
    intro W3 hW3
    subst hW3
    refine ⟨h0, ?_⟩
    refine rg_pure 7 (oi := { dst := some 24, op := Op.binOp BinOp.lss 3 (Operand.tmp 21) (Operand.tmp 23) 3, type := 4, pos := "fetch.go:64", after := #[{ on := 4, ground := Ground.data }, { on := 6, ground := Ground.data }], guard := none }) (.bool false) ({ tmps := #[.pointer (some ⟨g, 0, none⟩), .slice Ab m cb, undef, undef, .nilIface, .pointer (some ⟨g, 0, none⟩), .pointer (some ⟨g, 0, none⟩), .pointer (some ⟨g, 0, none⟩), .pointer (some ⟨g, 39, none⟩), v, .slice Ab m cb, .slice A1 n1 c1, .pointer (some ⟨g, 0, none⟩), .pointer (some ⟨g, 39, none⟩), .pointer (some ⟨g, 0, none⟩), .pointer (some ⟨g, 0, none⟩), .pointer (some ⟨g, 40, none⟩), .pointer (some ⟨g, 0, none⟩), .pointer (some ⟨g, 0, none⟩), .pointer (some ⟨g, 39, none⟩), .slice A1 n1 c1, .int .i64 (n1 : Int), .pointer (some ⟨g, 0, none⟩), .int .i64 (max size 0), .bool false, undef, undef, undef, undef, undef, undef, undef, undef, undef, undef, undef, undef, undef, undef, undef, undef, undef, undef, undef, undef, undef], defers := [] }) rfl (by kernel_rfl) (by kernel_rfl) (by kernel_rfl) (by kernel_rfl) (fun _ => eq_bool (b := decide ((n1 : Int) < max size 0)) Hq.out (by kernel_rfl)) (by kernel_rfl) h0 ?_
    refine rg_pure 8 (oi := { dst := some 25, op := Op.move (Operand.tmp 24), type := 4, pos := "fetch.go:64", after := #[{ on := 7, ground := Ground.data }, { on := 6, ground := Ground.chain }], guard := none }) (.bool false) ({ tmps := #[.pointer (some ⟨g, 0, none⟩), .slice Ab m cb, undef, undef, .nilIface, .pointer (some ⟨g, 0, none⟩), .pointer (some ⟨g, 0, none⟩), .pointer (some ⟨g, 0, none⟩), .pointer (some ⟨g, 39, none⟩), v, .slice Ab m cb, .slice A1 n1 c1, .pointer (some ⟨g, 0, none⟩), .pointer (some ⟨g, 39, none⟩), .pointer (some ⟨g, 0, none⟩), .pointer (some ⟨g, 0, none⟩), .pointer (some ⟨g, 40, none⟩), .pointer (some ⟨g, 0, none⟩), .pointer (some ⟨g, 0, none⟩), .pointer (some ⟨g, 39, none⟩), .slice A1 n1 c1, .int .i64 (n1 : Int), .pointer (some ⟨g, 0, none⟩), .int .i64 (max size 0), .bool false, .bool false, undef, undef, undef, undef, undef, undef, undef, undef, undef, undef, undef, undef, undef, undef, undef, undef, undef, undef, undef, undef], defers := [] }) rfl (by kernel_rfl) (by kernel_rfl) (by kernel_rfl) (by kernel_rfl) (fun _ => by kernel_rfl) (by kernel_rfl) h0 ?_
    refine rg_pure 9 (oi := { dst := some 26, op := Op.move (Operand.tmp 0), type := 35, pos := "fetch.go:64", after := #[{ on := 8, ground := Ground.guard }], guard := some (8, false) }) (.pointer (some ⟨g, 0, none⟩)) ({ tmps := #[.pointer (some ⟨g, 0, none⟩), .slice Ab m cb, undef, undef, .nilIface, .pointer (some ⟨g, 0, none⟩), .pointer (some ⟨g, 0, none⟩), .pointer (some ⟨g, 0, none⟩), .pointer (some ⟨g, 39, none⟩), v, .slice Ab m cb, .slice A1 n1 c1, .pointer (some ⟨g, 0, none⟩), .pointer (some ⟨g, 39, none⟩), .pointer (some ⟨g, 0, none⟩), .pointer (some ⟨g, 0, none⟩), .pointer (some ⟨g, 40, none⟩), .pointer (some ⟨g, 0, none⟩), .pointer (some ⟨g, 0, none⟩), .pointer (some ⟨g, 39, none⟩), .slice A1 n1 c1, .int .i64 (n1 : Int), .pointer (some ⟨g, 0, none⟩), .int .i64 (max size 0), .bool false, .bool false, .pointer (some ⟨g, 0, none⟩), undef, undef, undef, undef, undef, undef, undef, undef, undef, undef, undef, undef, undef, undef, undef, undef, undef, undef, undef], defers := [] }) rfl (by kernel_rfl) (by kernel_rfl) (by kernel_rfl) (by kernel_rfl) (fun _ => by kernel_rfl) (by kernel_rfl) h0 ?_
    refine rg_one 10 (oi := { dst := some 27, op := Op.call { callee := Callee.value (Operand.func 24), args := #[Operand.tmp 26], argTypes := #[35] }, type := 4, pos := "fetch.go:64", after := #[{ on := 9, ground := Ground.data }, { on := 8, ground := Ground.chain }, { on := 8, ground := Ground.guard }], guard := some (8, false) }) (by kernel_rfl) rfl (by kernel_rfl) ?_
    refine op_call (v := .bool true) (f := 24) (args := #[.pointer (some ⟨g, 0, none⟩)]) ({ tmps := #[.pointer (some ⟨g, 0, none⟩), .slice Ab m cb, undef, undef, .nilIface, .pointer (some ⟨g, 0, none⟩), .pointer (some ⟨g, 0, none⟩), .pointer (some ⟨g, 0, none⟩), .pointer (some ⟨g, 39, none⟩), v, .slice Ab m cb, .slice A1 n1 c1, .pointer (some ⟨g, 0, none⟩), .pointer (some ⟨g, 39, none⟩), .pointer (some ⟨g, 0, none⟩), .pointer (some ⟨g, 0, none⟩), .pointer (some ⟨g, 40, none⟩), .pointer (some ⟨g, 0, none⟩), .pointer (some ⟨g, 0, none⟩), .pointer (some ⟨g, 39, none⟩), .slice A1 n1 c1, .int .i64 (n1 : Int), .pointer (some ⟨g, 0, none⟩), .int .i64 (max size 0), .bool false, .bool false, .pointer (some ⟨g, 0, none⟩), .bool true, undef, undef, undef, undef, undef, undef, undef, undef, undef, undef, undef, undef, undef, undef, undef, undef, undef, undef], defers := [] }) (by kernel_rfl) (Hset.out.mono fun e w' h => ⟨h.1, h.2⟩) (by kernel_rfl) ?_
    intro W4 h4
    have h5 : W4 = w2.drew ∨ SettlePost g sum size (.slice A1 n1 c1) 0 sp false true w2.drew (.returned (.bool true)) W4 := .inr ⟨rfl, h4⟩
    refine ⟨h5, ?_⟩
    refine rg_pure 11 (oi := { dst := some 28, op := Op.pick (Operand.tmp 25) (Operand.const (Value.bool true)) (Operand.tmp 27), type := 4, pos := "fetch.go:64", after := #[{ on := 8, ground := Ground.data }, { on := 10, ground := Ground.data }], guard := none }) (.bool true) ({ tmps := #[.pointer (some ⟨g, 0, none⟩), .slice Ab m cb, undef, undef, .nilIface, .pointer (some ⟨g, 0, none⟩), .pointer (some ⟨g, 0, none⟩), .pointer (some ⟨g, 0, none⟩), .pointer (some ⟨g, 39, none⟩), v, .slice Ab m cb, .slice A1 n1 c1, .pointer (some ⟨g, 0, none⟩), .pointer (some ⟨g, 39, none⟩), .pointer (some ⟨g, 0, none⟩), .pointer (some ⟨g, 0, none⟩), .pointer (some ⟨g, 40, none⟩), .pointer (some ⟨g, 0, none⟩), .pointer (some ⟨g, 0, none⟩), .pointer (some ⟨g, 39, none⟩), .slice A1 n1 c1, .int .i64 (n1 : Int), .pointer (some ⟨g, 0, none⟩), .int .i64 (max size 0), .bool false, .bool false, .pointer (some ⟨g, 0, none⟩), .bool true, .bool true, undef, undef, undef, undef, undef, undef, undef, undef, undef, undef, undef, undef, undef, undef, undef, undef, undef], defers := [] }) rfl (by kernel_rfl) (by kernel_rfl) (by kernel_rfl) (by kernel_rfl) (fun _ => by kernel_rfl) (by kernel_rfl) h5 ?_
    refine rg_done (by kernel_rfl) ⟨rfl, ?_⟩ _
    exact ⟨h4, rfl⟩
  · rintro a' W ⟨⟨hF4, hG4⟩, rfl⟩
    have HF4 := keep hF4
    have HG4 := keep hG4
    clear hF4 hG4
    go_wp2
    go_ret
    refine ⟨rfl, ⟨⟨.slice A1 n1 c1, HF4.out, ?_⟩⟩, HB2.out.drew.grown HG4.out (Nat.le_of_lt (Nat.lt_of_lt_of_le HF2.out.lt (Nat.le_refl _))) (fun k hk => by cases hk; exact Nat.le_refl _), HK2.out.drew.trans (KeptT.grown HG4.out)⟩
    rw [Hzs.out]
    have h5 := HO2.out.drew.grown HG4.out (own_neB HO2.out.drew)
    rw [Hn1.out] at h5
    exact h5
--]REG
end Go.Proofs.Ytmfgcdfemhaieaa
