/- An error's number, and what was done on the way to it. -/
import Derived.Test.YthamnnhpagllcaaDoorErrE
namespace Go.Proofs.YthamnnhpagllcaaDoor
open Go.RowKit Go.Extern.Stop Go.Stop Go.Extern

/-- A list of texts of one's own. -/
structure SO (W : World) (v : Value) (l : List ByteArray) : Prop where
  out : W.ownsRow 0 9 1 v l.length (l.map Value.string)
theorem SO.none_ (W : World) : SO W (.slice none 0 0) [] := ⟨⟨rfl, .inl ⟨rfl, rfl⟩⟩⟩
theorem SO.below {W W' : World} {v : Value} {l : List ByteArray} (h : SO W v l) (hb : Below W.heap.size W W') : SO W' v l := ⟨h.out.kept (below_grownBy hb none) (by cases v.ownBlock <;> simp)⟩
theorem SO.slice {W : World} {v : Value} {l : List ByteArray} (h : SO W v l) : ∃ A c, v = .slice A l.length c ∧ l.length ≤ c ∧ Reads W W.heap.size 1 A l.length (l.map Value.string) := by
  have h0 := h.out
  rcases h.out.2 with ⟨rfl, hn⟩ | ⟨g, cap, cur, rfl, _, _, hnc, _⟩
  · exact ⟨none, 0, by rw [hn], by omega, Reads.of_own (base := 0) (e := 9) (c := 0) (by rw [hn] at h0 ⊢; exact h0)⟩
  · exact ⟨_, cap, rfl, hnc, Reads.of_own h.out⟩
def FindPost (a : EA) (w : World) (e : Ending) (w' : World) : Prop := ∃ v, e = .returned (.tuple #[.int .i64 a.first, v, .bool true]) ∧ SO w' v a.ops ∧ Below w.heap.size w w'
theorem infoStr : (Tryd.prog.info? 9).map (fun i => (i.zero, i.size, i.bytes)) = some (some (.string ⟨#[]⟩), 1, 16) := by kernel_rfl
theorem below_of_grown {w w1 w' : World} {tb : Nat} (h1 : Below w.heap.size w w1) (hg : w1.grownBy w' (some tb)) (ht : w.heap.size ≤ tb) : Below w.heap.size w w' := h1.grown hg h1.size (fun k hk => by cases hk; exact ht)
set_option maxRecDepth 100000 in
set_option maxHeartbeats 4000000 in
theorem find_any {W : World} {B d k : Nat} {v : Value} {a : EA} (h : IsE W B d k v a) (hN : 5 ≤ B) (w : World) (hW : Below B W w) (hBz : B ≤ w.heap.size) (he : Env w) (hl : a.ops.length ≤ 100000) : Calls Tryd.prog 21 #[v] w (FindPost a w) := by
  induction h generalizing w with
  | num d n h0 h1 =>
    have hal : Below w.heap.size w (w.alloc (.cells #[.int .i64 0] 25)) := (Below.refl _ _).alloc (Nat.le_refl _) _
    have has := errAs_any (.num (W := W) (B := B) d n h0 h1) _ w.heap.size (.int .i64 0) (hW.trans (hal.mono hBz)) (Nat.le_trans hBz hal.size) hBz (he.below hal (Nat.le_trans hN hBz)) (heap_alloc_new w _)
    have hnil := ifaceNil 25 (.int .i64 n)
    have a1 := assertEF
    have a2 := assertEJ
    have Has := keep has
    have Hal := keep hal
    clear has he hW hal
    go_enter Tryd.func21, Tryd.ntmps21
    go_wp2_with fail
    refine Has.out.mono ?_
    rintro e w2 ⟨rfl, h2, hg2⟩
    have c2 := cell_of_row _ _ 0 _ _ _ h2
    have hlt2 := row_lt h2
    have hb2 := below_of_grown Hal.out hg2 (Nat.le_refl _)
    clear h2 hg2
    go_wp2_with fail
    go_ret3
    exact ⟨_, rfl, SO.none_ _, hb2⟩
  | fault d k b op nm x a hb hr hx ih =>
    have hal : Below w.heap.size w (w.alloc (.cells #[.int .i64 0] 25)) := (Below.refl _ _).alloc (Nat.le_refl _) _
    have has := errAs_any (.fault d k b op nm x a hb hr hx) _ w.heap.size (.int .i64 0) (hW.trans (hal.mono hBz)) (Nat.le_trans hBz hal.size) hBz (he.below hal (Nat.le_trans hN hBz)) (heap_alloc_new w _)
    have hnil := ifaceNil 39 (.pointer (some ⟨b, 0, none⟩))
    have a1 := assertFF
    have Has := keep has
    have Hal := keep hal
    have He := keep he
    have HW := keep hW
    have Hr := keep hr
    have Hih := keep ih
    simp only [List.length_cons] at hl
    clear has he hW hal hr ih hx
    go_enter Tryd.func21, Tryd.ntmps21
    go_wp2_with fail
    refine Has.out.mono ?_
    rintro e w2 ⟨rfl, h2, hg2⟩
    have hb2 := below_of_grown Hal.out hg2 (Nat.le_refl _)
    have hW2 := HW.out.trans (hb2.mono hBz)
    have hr2 := (hW2.block _ hb).trans Hr.out
    have c0 := cell_of_row _ _ 0 _ _ _ hr2
    have c2 := cell_of_row _ _ 2 _ _ _ hr2
    have hltb := row_lt hr2
    have hrec := Hih.out w2 hW2 (Nat.le_trans hBz hb2.size) (He.out.below hb2 (Nat.le_trans hN hBz)) (by omega)
    have Hb2 := keep hb2
    have Hrec := keep hrec
    have Hr2 := keep hr2
    clear h2 hg2 hW2 hrec hb2 hr2
    go_wp2_with fail
    refine Hrec.out.mono ?_
    rintro e w3 ⟨v3, rfl, hS3, hB3⟩
    have hr3 := (hB3.block _ hltb).trans Hr2.out
    have k0 : w3.cell? ⟨b, 0, none⟩ = some (.string op) := cell_of_row _ _ 0 _ _ _ hr3
    have hlt3 := row_lt hr3
    have hal3 : Below w3.heap.size w3 (w3.alloc (.cells #[.string op] 9)) := (Below.refl _ _).alloc (Nat.le_refl _) _
    obtain ⟨A3, c3, rfl, hc3, hR3⟩ := hS3.slice
    have hR4 := hR3.alloc (Nat.le_refl _) (.cells #[.string op] 9)
    obtain ⟨i0, hi, hzz⟩ := Option.map_eq_some_iff.1 infoStr
    simp only [Prod.mk.injEq] at hzz
    obtain ⟨hz0, hz1, hz2⟩ := hzz
    have hown : (w3.alloc (.cells #[.string op] 9)).ownsRow w3.heap.size 9 1 (.slice (some ⟨w3.heap.size, 0, none⟩) 1 1) 1 [.string op] :=
      ⟨rfl, .inr ⟨w3.heap.size, 1, #[.string op], rfl, Nat.le_refl _, heap_alloc_new w3 _, Nat.le_refl _, by decide, rfl, rfl⟩⟩
    have hone : ∀ u ∈ a.ops.map Value.string, u.oneCell' = true := by
      intro u hu
      obtain ⟨s, _, rfl⟩ := List.mem_map.1 hu
      rfl
    have Hb3 := keep (Hb2.out.trans (hB3.mono Hb2.out.size))
    have HR4 := keep hR4
    have Hi := keep hi
    have Hz0 := keep hz0
    have Hz1 := keep hz1
    have Hz2 := keep hz2
    have Hown := keep hown
    have Hone := keep hone
    have Hal3 := keep hal3
    have hsz : w3.heap.size ≤ (w3.alloc (.cells #[.string op] 9)).heap.size := by simp
    have Hsz := keep hsz
    obtain ⟨L, hL⟩ : ∃ L, a.ops.length = L := ⟨_, rfl⟩
    rw [hL] at HR4 hc3 hl
    rw [hL]
    have HL := keep hL
    clear hR3 hR4 hi hz0 hz1 hz2 hown hone hB3 hr3 hal3 hS3 hsz hL
    go_wp2_with (at_builtin; refine wpList_append_any _ rfl (.tmp 42) (.tmp 43) 29 rfl w3.heap.size 9 i0 (.string ⟨#[]⟩) 1 16 Tryd.underlying29 Hi.out Hz0.out Hz1.out Hz2.out rfl (by omega) (.slice (some ⟨w3.heap.size, 0, none⟩) 1 1) 1 [.string op] rfl Hown.out w3.heap.size A3 L c3 (a.ops.map Value.string) rfl HR4.out Hone.out (by simp only [maxLen]; omega) (by omega) Hsz.out ?_)
    intro v5 w5 ho5 hg5 hv5
    have hb5 : Below w.heap.size w w5 := Hb3.out.trans (((Hal3.out).grown hg5 Hal3.out.size (fun k hk => by
      have : w3.heap.size = k := by simpa [Value.ownBlock] using hk
      omega)).mono Hb3.out.size)
    have hso : SO w5 v5 (op :: a.ops) := by
      refine ⟨?_⟩
      rw [List.length_cons, HL.out, Nat.add_comm, List.map_cons]
      rcases ho5 with ⟨q1, q2⟩
      refine ⟨q1, ?_⟩
      rcases q2 with q2 | ⟨g, cap, cur, y1, _, y2⟩
      · exact .inl q2
      · exact .inr ⟨g, cap, cur, y1, Nat.zero_le _, y2⟩
    have Hso := keep hso
    have Hb5 := keep hb5
    clear ho5 hg5 hv5 hso hb5
    go_wp2_with fail
    go_ret3
    exact ⟨_, rfl, Hso.out, Hb5.out⟩
  | joined d b r o len c ks xs es hb hrb hr hlen hlc hm hc hx ih =>
    have hal : Below w.heap.size w (w.alloc (.cells #[.int .i64 0] 25)) := (Below.refl _ _).alloc (Nat.le_refl _) _
    have has := errAs_any (.joined d b r o len c ks xs es hb hrb hr hlen hlc hm hc hx) _ w.heap.size (.int .i64 0) (hW.trans (hal.mono hBz)) (Nat.le_trans hBz hal.size) hBz (he.below hal (Nat.le_trans hN hBz)) (heap_alloc_new w _)
    have hnil := ifaceNil 58 (.pointer (some ⟨b, 0, none⟩))
    have a1 := assertJF
    have a2 := assertJJ
    have Has := keep has
    have Hal := keep hal
    have He := keep he
    have HW := keep hW
    have Hr := keep hr
    have Hc := keep (hc 0 hlen)
    have Hih := keep ih
    clear has he hW hal hr ih hx hc
    go_enter Tryd.func21, Tryd.ntmps21
    go_wp2_with fail
    refine Has.out.mono ?_
    rintro e w2 ⟨rfl, h2, hg2⟩
    have hb2 := below_of_grown Hal.out hg2 (Nat.le_refl _)
    have hW2 := HW.out.trans (hb2.mono hBz)
    have hr2 := (hW2.block _ hb).trans Hr.out
    have c0 := cell_of_row _ _ 0 _ _ _ hr2
    have hltb := row_lt hr2
    have cx : w2.cell? ⟨r, o, none⟩ = some (xs 0) := (hW2.cell (p := ⟨r, o, none⟩) hrb).trans Hc.out
    have hpos : (0 : Int) < (len : Int) := by omega
    have hrec := Hih.out 0 hlen w2 hW2 (Nat.le_trans hBz hb2.size) (He.out.below hb2 (Nat.le_trans hN hBz)) hl
    have Hb2 := keep hb2
    have Hrec := keep hrec
    clear h2 hg2 hW2 hrec hb2 hr2
    go_wp2_with fail
    refine wp_loop_rounds 1 ?_
    rw [rounds_succ]
    go_wp2_with fail
    refine Hrec.out.mono ?_
    rintro e w3 ⟨v3, rfl, hS3, hB3⟩
    have Hb3 := keep (Hb2.out.trans (hB3.mono Hb2.out.size))
    have HS3 := keep hS3
    clear hS3 hB3
    go_wp2_with fail
    go_ret3
    exact ⟨_, rfl, HS3.out, Hb3.out⟩
set_option maxRecDepth 100000 in
theorem find_nil (w : World) : Calls Tryd.prog 21 #[.nilIface] w fun e w' => e = .returned (.tuple #[.int .i64 0, .slice none 0 0, .bool false]) ∧ Below w.heap.size w w' := by
  have hnil : ∀ w, (binOp .eql 27 .nilIface .nilIface).run Tryd.prog w = .ok (.bool true) w := fun w => by kernel_rfl
  go_enter Tryd.func21, Tryd.ntmps21
  go_wp2_with fail
  go_ret3
  exact ⟨rfl, (Below.refl _ _).alloc (Nat.le_refl _) _⟩
set_option maxRecDepth 100000 in
theorem code_any {W : World} {B d k : Nat} {v : Value} {a : EA} (h : IsE W B d k v a) (hN : 5 ≤ B) (w : World) (hW : Below B W w) (hBz : B ≤ w.heap.size) (he : Env w) (hl : a.ops.length ≤ 100000) : Calls Tryd.prog 11 #[v] w fun e w' => e = .returned (.int .i64 a.first) ∧ Below w.heap.size w w' := by
  have hf := keep (find_any h hN w hW hBz he hl)
  clear h hW he
  go_enter Tryd.func11, Tryd.ntmps11
  go_wp2_with fail
  refine hf.out.mono ?_
  rintro e w1 ⟨v1, rfl, hS, hB⟩
  go_wp2_with fail
  go_ret
  exact ⟨rfl, hB⟩
set_option maxRecDepth 100000 in
theorem ops_any {W : World} {B d k : Nat} {v : Value} {a : EA} (h : IsE W B d k v a) (hN : 5 ≤ B) (w : World) (hW : Below B W w) (hBz : B ≤ w.heap.size) (he : Env w) (hl : a.ops.length ≤ 100000) : Calls Tryd.prog 13 #[v] w fun e w' => ∃ u, e = .returned u ∧ SO w' u a.ops ∧ Below w.heap.size w w' := by
  have hf := keep (find_any h hN w hW hBz he hl)
  clear h hW he
  go_enter Tryd.func13, Tryd.ntmps13
  go_wp2_with fail
  refine hf.out.mono ?_
  rintro e w1 ⟨v1, rfl, hS, hB⟩
  have HS := keep hS
  clear hS
  go_wp2_with fail
  go_ret
  exact ⟨_, rfl, HS.out, hB⟩
set_option maxRecDepth 100000 in
theorem code_nil (w : World) : Calls Tryd.prog 11 #[.nilIface] w fun e w' => e = .returned (.int .i64 0) ∧ Below w.heap.size w w' := by
  have hf := keep (find_nil w)
  go_enter Tryd.func11, Tryd.ntmps11
  go_wp2_with fail
  refine hf.out.mono ?_
  rintro e w1 ⟨rfl, hB⟩
  go_wp2_with fail
  go_ret
  exact ⟨rfl, hB⟩
set_option maxRecDepth 100000 in
theorem ops_nil (w : World) : Calls Tryd.prog 13 #[.nilIface] w fun e w' => e = .returned (.slice none 0 0) ∧ Below w.heap.size w w' := by
  have hf := keep (find_nil w)
  go_enter Tryd.func13, Tryd.ntmps13
  go_wp2_with fail
  refine hf.out.mono ?_
  rintro e w1 ⟨rfl, hB⟩
  go_wp2_with fail
  go_ret
  exact ⟨rfl, hB⟩
end Go.Proofs.YthamnnhpagllcaaDoor
