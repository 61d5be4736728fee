/- The reading of a sum's text. -/
import Derived.Test.YtpgenmddanppoaaShaK
import Derived.Laws.Externs
namespace Go.Proofs.Ytpgenmddanppoaa
open Go.RowKit

/-- What a hexadecimal digit stands for; -1 for another byte. -/
def digP (c : Int) : Int := if 48 ≤ c ∧ c ≤ 57 then c - 48 else if 97 ≤ c ∧ c ≤ 102 then c - 87 else -1
def digS : ByteArray := ⟨#[48, 49, 50, 51, 52, 53, 54, 55, 56, 57, 97, 98, 99, 100, 101, 102]⟩
theorem first_dig : ∀ x : Fin 256, firstIdx digS (((x.val : Nat) : Int).toNat.toUInt8) = digP ((x.val : Nat) : Int) := by decide +kernel
theorem first_digP {c : Int} (h0 : 0 ≤ c) (h1 : c ≤ 255) : firstIdx digS c.toNat.toUInt8 = digP c := by
  have h := first_dig ⟨c.toNat, by omega⟩
  simp only at h
  have e : ((c.toNat : Nat) : Int) = c := by omega
  rwa [e] at h
theorem ext_byte {c : Int} (h0 : 0 ≤ c) (h1 : c ≤ 255) (W : World) : (callFunc 23 #[.string ⟨#[48, 49, 50, 51, 52, 53, 54, 55, 56, 57, 97, 98, 99, 100, 101, 102]⟩, .int .u8 c]).run Try.prog W = .ok (.value (.int .i64 (digP c))) W := by
  rw [run_callFunc_extern Try.func23 (by kernel_rfl) (by kernel_rfl) (by kernel_rfl) (e := Extern.BytealgIndexByte.indexByte) (by kernel_rfl), run_indexByte_string]
  have := first_digP h0 h1
  rw [digS] at this
  rw [this]
  rfl
theorem ixb_any {c : Int} (h0 : 0 ≤ c) (h1 : c ≤ 255) (w : World) :
    Calls Try.prog 17 #[.string ⟨#[48, 49, 50, 51, 52, 53, 54, 55, 56, 57, 97, 98, 99, 100, 101, 102]⟩, .int .u8 c] w fun e w' => e = .returned (.int .i64 (digP c)) ∧ w' = w := by
  have hx := ext_byte h0 h1 w
  generalize digP c = d at *
  go_enter Try.func17, Try.ntmps17
  go_wp2
  go_ret
  exact ⟨rfl, rfl⟩
/-- The byte at i. -/
def bAt (s : ByteArray) (i : Nat) : Int := ((s.data.toList.getD i 0).toNat : Nat)
theorem bAt_range (s : ByteArray) (i : Nat) : 0 ≤ bAt s i ∧ bAt s i ≤ 255 := by
  unfold bAt
  have := (s.data.toList.getD i 0).toNat_lt
  omega
theorem idx_str (W : World) (s : ByteArray) {i : Nat} (hi : i < s.size) : (Instr.index 9 (.string s) (.int .i64 (i : Int))).run Try.prog W = .ok (.int .u8 (bAt s i)) W := by
  have hu : (underlying 9).run Try.prog W = .ok .string W := by kernel_rfl
  have hb : ((s[i].toNat : Nat) : Int) = bAt s i := by
    obtain ⟨⟨l⟩⟩ := s
    have hi' : i < l.length := hi
    simp only [bAt, List.getD_eq_getElem?_getD, List.getElem?_eq_getElem hi', Option.getD_some]
    rfl
  simp [Instr.index, asIntOf, hu, hi, hb, Result.andThen]
/-- Whether the first i bytes are digits; the 32 bytes after i digits. -/
def okTo (s : ByteArray) : Nat → Bool
  | 0 => true
  | i + 1 => okTo s i && decide (0 ≤ digP (bAt s i))
def putP (k : List Int) (i : Nat) (d : Int) : List Int := k.set (i / 2) (bits BinOp.or IntKind.u8 (k.getD (i / 2) 0 * 16 % 256) d)
def parseTo (s : ByteArray) : Nat → List Int
  | 0 => List.replicate 32 0
  | i + 1 => putP (parseTo s i) i (digP (bAt s i))
theorem parseTo_length (s : ByteArray) (i : Nat) : (parseTo s i).length = 32 := by
  induction i with
  | zero => simp [parseTo]
  | succ i ih => simp [parseTo, putP, ih]
theorem ok_mono (s : ByteArray) {i j : Nat} (h : i ≤ j) (hj : okTo s j = true) : okTo s i = true := by
  induction j with
  | zero => obtain rfl : i = 0 := by omega
            exact hj
  | succ j ih =>
    rcases Nat.lt_or_ge j i with hlt | hge
    · obtain rfl : i = j + 1 := by omega
      exact hj
    · exact ih hge (by simp [okTo] at hj; exact hj.1)
def parseP (s : ByteArray) : List Int × Bool := if s.size = 64 ∧ okTo s 64 = true then (parseTo s 64, true) else (List.replicate 32 0, false)
def ParsePost (s : ByteArray) (w : World) (e : Ending) (w' : World) : Prop := e = .returned (.tuple #[.agg (bys (parseP s).1), .bool (parseP s).2]) ∧ Below w.heap.size w w'

abbrev zerosP : List Int := List.replicate 32 0
theorem digP_range (c : Int) : -1 ≤ digP c ∧ digP c ≤ 15 := by
  unfold digP
  split
  · omega
  · split <;> omega
theorem parse_short {s : ByteArray} (h : ¬s.size = 64) : parseP s = (zerosP, false) := by unfold parseP; rw [if_neg (fun h' => h h'.1)]
theorem parse_odd {s : ByteArray} {j : Nat} (hj : j < 64) (h : digP (bAt s j) < 0) : parseP s = (zerosP, false) := by
  have : ¬ okTo s 64 = true := fun h64 => by
    have := ok_mono s (i := j + 1) (by omega) h64
    simp only [okTo, Bool.and_eq_true, decide_eq_true_eq] at this
    omega
  unfold parseP; rw [if_neg (fun h' => this h'.2)]
theorem parse_good {s : ByteArray} (h : s.size = 64) (hk : okTo s 64 = true) : parseP s = (parseTo s 64, true) := by unfold parseP; rw [if_pos ⟨h, hk⟩]
theorem results_cell_slot {P : Program} {fn : Func} {p q : Tmp} {ty : TypeId} (h : fn.results = #[.cell p ty, .tmp q]) (tmps : Array Value) (w : World) (g : Nat) (t : TypeId) (cs : Array Value) (fr : Nat × Nat) (d : TypeDesc)
    (hp : tmps.getD p undef = .pointer (some ⟨g, 0, none⟩)) (hg : w.heap[g]? = some (.cells cs t fr))
    (hu : P.underlying ty = some d) (hd : (match d with | .struct _ | .array _ _ => true | _ => false) = true) (hi : (P.info? ty).map (·.size) = some cs.size) :
    (results fn tmps).run P w = .ok (.tuple #[.agg cs, tmps.getD q undef]) w := by
  have hp' : tmps[p]?.getD undef = .pointer (some ⟨g, 0, none⟩) := by simpa using hp
  simp [results, h, hp', asAddr, run_loadVar_row w g t ty cs fr d hg hu hd hi]
end Go.Proofs.Ytpgenmddanppoaa
