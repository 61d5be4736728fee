/- The words of a block's rounds, in plain functions; small laws on a row of words. -/
import Derived.Test.YtmfgcdfemhaieaaShaA
namespace Go.Proofs.Ytmfgcdfemhaieaa
open Go.RowKit

def vals (xs : List Int) : Array Value := (xs.map (Value.int .u32)).toArray
def bxor (x y : Int) : Int := bits BinOp.xor IntKind.u32 x y
def band (x y : Int) : Int := bits BinOp.and IntKind.u32 x y
def wd (b0 b1 b2 b3 : Int) : Int := bits BinOp.or IntKind.u32 (bits BinOp.or IntKind.u32 (bits BinOp.or IntKind.u32 (b0 % 4294967296 * 16777216 % 4294967296) (b1 % 4294967296 * 65536 % 4294967296)) (b2 % 4294967296 * 256 % 4294967296)) (b3 % 4294967296)
def sg0 (x : Int) : Int := bits BinOp.xor IntKind.u32 (bits BinOp.xor IntKind.u32 (rr 33554432 128 x) (rr 16384 262144 x)) (x / 8)
def sg1 (x : Int) : Int := bits BinOp.xor IntKind.u32 (bits BinOp.xor IntKind.u32 (rr 32768 131072 x) (rr 8192 524288 x)) (x / 1024)
/-- The word that is set in round k. -/
def nextW (B : Nat → Int) (ws : List Int) (k : Nat) : Int :=
  if k < 16 then wd (B (4 * k)) (B (4 * k + 1)) (B (4 * k + 2)) (B (4 * k + 3))
  else (ws.getD (k - 16) 0 + sg0 (ws.getD (k - 15) 0) + ws.getD (k - 7) 0 + sg1 (ws.getD (k - 2) 0)) % 4294967296
def wordsTo (B : Nat → Int) : Nat → List Int
  | 0 => List.replicate 64 0
  | k + 1 => (wordsTo B k).set k (nextW B (wordsTo B k) k)
theorem wordsTo_length (B : Nat → Int) (k : Nat) : (wordsTo B k).length = 64 := by
  induction k with
  | zero => rfl
  | succ k ih => rw [wordsTo, List.length_set, ih]

/-- One round over the eight words. -/
def chf (e f g : Int) : Int := bits BinOp.xor IntKind.u32 (bits BinOp.and IntKind.u32 e f) (bits BinOp.and IntKind.u32 (bits BinOp.xor IntKind.u32 4294967295 e) g)
def bigS1 (e : Int) : Int := bits BinOp.xor IntKind.u32 (bits BinOp.xor IntKind.u32 (rr 67108864 64 e) (rr 2097152 2048 e)) (rr 128 33554432 e)
def bigS0 (a : Int) : Int := bits BinOp.xor IntKind.u32 (bits BinOp.xor IntKind.u32 (rr 1073741824 4 a) (rr 524288 8192 a)) (rr 1024 4194304 a)
def majf (a b c : Int) : Int := bits BinOp.xor IntKind.u32 (bits BinOp.xor IntKind.u32 (bits BinOp.and IntKind.u32 a b) (bits BinOp.and IntKind.u32 a c)) (bits BinOp.and IntKind.u32 b c)
def round1 (k w : Int) : List Int → List Int
  | [a, b, c, d, e, f, g, h] =>
    [(h + bigS1 e + chf e f g + k + w + (bigS0 a + majf a b c)) % 4294967296, a, b, c, (d + (h + bigS1 e + chf e f g + k + w)) % 4294967296, e, f, g]
  | s => s
def roundsTo (ks ws hs : List Int) : Nat → List Int
  | 0 => hs
  | k + 1 => round1 (ks.getD k 0) (ws.getD k 0) (roundsTo ks ws hs k)
theorem eight {s : List Int} (h : s.length = 8) : ∃ a b c d e f g i : Int, s = [a, b, c, d, e, f, g, i] := by
  match s, h with
  | [a, b, c, d, e, f, g, i], _ => exact ⟨a, b, c, d, e, f, g, i, rfl⟩
theorem roundsTo_length (ks ws hs : List Int) (h : hs.length = 8) (k : Nat) : (roundsTo ks ws hs k).length = 8 := by
  induction k with
  | zero => exact h
  | succ k ih =>
    obtain ⟨a, b, c, d, e, f, g, i, he⟩ := eight ih
    rw [roundsTo, he]
    rfl
/-- The words of a sum behind a block: the first k are added. -/
def addTo (st hs : List Int) : Nat → List Int
  | 0 => hs
  | k + 1 => (addTo st hs k).set k (((addTo st hs k).getD k 0 + st.getD k 0) % 4294967296)
theorem addTo_length (st hs : List Int) (k : Nat) : (addTo st hs k).length = hs.length := by
  induction k with
  | zero => rfl
  | succ k ih => rw [addTo, List.length_set, ih]
/-- A block's turn: the eight words behind it. -/
def turnP (ks : List Int) (B : Nat → Int) (hs : List Int) : List Int := addTo (roundsTo ks (wordsTo B 64) hs 64) hs 8
theorem turnP_length (ks : List Int) (B : Nat → Int) (hs : List Int) : (turnP ks B hs).length = hs.length := addTo_length _ _ _
theorem row_cell {W : World} {G : Nat} {t : TypeId} {ws : List Int} (h : W.heap[G]? = some (.cells (vals ws) t (0, 0))) {k : Nat} (hk : k < ws.length) : W.cell? ⟨G, k, none⟩ = some (.int .u32 (ws.getD k 0)) := by
  rw [cell_of_row W _ _ _ _ _ h]
  simp [vals, List.getElem?_eq_getElem hk, List.getD_eq_getElem?_getD]
theorem row_set {W : World} {G : Nat} {t : TypeId} {ws : List Int} (h : W.heap[G]? = some (.cells (vals ws) t (0, 0))) (k : Nat) (v : Int) : (W.setCell ⟨G, k, none⟩ (.int .u32 v)).heap[G]? = some (.cells (vals (ws.set k v)) t (0, 0)) := by
  rw [heap_setCell_same W G k _ t _ h]
  simp [vals, List.map_set]
theorem zeros64 : vals (List.replicate 64 0) = #[.int .u32 0, .int .u32 0, .int .u32 0, .int .u32 0, .int .u32 0, .int .u32 0, .int .u32 0, .int .u32 0, .int .u32 0, .int .u32 0, .int .u32 0, .int .u32 0, .int .u32 0, .int .u32 0, .int .u32 0, .int .u32 0, .int .u32 0, .int .u32 0, .int .u32 0, .int .u32 0, .int .u32 0, .int .u32 0, .int .u32 0, .int .u32 0, .int .u32 0, .int .u32 0, .int .u32 0, .int .u32 0, .int .u32 0, .int .u32 0, .int .u32 0, .int .u32 0, .int .u32 0, .int .u32 0, .int .u32 0, .int .u32 0, .int .u32 0, .int .u32 0, .int .u32 0, .int .u32 0, .int .u32 0, .int .u32 0, .int .u32 0, .int .u32 0, .int .u32 0, .int .u32 0, .int .u32 0, .int .u32 0, .int .u32 0, .int .u32 0, .int .u32 0, .int .u32 0, .int .u32 0, .int .u32 0, .int .u32 0, .int .u32 0, .int .u32 0, .int .u32 0, .int .u32 0, .int .u32 0, .int .u32 0, .int .u32 0, .int .u32 0, .int .u32 0] := rfl
theorem below_here {w W : World} (h : Below w.heap.size w W) (k : Nat) (v : Value) : Below w.heap.size w (W.setCell ⟨w.heap.size, k, none⟩ v) := h.setCell (Nat.le_refl _) _
end Go.Proofs.Ytmfgcdfemhaieaa
