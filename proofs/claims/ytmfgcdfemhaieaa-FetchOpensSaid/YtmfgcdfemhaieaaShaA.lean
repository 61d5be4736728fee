/- SHA-256's small operations as the Go text has them: contracts of the rotations of both texts. -/
import Derived.Test.YtmfgcdfemhaieaaKit
namespace Go.Proofs.Ytmfgcdfemhaieaa
open Go.RowKit

/-- A word turned to the right: a is 2^(32-n), b is 2^n. -/
def rr (a b x : Int) : Int := bits BinOp.or IntKind.u32 (x * a % 4294967296) (x / b)
theorem or_comm32 (x y : Int) : bits BinOp.or IntKind.u32 x y = bits BinOp.or IntKind.u32 y x := by
  show IntKind.u32.wrap ((BitVec.ofInt 32 x ||| BitVec.ofInt 32 y).toNat : Int) = IntKind.u32.wrap ((BitVec.ofInt 32 y ||| BitVec.ofInt 32 x).toNat : Int)
  rw [BitVec.or_comm]

theorem rot_7 (x : Int) (w : World) :
    Calls Try.prog 63 #[.int .u32 x, .int .i64 (-7)] w fun e w' => e = .returned (.int .u32 (rr 33554432 128 x)) ∧ w' = w := by
  have hk : bits BinOp.and IntKind.u64 (IntKind.u64.wrap (-7)) 31 = 25 := by decide +kernel
  go_enter Try.func63, Try.ntmps63
  go_wp2
  go_ret
  exact ⟨rfl, rfl⟩
theorem rturn_7 (x : Int) (w : World) :
    Calls Try.prog 56 #[.int .u32 x, .int .i64 7] w fun e w' => e = .returned (.int .u32 (rr 33554432 128 x)) ∧ ∃ n, w' = w.drewN n := by
  have hc := or_comm32 (x / 128) (x * 33554432 % 4294967296)
  have hd : bits BinOp.or IntKind.u32 (x / 128) (x * 33554432 % 4294967296) = rr 33554432 128 x := hc
  clear hc
  have Hd := keep hd
  clear hd
  go_enter Try.func56, Try.ntmps56
  go_wp2
  go_quiet (fail)
  go_wp2
  go_ret
  exact ⟨by rw [← Hd.out]; rfl, _, rfl⟩
theorem rot_18 (x : Int) (w : World) :
    Calls Try.prog 63 #[.int .u32 x, .int .i64 (-18)] w fun e w' => e = .returned (.int .u32 (rr 16384 262144 x)) ∧ w' = w := by
  have hk : bits BinOp.and IntKind.u64 (IntKind.u64.wrap (-18)) 31 = 14 := by decide +kernel
  go_enter Try.func63, Try.ntmps63
  go_wp2
  go_ret
  exact ⟨rfl, rfl⟩
theorem rturn_18 (x : Int) (w : World) :
    Calls Try.prog 56 #[.int .u32 x, .int .i64 18] w fun e w' => e = .returned (.int .u32 (rr 16384 262144 x)) ∧ ∃ n, w' = w.drewN n := by
  have hc := or_comm32 (x / 262144) (x * 16384 % 4294967296)
  have hd : bits BinOp.or IntKind.u32 (x / 262144) (x * 16384 % 4294967296) = rr 16384 262144 x := hc
  clear hc
  have Hd := keep hd
  clear hd
  go_enter Try.func56, Try.ntmps56
  go_wp2
  go_quiet (fail)
  go_wp2
  go_ret
  exact ⟨by rw [← Hd.out]; rfl, _, rfl⟩
theorem rot_17 (x : Int) (w : World) :
    Calls Try.prog 63 #[.int .u32 x, .int .i64 (-17)] w fun e w' => e = .returned (.int .u32 (rr 32768 131072 x)) ∧ w' = w := by
  have hk : bits BinOp.and IntKind.u64 (IntKind.u64.wrap (-17)) 31 = 15 := by decide +kernel
  go_enter Try.func63, Try.ntmps63
  go_wp2
  go_ret
  exact ⟨rfl, rfl⟩
theorem rturn_17 (x : Int) (w : World) :
    Calls Try.prog 56 #[.int .u32 x, .int .i64 17] w fun e w' => e = .returned (.int .u32 (rr 32768 131072 x)) ∧ ∃ n, w' = w.drewN n := by
  have hc := or_comm32 (x / 131072) (x * 32768 % 4294967296)
  have hd : bits BinOp.or IntKind.u32 (x / 131072) (x * 32768 % 4294967296) = rr 32768 131072 x := hc
  clear hc
  have Hd := keep hd
  clear hd
  go_enter Try.func56, Try.ntmps56
  go_wp2
  go_quiet (fail)
  go_wp2
  go_ret
  exact ⟨by rw [← Hd.out]; rfl, _, rfl⟩
theorem rot_19 (x : Int) (w : World) :
    Calls Try.prog 63 #[.int .u32 x, .int .i64 (-19)] w fun e w' => e = .returned (.int .u32 (rr 8192 524288 x)) ∧ w' = w := by
  have hk : bits BinOp.and IntKind.u64 (IntKind.u64.wrap (-19)) 31 = 13 := by decide +kernel
  go_enter Try.func63, Try.ntmps63
  go_wp2
  go_ret
  exact ⟨rfl, rfl⟩
theorem rturn_19 (x : Int) (w : World) :
    Calls Try.prog 56 #[.int .u32 x, .int .i64 19] w fun e w' => e = .returned (.int .u32 (rr 8192 524288 x)) ∧ ∃ n, w' = w.drewN n := by
  have hc := or_comm32 (x / 524288) (x * 8192 % 4294967296)
  have hd : bits BinOp.or IntKind.u32 (x / 524288) (x * 8192 % 4294967296) = rr 8192 524288 x := hc
  clear hc
  have Hd := keep hd
  clear hd
  go_enter Try.func56, Try.ntmps56
  go_wp2
  go_quiet (fail)
  go_wp2
  go_ret
  exact ⟨by rw [← Hd.out]; rfl, _, rfl⟩
theorem rot_6 (x : Int) (w : World) :
    Calls Try.prog 63 #[.int .u32 x, .int .i64 (-6)] w fun e w' => e = .returned (.int .u32 (rr 67108864 64 x)) ∧ w' = w := by
  have hk : bits BinOp.and IntKind.u64 (IntKind.u64.wrap (-6)) 31 = 26 := by decide +kernel
  go_enter Try.func63, Try.ntmps63
  go_wp2
  go_ret
  exact ⟨rfl, rfl⟩
theorem rturn_6 (x : Int) (w : World) :
    Calls Try.prog 56 #[.int .u32 x, .int .i64 6] w fun e w' => e = .returned (.int .u32 (rr 67108864 64 x)) ∧ ∃ n, w' = w.drewN n := by
  have hc := or_comm32 (x / 64) (x * 67108864 % 4294967296)
  have hd : bits BinOp.or IntKind.u32 (x / 64) (x * 67108864 % 4294967296) = rr 67108864 64 x := hc
  clear hc
  have Hd := keep hd
  clear hd
  go_enter Try.func56, Try.ntmps56
  go_wp2
  go_quiet (fail)
  go_wp2
  go_ret
  exact ⟨by rw [← Hd.out]; rfl, _, rfl⟩
theorem rot_11 (x : Int) (w : World) :
    Calls Try.prog 63 #[.int .u32 x, .int .i64 (-11)] w fun e w' => e = .returned (.int .u32 (rr 2097152 2048 x)) ∧ w' = w := by
  have hk : bits BinOp.and IntKind.u64 (IntKind.u64.wrap (-11)) 31 = 21 := by decide +kernel
  go_enter Try.func63, Try.ntmps63
  go_wp2
  go_ret
  exact ⟨rfl, rfl⟩
theorem rturn_11 (x : Int) (w : World) :
    Calls Try.prog 56 #[.int .u32 x, .int .i64 11] w fun e w' => e = .returned (.int .u32 (rr 2097152 2048 x)) ∧ ∃ n, w' = w.drewN n := by
  have hc := or_comm32 (x / 2048) (x * 2097152 % 4294967296)
  have hd : bits BinOp.or IntKind.u32 (x / 2048) (x * 2097152 % 4294967296) = rr 2097152 2048 x := hc
  clear hc
  have Hd := keep hd
  clear hd
  go_enter Try.func56, Try.ntmps56
  go_wp2
  go_quiet (fail)
  go_wp2
  go_ret
  exact ⟨by rw [← Hd.out]; rfl, _, rfl⟩
theorem rot_25 (x : Int) (w : World) :
    Calls Try.prog 63 #[.int .u32 x, .int .i64 (-25)] w fun e w' => e = .returned (.int .u32 (rr 128 33554432 x)) ∧ w' = w := by
  have hk : bits BinOp.and IntKind.u64 (IntKind.u64.wrap (-25)) 31 = 7 := by decide +kernel
  go_enter Try.func63, Try.ntmps63
  go_wp2
  go_ret
  exact ⟨rfl, rfl⟩
theorem rturn_25 (x : Int) (w : World) :
    Calls Try.prog 56 #[.int .u32 x, .int .i64 25] w fun e w' => e = .returned (.int .u32 (rr 128 33554432 x)) ∧ ∃ n, w' = w.drewN n := by
  have hc := or_comm32 (x / 33554432) (x * 128 % 4294967296)
  have hd : bits BinOp.or IntKind.u32 (x / 33554432) (x * 128 % 4294967296) = rr 128 33554432 x := hc
  clear hc
  have Hd := keep hd
  clear hd
  go_enter Try.func56, Try.ntmps56
  go_wp2
  go_quiet (fail)
  go_wp2
  go_ret
  exact ⟨by rw [← Hd.out]; rfl, _, rfl⟩
theorem rot_2 (x : Int) (w : World) :
    Calls Try.prog 63 #[.int .u32 x, .int .i64 (-2)] w fun e w' => e = .returned (.int .u32 (rr 1073741824 4 x)) ∧ w' = w := by
  have hk : bits BinOp.and IntKind.u64 (IntKind.u64.wrap (-2)) 31 = 30 := by decide +kernel
  go_enter Try.func63, Try.ntmps63
  go_wp2
  go_ret
  exact ⟨rfl, rfl⟩
theorem rturn_2 (x : Int) (w : World) :
    Calls Try.prog 56 #[.int .u32 x, .int .i64 2] w fun e w' => e = .returned (.int .u32 (rr 1073741824 4 x)) ∧ ∃ n, w' = w.drewN n := by
  have hc := or_comm32 (x / 4) (x * 1073741824 % 4294967296)
  have hd : bits BinOp.or IntKind.u32 (x / 4) (x * 1073741824 % 4294967296) = rr 1073741824 4 x := hc
  clear hc
  have Hd := keep hd
  clear hd
  go_enter Try.func56, Try.ntmps56
  go_wp2
  go_quiet (fail)
  go_wp2
  go_ret
  exact ⟨by rw [← Hd.out]; rfl, _, rfl⟩
theorem rot_13 (x : Int) (w : World) :
    Calls Try.prog 63 #[.int .u32 x, .int .i64 (-13)] w fun e w' => e = .returned (.int .u32 (rr 524288 8192 x)) ∧ w' = w := by
  have hk : bits BinOp.and IntKind.u64 (IntKind.u64.wrap (-13)) 31 = 19 := by decide +kernel
  go_enter Try.func63, Try.ntmps63
  go_wp2
  go_ret
  exact ⟨rfl, rfl⟩
theorem rturn_13 (x : Int) (w : World) :
    Calls Try.prog 56 #[.int .u32 x, .int .i64 13] w fun e w' => e = .returned (.int .u32 (rr 524288 8192 x)) ∧ ∃ n, w' = w.drewN n := by
  have hc := or_comm32 (x / 8192) (x * 524288 % 4294967296)
  have hd : bits BinOp.or IntKind.u32 (x / 8192) (x * 524288 % 4294967296) = rr 524288 8192 x := hc
  clear hc
  have Hd := keep hd
  clear hd
  go_enter Try.func56, Try.ntmps56
  go_wp2
  go_quiet (fail)
  go_wp2
  go_ret
  exact ⟨by rw [← Hd.out]; rfl, _, rfl⟩
theorem rot_22 (x : Int) (w : World) :
    Calls Try.prog 63 #[.int .u32 x, .int .i64 (-22)] w fun e w' => e = .returned (.int .u32 (rr 1024 4194304 x)) ∧ w' = w := by
  have hk : bits BinOp.and IntKind.u64 (IntKind.u64.wrap (-22)) 31 = 10 := by decide +kernel
  go_enter Try.func63, Try.ntmps63
  go_wp2
  go_ret
  exact ⟨rfl, rfl⟩
theorem rturn_22 (x : Int) (w : World) :
    Calls Try.prog 56 #[.int .u32 x, .int .i64 22] w fun e w' => e = .returned (.int .u32 (rr 1024 4194304 x)) ∧ ∃ n, w' = w.drewN n := by
  have hc := or_comm32 (x / 4194304) (x * 1024 % 4294967296)
  have hd : bits BinOp.or IntKind.u32 (x / 4194304) (x * 1024 % 4294967296) = rr 1024 4194304 x := hc
  clear hc
  have Hd := keep hd
  clear hd
  go_enter Try.func56, Try.ntmps56
  go_wp2
  go_quiet (fail)
  go_wp2
  go_ret
  exact ⟨by rw [← Hd.out]; rfl, _, rfl⟩
end Go.Proofs.Ytmfgcdfemhaieaa
